/- The plain law of FnExactIsLoot: what the printed functions compute answers true at every input within the bounds that the print tells. -/
import Derived.Test.YtbchfajbobploaaMAx5
import Derived.Test.YtbchfajbobploaaLib
namespace Go.Proofs.Ytbchfajbobploaa.Pure
open Go.RowKit Go.Proofs.Ytbchfajbobploaa.MA Go.Proofs.YtbchfajbobploaaW.PrintWords Go.Proofs.YtbchfajbobploaaW.PrintLast Go.Proofs.YtbchfajbobploaaW.PrintMore Go.Proofs.Ytbchfajbobploaa.Lib
set_option linter.unusedVariables false
set_option linter.unusedSimpArgs false

theorem spec_in (a b c : Int) : spec_l1In.f a b c = some (decide (b ≤ a ∧ a ≤ c)) := by
  unfold spec_l1In.f
  by_cases h : a ≥ b
  · rw [if_pos h]; simp [show b ≤ a from h]
  · rw [if_neg h]; simp [show ¬ b ≤ a from h]
theorem impl_in (a b c : Int) : impl_within.f a b c = some (decide (b ≤ a ∧ a ≤ c)) := by
  unfold impl_within.f
  by_cases h : a ≥ b
  · rw [if_pos h]; simp [show b ≤ a from h]
  · rw [if_neg h]; simp [show ¬ b ≤ a from h]

theorem toIntS_l0 (xs : List Int) (hx : xs.length ≤ 35184372088832) : ∀ i : Nat, i ≤ xs.length → ∀ ys : List Int, ys.length = xs.length → (∀ j : Nat, j < i → ys.getD j 0 = xs.getD j 0) → Ev (fun k => laws_toIntS.l0 k xs ys i) xs := by
  refine down xs.length ?_ ?_
  · intro ys hl hy
    refine succ ?_
    simp only [laws_toIntS.l0]
    refine neg (by omega) (conv (now _) ?_)
    refine List.ext_getElem hl (fun j h1 h2 => ?_)
    have := hy j h2
    simpa [h1, h2] using this
  · intro i hi ih ys hl hy
    refine succ ?_
    simp only [laws_toIntS.l0]
    rw [wnat (by omega)]
    refine pos (by omega) (pos (by omega) (pos (by omega) ?_))
    refine ih _ (by simp [hl]) (fun j hj => ?_)
    simp only [Int.toNat_natCast, rd_nat]
    by_cases e : j = i
    · subst e
      simp [hl, hi]
    · rw [List.getD_eq_getElem?_getD, List.getElem?_set_ne (Ne.symm e), ← List.getD_eq_getElem?_getD]
      exact hy j (by omega)
theorem toIntS_f (xs : List Int) (hx : xs.length ≤ 35184372088832) : Ev (fun k => laws_toIntS.f k xs) xs := by
  unfold laws_toIntS.f
  refine pos (by omega) (pos (by omega) ?_)
  exact toIntS_l0 xs hx 0 (by omega) _ (by simp) (fun j hj => by omega)
theorem eqIntS_l0 (xs ys : List Int) (hx : xs.length ≤ 35184372088832) (hl : xs.length = ys.length) : ∀ i : Nat, i ≤ xs.length → Ev (fun k => laws_eqIntS.l0 k xs ys i) (decide (xs.drop i = ys.drop i)) := by
  refine down xs.length ?_ ?_
  · refine succ ?_
    simp only [laws_eqIntS.l0]
    exact neg (by omega) (conv (now _) (by simp [hl]))
  · intro i hi ih
    refine succ ?_
    simp only [laws_eqIntS.l0]
    rw [wnat (by omega)]
    refine pos (by omega) (pos (by omega) (pos (by omega) ?_))
    rw [rd_lt xs i hi, rd_lt ys i (by omega)]
    by_cases e : xs[i] = ys[i]'(by omega)
    · exact pos e (conv ih (by rw [decide_eq_decide, drop_iff hi (by omega)]; exact ⟨fun h => ⟨e, h⟩, fun h => h.2⟩))
    · exact neg e (conv (now _) (Eq.symm (decide_eq_false (by rw [drop_iff hi (by omega)]; exact fun h => e h.1))))
theorem eqIntS_f (xs ys : List Int) (hx : xs.length ≤ 35184372088832) : Ev (fun k => laws_eqIntS.f k xs ys) (decide (xs = ys)) := by
  unfold laws_eqIntS.f
  by_cases e : xs.length = ys.length
  · exact pos (by omega) (conv (eqIntS_l0 xs ys hx e 0 (by omega)) (by simp))
  · exact neg (by omega) (conv (now _) (by simp; intro h; exact e (by rw [h])))
theorem eqIntS_same (xs : List Int) (hx : xs.length ≤ 35184372088832) : Ev (fun k => laws_eqIntS.f k xs xs) true := conv (eqIntS_f xs xs hx) (by simp)

theorem spec_l1All_l0 (xs : List Int) (a b : Int) (hx : xs.length ≤ 35184372088832) : ∀ i : Nat, i ≤ xs.length → Ev (fun k => spec_l1All.l0 k a b xs xs.length i) (decide (∀ x ∈ xs.drop i, a ≤ x ∧ x ≤ b)) := by
  refine down xs.length ?_ ?_
  · refine succ ?_
    simp only [spec_l1All.l0]
    exact neg (by omega) (conv (now _) (by simp))
  · intro i hi ih
    refine succ ?_
    simp only [spec_l1All.l0, spec_in, Option.bind_some]
    rw [wnat (by omega)]
    refine pos (by omega) (pos (by omega) (pos (by omega) ?_))
    rw [rd_lt xs i hi]
    by_cases e : a ≤ xs[i] ∧ xs[i] ≤ b
    · exact pos (by simpa using e) (conv ih (by rw [decide_eq_decide, all_drop hi]; exact ⟨fun h => ⟨e, h⟩, fun h => h.2⟩))
    · exact neg (by simpa using e) (conv (now _) (Eq.symm (decide_eq_false (by rw [all_drop hi]; exact fun h => e h.1))))
theorem spec_l1All_f (xs : List Int) (a b : Int) (hx : xs.length ≤ 35184372088832) : Ev (fun k => spec_l1All.f k xs a b) (decide (∀ x ∈ xs, a ≤ x ∧ x ≤ b)) :=
  spec_l1All_l0 xs a b hx 0 (by omega)

theorem impl_allWithin_l0 (xs : List Int) (a b : Int) (hx : xs.length ≤ 35184372088832) : ∀ i : Nat, i ≤ xs.length → Ev (fun k => impl_allWithin.l0 k a b xs xs.length i) (decide (∀ x ∈ xs.drop i, a ≤ x ∧ x ≤ b)) := by
  refine down xs.length ?_ ?_
  · refine succ ?_
    simp only [impl_allWithin.l0]
    exact neg (by omega) (conv (now _) (by simp))
  · intro i hi ih
    refine succ ?_
    simp only [impl_allWithin.l0, impl_in, Option.bind_some]
    rw [wnat (by omega)]
    refine pos (by omega) (pos (by omega) (pos (by omega) ?_))
    rw [rd_lt xs i hi]
    by_cases e : a ≤ xs[i] ∧ xs[i] ≤ b
    · exact pos (by simpa using e) (conv ih (by rw [decide_eq_decide, all_drop hi]; exact ⟨fun h => ⟨e, h⟩, fun h => h.2⟩))
    · exact neg (by simpa using e) (conv (now _) (Eq.symm (decide_eq_false (by rw [all_drop hi]; exact fun h => e h.1))))
theorem impl_allWithin_f (xs : List Int) (a b : Int) (hx : xs.length ≤ 35184372088832) : Ev (fun k => impl_allWithin.f k xs a b) (decide (∀ x ∈ xs, a ≤ x ∧ x ≤ b)) :=
  impl_allWithin_l0 xs a b hx 0 (by omega)

theorem spec_ring (n : Int) (r : Bool) : spec_rwRing.f n r = some (r && decide (n > 2)) := by
  unfold spec_rwRing.f; cases r <;> simp
theorem impl_ring (n : Int) (r : Bool) : impl_isRing.f n r = some (r && decide (n > 2)) := by
  unfold impl_isRing.f; cases r <;> simp

theorem spec_abs (n : Int) (h1 : -9223372036854775808 < n) (h2 : n ≤ 9223372036854775807) : spec_l1Abs.f n = some (n.natAbs : Int) := by
  unfold spec_l1Abs.f spec_l1Most.f
  rw [w64 (by omega) (by omega)]
  by_cases h : n > -n
  · rw [if_pos h]; simp; omega
  · rw [if_neg h]; simp; omega
/-- Neighbours, of n houses. -/
def nbr (n a b : Int) (ring : Bool) : Bool := decide ((a - b).natAbs = 1) || (ring && decide (n > 2) && decide (((a - b).natAbs : Int) = n - 1))
theorem spec_next (n a b : Int) (ring : Bool) (hn : 0 ≤ n) (hn2 : n ≤ 9223372036854775807) (h1 : -9223372036854775808 < a - b) (h2 : a - b ≤ 9223372036854775807) : spec_rwNext.f n a b ring = some (nbr n a b ring) := by
  unfold spec_rwNext.f nbr
  rw [w64 (by omega) (by omega), spec_abs _ (by omega) (by omega), spec_ring]
  simp only [Option.bind_some]
  by_cases c : ((a - b).natAbs : Int) = 1
  · rw [if_pos c]; simp; omega
  · rw [if_neg c]
    have c' : ¬ (a - b).natAbs = 1 := by omega
    rw [w64 (by omega) (by omega)]
    cases ring
    · simp [c']
    · by_cases d : n > 2
      · simp only [d, c', decide_true, decide_false, Bool.and_self, Bool.true_and, Bool.false_or, if_true]
        congr 1
      · simp [d, c']

theorem index_l0 (xs : List Int) (v : Int) (hx : xs.length ≤ 35184372088832) : ∀ i : Nat, i ≤ xs.length → ∃ r, Ev (fun k => slices_Index_int_int.l0 k xs v xs.length i) r ∧ (0 ≤ r ↔ v ∈ xs.drop i) := by
  refine down xs.length ?_ ?_
  · refine ⟨-1, succ ?_, by simp⟩
    simp only [slices_Index_int_int.l0]
    exact neg (by omega) (now _)
  · rintro i hi ⟨r, ih, hr⟩
    by_cases c : v = xs[i]
    · refine ⟨i, succ ?_, ?_⟩
      · simp only [slices_Index_int_int.l0]
        rw [rd_lt xs i hi]
        exact pos (by omega) (pos (by omega) (pos (by omega) (pos c (now _))))
      · rw [List.drop_eq_getElem_cons hi, List.mem_cons]
        exact ⟨fun _ => .inl c, fun _ => by omega⟩
    · refine ⟨r, succ ?_, ?_⟩
      · simp only [slices_Index_int_int.l0]
        rw [rd_lt xs i hi, wnat (by omega)]
        exact pos (by omega) (pos (by omega) (pos (by omega) (neg c ih)))
      · rw [List.drop_eq_getElem_cons hi, List.mem_cons, hr]
        exact ⟨fun h => .inr h, fun h => h.resolve_left c⟩
theorem contains_f (xs : List Int) (v : Int) (hx : xs.length ≤ 35184372088832) : Ev (fun k => slices_Contains_int_int.f k xs v) (decide (v ∈ xs)) := by
  obtain ⟨r, h, hr⟩ := index_l0 xs v hx 0 (by omega)
  unfold slices_Contains_int_int.f slices_Index_int_int.f
  refine conv (bind h (now _)) ?_
  rw [decide_eq_decide]
  simpa using hr

/-- Rising numbers of houses. -/
def RisesFrom (xs : List Int) (a b : Int) (i : Nat) : Prop := ∀ j : Nat, i ≤ j → (h : j < xs.length) → (a ≤ xs[j] ∧ xs[j] ≤ b) ∧ (0 < j → xs[j - 1]'(by omega) < xs[j])
theorem risesFrom_end (xs : List Int) (a b : Int) : RisesFrom xs a b xs.length := fun j h1 h2 => by omega
theorem risesFrom_step (xs : List Int) (a b : Int) (i : Nat) (hi : i < xs.length) : RisesFrom xs a b i ↔ ((a ≤ xs[i] ∧ xs[i] ≤ b) ∧ (0 < i → xs[i - 1]'(by omega) < xs[i])) ∧ RisesFrom xs a b (i + 1) := by
  constructor
  · intro g; exact ⟨g i (Nat.le_refl _) hi, fun j h1 h2 => g j (by omega) h2⟩
  · rintro ⟨g, r⟩ j h1 h2
    by_cases e : j = i
    · subst e; exact g
    · exact r j (by omega) h2
open Classical in
theorem spec_l1Rising_l0 (xs : List Int) (a b : Int) (hx : xs.length ≤ 35184372088832) : ∀ i : Nat, i ≤ xs.length → Ev (fun k => spec_l1Rising.l0 k xs a b xs xs.length i) (decide (RisesFrom xs a b i)) := by
  refine down xs.length ?_ ?_
  · refine succ ?_
    simp only [spec_l1Rising.l0]
    exact neg (by omega) (conv (now _) (by simp [risesFrom_end]))
  · intro i hi ih
    refine succ ?_
    simp only [spec_l1Rising.l0, spec_in, Option.bind_some]
    rw [wnat (by omega), wsub1 (by omega)]
    refine pos (by omega) (pos (by omega) (pos (by omega) ?_))
    rw [rd_lt xs i hi]
    by_cases e : a ≤ xs[i] ∧ xs[i] ≤ b
    · refine pos (by simpa using e) ?_
      by_cases z : (i : Int) > 0
      · refine pos z (pos (by omega) (pos (by omega) ?_))
        have ei : (i : Int) - 1 = ((i - 1 : Nat) : Int) := by omega
        rw [ei, rd_lt xs (i - 1) (by omega)]
        by_cases f : xs[i - 1] ≥ xs[i]
        · refine pos f (conv (now _) (Eq.symm (decide_eq_false ?_)))
          rw [risesFrom_step xs a b i hi]
          intro g; have := g.1.2 (by omega); omega
        · refine neg f (conv ih ?_)
          rw [decide_eq_decide, risesFrom_step xs a b i hi]
          exact ⟨fun g => ⟨⟨e, fun _ => by omega⟩, g⟩, fun g => g.2⟩
      · refine neg z (conv ih ?_)
        rw [decide_eq_decide, risesFrom_step xs a b i hi]
        exact ⟨fun g => ⟨⟨e, fun _ => by omega⟩, g⟩, fun g => g.2⟩
    · refine neg (by simpa using e) (conv (now _) (Eq.symm (decide_eq_false ?_)))
      rw [risesFrom_step xs a b i hi]
      exact fun g => e g.1.1
/-- Strictly increasing from one on. -/
def IncFrom (xs : List Int) (i : Nat) : Prop := ∀ j : Nat, i ≤ j → 0 < j → (h : j < xs.length) → xs[j - 1]'(by omega) < xs[j]
theorem incFrom_step (xs : List Int) (i : Nat) (h0 : 0 < i) (hi : i < xs.length) : IncFrom xs i ↔ (xs[i - 1]'(by omega) < xs[i]) ∧ IncFrom xs (i + 1) := by
  constructor
  · intro g; exact ⟨g i (Nat.le_refl _) h0 hi, fun j h1 h2 h3 => g j (by omega) h2 h3⟩
  · rintro ⟨g, r⟩ j h1 h2 h3
    by_cases e : j = i
    · subst e; exact g
    · exact r j (by omega) h2 h3
open Classical in
theorem impl_increasing_f (xs : List Int) (hx : xs.length ≤ 35184372088832) : Ev (fun k => impl_increasing.f k xs) (decide (IncFrom xs 1)) := by
  have key : ∀ i : Nat, i ≤ xs.length → 1 ≤ i → Ev (fun k => impl_increasing.l0 k xs i) (decide (IncFrom xs i)) := by
    refine down xs.length ?_ ?_
    · intro _
      refine succ ?_
      simp only [impl_increasing.l0]
      exact neg (by omega) (conv (now _) (Eq.symm (decide_eq_true (fun j h1 h2 h3 => by omega))))
    · intro i hi ih h0
      refine succ ?_
      simp only [impl_increasing.l0]
      rw [wnat (by omega), wsub1 (by omega)]
      refine pos (by omega) (pos (by omega) (pos (by omega) (pos (by omega) ?_)))
      have ei : (i : Int) - 1 = ((i - 1 : Nat) : Int) := by omega
      rw [ei, rd_lt xs (i - 1) (by omega), rd_lt xs i hi]
      by_cases f : xs[i - 1] ≥ xs[i]
      · refine pos f (conv (now _) (Eq.symm (decide_eq_false ?_)))
        rw [incFrom_step xs i h0 hi]
        intro g; have := g.1; omega
      · refine neg f (conv (ih (by omega)) ?_)
        rw [decide_eq_decide, incFrom_step xs i h0 hi]
        exact ⟨fun g => ⟨by omega, g⟩, fun g => g.2⟩
  rcases Nat.lt_or_ge 0 xs.length with h | h
  · exact key 1 (by omega) (by omega)
  · unfold impl_increasing.f
    refine succ ?_
    simp only [impl_increasing.l0]
    exact neg (by omega) (conv (now _) (Eq.symm (decide_eq_true (fun j h1 h2 h3 => by omega))))
theorem rises_iff (xs : List Int) (a b : Int) : RisesFrom xs a b 0 ↔ IncFrom xs 1 ∧ ∀ x ∈ xs, a ≤ x ∧ x ≤ b := by
  constructor
  · intro g
    refine ⟨fun j h1 h2 h3 => (g j (by omega) h3).2 h2, fun x hx => ?_⟩
    obtain ⟨j, hj, rfl⟩ := List.getElem_of_mem hx
    exact (g j (by omega) hj).1
  · rintro ⟨g, r⟩ j h1 h2
    exact ⟨r _ (List.getElem_mem h2), fun h0 => g j (by omega) h0 h2⟩
theorem inc_lt {xs : List Int} (h : IncFrom xs 1) : ∀ j i : Nat, (hij : i < j) → (hj : j < xs.length) → xs[i]'(by omega) < xs[j] := by
  intro j
  induction j with
  | zero => intro i h1; omega
  | succ j ih =>
    intro i h1 hj
    have a := h (j + 1) (by omega) (by omega) hj
    simp only [Nat.add_sub_cancel] at a
    by_cases e : i = j
    · subst e; exact a
    · have := ih i (by omega) (by omega); omega
open Classical in
theorem areHouses_f (xs : List Int) (n : Nat) (hn : n ≤ 1048576) (hx : xs.length ≤ 35184372088832) : Ev (fun k => impl_areHouses.f k xs n) (decide (RisesFrom xs 0 ((n : Int) - 1) 0)) := by
  unfold impl_areHouses.f
  rw [wsub1 (by omega)]
  refine bind (impl_increasing_f xs hx) ?_
  by_cases c : IncFrom xs 1
  · refine pos (by simpa using c) ?_
    refine conv (bind (impl_allWithin_f xs 0 ((n : Int) - 1) hx) (now _)) ?_
    rw [decide_eq_decide, rises_iff]
    exact ⟨fun g => ⟨c, g⟩, fun g => g.2⟩
  · refine neg (by simpa using c) (conv (now _) (Eq.symm (decide_eq_false ?_)))
    rw [rises_iff]
    exact fun g => c g.1
/-- A pair of neighbours among the first i. -/
def Pair (n : Nat) (ring : Bool) (xs : List Int) : Prop := ∃ i j : Nat, ∃ h : i < xs.length, ∃ h' : j < i, nbr n xs[i] (xs[j]'(by omega)) ring = true
/-- Whether a house has a neighbour among those before it. -/
def HasB (n : Nat) (ring : Bool) (xs : List Int) (i : Nat) : Prop := ∃ j : Nat, ∃ h : i < xs.length, ∃ h' : j < i, nbr n xs[i] (xs[j]'(by omega)) ring = true
open Classical in
/-- What the loops of both tell from a house on. -/
noncomputable def tells (n : Nat) (ring : Bool) (xs : List Int) (i : Nat) : Bool × Bool := (decide (¬ ∃ a, i ≤ a ∧ HasB n ring xs a), true)
open Classical in
theorem spec_loop (vs xs : List Int) (ring : Bool) (hv : vs.length ≤ 20) (hx : xs.length ≤ 1048576) (hr : RisesFrom xs 0 ((vs.length : Int) - 1) 0) :
    ∀ i : Nat, i ≤ xs.length → Ev (fun k => spec_IsLoot.l0 k vs xs ring xs xs.length i) (tells vs.length ring xs i) := by
  have hb : ∀ x ∈ xs, 0 ≤ x ∧ x ≤ (vs.length : Int) - 1 := ((rises_iff _ _ _).1 hr).2
  refine down xs.length ?_ ?_
  · refine succ ?_
    simp only [spec_IsLoot.l0]
    refine neg (by omega) (conv (now _) ?_)
    unfold tells
    rw [Prod.mk.injEq]
    refine ⟨Eq.symm (decide_eq_true ?_), rfl⟩
    rintro ⟨a, ha, j, h, _⟩
    omega
  · intro i hi ih
    refine succ ?_
    simp only [spec_IsLoot.l0]
    refine pos (by omega) (pos (by omega) (pos (by omega) (pos (by omega) ?_)))
    simp only [Int.toNat_natCast]
    rw [rd_lt xs i hi]
    have hl : (xs.take i).length = i := by simp; omega
    have inner : ∀ j : Nat, j ≤ i → Ev (fun k => spec_IsLoot.l1 k vs xs ring xs[i] xs xs.length i (xs.take i) (xs.take i).length j)
        (if ∃ q, ∃ h : q < i, j ≤ q ∧ nbr vs.length xs[i] (xs[q]'(by omega)) ring = true then (false, true) else tells vs.length ring xs (i + 1)) := by
      refine down i ?_ ?_
      · refine succ ?_
        simp only [spec_IsLoot.l1]
        rw [wnat (by omega)]
        refine neg (by omega) (conv ih ?_)
        rw [if_neg (by rintro ⟨q, h, h', _⟩; omega)]
      · intro j hj ihj
        refine succ ?_
        simp only [spec_IsLoot.l1]
        rw [wnat (by omega)]
        refine pos (by omega) (pos (by omega) (pos (by omega) ?_))
        have e : rd (xs.take i) (j : Int) = xs[j]'(Nat.lt_trans hj hi) := by rw [rd_lt _ _ (by rw [hl]; exact hj), List.getElem_take]
        have b1 := hb _ (List.getElem_mem hi)
        have b2 := hb _ (List.getElem_mem (show j < xs.length from Nat.lt_trans hj hi))
        rw [e]
        refine bindSome (spec_next _ _ _ _ (by omega) (by omega) (by omega) (by omega)) ?_
        by_cases c : nbr vs.length xs[i] (xs[j]'(by omega)) ring = true
        · refine pos c (conv (now _) ?_)
          rw [if_pos ⟨j, hj, Nat.le_refl _, c⟩]
        · refine neg c (conv ihj ?_)
          congr 1
          rw [eq_iff_iff]
          constructor
          · rintro ⟨q, h, h', h''⟩; exact ⟨q, h, by omega, h''⟩
          · rintro ⟨q, h, h', h''⟩
            refine ⟨q, h, ?_, h''⟩
            rcases Nat.lt_or_ge j q with z | z
            · omega
            · obtain rfl : q = j := by omega
              exact absurd h'' c
    refine conv (inner 0 (by omega)) ?_
    unfold tells
    by_cases c : HasB vs.length ring xs i
    · obtain ⟨j, h, h', g⟩ := c
      rw [if_pos ⟨j, h', by omega, g⟩, Prod.mk.injEq]
      refine ⟨Eq.symm (decide_eq_false ?_), rfl⟩
      exact fun z => z ⟨i, Nat.le_refl _, j, h, h', g⟩
    · rw [if_neg, Prod.mk.injEq, decide_eq_decide]
      · refine ⟨?_, rfl⟩
        constructor
        · rintro z ⟨a, ha, hh⟩
          by_cases e : a = i
          · subst e; exact c hh
          · exact z ⟨a, by omega, hh⟩
        · rintro z ⟨a, ha, hh⟩; exact z ⟨a, by omega, hh⟩
      · rintro ⟨q, h, _, g⟩; exact c ⟨q, hi, h, g⟩

/-- One house right behind the one before it in the list. -/
def Next (xs : List Int) (i : Nat) : Prop := ∃ h : i < xs.length, 0 < i ∧ xs[i] = xs[i - 1]'(by omega) + 1
/-- Both ends of a ring. -/
def Both (n : Nat) (ring : Bool) (xs : List Int) : Prop := (ring = true ∧ n > 2) ∧ (0 : Int) ∈ xs ∧ (n : Int) - 1 ∈ xs
open Classical in
noncomputable def tells' (n : Nat) (ring : Bool) (xs : List Int) (i : Nat) : Bool × Bool := (decide (¬ (∃ a, i ≤ a ∧ Next xs a) ∧ ¬ Both n ring xs), true)
open Classical in
theorem impl_loop (vs xs : List Int) (ring : Bool) (h1 : 1 ≤ vs.length) (hv : vs.length ≤ 20) (hx : xs.length ≤ 1048576) (hr : RisesFrom xs 0 ((vs.length : Int) - 1) 0) :
    ∀ i : Nat, i ≤ xs.length → Ev (fun k => impl_IsLoot.l0 k vs xs ring xs xs.length i) (tells' vs.length ring xs i) := by
  have hb : ∀ x ∈ xs, 0 ≤ x ∧ x ≤ (vs.length : Int) - 1 := ((rises_iff _ _ _).1 hr).2
  refine down xs.length ?_ ?_
  · refine succ ?_
    simp only [impl_IsLoot.l0, impl_ring, Option.bind_some]
    refine neg (by omega) ?_
    have no : ¬ ∃ a, xs.length ≤ a ∧ Next xs a := by rintro ⟨a, ha, h, _⟩; omega
    rw [wsub1 (by omega)]
    by_cases c : (ring && decide ((vs.length : Int) > 2)) = true
    · have c' : ring = true ∧ vs.length > 2 := by simp only [Bool.and_eq_true, decide_eq_true_eq] at c; exact ⟨c.1, by omega⟩
      refine pos c (bind (contains_f xs 0 (by omega)) ?_)
      by_cases d : (0 : Int) ∈ xs
      · refine pos (by simpa using d) (bind (contains_f xs _ (by omega)) (conv (now _) ?_))
        unfold tells'
        rw [Prod.mk.injEq]
        refine ⟨?_, rfl⟩
        rw [← decide_not, decide_eq_decide]
        exact ⟨fun g => ⟨no, fun b => g b.2.2⟩, fun g m => g.2 ⟨c', d, m⟩⟩
      · refine neg (by simpa using d) (conv (now _) ?_)
        unfold tells'
        rw [Prod.mk.injEq]
        exact ⟨Eq.symm (decide_eq_true ⟨no, fun b => d b.2.1⟩), rfl⟩
    · refine neg c (conv (now _) ?_)
      unfold tells'
      rw [Prod.mk.injEq]
      refine ⟨Eq.symm (decide_eq_true ⟨no, fun b => c (by simp only [Bool.and_eq_true, decide_eq_true_eq]; exact ⟨b.1.1, by have := b.1.2; omega⟩)⟩), rfl⟩
  · intro i hi ih
    refine succ ?_
    simp only [impl_IsLoot.l0]
    rw [wnat (by omega), wsub1 (by omega)]
    refine pos (by omega) (pos (by omega) (pos (by omega) ?_))
    rw [rd_lt xs i hi]
    have go : (¬ Next xs i) → tells' vs.length ring xs (i + 1) = tells' vs.length ring xs i := by
      intro no
      unfold tells'
      rw [Prod.mk.injEq, decide_eq_decide]
      refine ⟨⟨fun g => ⟨?_, g.2⟩, fun g => ⟨?_, g.2⟩⟩, rfl⟩
      · rintro ⟨a, ha, hh⟩
        by_cases e : a = i
        · subst e; exact no hh
        · exact g.1 ⟨a, by omega, hh⟩
      · rintro ⟨a, ha, hh⟩; exact g.1 ⟨a, by omega, hh⟩
    by_cases z : (i : Int) > 0
    · refine pos z (pos (by omega) (pos (by omega) ?_))
      have ei : (i : Int) - 1 = ((i - 1 : Nat) : Int) := by omega
      have b2 := hb _ (List.getElem_mem (show i - 1 < xs.length by omega))
      rw [ei, rd_lt xs (i - 1) (by omega), w64 (by omega) (by omega)]
      by_cases f : xs[i] = xs[i - 1] + 1
      · refine pos f (conv (now _) ?_)
        unfold tells'
        rw [Prod.mk.injEq]
        exact ⟨Eq.symm (decide_eq_false (fun g => g.1 ⟨i, Nat.le_refl _, hi, by omega, f⟩)), rfl⟩
      · refine neg f (conv ih (go ?_))
        rintro ⟨h, h0, e⟩
        exact f e
    · refine neg z (conv ih (go ?_))
      rintro ⟨h, h0, e⟩
      omega
theorem same_tells (n : Nat) (ring : Bool) (xs : List Int) (hr : RisesFrom xs 0 ((n : Int) - 1) 0) : tells' n ring xs 0 = tells n ring xs 0 := by
  obtain ⟨hi, hb⟩ := (rises_iff _ _ _).1 hr
  unfold tells tells'
  rw [Prod.mk.injEq, decide_eq_decide]
  refine ⟨⟨?_, ?_⟩, rfl⟩
  · rintro ⟨h1, h2⟩ ⟨a, _, j, h, h', g⟩
    have lt := inc_lt hi a j h' h
    have b1 := hb _ (List.getElem_mem h)
    have b2 := hb _ (List.getElem_mem (show j < xs.length by omega))
    unfold nbr at g
    simp only [Bool.or_eq_true, Bool.and_eq_true, decide_eq_true_eq] at g
    rcases g with g | ⟨⟨g1, g2⟩, g3⟩
    · refine h1 ⟨a, by omega, h, by omega, ?_⟩
      by_cases e : j = a - 1
      · subst e; omega
      · have l1 := inc_lt hi (a - 1) j (by omega) (by omega)
        have l2 := inc_lt hi a (a - 1) (by omega) h
        omega
    · refine h2 ⟨⟨g1, by omega⟩, ?_, ?_⟩
      · have e : xs[j]'(by omega) = 0 := by omega
        rw [← e]; exact List.getElem_mem _
      · have e : xs[a] = (n : Int) - 1 := by omega
        rw [← e]; exact List.getElem_mem _
  · intro no
    refine ⟨?_, ?_⟩
    · rintro ⟨a, _, h, h0, e⟩
      refine no ⟨a, by omega, a - 1, h, by omega, ?_⟩
      unfold nbr
      simp only [Bool.or_eq_true, decide_eq_true_eq]
      left; omega
    · rintro ⟨⟨r1, r2⟩, m1, m2⟩
      obtain ⟨p, hp, e1⟩ := List.getElem_of_mem m1
      obtain ⟨q, hq, e2⟩ := List.getElem_of_mem m2
      have hpq : p < q := by
        rcases Nat.lt_trichotomy p q with l | l | l
        · exact l
        · subst l; omega
        · have := inc_lt hi p q l hp; omega
      refine no ⟨q, by omega, p, hq, hpq, ?_⟩
      unfold nbr
      simp only [Bool.or_eq_true, Bool.and_eq_true, decide_eq_true_eq]
      right
      exact ⟨⟨r1, by omega⟩, by omega⟩
theorem values_spec (vs : List Int) (hx : vs.length ≤ 35184372088832) : Ev (fun k => spec_rwValues.f k vs) (decide ((1 ≤ vs.length ∧ vs.length ≤ 20) ∧ ∀ x ∈ vs, 0 ≤ x ∧ x ≤ 1000)) := by
  unfold spec_rwValues.f spec_rwHouses.f
  simp only [spec_in, Option.bind_some]
  by_cases c : 1 ≤ (vs.length : Int) ∧ (vs.length : Int) ≤ 20
  · refine pos (by simpa using c) (conv (bind (spec_l1All_f vs 0 1000 hx) (now _)) ?_)
    rw [decide_eq_decide]
    exact ⟨fun g => ⟨by omega, g⟩, fun g => g.2⟩
  · refine neg (by simpa using c) (conv (now _) (Eq.symm (decide_eq_false (fun g => c (by omega)))))
theorem values_impl (vs : List Int) (hx : vs.length ≤ 35184372088832) : Ev (fun k => impl_areValues.f k vs) (decide ((1 ≤ vs.length ∧ vs.length ≤ 20) ∧ ∀ x ∈ vs, 0 ≤ x ∧ x ≤ 1000)) := by
  unfold impl_areValues.f impl_isRowLength.f
  simp only [impl_in, Option.bind_some]
  by_cases c : 1 ≤ (vs.length : Int) ∧ (vs.length : Int) ≤ 20
  · refine pos (by simpa using c) (conv (bind (impl_allWithin_f vs 0 1000 hx) (now _)) ?_)
    rw [decide_eq_decide]
    exact ⟨fun g => ⟨by omega, g⟩, fun g => g.2⟩
  · refine neg (by simpa using c) (conv (now _) (Eq.symm (decide_eq_false (fun g => c (by omega)))))
open Classical in
theorem both_same (vs xs : List Int) (ring : Bool) (hv : vs.length ≤ 1048576) (hx : xs.length ≤ 1048576) : ∃ v, Ev (fun k => spec_IsLoot.f k vs xs ring) v ∧ Ev (fun k => impl_IsLoot.f k vs xs ring) v := by
  unfold spec_IsLoot.f impl_IsLoot.f
  rw [wsub1 (by omega)]
  by_cases c : (1 ≤ vs.length ∧ vs.length ≤ 20) ∧ ∀ x ∈ vs, 0 ≤ x ∧ x ≤ 1000
  · by_cases d : RisesFrom xs 0 ((vs.length : Int) - 1) 0
    · refine ⟨tells vs.length ring xs 0, bind (values_spec vs (by omega)) (pos (by simpa using c) (bind (spec_l1Rising_l0 xs 0 _ (by omega) 0 (by omega)) (succ ?_))), bind (values_impl vs (by omega)) (pos (by simpa using c) (bind (areHouses_f xs vs.length (by omega) (by omega)) (succ ?_)))⟩
      · simp only [spec_IsLoot.j0]
        exact neg (by simp [d]) (spec_loop vs xs ring c.1.2 hx d 0 (by omega))
      · simp only [impl_IsLoot.j0]
        exact neg (by simp [d]) (conv (impl_loop vs xs ring c.1.1 c.1.2 hx d 0 (by omega)) (same_tells _ _ _ d))
    · refine ⟨(false, false), bind (values_spec vs (by omega)) (pos (by simpa using c) (bind (spec_l1Rising_l0 xs 0 _ (by omega) 0 (by omega)) (succ ?_))), bind (values_impl vs (by omega)) (pos (by simpa using c) (bind (areHouses_f xs vs.length (by omega) (by omega)) (succ ?_)))⟩
      · simp only [spec_IsLoot.j0]
        exact pos (by simp [d]) (now _)
      · simp only [impl_IsLoot.j0]
        exact pos (by simp [d]) (now _)
  · refine ⟨(false, false), bind (values_spec vs (by omega)) (neg (by simpa using c) (succ ?_)), bind (values_impl vs (by omega)) (neg (by simpa using c) (succ ?_))⟩
    · simp only [spec_IsLoot.j0]; exact now _
    · simp only [impl_IsLoot.j0]; exact now _
theorem FnExactIsLoot : laws_FnExactIsLoot.Pure := by
  intro vs xs ring _ _ _ _ _ _
  refine Ev.rounds ?_
  unfold laws_FnExactIsLoot.f
  by_cases h : (vs.length : Int) > 1048576
  · exact pos h (now _)
  by_cases h' : (xs.length : Int) > 1048576
  · exact neg h (pos h' (now _))
  refine neg h (neg h' ?_)
  have hl : vs.length ≤ 35184372088832 := by omega
  have hl' : xs.length ≤ 35184372088832 := by omega
  obtain ⟨v, h1, h2⟩ := both_same vs xs ring (by omega) (by omega)
  refine bind (toIntS_f vs hl) (bind (toIntS_f xs hl') (bind h1 (bind (toIntS_f vs hl) (bind (toIntS_f xs hl') (bind h2 ?_)))))
  refine neg (by simp) (succ ?_)
  simp only [laws_FnExactIsLoot.j0]
  refine neg (by simp) ?_
  exact bind (toIntS_f vs hl) (bind (eqIntS_same vs hl) (pos rfl (bind (toIntS_f xs hl') (bind (eqIntS_same xs hl') (pos rfl (now _))))))

end Go.Proofs.Ytbchfajbobploaa.Pure
