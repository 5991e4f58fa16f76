/- The plain law of FnExactLitBy: what the printed functions compute answers true at every input within the bounds that the print tells. -/
import Derived.Test.YtknookofgnandaaMAx3
import Derived.Test.YtknookofgnandaaLib
namespace Go.Proofs.Ytknookofgnandaa.Pure
open Go.RowKit Go.Proofs.Ytknookofgnandaa.MA Go.Proofs.YtknookofgnandaaW.PrintWords Go.Proofs.YtknookofgnandaaW.PrintLast Go.Proofs.YtknookofgnandaaW.PrintMore Go.Proofs.Ytknookofgnandaa.Lib
set_option linter.unusedVariables false
set_option linter.unusedSimpArgs false

theorem spec_in (a b c : Int) : spec_l1In.f a b c = some (decide (b ≤ a ∧ a ≤ c)) := by
  unfold spec_l1In.f
  by_cases h : a ≥ b
  · rw [if_pos h]; simp [show b ≤ a from h]
  · rw [if_neg h]; simp [show ¬ b ≤ a from h]
theorem impl_in (a b c : Int) : impl_within.f a b c = some (decide (b ≤ a ∧ a ≤ c)) := by
  unfold impl_within.f
  by_cases h : a ≥ b
  · rw [if_pos h]; simp [show b ≤ a from h]
  · rw [if_neg h]; simp [show ¬ b ≤ a from h]

/-- The signs of a row of lamps from one on. -/
def signsFrom (s : ByteArray) (i : Nat) : Prop := ∀ j : Nat, i ≤ j → j < s.size → bt s j = 35 ∨ bt s j = 46
theorem signsFrom_end (s : ByteArray) : signsFrom s s.size := fun j h1 h2 => by omega
theorem signsFrom_step (s : ByteArray) (i : Nat) (hi : i < s.size) (h : bt s i = 35 ∨ bt s i = 46) : signsFrom s i ↔ signsFrom s (i + 1) := by
  constructor
  · intro g j h1 h2; exact g j (by omega) h2
  · intro g j h1 h2
    by_cases e : j = i
    · subst e; exact h
    · exact g j (by omega) h2
theorem signsFrom_no (s : ByteArray) (i : Nat) (hi : i < s.size) (h1 : bt s i ≠ 35) (h2 : bt s i ≠ 46) : ¬ signsFrom s i := fun g => by
  rcases g i (Nat.le_refl _) hi with h | h <;> contradiction
/-- A row of lamps. -/
def LitRow (s : ByteArray) : Prop := (1 ≤ s.size ∧ s.size ≤ 20) ∧ signsFrom s 0
open Classical in
noncomputable def litRow (s : ByteArray) : Bool := decide (LitRow s)
open Classical in
theorem spec_rwRow_l0 (s : ByteArray) (hs : s.size ≤ 140737488351232) : ∀ i : Nat, i ≤ s.size → Ev (fun k => spec_rwRow.l0 k s i) (decide (signsFrom s i)) := by
  refine down s.size ?_ ?_
  · refine succ ?_
    simp only [spec_rwRow.l0]
    exact neg (by omega) (conv (now _) (by simp [signsFrom_end]))
  · intro i hi ih
    refine succ ?_
    simp only [spec_rwRow.l0]
    rw [wnat (by omega)]
    refine pos (by omega) (pos (by omega) ?_)
    by_cases c1 : bt s i = 35
    · exact pos c1 (conv ih (by simp [signsFrom_step s i hi (.inl c1)]))
    · refine neg c1 ?_
      by_cases c2 : bt s i = 46
      · exact pos c2 (conv ih (by simp [signsFrom_step s i hi (.inr c2)]))
      · exact neg c2 (conv (now _) (by simp [signsFrom_no s i hi c1 c2]))
open Classical in
theorem impl_IsLitRow_l0 (s : ByteArray) (hs : s.size ≤ 140737488351232) : ∀ i : Nat, i ≤ s.size → Ev (fun k => impl_IsLitRow.l0 k s s.size i) (decide (signsFrom s i) && decide (1 ≤ s.size ∧ s.size ≤ 20)) := by
  refine down s.size ?_ ?_
  · refine succ ?_
    simp only [impl_IsLitRow.l0]
    refine neg (by omega) ?_
    simp only [impl_isRowLength.f, impl_in, Option.bind_some]
    refine conv (now _) ?_
    rw [Bool.eq_iff_iff]; simp [signsFrom_end]; omega
  · intro i hi ih
    refine succ ?_
    simp only [impl_IsLitRow.l0]
    rw [wnat (by omega)]
    refine pos (by omega) (pos (by omega) (pos (by omega) ?_))
    by_cases c1 : bt s i = 35
    · exact pos c1 (conv ih (by simp [signsFrom_step s i hi (.inl c1)]))
    · refine neg c1 ?_
      by_cases c2 : bt s i = 46
      · exact pos c2 (conv ih (by simp [signsFrom_step s i hi (.inr c2)]))
      · exact neg c2 (conv (now _) (by simp [signsFrom_no s i hi c1 c2]))
open Classical in
theorem spec_rwRow_f (s : ByteArray) (hs : s.size ≤ 140737488351232) : Ev (fun k => spec_rwRow.f k s) (litRow s) := by
  simp only [spec_rwRow.f, spec_rwHouses.f, spec_in, Option.bind_some]
  by_cases h : 1 ≤ s.size ∧ s.size ≤ 20
  · refine pos (by simp; omega) (conv (spec_rwRow_l0 s hs 0 (by omega)) ?_)
    unfold litRow LitRow
    simp [h]
  · refine neg (by simp; omega) (conv (now _) ?_)
    unfold litRow LitRow
    simp [h]
open Classical in
theorem impl_IsLitRow_f (s : ByteArray) (hs : s.size ≤ 140737488351232) : Ev (fun k => impl_IsLitRow.f k s) (litRow s) := by
  unfold impl_IsLitRow.f
  refine conv (impl_IsLitRow_l0 s hs 0 (by omega)) ?_
  unfold litRow LitRow
  rw [Bool.eq_iff_iff]; simp
  constructor
  · rintro ⟨a, b⟩; exact ⟨b, a⟩
  · rintro ⟨a, b⟩; exact ⟨b, a⟩

theorem toIntS_l0 (xs : List Int) (hx : xs.length ≤ 35184372088832) : ∀ i : Nat, i ≤ xs.length → ∀ ys : List Int, ys.length = xs.length → (∀ j : Nat, j < i → ys.getD j 0 = xs.getD j 0) → Ev (fun k => laws_toIntS.l0 k xs ys i) xs := by
  refine down xs.length ?_ ?_
  · intro ys hl hy
    refine succ ?_
    simp only [laws_toIntS.l0]
    refine neg (by omega) (conv (now _) ?_)
    refine List.ext_getElem hl (fun j h1 h2 => ?_)
    have := hy j h2
    simpa [h1, h2] using this
  · intro i hi ih ys hl hy
    refine succ ?_
    simp only [laws_toIntS.l0]
    rw [wnat (by omega)]
    refine pos (by omega) (pos (by omega) (pos (by omega) ?_))
    refine ih _ (by simp [hl]) (fun j hj => ?_)
    simp only [Int.toNat_natCast, rd_nat]
    by_cases e : j = i
    · subst e
      simp [hl, hi]
    · rw [List.getD_eq_getElem?_getD, List.getElem?_set_ne (Ne.symm e), ← List.getD_eq_getElem?_getD]
      exact hy j (by omega)
theorem toIntS_f (xs : List Int) (hx : xs.length ≤ 35184372088832) : Ev (fun k => laws_toIntS.f k xs) xs := by
  unfold laws_toIntS.f
  refine pos (by omega) (pos (by omega) ?_)
  exact toIntS_l0 xs hx 0 (by omega) _ (by simp) (fun j hj => by omega)
theorem eqIntS_l0 (xs ys : List Int) (hx : xs.length ≤ 35184372088832) (hl : xs.length = ys.length) : ∀ i : Nat, i ≤ xs.length → Ev (fun k => laws_eqIntS.l0 k xs ys i) (decide (xs.drop i = ys.drop i)) := by
  refine down xs.length ?_ ?_
  · refine succ ?_
    simp only [laws_eqIntS.l0]
    exact neg (by omega) (conv (now _) (by simp [hl]))
  · intro i hi ih
    refine succ ?_
    simp only [laws_eqIntS.l0]
    rw [wnat (by omega)]
    refine pos (by omega) (pos (by omega) (pos (by omega) ?_))
    rw [rd_lt xs i hi, rd_lt ys i (by omega)]
    by_cases e : xs[i] = ys[i]'(by omega)
    · exact pos e (conv ih (by rw [decide_eq_decide, drop_iff hi (by omega)]; exact ⟨fun h => ⟨e, h⟩, fun h => h.2⟩))
    · exact neg e (conv (now _) (Eq.symm (decide_eq_false (by rw [drop_iff hi (by omega)]; exact fun h => e h.1))))
theorem eqIntS_f (xs ys : List Int) (hx : xs.length ≤ 35184372088832) : Ev (fun k => laws_eqIntS.f k xs ys) (decide (xs = ys)) := by
  unfold laws_eqIntS.f
  by_cases e : xs.length = ys.length
  · exact pos (by omega) (conv (eqIntS_l0 xs ys hx e 0 (by omega)) (by simp))
  · exact neg (by omega) (conv (now _) (by simp; intro h; exact e (by rw [h])))
theorem eqIntS_same (xs : List Int) (hx : xs.length ≤ 35184372088832) : Ev (fun k => laws_eqIntS.f k xs xs) true := conv (eqIntS_f xs xs hx) (by simp)

theorem impl_allWithin_l0 (xs : List Int) (a b : Int) (hx : xs.length ≤ 35184372088832) : ∀ i : Nat, i ≤ xs.length → Ev (fun k => impl_allWithin.l0 k a b xs xs.length i) (decide (∀ x ∈ xs.drop i, a ≤ x ∧ x ≤ b)) := by
  refine down xs.length ?_ ?_
  · refine succ ?_
    simp only [impl_allWithin.l0]
    exact neg (by omega) (conv (now _) (by simp))
  · intro i hi ih
    refine succ ?_
    simp only [impl_allWithin.l0, impl_in, Option.bind_some]
    rw [wnat (by omega)]
    refine pos (by omega) (pos (by omega) (pos (by omega) ?_))
    rw [rd_lt xs i hi]
    by_cases e : a ≤ xs[i] ∧ xs[i] ≤ b
    · exact pos (by simpa using e) (conv ih (by rw [decide_eq_decide, all_drop hi]; exact ⟨fun h => ⟨e, h⟩, fun h => h.2⟩))
    · exact neg (by simpa using e) (conv (now _) (Eq.symm (decide_eq_false (by rw [all_drop hi]; exact fun h => e h.1))))
theorem impl_allWithin_f (xs : List Int) (a b : Int) (hx : xs.length ≤ 35184372088832) : Ev (fun k => impl_allWithin.f k xs a b) (decide (∀ x ∈ xs, a ≤ x ∧ x ≤ b)) :=
  impl_allWithin_l0 xs a b hx 0 (by omega)

theorem spec_ring (n : Int) (r : Bool) : spec_rwRing.f n r = some (r && decide (n > 2)) := by
  unfold spec_rwRing.f; cases r <;> simp
theorem impl_ring (n : Int) (r : Bool) : impl_isRing.f n r = some (r && decide (n > 2)) := by
  unfold impl_isRing.f; cases r <;> simp

theorem spec_abs (n : Int) (h1 : -9223372036854775808 < n) (h2 : n ≤ 9223372036854775807) : spec_l1Abs.f n = some (n.natAbs : Int) := by
  unfold spec_l1Abs.f spec_l1Most.f
  rw [w64 (by omega) (by omega)]
  by_cases h : n > -n
  · rw [if_pos h]; simp; omega
  · rw [if_neg h]; simp; omega
/-- Neighbours, of n houses. -/
def nbr (n a b : Int) (ring : Bool) : Bool := decide ((a - b).natAbs = 1) || (ring && decide (n > 2) && decide (((a - b).natAbs : Int) = n - 1))
theorem spec_next (n a b : Int) (ring : Bool) (hn : 0 ≤ n) (hn2 : n ≤ 9223372036854775807) (h1 : -9223372036854775808 < a - b) (h2 : a - b ≤ 9223372036854775807) : spec_rwNext.f n a b ring = some (nbr n a b ring) := by
  unfold spec_rwNext.f nbr
  rw [w64 (by omega) (by omega), spec_abs _ (by omega) (by omega), spec_ring]
  simp only [Option.bind_some]
  by_cases c : ((a - b).natAbs : Int) = 1
  · rw [if_pos c]; simp; omega
  · rw [if_neg c]
    have c' : ¬ (a - b).natAbs = 1 := by omega
    rw [w64 (by omega) (by omega)]
    cases ring
    · simp [c']
    · by_cases d : n > 2
      · simp only [d, c', decide_true, decide_false, Bool.and_self, Bool.true_and, Bool.false_or, if_true]
        congr 1
      · simp [d, c']

/-- Rising numbers of houses. -/
def RisesFrom (xs : List Int) (a b : Int) (i : Nat) : Prop := ∀ j : Nat, i ≤ j → (h : j < xs.length) → (a ≤ xs[j] ∧ xs[j] ≤ b) ∧ (0 < j → xs[j - 1]'(by omega) < xs[j])
theorem risesFrom_end (xs : List Int) (a b : Int) : RisesFrom xs a b xs.length := fun j h1 h2 => by omega
theorem risesFrom_step (xs : List Int) (a b : Int) (i : Nat) (hi : i < xs.length) : RisesFrom xs a b i ↔ ((a ≤ xs[i] ∧ xs[i] ≤ b) ∧ (0 < i → xs[i - 1]'(by omega) < xs[i])) ∧ RisesFrom xs a b (i + 1) := by
  constructor
  · intro g; exact ⟨g i (Nat.le_refl _) hi, fun j h1 h2 => g j (by omega) h2⟩
  · rintro ⟨g, r⟩ j h1 h2
    by_cases e : j = i
    · subst e; exact g
    · exact r j (by omega) h2
open Classical in
theorem spec_l1Rising_l0 (xs : List Int) (a b : Int) (hx : xs.length ≤ 35184372088832) : ∀ i : Nat, i ≤ xs.length → Ev (fun k => spec_l1Rising.l0 k xs a b xs xs.length i) (decide (RisesFrom xs a b i)) := by
  refine down xs.length ?_ ?_
  · refine succ ?_
    simp only [spec_l1Rising.l0]
    exact neg (by omega) (conv (now _) (by simp [risesFrom_end]))
  · intro i hi ih
    refine succ ?_
    simp only [spec_l1Rising.l0, spec_in, Option.bind_some]
    rw [wnat (by omega), wsub1 (by omega)]
    refine pos (by omega) (pos (by omega) (pos (by omega) ?_))
    rw [rd_lt xs i hi]
    by_cases e : a ≤ xs[i] ∧ xs[i] ≤ b
    · refine pos (by simpa using e) ?_
      by_cases z : (i : Int) > 0
      · refine pos z (pos (by omega) (pos (by omega) ?_))
        have ei : (i : Int) - 1 = ((i - 1 : Nat) : Int) := by omega
        rw [ei, rd_lt xs (i - 1) (by omega)]
        by_cases f : xs[i - 1] ≥ xs[i]
        · refine pos f (conv (now _) (Eq.symm (decide_eq_false ?_)))
          rw [risesFrom_step xs a b i hi]
          intro g; have := g.1.2 (by omega); omega
        · refine neg f (conv ih ?_)
          rw [decide_eq_decide, risesFrom_step xs a b i hi]
          exact ⟨fun g => ⟨⟨e, fun _ => by omega⟩, g⟩, fun g => g.2⟩
      · refine neg z (conv ih ?_)
        rw [decide_eq_decide, risesFrom_step xs a b i hi]
        exact ⟨fun g => ⟨⟨e, fun _ => by omega⟩, g⟩, fun g => g.2⟩
    · refine neg (by simpa using e) (conv (now _) (Eq.symm (decide_eq_false ?_)))
      rw [risesFrom_step xs a b i hi]
      exact fun g => e g.1.1
/-- Strictly increasing from one on. -/
def IncFrom (xs : List Int) (i : Nat) : Prop := ∀ j : Nat, i ≤ j → 0 < j → (h : j < xs.length) → xs[j - 1]'(by omega) < xs[j]
theorem incFrom_step (xs : List Int) (i : Nat) (h0 : 0 < i) (hi : i < xs.length) : IncFrom xs i ↔ (xs[i - 1]'(by omega) < xs[i]) ∧ IncFrom xs (i + 1) := by
  constructor
  · intro g; exact ⟨g i (Nat.le_refl _) h0 hi, fun j h1 h2 h3 => g j (by omega) h2 h3⟩
  · rintro ⟨g, r⟩ j h1 h2 h3
    by_cases e : j = i
    · subst e; exact g
    · exact r j (by omega) h2 h3
open Classical in
theorem impl_increasing_f (xs : List Int) (hx : xs.length ≤ 35184372088832) : Ev (fun k => impl_increasing.f k xs) (decide (IncFrom xs 1)) := by
  have key : ∀ i : Nat, i ≤ xs.length → 1 ≤ i → Ev (fun k => impl_increasing.l0 k xs i) (decide (IncFrom xs i)) := by
    refine down xs.length ?_ ?_
    · intro _
      refine succ ?_
      simp only [impl_increasing.l0]
      exact neg (by omega) (conv (now _) (Eq.symm (decide_eq_true (fun j h1 h2 h3 => by omega))))
    · intro i hi ih h0
      refine succ ?_
      simp only [impl_increasing.l0]
      rw [wnat (by omega), wsub1 (by omega)]
      refine pos (by omega) (pos (by omega) (pos (by omega) (pos (by omega) ?_)))
      have ei : (i : Int) - 1 = ((i - 1 : Nat) : Int) := by omega
      rw [ei, rd_lt xs (i - 1) (by omega), rd_lt xs i hi]
      by_cases f : xs[i - 1] ≥ xs[i]
      · refine pos f (conv (now _) (Eq.symm (decide_eq_false ?_)))
        rw [incFrom_step xs i h0 hi]
        intro g; have := g.1; omega
      · refine neg f (conv (ih (by omega)) ?_)
        rw [decide_eq_decide, incFrom_step xs i h0 hi]
        exact ⟨fun g => ⟨by omega, g⟩, fun g => g.2⟩
  rcases Nat.lt_or_ge 0 xs.length with h | h
  · exact key 1 (by omega) (by omega)
  · unfold impl_increasing.f
    refine succ ?_
    simp only [impl_increasing.l0]
    exact neg (by omega) (conv (now _) (Eq.symm (decide_eq_true (fun j h1 h2 h3 => by omega))))
theorem rises_iff (xs : List Int) (a b : Int) : RisesFrom xs a b 0 ↔ IncFrom xs 1 ∧ ∀ x ∈ xs, a ≤ x ∧ x ≤ b := by
  constructor
  · intro g
    refine ⟨fun j h1 h2 h3 => (g j (by omega) h3).2 h2, fun x hx => ?_⟩
    obtain ⟨j, hj, rfl⟩ := List.getElem_of_mem hx
    exact (g j (by omega) hj).1
  · rintro ⟨g, r⟩ j h1 h2
    exact ⟨r _ (List.getElem_mem h2), fun h0 => g j (by omega) h0 h2⟩
theorem inc_lt {xs : List Int} (h : IncFrom xs 1) : ∀ j i : Nat, (hij : i < j) → (hj : j < xs.length) → xs[i]'(by omega) < xs[j] := by
  intro j
  induction j with
  | zero => intro i h1; omega
  | succ j ih =>
    intro i h1 hj
    have a := h (j + 1) (by omega) (by omega) hj
    simp only [Nat.add_sub_cancel] at a
    by_cases e : i = j
    · subst e; exact a
    · have := ih i (by omega) (by omega); omega
open Classical in
theorem areHouses_f (xs : List Int) (n : Nat) (hn : n ≤ 1048576) (hx : xs.length ≤ 35184372088832) : Ev (fun k => impl_areHouses.f k xs n) (decide (RisesFrom xs 0 ((n : Int) - 1) 0)) := by
  unfold impl_areHouses.f
  rw [wsub1 (by omega)]
  refine bind (impl_increasing_f xs hx) ?_
  by_cases c : IncFrom xs 1
  · refine pos (by simpa using c) ?_
    refine conv (bind (impl_allWithin_f xs 0 ((n : Int) - 1) hx) (now _)) ?_
    rw [decide_eq_decide, rises_iff]
    exact ⟨fun g => ⟨c, g⟩, fun g => g.2⟩
  · refine neg (by simpa using c) (conv (now _) (Eq.symm (decide_eq_false ?_)))
    rw [rises_iff]
    exact fun g => c g.1

/-- A row of signs by a predicate. -/
def row (n : Nat) (P : Nat → Bool) : List Int := (List.range n).map fun i => if P i then 35 else 46
theorem row_length (n : Nat) (P : Nat → Bool) : (row n P).length = n := by simp [row]
theorem row_false (n : Nat) : List.replicate n (46 : Int) = row n fun _ => false := by
  refine List.ext_getElem (by simp [row]) (fun i h1 h2 => ?_)
  simp [row]
theorem row_set (n : Nat) (P : Nat → Bool) (m : Nat) (hm : m < n) : (row n P).set m 35 = row n fun i => P i || decide (m = i) := by
  refine List.ext_getElem (by simp [row]) (fun i h1 h2 => ?_)
  rw [List.getElem_set]
  by_cases e : m = i
  · simp [row, e]
  · rw [if_neg e]
    simp [row, e]
theorem row_congr {n : Nat} {P Q : Nat → Bool} (h : ∀ i, i < n → P i = Q i) : row n P = row n Q := by
  unfold row
  refine List.map_congr_left (fun i hi => ?_)
  rw [h i (List.mem_range.1 hi)]
/-- Which house is lit. -/
def hits (n : Int) (ring : Bool) (x : Int) (i : Nat) : Bool := decide ((if ring = true ∧ n > 2 then Int.tmod (x + n) n else x) = i)
theorem put_f (n : Nat) (hn : 1 ≤ n ∧ n ≤ 20) (ring : Bool) (P : Nat → Bool) (x : Int) (hx : -1 ≤ x ∧ x ≤ n) : impl_LitBy.put n ring (row n P) x = some (row n fun i => P i || hits n ring x i) := by
  unfold impl_LitBy.put
  rw [impl_ring, w64 (x := x + n) (by omega) (by omega), wsub1 (by omega)]
  simp only [Option.bind_some, impl_in]
  have step : ∀ y : Int, y = (if ring = true ∧ (n : Int) > 2 then Int.tmod (x + n) n else x) → some (if decide (0 ≤ y ∧ y ≤ (n : Int) - 1) = true then (row n P).set y.toNat 35 else row n P) = some (row n fun i => P i || hits n ring x i) := by
    intro y hy
    congr 1
    by_cases c : 0 ≤ y ∧ y ≤ (n : Int) - 1
    · rw [if_pos (by simpa using c), row_set n P y.toNat (by omega)]
      refine row_congr (fun i hi => ?_)
      unfold hits
      rw [← hy]
      congr 1
      rw [decide_eq_decide]
      omega
    · rw [if_neg (by simpa using c)]
      refine row_congr (fun i hi => ?_)
      unfold hits
      rw [← hy, show decide (y = (i : Int)) = false from decide_eq_false (by omega)]
      simp
  by_cases r : ring = true ∧ (n : Int) > 2
  · rw [if_pos ⟨by simp [r.1, r.2], by omega⟩]
    simp only [Option.bind_some]
    exact step _ (by rw [if_pos r])
  · rw [if_neg (fun h => r (by simpa using h.1)), if_neg (fun h => r (by simpa using h))]
    simp only [Option.bind_some]
    exact step _ (by rw [if_neg r])
/-- A lamp lights a house. -/
def lights (n : Int) (ring : Bool) (h i : Int) : Bool := decide (h = i) || nbr n h i ring
theorem hits_three (n : Nat) (hn : 1 ≤ n) (ring : Bool) (h : Int) (hh : 0 ≤ h ∧ h ≤ (n : Int) - 1) (i : Nat) (hi : i < n) : ((hits n ring (h - 1) i || hits n ring h i) || hits n ring (h + 1) i) = lights n ring h i := by
  unfold hits lights nbr
  by_cases r : ring = true ∧ (n : Int) > 2
  · simp only [if_pos r]
    have t1 : (h - 1 + (n : Int)).tmod n = if h = 0 then (n : Int) - 1 else h - 1 := by
      rw [Int.tmod_eq_emod_of_nonneg (by omega)]
      split
      · rw [Int.emod_eq_of_lt (by omega) (by omega)]; omega
      · rw [show h - 1 + (n : Int) = (h - 1) + n from rfl, Int.add_emod_right, Int.emod_eq_of_lt (by omega) (by omega)]
    have t2 : (h + (n : Int)).tmod n = h := by
      rw [Int.tmod_eq_emod_of_nonneg (by omega), Int.add_emod_right, Int.emod_eq_of_lt (by omega) (by omega)]
    have t3 : (h + 1 + (n : Int)).tmod n = if h = (n : Int) - 1 then 0 else h + 1 := by
      rw [Int.tmod_eq_emod_of_nonneg (by omega), Int.add_emod_right]
      split
      · rw [show h + 1 = (n : Int) by omega, Int.emod_self]
      · rw [Int.emod_eq_of_lt (by omega) (by omega)]
    rw [t1, t2, t3, r.1]
    rw [show decide ((n : Int) > 2) = true from decide_eq_true r.2]
    rw [Bool.eq_iff_iff]
    simp only [Bool.or_eq_true, decide_eq_true_eq, Bool.and_eq_true, true_and]
    split <;> split <;> omega
  · simp only [if_neg r]
    have e : (ring && decide ((n : Int) > 2)) = false := by
      rw [Bool.eq_false_iff]
      intro g
      exact r (by simpa using g)
    rw [e]
    rw [Bool.eq_iff_iff]
    simp only [Bool.or_eq_true, decide_eq_true_eq, Bool.false_and, Bool.false_eq_true, or_false]
    omega
theorem lamps_f (n : Nat) (hn : 1 ≤ n ∧ n ≤ 20) (ring : Bool) : ∀ (hs : List Int) (P : Nat → Bool), (∀ h ∈ hs, 0 ≤ h ∧ h ≤ (n : Int) - 1) → impl_LitBy.lamps n ring hs (row n P) = some (row n fun i => P i || hs.any fun h => lights n ring h i) := by
  intro hs
  induction hs with
  | nil => intro P _; simp [impl_LitBy.lamps]
  | cons h hs ih =>
    intro P hh
    have h0 := hh h (by simp)
    simp only [impl_LitBy.lamps, impl_LitBy.puts]
    rw [w64 (by omega) (by omega), w64 (by omega) (by omega)]
    rw [put_f n hn ring _ _ (by omega)]
    simp only [Option.bind_some]
    rw [put_f n hn ring _ _ (by omega)]
    simp only [Option.bind_some]
    rw [put_f n hn ring _ _ (by omega)]
    simp only [Option.bind_some]
    rw [ih _ (fun x hx => hh x (by simp [hx]))]
    congr 1
    refine row_congr (fun i hi => ?_)
    rw [List.any_cons, ← hits_three n hn.1 ring h h0 i hi]
    simp only [Bool.or_assoc]
/-- A text of signs. -/
def signs (n : Nat) (P : Nat → Bool) : ByteArray := ⟨((List.range n).map fun i => if P i then (35 : UInt8) else 46).toArray⟩
theorem signs_row (n : Nat) (P : Nat → Bool) : strOfNums (row n P) = signs n P := by
  unfold strOfNums row signs
  congr 2
  rw [List.map_map]
  refine List.map_congr_left (fun i _ => ?_)
  simp only [Function.comp]
  split <;> rfl
theorem signs_succ (n : Nat) (P : Nat → Bool) : signs (n + 1) P = signs n P ++ (if P n then (⟨#[35]⟩ : ByteArray) else ⟨#[46]⟩) := by
  unfold signs
  rw [List.range_succ, List.map_append]
  split <;> rename_i c <;> simp [c, ByteArray.ext_iff]
theorem signs_size (n : Nat) (P : Nat → Bool) : (signs n P).size = n := by
  unfold signs
  show (Array.size _) = n
  simp
theorem rwLit_l0 (n : Nat) (hn : n ≤ 20) (ring : Bool) (hs : List Int) (hl : hs.length ≤ 1048576) (hh : ∀ h ∈ hs, 0 ≤ h ∧ h ≤ (n : Int) - 1) (i : Nat) (hi : i < n) : ∀ j : Nat, j ≤ hs.length → Ev (fun k => spec_rwLit.l0 k n i ring hs hs.length j) ((hs.drop j).any fun h => lights n ring h i) := by
  refine down hs.length ?_ ?_
  · refine succ ?_
    simp only [spec_rwLit.l0]
    exact neg (by omega) (conv (now _) (by simp))
  · intro j hj ih
    refine succ ?_
    simp only [spec_rwLit.l0]
    have hx := hh _ (List.getElem_mem hj)
    rw [wnat (by omega), rd_lt hs j hj]
    refine pos (by omega) (pos (by omega) (pos (by omega) ?_))
    rw [List.drop_eq_getElem_cons hj, List.any_cons]
    rw [spec_next n hs[j] i ring (by omega) (by omega) (by omega) (by omega)]
    simp only [Option.bind_some]
    unfold lights at ih ⊢
    by_cases e : hs[j] = (i : Int)
    · exact pos e (conv (now _) (by simp [e]))
    · refine neg e ?_
      by_cases f : nbr n hs[j] i ring = true
      · exact pos f (conv (now _) (by simp [f]))
      · refine neg f (conv ih ?_)
        simp [e, f]
theorem litBy_l0 (s : ByteArray) (hn : s.size ≤ 20) (ring : Bool) (hs : List Int) (hl : hs.length ≤ 1048576) (hh : ∀ h ∈ hs, 0 ≤ h ∧ h ≤ (s.size : Int) - 1) : ∀ i : Nat, i ≤ s.size → Ev (fun k => spec_LitBy.l0 k s hs ring (signs i fun i => hs.any fun h => lights s.size ring h i) i) (signs s.size fun i => hs.any fun h => lights s.size ring h i, true) := by
  refine down s.size ?_ ?_
  · refine succ ?_
    simp only [spec_LitBy.l0]
    exact neg (by omega) (now _)
  · intro i hi ih
    refine succ ?_
    simp only [spec_LitBy.l0]
    rw [signs_succ] at ih
    rw [wnat (by omega), signs_size]
    refine pos (by omega) ?_
    unfold spec_rwLit.f
    refine bind (rwLit_l0 s.size hn ring hs hl hh i hi 0 (by omega)) ?_
    rw [List.drop_zero]
    by_cases c : (hs.any fun h => lights s.size ring h i) = true
    · rw [if_pos c] at ih
      exact pos c (pos (by omega) ih)
    · rw [if_neg c] at ih
      exact neg c (pos (by omega) ih)

theorem both_same (s : ByteArray) (hs : List Int) (ring : Bool) (h1 : s.size ≤ 1048576) (h2 : hs.length ≤ 1048576) : ∃ v, Ev (fun k => spec_LitBy.f k s hs ring) v ∧ Ev (fun k => impl_LitBy.f k s hs ring) v := by
  unfold spec_LitBy.f impl_LitBy.f spec_l1Rising.f
  rw [wsub1 (by omega)]
  by_cases c : LitRow s
  · by_cases d : RisesFrom hs 0 ((s.size : Int) - 1) 0
    · refine ⟨(signs s.size fun i => hs.any fun h => lights s.size ring h i, true), bind (spec_rwRow_f s (by omega)) (pos (by simpa [litRow] using c) (bind (spec_l1Rising_l0 hs 0 _ (by omega) 0 (by omega)) (succ ?_))), bind (impl_IsLitRow_f s (by omega)) (pos (by simpa [litRow] using c) (bind (areHouses_f hs s.size (by omega) (by omega)) (pos (by simpa using d) (pos h1 ?_))))⟩
      · simp only [spec_LitBy.j0]
        refine neg (by simpa using d) ?_
        exact litBy_l0 s c.1.2 ring hs h2 ((rises_iff _ _ _).1 d).2 0 (by omega)
      · rw [row_false, lamps_f s.size c.1 ring hs _ ((rises_iff _ _ _).1 d).2]
        refine conv (now _) ?_
        rw [signs_row]
        simp
    · refine ⟨(⟨#[]⟩, false), bind (spec_rwRow_f s (by omega)) (pos (by simpa [litRow] using c) (bind (spec_l1Rising_l0 hs 0 _ (by omega) 0 (by omega)) (succ ?_))), bind (impl_IsLitRow_f s (by omega)) (pos (by simpa [litRow] using c) (bind (areHouses_f hs s.size (by omega) (by omega)) (neg (by simpa using d) (now _))))⟩
      simp only [spec_LitBy.j0]
      exact pos (by simpa using d) (now _)
  · refine ⟨(⟨#[]⟩, false), bind (spec_rwRow_f s (by omega)) (neg (by simpa [litRow] using c) (succ ?_)), bind (impl_IsLitRow_f s (by omega)) (neg (by simpa [litRow] using c) (now _))⟩
    simp only [spec_LitBy.j0]
    exact pos (by simp) (now _)
theorem FnExactLitBy : laws_FnExactLitBy.Pure := by
  intro s xs r h0 hm hs hw
  refine Ev.rounds ?_
  unfold laws_FnExactLitBy.f
  by_cases h : (s.size : Int) > 1048576
  · exact pos h (now _)
  refine neg h ?_
  by_cases h' : (xs.length : Int) > 1048576
  · exact pos h' (now _)
  refine neg h' ?_
  have hl : xs.length ≤ 35184372088832 := by omega
  obtain ⟨v, h1, h2⟩ := both_same s xs r (by omega) (by omega)
  refine bind (toIntS_f xs hl) (bind h1 (bind (toIntS_f xs hl) (bind h2 (pos rfl (succ ?_)))))
  simp only [laws_FnExactLitBy.j0]
  exact neg (by simp) (bind (toIntS_f xs hl) (bind (eqIntS_same xs hl) (pos rfl (now _))))

end Go.Proofs.Ytknookofgnandaa.Pure
