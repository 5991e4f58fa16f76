/- The plain law of FnExactFirstLoot: what the printed functions compute answers true at every input within the bounds that the print tells. -/
import Derived.Test.YtbchfajbobploaaMBx5
import Derived.Test.YtbchfajbobploaaLib
namespace Go.Proofs.Ytbchfajbobploaa.Pure
open Go.RowKit Go.Proofs.Ytbchfajbobploaa.MB Go.Proofs.YtbchfajbobploaaW.PrintWords Go.Proofs.YtbchfajbobploaaW.PrintLast Go.Proofs.YtbchfajbobploaaW.PrintMore Go.Proofs.Ytbchfajbobploaa.Lib
set_option linter.unusedVariables false
set_option linter.unusedSimpArgs false

theorem spec_in (a b c : Int) : spec_l1In.f a b c = some (decide (b ≤ a ∧ a ≤ c)) := by
  unfold spec_l1In.f
  by_cases h : a ≥ b
  · rw [if_pos h]; simp [show b ≤ a from h]
  · rw [if_neg h]; simp [show ¬ b ≤ a from h]
theorem impl_in (a b c : Int) : impl_within.f a b c = some (decide (b ≤ a ∧ a ≤ c)) := by
  unfold impl_within.f
  by_cases h : a ≥ b
  · rw [if_pos h]; simp [show b ≤ a from h]
  · rw [if_neg h]; simp [show ¬ b ≤ a from h]

theorem toIntS_l0 (xs : List Int) (hx : xs.length ≤ 35184372088832) : ∀ i : Nat, i ≤ xs.length → ∀ ys : List Int, ys.length = xs.length → (∀ j : Nat, j < i → ys.getD j 0 = xs.getD j 0) → Ev (fun k => laws_toIntS.l0 k xs ys i) xs := by
  refine down xs.length ?_ ?_
  · intro ys hl hy
    refine succ ?_
    simp only [laws_toIntS.l0]
    refine neg (by omega) (conv (now _) ?_)
    refine List.ext_getElem hl (fun j h1 h2 => ?_)
    have := hy j h2
    simpa [h1, h2] using this
  · intro i hi ih ys hl hy
    refine succ ?_
    simp only [laws_toIntS.l0]
    rw [wnat (by omega)]
    refine pos (by omega) (pos (by omega) (pos (by omega) ?_))
    refine ih _ (by simp [hl]) (fun j hj => ?_)
    simp only [Int.toNat_natCast, rd_nat]
    by_cases e : j = i
    · subst e
      simp [hl, hi]
    · rw [List.getD_eq_getElem?_getD, List.getElem?_set_ne (Ne.symm e), ← List.getD_eq_getElem?_getD]
      exact hy j (by omega)
theorem toIntS_f (xs : List Int) (hx : xs.length ≤ 35184372088832) : Ev (fun k => laws_toIntS.f k xs) xs := by
  unfold laws_toIntS.f
  refine pos (by omega) (pos (by omega) ?_)
  exact toIntS_l0 xs hx 0 (by omega) _ (by simp) (fun j hj => by omega)
theorem eqIntS_l0 (xs ys : List Int) (hx : xs.length ≤ 35184372088832) (hl : xs.length = ys.length) : ∀ i : Nat, i ≤ xs.length → Ev (fun k => laws_eqIntS.l0 k xs ys i) (decide (xs.drop i = ys.drop i)) := by
  refine down xs.length ?_ ?_
  · refine succ ?_
    simp only [laws_eqIntS.l0]
    exact neg (by omega) (conv (now _) (by simp [hl]))
  · intro i hi ih
    refine succ ?_
    simp only [laws_eqIntS.l0]
    rw [wnat (by omega)]
    refine pos (by omega) (pos (by omega) (pos (by omega) ?_))
    rw [rd_lt xs i hi, rd_lt ys i (by omega)]
    by_cases e : xs[i] = ys[i]'(by omega)
    · exact pos e (conv ih (by rw [decide_eq_decide, drop_iff hi (by omega)]; exact ⟨fun h => ⟨e, h⟩, fun h => h.2⟩))
    · exact neg e (conv (now _) (Eq.symm (decide_eq_false (by rw [drop_iff hi (by omega)]; exact fun h => e h.1))))
theorem eqIntS_f (xs ys : List Int) (hx : xs.length ≤ 35184372088832) : Ev (fun k => laws_eqIntS.f k xs ys) (decide (xs = ys)) := by
  unfold laws_eqIntS.f
  by_cases e : xs.length = ys.length
  · exact pos (by omega) (conv (eqIntS_l0 xs ys hx e 0 (by omega)) (by simp))
  · exact neg (by omega) (conv (now _) (by simp; intro h; exact e (by rw [h])))
theorem eqIntS_same (xs : List Int) (hx : xs.length ≤ 35184372088832) : Ev (fun k => laws_eqIntS.f k xs xs) true := conv (eqIntS_f xs xs hx) (by simp)

theorem spec_l1All_l0 (xs : List Int) (a b : Int) (hx : xs.length ≤ 35184372088832) : ∀ i : Nat, i ≤ xs.length → Ev (fun k => spec_l1All.l0 k a b xs xs.length i) (decide (∀ x ∈ xs.drop i, a ≤ x ∧ x ≤ b)) := by
  refine down xs.length ?_ ?_
  · refine succ ?_
    simp only [spec_l1All.l0]
    exact neg (by omega) (conv (now _) (by simp))
  · intro i hi ih
    refine succ ?_
    simp only [spec_l1All.l0, spec_in, Option.bind_some]
    rw [wnat (by omega)]
    refine pos (by omega) (pos (by omega) (pos (by omega) ?_))
    rw [rd_lt xs i hi]
    by_cases e : a ≤ xs[i] ∧ xs[i] ≤ b
    · exact pos (by simpa using e) (conv ih (by rw [decide_eq_decide, all_drop hi]; exact ⟨fun h => ⟨e, h⟩, fun h => h.2⟩))
    · exact neg (by simpa using e) (conv (now _) (Eq.symm (decide_eq_false (by rw [all_drop hi]; exact fun h => e h.1))))
theorem spec_l1All_f (xs : List Int) (a b : Int) (hx : xs.length ≤ 35184372088832) : Ev (fun k => spec_l1All.f k xs a b) (decide (∀ x ∈ xs, a ≤ x ∧ x ≤ b)) :=
  spec_l1All_l0 xs a b hx 0 (by omega)

theorem impl_allWithin_l0 (xs : List Int) (a b : Int) (hx : xs.length ≤ 35184372088832) : ∀ i : Nat, i ≤ xs.length → Ev (fun k => impl_allWithin.l0 k a b xs xs.length i) (decide (∀ x ∈ xs.drop i, a ≤ x ∧ x ≤ b)) := by
  refine down xs.length ?_ ?_
  · refine succ ?_
    simp only [impl_allWithin.l0]
    exact neg (by omega) (conv (now _) (by simp))
  · intro i hi ih
    refine succ ?_
    simp only [impl_allWithin.l0, impl_in, Option.bind_some]
    rw [wnat (by omega)]
    refine pos (by omega) (pos (by omega) (pos (by omega) ?_))
    rw [rd_lt xs i hi]
    by_cases e : a ≤ xs[i] ∧ xs[i] ≤ b
    · exact pos (by simpa using e) (conv ih (by rw [decide_eq_decide, all_drop hi]; exact ⟨fun h => ⟨e, h⟩, fun h => h.2⟩))
    · exact neg (by simpa using e) (conv (now _) (Eq.symm (decide_eq_false (by rw [all_drop hi]; exact fun h => e h.1))))
theorem impl_allWithin_f (xs : List Int) (a b : Int) (hx : xs.length ≤ 35184372088832) : Ev (fun k => impl_allWithin.f k xs a b) (decide (∀ x ∈ xs, a ≤ x ∧ x ≤ b)) :=
  impl_allWithin_l0 xs a b hx 0 (by omega)

theorem spec_ring (n : Int) (r : Bool) : spec_rwRing.f n r = some (r && decide (n > 2)) := by
  unfold spec_rwRing.f; cases r <;> simp
theorem impl_ring (n : Int) (r : Bool) : impl_isRing.f n r = some (r && decide (n > 2)) := by
  unfold impl_isRing.f; cases r <;> simp

theorem spec_abs (n : Int) (h1 : -9223372036854775808 < n) (h2 : n ≤ 9223372036854775807) : spec_l1Abs.f n = some (n.natAbs : Int) := by
  unfold spec_l1Abs.f spec_l1Most.f
  rw [w64 (by omega) (by omega)]
  by_cases h : n > -n
  · rw [if_pos h]; simp; omega
  · rw [if_neg h]; simp; omega
/-- Neighbours, of n houses. -/
def nbr (n a b : Int) (ring : Bool) : Bool := decide ((a - b).natAbs = 1) || (ring && decide (n > 2) && decide (((a - b).natAbs : Int) = n - 1))
theorem spec_next (n a b : Int) (ring : Bool) (hn : 0 ≤ n) (hn2 : n ≤ 9223372036854775807) (h1 : -9223372036854775808 < a - b) (h2 : a - b ≤ 9223372036854775807) : spec_rwNext.f n a b ring = some (nbr n a b ring) := by
  unfold spec_rwNext.f nbr
  rw [w64 (by omega) (by omega), spec_abs _ (by omega) (by omega), spec_ring]
  simp only [Option.bind_some]
  by_cases c : ((a - b).natAbs : Int) = 1
  · rw [if_pos c]; simp; omega
  · rw [if_neg c]
    have c' : ¬ (a - b).natAbs = 1 := by omega
    rw [w64 (by omega) (by omega)]
    cases ring
    · simp [c']
    · by_cases d : n > 2
      · simp only [d, c', decide_true, decide_false, Bool.and_self, Bool.true_and, Bool.false_or, if_true]
        congr 1
      · simp [d, c']

theorem values_spec (vs : List Int) (hx : vs.length ≤ 35184372088832) : Ev (fun k => spec_rwValues.f k vs) (decide ((1 ≤ vs.length ∧ vs.length ≤ 20) ∧ ∀ x ∈ vs, 0 ≤ x ∧ x ≤ 1000)) := by
  unfold spec_rwValues.f spec_rwHouses.f
  simp only [spec_in, Option.bind_some]
  by_cases c : 1 ≤ (vs.length : Int) ∧ (vs.length : Int) ≤ 20
  · refine pos (by simpa using c) (conv (bind (spec_l1All_f vs 0 1000 hx) (now _)) ?_)
    rw [decide_eq_decide]
    exact ⟨fun g => ⟨by omega, g⟩, fun g => g.2⟩
  · refine neg (by simpa using c) (conv (now _) (Eq.symm (decide_eq_false (fun g => c (by omega)))))
theorem values_impl (vs : List Int) (hx : vs.length ≤ 35184372088832) : Ev (fun k => impl_areValues.f k vs) (decide ((1 ≤ vs.length ∧ vs.length ≤ 20) ∧ ∀ x ∈ vs, 0 ≤ x ∧ x ≤ 1000)) := by
  unfold impl_areValues.f impl_isRowLength.f
  simp only [impl_in, Option.bind_some]
  by_cases c : 1 ≤ (vs.length : Int) ∧ (vs.length : Int) ≤ 20
  · refine pos (by simpa using c) (conv (bind (impl_allWithin_f vs 0 1000 hx) (now _)) ?_)
    rw [decide_eq_decide]
    exact ⟨fun g => ⟨by omega, g⟩, fun g => g.2⟩
  · refine neg (by simpa using c) (conv (now _) (Eq.symm (decide_eq_false (fun g => c (by omega)))))

theorem l1Own_f (xs : List Int) (h : xs.length < 17592186044416) : spec_l1Own.f xs = some xs := by
  unfold spec_l1Own.f
  simp [h]
/-- Whether a house is no neighbour of those taken. -/
def free (n : Int) (ring : Bool) (b : List Int) (i : Int) : Bool := b.all fun x => !nbr n x i ring
/-- All loots that go on from some houses, from a house on, so many houses left. -/
def lootsFrom (n : Int) (ring : Bool) : Nat → List Int → Int → List (List Int)
  | 0, _, _ => []
  | d + 1, b, i => (if free n ring b i = true then (b ++ [i]) :: lootsFrom n ring d (b ++ [i]) (i + 1) else []) ++ lootsFrom n ring d b (i + 1)
theorem lootsFrom_bound (n : Int) (ring : Bool) : ∀ d b i, (lootsFrom n ring d b i).length + 1 ≤ 2 ^ d := by
  intro d
  induction d with
  | zero => intro b i; simp [lootsFrom]
  | succ d ih =>
    intro b i
    simp only [lootsFrom]
    have h1 := ih (b ++ [i]) (i + 1)
    have h2 := ih b (i + 1)
    have e : 2 ^ (d + 1) = 2 ^ d + 2 ^ d := by rw [Nat.pow_succ]; omega
    rw [e, List.length_append]
    split
    · rw [List.length_cons]; omega
    · simp; omega
/-- What begins hold: houses below the next one. -/
def BelowB (b : List Int) (i : Nat) : Prop := (∀ x ∈ b, 0 ≤ x ∧ x < (i : Int)) ∧ b.length ≤ i
theorem belowB_step {b : List Int} {i : Nat} (h : BelowB b i) : BelowB b (i + 1) := ⟨fun x hx => by have := h.1 x hx; omega, by have := h.2; omega⟩
theorem belowB_snoc {b : List Int} {i : Nat} (h : BelowB b i) : BelowB (b ++ [(i : Int)]) (i + 1) := by
  refine ⟨fun x hx => ?_, by rw [List.length_append]; have := h.2; simp; omega⟩
  rcases List.mem_append.1 hx with hx | hx
  · have := h.1 x hx; omega
  · rw [List.mem_singleton.1 hx]; omega
/-- The inner loop: is a house free. -/
theorem loots_l1 (n : Nat) (ring : Bool) (b : List Int) (out : List (List Int)) (i : Nat) (hn : n ≤ 20) (hi : i < n) (hb : BelowB b i) (v : List (List Int))
    (hyes : free n ring b i = true → Ev (fun k => (spec_l1Own.f b).bind fun t => (if t.length < 17592186044416 then ((spec_rwLoots.f k n (t ++ [(i : Int)]) ring).bind fun t127 => (if out.length + t127.length < 5864062014805 then (spec_rwLoots.l0 k n b ring (out ++ t127) (wrap64 ((i : Int) + 1))) else (none))) else (none))) v)
    (hno : free n ring b i = false → Ev (fun k => spec_rwLoots.l0 k n b ring out (wrap64 ((i : Int) + 1))) v) :
    Ev (fun k => spec_rwLoots.l1 k n b ring out i true b b.length 0) v := by
  have key : ∀ j : Nat, j ≤ b.length → ∀ fr : Bool, (fr && (b.drop j).all fun x => !nbr n x i ring) = free n ring b i → Ev (fun k => spec_rwLoots.l1 k n b ring out i fr b b.length j) v := by
    refine down b.length ?_ ?_
    · intro fr hf
      rw [List.drop_length, List.all_nil, Bool.and_true] at hf
      refine succ ?_
      simp only [spec_rwLoots.l1]
      refine neg (by omega) ?_
      cases fr with
      | true => exact pos rfl (hyes hf.symm)
      | false => exact neg (by simp) (hno hf.symm)
    · intro j hj ih fr hf
      refine succ ?_
      simp only [spec_rwLoots.l1]
      have hl := hb.2
      rw [wnat (by omega), rd_lt b j hj]
      have hx := hb.1 _ (List.getElem_mem hj)
      rw [List.drop_eq_getElem_cons hj, List.all_cons] at hf
      refine pos (by omega) (pos (by omega) (pos (by omega) ?_))
      cases fr with
      | true =>
        refine pos rfl (bindSome (spec_next _ _ _ _ (by omega) (by omega) (by omega) (by omega)) ?_)
        exact ih _ (by simpa using hf)
      | false => exact neg (by simp) (ih false (by simpa using hf))
  exact key 0 (by omega) true (by simp [free])
theorem loots_both (n : Nat) (ring : Bool) (hn : n ≤ 20) : ∀ d : Nat, ∀ i : Nat, i ≤ n → n - i = d →
    (∀ b out, BelowB b i → out.length + 2 ^ d ≤ 2 ^ 30 → Ev (fun k => spec_rwLoots.l0 k n b ring out i) (out ++ lootsFrom n ring d b i)) := by
  intro d
  induction d with
  | zero =>
    intro i hi hd b out hb ho
    refine succ ?_
    simp only [spec_rwLoots.l0]
    exact neg (by omega) (conv (now _) (by simp [lootsFrom]))
  | succ d ih =>
    intro i hi hd b out hb ho
    have hin : i < n := by omega
    have ihn := ih (i + 1) (by omega) (by omega)
    have e2 : 2 ^ (d + 1) = 2 ^ d + 2 ^ d := by rw [Nat.pow_succ]; omega
    have p20 : 2 ^ d ≤ 2 ^ 20 := Nat.pow_le_pow_right (by omega) (by omega)
    have pd : 1 ≤ 2 ^ d := Nat.one_le_two_pow
    rw [e2] at ho
    generalize hG : 2 ^ d = G at ho p20 pd ihn e2
    have hl := hb.2
    refine succ ?_
    simp only [spec_rwLoots.l0]
    refine pos (by omega) ?_
    refine loots_l1 n ring b out i hn hin hb _ ?_ ?_
    · intro hf
      refine bindSome (l1Own_f b (by omega)) (pos (by omega) ?_)
      have hb1 := belowB_snoc hb
      have hrec : Ev (fun k => spec_rwLoots.f k n (b ++ [(i : Int)]) ring) ((b ++ [(i : Int)]) :: lootsFrom n ring d (b ++ [(i : Int)]) ((i + 1 : Nat) : Int)) := by
        refine succ ?_
        simp only [spec_rwLoots.f]
        refine bindSome (l1Own_f _ (by rw [List.length_append]; simp; omega)) ?_
        simp only [Option.bind_some]
        have el : ((b ++ [(i : Int)]).length : Int) = ((b.length + 1 : Nat) : Int) := by simp
        rw [el]
        have es : wrap64 (((b.length + 1 : Nat) : Int) - 1) = (b.length : Int) := by unfold wrap64; omega
        rw [es, rd_lt _ b.length (by simp)]
        have eg : (b ++ [(i : Int)])[b.length]'(by simp) = (i : Int) := by simp
        rw [eg, wnat (by omega)]
        refine pos (by omega) (pos (by omega) (pos (by omega) (succ ?_)))
        simp only [spec_rwLoots.j0]
        refine conv (ihn (b ++ [(i : Int)]) [b ++ [(i : Int)]] hb1 (by simp; omega)) (by simp)
      refine bind hrec ?_
      have bd := lootsFrom_bound n ring d (b ++ [(i : Int)]) ((i + 1 : Nat) : Int)
      rw [hG] at bd
      refine pos (by rw [List.length_cons]; omega) ?_
      rw [wnat (by omega)]
      refine conv (ihn b _ (belowB_step hb) (by rw [List.length_append, List.length_cons]; omega)) ?_
      simp only [lootsFrom]
      rw [if_pos hf]
      simp
    · intro hf
      rw [wnat (by omega)]
      refine conv (ihn b out (belowB_step hb) (by omega)) ?_
      simp only [lootsFrom]
      rw [if_neg (by simp [hf])]
      simp
theorem rwLoots_f (n : Nat) (ring : Bool) (hn : n ≤ 20) : Ev (fun k => spec_rwLoots.f k n ([] : List Int) ring) ([] :: lootsFrom n ring n [] 0) := by
  refine succ ?_
  simp only [spec_rwLoots.f]
  refine bindSome (l1Own_f [] (by simp)) ?_
  simp only [Option.bind_some]
  refine neg (by simp) (succ ?_)
  simp only [spec_rwLoots.j0]
  have p20 : 2 ^ n ≤ 2 ^ 20 := Nat.pow_le_pow_right (by omega) (by omega)
  exact conv (loots_both n ring hn n 0 (by omega) (by omega) [] [[]] ⟨fun x hx => by simp at hx, by simp⟩ (by simp; omega)) (by simp)

theorem free_iff (n : Nat) (ring : Bool) (b : List Int) (i : Nat) (hi : i < n) (hb : BelowB b i) :
    free n ring b i = true ↔ ¬ ((i : Int) - 1 ∈ b) ∧ ¬ ((ring = true ∧ n > 2) ∧ i + 1 = n ∧ (0 : Int) ∈ b ∧ 0 < i) := by
  unfold free
  rw [List.all_eq_true]
  constructor
  · intro h
    refine ⟨fun m => ?_, fun m => ?_⟩
    · have := h _ m
      simp only [nbr, Bool.not_eq_true', Bool.or_eq_false_iff, decide_eq_false_iff_not] at this
      exact this.1 (by omega)
    · have := h _ m.2.2.1
      simp only [nbr, Bool.not_eq_true', Bool.or_eq_false_iff, decide_eq_false_iff_not] at this
      have t2 := this.2
      rw [m.1.1] at t2
      simp only [Bool.true_and, Bool.and_eq_false_iff, decide_eq_false_iff_not] at t2
      rcases t2 with t2 | t2
      · exact t2 (by have := m.1.2; omega)
      · exact t2 (by have := m.2.1; omega)
  · rintro ⟨h1, h2⟩ x hx
    have bx := hb.1 x hx
    simp only [nbr, Bool.not_eq_true', Bool.or_eq_false_iff, decide_eq_false_iff_not]
    refine ⟨fun e => h1 ?_, ?_⟩
    · rw [show (i : Int) - 1 = x by omega]; exact hx
    · cases ring with
      | false => rfl
      | true =>
        simp only [Bool.true_and, Bool.and_eq_false_iff, decide_eq_false_iff_not]
        by_cases c : (n : Int) > 2
        · right
          intro e
          refine h2 ⟨⟨rfl, by omega⟩, by omega, ?_, by omega⟩
          rw [show (0 : Int) = x by omega]; exact hx
        · left; exact c

/-- The greatest sum of a loot of so many houses in a row, from a house on. -/
def Mr (vs : List Int) : Nat → Nat → Int
  | 0, _ => 0
  | 1, i => max (rd vs i) 0
  | d + 2, i => max (rd vs i + Mr vs d (i + 2)) (Mr vs (d + 1) (i + 1))
/-- .. from a house on and less than another one. -/
def M (vs : List Int) (i e : Nat) : Int := Mr vs (e - i) i
theorem M_none {vs : List Int} {i e : Nat} (h : e ≤ i) : M vs i e = 0 := by unfold M; rw [show e - i = 0 by omega]; rfl
theorem M_rec {vs : List Int} {i e : Nat} (h : i < e) : M vs i e = max (rd vs i + M vs (i + 2) e) (M vs (i + 1) e) := by
  unfold M
  obtain ⟨d, hd⟩ : ∃ d, e - i = d + 1 := ⟨e - i - 1, by omega⟩
  rw [hd]
  cases d with
  | zero => rw [show e - (i + 2) = 0 by omega, show e - (i + 1) = 0 by omega]; simp [Mr]
  | succ d => rw [show e - (i + 2) = d by omega, show e - (i + 1) = d + 1 by omega]; simp [Mr]
/-- What values hold. -/
def Vals (vs : List Int) : Prop := vs.length ≤ 20 ∧ ∀ i : Nat, 0 ≤ rd vs i ∧ rd vs i ≤ 1000
theorem vals_of {vs : List Int} (h : vs.length ≤ 20) (hv : ∀ x ∈ vs, 0 ≤ x ∧ x ≤ 1000) : Vals vs := by
  refine ⟨h, fun i => ?_⟩
  by_cases c : i < vs.length
  · exact hv _ (rd_mem vs i c)
  · simp [rd, c]
theorem Mr_bound {vs : List Int} (hv : Vals vs) : ∀ d i, 0 ≤ Mr vs d i ∧ Mr vs d i ≤ 1000 * d := by
  intro d
  induction d using Nat.strongRecOn with
  | _ d ih =>
    intro i
    match d with
    | 0 => simp [Mr]
    | 1 => simp only [Mr]; have := hv.2 i; omega
    | d + 2 =>
      simp only [Mr]
      have h1 := ih d (by omega) (i + 2)
      have h2 := ih (d + 1) (by omega) (i + 1)
      have := hv.2 i
      omega
theorem M_bound {vs : List Int} (hv : Vals vs) (i e : Nat) (he : e ≤ 20) : 0 ≤ M vs i e ∧ M vs i e ≤ 20000 := by
  have := Mr_bound hv (e - i) i
  unfold M
  omega
theorem mx_eq (a b : Int) : mx a b = max a b := by unfold mx; omega
theorem rowLoot_l0 (vs : List Int) (hv : Vals vs) (e : Nat) (he : e ≤ vs.length) : ∀ i : Nat, i ≤ e → ∀ a b : Int, 0 ≤ a → a ≤ 1000 * i → 0 ≤ b → b ≤ 1000 * i →
    Ev (fun k => impl_rowLoot.l0 k vs e a b i) (max (a + M vs (i + 1) e) (b + M vs i e)) := by
  have hl := hv.1
  refine down e ?_ ?_
  · intro a b _ _ _ _
    refine succ ?_
    simp only [impl_rowLoot.l0]
    refine neg (by omega) (conv (now _) ?_)
    rw [M_none (by omega), M_none (by omega), mx_eq]
    omega
  · intro i hi ih a b h1 h2 h3 h4
    refine succ ?_
    simp only [impl_rowLoot.l0]
    have hb := hv.2 i
    rw [wnat (by omega), w64 (x := b + rd vs i) (by omega) (by omega), mx_eq]
    refine pos (by omega) (pos (by omega) (pos (by omega) ?_))
    refine conv (ih (b + rd vs i) (max a b) (by omega) (by omega) (by omega) (by omega)) ?_
    rw [M_rec hi, show i + 1 + 1 = i + 2 from rfl]
    omega
theorem rowLoot_f (vs : List Int) (hv : Vals vs) (i e : Nat) (he : e ≤ vs.length) : Ev (fun k => impl_rowLoot.f k vs i e) (M vs i e) := by
  have hl := hv.1
  unfold impl_rowLoot.f
  by_cases h : i ≤ e
  · refine conv (rowLoot_l0 vs hv e he i h 0 0 (by omega) (by omega) (by omega) (by omega)) ?_
    have b1 := M_bound hv (i + 1) e (by omega)
    by_cases c : i < e
    · rw [M_rec c]
      have b2 := M_bound hv (i + 2) e (by omega)
      have := hv.2 i
      omega
    · rw [M_none (by omega), M_none (by omega)]; rfl
  · refine succ ?_
    simp only [impl_rowLoot.l0]
    refine neg (by omega) (conv (now _) ?_)
    rw [M_none (by omega)]; rfl
/-- The greatest sum. -/
def Best (vs : List Int) (ring : Bool) : Int := if ring = true ∧ vs.length > 2 then max (M vs 1 vs.length) (rd vs 0 + M vs 2 (vs.length - 1)) else M vs 0 vs.length
theorem bestLoot_f (vs : List Int) (hv : Vals vs) (h1 : 1 ≤ vs.length) (ring : Bool) : Ev (fun k => impl_bestLoot.f k vs ring) (Best vs ring) := by
  have hl := hv.1
  unfold impl_bestLoot.f Best
  simp only [impl_ring, Option.bind_some]
  by_cases c : ring = true ∧ vs.length > 2
  · refine pos (by simp only [Bool.and_eq_true, decide_eq_true_eq]; exact ⟨c.1, by omega⟩) ?_
    rw [if_pos c]
    refine bind (rowLoot_f vs hv 1 vs.length (by omega)) (pos (by omega) ?_)
    rw [wsub1 (by omega), show (vs.length : Int) - 1 = ((vs.length - 1 : Nat) : Int) by omega]
    refine bind (rowLoot_f vs hv 2 (vs.length - 1) (by omega)) (conv (now _) ?_)
    have b1 := M_bound hv 2 (vs.length - 1) (by omega)
    have b2 := hv.2 0
    rw [mx_eq, w64 (by have := b2.1; simp at this; omega) (by have := b2.2; simp at this; omega)]
  · refine neg (fun h => c (by simp only [Bool.and_eq_true, decide_eq_true_eq] at h; exact ⟨h.1, by omega⟩)) ?_
    rw [if_neg c]
    exact bind (rowLoot_f vs hv 0 vs.length (by omega)) (now _)
/-- The sum of some houses' values. -/
def Sum (vs : List Int) (b : List Int) : Int := (b.map (rd vs)).sum
theorem sum_snoc (vs b : List Int) (i : Int) : Sum vs (b ++ [i]) = Sum vs b + rd vs i := by simp [Sum]
theorem sumL_eq (vs : List Int) (hv : Vals vs) : ∀ (b : List Int) (s : Int), (∀ x ∈ b, 0 ≤ x ∧ x < (vs.length : Int)) → 0 ≤ s → s + 1000 * b.length ≤ 9223372036854775807 → spec_rwLoot.sumL vs b s = some (s + Sum vs b) := by
  intro b
  induction b with
  | nil => intro s _ _ _; simp [spec_rwLoot.sumL, Sum]
  | cons i b ih =>
    intro s hb h0 h1
    simp only [spec_rwLoot.sumL]
    have hi := hb i (by simp)
    have bi : 0 ≤ rd vs i ∧ rd vs i ≤ 1000 := by
      obtain ⟨j, rfl⟩ := Int.eq_ofNat_of_zero_le hi.1
      exact hv.2 j
    rw [List.length_cons] at h1
    rw [if_pos hi, w64 (by omega) (by omega), ih _ (fun x hx => hb x (by simp [hx])) (by omega) (by omega)]
    simp only [Sum, List.map_cons, List.sum_cons]
    congr 1; omega
/-- What can be won beside some houses, from a house on. -/
noncomputable def Win (vs : List Int) (ring : Bool) (b : List Int) (i : Nat) : Int :=
  open Classical in if i = 0 then Best vs ring else M vs (if (i : Int) - 1 ∈ b then i + 1 else i) (if (ring = true ∧ vs.length > 2) ∧ (0 : Int) ∈ b then vs.length - 1 else vs.length)
theorem win_not {vs : List Int} {ring : Bool} {b : List Int} {i : Nat} (hv : Vals vs) (hb : BelowB b i) (hi : i < vs.length) (hf : ¬ free vs.length ring b i = true) : Win vs ring b i = Win vs ring b (i + 1) := by
  have fr := free_iff vs.length ring b i hi hb
  have h0 : i ≠ 0 := by
    rintro rfl
    apply hf
    have : b = [] := List.eq_nil_of_length_eq_zero (by have := hb.2; omega)
    rw [this]; simp [free]
  have hn : ¬ ((i + 1 : Nat) : Int) - 1 ∈ b := by
    intro m
    have := hb.1 _ m
    omega
  unfold Win
  rw [if_neg h0, if_neg (show ¬ i + 1 = 0 by omega), if_neg hn]
  by_cases c : (i : Int) - 1 ∈ b
  · rw [if_pos c]
  · rw [if_neg c]
    have : ¬ ¬ ((ring = true ∧ vs.length > 2) ∧ i + 1 = vs.length ∧ (0 : Int) ∈ b ∧ 0 < i) := fun g => hf (fr.2 ⟨c, g⟩)
    have g := Classical.not_not.1 this
    rw [if_pos ⟨g.1, g.2.2.1⟩, M_none (by omega), M_none (by omega)]
theorem win_free {vs : List Int} {ring : Bool} {b : List Int} {i : Nat} (hv : Vals vs) (hb : BelowB b i) (hi : i < vs.length) (hf : free vs.length ring b i = true) :
    Win vs ring b i = max (rd vs i + Win vs ring (b ++ [(i : Int)]) (i + 1)) (Win vs ring b (i + 1)) := by
  have fr := (free_iff vs.length ring b i hi hb).1 hf
  have hn : ¬ ((i + 1 : Nat) : Int) - 1 ∈ b := by
    intro m
    have := hb.1 _ m
    omega
  have hy : ((i + 1 : Nat) : Int) - 1 ∈ b ++ [(i : Int)] := by rw [show ((i + 1 : Nat) : Int) - 1 = (i : Int) by omega]; simp
  unfold Win
  rw [if_neg (show ¬ i + 1 = 0 by omega), if_neg (show ¬ i + 1 = 0 by omega), if_neg hn, if_pos hy]
  by_cases z : i = 0
  · subst z
    have hbn : b = [] := List.eq_nil_of_length_eq_zero (by have := hb.2; omega)
    subst hbn
    rw [if_pos rfl]
    unfold Best
    by_cases c : ring = true ∧ vs.length > 2
    · rw [if_pos c, if_pos ⟨c, by simp⟩, if_neg (by simp)]
      simp only [Int.natCast_zero]
      rw [Int.max_comm]
    · rw [if_neg c, if_neg (fun h => c h.1), if_neg (fun h => c h.1), M_rec hi]
  · rw [if_neg z, if_neg fr.1]
    have e : (0 : Int) ∈ b ++ [(i : Int)] ↔ (0 : Int) ∈ b := by
      rw [List.mem_append, List.mem_singleton]
      exact ⟨fun h => h.resolve_right (by omega), .inl⟩
    by_cases c : (ring = true ∧ vs.length > 2) ∧ (0 : Int) ∈ b
    · rw [if_pos c, if_pos ⟨c.1, e.2 c.2⟩]
      have : i < vs.length - 1 := by
        rcases Nat.lt_or_ge i (vs.length - 1) with h | h
        · exact h
        · exact absurd ⟨c.1, by omega, c.2, by omega⟩ fr.2
      exact M_rec this
    · rw [if_neg c, if_neg (fun h => c ⟨h.1, e.1 h.2⟩)]
      exact M_rec hi
theorem win_nonneg {vs : List Int} {ring : Bool} {b : List Int} {i : Nat} (hv : Vals vs) : 0 ≤ Win vs ring b i := by
  have hl := hv.1
  unfold Win Best
  have h0 := hv.2 0
  have a1 := M_bound hv 1 vs.length hl
  have a2 := M_bound hv 2 (vs.length - 1) (by omega)
  have a3 := M_bound hv 0 vs.length hl
  split
  · split
    · omega
    · omega
  · split <;> split <;> exact (M_bound hv _ _ (by omega)).1
theorem win_end {vs : List Int} {ring : Bool} {b : List Int} (hv : Vals vs) (h1 : 1 ≤ vs.length) : Win vs ring b vs.length = 0 := by
  unfold Win
  rw [if_neg (by omega)]
  split <;> split <;> exact M_none (by omega)
open Classical in
/-- The first loot with the greatest sum, of those that go on from some houses. -/
noncomputable def Greedy (vs : List Int) (ring : Bool) : Nat → List Int → Nat → List Int
  | 0, b, _ => b
  | d + 1, b, i => if Win vs ring b i = 0 then b else if free vs.length ring b i = true ∧ rd vs i + Win vs ring (b ++ [(i : Int)]) (i + 1) = Win vs ring b i then Greedy vs ring d (b ++ [(i : Int)]) (i + 1) else Greedy vs ring d b (i + 1)
theorem bestL_append (vs : List Int) : ∀ (xs ys : List (List Int)) (m : Int) (t : List Int), spec_rwLoot.bestL vs (xs ++ ys) m t = (spec_rwLoot.bestL vs xs m t).bind fun r => spec_rwLoot.bestL vs ys r.1 r.2 := by
  intro xs
  induction xs with
  | nil => intro ys m t; simp [spec_rwLoot.bestL]
  | cons x xs ih =>
    intro ys m t
    simp only [List.cons_append, spec_rwLoot.bestL]
    cases spec_rwLoot.sumL vs x 0 with
    | none => rfl
    | some s =>
      simp only [Option.bind_some]
      split
      · exact ih _ _ _
      · exact ih _ _ _
theorem best_one {vs : List Int} {b : List Int} {i : Nat} (hv : Vals vs) (hb : BelowB b i) (hi : i ≤ vs.length) : spec_rwLoot.sumL vs b 0 = some (Sum vs b) := by
  have h1 := hb.2
  have h2 := hv.1
  rw [sumL_eq vs hv b 0 (fun x hx => by have := hb.1 x hx; omega) (by omega) (by omega)]
  simp
/-- What both folds tell: no more than can be won; and the first with all of it. -/
theorem best_from (vs : List Int) (ring : Bool) (hv : Vals vs) (h1 : 1 ≤ vs.length) : ∀ d : Nat, ∀ i : Nat, i + d = vs.length → ∀ b, BelowB b i → ∀ (m : Int) (t : List Int),
    (m ≥ Sum vs b + Win vs ring b i → spec_rwLoot.bestL vs (lootsFrom vs.length ring d b i) m t = some (m, t)) ∧
    (m < Sum vs b + Win vs ring b i → 0 < Win vs ring b i → spec_rwLoot.bestL vs (lootsFrom vs.length ring d b i) m t = some (Sum vs b + Win vs ring b i, Greedy vs ring d b i)) := by
  intro d
  induction d with
  | zero =>
    intro i h b hb m t
    obtain rfl : i = vs.length := by omega
    rw [win_end hv h1]
    exact ⟨fun _ => rfl, fun _ g => by omega⟩
  | succ d ih =>
    intro i h b hb m t
    have hi : i < vs.length := by omega
    have IH := ih (i + 1) (by omega)
    have nn := win_nonneg (ring := ring) (b := b) (i := i + 1) hv
    have c1 : ((i : Int) + 1) = ((i + 1 : Nat) : Int) := by omega
    simp only [lootsFrom]
    rw [c1]
    by_cases hf : free vs.length ring b i = true
    · have W := win_free hv hb hi hf
      have nn2 := win_nonneg (ring := ring) (b := b ++ [(i : Int)]) (i := i + 1) hv
      have hb1 := belowB_snoc hb
      have one := best_one hv hb1 (by omega)
      have S := sum_snoc vs b (i : Int)
      rw [if_pos hf, List.cons_append]
      simp only [spec_rwLoot.bestL]
      rw [one]
      simp only [Option.bind_some, bestL_append]
      constructor
      · intro g
        rw [if_neg (by omega), (IH _ hb1 m t).1 (by omega)]
        simp only [Option.bind_some]
        exact (IH b (belowB_step hb) m t).1 (by omega)
      · intro g g0
        by_cases c : rd vs i + Win vs ring (b ++ [(i : Int)]) (i + 1) = Win vs ring b i
        · have hG : Greedy vs ring (d + 1) b i = Greedy vs ring d (b ++ [(i : Int)]) (i + 1) := by
            simp only [Greedy]
            rw [if_neg (by omega), if_pos ⟨hf, c⟩]
          rw [hG]
          by_cases z : Win vs ring (b ++ [(i : Int)]) (i + 1) = 0
          · rw [if_pos (by omega), (IH _ hb1 _ _).1 (by omega)]
            simp only [Option.bind_some]
            rw [(IH b (belowB_step hb) _ _).1 (by omega)]
            have : Greedy vs ring d (b ++ [(i : Int)]) (i + 1) = b ++ [(i : Int)] := by
              cases d with
              | zero => rfl
              | succ d => simp only [Greedy]; rw [if_pos z]
            rw [this]
            congr 2; omega
          · by_cases q : Sum vs (b ++ [(i : Int)]) > m
            · rw [if_pos q, (IH _ hb1 _ _).2 (by omega) (by omega)]
              simp only [Option.bind_some]
              rw [(IH b (belowB_step hb) _ _).1 (by omega)]
              congr 2; omega
            · rw [if_neg q, (IH _ hb1 _ _).2 (by omega) (by omega)]
              simp only [Option.bind_some]
              rw [(IH b (belowB_step hb) _ _).1 (by omega)]
              congr 2; omega
        · have hG : Greedy vs ring (d + 1) b i = Greedy vs ring d b (i + 1) := by
            simp only [Greedy]
            rw [if_neg (by omega), if_neg (fun h => c h.2)]
          have eW : Win vs ring b i = Win vs ring b (i + 1) := by omega
          rw [hG, eW]
          rw [eW] at g g0 c W
          have fin : ∀ m' t', m' < Sum vs b + Win vs ring b (i + 1) → spec_rwLoot.bestL vs (lootsFrom vs.length ring d b ((i + 1 : Nat) : Int)) m' t' = some (Sum vs b + Win vs ring b (i + 1), Greedy vs ring d b (i + 1)) := fun m' t' q => (IH b (belowB_step hb) m' t').2 q g0
          by_cases q : Sum vs (b ++ [(i : Int)]) > m
          · rw [if_pos q]
            by_cases z : Win vs ring (b ++ [(i : Int)]) (i + 1) = 0
            · rw [(IH _ hb1 _ _).1 (by omega)]
              simp only [Option.bind_some]
              exact fin _ _ (by omega)
            · rw [(IH _ hb1 _ _).2 (by omega) (by omega)]
              simp only [Option.bind_some]
              exact fin _ _ (by omega)
          · rw [if_neg q]
            by_cases z : m ≥ Sum vs (b ++ [(i : Int)]) + Win vs ring (b ++ [(i : Int)]) (i + 1)
            · rw [(IH _ hb1 _ _).1 z]
              simp only [Option.bind_some]
              exact fin _ _ (by omega)
            · rw [(IH _ hb1 _ _).2 (by omega) (by omega)]
              simp only [Option.bind_some]
              exact fin _ _ (by omega)
    · have W := win_not hv hb hi hf
      rw [if_neg hf, List.nil_append, W]
      refine ⟨(IH b (belowB_step hb) m t).1, fun g g0 => ?_⟩
      rw [(IH b (belowB_step hb) m t).2 g g0]
      simp only [Greedy]
      rw [if_neg (by omega), if_neg (fun h => hf h.1)]
theorem rwLoot_f (vs : List Int) (hv : Vals vs) (h1 : 1 ≤ vs.length) (ring : Bool) : Ev (fun k => spec_rwLoot.f k vs ring) (Best vs ring, Greedy vs ring vs.length [] 0) := by
  unfold spec_rwLoot.f
  refine bind (rwLoots_f vs.length ring hv.1) (ofEq ?_)
  have b0 : BelowB [] 0 := ⟨fun x hx => by simp at hx, by simp⟩
  have eW : Win vs ring [] 0 = Best vs ring := by unfold Win; rw [if_pos rfl]
  have bf := best_from vs ring hv h1 vs.length 0 (by omega) [] b0 0 []
  have nn := win_nonneg (ring := ring) (b := []) (i := 0) hv
  rw [eW] at bf nn
  have s0 : Sum vs [] = 0 := rfl
  rw [s0] at bf
  simp only [spec_rwLoot.bestL, spec_rwLoot.sumL, Option.bind_some]
  rw [if_pos (by omega)]
  by_cases z : Best vs ring = 0
  · have g := bf.1 (by omega)
    simp only [Int.natCast_zero] at g
    rw [g, z]
    have : Greedy vs ring vs.length [] 0 = [] := by
      cases hl : vs.length with
      | zero => rfl
      | succ d => simp only [Greedy]; rw [if_pos (by rw [eW]; exact z)]
    rw [this]
  · have g := bf.2 (by omega) (by omega)
    simp only [Int.natCast_zero] at g
    rw [g]
    congr 2; omega

theorem greedy_len (vs : List Int) (ring : Bool) : ∀ d b i, (Greedy vs ring d b i).length ≤ b.length + d := by
  intro d
  induction d with
  | zero => intro b i; simp [Greedy]
  | succ d ih =>
    intro b i
    simp only [Greedy]
    split
    · omega
    · split
      · have := ih (b ++ [(i : Int)]) (i + 1)
        rw [List.length_append] at this
        simp at this
        omega
      · have := ih b (i + 1); omega
theorem greedy_zero {vs : List Int} {ring : Bool} {d i : Nat} {b : List Int} (h : Win vs ring b i = 0) : Greedy vs ring d b i = b := by
  cases d with
  | zero => rfl
  | succ d => simp only [Greedy]; rw [if_pos h]
/-- The house where the row ends. -/
noncomputable def End (vs : List Int) (ring : Bool) (b : List Int) : Nat := open Classical in if (ring = true ∧ vs.length > 2) ∧ (0 : Int) ∈ b then vs.length - 1 else vs.length
theorem win_is {vs : List Int} {ring : Bool} {b : List Int} {i : Nat} (h0 : i ≠ 0) (h : ¬ (i : Int) - 1 ∈ b) : Win vs ring b i = M vs i (End vs ring b) := by
  unfold Win End
  rw [if_neg h0, if_neg h]
theorem win_snoc {vs : List Int} {ring : Bool} {b : List Int} {i : Nat} : Win vs ring (b ++ [(i : Int)]) (i + 1) = M vs (i + 2) (End vs ring (b ++ [(i : Int)])) := by
  unfold Win End
  rw [if_neg (show ¬ i + 1 = 0 by omega), if_pos (by rw [show ((i + 1 : Nat) : Int) - 1 = (i : Int) by omega]; simp)]
theorem end_snoc {vs : List Int} {ring : Bool} {b : List Int} {i : Nat} (h : i ≠ 0) : End vs ring (b ++ [(i : Int)]) = End vs ring b := by
  have e : (0 : Int) ∈ b ++ [(i : Int)] ↔ (0 : Int) ∈ b := by
    rw [List.mem_append, List.mem_singleton]
    exact ⟨fun h => h.resolve_right (by omega), .inl⟩
  unfold End
  simp only [e]
theorem end_le (vs : List Int) (ring : Bool) (b : List Int) : End vs ring b ≤ vs.length := by unfold End; split <;> omega
theorem first_stop (vs : List Int) (ring : Bool) (b : List Int) (e i : Int) : Ev (fun k => impl_FirstLoot.l0 k vs ring b 0 e i) (b, true) := by
  refine succ ?_
  simp only [impl_FirstLoot.l0]
  exact neg (by omega) (now _)
theorem first_loot (vs : List Int) (ring : Bool) (hv : Vals vs) (h1 : 1 ≤ vs.length) : ∀ d : Nat, ∀ i : Nat, i + d = vs.length → ∀ b, BelowB b i → ¬ (i : Int) - 1 ∈ b →
    Ev (fun k => impl_FirstLoot.l0 k vs ring b (Win vs ring b i) (End vs ring b) i) (Greedy vs ring d b i, true) := by
  have hl := hv.1
  intro d
  induction d using Nat.strongRecOn with
  | _ d ih =>
  intro i hid b hb hp
  have nn := win_nonneg (ring := ring) (b := b) (i := i) hv
  by_cases z : Win vs ring b i = 0
  · rw [z, greedy_zero z]
    exact first_stop _ _ _ _ _
  have hi : i < vs.length := by
    rcases Nat.lt_or_ge i vs.length with h | h
    · exact h
    · obtain rfl : i = vs.length := by omega
      exact absurd (win_end hv h1) z
  obtain ⟨d, rfl⟩ : ∃ d', d = d' + 1 := ⟨d - 1, by omega⟩
  have hf : free vs.length ring b i = true := by
    rw [free_iff vs.length ring b i hi hb]
    refine ⟨hp, fun c => z ?_⟩
    rw [win_is (by omega) hp, M_none]
    unfold End
    rw [if_pos ⟨c.1, c.2.2.1⟩]
    omega
  have bi := hv.2 i
  have W := win_free hv hb hi hf
  have ws := win_snoc (vs := vs) (ring := ring) (b := b) (i := i)
  have el := end_le vs ring (b ++ [(i : Int)])
  have bm := M_bound hv (i + 2) (End vs ring (b ++ [(i : Int)])) (by omega)
  have hpn : ¬ ((i + 1 : Nat) : Int) - 1 ∈ b := by
    intro m
    have := hb.1 _ m
    omega
  -- the step, whatever the end
  have take : rd vs i + M vs (i + 2) (End vs ring (b ++ [(i : Int)])) = Win vs ring b i → Ev (fun k => impl_FirstLoot.l0 k vs ring (b ++ [(i : Int)]) (wrap64 (Win vs ring b i - rd vs i)) (End vs ring (b ++ [(i : Int)])) (wrap64 ((wrap64 ((i : Int) + 1)) + 1))) (Greedy vs ring (d + 1) b i, true) := by
    intro c
    have hG : Greedy vs ring (d + 1) b i = Greedy vs ring d (b ++ [(i : Int)]) (i + 1) := by
      simp only [Greedy]
      rw [if_neg z, if_pos ⟨hf, by rw [ws]; exact c⟩]
    rw [w64 (x := Win vs ring b i - rd vs i) (by omega) (by omega), show Win vs ring b i - rd vs i = Win vs ring (b ++ [(i : Int)]) (i + 1) by omega, wnat (by omega), wnat (by omega), hG]
    by_cases y : Win vs ring (b ++ [(i : Int)]) (i + 1) = 0
    · rw [y, greedy_zero y]
      exact first_stop _ _ _ _ _
    · have hi1 : i + 1 < vs.length := by
        rcases Nat.lt_or_ge (i + 1) vs.length with h | h
        · exact h
        · obtain e : i + 1 = vs.length := by omega
          rw [e] at y
          exact absurd (win_end hv h1) y
      obtain ⟨d, rfl⟩ : ∃ d', d = d' + 1 := ⟨d - 1, by omega⟩
      have hb1 := belowB_snoc hb
      have nf : ¬ free vs.length ring (b ++ [(i : Int)]) ((i + 1 : Nat) : Int) = true := by
        rw [free_iff vs.length ring _ (i + 1) hi1 hb1]
        intro h
        apply h.1
        rw [show ((i + 1 : Nat) : Int) - 1 = (i : Int) by omega]; simp
      have hG2 : Greedy vs ring (d + 1) (b ++ [(i : Int)]) (i + 1) = Greedy vs ring d (b ++ [(i : Int)]) (i + 2) := by
        simp only [Greedy]
        rw [if_neg y, if_neg (fun h => nf h.1)]
      rw [hG2, win_not hv hb1 hi1 nf]
      refine ih d (by omega) (i + 2) (by omega) _ (belowB_step hb1) ?_
      intro m
      have := hb1.1 _ m
      omega
  have skip : rd vs i + M vs (i + 2) (End vs ring (b ++ [(i : Int)])) ≠ Win vs ring b i → Ev (fun k => impl_FirstLoot.l0 k vs ring b (Win vs ring b i) (End vs ring b) (wrap64 ((i : Int) + 1))) (Greedy vs ring (d + 1) b i, true) := by
    intro c
    have hG : Greedy vs ring (d + 1) b i = Greedy vs ring d b (i + 1) := by
      simp only [Greedy]
      rw [if_neg z, if_neg (fun h => c (by rw [← ws]; exact h.2))]
    rw [wnat (by omega), hG, show Win vs ring b i = Win vs ring b (i + 1) by omega]
    exact ih d (by omega) (i + 1) (by omega) b (belowB_step hb) hpn
  have c2 : wrap64 ((i : Int) + 2) = ((i + 2 : Nat) : Int) := by rw [w64 (by omega) (by omega)]; omega
  have hbl := hb.2
  have npos : Win vs ring b i > 0 := by clear W ws take skip bm; omega
  clear W ws nn hpn hp
  refine succ ?_
  simp only [impl_FirstLoot.l0]
  refine pos npos ?_
  by_cases i0 : i = 0
  · subst i0
    have hbn : b = [] := List.eq_nil_of_length_eq_zero (by omega)
    subst hbn
    refine pos rfl ?_
    simp only [impl_ring, Option.bind_some]
    have e0 : End vs ring [] = vs.length := by unfold End; rw [if_neg (fun h => by simp at h)]
    have e1 : End vs ring ([] ++ [((0 : Nat) : Int)]) = if ring = true ∧ vs.length > 2 then vs.length - 1 else vs.length := by
      unfold End
      simp
    rw [e0] at skip ⊢
    refine succ ?_
    simp only [impl_FirstLoot.j1]
    by_cases c : ring = true ∧ vs.length > 2
    · rw [if_pos c] at e1
      rw [e1] at take skip bm
      refine pos (by simp only [Bool.and_eq_true, decide_eq_true_eq]; exact ⟨c.1, by omega⟩) (pos (by omega) (pos (by omega) ?_))
      rw [wsub1 (by omega), show (vs.length : Int) - 1 = ((vs.length - 1 : Nat) : Int) by omega, c2]
      refine bind (rowLoot_f vs hv (0 + 2) (vs.length - 1) (by omega)) ?_
      rw [w64 (x := rd vs ((0 : Nat) : Int) + M vs (0 + 2) (vs.length - 1)) (by omega) (by omega)]
      by_cases q : rd vs ((0 : Nat) : Int) + M vs (0 + 2) (vs.length - 1) = Win vs ring [] 0
      · exact pos q (pos (by simp) (take q))
      · exact neg q (skip q)
    · rw [if_neg c] at e1
      rw [e1] at take skip bm
      refine neg (fun h => c (by simp only [Bool.and_eq_true, decide_eq_true_eq] at h; exact ⟨h.1, by omega⟩)) (pos (by omega) (pos (by omega) ?_))
      rw [c2]
      refine bind (rowLoot_f vs hv (0 + 2) vs.length (by omega)) ?_
      rw [w64 (x := rd vs ((0 : Nat) : Int) + M vs (0 + 2) vs.length) (by omega) (by omega)]
      by_cases q : rd vs ((0 : Nat) : Int) + M vs (0 + 2) vs.length = Win vs ring [] 0
      · exact pos q (pos (by simp) (take q))
      · exact neg q (skip q)
  · rw [end_snoc i0] at take skip bm
    have el := end_le vs ring b
    refine neg (by exact_mod_cast i0) ?_
    refine succ ?_
    simp only [impl_FirstLoot.j1]
    refine neg (by simp) (pos (by omega) (pos (by omega) ?_))
    rw [c2]
    refine bind (rowLoot_f vs hv (i + 2) (End vs ring b) (by omega)) ?_
    rw [w64 (x := rd vs (i : Int) + M vs (i + 2) (End vs ring b)) (by omega) (by omega)]
    by_cases q : rd vs (i : Int) + M vs (i + 2) (End vs ring b) = Win vs ring b i
    · exact pos q (pos (by omega) (take q))
    · exact neg q (skip q)

/-- What a marked row holds: 1, 2, .. -/
def marked (n : Nat) : List Int := (List.range n).map fun (j : Nat) => (j : Int) + 1
theorem markIntS_l0 (n : Nat) (hn : n ≤ 35184372088832) : ∀ i : Nat, i ≤ n → ∀ ys : List Int, ys.length = n → (∀ j : Nat, j < i → ys.getD j 0 = (j : Int) + 1) → Ev (fun k => laws_markIntS.l0 k ys ((i : Int) + 1) i) ((n : Int) + 1, marked n) := by
  refine down n ?_ ?_
  · intro ys hl hy
    refine succ ?_
    simp only [laws_markIntS.l0]
    refine neg (by omega) (conv (now _) ?_)
    congr 1
    refine List.ext_getElem (by simp [marked, hl]) (fun j h1 h2 => ?_)
    have := hy j (by omega)
    simp only [marked, List.getElem_map, List.getElem_range]
    simpa [h1] using this
  · intro i hi ih ys hl hy
    refine succ ?_
    simp only [laws_markIntS.l0]
    rw [wnat (by omega), w64 (x := (i : Int) + 1 + 1) (by omega) (by omega), show (i : Int) + 1 + 1 = ((i + 1 : Nat) : Int) + 1 by omega]
    refine pos (by omega) (pos (by omega) ?_)
    refine ih _ (by simp [hl]) (fun j hj => ?_)
    simp only [Int.toNat_natCast]
    by_cases e : j = i
    · subst e
      simp [hl, hi]
    · rw [List.getD_eq_getElem?_getD, List.getElem?_set_ne (Ne.symm e), ← List.getD_eq_getElem?_getD]
      exact hy j (by omega)
theorem markIntS_f (xs : List Int) (hn : xs.length ≤ 35184372088832) : Ev (fun k => laws_markIntS.f k xs 1) ((xs.length : Int) + 1, marked xs.length) := by
  unfold laws_markIntS.f
  exact markIntS_l0 xs.length hn 0 (by omega) xs rfl (fun j hj => by omega)
theorem marked_rd (n i : Nat) (h : i < n) : rd (marked n) (i : Int) = (i : Int) + 1 := by
  rw [rd_lt _ _ (by simpa [marked] using h)]
  simp [marked]
theorem heldIntS_l0 (n : Nat) (hn : n ≤ 35184372088832) : ∀ i : Nat, i ≤ n → Ev (fun k => laws_heldIntS.l0 k (marked n) ((i : Int) + 1) i) ((n : Int) + 1) := by
  have hl : (marked n).length = n := by simp [marked]
  refine down n ?_ ?_
  · refine succ ?_
    simp only [laws_heldIntS.l0]
    exact neg (by omega) (now _)
  · intro i hi ih
    refine succ ?_
    simp only [laws_heldIntS.l0]
    rw [wnat (by omega), w64 (x := (i : Int) + 1 + 1) (by omega) (by omega), show (i : Int) + 1 + 1 = ((i + 1 : Nat) : Int) + 1 by omega]
    exact pos (by omega) (pos (by omega) (pos (marked_rd n i hi) ih))
theorem heldIntS_f (n : Nat) (hn : n ≤ 35184372088832) : Ev (fun k => laws_heldIntS.f k (marked n) 1) ((n : Int) + 1) := by
  unfold laws_heldIntS.f
  exact heldIntS_l0 n hn 0 (by omega)

theorem both_same (vs : List Int) (ring : Bool) (hl : vs.length ≤ 1048576) : ∃ v : List Int × Bool, v.1.length ≤ 20 ∧ Ev (fun k => spec_FirstLoot.f k vs ring) v ∧ Ev (fun k => impl_FirstLoot.f k vs ring) v := by
  unfold spec_FirstLoot.f impl_FirstLoot.f
  by_cases c : (1 ≤ vs.length ∧ vs.length ≤ 20) ∧ ∀ x ∈ vs, 0 ≤ x ∧ x ≤ 1000
  · have hv := vals_of c.1.2 c.2
    have gl := greedy_len vs ring vs.length [] 0
    have hn := hv.1
    refine ⟨(Greedy vs ring vs.length [] 0, true), by simp at gl ⊢; omega, bind (values_spec vs (by omega)) (pos (by simpa using c) (bind (rwLoot_f vs hv c.1.1 ring) (now _))), bind (values_impl vs (by omega)) (pos (by simpa using c) (bind (bestLoot_f vs hv c.1.1 ring) ?_))⟩
    have g := first_loot vs ring hv c.1.1 vs.length 0 (by omega) [] ⟨fun x hx => by simp at hx, by simp⟩ (by simp)
    have eW : Win vs ring [] 0 = Best vs ring := by unfold Win; rw [if_pos rfl]
    have eE : End vs ring [] = vs.length := by unfold End; rw [if_neg (fun h => by simp at h)]
    rw [eW, eE] at g
    exact g
  · exact ⟨([], false), by simp, bind (values_spec vs (by omega)) (neg (by simpa using c) (now _)), bind (values_impl vs (by omega)) (neg (by simpa using c) (now _))⟩
theorem FnExactFirstLoot : laws_FnExactFirstLoot.Pure := by
  intro xs r hm hs hw
  refine Ev.rounds ?_
  unfold laws_FnExactFirstLoot.f
  by_cases h : (xs.length : Int) > 1048576
  · exact pos h (now _)
  · refine neg h ?_
    have hl : xs.length ≤ 35184372088832 := by omega
    obtain ⟨v, vl, h1, h2⟩ := both_same xs r (by omega)
    have hvl : v.1.length ≤ 35184372088832 := by omega
    refine bind (toIntS_f xs hl) (bind h1 (bind (toIntS_f xs hl) (bind h2 (bind (eqIntS_same _ hvl) ?_))))
    refine pos rfl (succ ?_)
    simp only [laws_FnExactFirstLoot.j0]
    refine neg (by simp) (bind (toIntS_f xs hl) (bind (eqIntS_same xs hl) (pos rfl (bind (markIntS_f xs hl) (neg (by omega) (bind (eqIntS_same _ hvl) (pos rfl (succ ?_))))))))
    simp only [laws_FnExactFirstLoot.j1]
    refine neg (by simp) (bind (markIntS_f v.1 hvl) (bind (heldIntS_f _ hvl) (neg (by omega) (pos rfl (bind (toIntS_f xs hl) (bind h2 (bind (eqIntS_same _ hvl) (pos rfl (succ ?_)))))))))
    simp only [laws_FnExactFirstLoot.j2]
    exact neg (by simp) (bind (heldIntS_f _ hvl) (neg (by omega) (pos rfl (now _))))

end Go.Proofs.Ytbchfajbobploaa.Pure
