/- The plain law of FnExactCenterHouses: what the printed functions compute answers true at every input within the bounds that the print tells. -/
import Derived.Test.YtgpnnepagfnfgaaMAx5
import Derived.Test.YtgpnnepagfnfgaaLib
namespace Go.Proofs.Ytgpnnepagfnfgaa.Pure
open Go.RowKit Go.Proofs.Ytgpnnepagfnfgaa.MA Go.Proofs.YtgpnnepagfnfgaaW.PrintWords Go.Proofs.YtgpnnepagfnfgaaW.PrintLast Go.Proofs.YtgpnnepagfnfgaaW.PrintMore Go.Proofs.Ytgpnnepagfnfgaa.Lib
set_option linter.unusedVariables false
set_option linter.unusedSimpArgs false

theorem spec_in (a b c : Int) : spec_l1In.f a b c = some (decide (b ≤ a ∧ a ≤ c)) := by
  unfold spec_l1In.f
  by_cases h : a ≥ b
  · rw [if_pos h]; simp [show b ≤ a from h]
  · rw [if_neg h]; simp [show ¬ b ≤ a from h]
theorem impl_in (a b c : Int) : impl_within.f a b c = some (decide (b ≤ a ∧ a ≤ c)) := by
  unfold impl_within.f
  by_cases h : a ≥ b
  · rw [if_pos h]; simp [show b ≤ a from h]
  · rw [if_neg h]; simp [show ¬ b ≤ a from h]

theorem toIntS_l0 (xs : List Int) (hx : xs.length ≤ 35184372088832) : ∀ i : Nat, i ≤ xs.length → ∀ ys : List Int, ys.length = xs.length → (∀ j : Nat, j < i → ys.getD j 0 = xs.getD j 0) → Ev (fun k => laws_toIntS.l0 k xs ys i) xs := by
  refine down xs.length ?_ ?_
  · intro ys hl hy
    refine succ ?_
    simp only [laws_toIntS.l0]
    refine neg (by omega) (conv (now _) ?_)
    refine List.ext_getElem hl (fun j h1 h2 => ?_)
    have := hy j h2
    simpa [h1, h2] using this
  · intro i hi ih ys hl hy
    refine succ ?_
    simp only [laws_toIntS.l0]
    rw [wnat (by omega)]
    refine pos (by omega) (pos (by omega) (pos (by omega) ?_))
    refine ih _ (by simp [hl]) (fun j hj => ?_)
    simp only [Int.toNat_natCast, rd_nat]
    by_cases e : j = i
    · subst e
      simp [hl, hi]
    · rw [List.getD_eq_getElem?_getD, List.getElem?_set_ne (Ne.symm e), ← List.getD_eq_getElem?_getD]
      exact hy j (by omega)
theorem toIntS_f (xs : List Int) (hx : xs.length ≤ 35184372088832) : Ev (fun k => laws_toIntS.f k xs) xs := by
  unfold laws_toIntS.f
  refine pos (by omega) (pos (by omega) ?_)
  exact toIntS_l0 xs hx 0 (by omega) _ (by simp) (fun j hj => by omega)
theorem eqIntS_l0 (xs ys : List Int) (hx : xs.length ≤ 35184372088832) (hl : xs.length = ys.length) : ∀ i : Nat, i ≤ xs.length → Ev (fun k => laws_eqIntS.l0 k xs ys i) (decide (xs.drop i = ys.drop i)) := by
  refine down xs.length ?_ ?_
  · refine succ ?_
    simp only [laws_eqIntS.l0]
    exact neg (by omega) (conv (now _) (by simp [hl]))
  · intro i hi ih
    refine succ ?_
    simp only [laws_eqIntS.l0]
    rw [wnat (by omega)]
    refine pos (by omega) (pos (by omega) (pos (by omega) ?_))
    rw [rd_lt xs i hi, rd_lt ys i (by omega)]
    by_cases e : xs[i] = ys[i]'(by omega)
    · exact pos e (conv ih (by rw [decide_eq_decide, drop_iff hi (by omega)]; exact ⟨fun h => ⟨e, h⟩, fun h => h.2⟩))
    · exact neg e (conv (now _) (Eq.symm (decide_eq_false (by rw [drop_iff hi (by omega)]; exact fun h => e h.1))))
theorem eqIntS_f (xs ys : List Int) (hx : xs.length ≤ 35184372088832) : Ev (fun k => laws_eqIntS.f k xs ys) (decide (xs = ys)) := by
  unfold laws_eqIntS.f
  by_cases e : xs.length = ys.length
  · exact pos (by omega) (conv (eqIntS_l0 xs ys hx e 0 (by omega)) (by simp))
  · exact neg (by omega) (conv (now _) (by simp; intro h; exact e (by rw [h])))
theorem eqIntS_same (xs : List Int) (hx : xs.length ≤ 35184372088832) : Ev (fun k => laws_eqIntS.f k xs xs) true := conv (eqIntS_f xs xs hx) (by simp)

theorem spec_l1All_l0 (xs : List Int) (a b : Int) (hx : xs.length ≤ 35184372088832) : ∀ i : Nat, i ≤ xs.length → Ev (fun k => spec_l1All.l0 k a b xs xs.length i) (decide (∀ x ∈ xs.drop i, a ≤ x ∧ x ≤ b)) := by
  refine down xs.length ?_ ?_
  · refine succ ?_
    simp only [spec_l1All.l0]
    exact neg (by omega) (conv (now _) (by simp))
  · intro i hi ih
    refine succ ?_
    simp only [spec_l1All.l0, spec_in, Option.bind_some]
    rw [wnat (by omega)]
    refine pos (by omega) (pos (by omega) (pos (by omega) ?_))
    rw [rd_lt xs i hi]
    by_cases e : a ≤ xs[i] ∧ xs[i] ≤ b
    · exact pos (by simpa using e) (conv ih (by rw [decide_eq_decide, all_drop hi]; exact ⟨fun h => ⟨e, h⟩, fun h => h.2⟩))
    · exact neg (by simpa using e) (conv (now _) (Eq.symm (decide_eq_false (by rw [all_drop hi]; exact fun h => e h.1))))
theorem spec_l1All_f (xs : List Int) (a b : Int) (hx : xs.length ≤ 35184372088832) : Ev (fun k => spec_l1All.f k xs a b) (decide (∀ x ∈ xs, a ≤ x ∧ x ≤ b)) :=
  spec_l1All_l0 xs a b hx 0 (by omega)

theorem impl_allWithin_l0 (xs : List Int) (a b : Int) (hx : xs.length ≤ 35184372088832) : ∀ i : Nat, i ≤ xs.length → Ev (fun k => impl_allWithin.l0 k a b xs xs.length i) (decide (∀ x ∈ xs.drop i, a ≤ x ∧ x ≤ b)) := by
  refine down xs.length ?_ ?_
  · refine succ ?_
    simp only [impl_allWithin.l0]
    exact neg (by omega) (conv (now _) (by simp))
  · intro i hi ih
    refine succ ?_
    simp only [impl_allWithin.l0, impl_in, Option.bind_some]
    rw [wnat (by omega)]
    refine pos (by omega) (pos (by omega) (pos (by omega) ?_))
    rw [rd_lt xs i hi]
    by_cases e : a ≤ xs[i] ∧ xs[i] ≤ b
    · exact pos (by simpa using e) (conv ih (by rw [decide_eq_decide, all_drop hi]; exact ⟨fun h => ⟨e, h⟩, fun h => h.2⟩))
    · exact neg (by simpa using e) (conv (now _) (Eq.symm (decide_eq_false (by rw [all_drop hi]; exact fun h => e h.1))))
theorem impl_allWithin_f (xs : List Int) (a b : Int) (hx : xs.length ≤ 35184372088832) : Ev (fun k => impl_allWithin.f k xs a b) (decide (∀ x ∈ xs, a ≤ x ∧ x ≤ b)) :=
  impl_allWithin_l0 xs a b hx 0 (by omega)

/-- What people hold. -/
def Q (vs : List Int) : Prop := (1 ≤ vs.length ∧ vs.length ≤ 60) ∧ ∀ i : Nat, 0 ≤ rd vs i ∧ rd vs i ≤ 1000
theorem q_of {vs : List Int} (h : 1 ≤ vs.length ∧ vs.length ≤ 60) (hv : ∀ x ∈ vs, 0 ≤ x ∧ x ≤ 1000) : Q vs := by
  refine ⟨h, fun i => ?_⟩
  by_cases c : i < vs.length
  · exact hv _ (rd_mem vs i c)
  · simp [rd, c]
theorem spec_sum_l0 {vs : List Int} (hv : Q vs) : ∀ i : Nat, i ≤ vs.length → ∀ s : Int, 0 ≤ s → s ≤ 1000 * i → Ev (fun k => spec_mdSum.l0 k s vs vs.length i) (s + (vs.drop i).sum) := by
  have hl := hv.1
  refine down vs.length ?_ ?_
  · intro s _ _
    refine succ ?_
    simp only [spec_mdSum.l0]
    exact neg (by omega) (conv (now _) (by simp))
  · intro i hi ih s h0 h1
    have hb := hv.2 i
    refine succ ?_
    simp only [spec_mdSum.l0]
    rw [wnat (by omega), w64 (by omega) (by omega)]
    refine pos (by omega) (pos (by omega) (pos (by omega) (conv (ih _ (by omega) (by omega)) ?_)))
    rw [List.drop_eq_getElem_cons hi, List.sum_cons, rd_lt vs i hi]
    omega
theorem impl_sum_l0 {vs : List Int} (hv : Q vs) : ∀ i : Nat, i ≤ vs.length → ∀ s : Int, 0 ≤ s → s ≤ 1000 * i → Ev (fun k => impl_sumOf.l0 k s vs vs.length i) (s + (vs.drop i).sum) := by
  have hl := hv.1
  refine down vs.length ?_ ?_
  · intro s _ _
    refine succ ?_
    simp only [impl_sumOf.l0]
    exact neg (by omega) (conv (now _) (by simp))
  · intro i hi ih s h0 h1
    have hb := hv.2 i
    refine succ ?_
    simp only [impl_sumOf.l0]
    rw [wnat (by omega), w64 (by omega) (by omega)]
    refine pos (by omega) (pos (by omega) (pos (by omega) (conv (ih _ (by omega) (by omega)) ?_)))
    rw [List.drop_eq_getElem_cons hi, List.sum_cons, rd_lt vs i hi]
    omega
/-- People. -/
def People (vs : List Int) : Prop := ((1 ≤ vs.length ∧ vs.length ≤ 60) ∧ ∀ x ∈ vs, 0 ≤ x ∧ x ≤ 1000) ∧ 0 < vs.sum
instance (vs : List Int) : Decidable (People vs) := by unfold People; infer_instance
theorem good_spec (vs : List Int) (hx : vs.length ≤ 35184372088832) : Ev (fun k => spec_mdGood.f k vs) (decide (People vs)) := by
  unfold spec_mdGood.f
  rw [spec_in]
  refine bind (now _) ?_
  by_cases c : 1 ≤ (vs.length : Int) ∧ (vs.length : Int) ≤ 60
  · refine pos (by simpa using c) (bind (spec_l1All_f vs 0 1000 hx) ?_)
    by_cases d : ∀ x ∈ vs, 0 ≤ x ∧ x ≤ 1000
    · refine pos (by simpa using d) ?_
      unfold spec_mdSum.f
      refine conv (bind (spec_sum_l0 (q_of (by omega) d) 0 (by omega) 0 (by omega) (by omega)) (now _)) ?_
      rw [decide_eq_decide]
      simp only [List.drop_zero]
      exact ⟨fun g => ⟨⟨by omega, d⟩, by omega⟩, fun g => by have := g.2; omega⟩
    · refine neg (by simpa using d) (conv (now _) (Eq.symm (decide_eq_false (fun g => d g.1.2))))
  · refine neg (by simpa using c) (conv (now _) (Eq.symm (decide_eq_false (fun g => c (by have := g.1.1; omega)))))
theorem good_impl (vs : List Int) (hx : vs.length ≤ 35184372088832) : Ev (fun k => impl_ArePeople.f k vs) (decide (People vs)) := by
  unfold impl_ArePeople.f
  rw [impl_in]
  refine bind (now _) ?_
  by_cases c : 1 ≤ (vs.length : Int) ∧ (vs.length : Int) ≤ 60
  · refine pos (by simpa using c) (bind (impl_allWithin_f vs 0 1000 hx) ?_)
    by_cases d : ∀ x ∈ vs, 0 ≤ x ∧ x ≤ 1000
    · refine pos (by simpa using d) ?_
      unfold impl_sumOf.f
      refine conv (bind (impl_sum_l0 (q_of (by omega) d) 0 (by omega) 0 (by omega) (by omega)) (now _)) ?_
      rw [decide_eq_decide]
      simp only [List.drop_zero]
      exact ⟨fun g => ⟨⟨by omega, d⟩, by omega⟩, fun g => by have := g.2; omega⟩
    · refine neg (by simpa using d) (conv (now _) (Eq.symm (decide_eq_false (fun g => d g.1.2))))
  · refine neg (by simpa using c) (conv (now _) (Eq.symm (decide_eq_false (fun g => c (by have := g.1.1; omega)))))
theorem people_q {vs : List Int} (h : People vs) : Q vs := q_of h.1.1 h.1.2
/-- The distance of two houses. -/
def dist (a b : Int) : Int := ((a - b).natAbs : Int)
theorem spec_most (a b : Int) : spec_l1Most.f a b = some (max a b) := by
  unfold spec_l1Most.f
  split <;> congr 1 <;> omega
theorem spec_absd (a b : Int) (h1 : -9223372036854775808 < a - b) (h2 : a - b ≤ 9223372036854775807) : spec_l1Abs.f (wrap64 (a - b)) = some (dist a b) := by
  unfold spec_l1Abs.f dist
  rw [w64 (x := a - b) (by omega) (by omega), w64 (by omega) (by omega), spec_most]
  simp only [Option.bind_some]
  congr 1; omega

theorem impl_absd (a b : Int) (h1 : -9223372036854775808 < a - b) (h2 : a - b ≤ 9223372036854775807) : impl_absOf.f (wrap64 (a - b)) = some (dist a b) := by
  unfold impl_absOf.f dist mx
  rw [w64 (x := a - b) (by omega) (by omega), w64 (by omega) (by omega)]
  congr 1; split <;> omega
theorem mx_max (a b : Int) : mx a b = max a b := by unfold mx; omega
theorem impl_absd' (a b : Int) (h1 : -9223372036854775808 < a - b) (h2 : a - b ≤ 9223372036854775807) : impl_absOf.f (wrap64 (a - b)) = some (dist b a) := by
  rw [impl_absd a b h1 h2]; unfold dist; congr 1; omega

/-- All houses with the least number: from a house on. -/
def Lst (t : Int → Int) : Nat → Int → List Int → Int → List Int
  | 0, _, b, _ => b
  | d + 1, i, b, l => if b = [] ∨ t i < l then Lst t d (i + 1) [i] (t i) else if t i = l then Lst t d (i + 1) (b ++ [i]) l else Lst t d (i + 1) b l
theorem lst_len (t : Int → Int) : ∀ d i b l, (Lst t d i b l).length ≤ b.length + d := by
  intro d
  induction d with
  | zero => intro i b l; simp [Lst]
  | succ d ih =>
    intro i b l
    simp only [Lst]
    split
    · have := ih (i + 1) [i] (t i); simp at this; omega
    · split
      · have := ih (i + 1) (b ++ [i]) l; simp at this; omega
      · have := ih (i + 1) b l; omega
theorem best_l0 (t : Int → Int) (n : Nat) (hn : n ≤ 60) (xs : List Int) (hl : xs.length = n) (hx : ∀ i : Nat, i < n → rd xs i = t i) : ∀ i : Nat, i ≤ n → ∀ (b : List Int) (l : Int), b.length ≤ i → (b ≠ [] → (0 ≤ rd b 0 ∧ rd b 0 < n) ∧ t (rd b 0) = l) →
    Ev (fun k => spec_mdBest.l0 k xs b xs n i) (Lst t (n - i) i b l) := by
  refine down n ?_ ?_
  · intro b l _ _
    refine succ ?_
    simp only [spec_mdBest.l0]
    rw [Nat.sub_self]
    exact neg (by omega) (now _)
  · intro i hi ih b l hb hr
    rw [show n - i = (n - (i + 1)) + 1 by omega]
    simp only [Lst]
    have c1 : ((i : Int) + 1) = ((i + 1 : Nat) : Int) := by omega
    rw [c1]
    have rd1 : rd [(i : Int)] 0 = i := by simp [rd]
    have one := ih [(i : Int)] (t i) (by simp) (fun _ => by rw [rd1]; exact ⟨by omega, rfl⟩)
    refine succ ?_
    simp only [spec_mdBest.l0]
    refine pos (by omega) (pos (by omega) (pos (by omega) ?_))
    rw [hx i hi]
    by_cases e : b = []
    · subst e
      rw [if_pos (.inl rfl)]
      refine pos (by simp) (succ ?_)
      simp only [spec_mdBest.j1]
      rw [wnat (by omega)]
      exact pos (by simp) one
    · obtain ⟨⟨r0, r1⟩, rt⟩ := hr e
      have bl : 0 < b.length := List.length_pos_iff.2 e
      have hxr : rd xs (rd b 0) = l := by
        rw [← rt]
        obtain ⟨m, hm⟩ := Int.eq_ofNat_of_zero_le r0
        rw [hm]
        exact hx m (by omega)
      have rd2 : rd (b ++ [(i : Int)]) 0 = rd b 0 := by
        cases b with
        | nil => exact absurd rfl e
        | cons a b => simp [rd]
      refine neg (by omega) (pos (by omega) (pos (by omega) (pos (by omega) (succ ?_))))
      simp only [spec_mdBest.j1]
      rw [hxr, wnat (by omega)]
      by_cases f : t i < l
      · rw [if_pos (.inr f)]
        exact pos (by simpa using f) one
      · rw [if_neg (fun h => h.elim e f)]
        refine neg (by simpa using f) (pos (by omega) (pos (by omega) (pos (by omega) ?_)))
        by_cases g : t i = l
        · rw [if_pos g]
          refine pos g (pos (by omega) (ih _ _ (by simp; omega) (fun _ => ?_)))
          rw [rd2]
          exact ⟨⟨r0, r1⟩, rt⟩
        · rw [if_neg g]
          exact neg g (ih _ _ (by omega) (fun _ => ⟨⟨r0, r1⟩, rt⟩))
/-- A table. -/
def tbl (t : Int → Int) (n : Nat) : List Int := (List.range n).map fun (i : Nat) => t i
theorem tbl_rd (t : Int → Int) (n i : Nat) (h : i < n) : rd (tbl t n) i = t i := by
  rw [rd_lt _ _ (by simpa [tbl] using h)]
  simp [tbl]
theorem tbl_succ (t : Int → Int) (n : Nat) : tbl t (n + 1) = tbl t n ++ [t n] := by simp [tbl, List.range_succ]
theorem tbl_len (t : Int → Int) (n : Nat) : (tbl t n).length = n := by simp [tbl]

/-- The longest walk to a house, from a house on. -/
def Fk (vs : List Int) (h : Int) : Nat → Nat → Int → Int
  | 0, _, a => a
  | d + 1, i, a => Fk vs h d (i + 1) (if rd vs i > 0 then max a (dist i h) else a)
theorem spec_far (vs : List Int) (hv : Q vs) (h : Int) (h0 : 0 ≤ h) (h1 : h < vs.length) : Ev (fun k => spec_mdFar.f k vs h) (Fk vs h vs.length 0 0) := by
  have hl := hv.1
  have key : ∀ i : Nat, i ≤ vs.length → ∀ s : Int, Ev (fun k => spec_mdFar.l0 k h s vs vs.length i) (Fk vs h (vs.length - i) i s) := by
    refine down vs.length ?_ ?_
    · intro s
      refine succ ?_
      simp only [spec_mdFar.l0]
      rw [Nat.sub_self]
      exact neg (by omega) (now _)
    · intro i hi ih s
      refine succ ?_
      simp only [spec_mdFar.l0]
      rw [spec_absd _ _ (by omega) (by omega), wnat (by omega), show vs.length - i = (vs.length - (i + 1)) + 1 by omega]
      simp only [Fk, spec_most]
      refine pos (by omega) (pos (by omega) (pos (by omega) ?_))
      by_cases c : rd vs i > 0
      · rw [if_pos c]
        exact pos c (bind (now _) (bind (now _) (ih _)))
      · rw [if_neg c]
        exact neg c (ih _)
  unfold spec_mdFar.f
  exact conv (key 0 (by omega) 0) (by simp)
theorem impl_far (vs : List Int) (hv : Q vs) (h : Int) (h0 : 0 ≤ h) (h1 : h < vs.length) : Ev (fun k => impl_farthestTo.f k vs h) (Fk vs h vs.length 0 0) := by
  have hl := hv.1
  have key : ∀ i : Nat, i ≤ vs.length → ∀ s : Int, Ev (fun k => impl_farthestTo.l0 k h s vs vs.length i) (Fk vs h (vs.length - i) i s) := by
    refine down vs.length ?_ ?_
    · intro s
      refine succ ?_
      simp only [impl_farthestTo.l0]
      rw [Nat.sub_self]
      exact neg (by omega) (now _)
    · intro i hi ih s
      refine succ ?_
      simp only [impl_farthestTo.l0]
      rw [impl_absd _ _ (by omega) (by omega), wnat (by omega), show vs.length - i = (vs.length - (i + 1)) + 1 by omega]
      simp only [Fk, mx_max]
      refine pos (by omega) (pos (by omega) (pos (by omega) ?_))
      by_cases c : rd vs i > 0
      · rw [if_pos c]
        exact pos c (bind (now _) (ih _))
      · rw [if_neg c]
        exact neg c (ih _)
  unfold impl_farthestTo.f
  exact conv (key 0 (by omega) 0) (by simp)

/-- What a marked row holds: 1, 2, .. -/
def marked (n : Nat) : List Int := (List.range n).map fun (j : Nat) => (j : Int) + 1
theorem markIntS_l0 (n : Nat) (hn : n ≤ 35184372088832) : ∀ i : Nat, i ≤ n → ∀ ys : List Int, ys.length = n → (∀ j : Nat, j < i → ys.getD j 0 = (j : Int) + 1) → Ev (fun k => laws_markIntS.l0 k ys ((i : Int) + 1) i) ((n : Int) + 1, marked n) := by
  refine down n ?_ ?_
  · intro ys hl hy
    refine succ ?_
    simp only [laws_markIntS.l0]
    refine neg (by omega) (conv (now _) ?_)
    congr 1
    refine List.ext_getElem (by simp [marked, hl]) (fun j h1 h2 => ?_)
    have := hy j (by omega)
    simp only [marked, List.getElem_map, List.getElem_range]
    simpa [h1] using this
  · intro i hi ih ys hl hy
    refine succ ?_
    simp only [laws_markIntS.l0]
    rw [wnat (by omega), w64 (x := (i : Int) + 1 + 1) (by omega) (by omega), show (i : Int) + 1 + 1 = ((i + 1 : Nat) : Int) + 1 by omega]
    refine pos (by omega) (pos (by omega) ?_)
    refine ih _ (by simp [hl]) (fun j hj => ?_)
    simp only [Int.toNat_natCast]
    by_cases e : j = i
    · subst e
      simp [hl, hi]
    · rw [List.getD_eq_getElem?_getD, List.getElem?_set_ne (Ne.symm e), ← List.getD_eq_getElem?_getD]
      exact hy j (by omega)
theorem markIntS_f (xs : List Int) (hn : xs.length ≤ 35184372088832) : Ev (fun k => laws_markIntS.f k xs 1) ((xs.length : Int) + 1, marked xs.length) := by
  unfold laws_markIntS.f
  exact markIntS_l0 xs.length hn 0 (by omega) xs rfl (fun j hj => by omega)
theorem marked_rd (n i : Nat) (h : i < n) : rd (marked n) (i : Int) = (i : Int) + 1 := by
  rw [rd_lt _ _ (by simpa [marked] using h)]
  simp [marked]
theorem heldIntS_l0 (n : Nat) (hn : n ≤ 35184372088832) : ∀ i : Nat, i ≤ n → Ev (fun k => laws_heldIntS.l0 k (marked n) ((i : Int) + 1) i) ((n : Int) + 1) := by
  have hl : (marked n).length = n := by simp [marked]
  refine down n ?_ ?_
  · refine succ ?_
    simp only [laws_heldIntS.l0]
    exact neg (by omega) (now _)
  · intro i hi ih
    refine succ ?_
    simp only [laws_heldIntS.l0]
    rw [wnat (by omega), w64 (x := (i : Int) + 1 + 1) (by omega) (by omega), show (i : Int) + 1 + 1 = ((i + 1 : Nat) : Int) + 1 by omega]
    exact pos (by omega) (pos (by omega) (pos (marked_rd n i hi) ih))
theorem heldIntS_f (n : Nat) (hn : n ≤ 35184372088832) : Ev (fun k => laws_heldIntS.f k (marked n) 1) ((n : Int) + 1) := by
  unfold laws_heldIntS.f
  exact heldIntS_l0 n hn 0 (by omega)

theorem go_f (g : Nat → Int → Option Int) (t : Int → Int) (n : Nat) (h : ∀ i : Nat, i < n → Ev (fun k => g k i) (t i)) : ∀ d : Nat, ∀ i : Nat, i + d = n → ∀ b l, Ev (fun k => impl_CenterHouses.go (g k) d i b l) (Lst t d i b l) := by
  intro d
  induction d with
  | zero => intro i _ b l; exact now _
  | succ d ih =>
    intro i hi b l
    simp only [impl_CenterHouses.go, Lst]
    have c1 : ((i : Int) + 1) = ((i + 1 : Nat) : Int) := by omega
    rw [c1]
    refine bind (h i (by omega)) ?_
    by_cases c : b = [] ∨ t i < l
    · rw [if_pos c]
      exact pos c (ih (i + 1) (by omega) _ _)
    · rw [if_neg c]
      refine neg c ?_
      by_cases e : t i = l
      · rw [if_pos e]
        exact pos e (ih (i + 1) (by omega) _ _)
      · rw [if_neg e]
        exact neg e (ih (i + 1) (by omega) _ _)
theorem table_f (vs : List Int) (hv : Q vs) : Ev (fun k => spec_mdTable.f k vs true) (tbl (fun h => Fk vs h vs.length 0 0) vs.length) := by
  have hl := hv.1
  have key : ∀ i : Nat, i ≤ vs.length → Ev (fun k => spec_mdTable.l0 k vs true (tbl (fun h => Fk vs h vs.length 0 0) i) vs.length i) (tbl (fun h => Fk vs h vs.length 0 0) vs.length) := by
    refine down vs.length ?_ ?_
    · refine succ ?_
      simp only [spec_mdTable.l0]
      exact neg (by omega) (now _)
    · intro i hi ih
      rw [tbl_succ] at ih
      refine succ ?_
      simp only [spec_mdTable.l0]
      rw [wnat (by omega)]
      exact pos (by omega) (pos (by simp) (bind (spec_far vs hv i (by omega) (by omega)) (pos (by rw [tbl_len]; omega) ih)))
  unfold spec_mdTable.f
  exact key 0 (by omega)
theorem both_same (vs : List Int) (hl : vs.length ≤ 1048576) : ∃ v : List Int × Bool, v.1.length ≤ 60 ∧ Ev (fun k => spec_CenterHouses.f k vs) v ∧ Ev (fun k => impl_CenterHouses.f k vs) v := by
  unfold spec_CenterHouses.f impl_CenterHouses.f
  by_cases c : People vs
  · have hv := people_q c
    have hn := hv.1
    have ll := lst_len (fun h => Fk vs h vs.length 0 0) vs.length 0 [] 0
    refine ⟨(Lst (fun h => Fk vs h vs.length 0 0) vs.length 0 [] 0, true), by simp at ll ⊢; omega, bind (good_spec vs (by omega)) (pos (by simpa using c) (bind (table_f vs hv) (bind ?_ (now _)))), bind (good_impl vs (by omega)) (pos (by simpa using c) (pos hl (bind ?_ (now _))))⟩
    · unfold spec_mdBest.f
      have z := best_l0 (fun h => Fk vs h vs.length 0 0) vs.length hn.2 (tbl (fun h => Fk vs h vs.length 0 0) vs.length) (tbl_len _ _) (fun i hi => tbl_rd _ _ _ hi) 0 (by omega) [] 0 (by simp) (fun h => absurd rfl h)
      rw [tbl_len]
      exact z
    · exact go_f (fun k => impl_CenterHouses.g k vs) (fun h => Fk vs h vs.length 0 0) vs.length (fun i hi => by unfold impl_CenterHouses.g; exact impl_far vs hv i (by omega) (by omega)) vs.length 0 (by omega) [] 0
  · exact ⟨([], false), by simp, bind (good_spec vs (by omega)) (neg (by simpa using c) (now _)), bind (good_impl vs (by omega)) (neg (by simpa using c) (now _))⟩
theorem FnExactCenterHouses : laws_FnExactCenterHouses.Pure := by
  intro xs hm hs hw
  refine Ev.rounds ?_
  unfold laws_FnExactCenterHouses.f
  by_cases h : (xs.length : Int) > 1048576
  · exact pos h (now _)
  · refine neg h ?_
    have hl : xs.length ≤ 35184372088832 := by omega
    obtain ⟨v, vl, h1, h2⟩ := both_same xs (by omega)
    have hvl : v.1.length ≤ 35184372088832 := by omega
    refine bind (toIntS_f xs hl) (bind h1 (bind (toIntS_f xs hl) (bind h2 (bind (eqIntS_same _ hvl) ?_))))
    refine pos rfl (succ ?_)
    simp only [laws_FnExactCenterHouses.j0]
    refine neg (by simp) (bind (toIntS_f xs hl) (bind (eqIntS_same xs hl) (pos rfl (bind (markIntS_f xs hl) (neg (by omega) (bind (eqIntS_same _ hvl) (pos rfl (succ ?_))))))))
    simp only [laws_FnExactCenterHouses.j1]
    refine neg (by simp) (bind (markIntS_f v.1 hvl) (bind (heldIntS_f _ hvl) (neg (by omega) (pos rfl (bind (toIntS_f xs hl) (bind h2 (bind (eqIntS_same _ hvl) (pos rfl (succ ?_)))))))))
    simp only [laws_FnExactCenterHouses.j2]
    exact neg (by simp) (bind (heldIntS_f _ hvl) (neg (by omega) (pos rfl (now _))))

end Go.Proofs.Ytgpnnepagfnfgaa.Pure
