/- Best houses have the least walks and not more than half of all on each side, centers are at most two, means are in lowest terms, and texts and mirrors give the same people back. -/
import Derived.Test.YteldjmljidmffaaGreatDoorMXx12
import Derived.Test.YteldjmljidmffaaGreatDoorLib
import Derived.Laws.BitsAllLaws
namespace Go.Proofs.YteldjmljidmffaaGreatDoor.Pure
open Go.RowKit Go.Proofs.YteldjmljidmffaaGreatDoor.MX Go.Proofs.YteldjmljidmffaaGreatDoorW.PrintWords Go.Proofs.YteldjmljidmffaaGreatDoorW.PrintLast Go.Proofs.YteldjmljidmffaaGreatDoorW.PrintMore Go.Proofs.YteldjmljidmffaaGreatDoor.Lib
set_option linter.unusedVariables false
set_option linter.unusedSimpArgs false

theorem spec_in (a b c : Int) : spec_l1In.f a b c = some (decide (b ≤ a ∧ a ≤ c)) := by
  unfold spec_l1In.f
  by_cases h : a ≥ b
  · rw [if_pos h]; simp [show b ≤ a from h]
  · rw [if_neg h]; simp [show ¬ b ≤ a from h]
theorem impl_in (a b c : Int) : impl_within.f a b c = some (decide (b ≤ a ∧ a ≤ c)) := by
  unfold impl_within.f
  by_cases h : a ≥ b
  · rw [if_pos h]; simp [show b ≤ a from h]
  · rw [if_neg h]; simp [show ¬ b ≤ a from h]

theorem spec_l1All_l0 (xs : List Int) (a b : Int) (hx : xs.length ≤ 35184372088832) : ∀ i : Nat, i ≤ xs.length → Ev (fun k => spec_l1All.l0 k a b xs xs.length i) (decide (∀ x ∈ xs.drop i, a ≤ x ∧ x ≤ b)) := by
  refine down xs.length ?_ ?_
  · refine succ ?_
    simp only [spec_l1All.l0]
    exact neg (by omega) (conv (now _) (by simp))
  · intro i hi ih
    refine succ ?_
    simp only [spec_l1All.l0, spec_in, Option.bind_some]
    rw [wnat (by omega)]
    refine pos (by omega) (pos (by omega) (pos (by omega) ?_))
    rw [rd_lt xs i hi]
    by_cases e : a ≤ xs[i] ∧ xs[i] ≤ b
    · exact pos (by simpa using e) (conv ih (by rw [decide_eq_decide, all_drop hi]; exact ⟨fun h => ⟨e, h⟩, fun h => h.2⟩))
    · exact neg (by simpa using e) (conv (now _) (Eq.symm (decide_eq_false (by rw [all_drop hi]; exact fun h => e h.1))))
theorem spec_l1All_f (xs : List Int) (a b : Int) (hx : xs.length ≤ 35184372088832) : Ev (fun k => spec_l1All.f k xs a b) (decide (∀ x ∈ xs, a ≤ x ∧ x ≤ b)) :=
  spec_l1All_l0 xs a b hx 0 (by omega)

theorem impl_allWithin_l0 (xs : List Int) (a b : Int) (hx : xs.length ≤ 35184372088832) : ∀ i : Nat, i ≤ xs.length → Ev (fun k => impl_allWithin.l0 k a b xs xs.length i) (decide (∀ x ∈ xs.drop i, a ≤ x ∧ x ≤ b)) := by
  refine down xs.length ?_ ?_
  · refine succ ?_
    simp only [impl_allWithin.l0]
    exact neg (by omega) (conv (now _) (by simp))
  · intro i hi ih
    refine succ ?_
    simp only [impl_allWithin.l0, impl_in, Option.bind_some]
    rw [wnat (by omega)]
    refine pos (by omega) (pos (by omega) (pos (by omega) ?_))
    rw [rd_lt xs i hi]
    by_cases e : a ≤ xs[i] ∧ xs[i] ≤ b
    · exact pos (by simpa using e) (conv ih (by rw [decide_eq_decide, all_drop hi]; exact ⟨fun h => ⟨e, h⟩, fun h => h.2⟩))
    · exact neg (by simpa using e) (conv (now _) (Eq.symm (decide_eq_false (by rw [all_drop hi]; exact fun h => e h.1))))
theorem impl_allWithin_f (xs : List Int) (a b : Int) (hx : xs.length ≤ 35184372088832) : Ev (fun k => impl_allWithin.f k xs a b) (decide (∀ x ∈ xs, a ≤ x ∧ x ≤ b)) :=
  impl_allWithin_l0 xs a b hx 0 (by omega)

/-- What people hold. -/
def Q (vs : List Int) : Prop := (1 ≤ vs.length ∧ vs.length ≤ 60) ∧ ∀ i : Nat, 0 ≤ rd vs i ∧ rd vs i ≤ 1000
theorem q_of {vs : List Int} (h : 1 ≤ vs.length ∧ vs.length ≤ 60) (hv : ∀ x ∈ vs, 0 ≤ x ∧ x ≤ 1000) : Q vs := by
  refine ⟨h, fun i => ?_⟩
  by_cases c : i < vs.length
  · exact hv _ (rd_mem vs i c)
  · simp [rd, c]
theorem spec_sum_l0 {vs : List Int} (hv : Q vs) : ∀ i : Nat, i ≤ vs.length → ∀ s : Int, 0 ≤ s → s ≤ 1000 * i → Ev (fun k => spec_mdSum.l0 k s vs vs.length i) (s + (vs.drop i).sum) := by
  have hl := hv.1
  refine down vs.length ?_ ?_
  · intro s _ _
    refine succ ?_
    simp only [spec_mdSum.l0]
    exact neg (by omega) (conv (now _) (by simp))
  · intro i hi ih s h0 h1
    have hb := hv.2 i
    refine succ ?_
    simp only [spec_mdSum.l0]
    rw [wnat (by omega), w64 (by omega) (by omega)]
    refine pos (by omega) (pos (by omega) (pos (by omega) (conv (ih _ (by omega) (by omega)) ?_)))
    rw [List.drop_eq_getElem_cons hi, List.sum_cons, rd_lt vs i hi]
    omega
theorem impl_sum_l0 {vs : List Int} (hv : Q vs) : ∀ i : Nat, i ≤ vs.length → ∀ s : Int, 0 ≤ s → s ≤ 1000 * i → Ev (fun k => impl_sumOf.l0 k s vs vs.length i) (s + (vs.drop i).sum) := by
  have hl := hv.1
  refine down vs.length ?_ ?_
  · intro s _ _
    refine succ ?_
    simp only [impl_sumOf.l0]
    exact neg (by omega) (conv (now _) (by simp))
  · intro i hi ih s h0 h1
    have hb := hv.2 i
    refine succ ?_
    simp only [impl_sumOf.l0]
    rw [wnat (by omega), w64 (by omega) (by omega)]
    refine pos (by omega) (pos (by omega) (pos (by omega) (conv (ih _ (by omega) (by omega)) ?_)))
    rw [List.drop_eq_getElem_cons hi, List.sum_cons, rd_lt vs i hi]
    omega
/-- People. -/
def People (vs : List Int) : Prop := ((1 ≤ vs.length ∧ vs.length ≤ 60) ∧ ∀ x ∈ vs, 0 ≤ x ∧ x ≤ 1000) ∧ 0 < vs.sum
instance (vs : List Int) : Decidable (People vs) := by unfold People; infer_instance
theorem good_spec (vs : List Int) (hx : vs.length ≤ 35184372088832) : Ev (fun k => spec_mdGood.f k vs) (decide (People vs)) := by
  unfold spec_mdGood.f
  rw [spec_in]
  refine bind (now _) ?_
  by_cases c : 1 ≤ (vs.length : Int) ∧ (vs.length : Int) ≤ 60
  · refine pos (by simpa using c) (bind (spec_l1All_f vs 0 1000 hx) ?_)
    by_cases d : ∀ x ∈ vs, 0 ≤ x ∧ x ≤ 1000
    · refine pos (by simpa using d) ?_
      unfold spec_mdSum.f
      refine conv (bind (spec_sum_l0 (q_of (by omega) d) 0 (by omega) 0 (by omega) (by omega)) (now _)) ?_
      rw [decide_eq_decide]
      simp only [List.drop_zero]
      exact ⟨fun g => ⟨⟨by omega, d⟩, by omega⟩, fun g => by have := g.2; omega⟩
    · refine neg (by simpa using d) (conv (now _) (Eq.symm (decide_eq_false (fun g => d g.1.2))))
  · refine neg (by simpa using c) (conv (now _) (Eq.symm (decide_eq_false (fun g => c (by have := g.1.1; omega)))))
theorem good_impl (vs : List Int) (hx : vs.length ≤ 35184372088832) : Ev (fun k => impl_ArePeople.f k vs) (decide (People vs)) := by
  unfold impl_ArePeople.f
  rw [impl_in]
  refine bind (now _) ?_
  by_cases c : 1 ≤ (vs.length : Int) ∧ (vs.length : Int) ≤ 60
  · refine pos (by simpa using c) (bind (impl_allWithin_f vs 0 1000 hx) ?_)
    by_cases d : ∀ x ∈ vs, 0 ≤ x ∧ x ≤ 1000
    · refine pos (by simpa using d) ?_
      unfold impl_sumOf.f
      refine conv (bind (impl_sum_l0 (q_of (by omega) d) 0 (by omega) 0 (by omega) (by omega)) (now _)) ?_
      rw [decide_eq_decide]
      simp only [List.drop_zero]
      exact ⟨fun g => ⟨⟨by omega, d⟩, by omega⟩, fun g => by have := g.2; omega⟩
    · refine neg (by simpa using d) (conv (now _) (Eq.symm (decide_eq_false (fun g => d g.1.2))))
  · refine neg (by simpa using c) (conv (now _) (Eq.symm (decide_eq_false (fun g => c (by have := g.1.1; omega)))))
theorem people_q {vs : List Int} (h : People vs) : Q vs := q_of h.1.1 h.1.2
/-- The distance of two houses. -/
def dist (a b : Int) : Int := ((a - b).natAbs : Int)
theorem spec_most (a b : Int) : spec_l1Most.f a b = some (max a b) := by
  unfold spec_l1Most.f
  split <;> congr 1 <;> omega
theorem spec_absd (a b : Int) (h1 : -9223372036854775808 < a - b) (h2 : a - b ≤ 9223372036854775807) : spec_l1Abs.f (wrap64 (a - b)) = some (dist a b) := by
  unfold spec_l1Abs.f dist
  rw [w64 (x := a - b) (by omega) (by omega), w64 (by omega) (by omega), spec_most]
  simp only [Option.bind_some]
  congr 1; omega

theorem impl_absd (a b : Int) (h1 : -9223372036854775808 < a - b) (h2 : a - b ≤ 9223372036854775807) : impl_absOf.f (wrap64 (a - b)) = some (dist a b) := by
  unfold impl_absOf.f dist mx
  rw [w64 (x := a - b) (by omega) (by omega), w64 (by omega) (by omega)]
  congr 1; split <;> omega
theorem mx_max (a b : Int) : mx a b = max a b := by unfold mx; omega
theorem impl_absd' (a b : Int) (h1 : -9223372036854775808 < a - b) (h2 : a - b ≤ 9223372036854775807) : impl_absOf.f (wrap64 (a - b)) = some (dist b a) := by
  rw [impl_absd a b h1 h2]; unfold dist; congr 1; omega

/-- All houses with the least number: from a house on. -/
def Lst (t : Int → Int) : Nat → Int → List Int → Int → List Int
  | 0, _, b, _ => b
  | d + 1, i, b, l => if b = [] ∨ t i < l then Lst t d (i + 1) [i] (t i) else if t i = l then Lst t d (i + 1) (b ++ [i]) l else Lst t d (i + 1) b l
theorem lst_len (t : Int → Int) : ∀ d i b l, (Lst t d i b l).length ≤ b.length + d := by
  intro d
  induction d with
  | zero => intro i b l; simp [Lst]
  | succ d ih =>
    intro i b l
    simp only [Lst]
    split
    · have := ih (i + 1) [i] (t i); simp at this; omega
    · split
      · have := ih (i + 1) (b ++ [i]) l; simp at this; omega
      · have := ih (i + 1) b l; omega
theorem best_l0 (t : Int → Int) (n : Nat) (hn : n ≤ 60) (xs : List Int) (hl : xs.length = n) (hx : ∀ i : Nat, i < n → rd xs i = t i) : ∀ i : Nat, i ≤ n → ∀ (b : List Int) (l : Int), b.length ≤ i → (b ≠ [] → (0 ≤ rd b 0 ∧ rd b 0 < n) ∧ t (rd b 0) = l) →
    Ev (fun k => spec_mdBest.l0 k xs b xs n i) (Lst t (n - i) i b l) := by
  refine down n ?_ ?_
  · intro b l _ _
    refine succ ?_
    simp only [spec_mdBest.l0]
    rw [Nat.sub_self]
    exact neg (by omega) (now _)
  · intro i hi ih b l hb hr
    rw [show n - i = (n - (i + 1)) + 1 by omega]
    simp only [Lst]
    have c1 : ((i : Int) + 1) = ((i + 1 : Nat) : Int) := by omega
    rw [c1]
    have rd1 : rd [(i : Int)] 0 = i := by simp [rd]
    have one := ih [(i : Int)] (t i) (by simp) (fun _ => by rw [rd1]; exact ⟨by omega, rfl⟩)
    refine succ ?_
    simp only [spec_mdBest.l0]
    refine pos (by omega) (pos (by omega) (pos (by omega) ?_))
    rw [hx i hi]
    by_cases e : b = []
    · subst e
      rw [if_pos (.inl rfl)]
      refine pos (by simp) (succ ?_)
      simp only [spec_mdBest.j1]
      rw [wnat (by omega)]
      exact pos (by simp) one
    · obtain ⟨⟨r0, r1⟩, rt⟩ := hr e
      have bl : 0 < b.length := List.length_pos_iff.2 e
      have hxr : rd xs (rd b 0) = l := by
        rw [← rt]
        obtain ⟨m, hm⟩ := Int.eq_ofNat_of_zero_le r0
        rw [hm]
        exact hx m (by omega)
      have rd2 : rd (b ++ [(i : Int)]) 0 = rd b 0 := by
        cases b with
        | nil => exact absurd rfl e
        | cons a b => simp [rd]
      refine neg (by omega) (pos (by omega) (pos (by omega) (pos (by omega) (succ ?_))))
      simp only [spec_mdBest.j1]
      rw [hxr, wnat (by omega)]
      by_cases f : t i < l
      · rw [if_pos (.inr f)]
        exact pos (by simpa using f) one
      · rw [if_neg (fun h => h.elim e f)]
        refine neg (by simpa using f) (pos (by omega) (pos (by omega) (pos (by omega) ?_)))
        by_cases g : t i = l
        · rw [if_pos g]
          refine pos g (pos (by omega) (ih _ _ (by simp; omega) (fun _ => ?_)))
          rw [rd2]
          exact ⟨⟨r0, r1⟩, rt⟩
        · rw [if_neg g]
          exact neg g (ih _ _ (by omega) (fun _ => ⟨⟨r0, r1⟩, rt⟩))
/-- A table. -/
def tbl (t : Int → Int) (n : Nat) : List Int := (List.range n).map fun (i : Nat) => t i
theorem tbl_rd (t : Int → Int) (n i : Nat) (h : i < n) : rd (tbl t n) i = t i := by
  rw [rd_lt _ _ (by simpa [tbl] using h)]
  simp [tbl]
theorem tbl_succ (t : Int → Int) (n : Nat) : tbl t (n + 1) = tbl t n ++ [t n] := by simp [tbl, List.range_succ]
theorem tbl_len (t : Int → Int) (n : Nat) : (tbl t n).length = n := by simp [tbl]

/-- The sum of walks to a house, from a house on. -/
def Wk (vs : List Int) (h : Int) : Nat → Nat → Int
  | 0, _ => 0
  | d + 1, i => rd vs i * dist i h + Wk vs h d (i + 1)
theorem dist_le {n : Nat} {i : Nat} {h : Int} (hi : i < n) (h0 : 0 ≤ h) (h1 : h < n) : 0 ≤ dist i h ∧ dist i h ≤ n := by unfold dist; omega
theorem term_le {vs : List Int} (hv : Q vs) {i : Nat} {h : Int} (hi : i < vs.length) (h0 : 0 ≤ h) (h1 : h < vs.length) : 0 ≤ rd vs i * dist i h ∧ rd vs i * dist i h ≤ 60000 := by
  have a := hv.2 i
  have b := dist_le hi h0 h1
  have c := hv.1.2
  refine ⟨Int.mul_nonneg a.1 b.1, ?_⟩
  calc rd vs i * dist i h ≤ 1000 * dist i h := Int.mul_le_mul_of_nonneg_right a.2 b.1
    _ ≤ 60000 := by omega
theorem spec_walks (vs : List Int) (hv : Q vs) (h : Int) (h0 : 0 ≤ h) (h1 : h < vs.length) : Ev (fun k => spec_mdWalks.f k vs h) (Wk vs h vs.length 0) := by
  have hl := hv.1
  have key : ∀ i : Nat, i ≤ vs.length → ∀ s : Int, 0 ≤ s → s ≤ 60000 * i → Ev (fun k => spec_mdWalks.l0 k h s vs vs.length i) (s + Wk vs h (vs.length - i) i) := by
    refine down vs.length ?_ ?_
    · intro s _ _
      refine succ ?_
      simp only [spec_mdWalks.l0]
      rw [Nat.sub_self]
      exact neg (by omega) (conv (now _) (by simp [Wk]))
    · intro i hi ih s s0 s1
      have tb := term_le hv hi h0 h1
      refine succ ?_
      simp only [spec_mdWalks.l0]
      rw [spec_absd _ _ (by omega) (by omega), wnat (by omega)]
      refine pos (by omega) (pos (by omega) (pos (by omega) (bind (now _) ?_)))
      rw [w64 (x := rd vs i * dist i h) (by omega) (by omega), w64 (by omega) (by omega)]
      refine conv (ih _ (by omega) (by omega)) ?_
      rw [show vs.length - i = (vs.length - (i + 1)) + 1 by omega]
      simp only [Wk]
      omega
  unfold spec_mdWalks.f
  exact conv (key 0 (by omega) 0 (by omega) (by omega)) (by simp)
theorem near_one (h : Int) (i : Int) (h1 : -9223372036854775808 < h - i) (h2 : h - i ≤ 9223372036854775807) : Ev (fun k => impl_nearestBox.f k [h] i) h := by
  unfold impl_nearestBox.f
  refine pos (by simp) (succ ?_)
  simp only [impl_nearestBox.l0]
  rw [show rd [h] 0 = h by simp [rd], impl_absd _ _ h1 h2]
  refine pos (by simp) (pos (by omega) (pos (by simp) (bind (now _) (bind (now _) (neg (by omega) (succ ?_))))))
  simp only [impl_nearestBox.l0]
  exact neg (by simp [wrap64]) (now _)
theorem impl_walks (vs : List Int) (hv : Q vs) (h : Int) (h0 : 0 ≤ h) (h1 : h < vs.length) : Ev (fun k => impl_boxesSum.f k vs [h]) (Wk vs h vs.length 0) := by
  have hl := hv.1
  have key : ∀ i : Nat, i ≤ vs.length → ∀ s : Int, 0 ≤ s → s ≤ 60000 * i → Ev (fun k => impl_boxesSum.l0 k [h] s vs vs.length i) (s + Wk vs h (vs.length - i) i) := by
    refine down vs.length ?_ ?_
    · intro s _ _
      refine succ ?_
      simp only [impl_boxesSum.l0]
      rw [Nat.sub_self]
      exact neg (by omega) (conv (now _) (by simp [Wk]))
    · intro i hi ih s s0 s1
      have tb := term_le hv hi h0 h1
      refine succ ?_
      simp only [impl_boxesSum.l0]
      rw [wnat (by omega)]
      refine pos (by omega) (pos (by omega) (pos (by omega) (bind (near_one h i (by omega) (by omega)) ?_)))
      rw [impl_absd' _ _ (by omega) (by omega)]
      refine bind (now _) ?_
      rw [w64 (x := rd vs i * dist i h) (by omega) (by omega), w64 (by omega) (by omega)]
      refine conv (ih _ (by omega) (by omega)) ?_
      rw [show vs.length - i = (vs.length - (i + 1)) + 1 by omega]
      simp only [Wk]
      omega
  unfold impl_boxesSum.f
  exact conv (key 0 (by omega) 0 (by omega) (by omega)) (by simp)

/-- The longest walk to a house, from a house on. -/
def Fk (vs : List Int) (h : Int) : Nat → Nat → Int → Int
  | 0, _, a => a
  | d + 1, i, a => Fk vs h d (i + 1) (if rd vs i > 0 then max a (dist i h) else a)
theorem spec_far (vs : List Int) (hv : Q vs) (h : Int) (h0 : 0 ≤ h) (h1 : h < vs.length) : Ev (fun k => spec_mdFar.f k vs h) (Fk vs h vs.length 0 0) := by
  have hl := hv.1
  have key : ∀ i : Nat, i ≤ vs.length → ∀ s : Int, Ev (fun k => spec_mdFar.l0 k h s vs vs.length i) (Fk vs h (vs.length - i) i s) := by
    refine down vs.length ?_ ?_
    · intro s
      refine succ ?_
      simp only [spec_mdFar.l0]
      rw [Nat.sub_self]
      exact neg (by omega) (now _)
    · intro i hi ih s
      refine succ ?_
      simp only [spec_mdFar.l0]
      rw [spec_absd _ _ (by omega) (by omega), wnat (by omega), show vs.length - i = (vs.length - (i + 1)) + 1 by omega]
      simp only [Fk, spec_most]
      refine pos (by omega) (pos (by omega) (pos (by omega) ?_))
      by_cases c : rd vs i > 0
      · rw [if_pos c]
        exact pos c (bind (now _) (bind (now _) (ih _)))
      · rw [if_neg c]
        exact neg c (ih _)
  unfold spec_mdFar.f
  exact conv (key 0 (by omega) 0) (by simp)
theorem impl_far (vs : List Int) (hv : Q vs) (h : Int) (h0 : 0 ≤ h) (h1 : h < vs.length) : Ev (fun k => impl_farthestTo.f k vs h) (Fk vs h vs.length 0 0) := by
  have hl := hv.1
  have key : ∀ i : Nat, i ≤ vs.length → ∀ s : Int, Ev (fun k => impl_farthestTo.l0 k h s vs vs.length i) (Fk vs h (vs.length - i) i s) := by
    refine down vs.length ?_ ?_
    · intro s
      refine succ ?_
      simp only [impl_farthestTo.l0]
      rw [Nat.sub_self]
      exact neg (by omega) (now _)
    · intro i hi ih s
      refine succ ?_
      simp only [impl_farthestTo.l0]
      rw [impl_absd _ _ (by omega) (by omega), wnat (by omega), show vs.length - i = (vs.length - (i + 1)) + 1 by omega]
      simp only [Fk, mx_max]
      refine pos (by omega) (pos (by omega) (pos (by omega) ?_))
      by_cases c : rd vs i > 0
      · rw [if_pos c]
        exact pos c (bind (now _) (ih _))
      · rw [if_neg c]
        exact neg c (ih _)
  unfold impl_farthestTo.f
  exact conv (key 0 (by omega) 0) (by simp)

/-! ### small loops of the laws -/
theorem zsame (xs : List Int) (hx : xs.length ≤ 1048576) : Ev (fun k => laws_zSame.f k xs xs) true := by
  have key : ∀ i : Nat, i ≤ xs.length → Ev (fun k => laws_zSame.l0 k xs xs xs.length i) true := by
    refine down xs.length ?_ ?_
    · refine succ ?_
      simp only [laws_zSame.l0]
      exact neg (by omega) (now _)
    · intro i hi ih
      refine succ ?_
      simp only [laws_zSame.l0]
      rw [wnat (by omega)]
      exact pos (by omega) (pos (by omega) (pos (by omega) (pos (by omega) (pos trivial ih))))
  unfold laws_zSame.f
  exact pos rfl (key 0 (Nat.zero_le _))
theorem zrises (xs : List Int) (hx : xs.length ≤ 1048576) (h : ∀ j : Nat, (hj : j + 1 < xs.length) → xs[j] < xs[j + 1]) : Ev (fun k => laws_zRises.f k xs) true := by
  have key : ∀ i : Nat, i ≤ xs.length → 1 ≤ i → Ev (fun k => laws_zRises.l0 k xs i) true := by
    refine down xs.length ?_ ?_
    · intro h0
      refine succ ?_
      simp only [laws_zRises.l0]
      exact neg (by omega) (now _)
    · intro i hi ih h0
      refine succ ?_
      simp only [laws_zRises.l0]
      obtain ⟨j, rfl⟩ : ∃ j, i = j + 1 := ⟨i - 1, by omega⟩
      rw [wnat (by omega), wsub1 (by omega), show (((j + 1 : Nat) : Int) - 1) = (j : Int) by omega, rd_lt xs j (by omega), rd_lt xs (j + 1) hi]
      have := h j hi
      exact pos (by omega) (pos (by omega) (pos (by omega) (pos (by omega) (neg (by omega) (ih (by omega))))))
  unfold laws_zRises.f
  by_cases c : 1 ≤ xs.length
  · exact key 1 c (Nat.le_refl _)
  · refine succ ?_
    simp only [laws_zRises.l0]
    exact neg (by omega) (now _)
theorem zhas (xs : List Int) (hx : xs.length ≤ 1048576) (a : Int) : Ev (fun k => laws_zHas.f k xs a) (decide (a ∈ xs)) := by
  have key : ∀ i : Nat, i ≤ xs.length → Ev (fun k => laws_zHas.l0 k a xs xs.length i) (decide (a ∈ xs.drop i)) := by
    refine down xs.length ?_ ?_
    · refine succ ?_
      simp only [laws_zHas.l0]
      exact neg (by omega) (conv (now _) (by simp))
    · intro i hi ih
      refine succ ?_
      simp only [laws_zHas.l0]
      rw [wnat (by omega), rd_lt xs i hi]
      refine pos (by omega) (pos (by omega) (pos (by omega) ?_))
      rw [List.drop_eq_getElem_cons hi]
      by_cases e : xs[i] = a
      · exact pos e (conv (now _) (by simp [e]))
      · refine neg e (conv ih ?_)
        rw [decide_eq_decide, List.mem_cons]
        exact ⟨fun h => .inr h, fun h => h.resolve_left (fun z => e z.symm)⟩
  unfold laws_zHas.f
  exact conv (key 0 (Nat.zero_le _)) (by simp)

theorem least {P : Nat → Prop} (h : ∃ n, P n) : ∃ n, P n ∧ ∀ m, m < n → ¬ P m := by
  obtain ⟨n, hn⟩ := h
  induction n using Nat.strongRecOn with
  | _ n ih =>
    by_cases c : ∃ m, m < n ∧ P m
    · obtain ⟨m, h1, h2⟩ := c
      exact ih m h1 h2
    · exact ⟨n, hn, fun m h1 h2 => c ⟨m, h1, h2⟩⟩

theorem all_below {P : Nat → Nat → Prop} : ∀ n : Nat, (∀ j, j < n → ∃ K, ∀ k, K ≤ k → P j k) → ∃ K, ∀ k, K ≤ k → ∀ j, j < n → P j k := by
  intro n
  induction n with
  | zero => intro _; exact ⟨0, fun _ _ j hj => by omega⟩
  | succ n ih =>
    intro h
    obtain ⟨K1, h1⟩ := ih (fun j hj => h j (by omega))
    obtain ⟨K2, h2⟩ := h n (by omega)
    refine ⟨K1 + K2, fun k hk j hj => ?_⟩
    by_cases e : j = n
    · subst e; exact h2 k (by omega)
    · exact h1 k (by omega) j (by omega)

/-! ### sums of people, and where half of all stand -/
/-- Those in the first so many houses. -/
def Bf (vs : List Int) : Nat → Int
  | 0 => 0
  | j + 1 => Bf vs j + rd vs (j : Int)
/-- The same, each house as often as its number. -/
def Tf (vs : List Int) : Nat → Int
  | 0 => 0
  | j + 1 => Tf vs j + (j : Int) * rd vs (j : Int)
theorem Bf_take (vs : List Int) : ∀ j : Nat, j ≤ vs.length → Bf vs j = (vs.take j).sum := by
  intro j
  induction j with
  | zero => intro _; simp [Bf]
  | succ j ih =>
    intro h
    rw [List.take_succ_eq_append_getElem (by omega), List.sum_append, ← ih (by omega)]
    simp [Bf, rd_lt vs j (by omega)]
theorem Bf_all (vs : List Int) : Bf vs vs.length = vs.sum := by rw [Bf_take vs _ (Nat.le_refl _), List.take_length]
theorem Bf_mono {vs : List Int} (hv : Q vs) {i j : Nat} (h : i ≤ j) : Bf vs i ≤ Bf vs j := by
  induction h with
  | refl => exact Int.le_refl _
  | step h ih =>
    rename_i m
    have := (hv.2 m).1
    have e : Bf vs (m + 1) = Bf vs m + rd vs (m : Int) := rfl
    show Bf vs i ≤ Bf vs (m + 1)
    omega
theorem Bf_le {vs : List Int} (hv : Q vs) : ∀ j : Nat, 0 ≤ Bf vs j ∧ Bf vs j ≤ 1000 * j := by
  intro j
  induction j with
  | zero => exact ⟨Int.le_refl _, by simp [Bf]⟩
  | succ j ih =>
    have := hv.2 j
    have e : Bf vs (j + 1) = Bf vs j + rd vs (j : Int) := rfl
    omega
theorem Tf_le {vs : List Int} (hv : Q vs) : ∀ j : Nat, j ≤ 60 → 0 ≤ Tf vs j ∧ Tf vs j ≤ 60000 * j := by
  intro j
  induction j with
  | zero => intro _; exact ⟨Int.le_refl _, by simp [Tf]⟩
  | succ j ih =>
    intro hj
    have a := ih (by omega)
    have b := hv.2 j
    have e : Tf vs (j + 1) = Tf vs j + (j : Int) * rd vs (j : Int) := rfl
    have c := Int.mul_nonneg (by omega : (0 : Int) ≤ (j : Int)) b.1
    have d := Int.mul_le_mul (by omega : (j : Int) ≤ 60) b.2 b.1 (by omega : (0 : Int) ≤ 60)
    omega
/-- One house further: those behind walk one less, all others one more. -/
theorem Wk_step (vs : List Int) (h : Nat) : ∀ (d i : Nat), i + d = vs.length → h + 1 ≤ vs.length →
    Wk vs ((h + 1 : Nat) : Int) d i = Wk vs (h : Int) d i + (if i ≤ h then 2 * Bf vs (h + 1) - Bf vs i - Bf vs vs.length else Bf vs i - Bf vs vs.length) := by
  intro d
  induction d with
  | zero =>
    intro i hi hh
    obtain rfl : i = vs.length := by omega
    rw [if_neg (by omega)]
    simp only [Wk]
    omega
  | succ d ih =>
    intro i hi hh
    have e := ih (i + 1) (by omega) hh
    have eb : Bf vs (i + 1) = Bf vs i + rd vs (i : Int) := rfl
    simp only [Wk]
    rw [e]
    by_cases c : i ≤ h
    · have dd : dist (i : Int) ((h + 1 : Nat) : Int) = dist i h + 1 := by unfold dist; omega
      rw [dd, Int.mul_add, if_pos c]
      by_cases c2 : i + 1 ≤ h
      · rw [if_pos c2]; omega
      · obtain rfl : i = h := by omega
        rw [if_neg (by omega)]; omega
    · have dd : dist (i : Int) (h : Int) = dist (i : Int) ((h + 1 : Nat) : Int) + 1 := by unfold dist; omega
      rw [dd, Int.mul_add, if_neg c, if_neg (by omega)]; omega
theorem Wk_next (vs : List Int) (h : Nat) (hh : h + 1 ≤ vs.length) : Wk vs ((h + 1 : Nat) : Int) vs.length 0 = Wk vs (h : Int) vs.length 0 + (2 * Bf vs (h + 1) - vs.sum) := by
  have := Wk_step vs h vs.length 0 (by omega) hh
  rw [if_pos (by omega), Bf_all] at this
  rw [this]
  have : Bf vs 0 = 0 := rfl
  omega
/-- Where the walks are the least: not more than half of all on each side. -/
theorem least_half {vs : List Int} (hv : Q vs) (h : Nat) (hh : h < vs.length) : (∀ j : Nat, j < vs.length → Wk vs (h : Int) vs.length 0 ≤ Wk vs (j : Int) vs.length 0) ↔ 2 * Bf vs h ≤ vs.sum ∧ 2 * (vs.sum - Bf vs h - rd vs (h : Int)) ≤ vs.sum := by
  have eb : Bf vs (h + 1) = Bf vs h + rd vs (h : Int) := rfl
  have s0 := Bf_le hv vs.length
  rw [Bf_all] at s0
  constructor
  · intro hm
    constructor
    · cases h with
      | zero => have : Bf vs 0 = 0 := rfl; omega
      | succ g =>
        have a := hm g (by omega)
        have b := Wk_next vs g (by omega)
        omega
    · by_cases c : h + 1 < vs.length
      · have a := hm (h + 1) c
        have b := Wk_next vs h (by omega)
        omega
      · have e : Bf vs (h + 1) = vs.sum := by rw [show h + 1 = vs.length by omega, Bf_all]
        omega
  · rintro ⟨h1, h2⟩ j hj
    have up : ∀ d : Nat, h + d < vs.length → Wk vs (h : Int) vs.length 0 ≤ Wk vs ((h + d : Nat) : Int) vs.length 0 := by
      intro d
      induction d with
      | zero => intro _; exact Int.le_refl _
      | succ d ih =>
        intro hd
        have a := ih (by omega)
        have b := Wk_next vs (h + d) (by omega)
        have c := Bf_mono hv (show h + 1 ≤ h + d + 1 by omega)
        rw [show h + (d + 1) = h + d + 1 by omega]
        omega
    have dn : ∀ d : Nat, d ≤ h → Wk vs (h : Int) vs.length 0 ≤ Wk vs ((h - d : Nat) : Int) vs.length 0 := by
      intro d
      induction d with
      | zero => intro _; exact Int.le_refl _
      | succ d ih =>
        intro hd
        have a := ih (by omega)
        have b := Wk_next vs (h - (d + 1)) (by omega)
        rw [show h - (d + 1) + 1 = h - d by omega] at b
        have c := Bf_mono hv (show h - d ≤ h by omega)
        omega
    by_cases c : h ≤ j
    · have := up (j - h) (by omega)
      rwa [show h + (j - h) = j by omega] at this
    · have := dn (h - j) (by omega)
      rwa [show h - (h - j) = j by omega] at this

/-! ### the list of all least ones -/
/-- Two rising lists with the same members are the same. -/
theorem rise_ext : ∀ (a b : List Int), a.Pairwise (· < ·) → b.Pairwise (· < ·) → (∀ x, x ∈ a ↔ x ∈ b) → a = b := by
  intro a
  induction a with
  | nil =>
    intro b _ _ h
    cases b with
    | nil => rfl
    | cons y b => exact absurd ((h y).2 (List.mem_cons_self)) (by simp)
  | cons x a ih =>
    intro b ha hb h
    cases b with
    | nil => exact absurd ((h x).1 (List.mem_cons_self)) (by simp)
    | cons y b =>
      obtain ⟨h1, h2⟩ := List.pairwise_cons.1 ha
      obtain ⟨g1, g2⟩ := List.pairwise_cons.1 hb
      have e : x = y := by
        rcases List.mem_cons.1 ((h x).1 List.mem_cons_self) with e | e
        · exact e
        · rcases List.mem_cons.1 ((h y).2 List.mem_cons_self) with f | f
          · exact f.symm
          · have := g1 x e; have := h1 y f; omega
      subst e
      rw [ih b h2 g2 (fun z => ⟨fun hz => ?_, fun hz => ?_⟩)]
      · rcases List.mem_cons.1 ((h z).1 (List.mem_cons_of_mem _ hz)) with e | e
        · subst e; have := h1 z hz; omega
        · exact e
      · rcases List.mem_cons.1 ((h z).2 (List.mem_cons_of_mem _ hz)) with e | e
        · subst e; have := g1 z hz; omega
        · exact e
/-- The list so far: all least ones before a house. -/
def Mins (t : Int → Int) (i : Nat) (b : List Int) (l : Int) : Prop := b.Pairwise (· < ·) ∧ (0 < i → b ≠ []) ∧ (∀ x, x ∈ b ↔ (0 ≤ x ∧ x < i) ∧ t x = l ∧ ∀ j : Nat, j < i → l ≤ t j) ∧ (0 < i → ∀ j : Nat, j < i → l ≤ t j)
theorem Lst_mins (t : Int → Int) : ∀ (d i : Nat) (b : List Int) (l : Int), (i = 0 → b = []) → Mins t i b l → ∃ l', Mins t (i + d) (Lst t d (i : Int) b l) l' := by
  intro d
  induction d with
  | zero => intro i b l _ h; exact ⟨l, h⟩
  | succ d ih =>
    intro i b l h0 h
    obtain ⟨hp, hne, hm, hl⟩ := h
    simp only [Lst]
    rw [show i + (d + 1) = (i + 1) + d by omega, show ((i : Int) + 1) = ((i + 1 : Nat) : Int) by omega]
    by_cases c : b = [] ∨ t i < l
    · rw [if_pos c]
      refine ih (i + 1) _ _ (by omega) ⟨List.pairwise_singleton _ _, fun _ => by simp, fun x => ?_, fun _ j hj => ?_⟩
      · rw [List.mem_singleton]
        constructor
        · rintro rfl
          refine ⟨by omega, rfl, fun j hj => ?_⟩
          by_cases e : j = i
          · subst e; exact Int.le_refl _
          · rcases c with c | c
            · exact absurd c (hne (by omega))
            · have := hl (by omega) j (by omega); omega
        · rintro ⟨⟨x0, x1⟩, x2, x3⟩
          by_cases e : x = i
          · exact e
          · exfalso
            obtain ⟨m, rfl⟩ := Int.eq_ofNat_of_zero_le x0
            rcases c with c | c
            · exact absurd c (hne (by omega))
            · have := hl (by omega) m (by omega); have := x3 m (by omega); omega
      · by_cases e : j = i
        · subst e; exact Int.le_refl _
        · rcases c with c | c
          · exact absurd c (hne (by omega))
          · have := hl (by omega) j (by omega); omega
    · rw [if_neg c]
      have c1 : b ≠ [] := fun e => c (.inl e)
      have c2 : ¬ t i < l := fun e => c (.inr e)
      have hi : 0 < i := by
        by_cases e : i = 0
        · exact absurd (h0 e) c1
        · omega
      by_cases e : t i = l
      · rw [if_pos e]
        refine ih (i + 1) _ _ (by omega) ⟨?_, fun _ => by simp, fun x => ?_, fun _ j hj => ?_⟩
        · rw [List.pairwise_append]
          refine ⟨hp, List.pairwise_singleton _ _, fun x hx y hy => ?_⟩
          rw [List.mem_singleton] at hy
          have := ((hm x).1 hx).1
          omega
        · rw [List.mem_append, List.mem_singleton, hm]
          constructor
          · rintro (⟨x1, x2, x3⟩ | rfl)
            · refine ⟨by omega, x2, fun j hj => ?_⟩
              by_cases f : j = i
              · subst f; omega
              · exact x3 j (by omega)
            · refine ⟨by omega, e, fun j hj => ?_⟩
              by_cases f : j = i
              · subst f; omega
              · exact hl hi j (by omega)
          · rintro ⟨x1, x2, x3⟩
            by_cases f : x = i
            · exact .inr f
            · exact .inl ⟨by omega, x2, fun j hj => x3 j (by omega)⟩
        · by_cases f : j = i
          · subst f; omega
          · exact hl hi j (by omega)
      · rw [if_neg e]
        refine ih (i + 1) _ _ (by omega) ⟨hp, fun _ => c1, fun x => ?_, fun _ j hj => ?_⟩
        · rw [hm]
          constructor
          · rintro ⟨x1, x2, x3⟩
            refine ⟨by omega, x2, fun j hj => ?_⟩
            by_cases f : j = i
            · subst f; omega
            · exact x3 j (by omega)
          · rintro ⟨x1, x2, x3⟩
            by_cases f : x = i
            · subst f; exact absurd x2 e
            · exact ⟨by omega, x2, fun j hj => x3 j (by omega)⟩
        · by_cases f : j = i
          · subst f; omega
          · exact hl hi j (by omega)
/-- All of the least, rising: the whole list. -/
theorem Lst_all (t : Int → Int) (n : Nat) (hn : 0 < n) : (Lst t n 0 [] 0).Pairwise (· < ·) ∧ Lst t n 0 [] 0 ≠ [] ∧ ∀ x, x ∈ Lst t n 0 [] 0 ↔ (0 ≤ x ∧ x < n) ∧ ∀ j : Nat, j < n → t x ≤ t j := by
  obtain ⟨l, h1, h2, h3, h4⟩ := Lst_mins t n 0 [] 0 (fun _ => rfl) ⟨List.Pairwise.nil, fun h => by omega, fun x => ⟨fun h => absurd h (by simp), fun h => by omega⟩, fun h => by omega⟩
  rw [Nat.zero_add] at h2 h3 h4
  have h1' : (Lst t n 0 [] 0).Pairwise (· < ·) := h1
  refine ⟨h1', h2 hn, fun x => ?_⟩
  have h3' : x ∈ Lst t n 0 [] 0 ↔ _ := h3 x
  rw [h3']
  constructor
  · rintro ⟨a, b, c⟩
    exact ⟨a, fun j hj => by rw [b]; exact c j hj⟩
  · rintro ⟨a, b⟩
    refine ⟨a, ?_, h4 hn⟩
    obtain ⟨y, hy⟩ := List.exists_mem_of_ne_nil _ (h2 hn)
    obtain ⟨⟨y0, y1⟩, y2, y3⟩ := (h3 y).1 hy
    obtain ⟨m, rfl⟩ := Int.eq_ofNat_of_zero_le y0
    obtain ⟨x', rfl⟩ := Int.eq_ofNat_of_zero_le a.1
    have p := b m (by omega)
    have q := y3 x' (by omega)
    omega
theorem rise_get {a : List Int} (h : a.Pairwise (· < ·)) : ∀ j : Nat, (hj : j + 1 < a.length) → a[j] < a[j + 1] := fun j hj => List.pairwise_iff_getElem.1 h j (j + 1) (by omega) hj (by omega)
/-- A rising list all of whose members are one of two next to each other. -/
theorem two_long {a : List Int} (h : a.Pairwise (· < ·)) (m : Int) (hm : ∀ x ∈ a, m ≤ x ∧ x ≤ m + 1) : a.length ≤ 2 := by
  by_cases c : a.length ≤ 2
  · exact c
  · have h1 := List.pairwise_iff_getElem.1 h 0 1 (by omega) (by omega) (by omega)
    have h2 := List.pairwise_iff_getElem.1 h 1 2 (by omega) (by omega) (by omega)
    have a0 := hm _ (List.getElem_mem (show 0 < a.length by omega))
    have a2 := hm _ (List.getElem_mem (show 2 < a.length by omega))
    omega
/-- The same list seen from the other end. -/
theorem rise_mirror {a b : List Int} {n : Int} (ha : a.Pairwise (· < ·)) (hb : b.Pairwise (· < ·)) (h : ∀ x, x ∈ b ↔ n - x ∈ a) : b = (a.map fun x => n - x).reverse := by
  refine rise_ext _ _ hb ?_ (fun x => ?_)
  · rw [List.pairwise_reverse, List.pairwise_map]
    exact ha.imp (fun {x y} hxy => by omega)
  · rw [List.mem_reverse, List.mem_map, h]
    constructor
    · intro hx; exact ⟨n - x, hx, by omega⟩
    · rintro ⟨y, hy, rfl⟩
      rwa [show n - (n - y) = y by omega]

/-! ### what the functions about people tell -/
theorem zsum {vs : List Int} (hv : Q vs) : Ev (fun k => laws_zSum.f k vs) vs.sum := by
  have hl := hv.1
  have key : ∀ i : Nat, i ≤ vs.length → ∀ s : Int, 0 ≤ s → s ≤ 1000 * i → Ev (fun k => laws_zSum.l0 k s vs vs.length i) (s + (vs.drop i).sum) := by
    refine down vs.length ?_ ?_
    · intro s _ _
      refine succ ?_
      simp only [laws_zSum.l0]
      exact neg (by omega) (conv (now _) (by simp))
    · intro i hi ih s h0 h1
      have hb := hv.2 i
      refine succ ?_
      simp only [laws_zSum.l0]
      rw [wnat (by omega), w64 (by omega) (by omega)]
      refine pos (by omega) (pos (by omega) (pos (by omega) (conv (ih _ (by omega) (by omega)) ?_)))
      rw [List.drop_eq_getElem_cons hi, List.sum_cons, rd_lt vs i hi]
      omega
  unfold laws_zSum.f
  exact conv (key 0 (by omega) 0 (by omega) (by omega)) (by simp)
theorem sum_impl {vs : List Int} (hv : Q vs) : Ev (fun k => impl_sumOf.f k vs) vs.sum := by
  unfold impl_sumOf.f
  exact conv (impl_sum_l0 hv 0 (by omega) 0 (by omega) (by omega)) (by simp)
theorem sum_spec {vs : List Int} (hv : Q vs) : Ev (fun k => spec_mdSum.f k vs) vs.sum := by
  unfold spec_mdSum.f
  exact conv (spec_sum_l0 hv 0 (by omega) 0 (by omega) (by omega)) (by simp)
/-- A house of people. -/
def House (vs : List Int) (a : Int) : Prop := People vs ∧ 0 ≤ a ∧ a < vs.length
instance (vs : List Int) (a : Int) : Decidable (House vs a) := by unfold House; infer_instance
theorem house_impl (vs : List Int) (a : Int) (hl : vs.length ≤ 1048576) : Ev (fun k => impl_hasHouse.f k vs a) (decide (House vs a)) := by
  unfold impl_hasHouse.f
  rw [impl_in, w64 (by omega) (by omega)]
  refine bind (good_impl vs (by omega)) ?_
  by_cases c : People vs
  · refine pos (by simpa using c) (bind (now _) (conv (now _) ?_))
    rw [decide_eq_decide]
    exact ⟨fun h => ⟨c, by omega, by omega⟩, fun h => ⟨h.2.1, by have := h.2.2; omega⟩⟩
  · exact neg (by simpa using c) (conv (now _) (Eq.symm (decide_eq_false (fun h => c h.1))))
theorem house_spec (vs : List Int) (a : Int) (hl : vs.length ≤ 1048576) : Ev (fun k => spec_mdHouse.f k vs a) (decide (House vs a)) := by
  unfold spec_mdHouse.f
  rw [spec_in, w64 (by omega) (by omega)]
  refine bind (good_spec vs (by omega)) ?_
  by_cases c : People vs
  · refine pos (by simpa using c) (bind (now _) (conv (now _) ?_))
    rw [decide_eq_decide]
    exact ⟨fun h => ⟨c, by omega, by omega⟩, fun h => ⟨h.2.1, by have := h.2.2; omega⟩⟩
  · exact neg (by simpa using c) (conv (now _) (Eq.symm (decide_eq_false (fun h => c h.1))))
theorem far_both (vs : List Int) (a : Int) (hl : vs.length ≤ 1048576) : Ev (fun k => impl_FarthestTo.f k vs a) (if House vs a then (Fk vs a vs.length 0 0, true) else (0, false)) ∧ Ev (fun k => spec_FarthestTo.f k vs a) (if House vs a then (Fk vs a vs.length 0 0, true) else (0, false)) := by
  unfold impl_FarthestTo.f spec_FarthestTo.f
  by_cases c : House vs a
  · have hq := people_q c.1
    rw [if_pos c]
    exact ⟨bind (house_impl vs a hl) (pos (by simpa using c) (bind (impl_far vs hq a c.2.1 c.2.2) (now _))), bind (house_spec vs a hl) (pos (by simpa using c) (bind (spec_far vs hq a c.2.1 c.2.2) (now _)))⟩
  · rw [if_neg c]
    exact ⟨bind (house_impl vs a hl) (neg (by simpa using c) (now _)), bind (house_spec vs a hl) (neg (by simpa using c) (now _))⟩
theorem walks_to (vs : List Int) (a : Int) (hl : vs.length ≤ 1048576) (c : House vs a) : Ev (fun k => impl_WalksTo.f k vs a) (Wk vs a vs.length 0, true) := by
  unfold impl_WalksTo.f
  exact bind (house_impl vs a hl) (pos (by simpa using c) (bind (impl_walks vs (people_q c.1) a c.2.1 c.2.2) (now _)))
/-! ### the table of sums -/
theorem table_f (vs : List Int) (hv : Q vs) : Ev (fun k => spec_mdTable.f k vs false) (tbl (fun h => Wk vs h vs.length 0) vs.length) := by
  have hl := hv.1
  have key : ∀ i : Nat, i ≤ vs.length → Ev (fun k => spec_mdTable.l0 k vs false (tbl (fun h => Wk vs h vs.length 0) i) vs.length i) (tbl (fun h => Wk vs h vs.length 0) vs.length) := by
    refine down vs.length ?_ ?_
    · refine succ ?_
      simp only [spec_mdTable.l0]
      exact neg (by omega) (now _)
    · intro i hi ih
      rw [tbl_succ] at ih
      refine succ ?_
      simp only [spec_mdTable.l0]
      rw [wnat (by omega)]
      exact pos (by omega) (neg (by simp) (bind (spec_walks vs hv i (by omega) (by omega)) (pos (by rw [tbl_len]; omega) ih)))
  unfold spec_mdTable.f
  exact key 0 (by omega)
theorem tableF_f (vs : List Int) (hv : Q vs) : Ev (fun k => spec_mdTable.f k vs true) (tbl (fun h => Fk vs h vs.length 0 0) vs.length) := by
  have hl := hv.1
  have key : ∀ i : Nat, i ≤ vs.length → Ev (fun k => spec_mdTable.l0 k vs true (tbl (fun h => Fk vs h vs.length 0 0) i) vs.length i) (tbl (fun h => Fk vs h vs.length 0 0) vs.length) := by
    refine down vs.length ?_ ?_
    · refine succ ?_
      simp only [spec_mdTable.l0]
      exact neg (by omega) (now _)
    · intro i hi ih
      rw [tbl_succ] at ih
      refine succ ?_
      simp only [spec_mdTable.l0]
      rw [wnat (by omega)]
      exact pos (by omega) (pos (by simp) (bind (spec_far vs hv i (by omega) (by omega)) (pos (by rw [tbl_len]; omega) ih)))
  unfold spec_mdTable.f
  exact key 0 (by omega)
theorem table_impl (vs : List Int) (hv : Q vs) : Ev (fun k => impl_SumTable.l0 k vs (List.replicate vs.length 0) (vs.length : Int) 0) (tbl (fun h => Wk vs h vs.length 0) vs.length, true) := by
  have hl := hv.1
  have key : ∀ i : Nat, i ≤ vs.length → Ev (fun k => impl_SumTable.l0 k vs (tbl (fun h => Wk vs h vs.length 0) i ++ List.replicate (vs.length - i) 0) vs.length i) (tbl (fun h => Wk vs h vs.length 0) vs.length, true) := by
    refine down vs.length ?_ ?_
    · refine succ ?_
      simp only [impl_SumTable.l0]
      rw [Nat.sub_self]
      exact neg (by omega) (conv (now _) (by simp))
    · intro i hi ih
      refine succ ?_
      simp only [impl_SumTable.l0]
      have hlen : (tbl (fun h => Wk vs h vs.length 0) i ++ List.replicate (vs.length - i) (0 : Int)).length = vs.length := by rw [List.length_append, tbl_len, List.length_replicate]; omega
      rw [wnat (by omega)]
      refine pos (by omega) (bind (impl_walks vs hv i (by omega) (by omega)) (pos (by omega) (pos (by rw [hlen]; omega) ?_)))
      rw [Int.toNat_natCast, List.set_append_right _ _ (by rw [tbl_len]; omega), tbl_len, Nat.sub_self, show vs.length - i = (vs.length - (i + 1)) + 1 by omega, List.replicate_succ, List.set_cons_zero]
      rw [tbl_succ, List.append_assoc] at ih
      exact ih
  have := key 0 (Nat.zero_le _)
  simpa [tbl] using this
theorem table_both (vs : List Int) (hl : vs.length ≤ 1048576) : Ev (fun k => impl_SumTable.f k vs) (if People vs then (tbl (fun h => Wk vs h vs.length 0) vs.length, true) else ([], false)) ∧ Ev (fun k => spec_SumTable.f k vs) (if People vs then (tbl (fun h => Wk vs h vs.length 0) vs.length, true) else ([], false)) := by
  unfold impl_SumTable.f spec_SumTable.f
  by_cases c : People vs
  · have hv := people_q c
    rw [if_pos c]
    refine ⟨bind (good_impl vs (by omega)) (pos (by simpa using c) (pos (by omega) (pos (by omega) (bind (now _) ?_)))), bind (good_spec vs (by omega)) (pos (by simpa using c) (bind (table_f vs hv) (now _)))⟩
    rw [Int.toNat_natCast, List.length_replicate]
    exact table_impl vs hv
  · rw [if_neg c]
    exact ⟨bind (good_impl vs (by omega)) (neg (by simpa using c) (now _)), bind (good_spec vs (by omega)) (neg (by simpa using c) (now _))⟩
/-! ### best houses and centers -/
theorem goB_f (g : Nat → Int → Option Int) (t : Int → Int) (n : Nat) (h : ∀ i : Nat, i < n → Ev (fun k => g k i) (t i)) : ∀ d : Nat, ∀ i : Nat, i + d = n → ∀ b l, Ev (fun k => impl_BestHouses.go (g k) d i b l) (Lst t d i b l) := by
  intro d
  induction d with
  | zero => intro i _ b l; exact now _
  | succ d ih =>
    intro i hi b l
    simp only [impl_BestHouses.go, Lst]
    have c1 : ((i : Int) + 1) = ((i + 1 : Nat) : Int) := by omega
    rw [c1]
    refine bind (h i (by omega)) ?_
    by_cases c : b = [] ∨ t i < l
    · rw [if_pos c]
      exact pos c (ih (i + 1) (by omega) _ _)
    · rw [if_neg c]
      refine neg c ?_
      by_cases e : t i = l
      · rw [if_pos e]
        exact pos e (ih (i + 1) (by omega) _ _)
      · rw [if_neg e]
        exact neg e (ih (i + 1) (by omega) _ _)
theorem goC_f (g : Nat → Int → Option Int) (t : Int → Int) (n : Nat) (h : ∀ i : Nat, i < n → Ev (fun k => g k i) (t i)) : ∀ d : Nat, ∀ i : Nat, i + d = n → ∀ b l, Ev (fun k => impl_CenterHouses.go (g k) d i b l) (Lst t d i b l) := by
  intro d
  induction d with
  | zero => intro i _ b l; exact now _
  | succ d ih =>
    intro i hi b l
    simp only [impl_CenterHouses.go, Lst]
    have c1 : ((i : Int) + 1) = ((i + 1 : Nat) : Int) := by omega
    rw [c1]
    refine bind (h i (by omega)) ?_
    by_cases c : b = [] ∨ t i < l
    · rw [if_pos c]
      exact pos c (ih (i + 1) (by omega) _ _)
    · rw [if_neg c]
      refine neg c ?_
      by_cases e : t i = l
      · rw [if_pos e]
        exact pos e (ih (i + 1) (by omega) _ _)
      · rw [if_neg e]
        exact neg e (ih (i + 1) (by omega) _ _)
/-- All houses with the least walks, and those with the least longest walk. -/
def Best (vs : List Int) : List Int := Lst (fun h => Wk vs h vs.length 0) vs.length 0 [] 0
def Center (vs : List Int) : List Int := Lst (fun h => Fk vs h vs.length 0 0) vs.length 0 [] 0
theorem best_both (vs : List Int) (hl : vs.length ≤ 1048576) : Ev (fun k => impl_BestHouses.f k vs) (if People vs then (Best vs, true) else ([], false)) ∧ Ev (fun k => spec_BestHouses.f k vs) (if People vs then (Best vs, true) else ([], false)) := by
  unfold spec_BestHouses.f impl_BestHouses.f
  by_cases c : People vs
  · have hv := people_q c
    have hn := hv.1
    rw [if_pos c]
    refine ⟨bind (good_impl vs (by omega)) (pos (by simpa using c) (pos hl (bind ?_ (now _)))), bind (good_spec vs (by omega)) (pos (by simpa using c) (bind (table_f vs hv) (bind ?_ (now _))))⟩
    · exact goB_f (fun k => impl_BestHouses.g k vs) (fun h => Wk vs h vs.length 0) vs.length (fun i hi => by unfold impl_BestHouses.g; exact impl_walks vs hv i (by omega) (by omega)) vs.length 0 (by omega) [] 0
    · unfold spec_mdBest.f
      have z := best_l0 (fun h => Wk vs h vs.length 0) vs.length hn.2 (tbl (fun h => Wk vs h vs.length 0) vs.length) (tbl_len _ _) (fun i hi => tbl_rd _ _ _ hi) 0 (by omega) [] 0 (by simp) (fun h => absurd rfl h)
      rw [tbl_len]
      exact z
  · rw [if_neg c]
    exact ⟨bind (good_impl vs (by omega)) (neg (by simpa using c) (now _)), bind (good_spec vs (by omega)) (neg (by simpa using c) (now _))⟩
theorem center_both (vs : List Int) (hl : vs.length ≤ 1048576) : Ev (fun k => impl_CenterHouses.f k vs) (if People vs then (Center vs, true) else ([], false)) ∧ Ev (fun k => spec_CenterHouses.f k vs) (if People vs then (Center vs, true) else ([], false)) := by
  unfold spec_CenterHouses.f impl_CenterHouses.f
  by_cases c : People vs
  · have hv := people_q c
    have hn := hv.1
    rw [if_pos c]
    refine ⟨bind (good_impl vs (by omega)) (pos (by simpa using c) (pos hl (bind ?_ (now _)))), bind (good_spec vs (by omega)) (pos (by simpa using c) (bind (tableF_f vs hv) (bind ?_ (now _))))⟩
    · exact goC_f (fun k => impl_CenterHouses.g k vs) (fun h => Fk vs h vs.length 0 0) vs.length (fun i hi => by unfold impl_CenterHouses.g; exact impl_far vs hv i (by omega) (by omega)) vs.length 0 (by omega) [] 0
    · unfold spec_mdBest.f
      have z := best_l0 (fun h => Fk vs h vs.length 0 0) vs.length hn.2 (tbl (fun h => Fk vs h vs.length 0 0) vs.length) (tbl_len _ _) (fun i hi => tbl_rd _ _ _ hi) 0 (by omega) [] 0 (by simp) (fun h => absurd rfl h)
      rw [tbl_len]
      exact z
  · rw [if_neg c]
    exact ⟨bind (good_impl vs (by omega)) (neg (by simpa using c) (now _)), bind (good_spec vs (by omega)) (neg (by simpa using c) (now _))⟩
/-! ### the mean -/
theorem div_f : ∀ b a : Nat, Ev (fun k => impl_divisorOf.l0 k (a : Int) (b : Int)) ((Nat.gcd a b : Nat) : Int) := by
  intro b
  induction b using Nat.strongRecOn with
  | _ b ih =>
    intro a
    refine succ ?_
    simp only [impl_divisorOf.l0]
    by_cases c : b = 0
    · subst c
      exact neg (by omega) (conv (now _) (by simp))
    · refine pos (by omega) (neg (by omega) ?_)
      have e : Int.tmod (a : Int) (b : Int) = ((a % b : Nat) : Int) := rfl
      rw [e]
      refine conv (ih (a % b) (Nat.mod_lt _ (by omega)) b) ?_
      rw [Nat.gcd_comm a b, Nat.gcd_rec b a, Nat.gcd_comm (a % b) b]
theorem mean_l0 (T S : Nat) (hT : T ≤ 1000000000) (hS : S ≤ 1000000000) : ∀ b a : Nat, 0 < Nat.gcd a b → Nat.gcd a b ≤ 1000000000 → Ev (fun k => spec_MeanHouse.l0 k (T : Int) (S : Int) (a : Int) (b : Int)) (((T / Nat.gcd a b : Nat) : Int), ((S / Nat.gcd a b : Nat) : Int), true) := by
  intro b
  induction b using Nat.strongRecOn with
  | _ b ih =>
    intro a h0 h1
    refine succ ?_
    simp only [spec_MeanHouse.l0]
    by_cases c : b = 0
    · subst c
      rw [Nat.gcd_zero_right] at h0 h1 ⊢
      have q1 : Int.tdiv (T : Int) (a : Int) = ((T / a : Nat) : Int) := rfl
      have q2 : Int.tdiv (S : Int) (a : Int) = ((S / a : Nat) : Int) := rfl
      have l1 := Nat.div_le_self T a
      have l2 := Nat.div_le_self S a
      rw [q1, q2]
      generalize T / a = u at l1 ⊢
      generalize S / a = v at l2 ⊢
      rw [w64 (x := (u : Int)) (by omega) (by omega), w64 (x := (v : Int)) (by omega) (by omega)]
      exact neg (by omega) (neg (by omega) (now _))
    · refine pos (by omega) (neg (by omega) ?_)
      have e : Int.tmod (a : Int) (b : Int) = ((a % b : Nat) : Int) := rfl
      have g : Nat.gcd a b = Nat.gcd b (a % b) := by rw [Nat.gcd_comm a b, Nat.gcd_rec b a, Nat.gcd_comm (a % b) b]
      rw [e, g]
      exact ih (a % b) (Nat.mod_lt _ (by omega)) b (by rw [← g]; exact h0) (by rw [← g]; exact h1)
theorem Wk_zero (vs : List Int) : ∀ d i : Nat, i + d = vs.length → Tf vs i + Wk vs 0 d i = Tf vs vs.length := by
  intro d
  induction d with
  | zero => intro i h; obtain rfl : i = vs.length := by omega
            simp [Wk]
  | succ d ih =>
    intro i h
    have a := ih (i + 1) (by omega)
    have e : Tf vs (i + 1) = Tf vs i + (i : Int) * rd vs (i : Int) := rfl
    have dd : dist (i : Int) 0 = i := by unfold dist; omega
    simp only [Wk]
    rw [dd, Int.mul_comm (rd vs (i : Int)) (i : Int)]
    omega
theorem mean_both (vs : List Int) (hl : vs.length ≤ 1048576) : ∃ num den : Int, (People vs → (num * vs.sum = Tf vs vs.length * den ∧ (0 ≤ num * vs.sum ∧ num * vs.sum ≤ 1000000000000000) ∧ 1 ≤ den)) ∧ Ev (fun k => impl_MeanHouse.f k vs) (if People vs then (num, den, true) else (0, 0, false)) ∧ Ev (fun k => spec_MeanHouse.f k vs) (if People vs then (num, den, true) else (0, 0, false)) := by
  unfold impl_MeanHouse.f spec_MeanHouse.f
  by_cases c : People vs
  · have hv := people_q c
    have hn := hv.1
    have hs := c.2
    have hT := Tf_le hv vs.length hn.2
    have hB := Bf_le hv vs.length
    rw [Bf_all] at hB
    obtain ⟨T, eT⟩ := Int.eq_ofNat_of_zero_le hT.1
    obtain ⟨S, eS⟩ := Int.eq_ofNat_of_zero_le hB.1
    have hT2 : T ≤ 3600000 := by omega
    have hS2 : S ≤ 60000 := by omega
    have hS0 : 0 < S := by omega
    have g0 : 0 < Nat.gcd T S := Nat.gcd_pos_of_pos_right _ hS0
    have g1 : Nat.gcd T S ≤ S := Nat.gcd_le_right _ hS0
    obtain ⟨a, ha⟩ := Nat.gcd_dvd_left T S
    obtain ⟨b, hb⟩ := Nat.gcd_dvd_right T S
    have da : T / Nat.gcd T S = a := by conv => lhs; lhs; rw [ha]
                                        exact Nat.mul_div_cancel_left a g0
    have db : S / Nat.gcd T S = b := by conv => lhs; lhs; rw [hb]
                                        exact Nat.mul_div_cancel_left b g0
    have hb1 : 1 ≤ b := by
      by_cases z : b = 0
      · rw [z, Nat.mul_zero] at hb; omega
      · omega
    have ha1 : a ≤ T := by rw [← da]; exact Nat.div_le_self _ _
    refine ⟨(a : Int), (b : Int), fun _ => ⟨?_, ⟨?_, ?_⟩, by omega⟩, ?_, ?_⟩
    · rw [eT, eS]
      have : a * S = T * b := by
        conv => lhs; rw [hb]
        conv => rhs; rw [ha]
        rw [← Nat.mul_assoc, Nat.mul_comm a]
      have h5 : (a : Int) * (S : Int) = ((a * S : Nat) : Int) := (Int.natCast_mul a S).symm
      have h6 : (T : Int) * (b : Int) = ((T * b : Nat) : Int) := (Int.natCast_mul T b).symm
      rw [h5, h6, this]
    · rw [eS]; exact Int.mul_nonneg (by omega) (by omega)
    · rw [eS]
      have := Nat.mul_le_mul ha1 hS2
      have h3 : T * 60000 ≤ 3600000 * 60000 := Nat.mul_le_mul_right _ hT2
      have h4 : a * S ≤ 1000000000000000 := by omega
      have h5 : (a : Int) * (S : Int) = ((a * S : Nat) : Int) := (Int.natCast_mul a S).symm
      rw [h5]
      omega
    · rw [if_pos c]
      refine bind (good_impl vs (by omega)) (pos (by simpa using c) (bind (sum_impl hv) ?_))
      have key : ∀ i : Nat, i ≤ vs.length → Ev (fun k => impl_MeanHouse.l0 k (Tf vs i) vs.sum vs vs.length i) ((a : Int), (b : Int), true) := by
        refine down vs.length ?_ ?_
        · refine succ ?_
          simp only [impl_MeanHouse.l0]
          refine neg (by omega) ?_
          unfold impl_divisorOf.f
          rw [eT, eS]
          refine bind (div_f S T) (neg (by omega) (conv (now _) ?_))
          have q1 : Int.tdiv (T : Int) ((Nat.gcd T S : Nat) : Int) = ((T / Nat.gcd T S : Nat) : Int) := rfl
          have q2 : Int.tdiv (S : Int) ((Nat.gcd T S : Nat) : Int) = ((S / Nat.gcd T S : Nat) : Int) := rfl
          have lb : b ≤ S := by rw [← db]; exact Nat.div_le_self _ _
          rw [q1, q2, da, db, w64 (by omega) (by omega), w64 (by omega) (by omega)]
        · intro i hi ih
          have t1 := Tf_le hv i (by omega)
          have hb := hv.2 i
          have p0 := Int.mul_nonneg (by omega : (0 : Int) ≤ (i : Int)) hb.1
          have p1 := Int.mul_le_mul (by omega : (i : Int) ≤ 60) hb.2 hb.1 (by omega : (0 : Int) ≤ 60)
          refine succ ?_
          simp only [impl_MeanHouse.l0]
          rw [wnat (by omega), w64 (x := (i : Int) * rd vs (i : Int)) (by omega) (by omega), w64 (by omega) (by omega)]
          exact pos (by omega) (pos (by omega) (pos (by omega) ih))
      exact key 0 (Nat.zero_le _)
    · rw [if_pos c]
      refine bind (good_spec vs (by omega)) (pos (by simpa using c) (bind (spec_walks vs hv 0 (by omega) (by omega)) (bind (sum_spec hv) ?_)))
      have e : Wk vs 0 vs.length 0 = (T : Int) := by
        have := Wk_zero vs vs.length 0 (by omega)
        have z : Tf vs 0 = 0 := rfl
        omega
      rw [e, eS]
      refine conv (mean_l0 T S (by omega) (by omega) S T g0 (by omega)) ?_
      rw [da, db]
  · refine ⟨0, 0, fun h => absurd h c, ?_, ?_⟩
    · rw [if_neg c]
      exact bind (good_impl vs (by omega)) (neg (by simpa using c) (now _))
    · rw [if_neg c]
      exact bind (good_spec vs (by omega)) (neg (by simpa using c) (now _))

/-! ### seen from the other end -/
theorem rev_rd (vs : List Int) (j : Nat) (hj : j < vs.length) : rd vs.reverse (j : Int) = rd vs ((vs.length - 1 - j : Nat) : Int) := by
  rw [rd_lt _ j (by simpa using hj), rd_lt vs (vs.length - 1 - j) (by omega), List.getElem_reverse]
theorem rev_people {vs : List Int} (c : People vs) : People vs.reverse := by
  obtain ⟨⟨h1, h2⟩, h3⟩ := c
  exact ⟨⟨by simpa using h1, fun x hx => h2 x (List.mem_reverse.1 hx)⟩, by rw [List.sum_reverse]; exact h3⟩
/-- A list with so many at each end turned about. -/
def Turned (vs : List Int) (i : Nat) (xs : List Int) : Prop := xs.length = vs.length ∧ ∀ j : Nat, (hj : j < vs.length) → ∀ hx : j < xs.length, xs[j] = if j < i ∨ vs.length ≤ j + i then vs[vs.length - 1 - j] else vs[j]
theorem reverse_f (vs : List Int) (hl : vs.length ≤ 1048576) : Ev (fun k => slices_Reverse_int_int.f k vs) vs.reverse := by
  unfold slices_Reverse_int_int.f
  by_cases h0 : vs.length = 0
  · obtain rfl : vs = [] := List.eq_nil_of_length_eq_zero h0
    refine succ ?_
    simp only [slices_Reverse_int_int.l0]
    exact neg (by simp [wrap64]) (now _)
  rw [wsub1 (by omega)]
  have key : ∀ (d i : Nat) (xs : List Int), vs.length / 2 - i = d → i ≤ vs.length / 2 → Turned vs i xs → Ev (fun k => slices_Reverse_int_int.l0 k xs (i : Int) ((vs.length : Int) - 1 - (i : Int))) vs.reverse := by
    intro d
    induction d with
    | zero =>
      intro i xs hd hi ht
      refine succ ?_
      simp only [slices_Reverse_int_int.l0]
      refine neg (by omega) (conv (now _) ?_)
      obtain ⟨t1, t2⟩ := ht
      refine List.ext_getElem (by simp [t1]) (fun j h1 h2 => ?_)
      rw [t2 j (by omega) h1, List.getElem_reverse]
      split
      · rfl
      · rename_i z
        have : vs.length - 1 - j = j := by omega
        simp only [this]
    | succ d ih =>
      intro i xs hd hi ht
      obtain ⟨t1, t2⟩ := ht
      refine succ ?_
      simp only [slices_Reverse_int_int.l0]
      have e1 : (vs.length : Int) - 1 - (i : Int) = ((vs.length - 1 - i : Nat) : Int) := by omega
      rw [wnat (by omega), w64 (x := (vs.length : Int) - 1 - (i : Int) - 1) (by omega) (by omega), show (vs.length : Int) - 1 - (i : Int) - 1 = (vs.length : Int) - 1 - ((i + 1 : Nat) : Int) by omega]
      refine pos (by omega) (pos (by omega) (pos (by omega) (pos (by omega) (pos (by omega) ?_))))
      rw [e1, Int.toNat_natCast, Int.toNat_natCast, rd_lt xs i (by omega), rd_lt xs (vs.length - 1 - i) (by omega)]
      refine ih (i + 1) _ (by omega) (by omega) ⟨by simp [t1], fun j hj hx => ?_⟩
      have g1 := t2 i (by omega) (by omega)
      have g2 := t2 (vs.length - 1 - i) (by omega) (by omega)
      rw [if_neg (by omega)] at g1 g2
      rw [List.getElem_set]
      by_cases c1 : vs.length - 1 - i = j
      · rw [if_pos c1, g1, if_pos (by omega)]
        have : vs.length - 1 - j = i := by omega
        simp only [this]
      · rw [if_neg c1, List.getElem_set]
        by_cases c2 : i = j
        · rw [if_pos c2, g2, if_pos (by omega)]
          simp only [c2]
        · rw [if_neg c2, t2 j hj (by simpa using hx)]
          by_cases c3 : j < i ∨ vs.length ≤ j + i
          · rw [if_pos c3, if_pos (by omega)]
          · rw [if_neg c3, if_neg (by omega)]
  have := key (vs.length / 2) 0 vs (by omega) (by omega) ⟨rfl, fun j hj hx => by rw [if_neg (by omega)]⟩
  simpa using this
theorem mirror_l0 (vs : List Int) (hl : vs.length ≤ 1048576) : ∀ (i : Nat), i ≤ vs.length → Ev (fun k => spec_MirrorPeople.l0 k vs (vs.drop i).reverse ((i : Int) - 1)) (vs.reverse, true) := by
  intro i
  induction i with
  | zero =>
    intro _
    refine succ ?_
    simp only [spec_MirrorPeople.l0]
    exact neg (by omega) (conv (now _) (by simp))
  | succ i ih =>
    intro hi
    refine succ ?_
    simp only [spec_MirrorPeople.l0]
    have e : ((i + 1 : Nat) : Int) - 1 = (i : Int) := by omega
    rw [e, w64 (by omega) (by omega), rd_lt vs i (by omega)]
    have ih := ih (by omega)
    rw [List.drop_eq_getElem_cons (by omega : i < vs.length), List.reverse_cons] at ih
    exact pos (by omega) (pos (by omega) (pos (by omega) (pos (by simp; omega) ih)))
theorem mirror_both (vs : List Int) (hl : vs.length ≤ 1048576) : Ev (fun k => impl_MirrorPeople.f k vs) (if People vs then (vs.reverse, true) else ([], false)) ∧ Ev (fun k => spec_MirrorPeople.f k vs) (if People vs then (vs.reverse, true) else ([], false)) := by
  unfold impl_MirrorPeople.f spec_MirrorPeople.f
  by_cases c : People vs
  · rw [if_pos c]
    have hn := c.1.1
    refine ⟨bind (good_impl vs (by omega)) (pos (by simpa using c) (bindSome (a := vs) ?_ (bind (reverse_f vs hl) (now _)))), bind (good_spec vs (by omega)) (pos (by simpa using c) ?_)⟩
    · unfold slices_Clone_int_int.f
      rw [if_pos (by omega)]
    · rw [w64 (by omega) (by omega)]
      have := mirror_l0 vs hl vs.length (Nat.le_refl _)
      rw [List.drop_length, List.reverse_nil] at this
      exact this
  · rw [if_neg c]
    exact ⟨bind (good_impl vs (by omega)) (neg (by simpa using c) (now _)), bind (good_spec vs (by omega)) (neg (by simpa using c) (now _))⟩
/-- The walks of the mirror. -/
theorem Bf_rev (vs : List Int) : ∀ j : Nat, j ≤ vs.length → Bf vs.reverse j = vs.sum - Bf vs (vs.length - j) := by
  intro j
  induction j with
  | zero => intro _; rw [Nat.sub_zero, Bf_all]; simp [Bf]
  | succ j ih =>
    intro hj
    have a := ih (by omega)
    have e : Bf vs.reverse (j + 1) = Bf vs.reverse j + rd vs.reverse (j : Int) := rfl
    have f : Bf vs (vs.length - j) = Bf vs (vs.length - (j + 1)) + rd vs ((vs.length - (j + 1) : Nat) : Int) := by
      rw [show vs.length - j = (vs.length - (j + 1)) + 1 by omega]; rfl
    rw [rev_rd vs j (by omega), show vs.length - 1 - j = vs.length - (j + 1) by omega] at e
    omega
theorem Wk_rev {vs : List Int} (h : Nat) (hh : h < vs.length) : Wk vs.reverse (h : Int) vs.length 0 - Wk vs ((vs.length - 1 - h : Nat) : Int) vs.length 0 = Wk vs.reverse 0 vs.length 0 - Wk vs ((vs.length - 1 : Nat) : Int) vs.length 0 := by
  induction h with
  | zero => rw [Nat.sub_zero]; rfl
  | succ h ih =>
    have a := ih (by omega)
    have b := Wk_next vs.reverse h (by simp; omega)
    have c := Wk_next vs (vs.length - 1 - (h + 1)) (by omega)
    rw [show vs.length - 1 - (h + 1) + 1 = vs.length - 1 - h by omega] at c
    have d := Bf_rev vs (h + 1) (by omega)
    rw [show vs.length - (h + 1) = vs.length - 1 - h by omega] at d
    rw [List.sum_reverse, List.length_reverse] at b
    omega
theorem best_all {vs : List Int} (c : People vs) : (Best vs).Pairwise (· < ·) ∧ Best vs ≠ [] ∧ ∀ x, x ∈ Best vs ↔ (0 ≤ x ∧ x < vs.length) ∧ ∀ j : Nat, j < vs.length → Wk vs x vs.length 0 ≤ Wk vs (j : Int) vs.length 0 := Lst_all _ _ (by have := c.1.1; omega)
theorem center_all {vs : List Int} (c : People vs) : (Center vs).Pairwise (· < ·) ∧ Center vs ≠ [] ∧ ∀ x, x ∈ Center vs ↔ (0 ≤ x ∧ x < vs.length) ∧ ∀ j : Nat, j < vs.length → Fk vs x vs.length 0 0 ≤ Fk vs (j : Int) vs.length 0 0 := Lst_all _ _ (by have := c.1.1; omega)
theorem best_mirror {vs : List Int} (c : People vs) : Best vs.reverse = ((Best vs).map fun x => ((vs.length : Int) - 1) - x).reverse := by
  obtain ⟨a1, a2, a3⟩ := best_all c
  obtain ⟨b1, b2, b3⟩ := best_all (rev_people c)
  rw [List.length_reverse] at b3
  refine rise_mirror a1 b1 (fun x => ?_)
  rw [b3, a3]
  have key : ∀ j : Nat, j < vs.length → Wk vs.reverse (j : Int) vs.length 0 = Wk vs ((vs.length - 1 - j : Nat) : Int) vs.length 0 + (Wk vs.reverse 0 vs.length 0 - Wk vs ((vs.length - 1 : Nat) : Int) vs.length 0) := fun j hj => by have := Wk_rev (vs := vs) j hj; omega
  constructor
  · rintro ⟨⟨x0, x1⟩, h⟩
    obtain ⟨m, rfl⟩ := Int.eq_ofNat_of_zero_le x0
    refine ⟨by omega, fun j hj => ?_⟩
    have p := h (vs.length - 1 - j) (by omega)
    rw [key m (by omega), key _ (by omega), show vs.length - 1 - (vs.length - 1 - j) = j by omega] at p
    rw [show (vs.length : Int) - 1 - (m : Int) = ((vs.length - 1 - m : Nat) : Int) by omega]
    omega
  · rintro ⟨⟨x0, x1⟩, h⟩
    obtain ⟨m, rfl⟩ : ∃ m : Nat, x = (m : Int) := ⟨x.toNat, by omega⟩
    refine ⟨by omega, fun j hj => ?_⟩
    have p := h (vs.length - 1 - j) (by omega)
    rw [show (vs.length : Int) - 1 - (m : Int) = ((vs.length - 1 - m : Nat) : Int) by omega] at p
    rw [key m (by omega), key j hj]
    omega
/-! ### how far -/
theorem Fk_le (l : List Int) (h : Int) (g : Int) : ∀ (d i : Nat) (a : Int), i + d = l.length → (Fk l h d i a ≤ g ↔ a ≤ g ∧ ∀ j : Nat, i ≤ j → j < l.length → 0 < rd l (j : Int) → dist j h ≤ g) := by
  intro d
  induction d with
  | zero =>
    intro i a hd
    exact ⟨fun z => ⟨z, fun j h1 h2 => by omega⟩, fun z => z.1⟩
  | succ d ih =>
    intro i a hd
    simp only [Fk]
    rw [ih (i + 1) _ (by omega)]
    constructor
    · rintro ⟨h1, h2⟩
      split at h1
      · refine ⟨by omega, fun j j1 j2 j3 => ?_⟩
        by_cases e : j = i
        · subst e; omega
        · exact h2 j (by omega) j2 j3
      · rename_i c
        refine ⟨h1, fun j j1 j2 j3 => ?_⟩
        by_cases e : j = i
        · subst e; exact absurd j3 c
        · exact h2 j (by omega) j2 j3
    · rintro ⟨h1, h2⟩
      refine ⟨?_, fun j j1 j2 j3 => h2 j (by omega) j2 j3⟩
      split
      · rename_i c
        have := h2 i (Nat.le_refl _) (by omega) c
        omega
      · exact h1
theorem far_le (l : List Int) (h g : Int) : Fk l h l.length 0 0 ≤ g ↔ 0 ≤ g ∧ ∀ j : Nat, j < l.length → 0 < rd l (j : Int) → dist j h ≤ g := by
  rw [Fk_le l h g l.length 0 0 (by omega)]
  exact ⟨fun z => ⟨z.1, fun j => z.2 j (Nat.zero_le _)⟩, fun z => ⟨z.1, fun j _ => z.2 j⟩⟩
theorem lives {l : List Int} (h : People l) : ∃ i : Nat, i < l.length ∧ 0 < rd l (i : Int) := by
  have h0 := h.2
  have key : ∀ L : List Int, 0 < L.sum → ∃ x ∈ L, 0 < x := by
    intro L
    induction L with
    | nil => intro h; simp at h
    | cons x L ih =>
      intro h
      rw [List.sum_cons] at h
      by_cases c : 0 < x
      · exact ⟨x, by simp, c⟩
      · obtain ⟨y, hy, hp⟩ := ih (by omega)
        exact ⟨y, by simp [hy], hp⟩
  obtain ⟨x, hx, hp⟩ := key l h0
  obtain ⟨i, hi, rfl⟩ := List.getElem_of_mem hx
  exact ⟨i, hi, by rw [rd_lt l i hi]; exact hp⟩
theorem center_two {l : List Int} (hp : People l) : (Center l).length ≤ 2 := by
  obtain ⟨a1, a2, a3⟩ := center_all hp
  obtain ⟨f, ⟨hf, hf0⟩, hf1⟩ := least (P := fun m => m < l.length ∧ 0 < rd l (m : Int)) (lives hp)
  obtain ⟨b, ⟨hb, hb0⟩, hb1⟩ := least (P := fun m => m < l.length ∧ 0 < rd l ((l.length - 1 - m : Nat) : Int)) (by
    obtain ⟨i, hi, h0⟩ := lives hp
    exact ⟨l.length - 1 - i, by omega, by rw [show l.length - 1 - (l.length - 1 - i) = i by omega]; exact h0⟩)
  obtain ⟨z, hz⟩ : ∃ z, z = l.length - 1 - b := ⟨_, rfl⟩
  rw [← hz] at hb0
  have hfz : f ≤ z := by
    by_cases c : f ≤ z
    · exact c
    · exact absurd ⟨by omega, hb0⟩ (hf1 z (by omega))
  have hin : ∀ j : Nat, j < l.length → 0 < rd l (j : Int) → f ≤ j ∧ j ≤ z := fun j hj h0 => by
    constructor
    · by_cases c : f ≤ j
      · exact c
      · exact absurd ⟨hj, h0⟩ (hf1 j (by omega))
    · by_cases c : j ≤ z
      · exact c
      · exact absurd ⟨by omega, by rw [show l.length - 1 - (l.length - 1 - j) = j by omega]; exact h0⟩ (hb1 (l.length - 1 - j) (by omega))
  obtain ⟨m, hm⟩ : ∃ m, m = (f + z) / 2 := ⟨_, rfl⟩
  obtain ⟨r, hr⟩ : ∃ r, r = (z - f + 1) / 2 := ⟨_, rfl⟩
  have hFm : Fk l (m : Int) l.length 0 0 ≤ (r : Int) := by
    rw [far_le]
    refine ⟨by omega, fun j hj h0 => ?_⟩
    have := hin j hj h0
    unfold dist
    omega
  refine two_long a1 (m : Int) (fun x hx => ?_)
  obtain ⟨⟨x0, x1⟩, x2⟩ := (a3 x).1 hx
  have h1 := Int.le_trans (x2 m (by omega)) hFm
  rw [far_le] at h1
  have p := h1.2 f hf hf0
  have q := h1.2 z (by omega) hb0
  unfold dist at p q
  omega
/-! ### how many within a reach -/
def Nw (vs : List Int) (h w : Int) : Nat → Nat → Int
  | 0, _ => 0
  | d + 1, i => (if dist i h ≤ w then rd vs (i : Int) else 0) + Nw vs h w d (i + 1)
theorem within_both (vs : List Int) (h w : Int) (hl : vs.length ≤ 1048576) : Ev (fun k => impl_PeopleWithin.f k vs h w) (if House vs h ∧ 0 ≤ w ∧ w ≤ 60 then (Nw vs h w vs.length 0, true) else (0, false)) ∧ Ev (fun k => spec_PeopleWithin.f k vs h w) (if House vs h ∧ 0 ≤ w ∧ w ≤ 60 then (Nw vs h w vs.length 0, true) else (0, false)) := by
  unfold impl_PeopleWithin.f spec_PeopleWithin.f
  rw [impl_in, spec_in]
  by_cases c : House vs h
  · have hv := people_q c.1
    have hn := hv.1
    have hb := c.2
    have stepI : ∀ i : Nat, i ≤ vs.length → ∀ s : Int, 0 ≤ s → s ≤ 1000 * i → Ev (fun k => impl_PeopleWithin.l0 k h w s vs vs.length i) (s + Nw vs h w (vs.length - i) i, true) := by
      refine down vs.length ?_ ?_
      · intro s _ _
        refine succ ?_
        simp only [impl_PeopleWithin.l0]
        rw [Nat.sub_self]
        exact neg (by omega) (conv (now _) (by simp [Nw]))
      · intro i hi ih s s0 s1
        have hr := hv.2 i
        refine succ ?_
        simp only [impl_PeopleWithin.l0]
        rw [impl_absd _ _ (by omega) (by omega), wnat (by omega), show vs.length - i = (vs.length - (i + 1)) + 1 by omega]
        simp only [Nw]
        refine pos (by omega) (pos (by omega) (pos (by omega) (bind (now _) ?_)))
        by_cases z : dist i h ≤ w
        · rw [if_pos z, w64 (by omega) (by omega)]
          exact pos z (conv (ih _ (by omega) (by omega)) (by rw [Int.add_assoc]))
        · rw [if_neg z]
          exact neg z (conv (ih _ (by omega) (by omega)) (by rw [Int.zero_add]))
    have stepS : ∀ i : Nat, i ≤ vs.length → ∀ s : Int, 0 ≤ s → s ≤ 1000 * i → Ev (fun k => spec_PeopleWithin.l0 k h w s vs vs.length i) (s + Nw vs h w (vs.length - i) i, true) := by
      refine down vs.length ?_ ?_
      · intro s _ _
        refine succ ?_
        simp only [spec_PeopleWithin.l0]
        rw [Nat.sub_self]
        exact neg (by omega) (conv (now _) (by simp [Nw]))
      · intro i hi ih s s0 s1
        have hr := hv.2 i
        refine succ ?_
        simp only [spec_PeopleWithin.l0]
        rw [spec_absd _ _ (by omega) (by omega), wnat (by omega), show vs.length - i = (vs.length - (i + 1)) + 1 by omega]
        simp only [Nw]
        refine pos (by omega) (pos (by omega) (pos (by omega) (bind (now _) ?_)))
        by_cases z : dist i h ≤ w
        · rw [if_pos z, w64 (by omega) (by omega)]
          exact pos z (conv (ih _ (by omega) (by omega)) (by rw [Int.add_assoc]))
        · rw [if_neg z]
          exact neg z (conv (ih _ (by omega) (by omega)) (by rw [Int.zero_add]))
    have r1 := stepI 0 (Nat.zero_le _) 0 (Int.le_refl _) (Int.le_refl _)
    have r2 := stepS 0 (Nat.zero_le _) 0 (Int.le_refl _) (Int.le_refl _)
    rw [Int.zero_add, Nat.sub_zero] at r1 r2
    by_cases z : 0 ≤ w ∧ w ≤ 60
    · rw [if_pos ⟨c, z⟩]
      refine ⟨bind (house_impl vs h hl) (pos (by simpa using c) (bind (now _) (succ ?_))), bind (house_spec vs h hl) (pos (by simpa using c) (bind (now _) (succ ?_)))⟩
      · simp only [impl_PeopleWithin.j0]
        exact neg (by simpa using z) r1
      · simp only [spec_PeopleWithin.j0]
        exact neg (by simpa using z) r2
    · rw [if_neg (fun e => z e.2)]
      refine ⟨bind (house_impl vs h hl) (pos (by simpa using c) (bind (now _) (succ ?_))), bind (house_spec vs h hl) (pos (by simpa using c) (bind (now _) (succ ?_)))⟩
      · simp only [impl_PeopleWithin.j0]
        exact pos (by simp only [decide_eq_false z]; rfl) (now _)
      · simp only [spec_PeopleWithin.j0]
        exact pos (by simp only [decide_eq_false z]; rfl) (now _)
  · rw [if_neg (fun e => c e.1)]
    refine ⟨bind (house_impl vs h hl) (neg (by simpa using c) (succ ?_)), bind (house_spec vs h hl) (neg (by simpa using c) (succ ?_))⟩
    · simp only [impl_PeopleWithin.j0]
      exact pos trivial (now _)
    · simp only [spec_PeopleWithin.j0]
      exact pos trivial (now _)
/-- Within a reach: not more than all, all just if nobody lives farther. -/
theorem Nw_sum {vs : List Int} (hv : Q vs) (h w : Int) : ∀ (d i : Nat), i + d = vs.length → (0 ≤ Nw vs h w d i ∧ Bf vs i + Nw vs h w d i ≤ vs.sum) ∧ (Bf vs i + Nw vs h w d i = vs.sum ↔ ∀ j : Nat, i ≤ j → j < vs.length → 0 < rd vs (j : Int) → dist j h ≤ w) := by
  intro d
  induction d with
  | zero =>
    intro i hi
    obtain rfl : i = vs.length := by omega
    rw [Bf_all]
    simp only [Nw]
    exact ⟨by omega, ⟨fun _ j h1 h2 => by omega, fun _ => by omega⟩⟩
  | succ d ih =>
    intro i hi
    obtain ⟨⟨a1, a2⟩, a3⟩ := ih (i + 1) (by omega)
    have e : Bf vs (i + 1) = Bf vs i + rd vs (i : Int) := rfl
    have hr := hv.2 i
    simp only [Nw]
    by_cases z : dist i h ≤ w
    · rw [if_pos z]
      refine ⟨by omega, ?_⟩
      rw [← Int.add_assoc, ← e, a3]
      constructor
      · intro g j j1 j2 j3
        by_cases f : j = i
        · subst f; exact z
        · exact g j (by omega) j2 j3
      · intro g j j1 j2 j3
        exact g j (by omega) j2 j3
    · rw [if_neg z]
      refine ⟨by omega, ?_⟩
      constructor
      · intro g j j1 j2 j3
        by_cases f : j = i
        · subst f; omega
        · exact a3.1 (by omega) j (by omega) j2 j3
      · intro g
        have h0 : rd vs (i : Int) = 0 := by
          by_cases f : 0 < rd vs (i : Int)
          · exact absurd (g i (Nat.le_refl _) (by omega) f) z
          · omega
        have := a3.2 (fun j j1 j2 j3 => g j (by omega) j2 j3)
        omega
/-- Within no reach at all: those of the house. -/
theorem Nw_zero (vs : List Int) (h : Nat) : ∀ (d i : Nat), i + d = vs.length → Nw vs (h : Int) 0 d i = if i ≤ h ∧ h < vs.length then rd vs (h : Int) else 0 := by
  intro d
  induction d with
  | zero => intro i hi; rw [if_neg (by omega)]; rfl
  | succ d ih =>
    intro i hi
    simp only [Nw]
    rw [ih (i + 1) (by omega)]
    by_cases e : i = h
    · subst e
      rw [if_pos (by unfold dist; omega), if_neg (by omega), if_pos (by omega), Int.add_zero]
    · rw [if_neg (by unfold dist; omega), Int.zero_add]
      by_cases f : i ≤ h ∧ h < vs.length
      · rw [if_pos f, if_pos (by omega)]
      · rw [if_neg f, if_neg (by omega)]

/-! ### people who move -/
theorem rd_set (vs : List Int) (i j : Nat) (x : Int) (hi : i < vs.length) : rd (vs.set i x) (j : Int) = if j = i then x else rd vs (j : Int) := by
  by_cases c : j < vs.length
  · rw [rd_lt _ j (by simpa using c), List.getElem_set]
    by_cases e : i = j
    · rw [if_pos e, if_pos e.symm]
    · rw [if_neg e, if_neg (Ne.symm e), rd_lt vs j c]
  · rw [if_neg (by omega)]
    simp [rd, c]
theorem Bf_set (vs : List Int) (i : Nat) (x : Int) (hi : i < vs.length) : ∀ j : Nat, Bf (vs.set i x) j = Bf vs j + if i < j then x - rd vs (i : Int) else 0 := by
  intro j
  induction j with
  | zero => rw [if_neg (by omega)]; simp [Bf]
  | succ j ih =>
    have e1 : Bf (vs.set i x) (j + 1) = Bf (vs.set i x) j + rd (vs.set i x) (j : Int) := rfl
    have e2 : Bf vs (j + 1) = Bf vs j + rd vs (j : Int) := rfl
    rw [e1, e2, ih, rd_set vs i j x hi]
    by_cases c : j = i
    · subst c
      rw [if_neg (by omega), if_pos rfl, if_pos (by omega)]
      omega
    · rw [if_neg c]
      by_cases d : i < j
      · rw [if_pos d, if_pos (by omega)]; omega
      · rw [if_neg d, if_neg (by omega)]; omega
theorem sum_set (vs : List Int) (i : Nat) (x : Int) (hi : i < vs.length) : (vs.set i x).sum = vs.sum + (x - rd vs (i : Int)) := by
  rw [← Bf_all, ← Bf_all, List.length_set, Bf_set vs i x hi, if_pos hi]
theorem Wk_set (vs : List Int) (i : Nat) (x h : Int) (hi : i < vs.length) : ∀ d j : Nat, Wk (vs.set i x) h d j = Wk vs h d j + if j ≤ i ∧ i < j + d then (x - rd vs (i : Int)) * dist i h else 0 := by
  intro d
  induction d with
  | zero => intro j; rw [if_neg (by omega)]; simp [Wk]
  | succ d ih =>
    intro j
    simp only [Wk]
    rw [ih (j + 1), rd_set vs i j x hi]
    by_cases c : j = i
    · subst c
      rw [if_pos rfl, if_neg (by omega), if_pos (by omega), Int.sub_mul]
      omega
    · rw [if_neg c]
      by_cases e : j ≤ i ∧ i < j + (d + 1)
      · rw [if_pos e, if_pos (by omega)]; omega
      · rw [if_neg e, if_neg (by omega)]; omega
/-- So many who move from a house to another one. -/
def Mv (vs : List Int) (a b : Nat) (m : Int) : List Int := (vs.set a (rd vs (a : Int) - m)).set b (rd vs (b : Int) + m)
def CanMove (vs : List Int) (a b m : Int) : Prop := House vs a ∧ House vs b ∧ a ≠ b ∧ (1 ≤ m ∧ m ≤ rd vs a) ∧ rd vs b + m ≤ 1000
instance (vs : List Int) (a b m : Int) : Decidable (CanMove vs a b m) := by unfold CanMove; infer_instance
theorem Mv_sum {vs : List Int} {a b : Nat} {m : Int} (ha : a < vs.length) (hb : b < vs.length) (hn : a ≠ b) : (Mv vs a b m).sum = vs.sum := by
  unfold Mv
  rw [sum_set _ _ _ (by simpa using hb), sum_set _ _ _ ha, rd_set vs a b _ ha, if_neg (Ne.symm hn)]
  omega
theorem Mv_mem {vs : List Int} (hv : ∀ x ∈ vs, 0 ≤ x ∧ x ≤ 1000) {a b : Nat} {m : Int} (ha : a < vs.length) (hb : b < vs.length) (h1 : 1 ≤ m) (h2 : m ≤ rd vs (a : Int)) : ∀ x ∈ Mv vs a b m, (0 ≤ x ∧ x ≤ 1000) ∨ x = rd vs (b : Int) + m := by
  intro x hx
  rcases List.mem_or_eq_of_mem_set hx with hx | rfl
  · rcases List.mem_or_eq_of_mem_set hx with hx | rfl
    · exact .inl (hv x hx)
    · have := hv _ (rd_mem vs a ha)
      exact .inl (by omega)
  · exact .inr rfl
theorem Mv_people {vs : List Int} (c : People vs) {a b : Nat} {m : Int} (ha : a < vs.length) (hb : b < vs.length) (hn : a ≠ b) (h1 : 1 ≤ m) (h2 : m ≤ rd vs (a : Int)) : People (Mv vs a b m) ↔ rd vs (b : Int) + m ≤ 1000 := by
  have hlen : (Mv vs a b m).length = vs.length := by simp [Mv]
  constructor
  · intro h
    refine (h.1.2 _ ?_).2
    unfold Mv
    rw [List.mem_iff_getElem]
    exact ⟨b, by simpa using hb, by rw [List.getElem_set, if_pos rfl]⟩
  · intro h
    refine ⟨⟨by rw [hlen]; exact c.1.1, fun x hx => ?_⟩, by rw [Mv_sum ha hb hn]; exact c.2⟩
    have hb0 := c.1.2 _ (rd_mem vs b hb)
    rcases Mv_mem c.1.2 ha hb h1 h2 x hx with z | z
    · exact z
    · omega
theorem moved_both (vs : List Int) (a b m : Int) (hl : vs.length ≤ 1048576) (hm : -9000000000000000000 ≤ m ∧ m ≤ 9000000000000000000) : Ev (fun k => impl_MovedPeople.f k vs a b m) (if CanMove vs a b m then (Mv vs a.toNat b.toNat m, true) else ([], false)) ∧ Ev (fun k => spec_MovedPeople.f k vs a b m) (if CanMove vs a b m then (Mv vs a.toNat b.toNat m, true) else ([], false)) := by
  unfold impl_MovedPeople.f spec_MovedPeople.f
  by_cases ca : House vs a
  · by_cases cb : House vs b
    · by_cases e : a = b
      · rw [if_neg (show ¬ CanMove vs a b m from fun z => z.2.2.1 e)]
        refine ⟨bind (house_impl vs a hl) (pos (by simpa using ca) (bind (house_impl vs b hl) (pos (by simpa using cb) (pos e (now _))))), bind (house_spec vs a hl) (pos (by simpa using ca) (bind (house_spec vs b hl) (pos (by simpa using cb) (pos e (succ ?_)))))⟩
        simp only [spec_MovedPeople.j0]
        exact pos trivial (now _)
      · obtain ⟨A, rfl⟩ := Int.eq_ofNat_of_zero_le ca.2.1
        obtain ⟨B, rfl⟩ := Int.eq_ofNat_of_zero_le cb.2.1
        have hp := ca.1
        have hA := ca.2.2
        have hB := cb.2.2
        have rA := hp.1.2 _ (rd_mem vs A (by omega))
        have rB := hp.1.2 _ (rd_mem vs B (by omega))
        rw [impl_in, spec_in, Int.toNat_natCast, Int.toNat_natCast]
        have eA : rd (vs.set A (rd vs (A : Int) - m)) (B : Int) = rd vs (B : Int) := by rw [rd_set vs A B _ (by omega), if_neg (by omega)]
        by_cases c1 : 1 ≤ m ∧ m ≤ rd vs (A : Int)
        · have hgood := good_spec (Mv vs A B m) (by simp [Mv]; omega)
          have hiff := Mv_people hp (a := A) (b := B) (m := m) (by omega) (by omega) (by omega) c1.1 c1.2
          have specT : ∀ {r : List Int × Bool}, (Ev (fun k => (spec_mdGood.f k (Mv vs A B m)).bind fun t323 => if t323 = true then some (Mv vs A B m, true) else some (([] : List Int), false)) r) → Ev (fun k => spec_MovedPeople.j0 k vs (A : Int) (B : Int) m false) r := fun {r} h => by
            refine succ ?_
            simp only [spec_MovedPeople.j0]
            refine neg (by simp) (bindSome (a := vs) (by unfold spec_l1Own.f; rw [Option.bind_some, if_pos (by simp; omega)]; rfl) (pos (by omega) (pos (by omega) (bind (now _) (pos (by omega) (pos (by omega) (bind (now _) ?_)))))))
            rw [Int.toNat_natCast, Int.toNat_natCast, w64 (x := rd vs (A : Int) - m) (by omega) (by omega), eA, w64 (by omega) (by omega)]
            exact h
          by_cases c2 : rd vs (B : Int) + m ≤ 1000
          · rw [if_pos (show CanMove vs (A : Int) (B : Int) m from ⟨ca, cb, e, c1, c2⟩)]
            refine ⟨bind (house_impl vs _ hl) (pos (by simpa using ca) (bind (house_impl vs _ hl) (pos (by simpa using cb) (neg e (pos (by omega) (pos (by omega) (bind (now _) (pos (by simpa using c1) (pos (by omega) (pos (by omega) ?_)))))))))),
              bind (house_spec vs _ hl) (pos (by simpa using ca) (bind (house_spec vs _ hl) (pos (by simpa using cb) (neg e (pos (by omega) (pos (by omega) (bind (now _) ?_)))))))⟩
            · rw [w64 (x := rd vs (B : Int) + m) (by omega) (by omega)]
              refine neg (by omega) (bindSome (a := vs) (by unfold slices_Clone_int_int.f; rw [if_pos (by omega)]) (pos (by omega) (bind (now _) (pos (by omega) (conv (now _) ?_)))))
              rw [w64 (x := rd vs (A : Int) - m) (by omega) (by omega), eA, w64 (by omega) (by omega)]
              rfl
            · rw [show (!decide (1 ≤ m ∧ m ≤ rd vs (A : Int))) = false by simpa using c1]
              exact specT (bind hgood (pos (by simpa using hiff.2 c2) (now _)))
          · rw [if_neg (show ¬ CanMove vs (A : Int) (B : Int) m from fun z => c2 z.2.2.2.2)]
            refine ⟨bind (house_impl vs _ hl) (pos (by simpa using ca) (bind (house_impl vs _ hl) (pos (by simpa using cb) (neg e (pos (by omega) (pos (by omega) (bind (now _) (pos (by simpa using c1) (pos (by omega) (pos (by omega) ?_)))))))))),
              bind (house_spec vs _ hl) (pos (by simpa using ca) (bind (house_spec vs _ hl) (pos (by simpa using cb) (neg e (pos (by omega) (pos (by omega) (bind (now _) ?_)))))))⟩
            · rw [w64 (x := rd vs (B : Int) + m) (by omega) (by omega)]
              exact pos (by omega) (now _)
            · rw [show (!decide (1 ≤ m ∧ m ≤ rd vs (A : Int))) = false by simpa using c1]
              exact specT (bind hgood (neg (by simpa using fun z => c2 (hiff.1 z)) (now _)))
        · rw [if_neg (show ¬ CanMove vs (A : Int) (B : Int) m from fun z => c1 z.2.2.2.1)]
          refine ⟨bind (house_impl vs _ hl) (pos (by simpa using ca) (bind (house_impl vs _ hl) (pos (by simpa using cb) (neg e (pos (by omega) (pos (by omega) (bind (now _) (neg (by simpa using c1) (now _))))))))),
            bind (house_spec vs _ hl) (pos (by simpa using ca) (bind (house_spec vs _ hl) (pos (by simpa using cb) (neg e (pos (by omega) (pos (by omega) (bind (now _) (succ ?_))))))))⟩
          simp only [spec_MovedPeople.j0]
          exact pos (by rw [decide_eq_false c1]; rfl) (now _)
    · rw [if_neg (show ¬ CanMove vs a b m from fun z => cb z.2.1)]
      refine ⟨bind (house_impl vs a hl) (pos (by simpa using ca) (bind (house_impl vs b hl) (neg (by simpa using cb) (now _)))), bind (house_spec vs a hl) (pos (by simpa using ca) (bind (house_spec vs b hl) (neg (by simpa using cb) (succ ?_))))⟩
      simp only [spec_MovedPeople.j0]
      exact pos trivial (now _)
  · rw [if_neg (show ¬ CanMove vs a b m from fun z => ca z.1)]
    refine ⟨bind (house_impl vs a hl) (neg (by simpa using ca) (now _)), bind (house_spec vs a hl) (neg (by simpa using ca) (succ ?_))⟩
    simp only [spec_MovedPeople.j0]
    exact pos trivial (now _)
/-- Those who move walk less to where they go: each so many houses. -/
theorem Mv_walks {vs : List Int} {a b : Nat} {m : Int} (ha : a < vs.length) (hb : b < vs.length) (hn : a ≠ b) : Wk vs (b : Int) vs.length 0 - Wk (Mv vs a b m) (b : Int) vs.length 0 = m * ((((b : Int) - (a : Int)).natAbs : Nat) : Int) := by
  unfold Mv
  rw [Wk_set _ b _ _ (by simpa using hb), Wk_set vs a _ _ ha, if_pos (by omega), if_pos (by omega), rd_set vs a b _ ha, if_neg (Ne.symm hn)]
  have d0 : dist (b : Int) (b : Int) = 0 := by unfold dist; omega
  have d1 : dist (a : Int) (b : Int) = ((((b : Int) - (a : Int)).natAbs : Nat) : Int) := by unfold dist; omega
  rw [d0, d1, Int.mul_zero, show rd vs (a : Int) - m - rd vs (a : Int) = -m by omega, Int.neg_mul]
  omega

/-! ### decimals -/
def dig (c : UInt8) : Prop := 48 ≤ c.toNat ∧ c.toNat ≤ 57
def numOf (l : List UInt8) : Nat := l.foldl (fun n c => 10 * n + (c.toNat - 48)) 0
theorem numOf_snoc (l : List UInt8) (c : UInt8) : numOf (l ++ [c]) = 10 * numOf l + (c.toNat - 48) := by simp [numOf]
theorem numOf_one (c : UInt8) : numOf [c] = c.toNat - 48 := by simp [numOf]
/-- A decimal without superfluous zeros. -/
def Plain (l : List UInt8) : Prop := l ≠ [] ∧ (∀ c ∈ l, dig c) ∧ (l.head? = some 48 → l.length = 1)
theorem of_nat (n : Nat) (h : n < 10) : (UInt8.ofNat (48 + n)).toNat = 48 + n := by
  rw [UInt8.toNat_ofNat']
  omega
theorem numOf_pos {l : List UInt8} (h1 : l ≠ []) (h2 : ∀ c ∈ l, dig c) (h3 : l.head? ≠ some 48) : 1 ≤ numOf l := by
  obtain ⟨m, hm⟩ : ∃ m, m = l.length := ⟨_, rfl⟩
  induction m generalizing l with
  | zero => exact absurd (List.eq_nil_of_length_eq_zero hm.symm) h1
  | succ m ih =>
    rcases List.eq_nil_or_concat l with rfl | ⟨l', c, rfl⟩
    · exact absurd rfl h1
    · rw [List.concat_eq_append] at *
      rw [numOf_snoc]
      cases l' with
      | nil =>
        have hd := h2 c (by simp)
        have hne : c ≠ 48 := fun e => h3 (by rw [e]; rfl)
        have : c.toNat ≠ 48 := fun e => hne (UInt8.toNat_inj.1 e)
        have := hd.1
        simp [numOf]
        omega
      | cons a t =>
        have := ih (l := a :: t) (by simp) (fun x hx => h2 x (List.mem_append_left _ hx)) (by simpa using h3) (by simp at hm ⊢; omega)
        omega
theorem plain_dec : ∀ (u : Nat), Plain (Go.Lib.decDigits u) ∧ numOf (Go.Lib.decDigits u) = u ∧ (1 ≤ u → (Go.Lib.decDigits u).head? ≠ some 48) := by
  intro u
  induction u using Nat.strongRecOn with
  | ind u ih =>
    rw [Go.Lib.decDigits]
    by_cases h : u < 10
    · rw [dif_pos h]
      have e := of_nat u h
      refine ⟨⟨by simp, fun c hc => ?_, fun _ => rfl⟩, by rw [numOf_one, e]; omega, fun h1 z => ?_⟩
      · obtain rfl := List.mem_singleton.1 hc
        unfold dig
        omega
      · have z : UInt8.ofNat (48 + u) = 48 := by simpa using z
        have : (UInt8.ofNat (48 + u)).toNat = 48 := by rw [z]; rfl
        omega
    · rw [dif_neg h]
      obtain ⟨⟨a1, a2, a3⟩, a4, a5⟩ := ih (u / 10) (by omega)
      have e := of_nat (u % 10) (by omega)
      have hh : (Go.Lib.decDigits (u / 10) ++ [UInt8.ofNat (48 + u % 10)]).head? = (Go.Lib.decDigits (u / 10)).head? := by
        cases hl : Go.Lib.decDigits (u / 10) with
        | nil => exact absurd hl a1
        | cons a t => rfl
      refine ⟨⟨by simp, fun c hc => ?_, fun z => ?_⟩, by rw [numOf_snoc, a4, e]; omega, fun _ => by rw [hh]; exact a5 (by omega)⟩
      · rcases List.mem_append.1 hc with hc | hc
        · exact a2 c hc
        · obtain rfl := List.mem_singleton.1 hc
          unfold dig
          omega
      · rw [hh] at z
        exact absurd z (a5 (by omega))
theorem dec_plain {l : List UInt8} (h : Plain l) : l = Go.Lib.decDigits (numOf l) := by
  obtain ⟨m, hm⟩ : ∃ m, m = l.length := ⟨_, rfl⟩
  induction m generalizing l with
  | zero => exact absurd (List.eq_nil_of_length_eq_zero hm.symm) h.1
  | succ m ih =>
    obtain ⟨h1, h2, h3⟩ := h
    rcases List.eq_nil_or_concat l with rfl | ⟨l', c, rfl⟩
    · exact absurd rfl h1
    · rw [List.concat_eq_append] at *
      have hd := h2 c (by simp)
      have hc : UInt8.ofNat (48 + (c.toNat - 48)) = c := by
        refine UInt8.toNat_inj.1 ?_
        rw [of_nat _ (by have := hd.1; have := hd.2; omega)]
        have := hd.1
        omega
      cases l' with
      | nil =>
        rw [List.nil_append, numOf_one, Go.Lib.decDigits, dif_pos (by have := hd.2; omega), hc]
      | cons a t =>
        have hne : (a :: t).head? ≠ some 48 := fun z => by
          have := h3 (by simpa using z)
          simp at this
        have hp : Plain (a :: t) := ⟨by simp, fun x hx => h2 x (List.mem_append_left _ hx), fun z => absurd z hne⟩
        have h5 := numOf_pos hp.1 hp.2.1 hne
        have h6 := ih hp (by simp at hm ⊢; omega)
        rw [numOf_snoc, Go.Lib.decDigits, dif_neg (by omega)]
        have e1 : (10 * numOf (a :: t) + (c.toNat - 48)) / 10 = numOf (a :: t) := by have := hd.2; omega
        have e2 : (10 * numOf (a :: t) + (c.toNat - 48)) % 10 = c.toNat - 48 := by have := hd.2; omega
        rw [e1, e2, hc, ← h6]
theorem parse_plain : ∀ (l : List UInt8) (acc : Nat), (∀ c ∈ l, dig c) → l.foldl (fun n c => 10 * n + (c.toNat - 48)) acc < 1000000000000000000 → acc ≤ l.foldl (fun n c => 10 * n + (c.toNat - 48)) acc ∧ Go.Lib.parseUint10 acc l = .ok (l.foldl (fun n c => 10 * n + (c.toNat - 48)) acc)
  | [], acc, _, _ => ⟨Nat.le_refl _, rfl⟩
  | c :: r, acc, h, hl => by
    obtain ⟨h1, h2⟩ := parse_plain r (10 * acc + (c.toNat - 48)) (fun x hx => h x (by simp [hx])) hl
    have hd := h c (by simp)
    have hl' : r.foldl (fun n c => 10 * n + (c.toNat - 48)) (10 * acc + (c.toNat - 48)) < 1000000000000000000 := hl
    refine ⟨by show acc ≤ r.foldl _ (10 * acc + (c.toNat - 48)); omega, ?_⟩
    show Go.Lib.parseUint10 acc (c :: r) = .ok (r.foldl _ (10 * acc + (c.toNat - 48)))
    rw [Go.Lib.parseUint10, if_pos (show 48 ≤ c.toNat ∧ c.toNat ≤ 57 from hd), if_neg (by omega), if_neg (by omega), Nat.mul_comm acc 10]
    exact h2
/-- What the program reads. -/
def rdI (l : List UInt8) : Option Int := match Go.Lib.atoiAll l with
  | .ok v => if Go.Lib.itoa v = l then some v else none
  | _ => none
theorem atoi_dec (v : Nat) (hv : v ≤ 1000000) : Go.Lib.atoiAll (Go.Lib.decDigits v) = .ok (v : Int) := by
  obtain ⟨⟨h1, h2, h3⟩, h4, -⟩ := plain_dec v
  obtain ⟨-, hp⟩ := parse_plain (Go.Lib.decDigits v) 0 h2 (by have : numOf (Go.Lib.decDigits v) = v := h4; show numOf _ < _; omega)
  have hp : Go.Lib.parseUint10 0 (Go.Lib.decDigits v) = .ok v := by rw [hp]; exact congrArg Go.Lib.NumEnd.ok h4
  cases hl : Go.Lib.decDigits v with
  | nil => exact absurd hl h1
  | cons c r =>
    have hc := h2 c (by rw [hl]; simp)
    have n43 : ¬ c.toNat = 43 := by have := hc.1; omega
    have n45 : ¬ c.toNat = 45 := by have := hc.1; omega
    unfold Go.Lib.atoiAll
    simp only
    rw [if_neg (by omega), ← hl]
    unfold Go.Lib.parseMag
    rw [if_neg h1, hp]
    simp only
    rw [if_neg (by omega), if_neg (by omega), if_neg n45]
theorem rdI_iff (l : List UInt8) (v : Nat) (hv : v ≤ 1000) : rdI l = some (v : Int) ↔ l = Go.Lib.decDigits v := by
  constructor
  · intro h
    unfold rdI at h
    split at h
    · split at h
      · rename_i e
        have := Option.some.inj h
        subst this
        rw [← e, Go.Lib.itoa_nonneg]
      · cases h
    · cases h
  · rintro rfl
    unfold rdI
    rw [atoi_dec v (by omega)]
    simp only
    rw [Go.Lib.itoa_nonneg, if_pos rfl]
/-- What the reference reads. -/
noncomputable def rdS (l : List UInt8) : Int := open Classical in if (1 ≤ l.length ∧ l.length ≤ 6) ∧ Plain l then (numOf l : Int) else -1
theorem dec_len : ∀ (n u : Nat), u < 10 ^ (n + 1) → (Go.Lib.decDigits u).length ≤ n + 1
  | 0, u, h => by
    rw [Go.Lib.decDigits, dif_pos (by simpa using h)]
    simp
  | n + 1, u, h => by
    rw [Go.Lib.decDigits]
    by_cases c : u < 10
    · rw [dif_pos c]; simp
    · rw [dif_neg c, List.length_append]
      have := dec_len n (u / 10) (by rw [Nat.pow_succ] at h; omega)
      simp
      omega
theorem rdS_iff (l : List UInt8) (v : Nat) (hv : v ≤ 1000) : rdS l = (v : Int) ↔ l = Go.Lib.decDigits v := by
  unfold rdS
  constructor
  · intro h
    split at h
    · rename_i c
      have e : numOf l = v := by omega
      rw [← e]
      exact dec_plain c.2
    · omega
  · rintro rfl
    obtain ⟨h1, h2, -⟩ := plain_dec v
    have h3 := dec_len 3 v (Nat.lt_of_le_of_lt hv (by decide))
    have h4 : 1 ≤ (Go.Lib.decDigits v).length := List.length_pos_iff.2 h1.1
    rw [if_pos ⟨⟨h4, by omega⟩, h1⟩, h2]

/-- The parts of a text, from a part's begin and a byte on, so many bytes left. -/
def seg (s : ByteArray) (c : Int) : Nat → Nat → Nat → List ByteArray
  | 0, from_, _ => [s.extract from_ s.size]
  | d + 1, from_, i => if bt s i = c then s.extract from_ i :: seg s c d (i + 1) (i + 1) else seg s c d from_ (i + 1)
theorem split_l0 (s : ByteArray) (c : Int) (hs : s.size ≤ 140737488351232) : ∀ i : Nat, i ≤ s.size → ∀ (from_ : Nat) (ps : List ByteArray), from_ ≤ i → ps.length ≤ i → s.size ≤ 1048576 →
    Ev (fun k => spec_l1Split.l0 k s c ps from_ i) (ps ++ seg s c (s.size - i) from_ i) := by
  refine down s.size ?_ ?_
  · intro from_ ps h1 h2 h3
    refine succ ?_
    simp only [spec_l1Split.l0, Nat.sub_self, seg]
    refine neg (by omega) (pos (by omega) (pos (by omega) (pos (by omega) ?_)))
    simp only [Int.toNat_natCast]
    exact now _
  · intro i hi ih from_ ps h1 h2 h3
    refine succ ?_
    simp only [spec_l1Split.l0]
    rw [wnat (by omega), show s.size - i = (s.size - (i + 1)) + 1 by omega]
    simp only [seg, Int.toNat_natCast]
    refine pos (by omega) (pos (by omega) ?_)
    by_cases e : bt s i = c
    · refine pos e (pos (by omega) (pos (by omega) (pos (by omega) (pos (by omega) ?_))))
      rw [if_pos e]
      refine conv (ih (i + 1) (ps ++ [s.extract from_ i]) (by omega) (by simp; omega) h3) ?_
      simp
    · refine neg e ?_
      rw [if_neg e]
      exact ih from_ ps (by omega) (by omega) h3
theorem split_f (s : ByteArray) (c : Int) (h : s.size ≤ 1048576) : Ev (fun k => spec_l1Split.f k s c) (seg s c s.size 0 0) := by
  unfold spec_l1Split.f
  exact conv (split_l0 s c (by omega) 0 (by omega) 0 [] (by omega) (by simp) h) (by simp)
theorem seg_pos (s : ByteArray) (c : Int) : ∀ d from_ i, 1 ≤ (seg s c d from_ i).length := by
  intro d
  induction d with
  | zero => intro f i; simp [seg]
  | succ d ih =>
    intro f i
    simp only [seg]
    split
    · simp
    · exact ih _ _
/-- Without the byte there is one part. -/
theorem seg_none (s : ByteArray) (c : Int) : ∀ d from_ i, d = s.size - i → (∀ j, i ≤ j → j < s.size → bt s j ≠ c) → seg s c d from_ i = [s.extract from_ s.size] := by
  intro d
  induction d with
  | zero => intro f i _ _; rfl
  | succ d ih =>
    intro f i hd h
    simp only [seg]
    rw [if_neg (h i (by omega) (by omega))]
    exact ih f (i + 1) (by omega) (fun j h1 h2 => h j (by omega) h2)
/-- With the byte: the first part, and the parts behind. -/
theorem seg_first (s : ByteArray) (c : Int) (j : Nat) (hj : j < s.size) (e : bt s j = c) : ∀ d from_ i, d = s.size - i → i ≤ j → (∀ q, i ≤ q → q < j → bt s q ≠ c) → seg s c d from_ i = s.extract from_ j :: seg s c (s.size - (j + 1)) (j + 1) (j + 1) := by
  intro d
  induction d with
  | zero => intro f i h1 h2 _; omega
  | succ d ih =>
    intro f i hd hi h
    simp only [seg]
    by_cases z : i = j
    · subst z
      rw [if_pos e, show d = s.size - (i + 1) by omega]
    · rw [if_neg (h i (by omega) (by omega))]
      exact ih f (i + 1) (by omega) (by omega) (fun q h1 h2 => h q (by omega) h2)
theorem indexByte_spec : ∀ (l : List UInt8) (c : UInt8), (Go.Lib.indexByte l c = -1 ∧ c ∉ l) ∨ ∃ i : Nat, ∃ h : i < l.length, Go.Lib.indexByte l c = i ∧ l[i] = c ∧ ∀ j (hj : j < i), l[j]'(by omega) ≠ c := by
  intro l c
  induction l with
  | nil => left; simp [Go.Lib.indexByte]
  | cons b l ih =>
    by_cases e : b = c
    · right
      refine ⟨0, by simp, ?_, by simpa using e, fun j hj => by omega⟩
      simp [Go.Lib.indexByte, e]
    · rcases ih with ⟨h1, h2⟩ | ⟨i, h, h1, h2, h3⟩
      · left
        refine ⟨?_, by simp [Ne.symm e, h2]⟩
        simp only [Go.Lib.indexByte, h1]
        rw [if_neg (by simpa using e)]
        simp
      · right
        refine ⟨i + 1, by simp; omega, ?_, by simpa using h2, ?_⟩
        · simp only [Go.Lib.indexByte, h1]
          rw [if_neg (by simpa using e), if_neg (by simp)]
          omega
        · intro j hj
          cases j with
          | zero => simpa using e
          | succ j => simpa using h3 j (by omega)

/-! ### the reference's reading of a number -/
theorem bt_list (s : ByteArray) (i : Nat) (h : i < s.size) : bt s (i : Int) = ((s.data.toList[i]'(by simpa using h)).toNat : Int) := by
  rw [bt_lt s i h]
  rfl
theorem dig_or {c : Int} : (48 ≤ c ∧ c ≤ 57) ∨ c < 48 ∨ c > 57 := by omega
theorem read_l0 (s : ByteArray) (hs : s.size ≤ 6) : ∀ i : Nat, i ≤ s.size → ∀ n : Nat, n < 10 ^ i → Ev (fun k => spec_l1Read.l0 k s (n : Int) (i : Int))
    (open Classical in if ∀ c ∈ s.data.toList.drop i, dig c then ((s.data.toList.drop i).foldl (fun n c => 10 * n + (c.toNat - 48)) n : Nat) else (-1 : Int)) := by
  have hl : s.data.toList.length = s.size := by simp
  refine down s.size ?_ ?_
  · intro n _
    refine succ ?_
    simp only [spec_l1Read.l0]
    refine neg (by omega) (conv (now _) ?_)
    rw [List.drop_eq_nil_of_le (by omega), if_pos (fun c hc => by cases hc)]
    rfl
  · intro i hi ih n hn
    have hb := bt_list s i hi
    have e10 : 10 ^ (i + 1) ≤ 10 ^ 6 := Nat.pow_le_pow_right (by omega) (by omega)
    have e11 : 10 ^ (i + 1) = 10 * 10 ^ i := by rw [Nat.pow_succ]; omega
    have hr := bt_range s i
    refine succ ?_
    simp only [spec_l1Read.l0]
    refine pos (by omega) (pos (by omega) ?_)
    rw [List.drop_eq_getElem_cons (by omega : i < s.data.toList.length)]
    by_cases c1 : bt s i < 48
    · refine pos c1 (conv (now _) (Eq.symm (if_neg fun h => ?_)))
      have := (h _ (List.mem_cons_self)).1
      omega
    · refine neg c1 ?_
      by_cases c2 : bt s i > 57
      · refine pos c2 (conv (now _) (Eq.symm (if_neg fun h => ?_)))
        have := (h _ (List.mem_cons_self)).2
        omega
      · refine neg c2 ?_
        obtain ⟨v, hv⟩ : ∃ v, v = s.data.toList[i]'(by omega) := ⟨_, rfl⟩
        rw [← hv] at hb ⊢
        have hd : dig v := by unfold dig; omega
        have e : wrap64 (wrap64 (10 * (n : Int)) + (bt s i - 48) % 256) = ((10 * n + (v.toNat - 48) : Nat) : Int) := by
          have e6 : (10 : Nat) ^ 6 = 1000000 := by decide
          rw [w64 (x := 10 * (n : Int)) (by omega) (by omega), w64 (by omega) (by omega)]
          omega
        rw [e, wnat (by omega)]
        have := ih (10 * n + (v.toNat - 48)) (by have := hd.1; have := hd.2; omega)
        refine conv this ?_
        by_cases q : ∀ c ∈ s.data.toList.drop (i + 1), dig c
        · rw [if_pos q, if_pos (List.forall_mem_cons.2 ⟨hd, q⟩)]
          rfl
        · rw [if_neg q, if_neg (fun h => q (List.forall_mem_cons.1 h).2)]
theorem read_f (s : ByteArray) : Ev (fun k => spec_l1Read.f k s) (rdS s.data.toList) := by
  have hl : s.data.toList.length = s.size := by simp
  unfold spec_l1Read.f rdS
  rw [spec_in]
  refine bindSome rfl ?_
  by_cases c : (1 : Int) ≤ s.size ∧ (s.size : Int) ≤ 6
  · refine pos (by simpa using c) (pos (by omega) ?_)
    have h0 : s.data.toList ≠ [] := fun e => by rw [e] at hl; simp at hl; omega
    have hb := bt_list s 0 (by omega)
    have hh : s.data.toList.head? = some (s.data.toList[0]'(by omega)) := by
      rw [List.head?_eq_getElem?, List.getElem?_eq_getElem]
    have hlong := read_l0 s (by omega) 0 (by omega) 0 (by simp)
    simp only [List.drop_zero] at hlong
    have fin : ¬ (s.data.toList.head? = some 48 ∧ s.size > 1) → Ev (fun k => spec_l1Read.j0 k s false) (open Classical in if (1 ≤ s.data.toList.length ∧ s.data.toList.length ≤ 6) ∧ Plain s.data.toList then (numOf s.data.toList : Int) else -1) := by
      intro hz
      refine succ ?_
      simp only [spec_l1Read.j0]
      refine neg (by simp) (conv hlong ?_)
      have z0 : s.data.toList.drop 0 = s.data.toList := rfl
      by_cases q : ∀ c ∈ s.data.toList, dig c
      · rw [if_pos (show ∀ c ∈ s.data.toList.drop 0, dig c from q), if_pos ⟨by omega, h0, q, fun z => by
          by_cases g : s.size > 1
          · exact absurd ⟨z, g⟩ hz
          · omega⟩]
        rfl
      · rw [if_neg (show ¬ ∀ c ∈ s.data.toList.drop 0, dig c from q), if_neg (fun g => q g.2.2.1)]
    by_cases d : bt s 0 = 48
    · refine pos d ?_
      have h48 : s.data.toList.head? = some 48 := by
        rw [hh]
        congr 1
        refine UInt8.toNat_inj.1 ?_
        have : bt s 0 = bt s ((0 : Nat) : Int) := rfl
        have e48 : (48 : UInt8).toNat = 48 := rfl
        omega
      by_cases g : (s.size : Int) > 1
      · rw [decide_eq_true g]
        refine succ ?_
        simp only [spec_l1Read.j0]
        refine pos trivial (conv (now _) (Eq.symm (if_neg fun z => ?_)))
        have := z.2.2.2 h48
        omega
      · rw [decide_eq_false g]
        exact fin (fun z => by omega)
    · refine neg d (fin fun z => d ?_)
      have h1 := z.1
      rw [hh] at h1
      have h1 := Option.some.inj h1
      have : bt s 0 = bt s ((0 : Nat) : Int) := rfl
      rw [h1] at hb
      have e48 : (48 : UInt8).toNat = 48 := rfl
      omega
  · refine neg (by simpa using c) (succ ?_)
    simp only [spec_l1Read.j0]
    exact pos trivial (conv (now _) (Eq.symm (if_neg fun z => c (by omega))))
/-! ### the words of a text -/
theorem words_seg (s : ByteArray) : ∀ (n p : Nat), p ≤ s.size → s.size - p ≤ n →
    Go.Lib.splitB ⟨#[45]⟩ 0 (Go.Lib.countB (s.extract p s.size) ⟨#[45]⟩) (s.extract p s.size) = seg s 45 (s.size - p) p p := by
  intro n
  induction n with
  | zero =>
    intro p hp hn
    obtain rfl : p = s.size := by omega
    have hz : Go.Lib.indexB (s.extract s.size s.size) ⟨#[45]⟩ = -1 := by
      rcases Go.Lib.indexB_cases (s.extract s.size s.size) ⟨#[45]⟩ with h | ⟨i, -, h⟩
      · exact h
      · have : (⟨#[45]⟩ : ByteArray).size = 1 := rfl
        rw [ByteArray.size_extract] at h
        omega
    rw [Go.Lib.splitB_miss _ _ _ _ hz, Nat.sub_self]
    rfl
  | succ n ih =>
    intro p hp hn
    obtain ⟨t, ht⟩ : ∃ t, t = s.extract p s.size := ⟨_, rfl⟩
    have htz : t.size = s.size - p := by rw [ht, ByteArray.size_extract]; omega
    have htl : t.data.toList.length = s.size - p := by simp [htz]
    have hget : ∀ (j : Nat) (hj : j < t.data.toList.length), bt s ((p + j : Nat) : Int) = ((t.data.toList[j]'hj).toNat : Int) := by
      intro j hj
      rw [bt_lt s (p + j) (by omega)]
      congr 2
      subst ht
      have : (s.extract p s.size).data.toList[j]'hj = (s.extract p s.size)[j]'(by omega) := rfl
      rw [this, ByteArray.getElem_extract]
    have e45 : (45 : UInt8).toNat = 45 := rfl
    have hone : Go.Lib.indexB t ⟨#[45]⟩ = Go.Lib.indexByte t.data.toList 45 := Go.Lib.index_one _ _
    rw [← ht]
    rcases indexByte_spec t.data.toList 45 with ⟨h1, h2⟩ | ⟨i, hi, h1, h2, h3⟩
    · rw [Go.Lib.splitB_miss _ _ _ _ (hone.trans h1), seg_none s 45 (s.size - p) p p rfl, ht]
      intro j hj1 hj2 e
      have := hget (j - p) (by omega)
      rw [show p + (j - p) = j by omega, e] at this
      refine h2 ?_
      have : t.data.toList[j - p]'(by omega) = 45 := UInt8.toNat_inj.1 (by omega)
      rw [← this]
      exact List.getElem_mem _
    · have h1' : Go.Lib.indexB t ⟨#[45]⟩ = i := hone.trans h1
      have hsz : (⟨#[45]⟩ : ByteArray).size = 1 := rfl
      rw [Go.Lib.countB_hit _ _ i (by rw [hsz]; omega) h1', Nat.add_comm 1, Go.Lib.splitB_hit _ _ _ _ i h1', hsz]
      have ex : t.extract (i + 1) t.size = s.extract (p + i + 1) s.size := by
        rw [ht, ByteArray.extract_extract]
        congr 1
        rw [← ht, htz]
        omega
      rw [ex, ih (p + i + 1) (by omega) (by omega), seg_first s 45 (p + i) (by omega) (by rw [hget i hi, h2]; rfl) (s.size - p) p p rfl (by omega) (fun q g1 g2 e => ?_)]
      · congr 1
        rw [ht, ByteArray.extract_extract]
        congr 1
        omega
      · have := hget (q - p) (by omega)
        rw [show p + (q - p) = q by omega, e] at this
        exact h3 (q - p) (by omega) (UInt8.toNat_inj.1 (by omega))
theorem seg_le (s : ByteArray) (c : Int) (m : Nat) : ∀ d f i : Nat, d = s.size - i → f ≤ i → i ≤ s.size → (∀ x ∈ seg s c d f i, x.size ≤ m) → s.size - f + 1 ≤ (m + 1) * (seg s c d f i).length := by
  intro d
  induction d with
  | zero =>
    intro f i h1 h2 h3 h
    have := h _ (List.mem_singleton.2 rfl)
    rw [ByteArray.size_extract] at this
    simp only [seg, List.length_singleton]
    omega
  | succ d ih =>
    intro f i h1 h2 h3 h
    simp only [seg] at h ⊢
    split at h
    · rename_i e
      rw [if_pos e]
      have a1 := h _ List.mem_cons_self
      rw [ByteArray.size_extract] at a1
      have a2 := ih (i + 1) (i + 1) (by omega) (by omega) (by omega) (fun x hx => h x (List.mem_cons_of_mem _ hx))
      rw [List.length_cons, Nat.mul_add]
      omega
    · rename_i e
      rw [if_neg e]
      exact ih f (i + 1) (by omega) (by omega) (by omega) h
theorem seg_mem_le (s : ByteArray) (c : Int) : ∀ d f i : Nat, ∀ x ∈ seg s c d f i, x.size ≤ s.size := by
  intro d
  induction d with
  | zero =>
    intro f i x h
    rw [List.mem_singleton.1 h, ByteArray.size_extract]
    omega
  | succ d ih =>
    intro f i x h
    simp only [seg] at h
    split at h
    · rcases List.mem_cons.1 h with rfl | h
      · rw [ByteArray.size_extract]; omega
      · exact ih _ _ x h
    · exact ih _ _ x h
theorem seg_count (s : ByteArray) (c : Int) : ∀ d f i : Nat, (seg s c d f i).length ≤ d + 1 := by
  intro d
  induction d with
  | zero => intro f i; simp [seg]
  | succ d ih =>
    intro f i
    simp only [seg]
    split
    · have := ih (i + 1) (i + 1); simp; omega
    · have := ih f (i + 1); omega

/-- All numbers of a list are bytes. -/
def Bytes (l : List Int) : Prop := l.length ≤ 1048576 ∧ ∀ x ∈ l, 0 ≤ x ∧ x ≤ 255
theorem u64_range (x : Int) : 0 ≤ IntKind.u64.wrap x ∧ IntKind.u64.wrap x < 18446744073709551616 := by
  simp [IntKind.wrap, IntKind.bits, IntKind.signed]
  omega
theorem low_bits (y : Int) : 0 ≤ wrap64 (Go.bits .and .u64 (IntKind.u64.wrap y / 1099511627776) 255) ∧ wrap64 (Go.bits .and .u64 (IntKind.u64.wrap y / 1099511627776) 255) ≤ 255 := by
  have hs := u64_range y
  generalize IntKind.u64.wrap y = x at hs
  have h2 : 0 ≤ x / 1099511627776 ∧ x / 1099511627776 < 18446744073709551616 := by omega
  rw [u64_and _ _ h2.1 h2.2 (by omega) (by omega)]
  have h3 : ((x / 1099511627776).toNat &&& (255 : Int).toNat) ≤ 255 := Nat.and_le_right
  rw [w64 (by omega) (by omega)]
  omega
theorem next_ok {l : List Int} (h : Bytes l) {n : Int} (s : Int) (hn : 0 ≤ n ∧ n ≤ 1000000) : ∃ v s', spec_l1Cur_next.f l n s = some (v, n + 1, s') ∧ 0 ≤ v ∧ v ≤ 255 := by
  unfold spec_l1Cur_next.f
  rw [w64 (x := n + 1) (by omega) (by omega)]
  obtain ⟨m, rfl⟩ : ∃ m : Nat, n = (m : Int) := ⟨n.toNat, by omega⟩
  by_cases c : (m : Int) < (l.length : Int)
  · have hb := h.2 _ (rd_mem l m (by omega))
    rw [if_pos c, if_pos (by omega), w64 (x := rd l m) (by omega) (by omega)]
    by_cases d : (m : Int) + 1 ≤ (l.length : Int)
    · rw [if_pos d]
      exact ⟨_, _, rfl, hb⟩
    · rw [if_neg d]
      exact ⟨_, _, rfl, low_bits _⟩
  · rw [if_neg c]
    by_cases d : (m : Int) + 1 ≤ (l.length : Int)
    · rw [if_pos d]
      exact ⟨_, _, rfl, by omega, by omega⟩
    · rw [if_neg d]
      exact ⟨_, _, rfl, low_bits _⟩
theorem pick_ok {l : List Int} (h : Bytes l) {n : Int} (s : Int) {m : Int} (hn : 0 ≤ n ∧ n ≤ 1000000) (hm : 1 ≤ m ∧ m ≤ 200) : ∃ v n' s', spec_l1Cur_pick.f l n s m = some (v, n', s') ∧ (0 ≤ v ∧ v < m) ∧ (n ≤ n' ∧ n' ≤ n + 1) := by
  unfold spec_l1Cur_pick.f
  by_cases c : m ≤ 1
  · exact ⟨0, n, s, by rw [if_pos c], by omega, by omega⟩
  · obtain ⟨v, s', e, h0, h1⟩ := next_ok h s hn
    refine ⟨_, n + 1, s', by rw [if_neg c, e, Option.bind_some, if_neg (by omega), if_neg (by omega)], ?_, by omega⟩
    show 0 ≤ Int.tmod v m ∧ Int.tmod v m < m
    rw [Int.tmod_eq_emod_of_nonneg h0]
    exact ⟨Int.emod_nonneg _ (by omega), Int.emod_lt_of_pos _ (by omega)⟩
theorem among_ok {l : List Int} (h : Bytes l) {n : Int} (s : Int) (hn : 0 ≤ n ∧ n ≤ 1000000) {xs : List Int} (hx : 1 ≤ xs.length ∧ xs.length ≤ 200) : ∃ v n' s', spec_l1Cur_among.f l n s xs = some (v, n', s') ∧ v ∈ xs ∧ (n ≤ n' ∧ n' ≤ n + 1) := by
  obtain ⟨v, n', s', e, h1, h2⟩ := pick_ok h s (m := (xs.length : Int)) hn (by omega)
  unfold spec_l1Cur_among.f
  rw [e]
  obtain ⟨j, rfl⟩ : ∃ j : Nat, v = (j : Int) := ⟨v.toNat, by omega⟩
  exact ⟨_, n', s', by rw [Option.bind_some, if_pos h1.1, if_pos h1.2], rd_mem xs j (by omega), h2⟩

theorem one_ok {l : List Int} (h : Bytes l) {n : Int} (s : Int) {m : Int} (hn : 0 ≤ n ∧ n ≤ 1000000) (hm : 1 ≤ m ∧ m ≤ 200) : ∃ v n' s', spec_l1Cur_one.f l n s m = some (v, n', s') ∧ (n ≤ n' ∧ n' ≤ n + 1) := by
  obtain ⟨v, n', s', e, -, h2⟩ := pick_ok h s hn hm
  refine ⟨v == 0, n', s', ?_, h2⟩
  unfold spec_l1Cur_one.f
  rw [e]
  rfl
theorem sum_small {vs : List Int} (hl : vs.length ≤ 100) (hv : ∀ x ∈ vs, 0 ≤ x ∧ x ≤ 1000) : ∃ t, Ev (fun k => spec_mdSum.f k vs) t := by
  have key : ∀ i : Nat, i ≤ vs.length → ∀ s : Int, 0 ≤ s → s ≤ 1000 * i → ∃ t, Ev (fun k => spec_mdSum.l0 k s vs vs.length i) t := by
    refine down vs.length ?_ ?_
    · intro s h0 h1
      refine ⟨s, succ ?_⟩
      simp only [spec_mdSum.l0]
      exact neg (by omega) (now _)
    · intro i hi ih s h0 h1
      have hx := hv _ (rd_mem vs i hi)
      obtain ⟨t, ht⟩ := ih (s + rd vs i) (by omega) (by omega)
      refine ⟨t, succ ?_⟩
      simp only [spec_mdSum.l0]
      rw [wnat (by omega), w64 (x := s + rd vs i) (by omega) (by omega)]
      exact pos (by omega) (pos (by omega) (pos (by omega) ht))
  unfold spec_mdSum.f
  exact key 0 (Nat.zero_le _) 0 (Int.le_refl _) (Int.le_refl _)
/-- A list as it is drawn. -/
def Drawn (o : List Int) : Prop := o.length ≤ 61 ∧ ∀ x ∈ o, -1 ≤ x ∧ x ≤ 1001
theorem sure_ok {l : List Int} (h : Bytes l) {n : Int} (s : Int) (hn : 0 ≤ n ∧ n ≤ 1000) : ∃ o n' s', Ev (fun k => spec_l1Cur_surePeople.f k l n s) (o, n', s') ∧ (1 ≤ o.length ∧ o.length ≤ 9 ∧ ∀ x ∈ o, 0 ≤ x ∧ x ≤ 5) ∧ (n ≤ n' ∧ n' ≤ n + 20) := by
  have key : ∀ (d : Nat) (o : List Int) (n s : Int), d ≤ 9 → 0 ≤ n ∧ n + d ≤ 2000 → 1 ≤ o.length + d → o.length + d ≤ 9 → (∀ x ∈ o, 0 ≤ x ∧ x ≤ 5) → ∃ o' n' s', Ev (fun k => spec_l1Cur_surePeople.l0 k o (d : Int) l n s) (o', n', s') ∧ (1 ≤ o'.length ∧ o'.length ≤ 9 ∧ ∀ x ∈ o', 0 ≤ x ∧ x ≤ 5) ∧ (n ≤ n' ∧ n' ≤ n + d + 1) := by
    intro d
    induction d with
    | zero =>
      intro o n s _ hn h1 h9 ho
      obtain ⟨t, ht⟩ := sum_small (vs := o) (by omega) (fun x hx => by have := ho x hx; omega)
      by_cases c : t = 0
      · obtain ⟨v, n', s', e, hv, hn'⟩ := pick_ok h s (n := n) (m := (o.length : Int)) (by omega) (by omega)
        refine ⟨o.set v.toNat 1, n', s', succ ?_, ⟨by simp; omega, by simp; omega, fun x hx => ?_⟩, by omega⟩
        · simp only [spec_l1Cur_surePeople.l0]
          refine neg (by omega) (bind ht (pos c (bindSome e (pos hv.1 (pos hv.2 (now _))))))
        · rcases List.mem_or_eq_of_mem_set hx with hx | rfl
          · exact ho x hx
          · omega
      · refine ⟨o, n, s, succ ?_, ⟨by omega, by omega, ho⟩, by omega⟩
        simp only [spec_l1Cur_surePeople.l0]
        exact neg (by omega) (bind ht (neg c (now _)))
    | succ d ih =>
      intro o n s hd hn h1 h9 ho
      obtain ⟨v, n1, s1, e, hv, hn1⟩ := among_ok h s (n := n) (by omega) (xs := [0, 0, 1, 1, 2, 3, 5]) (by simp)
      obtain ⟨o', n', s', e', h2, h3⟩ := ih (o ++ [v]) n1 s1 (by omega) (by omega) (by simp; omega) (by simp; omega) (fun x hx => by
        rcases List.mem_append.1 hx with hx | hx
        · exact ho x hx
        · simp at hx hv; omega)
      refine ⟨o', n', s', succ ?_, h2, by omega⟩
      simp only [spec_l1Cur_surePeople.l0]
      refine pos (by omega) (bindSome e (pos (by omega) ?_))
      rw [show wrap64 (((d + 1 : Nat) : Int) - 1) = (d : Int) by unfold wrap64; omega]
      exact e'
  obtain ⟨v, n1, s1, e, hv, hn1⟩ := pick_ok h s (n := n) (m := 9) (by omega) (by omega)
  obtain ⟨d, rfl⟩ : ∃ d : Nat, v = (d : Int) := ⟨v.toNat, by omega⟩
  obtain ⟨o, n', s', e', h2, h3⟩ := key (d + 1) [] n1 s1 (by omega) (by omega) (by simp) (by simp; omega) (fun x hx => by cases hx)
  refine ⟨o, n', s', ?_, h2, by omega⟩
  unfold spec_l1Cur_surePeople.f
  refine bindSome e ?_
  rw [show wrap64 (1 + (d : Int)) = ((d + 1 : Nat) : Int) by unfold wrap64; omega]
  exact e'
theorem more_ok {l : List Int} (h : Bytes l) : ∀ (d : Nat) (o : List Int) (n s : Int), 20 < o.length + d → o.length ≤ 20 → 0 ≤ n ∧ n + d ≤ 5000 → (∀ x ∈ o, 0 ≤ x ∧ x ≤ 5) → ∃ o' n' s', spec_l1Cur_people.more l d o n s = some (o', n', s') ∧ (o'.length ≤ 20 ∧ ∀ x ∈ o', 0 ≤ x ∧ x ≤ 5) ∧ (n ≤ n' ∧ n' ≤ n + d) := by
  intro d
  induction d with
  | zero => intro o n s h1 h2; omega
  | succ d ih =>
    intro o n s h1 h2 hn ho
    simp only [spec_l1Cur_people.more]
    by_cases c : o.length < 20
    · rw [if_pos c]
      obtain ⟨v, n1, s1, e, hv, hn1⟩ := pick_ok h s (n := n) (m := 3) (by omega) (by omega)
      obtain ⟨o', n', s', e', h3, h4⟩ := ih (o ++ [v]) n1 s1 (by simp; omega) (by simp; omega) (by omega) (fun x hx => by
        rcases List.mem_append.1 hx with hx | hx
        · exact ho x hx
        · simp at hx; omega)
      rw [e, Option.bind_some]
      exact ⟨o', n', s', e', h3, by omega⟩
    · rw [if_neg c]
      exact ⟨o, n, s, rfl, ⟨h2, ho⟩, by omega⟩
theorem rows_drawn (q : Nat) : Drawn (spec_l1Cur_people.rows.getD q []) := by
  unfold spec_l1Cur_people.rows
  rcases (show q = 0 ∨ q = 1 ∨ q = 2 ∨ q = 3 ∨ q = 4 ∨ q = 5 ∨ 6 ≤ q by omega) with rfl | rfl | rfl | rfl | rfl | rfl | h
  · exact ⟨by decide, fun x hx => by cases hx⟩
  · exact ⟨by decide, fun x hx => by simp at hx; omega⟩
  · exact ⟨by decide, fun x hx => by simp at hx; omega⟩
  · exact ⟨by decide, fun x hx => by simp at hx; omega⟩
  · exact ⟨by simp, fun x hx => by simp at hx; omega⟩
  · exact ⟨by decide, fun x hx => by simp at hx; omega⟩
  · rw [List.getD_eq_getElem?_getD, List.getElem?_eq_none (by simpa using h)]
    exact ⟨by decide, fun x hx => by cases hx⟩
theorem people_ok {l : List Int} (h : Bytes l) {n : Int} (s : Int) (hn : 0 ≤ n ∧ n ≤ 1000) : ∃ o n' s', Ev (fun k => spec_l1Cur_people.f k l n s) (o, n', s') ∧ Drawn o ∧ (n ≤ n' ∧ n' ≤ n + 100) := by
  obtain ⟨o, n1, s1, e1, ⟨h1, h2, h3⟩, hn1⟩ := sure_ok h s hn
  obtain ⟨v, n2, s2, e2, hv, hn2⟩ := pick_ok h s1 (n := n1) (m := 16) (by omega) (by omega)
  have fin : ∀ {r : List Int × Int × Int}, spec_l1Cur_people.rest l o v n2 s2 = some r → Ev (fun k => spec_l1Cur_people.f k l n s) r := fun hr => by
    unfold spec_l1Cur_people.f
    refine bind e1 (bindSome e2 ?_)
    exact ofEq hr
  by_cases c0 : v = 0
  · obtain ⟨q, n3, s3, e3, hq, hn3⟩ := pick_ok h s2 (n := n2) (m := 6) (by omega) (by omega)
    refine ⟨_, n3, s3, fin ?_, rows_drawn q.toNat, by omega⟩
    unfold spec_l1Cur_people.rest
    rw [if_pos c0, e3, Option.bind_some, if_pos hq]
  · by_cases c1 : v = 1
    · obtain ⟨o', n3, s3, e3, ⟨h4, h5⟩, hn3⟩ := more_ok h 21 o n2 s2 (by omega) (by omega) (by omega) h3
      refine ⟨o', n3, s3, fin ?_, ⟨by omega, fun x hx => by have := h5 x hx; omega⟩, by omega⟩
      unfold spec_l1Cur_people.rest
      rw [if_neg c0, if_pos c1]
      exact e3
    · refine ⟨o, n2, s2, fin ?_, ⟨by omega, fun x hx => by have := h3 x hx; omega⟩, by omega⟩
      unfold spec_l1Cur_people.rest
      rw [if_neg c0, if_neg c1]

/-! ### the text of people -/
/-- A list of bytes as a text. -/
def tx (l : List UInt8) : ByteArray := ⟨l.toArray⟩
theorem tx_append (a b : List UInt8) : tx a ++ tx b = tx (a ++ b) := by
  refine ByteArray.ext ?_
  rw [ByteArray.data_append]
  simp [tx]
theorem tx_size (l : List UInt8) : (tx l).size = l.length := by simp [tx, ByteArray.size]
theorem str_one (n : Nat) (h : n < 10) : strOfNums [(wrap64 (48 + (n : Int))) % 256] = tx [UInt8.ofNat (48 + n)] := by
  rw [w64 (by omega) (by omega), show (48 + (n : Int)) % 256 = ((48 + n : Nat) : Int) by omega]
  unfold strOfNums tx
  simp only [List.map_cons, List.map_nil, Int.toNat_natCast]
theorem num_f : ∀ (m : Nat) (n : Nat), n < 10 ^ (m + 1) → m ≤ 8 → Ev (fun k => spec_l1Num.f k (n : Int)) (tx (Go.Lib.decDigits n)) := by
  intro m
  induction m with
  | zero =>
    intro n h _
    refine succ ?_
    simp only [spec_l1Num.f]
    have h : n < 10 := by simpa using h
    refine pos (by omega) (conv (now _) ?_)
    rw [str_one n h, Go.Lib.decDigits, dif_pos h]
  | succ m ih =>
    intro n h hm
    refine succ ?_
    simp only [spec_l1Num.f]
    have e9 : 10 ^ (m + 1 + 1) ≤ 10 ^ 10 := Nat.pow_le_pow_right (by omega) (by omega)
    have e10 : (10 : Nat) ^ 10 = 10000000000 := by decide
    by_cases c : n < 10
    · refine pos (by omega) (conv (now _) ?_)
      rw [str_one n c, Go.Lib.decDigits, dif_pos c]
    · have q1 : Int.tdiv (n : Int) 10 = ((n / 10 : Nat) : Int) := rfl
      have q2 : Int.tmod (n : Int) 10 = ((n % 10 : Nat) : Int) := rfl
      rw [q1, q2, wnat0 (by omega)]
      refine neg (by omega) (bind (ih (n / 10) (by rw [Nat.pow_succ] at h; omega) (by omega)) (bindSome rfl (pos ?_ (conv (now _) ?_))))
      · have hl := dec_len (m) (n / 10) (by rw [Nat.pow_succ] at h; omega)
        show (tx (Go.Lib.decDigits (n / 10))).size + (strOfNums [(wrap64 (48 + ((n % 10 : Nat) : Int))) % 256]).size ≤ 9223372036854775807
        rw [str_one (n % 10) (by omega), tx_size, tx_size]
        simp only [List.length_singleton]
        omega
      · rw [str_one (n % 10) (by omega), tx_append]
        conv => rhs; rw [Go.Lib.decDigits, dif_neg c]
/-- The text of the first so many. -/
def tld (vs : List Int) : List UInt8 := Go.Lib.join (vs.map Go.Lib.itoa) [45]
theorem tld_one (v : Int) : tld [v] = Go.Lib.itoa v := Go.Lib.join_one _ _
theorem tld_snoc (a : Int) (t : List Int) (v : Int) : tld ((a :: t) ++ [v]) = tld (a :: t) ++ [45] ++ Go.Lib.itoa v := by
  unfold tld
  rw [List.cons_append, List.map_cons, List.map_cons, Go.Lib.join_cons, Go.Lib.join_cons]
  simp [Go.Lib.joinTail]
theorem itoa_len {v : Int} (h : 0 ≤ v ∧ v ≤ 1000) : (Go.Lib.itoa v).length ≤ 4 := by
  obtain ⟨n, rfl⟩ := Int.eq_ofNat_of_zero_le h.1
  rw [Go.Lib.itoa_nonneg]
  exact dec_len 3 n (by omega)
theorem tld_len : ∀ (vs : List Int), (∀ x ∈ vs, 0 ≤ x ∧ x ≤ 1000) → (tld vs).length ≤ 5 * vs.length := by
  intro vs
  cases vs with
  | nil => intro _; simp [tld, Go.Lib.join_nil]
  | cons a t =>
    intro h
    unfold tld
    rw [List.map_cons, Go.Lib.join_cons, List.length_append, List.length_cons]
    obtain ⟨h1, h2⟩ := List.forall_mem_cons.1 h
    have ha := itoa_len h1
    have : ∀ (t : List Int), (∀ x ∈ t, 0 ≤ x ∧ x ≤ 1000) → (Go.Lib.joinTail [45] (t.map Go.Lib.itoa)).length ≤ 5 * t.length := by
      intro t
      induction t with
      | nil => intro _; simp [Go.Lib.joinTail]
      | cons b t ih =>
        intro h
        obtain ⟨g1, g2⟩ := List.forall_mem_cons.1 h
        have hb := itoa_len g1
        have := ih g2
        unfold Go.Lib.joinTail at this ⊢
        simp only [List.map_cons, List.flatten_cons, List.length_append, List.length_cons, List.length_nil]
        omega
    have := this t h2
    omega
theorem mdtext_l0 (vs : List Int) (hv : ∀ x ∈ vs, 0 ≤ x ∧ x ≤ 1000) (hl : vs.length ≤ 60) : ∀ i : Nat, i ≤ vs.length → Ev (fun k => spec_mdText.l0 k (tx (tld (vs.take i))) vs (vs.length : Int) (i : Int)) (tx (tld vs)) := by
  refine down vs.length ?_ ?_
  · refine succ ?_
    simp only [spec_mdText.l0]
    exact neg (by omega) (conv (now _) (by rw [List.take_length]))
  · intro i hi ih
    refine succ ?_
    simp only [spec_mdText.l0]
    rw [rd_lt vs i hi, wnat (by omega)]
    have h1 := hv vs[i] (List.getElem_mem hi)
    obtain ⟨n, hn⟩ := Int.eq_ofNat_of_zero_le h1.1
    have hnum : Ev (fun k => spec_l1Num.f k vs[i]) (tx (Go.Lib.itoa vs[i])) := by
      rw [hn, Go.Lib.itoa_nonneg]
      exact num_f 3 n (by omega) (by omega)
    have hlen := tld_len (vs.take i) (fun x hx => hv x (List.mem_of_mem_take hx))
    have hil := itoa_len h1
    have htk : (vs.take i).length = i := by simp; omega
    rw [List.take_succ_eq_append_getElem hi] at ih
    refine pos (by omega) (pos (by omega) (pos (by omega) ?_))
    by_cases c : (i : Int) > 0
    · have c45 : (⟨#[45]⟩ : ByteArray) = tx [45] := rfl
      refine pos c (pos (by rw [tx_size]; omega) (bind hnum (pos ?_ ?_)))
      · rw [c45, tx_append, tx_size, tx_size]
        simp
        omega
      · rw [c45, tx_append, tx_append]
        cases ht : vs.take i with
        | nil => rw [ht] at htk; simp at htk; omega
        | cons a t =>
          rw [ht, tld_snoc] at ih
          exact ih
    · refine neg c (bind hnum (pos (by rw [tx_size, tx_size]; omega) ?_))
      obtain rfl : i = 0 := by omega
      rw [tx_append]
      rw [List.take_zero, List.nil_append, tld_one] at ih
      simpa [tld, Go.Lib.join_nil] using ih
theorem itoa_f (v : Int) (h : 0 ≤ v ∧ v ≤ 1000) : strconv_Itoa.f v = some (tx (Go.Lib.itoa v)) := by
  unfold strconv_Itoa.f
  rw [if_pos (by omega)]
  rfl
theorem join_l0 (vs : List Int) (hv : ∀ x ∈ vs, 0 ≤ x ∧ x ≤ 1000) (hl : vs.length ≤ 60) : ∀ i : Nat, i ≤ vs.length → ∀ ps : List ByteArray, ps.length = vs.length → (∀ j : Nat, j < i → ps.getD j ByteArray.empty = tx (Go.Lib.itoa (vs.getD j 0))) → Ev (fun k => impl_joinNumbers.l0 k ⟨#[45]⟩ ps vs (vs.length : Int) (i : Int)) (tx (tld vs)) := by
  refine down vs.length ?_ ?_
  · intro ps hp hy
    have e : ps.map (·.data.toList) = vs.map Go.Lib.itoa := by
      refine List.ext_getElem (by simp [hp]) (fun j g1 g2 => ?_)
      have g1 : j < ps.length := by simpa using g1
      have := hy j (by omega)
      simp only [List.getElem_map]
      rw [List.getD_eq_getElem?_getD, List.getElem?_eq_getElem g1, List.getD_eq_getElem?_getD, List.getElem?_eq_getElem (by omega : j < vs.length)] at this
      have this : ps[j] = tx (Go.Lib.itoa vs[j]) := this
      rw [this]
      simp [tx]
    refine succ ?_
    simp only [impl_joinNumbers.l0]
    refine neg (by omega) (bindSome ?_ (now _))
    have hlen := tld_len vs hv
    unfold strings_Join.f
    rw [e, if_pos ⟨by omega, by show (tld vs).length ≤ _; omega⟩]
    rfl
  · intro i hi ih ps hp hy
    have h1 := hv vs[i] (List.getElem_mem hi)
    refine succ ?_
    simp only [impl_joinNumbers.l0]
    rw [rd_lt vs i hi, wnat (by omega)]
    refine pos (by omega) (pos (by omega) (pos (by omega) (bindSome (itoa_f _ h1) (pos (by omega) ?_))))
    refine ih _ (by simp [hp]) (fun j hj => ?_)
    simp only [Int.toNat_natCast]
    by_cases e : j = i
    · subst e
      simp [hp, hi]
    · rw [List.getD_eq_getElem?_getD, List.getElem?_set_ne (Ne.symm e), ← List.getD_eq_getElem?_getD]
      exact hy j (by omega)
theorem text_both (vs : List Int) (hx : vs.length ≤ 35184372088832) : Ev (fun k => impl_PeopleText.f k vs) (if People vs then (tx (tld vs), true) else (⟨#[]⟩, false)) ∧ Ev (fun k => spec_PeopleText.f k vs) (if People vs then (tx (tld vs), true) else (⟨#[]⟩, false)) := by
  unfold spec_PeopleText.f impl_PeopleText.f
  by_cases c : People vs
  · have hl := c.1.1.2
    rw [if_pos c]
    refine ⟨bind (good_impl vs hx) (pos (by simpa using c) (bind ?_ (now _))), bind (good_spec vs hx) (pos (by simpa using c) (bind ?_ (now _)))⟩
    · unfold impl_joinNumbers.f
      refine pos (by omega) (pos (by omega) ?_)
      exact join_l0 vs c.1.2 hl 0 (by omega) _ (by simp) (fun j hj => by omega)
    · unfold spec_mdText.f
      have := mdtext_l0 vs c.1.2 hl 0 (by omega)
      rw [List.take_zero] at this
      exact this
  · rw [if_neg c]
    exact ⟨bind (good_impl vs hx) (neg (by simpa using c) (now _)), bind (good_spec vs hx) (neg (by simpa using c) (now _))⟩
theorem mdtext_f (vs : List Int) (hv : ∀ x ∈ vs, 0 ≤ x ∧ x ≤ 1000) (hl : vs.length ≤ 60) : Ev (fun k => spec_mdText.f k vs) (tx (tld vs)) := by
  unfold spec_mdText.f
  have := mdtext_l0 vs hv hl 0 (by omega)
  rw [List.take_zero] at this
  exact this

/-! ### people read out of a text -/
theorem impl_words (s : ByteArray) : impl_readNumbers.words s ⟨#[45]⟩ = seg s 45 s.size 0 0 := by
  have h := words_seg s s.size 0 (by omega) (by omega)
  have e : s.extract 0 s.size = s := by
    refine ByteArray.ext ?_
    simp
  rwa [e, Nat.sub_zero] at h
/-- What the reference tells of the words. -/
noncomputable def told (ws : List ByteArray) : List Int := ws.map fun w => rdS w.data.toList
theorem parse_l0 (ws : List ByteArray) (hw : ws.length ≤ 1048576) : ∀ i : Nat, i ≤ ws.length → Ev (fun k => spec_mdParse.l0 k (told (ws.take i)) ws (ws.length : Int) (i : Int)) (if People (told ws) then (told ws, true) else ([], false)) := by
  refine down ws.length ?_ ?_
  · refine succ ?_
    simp only [spec_mdParse.l0]
    rw [List.take_length]
    refine neg (by omega) (bind (good_spec _ (by simp [told]; omega)) ?_)
    by_cases c : People (told ws)
    · refine pos (by simpa using c) (conv (now _) (by rw [if_pos c]))
    · refine neg (by simpa using c) (conv (now _) (by rw [if_neg c]))
  · intro i hi ih
    refine succ ?_
    simp only [spec_mdParse.l0]
    refine pos (by omega) (pos (by omega) (pos (by omega) ?_))
    have e : rdOf ByteArray.empty ws (i : Int) = ws[i] := by simp [rdOf, hi]
    rw [e]
    refine bind (read_f _) (pos (by simp [told]; omega) ?_)
    rw [wnat (by omega), show told (ws.take i) ++ [rdS ws[i].data.toList] = told (ws.take (i + 1)) by unfold told; rw [List.take_succ_eq_append_getElem hi, List.map_append]; rfl]
    exact ih
theorem all_told {ws : List ByteArray} (h : ∀ w ∈ ws, 0 ≤ rdS w.data.toList ∧ rdS w.data.toList ≤ 1000) : impl_readNumbers.all_ ws = some (told ws) ∧ ∀ w ∈ ws, w.size ≤ 4 := by
  induction ws with
  | nil => exact ⟨rfl, fun w hw => by cases hw⟩
  | cons w ws ih =>
    obtain ⟨h1, h2⟩ := List.forall_mem_cons.1 h
    obtain ⟨g1, g2⟩ := ih h2
    have e : rdS w.data.toList = ((rdS w.data.toList).toNat : Int) := by omega
    have hd := (rdS_iff _ (rdS w.data.toList).toNat (by omega)).1 e
    have hi : rdI w.data.toList = some (rdS w.data.toList) := by rw [e]; exact (rdI_iff _ _ (by omega)).2 hd
    refine ⟨?_, List.forall_mem_cons.2 ⟨?_, g2⟩⟩
    · show (rdI w.data.toList).bind _ = _
      rw [hi, Option.bind_some, g1]
      rfl
    · have := dec_len 3 (rdS w.data.toList).toNat (by omega)
      rw [← hd] at this
      simpa using this
theorem told_all {ws : List ByteArray} : ∀ {l : List Int}, impl_readNumbers.all_ ws = some l → (∀ x ∈ l, 0 ≤ x ∧ x ≤ 1000) → l = told ws := by
  induction ws with
  | nil =>
    intro l h _
    exact (Option.some.inj h).symm
  | cons w ws ih =>
    intro l h hx
    have h : (rdI w.data.toList).bind (fun v => (impl_readNumbers.all_ ws).map fun l => v :: l) = some l := h
    obtain ⟨v, h1, h2⟩ := Option.bind_eq_some_iff.1 h
    obtain ⟨t, h3, rfl⟩ := Option.map_eq_some_iff.1 h2
    obtain ⟨g1, g2⟩ := List.forall_mem_cons.1 hx
    have e : v = (v.toNat : Int) := by omega
    have hd := (rdI_iff w.data.toList v.toNat (by omega)).1 (by rw [h1, ← e])
    have hs := (rdS_iff w.data.toList v.toNat (by omega)).2 hd
    rw [ih h3 g2]
    show v :: told ws = rdS w.data.toList :: told ws
    rw [hs, ← e]
theorem parse_both (s : ByteArray) (h1 : s.size ≤ 1048576) (ws : List ByteArray) (hws : ws = seg s 45 s.size 0 0) : Ev (fun k => spec_ParsePeople.f k s) (if People (told ws) then (told ws, true) else ([], false)) ∧ Ev (fun k => impl_ParsePeople.f k s) (if People (told ws) then (told ws, true) else ([], false)) := by
  have hlen : ws.length ≤ 1048577 := by have := seg_count s 45 s.size 0 0; rw [hws]; omega
  have hmem : ∀ x ∈ ws, x.size ≤ 1048576 := fun x hx => by have := seg_mem_le s 45 s.size 0 0 x (by rw [← hws]; exact hx); omega
  have hcnt : ws.length = Go.Lib.countB s ⟨#[45]⟩ + 1 := by
    rw [hws, ← impl_words]
    exact Go.Lib.splitB_all _ (by decide) 0 _ _ rfl
  have hI : impl_readNumbers.f s ⟨#[45]⟩ = some (match impl_readNumbers.all_ ws with
      | some l => (l, true)
      | none => ([], false)) := by
    unfold impl_readNumbers.f
    rw [impl_words, ← hws, if_pos ⟨⟨h1, by decide⟩, ⟨hlen, hcnt⟩, List.all_eq_true.2 fun x hx => decide_eq_true (hmem x hx)⟩]
    cases impl_readNumbers.all_ ws <;> rfl
  refine ⟨?_, ?_⟩
  · unfold spec_ParsePeople.f
    refine bind (a := if People (told ws) then (told ws, true) else ([], false)) ?_ (now _)
    unfold spec_mdParse.f
    by_cases c : (s.size : Int) > 300
    · refine pos c (conv (now _) (Eq.symm (if_neg fun h => ?_)))
      have h4 := (all_told (ws := ws) (fun w hw => h.1.2 _ (List.mem_map.2 ⟨w, hw, rfl⟩))).2
      have h60 : ws.length ≤ 60 := by simpa [told] using h.1.1.2
      have := seg_le s 45 4 s.size 0 0 (by omega) (by omega) (by omega) (by rw [← hws]; exact h4)
      rw [← hws] at this
      omega
    · refine neg c (bind (split_f s 45 h1) ?_)
      rw [← hws]
      exact parse_l0 ws (by have := seg_count s 45 s.size 0 0; rw [hws]; omega) 0 (by omega)
  · unfold impl_ParsePeople.f
    refine bindSome hI ?_
    cases ha : impl_readNumbers.all_ ws with
    | none =>
      refine neg (by simp) (conv (now _) (Eq.symm (if_neg fun h => ?_)))
      have h4 := (all_told (ws := ws) (fun w hw => h.1.2 _ (List.mem_map.2 ⟨w, hw, rfl⟩))).1
      rw [ha] at h4
      cases h4
    | some l =>
      have hll : l.length ≤ 35184372088832 := by
        have : ∀ (ws : List ByteArray) (l : List Int), impl_readNumbers.all_ ws = some l → l.length = ws.length := by
          intro ws
          induction ws with
          | nil => intro l h; rw [← Option.some.inj h]; rfl
          | cons w ws ih =>
            intro l h
            obtain ⟨v, h1, h2⟩ := Option.bind_eq_some_iff.1 (show (impl_readNumber.rd_ w.data.toList).bind (fun v => (impl_readNumbers.all_ ws).map fun l => v :: l) = some l from h)
            obtain ⟨t, h3, rfl⟩ := Option.map_eq_some_iff.1 h2
            simp [ih t h3]
        have := this ws l ha
        omega
      refine pos rfl (bind (good_impl l hll) ?_)
      by_cases c : People l
      · refine pos (by simpa using c) (conv (now _) ?_)
        obtain rfl := told_all ha c.1.2
        rw [if_pos c]
      · refine neg (by simpa using c) (conv (now _) (Eq.symm (if_neg fun h => c ?_)))
        have h4 := (all_told (ws := ws) (fun w hw => h.1.2 _ (List.mem_map.2 ⟨w, hw, rfl⟩))).1
        rw [ha] at h4
        rw [Option.some.inj h4]
        exact h

/-! ### the text of people is read as them, and what is read as people is their text -/
theorem tx_extract (l : List UInt8) (a b : Nat) : (tx l).extract a b = tx ((l.take b).drop a) := by
  refine ByteArray.ext ?_
  rw [ByteArray.data_extract]
  apply Array.ext'
  rw [Array.toList_extract, List.extract_eq_take_drop, ← List.drop_take]
  rfl
theorem tx_bt (l : List UInt8) (i : Nat) (h : i < l.length) : bt (tx l) (i : Int) = (l[i].toNat : Int) := by
  rw [bt_list (tx l) i (by rw [tx_size]; exact h)]
  simp [tx]
theorem itoa_dig {v : Int} (h : 0 ≤ v) : ∀ c ∈ Go.Lib.itoa v, dig c := by
  obtain ⟨n, rfl⟩ := Int.eq_ofNat_of_zero_le h
  rw [Go.Lib.itoa_nonneg]
  exact (plain_dec n).1.2.1
theorem seg_told : ∀ (vs : List Int), vs ≠ [] → (∀ x ∈ vs, 0 ≤ x ∧ x ≤ 1000) → ∀ pre : List UInt8, seg (tx (pre ++ tld vs)) 45 ((tx (pre ++ tld vs)).size - pre.length) pre.length pre.length = vs.map fun v => tx (Go.Lib.itoa v) := by
  intro vs
  induction vs with
  | nil => intro h; exact absurd rfl h
  | cons a t ih =>
    intro _ hv pre
    obtain ⟨ha, ht⟩ := List.forall_mem_cons.1 hv
    have hd := itoa_dig ha.1
    cases t with
    | nil =>
      rw [tld_one, seg_none _ _ _ _ _ rfl]
      · rw [tx_size, tx_extract, List.take_length, List.drop_left]
        rfl
      · intro j h1 h2
        rw [tx_size] at h2
        rw [tx_bt _ j h2, List.getElem_append_right h1]
        have := hd _ (List.getElem_mem (show j - pre.length < (Go.Lib.itoa a).length by rw [List.length_append] at h2; omega))
        unfold dig at this
        omega
    | cons b t =>
      have e : tld (a :: b :: t) = Go.Lib.itoa a ++ [45] ++ tld (b :: t) := by
        unfold tld
        rw [List.map_cons, List.map_cons, Go.Lib.join_cons, Go.Lib.join_cons]
        simp [Go.Lib.joinTail]
      rw [e]
      obtain ⟨d, hdd⟩ : ∃ d, d = Go.Lib.itoa a := ⟨_, rfl⟩
      rw [← hdd] at hd ⊢
      have es : pre ++ (d ++ [45] ++ tld (b :: t)) = (pre ++ d ++ [45]) ++ tld (b :: t) := by simp
      have hs : (tx (pre ++ (d ++ [45] ++ tld (b :: t)))).size = pre.length + d.length + 1 + (tld (b :: t)).length := by rw [tx_size]; simp; omega
      rw [seg_first _ _ (pre.length + d.length) (by omega) ?_ _ _ _ rfl (by omega) ?_]
      · rw [List.map_cons, tx_extract]
        have h1 : ((pre ++ (d ++ [45] ++ tld (b :: t))).take (pre.length + d.length)).drop pre.length = d := by
          rw [List.take_append]
          simp
        have h2 := ih (by simp) ht (pre ++ d ++ [45])
        rw [← es] at h2
        have hp : (pre ++ d ++ [45]).length = pre.length + d.length + 1 := by simp only [List.length_append, List.length_singleton]
        rw [hp] at h2
        rw [h1, h2, hdd]
      · rw [tx_bt _ _ (by simp)]
        simp
      · intro q h1 h2
        rw [tx_bt _ q (by simp; omega), List.getElem_append_right h1, List.getElem_append_left (by simp; omega), List.getElem_append_left (by omega)]
        have := hd _ (List.getElem_mem (show q - pre.length < d.length by omega))
        unfold dig at this
        omega
theorem told_words {vs : List Int} (c : People vs) : told (seg (tx (tld vs)) 45 (tx (tld vs)).size 0 0) = vs := by
  have h := seg_told vs (by intro e; rw [e] at c; have := c.1.1; simp at this) c.1.2 []
  simp only [List.nil_append, List.length_nil, Nat.sub_zero] at h
  rw [h]
  unfold told
  rw [List.map_map]
  conv => rhs; rw [← List.map_id vs]
  refine List.map_congr_left (fun v hv => ?_)
  have hb := c.1.2 v hv
  obtain ⟨n, rfl⟩ := Int.eq_ofNat_of_zero_le hb.1
  show rdS (tx (Go.Lib.itoa (n : Int))).data.toList = (n : Int)
  rw [rdS_iff _ n (by omega), Go.Lib.itoa_nonneg]
  simp [tx]
theorem parse_text {vs : List Int} (c : People vs) : Ev (fun k => impl_ParsePeople.f k (tx (tld vs))) (vs, true) := by
  have hl := tld_len vs c.1.2
  have hn := c.1.1
  have := (parse_both (tx (tld vs)) (by rw [tx_size]; omega) _ rfl).2
  rw [told_words c, if_pos c] at this
  exact this
theorem seg_join (s : ByteArray) : ∀ d f i : Nat, d = s.size - i → f ≤ i → i ≤ s.size → Go.Lib.join ((seg s 45 d f i).map (·.data.toList)) [45] = (s.data.toList.drop f) := by
  have ex : ∀ a b : Nat, (s.extract a b).data.toList = (s.data.toList.take b).drop a := fun a b => by
    rw [ByteArray.data_extract, Array.toList_extract, List.extract_eq_take_drop, List.drop_take]
  have hsz : s.data.toList.length = s.size := Array.length_toList
  intro d
  induction d with
  | zero =>
    intro f i hd hf hi
    simp only [seg, List.map_cons, List.map_nil]
    rw [Go.Lib.join_one, ex, List.take_of_length_le (by omega)]
  | succ d ih =>
    intro f i hd hf hi
    simp only [seg]
    by_cases c : bt s i = 45
    · rw [if_pos c, List.map_cons, Go.Lib.join_cons, ex]
      have h := ih (i + 1) (i + 1) (by omega) (Nat.le_refl _) (by omega)
      obtain ⟨w, ws, hw⟩ : ∃ w ws, seg s 45 d (i + 1) (i + 1) = w :: ws := by
        have := seg_pos s 45 d (i + 1) (i + 1)
        cases hq : seg s 45 d (i + 1) (i + 1) with
        | nil => rw [hq] at this; simp at this
        | cons w ws => exact ⟨w, ws, rfl⟩
      rw [hw, List.map_cons, Go.Lib.join_cons] at h
      rw [hw, List.map_cons]
      have ej : Go.Lib.joinTail [45] (w.data.toList :: ws.map (·.data.toList)) = 45 :: (w.data.toList ++ Go.Lib.joinTail [45] (ws.map (·.data.toList))) := by
        simp [Go.Lib.joinTail]
      rw [ej, h]
      rw [bt_list s i (by omega)] at c
      have hlt : i < s.data.toList.length := by omega
      have c' : s.data.toList[i] = 45 := by
        have : (s.data.toList[i]).toNat = 45 := by omega
        exact UInt8.toNat_inj.1 this
      have e2 : s.data.toList.drop i = 45 :: s.data.toList.drop (i + 1) := by rw [List.drop_eq_getElem_cons hlt, c']
      rw [← e2]
      have e3 : s.data.toList.drop f = (s.data.toList.take i ++ s.data.toList.drop i).drop f := by rw [List.take_append_drop]
      rw [e3, List.drop_append_of_le_length (by rw [List.length_take]; omega)]
    · rw [if_neg c]
      exact ih f (i + 1) (by omega) (by omega) (by omega)
/-- What is read as people is their text. -/
theorem text_parse (s : ByteArray) (c : People (told (seg s 45 s.size 0 0))) : tx (tld (told (seg s 45 s.size 0 0))) = s := by
  have h := seg_join s s.size 0 0 rfl (Nat.le_refl _) (Nat.zero_le _)
  have e : (told (seg s 45 s.size 0 0)).map Go.Lib.itoa = (seg s 45 s.size 0 0).map (·.data.toList) := by
    unfold told
    rw [List.map_map]
    refine List.map_congr_left (fun w hw => ?_)
    have hb := c.1.2 (rdS w.data.toList) (List.mem_map.2 ⟨w, hw, rfl⟩)
    show Go.Lib.itoa (rdS w.data.toList) = w.data.toList
    have e1 : rdS w.data.toList = ((rdS w.data.toList).toNat : Int) := by omega
    rw [e1, Go.Lib.itoa_nonneg]
    exact ((rdS_iff _ _ (by omega)).1 e1).symm
  unfold tld
  rw [e, h, List.drop_zero]
  refine ByteArray.ext ?_
  simp [tx]

/-! ### a text that is spoilt -/
theorem str1_size (z : Int) : (strOfNums [z]).size = 1 := by unfold strOfNums; simp [ByteArray.size]
theorem spoilt_ok {l : List Int} (h : Bytes l) {n : Int} (s : Int) (hn : 0 ≤ n ∧ n ≤ 1000) (x1 x2 : ByteArray) (h1 : x1.size ≤ 150) (h2 : 1 ≤ x2.size ∧ x2.size ≤ 150) : ∃ r n' s', Ev (fun k => spec_l1Cur_spoilt.f k l n s x1 x2) (r, n', s') ∧ r.size ≤ x1.size + 2 := by
  have key : ∀ (d : Nat) (x : ByteArray) (n s : Int), x.size + d ≤ 160 → 0 ≤ n ∧ n + 3 * d ≤ 2000 → ∃ r n' s', Ev (fun k => spec_l1Cur_spoilt.l0 k x x2 (d : Int) l n s) (r, n', s') ∧ r.size ≤ x.size + d := by
    intro d
    induction d with
    | zero =>
      intro x n s hx hn
      refine ⟨x, n, s, succ ?_, by omega⟩
      simp only [spec_l1Cur_spoilt.l0]
      refine neg (by omega) (succ ?_)
      simp only [spec_l1Cur_spoilt.j1]
      exact neg (by simp) (now _)
    | succ d ih =>
      intro x n s hx hn
      have e1 := Aside0.mk (show wrap64 (((d + 1 : Nat) : Int) - 1) = (d : Int) from by unfold wrap64; omega)
      by_cases c : (x.size : Int) > 0
      · obtain ⟨v1, n1, s1, p1, a1, b1⟩ := pick_ok h s (n := n) (m := (x.size : Int)) (by omega) (by omega)
        obtain ⟨v2, n2, s2, p2, a2, b2⟩ := pick_ok h s1 (n := n1) (m := (x2.size : Int)) (by omega) (by omega)
        obtain ⟨v3, n3, s3, p3, a3, b3⟩ := pick_ok h s2 (n := n2) (m := 3) (by omega) (by omega)
        obtain ⟨i, rfl⟩ := Int.eq_ofNat_of_zero_le a1.1
        have hi : i < x.size := by omega
        have z1 : (x.extract 0 i).size = i := by rw [ByteArray.size_extract]; omega
        have z2 : (x.extract i x.size).size = x.size - i := by rw [ByteArray.size_extract]; omega
        have z3 : (x.extract (i + 1) x.size).size = x.size - (i + 1) := by rw [ByteArray.size_extract]; omega
        have z4 := str1_size (bt x2 v2)
        have e2 := Aside0.mk (show wrap64 ((i : Int) + 1) = ((i + 1 : Nat) : Int) from by unfold wrap64; omega)
        by_cases d0 : v3 = 0
        · obtain ⟨r, n', s', er, hr⟩ := ih (((x.extract 0 i) ++ (strOfNums [bt x2 v2])) ++ (x.extract i x.size)) n3 s3 (by rw [ByteArray.size_append, ByteArray.size_append, z1, z2, z4]; omega) (by omega)
          rw [ByteArray.size_append, ByteArray.size_append, z1, z2, z4] at hr
          refine ⟨r, n', s', succ ?_, by omega⟩
          simp only [spec_l1Cur_spoilt.l0]
          refine pos (by omega) (succ ?_)
          simp only [spec_l1Cur_spoilt.j1]
          refine pos (by simpa using c) (bindSome p1 (bindSome p2 (pos a2.1 (pos a2.2 (bind (now _) (bindSome p3 (pos d0 (pos a1.1 (pos (by omega) (pos ?_ (pos ?_ ?_)))))))))))
          · rw [Int.toNat_natCast, z1, z4]; omega
          · rw [Int.toNat_natCast, ByteArray.size_append, z1, z2, z4]; omega
          · rw [Int.toNat_natCast, e1.out]; exact er
        · by_cases d1 : v3 = 1
          · obtain ⟨r, n', s', er, hr⟩ := ih (((x.extract 0 i) ++ (strOfNums [bt x2 v2])) ++ (x.extract (i + 1) x.size)) n3 s3 (by rw [ByteArray.size_append, ByteArray.size_append, z1, z3, z4]; omega) (by omega)
            rw [ByteArray.size_append, ByteArray.size_append, z1, z3, z4] at hr
            refine ⟨r, n', s', succ ?_, by omega⟩
            simp only [spec_l1Cur_spoilt.l0]
            refine pos (by omega) (succ ?_)
            simp only [spec_l1Cur_spoilt.j1]
            rw [e1.out]
            refine pos (by simpa using c) (bindSome p1 (bindSome p2 (pos a2.1 (pos a2.2 (bind (now _) (bindSome p3 (neg d0 (pos d1 (pos a1.1 (pos (by omega) ?_))))))))))
            rw [e2.out, Int.toNat_natCast, Int.toNat_natCast]
            refine pos ?_ (pos (by omega) (pos (by omega) (pos ?_ er)))
            · rw [z1, z4]; omega
            · rw [ByteArray.size_append, z1, z3, z4]; omega
          · obtain ⟨r, n', s', er, hr⟩ := ih ((x.extract 0 i) ++ (x.extract (i + 1) x.size)) n3 s3 (by rw [ByteArray.size_append, z1, z3]; omega) (by omega)
            rw [ByteArray.size_append, z1, z3] at hr
            refine ⟨r, n', s', succ ?_, by omega⟩
            simp only [spec_l1Cur_spoilt.l0]
            refine pos (by omega) (succ ?_)
            simp only [spec_l1Cur_spoilt.j1]
            rw [e1.out]
            refine pos (by simpa using c) (bindSome p1 (bindSome p2 (pos a2.1 (pos a2.2 (bind (now _) (bindSome p3 (neg d0 (neg d1 (pos a1.1 (pos (by omega) ?_))))))))))
            rw [e2.out, Int.toNat_natCast, Int.toNat_natCast]
            refine pos (by omega) (pos (by omega) (pos ?_ er))
            rw [z1, z3]; omega
      · refine ⟨x, n, s, succ ?_, by omega⟩
        simp only [spec_l1Cur_spoilt.l0]
        refine pos (by omega) (succ ?_)
        simp only [spec_l1Cur_spoilt.j1]
        exact neg (by simpa using c) (now _)
  obtain ⟨v, n1, s1, e, hv, hn1⟩ := pick_ok h s (n := n) (m := 2) (by omega) (by omega)
  obtain ⟨d, rfl⟩ := Int.eq_ofNat_of_zero_le hv.1
  obtain ⟨r, n', s', er, hr⟩ := key (d + 1) x1 n1 s1 (by omega) (by omega)
  refine ⟨r, n', s', ?_, by omega⟩
  unfold spec_l1Cur_spoilt.f
  refine bindSome e ?_
  rw [show wrap64 (1 + (d : Int)) = ((d + 1 : Nat) : Int) by unfold wrap64; omega]
  exact er

/-! ### what is drawn -/
theorem draw_best {l : List Int} (h : Bytes l) : ∃ o, Ev (fun k => spec_DrawBestHouses.f k l) o ∧ Drawn o := by
  obtain ⟨o, n1, s1, e1, hd, hn⟩ := people_ok h 0 (n := 0) (by omega)
  refine ⟨o, ?_, hd⟩
  unfold spec_DrawBestHouses.f spec_DrawArePeople.f spec_DrawArePeople.in_
  exact bind (bind (bind e1 (now _)) (now _)) (now _)
theorem draw_moved {l : List Int} (h : Bytes l) : ∃ o a b m, Ev (fun k => spec_DrawMovedPeople.f k l) (o, a, b, m) ∧ Drawn o ∧ -9000000000000000000 ≤ m ∧ m ≤ 9000000000000000000 := by
  obtain ⟨o, n1, s1, e1, hd, hn1⟩ := people_ok h 0 (n := 0) (by omega)
  have hl := hd.1
  obtain ⟨v2, n2, s2, e2, hv2, hn2⟩ := pick_ok h s1 (n := n1) (m := (o.length : Int) + 1) (by omega) (by omega)
  obtain ⟨v3, n3, s3, e3, hv3, hn3⟩ := pick_ok h s2 (n := n2) (m := 8) (by omega) (by omega)
  obtain ⟨v4, n4, s4, e4, hv4, hn4⟩ := pick_ok h s3 (n := n3) (m := (o.length : Int) + 1) (by omega) (by omega)
  obtain ⟨v5, n5, s5, e5, hv5, hn5⟩ := among_ok h s4 (n := n4) (by omega) (xs := [1, 1, 2, 3, 0, -1, 4611686018427387904]) (by simp)
  refine ⟨o, wrap64 (v2 - wrap64 (Int.tdiv v3 7)), v4, v5, ?_, hd, ?_⟩
  · unfold spec_DrawMovedPeople.f spec_DrawMovedPeople.in_
    refine bind (a := (o, wrap64 (v2 - wrap64 (Int.tdiv v3 7)), v4, v5, n5, s5)) (bind e1 ?_) (now _)
    rw [w64 (x := (o.length : Int) + 1) (by omega) (by omega)]
    exact bindSome e2 (bindSome e3 (bindSome e4 (bindSome e5 (now _))))
  · simp at hv5
    omega
theorem draw_within {l : List Int} (h : Bytes l) : ∃ o a w, Ev (fun k => spec_DrawPeopleWithin.f k l) (o, a, w) ∧ Drawn o := by
  obtain ⟨o, n1, s1, e1, hd, hn1⟩ := people_ok h 0 (n := 0) (by omega)
  have hl := hd.1
  obtain ⟨v2, n2, s2, e2, hv2, hn2⟩ := pick_ok h s1 (n := n1) (m := (o.length : Int) + 2) (by omega) (by omega)
  obtain ⟨v5, n5, s5, e5, hv5, hn5⟩ := among_ok h s2 (n := n2) (by omega) (xs := [0, 1, 2, 3, 60, 61, -1]) (by simp)
  refine ⟨o, wrap64 (v2 - 1), v5, ?_, hd⟩
  unfold spec_DrawPeopleWithin.f spec_DrawPeopleWithin.in_
  refine bind (a := (o, wrap64 (v2 - 1), v5, n5, s5)) (bind e1 ?_) (now _)
  rw [w64 (x := (o.length : Int) + 2) (by omega) (by omega)]
  exact bindSome e2 (bindSome e5 (now _))
theorem draw_parse {l : List Int} (h : Bytes l) : ∃ r, Ev (fun k => spec_DrawParsePeople.f k l) r ∧ r.size ≤ 1048576 := by
  obtain ⟨o, n1, s1, e1, ⟨h1, h2, h3⟩, hn1⟩ := sure_ok h 0 (n := 0) (by omega)
  have hx : ∀ x ∈ o, 0 ≤ x ∧ x ≤ 1000 := fun x hx => by have := h3 x hx; omega
  have ht := mdtext_f o hx (by omega)
  have hlen := tld_len o hx
  obtain ⟨b, n2, s2, e2, hn2⟩ := one_ok h s1 (n := n1) (m := 3) (by omega) (by omega)
  unfold spec_DrawParsePeople.f spec_DrawParsePeople.in_
  cases b with
  | false =>
    refine ⟨tx (tld o), bind (bind e1 (bind ht (bindSome e2 (neg (by simp) (now _))))) (now _), by rw [tx_size]; omega⟩
  | true =>
    obtain ⟨r, n', s', er, hr⟩ := spoilt_ok h s2 (n := n2) (by omega) (tx (tld o)) (⟨#[48, 49, 50, 51, 45, 120]⟩ : ByteArray) (by rw [tx_size]; omega) (by decide)
    rw [tx_size] at hr
    exact ⟨r, bind (bind e1 (bind ht (bindSome e2 (pos rfl (bind er (now _)))))) (now _), by omega⟩

theorem rd_mem0 {a : List Int} (h : a ≠ []) : rd a 0 ∈ a := by
  cases a with
  | nil => exact absurd rfl h
  | cons x a => simp [rd]
theorem each_ok {vs : List Int} (c : People vs) (b0 : Nat) (hb0 : rd (Best vs) 0 = (b0 : Int)) (j : Nat) (hj : j < vs.length) : ∃ n, ∀ k, n ≤ k →
    laws_FnPeopleMeet.Each k vs (Best vs) (Center vs) (tbl (fun h => Wk vs h vs.length 0) vs.length) (Fk vs (rd (Center vs) 0) vs.length 0 0) vs.sum (fun j => Fk vs (j : Int) vs.length 0 0) (Bf vs) (Tf vs) b0 j := by
  have hv := people_q c
  have hn := hv.1
  obtain ⟨a1, a2, a3⟩ := best_all c
  obtain ⟨c1, c2, c3⟩ := center_all c
  have hB := (a3 _).1 (rd_mem0 a2)
  have hC := (c3 _).1 (rd_mem0 c2)
  rw [hb0] at hB
  have hbn : b0 < vs.length := by have := hB.1; omega
  have hlb := lst_len (fun h => Wk vs h vs.length 0) vs.length 0 [] 0
  have hlc := lst_len (fun h => Fk vs h vs.length 0 0) vs.length 0 [] 0
  have hlb' : (Best vs).length ≤ 60 := by have : (Best vs).length ≤ ([] : List Int).length + vs.length := hlb; simp at this; omega
  have hlc' : (Center vs).length ≤ 60 := by have : (Center vs).length ≤ ([] : List Int).length + vs.length := hlc; simp at this; omega
  have House_j : House vs (j : Int) := ⟨c, by omega, by omega⟩
  have ej : rd (tbl (fun h => Wk vs h vs.length 0) vs.length) (j : Int) = Wk vs (j : Int) vs.length 0 := tbl_rd _ _ _ hj
  have eb : rd (tbl (fun h => Wk vs h vs.length 0) vs.length) (b0 : Int) = Wk vs (b0 : Int) vs.length 0 := tbl_rd _ _ _ hbn
  obtain ⟨n1, g1⟩ := walks_to vs (j : Int) (by omega) House_j
  obtain ⟨n2, g2⟩ := (far_both vs (j : Int) (by omega)).1
  obtain ⟨n3, g3⟩ := (within_both vs (j : Int) 0 (by omega)).1
  obtain ⟨n4, g4⟩ := zhas (Center vs) (by omega) (j : Int)
  obtain ⟨n5, g5⟩ := zhas (Best vs) (by omega) (j : Int)
  rw [if_pos House_j] at g2
  rw [if_pos ⟨House_j, by omega, by omega⟩, Nw_zero vs j vs.length 0 (by omega), if_pos ⟨by omega, hj⟩] at g3
  have min_b : (j : Int) ∈ Best vs ↔ Wk vs (j : Int) vs.length 0 = Wk vs (b0 : Int) vs.length 0 := by
    rw [a3]
    constructor
    · rintro ⟨h1, h2⟩
      have p := h2 b0 hbn
      have q := hB.2 j hj
      omega
    · intro h
      exact ⟨by omega, fun i hi => by rw [h]; exact hB.2 i hi⟩
  have min_c : (j : Int) ∈ Center vs ↔ Fk vs (j : Int) vs.length 0 0 = Fk vs (rd (Center vs) 0) vs.length 0 0 := by
    obtain ⟨m, hm⟩ := Int.eq_ofNat_of_zero_le hC.1.1
    have hC2 := hC.2
    rw [hm] at hC2 ⊢
    rw [c3]
    constructor
    · rintro ⟨h1, h2⟩
      have p := h2 m (by omega)
      have q := hC2 j hj
      omega
    · intro h
      exact ⟨by omega, fun i hi => by rw [h]; exact hC2 i hi⟩
  have e4 : decide ((j : Int) ∈ Center vs) = (Fk vs (j : Int) vs.length 0 0 == Fk vs (rd (Center vs) 0) vs.length 0 0) := by
    by_cases z : (j : Int) ∈ Center vs
    · rw [decide_eq_true z, min_c.1 z]; exact (beq_self_eq_true _).symm
    · rw [decide_eq_false z]; exact (beq_eq_false_iff_ne.2 (fun e => z (min_c.2 e))).symm
  have e5 : decide ((j : Int) ∈ Best vs) = (Wk vs (j : Int) vs.length 0 == Wk vs (b0 : Int) vs.length 0) := by
    by_cases z : (j : Int) ∈ Best vs
    · rw [decide_eq_true z, min_b.1 z]; exact (beq_self_eq_true _).symm
    · rw [decide_eq_false z]; exact (beq_eq_false_iff_ne.2 (fun e => z (min_b.2 e))).symm
  have half := least_half hv j hj
  have e7 : (Wk vs (j : Int) vs.length 0 == Wk vs (b0 : Int) vs.length 0) = (decide (2 * Bf vs j ≤ vs.sum) && decide (2 * (vs.sum - Bf vs j - rd vs (j : Int)) ≤ vs.sum)) := by
    rw [← e5, ← Bool.decide_and, decide_eq_decide, a3, ← half]
    exact ⟨fun h => h.2, fun h => ⟨by omega, h⟩⟩
  refine ⟨n1 + n2 + n3 + n4 + n5, fun k hk => ?_⟩
  unfold laws_FnPeopleMeet.Each
  rw [ej, eb]
  exact ⟨g1 k (by omega), g2 k (by omega), g3 k (by omega), by rw [← e4]; exact g4 k (by omega), by rw [← e5]; exact g5 k (by omega), ⟨hC.2 j hj, hB.2 j hj⟩, e7, rfl, rfl, (hv.2 j).1, (hv.2 j).2⟩
theorem ok_all {vs : List Int} (c : People vs) (num den : Int) (hm : num * vs.sum = Tf vs vs.length * den ∧ (0 ≤ num * vs.sum ∧ num * vs.sum ≤ 1000000000000000) ∧ 1 ≤ den) : ∃ n, ∀ k, n ≤ k → laws_FnPeopleMeet.Ok k vs (Best vs) (Center vs) (tbl (fun h => Wk vs h vs.length 0) vs.length) vs.reverse num den (tx (tld vs)) := by
  have hv := people_q c
  have hn := hv.1
  obtain ⟨a1, a2, a3⟩ := best_all c
  obtain ⟨c1, c2, c3⟩ := center_all c
  have hB := (a3 _).1 (rd_mem0 a2)
  have hC := (c3 _).1 (rd_mem0 c2)
  obtain ⟨b0, hb0⟩ := Int.eq_ofNat_of_zero_le hB.1.1
  have hlb' : (Best vs).length ≤ 60 := by have : (Best vs).length ≤ ([] : List Int).length + vs.length := lst_len (fun h => Wk vs h vs.length 0) vs.length 0 [] 0; simp at this; omega
  have hct := center_two c
  have hbl : 1 ≤ (Best vs).length := by
    cases h : Best vs with
    | nil => exact absurd h a2
    | cons x b => simp
  have hcl : 1 ≤ (Center vs).length := by
    cases h : Center vs with
    | nil => exact absurd h c2
    | cons x b => simp
  obtain ⟨n1, g1⟩ := zrises (Best vs) (by omega) (rise_get a1)
  obtain ⟨n2, g2⟩ := zrises (Center vs) (by omega) (rise_get c1)
  obtain ⟨n3, g3⟩ := (far_both vs (rd (Center vs) 0) (by omega)).1
  rw [if_pos (show House vs (rd (Center vs) 0) from ⟨c, hC.1.1, hC.1.2⟩)] at g3
  obtain ⟨n4, g4⟩ := zsum hv
  obtain ⟨n5, g5⟩ := parse_text c
  obtain ⟨n6, g6⟩ := (mirror_both vs.reverse (by simp; omega)).1
  rw [if_pos (rev_people c), List.reverse_reverse] at g6
  obtain ⟨n7, g7⟩ := (best_both vs.reverse (by simp; omega)).1
  rw [if_pos (rev_people c)] at g7
  obtain ⟨n8, g8⟩ := zsame vs (by omega)
  obtain ⟨n9, g9⟩ := all_below (P := fun j k => laws_FnPeopleMeet.Each k vs (Best vs) (Center vs) (tbl (fun h => Wk vs h vs.length 0) vs.length) (Fk vs (rd (Center vs) 0) vs.length 0 0) vs.sum (fun j => Fk vs (j : Int) vs.length 0 0) (Bf vs) (Tf vs) b0 j) vs.length (fun j hj => each_ok c b0 hb0 j hj)
  have s0 := Bf_le hv vs.length
  rw [Bf_all] at s0
  have hm2 := best_mirror c
  have hlast : rd (Best vs) (((Best vs).length : Int) - 1) ∈ Best vs := by
    rw [show ((Best vs).length : Int) - 1 = (((Best vs).length - 1 : Nat) : Int) by omega]
    exact rd_mem _ _ (by omega)
  have hL := (a3 _).1 hlast
  refine ⟨n1 + n2 + n3 + n4 + n5 + n6 + n7 + n8 + n9, fun k hk => ⟨Fk vs (rd (Center vs) 0) vs.length 0 0, vs.sum, Best vs.reverse, (fun j => Fk vs (j : Int) vs.length 0 0), Bf vs, Tf vs, b0, tbl_len _ _, g1 k (by omega), g2 k (by omega), ⟨hbl, by omega⟩, ⟨hcl, hct⟩, g3 k (by omega), g4 k (by omega), ⟨by omega, by omega, by omega⟩, ⟨rfl, rfl⟩, fun j hj => ⟨?_, ?_⟩, fun j hj => g9 k (by omega) j hj, ⟨hb0, by omega⟩, g5 k (by omega), g6 k (by omega), g7 k (by omega), g8 k (by omega), hm, ?_, ?_, hL.1.1, by omega⟩⟩
  · have := Bf_le hv j; omega
  · have := Tf_le hv j (by omega); omega
  · rw [hm2]; simp
  · rw [hm2]
    have hlen : (((Best vs).map fun x => ((vs.length : Int) - 1) - x).reverse).length = (Best vs).length := by simp
    have e0 : rd (((Best vs).map fun x => ((vs.length : Int) - 1) - x).reverse) ((0 : Nat) : Int) = ((vs.length : Int) - 1) - (Best vs)[(Best vs).length - 1] := by
      rw [rd_lt _ 0 (by omega), List.getElem_reverse, List.getElem_map]
      simp
    rw [show ((Best vs).length : Int) - 1 = (((Best vs).length - 1 : Nat) : Int) by omega, rd_lt (Best vs) _ (by omega)]
    exact e0
theorem one_all {l : List Int} (h : Bytes l) : ∃ n, ∀ k, n ≤ k → laws_FnPeopleMeet.One k l := by
  obtain ⟨p, ⟨n0, g0⟩, hd⟩ := draw_best h
  have hl : p.length ≤ 1048576 := by have := hd.1; omega
  obtain ⟨⟨n1, g1⟩, n2, g2⟩ := best_both p hl
  obtain ⟨⟨n3, g3⟩, n4, g4⟩ := center_both p hl
  obtain ⟨⟨n5, g5⟩, n6, g6⟩ := table_both p hl
  obtain ⟨num, den, hmean, ⟨n7, g7⟩, n8, g8⟩ := mean_both p hl
  obtain ⟨⟨n9, g9⟩, n10, g10⟩ := mirror_both p hl
  obtain ⟨⟨n11, g11⟩, n12, g12⟩ := text_both p (by omega)
  obtain ⟨n13, g13⟩ := good_impl p (by omega)
  obtain ⟨n14, g14⟩ := good_spec p (by omega)
  have spec_are : ∀ k, n14 ≤ k → spec_ArePeople.f k p = some (decide (People p)) := fun k hk => by
    have z : spec_mdGood.f k p = some (decide (People p)) := g14 k hk
    unfold spec_ArePeople.f
    rw [z]
    rfl
  by_cases c : People p
  · rw [if_pos c] at g1 g2 g3 g4 g5 g6 g7 g8 g9 g10 g11 g12
    rw [decide_eq_true c] at g13 spec_are
    have hb : (Best p).length ≤ 61 := by have : (Best p).length ≤ ([] : List Int).length + p.length := lst_len (fun h => Wk p h p.length 0) p.length 0 [] 0; have := hd.1; simp at *; omega
    have hc : (Center p).length ≤ 61 := by have : (Center p).length ≤ ([] : List Int).length + p.length := lst_len (fun h => Fk p h p.length 0 0) p.length 0 [] 0; have := hd.1; simp at *; omega
    obtain ⟨m1, z1⟩ := zsame (Best p) (by omega)
    obtain ⟨m2, z2⟩ := zsame (Center p) (by omega)
    obtain ⟨m3, z3⟩ := zsame (tbl (fun h => Wk p h p.length 0) p.length) (by rw [tbl_len]; omega)
    obtain ⟨m4, z4⟩ := zsame p.reverse (by simp; omega)
    obtain ⟨m5, z5⟩ := ok_all c num den (hmean c)
    exact ⟨n0 + n1 + n2 + n3 + n4 + n5 + n6 + n7 + n8 + n9 + n10 + n11 + n12 + n13 + n14 + m1 + m2 + m3 + m4 + m5, fun k hk => ⟨p, _, _, _, _, num, den, _, true, g0 k (by omega), g1 k (by omega), g2 k (by omega), g3 k (by omega), g4 k (by omega), g5 k (by omega), g6 k (by omega), g7 k (by omega), g8 k (by omega), g9 k (by omega), g10 k (by omega), g11 k (by omega), g12 k (by omega), g13 k (by omega), spec_are k (by omega), z1 k (by omega), z2 k (by omega), z3 k (by omega), z4 k (by omega), fun _ => z5 k (by omega)⟩⟩
  · rw [if_neg c] at g1 g2 g3 g4 g5 g6 g7 g8 g9 g10 g11 g12
    rw [decide_eq_false c] at g13 spec_are
    obtain ⟨m1, z1⟩ := zsame [] (by simp)
    exact ⟨n0 + n1 + n2 + n3 + n4 + n5 + n6 + n7 + n8 + n9 + n10 + n11 + n12 + n13 + n14 + m1, fun k hk => ⟨p, _, _, _, _, 0, 0, _, false, g0 k (by omega), g1 k (by omega), g2 k (by omega), g3 k (by omega), g4 k (by omega), g5 k (by omega), g6 k (by omega), g7 k (by omega), g8 k (by omega), g9 k (by omega), g10 k (by omega), g11 k (by omega), g12 k (by omega), g13 k (by omega), spec_are k (by omega), z1 k (by omega), z1 k (by omega), z1 k (by omega), z1 k (by omega), fun e => by cases e⟩⟩
theorem two_all {l : List Int} (h : Bytes l) : ∃ n, ∀ k, n ≤ k → laws_FnPeopleMeet.Two k l := by
  obtain ⟨p, a, b, m, ⟨n0, g0⟩, hd, hm⟩ := draw_moved h
  obtain ⟨q, x, w, ⟨n1, g1⟩, hq⟩ := draw_within h
  obtain ⟨s, ⟨n2, g2⟩, hs⟩ := draw_parse h
  have hl : p.length ≤ 1048576 := by have := hd.1; omega
  have hlq : q.length ≤ 1048576 := by have := hq.1; omega
  -- people who move
  have M : ∃ (moved : List Int) (e : Bool), (Ev (fun k => impl_MovedPeople.f k p a b m) (moved, e)) ∧ (Ev (fun k => spec_MovedPeople.f k p a b m) (moved, e)) ∧ (Ev (fun k => laws_zSame.f k moved moved) true) ∧ (∃ n, ∀ k, n ≤ k → (e = true → ∃ x y sum : Int, impl_WalksTo.f k p b = some (x, true) ∧ impl_WalksTo.f k moved b = some (y, true) ∧ laws_zSum.f k moved = some sum ∧ laws_zSum.f k p = some sum ∧ x - y = m * ((b - a).natAbs : Int) ∧ (0 ≤ x ∧ x ≤ 10000000) ∧ (0 ≤ y ∧ y ≤ 10000000) ∧ (0 ≤ b ∧ b ≤ 1000) ∧ 0 ≤ a ∧ a ≤ 1000)) := by
    obtain ⟨A, B⟩ := moved_both p a b m hl hm
    by_cases c : CanMove p a b m
    · rw [if_pos c] at A B
      have c' := c
      obtain ⟨ca, cb, hn, ⟨h1, h2⟩, h3⟩ := c'
      obtain ⟨i, rfl⟩ := Int.eq_ofNat_of_zero_le ca.2.1
      obtain ⟨j, rfl⟩ := Int.eq_ofNat_of_zero_le cb.2.1
      rw [Int.toNat_natCast, Int.toNat_natCast] at A B
      have hi := ca.2.2
      have hj := cb.2.2
      have hp := ca.1
      have hn' : i ≠ j := fun e => hn (by rw [e])
      have hlen : (Mv p i j m).length = p.length := by simp [Mv]
      have hmv : People (Mv p i j m) := (Mv_people hp (by omega) (by omega) hn' h1 h2).2 h3
      have bound : ∀ {vs : List Int}, People vs → ∀ h : Int, 0 ≤ h → h < vs.length → 0 ≤ Wk vs h vs.length 0 ∧ Wk vs h vs.length 0 ≤ 10000000 := fun {vs} hvs h h0 h1 => by
        have hv := people_q hvs
        have key : ∀ d i : Nat, i + d = vs.length → 0 ≤ Wk vs h d i ∧ Wk vs h d i ≤ 60000 * d := by
          intro d
          induction d with
          | zero => intro i _; simp [Wk]
          | succ d ih =>
            intro i hi
            have t := term_le hv (i := i) (h := h) (by omega) h0 h1
            have r := ih (i + 1) (by omega)
            simp only [Wk]
            omega
        have := key vs.length 0 (by omega)
        have hx := hv.1
        omega
      obtain ⟨k1, w1⟩ := walks_to p (j : Int) hl cb
      obtain ⟨k2, w2⟩ := walks_to (Mv p i j m) (j : Int) (by omega) ⟨hmv, by omega, by omega⟩
      obtain ⟨k3, w3⟩ := zsum (people_q hmv)
      obtain ⟨k4, w4⟩ := zsum (people_q hp)
      rw [Mv_sum (by omega) (by omega) hn'] at w3
      have wk := Mv_walks (vs := p) (a := i) (b := j) (m := m) (by omega) (by omega) hn'
      have b1 := bound hp (j : Int) (by omega) hj
      have b2 := bound hmv (j : Int) (by omega) (by omega)
      rw [hlen] at w2 b2
      have hx := hp.1.1
      exact ⟨_, true, A, B, zsame _ (by omega), k1 + k2 + k3 + k4, fun k hk _ => ⟨_, _, _, w1 k (by omega), w2 k (by omega), w3 k (by omega), w4 k (by omega), wk, b1, b2, ⟨by omega, by omega⟩, by omega, by omega⟩⟩
    · rw [if_neg c] at A B
      exact ⟨[], false, A, B, zsame [] (by simp), 0, fun k _ z => by cases z⟩
  obtain ⟨moved, e, ⟨n3, g3⟩, ⟨n4, g4⟩, ⟨n5, g5⟩, n6, g6⟩ := M
  -- people within a reach
  have W : ∃ (within far : Int) (t f : Bool), (Ev (fun k => impl_PeopleWithin.f k q x w) (within, t)) ∧ (Ev (fun k => spec_PeopleWithin.f k q x w) (within, t)) ∧ (Ev (fun k => impl_FarthestTo.f k q x) (far, f)) ∧ (Ev (fun k => spec_FarthestTo.f k q x) (far, f)) ∧ (t = true → f = true) ∧ (∃ n, ∀ k, n ≤ k → (t = true → ∃ sum : Int, laws_zSum.f k q = some sum ∧ 0 ≤ within ∧ within ≤ sum ∧ (within == sum) = decide (far ≤ w))) := by
    obtain ⟨A, B⟩ := within_both q x w hlq
    obtain ⟨C, D⟩ := far_both q x hlq
    by_cases c : House q x
    · rw [if_pos c] at C D
      by_cases d : 0 ≤ w ∧ w ≤ 60
      · rw [if_pos ⟨c, d⟩] at A B
        have hv := people_q c.1
        obtain ⟨k1, z1⟩ := zsum hv
        obtain ⟨⟨s1, s2⟩, s3⟩ := Nw_sum hv x w q.length 0 (by omega)
        have b0 : Bf q 0 = 0 := rfl
        rw [b0, Int.zero_add] at s2 s3
        have fl := far_le q x w
        refine ⟨_, _, true, true, A, B, C, D, fun _ => rfl, k1, fun k hk _ => ⟨_, z1 k hk, s1, s2, ?_⟩⟩
        by_cases z : Fk q x q.length 0 0 ≤ w
        · rw [decide_eq_true z, beq_iff_eq]
          exact s3.2 (fun j _ => (fl.1 z).2 j)
        · rw [decide_eq_false z]
          exact beq_eq_false_iff_ne.2 (fun e => z (fl.2 ⟨d.1, fun j => s3.1 e j (Nat.zero_le _)⟩))
      · rw [if_neg (fun z => d z.2)] at A B
        exact ⟨_, _, false, true, A, B, C, D, (fun z => by cases z), 0, fun k _ z => by cases z⟩
    · rw [if_neg c] at C D
      rw [if_neg (fun z => c z.1)] at A B
      exact ⟨_, _, false, false, A, B, C, D, (fun z => z), 0, fun k _ z => by cases z⟩
  obtain ⟨within, far, t, f, ⟨n7, g7⟩, ⟨n8, g8⟩, ⟨n9, g9⟩, ⟨n10, g10⟩, htf, n11, g11⟩ := W
  -- people read
  have R : ∃ (read : List Int) (v : Bool), (Ev (fun k => impl_ParsePeople.f k s) (read, v)) ∧ (Ev (fun k => spec_ParsePeople.f k s) (read, v)) ∧ (Ev (fun k => laws_zSame.f k read read) true) ∧ (∃ n, ∀ k, n ≤ k → (v = true → impl_PeopleText.f k read = some (s, true))) := by
    obtain ⟨A, B⟩ := parse_both s hs _ rfl
    by_cases c : People (told (seg s 45 s.size 0 0))
    · rw [if_pos c] at A B
      have hx := c.1.1
      obtain ⟨k1, z1⟩ := (text_both (told (seg s 45 s.size 0 0)) (by omega)).1
      rw [if_pos c, text_parse s c] at z1
      exact ⟨_, true, B, A, zsame _ (by omega), k1, fun k hk _ => z1 k hk⟩
    · rw [if_neg c] at A B
      exact ⟨[], false, B, A, zsame [] (by simp), 0, fun k _ z => by cases z⟩
  obtain ⟨read, v, ⟨n12, g12⟩, ⟨n13, g13⟩, ⟨n14, g14⟩, n15, g15⟩ := R
  exact ⟨n0 + n1 + n2 + n3 + n4 + n5 + n6 + n7 + n8 + n9 + n10 + n11 + n12 + n13 + n14 + n15, fun k hk => ⟨p, moved, q, read, a, b, m, x, w, within, far, s, e, t, f, v, g0 k (by omega), g3 k (by omega), g4 k (by omega), g1 k (by omega), g7 k (by omega), g8 k (by omega), g9 k (by omega), g10 k (by omega), g2 k (by omega), g12 k (by omega), g13 k (by omega), g5 k (by omega), g14 k (by omega), htf, g6 k (by omega), g11 k (by omega), g15 k (by omega)⟩⟩
theorem both_f (l0 l1 : List Int) (h0 : l0.length ≤ 140737488355327) (h1 : l1.length ≤ 140737488355327) (b0 : ∀ x ∈ l0, 0 ≤ x ∧ x ≤ 255) (b1 : ∀ x ∈ l1, 0 ≤ x ∧ x ≤ 255) : laws_FnPeopleMeet.f l0 l1 = some true := by
  unfold laws_FnPeopleMeet.f
  split
  · rfl
  · rename_i g
    have hb : laws_big.f l0 l1 = some true := by
      unfold laws_big.f
      by_cases c : (l0.length : Int) > 1048576
      · rw [if_pos c]
      · rw [if_neg c, w64 (by omega) (by omega)]
        by_cases d : (l1.length : Int) > 1048576 - (l0.length : Int)
        · rw [decide_eq_true d]
        · refine absurd ?_ g
          obtain ⟨n1, f1⟩ := one_all (l := l0) ⟨by omega, b0⟩
          obtain ⟨n2, f2⟩ := two_all (l := l1) ⟨by omega, b1⟩
          refine ⟨n1 + n2, ?_, f1 _ (by omega), f2 _ (by omega)⟩
          unfold laws_big.f
          rw [if_neg c, w64 (by omega) (by omega), decide_eq_false d]
    rw [if_pos hb]
theorem FnPeopleMeet : laws_FnPeopleMeet.Pure := by
  intro l0 l1 hm0 hs0 hw0 hm1 hs1 hw1
  have bytes : ∀ {l : List Int}, (∀ x ∈ l, (Lit.int .u8 x).wf = true) → ∀ x ∈ l, 0 ≤ x ∧ x ≤ 255 := fun {l} h x hx => by
    have z := h x hx
    simp [Lit.wf, IntKind.wrap, IntKind.bits, IntKind.signed] at z
    have e1 : IntKind.u8.min = 0 := by decide
    have e2 : IntKind.u8.max = 255 := by decide
    omega
  exact both_f l0 l1 (by omega) (by omega) (bytes hw0) (bytes hw1)

end Go.Proofs.YteldjmljidmffaaGreatDoor.Pure
