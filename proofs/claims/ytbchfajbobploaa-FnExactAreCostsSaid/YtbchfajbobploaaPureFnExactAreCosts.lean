/- Both sides say of rows whether they are costs: as many rows and columns as are allowed, all of one length, all numbers within their bounds. -/
import Derived.Test.YtbchfajbobploaaMPx3
import Derived.Test.YtbchfajbobploaaLib
namespace Go.Proofs.Ytbchfajbobploaa.Pure
open Go.RowKit Go.Proofs.Ytbchfajbobploaa.MP Go.Proofs.YtbchfajbobploaaW.PrintWords Go.Proofs.YtbchfajbobploaaW.PrintLast Go.Proofs.YtbchfajbobploaaW.PrintMore Go.Proofs.Ytbchfajbobploaa.Lib
set_option linter.unusedVariables false
set_option linter.unusedSimpArgs false

theorem spec_in (a b c : Int) : spec_l1In.f a b c = some (decide (b ≤ a ∧ a ≤ c)) := by
  unfold spec_l1In.f
  by_cases h : a ≥ b
  · rw [if_pos h]; simp [show b ≤ a from h]
  · rw [if_neg h]; simp [show ¬ b ≤ a from h]
theorem impl_in (a b c : Int) : impl_within.f a b c = some (decide (b ≤ a ∧ a ≤ c)) := by
  unfold impl_within.f
  by_cases h : a ≥ b
  · rw [if_pos h]; simp [show b ≤ a from h]
  · rw [if_neg h]; simp [show ¬ b ≤ a from h]

theorem toIntS_l0 (xs : List Int) (hx : xs.length ≤ 35184372088832) : ∀ i : Nat, i ≤ xs.length → ∀ ys : List Int, ys.length = xs.length → (∀ j : Nat, j < i → ys.getD j 0 = xs.getD j 0) → Ev (fun k => laws_toIntS.l0 k xs ys i) xs := by
  refine down xs.length ?_ ?_
  · intro ys hl hy
    refine succ ?_
    simp only [laws_toIntS.l0]
    refine neg (by omega) (conv (now _) ?_)
    refine List.ext_getElem hl (fun j h1 h2 => ?_)
    have := hy j h2
    simpa [h1, h2] using this
  · intro i hi ih ys hl hy
    refine succ ?_
    simp only [laws_toIntS.l0]
    rw [wnat (by omega)]
    refine pos (by omega) (pos (by omega) (pos (by omega) ?_))
    refine ih _ (by simp [hl]) (fun j hj => ?_)
    simp only [Int.toNat_natCast, rd_nat]
    by_cases e : j = i
    · subst e
      simp [hl, hi]
    · rw [List.getD_eq_getElem?_getD, List.getElem?_set_ne (Ne.symm e), ← List.getD_eq_getElem?_getD]
      exact hy j (by omega)
theorem toIntS_f (xs : List Int) (hx : xs.length ≤ 35184372088832) : Ev (fun k => laws_toIntS.f k xs) xs := by
  unfold laws_toIntS.f
  refine pos (by omega) (pos (by omega) ?_)
  exact toIntS_l0 xs hx 0 (by omega) _ (by simp) (fun j hj => by omega)
theorem eqIntS_l0 (xs ys : List Int) (hx : xs.length ≤ 35184372088832) (hl : xs.length = ys.length) : ∀ i : Nat, i ≤ xs.length → Ev (fun k => laws_eqIntS.l0 k xs ys i) (decide (xs.drop i = ys.drop i)) := by
  refine down xs.length ?_ ?_
  · refine succ ?_
    simp only [laws_eqIntS.l0]
    exact neg (by omega) (conv (now _) (by simp [hl]))
  · intro i hi ih
    refine succ ?_
    simp only [laws_eqIntS.l0]
    rw [wnat (by omega)]
    refine pos (by omega) (pos (by omega) (pos (by omega) ?_))
    rw [rd_lt xs i hi, rd_lt ys i (by omega)]
    by_cases e : xs[i] = ys[i]'(by omega)
    · exact pos e (conv ih (by rw [decide_eq_decide, drop_iff hi (by omega)]; exact ⟨fun h => ⟨e, h⟩, fun h => h.2⟩))
    · exact neg e (conv (now _) (Eq.symm (decide_eq_false (by rw [drop_iff hi (by omega)]; exact fun h => e h.1))))
theorem eqIntS_f (xs ys : List Int) (hx : xs.length ≤ 35184372088832) : Ev (fun k => laws_eqIntS.f k xs ys) (decide (xs = ys)) := by
  unfold laws_eqIntS.f
  by_cases e : xs.length = ys.length
  · exact pos (by omega) (conv (eqIntS_l0 xs ys hx e 0 (by omega)) (by simp))
  · exact neg (by omega) (conv (now _) (by simp; intro h; exact e (by rw [h])))
theorem eqIntS_same (xs : List Int) (hx : xs.length ≤ 35184372088832) : Ev (fun k => laws_eqIntS.f k xs xs) true := conv (eqIntS_f xs xs hx) (by simp)

theorem spec_l1All_l0 (xs : List Int) (a b : Int) (hx : xs.length ≤ 35184372088832) : ∀ i : Nat, i ≤ xs.length → Ev (fun k => spec_l1All.l0 k a b xs xs.length i) (decide (∀ x ∈ xs.drop i, a ≤ x ∧ x ≤ b)) := by
  refine down xs.length ?_ ?_
  · refine succ ?_
    simp only [spec_l1All.l0]
    exact neg (by omega) (conv (now _) (by simp))
  · intro i hi ih
    refine succ ?_
    simp only [spec_l1All.l0, spec_in, Option.bind_some]
    rw [wnat (by omega)]
    refine pos (by omega) (pos (by omega) (pos (by omega) ?_))
    rw [rd_lt xs i hi]
    by_cases e : a ≤ xs[i] ∧ xs[i] ≤ b
    · exact pos (by simpa using e) (conv ih (by rw [decide_eq_decide, all_drop hi]; exact ⟨fun h => ⟨e, h⟩, fun h => h.2⟩))
    · exact neg (by simpa using e) (conv (now _) (Eq.symm (decide_eq_false (by rw [all_drop hi]; exact fun h => e h.1))))
theorem spec_l1All_f (xs : List Int) (a b : Int) (hx : xs.length ≤ 35184372088832) : Ev (fun k => spec_l1All.f k xs a b) (decide (∀ x ∈ xs, a ≤ x ∧ x ≤ b)) :=
  spec_l1All_l0 xs a b hx 0 (by omega)

theorem impl_allWithin_l0 (xs : List Int) (a b : Int) (hx : xs.length ≤ 35184372088832) : ∀ i : Nat, i ≤ xs.length → Ev (fun k => impl_allWithin.l0 k a b xs xs.length i) (decide (∀ x ∈ xs.drop i, a ≤ x ∧ x ≤ b)) := by
  refine down xs.length ?_ ?_
  · refine succ ?_
    simp only [impl_allWithin.l0]
    exact neg (by omega) (conv (now _) (by simp))
  · intro i hi ih
    refine succ ?_
    simp only [impl_allWithin.l0, impl_in, Option.bind_some]
    rw [wnat (by omega)]
    refine pos (by omega) (pos (by omega) (pos (by omega) ?_))
    rw [rd_lt xs i hi]
    by_cases e : a ≤ xs[i] ∧ xs[i] ≤ b
    · exact pos (by simpa using e) (conv ih (by rw [decide_eq_decide, all_drop hi]; exact ⟨fun h => ⟨e, h⟩, fun h => h.2⟩))
    · exact neg (by simpa using e) (conv (now _) (Eq.symm (decide_eq_false (by rw [all_drop hi]; exact fun h => e h.1))))
theorem impl_allWithin_f (xs : List Int) (a b : Int) (hx : xs.length ≤ 35184372088832) : Ev (fun k => impl_allWithin.f k xs a b) (decide (∀ x ∈ xs, a ≤ x ∧ x ≤ b)) :=
  impl_allWithin_l0 xs a b hx 0 (by omega)

/-- Rows as a law's argument has them. -/
def Lens (l : List (List Int)) : Prop := ∀ x ∈ l, x.length ≤ 1048576
theorem rd_L1_nat (l : List (List Int)) (i : Nat) : rd_L1 l (i : Int) = l.getD i [] := by simp [rd_L1]
theorem rd_L1_lt (l : List (List Int)) (i : Nat) (h : i < l.length) : rd_L1 l (i : Int) = l[i] := by simp [rd_L1, h]
theorem rd_L1_len {l : List (List Int)} {B : Nat} (h : ∀ x ∈ l, x.length ≤ B) (i : Nat) : (rd_L1 l (i : Int)).length ≤ B := by
  rw [rd_L1_nat]
  by_cases c : i < l.length
  · rw [List.getD_eq_getElem?_getD, List.getElem?_eq_getElem c]
    exact h _ (List.getElem_mem c)
  · rw [List.getD_eq_getElem?_getD, List.getElem?_eq_none (by omega)]
    simp
theorem szIntSS_l0 (l : List (List Int)) (hl : l.length ≤ 1048576) (hb : ∀ x ∈ l, x.length ≤ 9223372036854775807) : ∀ i : Nat, i ≤ l.length → ∀ r : Int, 0 ≤ r → r ≤ 1048576 → ∃ v : Int, Ev (fun k => laws_szIntSS.l0 k l r i) v ∧ (¬ v < 0 → ∀ j : Nat, i ≤ j → (rd_L1 l (j : Int)).length ≤ 1048576) := by
  refine down l.length ?_ ?_
  · intro r _ _
    refine ⟨r, succ ?_, fun _ j hj => ?_⟩
    · simp only [laws_szIntSS.l0]
      exact neg (by omega) (now _)
    · rw [rd_L1_nat, List.getD_eq_getElem?_getD, List.getElem?_eq_none (by omega)]
      simp
  · intro i hi ih r r0 r1
    have hx := rd_L1_len hb i
    by_cases c : r - ((rd_L1 l (i : Int)).length : Int) < 0
    · refine ⟨-1, succ ?_, fun h => absurd (by omega) h⟩
      simp only [laws_szIntSS.l0, laws_szIntS.f]
      rw [w64 (x := r - ((rd_L1 l (i : Int)).length : Int)) (by omega) (by omega)]
      exact pos (by omega) (pos (by omega) (bindSome (if_pos c) (pos (by omega) (now _))))
    · obtain ⟨v, hv, hw⟩ := ih (r - ((rd_L1 l (i : Int)).length : Int)) (by omega) (by omega)
      refine ⟨v, succ ?_, fun h j hj => ?_⟩
      · simp only [laws_szIntSS.l0, laws_szIntS.f]
        rw [w64 (x := r - ((rd_L1 l (i : Int)).length : Int)) (by omega) (by omega), wnat (by omega)]
        exact pos (by omega) (pos (by omega) (bindSome (if_neg c) (neg c hv)))
      · by_cases e : j = i
        · subst e; omega
        · exact hw h j (by omega)
theorem szIntSS_f (l : List (List Int)) (hl : l.length * 24 ≤ 140737488351232) (hb : ∀ x ∈ l, x.length ≤ 9223372036854775807) : ∃ v : Int, Ev (fun k => laws_szIntSS.f k l 1048576) v ∧ (¬ v < 0 → l.length ≤ 1048576 ∧ Lens l) := by
  unfold laws_szIntSS.f
  rw [w64 (by omega) (by omega)]
  by_cases c : (1048576 : Int) - l.length < 0
  · exact ⟨-1, pos c (now _), fun h => absurd (by omega) h⟩
  · obtain ⟨v, hv, hw⟩ := szIntSS_l0 l (by omega) hb 0 (by omega) (1048576 - l.length) (by omega) (by omega)
    refine ⟨v, neg c hv, fun h => ⟨by omega, fun x hx => ?_⟩⟩
    obtain ⟨j, hj, rfl⟩ := List.getElem_of_mem hx
    have z := hw h j (by omega)
    rw [rd_L1_lt l j hj] at z
    exact z
theorem toIntSS_f (l : List (List Int)) (hl : l.length ≤ 1048576) (hb : Lens l) : Ev (fun k => laws_toIntSS.f k l) l := by
  have key : ∀ i : Nat, i ≤ l.length → ∀ y : List (List Int), y.length = l.length → (∀ j : Nat, j < i → y.getD j [] = l.getD j []) → Ev (fun k => laws_toIntSS.l0 k l y i) l := by
    refine down l.length ?_ ?_
    · intro y hy hj
      refine succ ?_
      simp only [laws_toIntSS.l0]
      refine neg (by omega) (conv (now _) ?_)
      refine List.ext_getElem hy (fun j h1 h2 => ?_)
      have := hj j h2
      simpa [h1, h2] using this
    · intro i hi ih y hy hj
      refine succ ?_
      simp only [laws_toIntSS.l0]
      rw [wnat (by omega)]
      have hx := rd_L1_len hb i
      refine pos (by omega) (pos (by omega) (bind (toIntS_f _ (by omega)) (pos (by omega) (ih _ (by simp [hy]) (fun j hjj => ?_)))))
      simp only [Int.toNat_natCast]
      by_cases e : j = i
      · subst e
        rw [rd_L1_nat]
        simp [hy, hi]
      · rw [List.getD_eq_getElem?_getD, List.getElem?_set_ne (Ne.symm e), ← List.getD_eq_getElem?_getD]
        exact hj j (by omega)
  unfold laws_toIntSS.f
  exact pos (by omega) (pos (by simp; omega) (key 0 (by omega) _ (by simp) (fun j hj => by omega)))
theorem eqIntSS_same (l : List (List Int)) (hl : l.length ≤ 1048576) (hb : Lens l) : Ev (fun k => laws_eqIntSS.f k l l) true := by
  have key : ∀ i : Nat, i ≤ l.length → Ev (fun k => laws_eqIntSS.l0 k l l i) true := by
    refine down l.length ?_ ?_
    · refine succ ?_
      simp only [laws_eqIntSS.l0]
      exact neg (by omega) (now _)
    · intro i hi ih
      have hx := rd_L1_len hb i
      refine succ ?_
      simp only [laws_eqIntSS.l0]
      rw [wnat (by omega)]
      exact pos (by omega) (pos (by omega) (pos (by omega) (bind (eqIntS_same _ (by omega)) (pos rfl ih))))
  unfold laws_eqIntSS.f
  exact pos rfl (key 0 (by omega))

/-- Costs. -/
def Costs (l : List (List Int)) : Prop := ((1 ≤ l.length ∧ l.length ≤ 20) ∧ (1 ≤ (l.getD 0 []).length ∧ (l.getD 0 []).length ≤ 5)) ∧ ∀ x ∈ l, x.length = (l.getD 0 []).length ∧ ∀ y ∈ x, 0 ≤ y ∧ y ≤ 1000
instance (l : List (List Int)) : Decidable (Costs l) := by unfold Costs; infer_instance
theorem rwHouses_f (n : Int) : spec_rwHouses.f n = some (decide (1 ≤ n ∧ n ≤ 20)) := by unfold spec_rwHouses.f; rw [spec_in]; rfl
theorem rowLength_f (n : Int) : impl_isRowLength.f n = some (decide (1 ≤ n ∧ n ≤ 20)) := by unfold impl_isRowLength.f; rw [impl_in]; rfl
theorem rwGood_f (l : List (List Int)) (hl : l.length ≤ 1048576) (hb : Lens l) : Ev (fun k => spec_rwGood.f k l) (decide (Costs l)) := by
  unfold spec_rwGood.f
  rw [rwHouses_f]
  refine bindSome rfl ?_
  by_cases c : 1 ≤ (l.length : Int) ∧ (l.length : Int) ≤ 20
  · refine pos (by simpa using c) (pos (by omega) ?_)
    rw [spec_in, show rd_L1 l 0 = l.getD 0 [] from rfl]
    refine bindSome rfl (succ ?_)
    simp only [spec_rwGood.j0]
    by_cases d : 1 ≤ ((l.getD 0 []).length : Int) ∧ ((l.getD 0 []).length : Int) ≤ 5
    · refine neg (by simpa using d) ?_
      have key : ∀ i : Nat, i ≤ l.length → Ev (fun k => spec_rwGood.l0 k l l l.length i) (decide (∀ x ∈ l.drop i, x.length = (l.getD 0 []).length ∧ ∀ y ∈ x, 0 ≤ y ∧ y ≤ 1000)) := by
        refine down l.length ?_ ?_
        · refine succ ?_
          simp only [spec_rwGood.l0]
          exact neg (by omega) (conv (now _) (by simp))
        · intro i hi ih
          have hx := rd_L1_len hb i
          refine succ ?_
          simp only [spec_rwGood.l0]
          rw [wnat (by omega), show rd_L1 l 0 = l.getD 0 [] from rfl]
          refine pos (by omega) (pos (by omega) (pos (by omega) (pos (by omega) ?_)))
          rw [rd_L1_lt l i hi] at hx ⊢
          by_cases e : (l[i].length : Int) = ((l.getD 0 []).length : Int)
          · refine pos e (bind (spec_l1All_f _ 0 1000 (by omega)) ?_)
            by_cases f : ∀ x ∈ l[i], 0 ≤ x ∧ x ≤ 1000
            · refine pos (by simpa using f) (conv ih ?_)
              rw [decide_eq_decide, all_drop hi]
              exact ⟨fun g => ⟨⟨by omega, f⟩, g⟩, fun g => g.2⟩
            · refine neg (by simpa using f) (conv (now _) (Eq.symm (decide_eq_false ?_)))
              rw [all_drop hi]
              exact fun g => f g.1.2
          · refine neg e (conv (now _) (Eq.symm (decide_eq_false ?_)))
            rw [all_drop hi]
            exact fun g => e (by rw [g.1.1])
      refine conv (key 0 (by omega)) ?_
      rw [decide_eq_decide, List.drop_zero]
      exact ⟨fun g => ⟨⟨by omega, by omega⟩, g⟩, fun g => g.2⟩
    · exact pos (by rw [decide_eq_false d]; rfl) (conv (now _) (Eq.symm (decide_eq_false (fun g => d (by have := g.1.2; omega)))))
  · refine neg (by simpa using c) (succ ?_)
    simp only [spec_rwGood.j0]
    exact pos (by simp) (conv (now _) (Eq.symm (decide_eq_false (fun g => c (by have := g.1.1; omega)))))
theorem costs_rows (n : Nat) (hn : n ≤ 5) : ∀ l : List (List Int), Ev (fun k => impl_AreCosts.rows k n l) (decide (∀ x ∈ l, x.length = n ∧ ∀ y ∈ x, 0 ≤ y ∧ y ≤ 1000))
  | [] => conv (now true) (by simp)
  | x :: xs => by
    unfold impl_AreCosts.rows
    by_cases e : x.length = n
    · refine pos e (bind (impl_allWithin_f x 0 1000 (by omega)) ?_)
      by_cases f : ∀ y ∈ x, 0 ≤ y ∧ y ≤ 1000
      · refine pos (by simpa using f) (conv (costs_rows n hn xs) ?_)
        rw [decide_eq_decide, List.forall_mem_cons]
        exact ⟨fun g => ⟨⟨e, f⟩, g⟩, fun g => g.2⟩
      · refine neg (by simpa using f) (conv (now _) (Eq.symm (decide_eq_false ?_)))
        rw [List.forall_mem_cons]
        exact fun g => f g.1.2
    · refine neg e (conv (now _) (Eq.symm (decide_eq_false ?_)))
      rw [List.forall_mem_cons]
      exact fun g => e g.1.1
theorem areCosts_f (l : List (List Int)) : Ev (fun k => impl_AreCosts.f k l) (decide (Costs l)) := by
  unfold impl_AreCosts.f
  rw [rowLength_f]
  refine bindSome rfl ?_
  by_cases c : 1 ≤ (l.length : Int) ∧ (l.length : Int) ≤ 20
  · refine pos (by simpa using c) (pos (by omega) ?_)
    rw [impl_in]
    refine bindSome rfl ?_
    by_cases d : 1 ≤ ((l.getD 0 []).length : Int) ∧ ((l.getD 0 []).length : Int) ≤ 5
    · refine pos (by simpa using d) (conv (costs_rows _ (by omega) l) ?_)
      rw [decide_eq_decide]
      exact ⟨fun g => ⟨⟨by omega, by omega⟩, g⟩, fun g => g.2⟩
    · exact neg (by simpa using d) (conv (now _) (Eq.symm (decide_eq_false (fun g => d (by have := g.1.2; omega)))))
  · exact neg (by simpa using c) (conv (now _) (Eq.symm (decide_eq_false (fun g => c (by have := g.1.1; omega)))))

theorem FnExactAreCosts : laws_FnExactAreCosts.Pure := by
  intro l hl hw
  refine Ev.rounds ?_
  unfold laws_FnExactAreCosts.f
  obtain ⟨v, hv, hn⟩ := szIntSS_f l hl (fun x hx => (hw x hx).1)
  refine bind hv ?_
  by_cases c : v < 0
  · exact pos c (now _)
  obtain ⟨hz, hb⟩ := hn c
  refine neg c (bind (toIntSS_f l hz hb) (bind (by unfold spec_AreCosts.f; exact bind (rwGood_f l hz hb) (now _)) (bind (toIntSS_f l hz hb) (bind (areCosts_f l) (neg (by simp) (bind (toIntSS_f l hz hb) (bind (eqIntSS_same l hz hb) (pos rfl (now _)))))))))

end Go.Proofs.Ytbchfajbobploaa.Pure
