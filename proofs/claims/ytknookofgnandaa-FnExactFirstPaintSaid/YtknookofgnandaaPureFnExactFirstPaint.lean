/- The first painting is the reference's: where there is one, both walk the same tables and take the first colour of the least cost at each house. -/
import Derived.Test.YtknookofgnandaaMQx8
import Derived.Test.YtknookofgnandaaLib
namespace Go.Proofs.Ytknookofgnandaa.Pure
open Go.RowKit Go.Proofs.Ytknookofgnandaa.MQ Go.Proofs.YtknookofgnandaaW.PrintWords Go.Proofs.YtknookofgnandaaW.PrintLast Go.Proofs.YtknookofgnandaaW.PrintMore Go.Proofs.Ytknookofgnandaa.Lib
set_option linter.unusedVariables false
set_option linter.unusedSimpArgs false

theorem spec_in (a b c : Int) : spec_l1In.f a b c = some (decide (b ≤ a ∧ a ≤ c)) := by
  unfold spec_l1In.f
  by_cases h : a ≥ b
  · rw [if_pos h]; simp [show b ≤ a from h]
  · rw [if_neg h]; simp [show ¬ b ≤ a from h]
theorem impl_in (a b c : Int) : impl_within.f a b c = some (decide (b ≤ a ∧ a ≤ c)) := by
  unfold impl_within.f
  by_cases h : a ≥ b
  · rw [if_pos h]; simp [show b ≤ a from h]
  · rw [if_neg h]; simp [show ¬ b ≤ a from h]

theorem toIntS_l0 (xs : List Int) (hx : xs.length ≤ 35184372088832) : ∀ i : Nat, i ≤ xs.length → ∀ ys : List Int, ys.length = xs.length → (∀ j : Nat, j < i → ys.getD j 0 = xs.getD j 0) → Ev (fun k => laws_toIntS.l0 k xs ys i) xs := by
  refine down xs.length ?_ ?_
  · intro ys hl hy
    refine succ ?_
    simp only [laws_toIntS.l0]
    refine neg (by omega) (conv (now _) ?_)
    refine List.ext_getElem hl (fun j h1 h2 => ?_)
    have := hy j h2
    simpa [h1, h2] using this
  · intro i hi ih ys hl hy
    refine succ ?_
    simp only [laws_toIntS.l0]
    rw [wnat (by omega)]
    refine pos (by omega) (pos (by omega) (pos (by omega) ?_))
    refine ih _ (by simp [hl]) (fun j hj => ?_)
    simp only [Int.toNat_natCast, rd_nat]
    by_cases e : j = i
    · subst e
      simp [hl, hi]
    · rw [List.getD_eq_getElem?_getD, List.getElem?_set_ne (Ne.symm e), ← List.getD_eq_getElem?_getD]
      exact hy j (by omega)
theorem toIntS_f (xs : List Int) (hx : xs.length ≤ 35184372088832) : Ev (fun k => laws_toIntS.f k xs) xs := by
  unfold laws_toIntS.f
  refine pos (by omega) (pos (by omega) ?_)
  exact toIntS_l0 xs hx 0 (by omega) _ (by simp) (fun j hj => by omega)
theorem eqIntS_l0 (xs ys : List Int) (hx : xs.length ≤ 35184372088832) (hl : xs.length = ys.length) : ∀ i : Nat, i ≤ xs.length → Ev (fun k => laws_eqIntS.l0 k xs ys i) (decide (xs.drop i = ys.drop i)) := by
  refine down xs.length ?_ ?_
  · refine succ ?_
    simp only [laws_eqIntS.l0]
    exact neg (by omega) (conv (now _) (by simp [hl]))
  · intro i hi ih
    refine succ ?_
    simp only [laws_eqIntS.l0]
    rw [wnat (by omega)]
    refine pos (by omega) (pos (by omega) (pos (by omega) ?_))
    rw [rd_lt xs i hi, rd_lt ys i (by omega)]
    by_cases e : xs[i] = ys[i]'(by omega)
    · exact pos e (conv ih (by rw [decide_eq_decide, drop_iff hi (by omega)]; exact ⟨fun h => ⟨e, h⟩, fun h => h.2⟩))
    · exact neg e (conv (now _) (Eq.symm (decide_eq_false (by rw [drop_iff hi (by omega)]; exact fun h => e h.1))))
theorem eqIntS_f (xs ys : List Int) (hx : xs.length ≤ 35184372088832) : Ev (fun k => laws_eqIntS.f k xs ys) (decide (xs = ys)) := by
  unfold laws_eqIntS.f
  by_cases e : xs.length = ys.length
  · exact pos (by omega) (conv (eqIntS_l0 xs ys hx e 0 (by omega)) (by simp))
  · exact neg (by omega) (conv (now _) (by simp; intro h; exact e (by rw [h])))
theorem eqIntS_same (xs : List Int) (hx : xs.length ≤ 35184372088832) : Ev (fun k => laws_eqIntS.f k xs xs) true := conv (eqIntS_f xs xs hx) (by simp)

theorem spec_l1All_l0 (xs : List Int) (a b : Int) (hx : xs.length ≤ 35184372088832) : ∀ i : Nat, i ≤ xs.length → Ev (fun k => spec_l1All.l0 k a b xs xs.length i) (decide (∀ x ∈ xs.drop i, a ≤ x ∧ x ≤ b)) := by
  refine down xs.length ?_ ?_
  · refine succ ?_
    simp only [spec_l1All.l0]
    exact neg (by omega) (conv (now _) (by simp))
  · intro i hi ih
    refine succ ?_
    simp only [spec_l1All.l0, spec_in, Option.bind_some]
    rw [wnat (by omega)]
    refine pos (by omega) (pos (by omega) (pos (by omega) ?_))
    rw [rd_lt xs i hi]
    by_cases e : a ≤ xs[i] ∧ xs[i] ≤ b
    · exact pos (by simpa using e) (conv ih (by rw [decide_eq_decide, all_drop hi]; exact ⟨fun h => ⟨e, h⟩, fun h => h.2⟩))
    · exact neg (by simpa using e) (conv (now _) (Eq.symm (decide_eq_false (by rw [all_drop hi]; exact fun h => e h.1))))
theorem spec_l1All_f (xs : List Int) (a b : Int) (hx : xs.length ≤ 35184372088832) : Ev (fun k => spec_l1All.f k xs a b) (decide (∀ x ∈ xs, a ≤ x ∧ x ≤ b)) :=
  spec_l1All_l0 xs a b hx 0 (by omega)

theorem impl_allWithin_l0 (xs : List Int) (a b : Int) (hx : xs.length ≤ 35184372088832) : ∀ i : Nat, i ≤ xs.length → Ev (fun k => impl_allWithin.l0 k a b xs xs.length i) (decide (∀ x ∈ xs.drop i, a ≤ x ∧ x ≤ b)) := by
  refine down xs.length ?_ ?_
  · refine succ ?_
    simp only [impl_allWithin.l0]
    exact neg (by omega) (conv (now _) (by simp))
  · intro i hi ih
    refine succ ?_
    simp only [impl_allWithin.l0, impl_in, Option.bind_some]
    rw [wnat (by omega)]
    refine pos (by omega) (pos (by omega) (pos (by omega) ?_))
    rw [rd_lt xs i hi]
    by_cases e : a ≤ xs[i] ∧ xs[i] ≤ b
    · exact pos (by simpa using e) (conv ih (by rw [decide_eq_decide, all_drop hi]; exact ⟨fun h => ⟨e, h⟩, fun h => h.2⟩))
    · exact neg (by simpa using e) (conv (now _) (Eq.symm (decide_eq_false (by rw [all_drop hi]; exact fun h => e h.1))))
theorem impl_allWithin_f (xs : List Int) (a b : Int) (hx : xs.length ≤ 35184372088832) : Ev (fun k => impl_allWithin.f k xs a b) (decide (∀ x ∈ xs, a ≤ x ∧ x ≤ b)) :=
  impl_allWithin_l0 xs a b hx 0 (by omega)

/-- Rows as a law's argument has them. -/
def Lens (l : List (List Int)) : Prop := ∀ x ∈ l, x.length ≤ 1048576
theorem rd_L1_nat (l : List (List Int)) (i : Nat) : rd_L1 l (i : Int) = l.getD i [] := by simp [rd_L1]
theorem rd_L1_lt (l : List (List Int)) (i : Nat) (h : i < l.length) : rd_L1 l (i : Int) = l[i] := by simp [rd_L1, h]
theorem rd_L1_len {l : List (List Int)} {B : Nat} (h : ∀ x ∈ l, x.length ≤ B) (i : Nat) : (rd_L1 l (i : Int)).length ≤ B := by
  rw [rd_L1_nat]
  by_cases c : i < l.length
  · rw [List.getD_eq_getElem?_getD, List.getElem?_eq_getElem c]
    exact h _ (List.getElem_mem c)
  · rw [List.getD_eq_getElem?_getD, List.getElem?_eq_none (by omega)]
    simp
theorem szIntSS_l0 (l : List (List Int)) (hl : l.length ≤ 1048576) (hb : ∀ x ∈ l, x.length ≤ 9223372036854775807) : ∀ i : Nat, i ≤ l.length → ∀ r : Int, 0 ≤ r → r ≤ 1048576 → ∃ v : Int, Ev (fun k => laws_szIntSS.l0 k l r i) v ∧ (¬ v < 0 → ∀ j : Nat, i ≤ j → (rd_L1 l (j : Int)).length ≤ 1048576) := by
  refine down l.length ?_ ?_
  · intro r _ _
    refine ⟨r, succ ?_, fun _ j hj => ?_⟩
    · simp only [laws_szIntSS.l0]
      exact neg (by omega) (now _)
    · rw [rd_L1_nat, List.getD_eq_getElem?_getD, List.getElem?_eq_none (by omega)]
      simp
  · intro i hi ih r r0 r1
    have hx := rd_L1_len hb i
    by_cases c : r - ((rd_L1 l (i : Int)).length : Int) < 0
    · refine ⟨-1, succ ?_, fun h => absurd (by omega) h⟩
      simp only [laws_szIntSS.l0, laws_szIntS.f]
      rw [w64 (x := r - ((rd_L1 l (i : Int)).length : Int)) (by omega) (by omega)]
      exact pos (by omega) (pos (by omega) (bindSome (if_pos c) (pos (by omega) (now _))))
    · obtain ⟨v, hv, hw⟩ := ih (r - ((rd_L1 l (i : Int)).length : Int)) (by omega) (by omega)
      refine ⟨v, succ ?_, fun h j hj => ?_⟩
      · simp only [laws_szIntSS.l0, laws_szIntS.f]
        rw [w64 (x := r - ((rd_L1 l (i : Int)).length : Int)) (by omega) (by omega), wnat (by omega)]
        exact pos (by omega) (pos (by omega) (bindSome (if_neg c) (neg c hv)))
      · by_cases e : j = i
        · subst e; omega
        · exact hw h j (by omega)
theorem szIntSS_f (l : List (List Int)) (hl : l.length * 24 ≤ 140737488351232) (hb : ∀ x ∈ l, x.length ≤ 9223372036854775807) : ∃ v : Int, Ev (fun k => laws_szIntSS.f k l 1048576) v ∧ (¬ v < 0 → l.length ≤ 1048576 ∧ Lens l) := by
  unfold laws_szIntSS.f
  rw [w64 (by omega) (by omega)]
  by_cases c : (1048576 : Int) - l.length < 0
  · exact ⟨-1, pos c (now _), fun h => absurd (by omega) h⟩
  · obtain ⟨v, hv, hw⟩ := szIntSS_l0 l (by omega) hb 0 (by omega) (1048576 - l.length) (by omega) (by omega)
    refine ⟨v, neg c hv, fun h => ⟨by omega, fun x hx => ?_⟩⟩
    obtain ⟨j, hj, rfl⟩ := List.getElem_of_mem hx
    have z := hw h j (by omega)
    rw [rd_L1_lt l j hj] at z
    exact z
theorem toIntSS_f (l : List (List Int)) (hl : l.length ≤ 1048576) (hb : Lens l) : Ev (fun k => laws_toIntSS.f k l) l := by
  have key : ∀ i : Nat, i ≤ l.length → ∀ y : List (List Int), y.length = l.length → (∀ j : Nat, j < i → y.getD j [] = l.getD j []) → Ev (fun k => laws_toIntSS.l0 k l y i) l := by
    refine down l.length ?_ ?_
    · intro y hy hj
      refine succ ?_
      simp only [laws_toIntSS.l0]
      refine neg (by omega) (conv (now _) ?_)
      refine List.ext_getElem hy (fun j h1 h2 => ?_)
      have := hj j h2
      simpa [h1, h2] using this
    · intro i hi ih y hy hj
      refine succ ?_
      simp only [laws_toIntSS.l0]
      rw [wnat (by omega)]
      have hx := rd_L1_len hb i
      refine pos (by omega) (pos (by omega) (bind (toIntS_f _ (by omega)) (pos (by omega) (ih _ (by simp [hy]) (fun j hjj => ?_)))))
      simp only [Int.toNat_natCast]
      by_cases e : j = i
      · subst e
        rw [rd_L1_nat]
        simp [hy, hi]
      · rw [List.getD_eq_getElem?_getD, List.getElem?_set_ne (Ne.symm e), ← List.getD_eq_getElem?_getD]
        exact hj j (by omega)
  unfold laws_toIntSS.f
  exact pos (by omega) (pos (by simp; omega) (key 0 (by omega) _ (by simp) (fun j hj => by omega)))
theorem eqIntSS_same (l : List (List Int)) (hl : l.length ≤ 1048576) (hb : Lens l) : Ev (fun k => laws_eqIntSS.f k l l) true := by
  have key : ∀ i : Nat, i ≤ l.length → Ev (fun k => laws_eqIntSS.l0 k l l i) true := by
    refine down l.length ?_ ?_
    · refine succ ?_
      simp only [laws_eqIntSS.l0]
      exact neg (by omega) (now _)
    · intro i hi ih
      have hx := rd_L1_len hb i
      refine succ ?_
      simp only [laws_eqIntSS.l0]
      rw [wnat (by omega)]
      exact pos (by omega) (pos (by omega) (pos (by omega) (bind (eqIntS_same _ (by omega)) (pos rfl ih))))
  unfold laws_eqIntSS.f
  exact pos rfl (key 0 (by omega))

/-- Costs. -/
def Costs (l : List (List Int)) : Prop := ((1 ≤ l.length ∧ l.length ≤ 20) ∧ (1 ≤ (l.getD 0 []).length ∧ (l.getD 0 []).length ≤ 5)) ∧ ∀ x ∈ l, x.length = (l.getD 0 []).length ∧ ∀ y ∈ x, 0 ≤ y ∧ y ≤ 1000
instance (l : List (List Int)) : Decidable (Costs l) := by unfold Costs; infer_instance
theorem rwHouses_f (n : Int) : spec_rwHouses.f n = some (decide (1 ≤ n ∧ n ≤ 20)) := by unfold spec_rwHouses.f; rw [spec_in]; rfl
theorem rowLength_f (n : Int) : impl_isRowLength.f n = some (decide (1 ≤ n ∧ n ≤ 20)) := by unfold impl_isRowLength.f; rw [impl_in]; rfl
theorem rwGood_f (l : List (List Int)) (hl : l.length ≤ 1048576) (hb : Lens l) : Ev (fun k => spec_rwGood.f k l) (decide (Costs l)) := by
  unfold spec_rwGood.f
  rw [rwHouses_f]
  refine bindSome rfl ?_
  by_cases c : 1 ≤ (l.length : Int) ∧ (l.length : Int) ≤ 20
  · refine pos (by simpa using c) (pos (by omega) ?_)
    rw [spec_in, show rd_L1 l 0 = l.getD 0 [] from rfl]
    refine bindSome rfl (succ ?_)
    simp only [spec_rwGood.j0]
    by_cases d : 1 ≤ ((l.getD 0 []).length : Int) ∧ ((l.getD 0 []).length : Int) ≤ 5
    · refine neg (by simpa using d) ?_
      have key : ∀ i : Nat, i ≤ l.length → Ev (fun k => spec_rwGood.l0 k l l l.length i) (decide (∀ x ∈ l.drop i, x.length = (l.getD 0 []).length ∧ ∀ y ∈ x, 0 ≤ y ∧ y ≤ 1000)) := by
        refine down l.length ?_ ?_
        · refine succ ?_
          simp only [spec_rwGood.l0]
          exact neg (by omega) (conv (now _) (by simp))
        · intro i hi ih
          have hx := rd_L1_len hb i
          refine succ ?_
          simp only [spec_rwGood.l0]
          rw [wnat (by omega), show rd_L1 l 0 = l.getD 0 [] from rfl]
          refine pos (by omega) (pos (by omega) (pos (by omega) (pos (by omega) ?_)))
          rw [rd_L1_lt l i hi] at hx ⊢
          by_cases e : (l[i].length : Int) = ((l.getD 0 []).length : Int)
          · refine pos e (bind (spec_l1All_f _ 0 1000 (by omega)) ?_)
            by_cases f : ∀ x ∈ l[i], 0 ≤ x ∧ x ≤ 1000
            · refine pos (by simpa using f) (conv ih ?_)
              rw [decide_eq_decide, all_drop hi]
              exact ⟨fun g => ⟨⟨by omega, f⟩, g⟩, fun g => g.2⟩
            · refine neg (by simpa using f) (conv (now _) (Eq.symm (decide_eq_false ?_)))
              rw [all_drop hi]
              exact fun g => f g.1.2
          · refine neg e (conv (now _) (Eq.symm (decide_eq_false ?_)))
            rw [all_drop hi]
            exact fun g => e (by rw [g.1.1])
      refine conv (key 0 (by omega)) ?_
      rw [decide_eq_decide, List.drop_zero]
      exact ⟨fun g => ⟨⟨by omega, by omega⟩, g⟩, fun g => g.2⟩
    · exact pos (by rw [decide_eq_false d]; rfl) (conv (now _) (Eq.symm (decide_eq_false (fun g => d (by have := g.1.2; omega)))))
  · refine neg (by simpa using c) (succ ?_)
    simp only [spec_rwGood.j0]
    exact pos (by simp) (conv (now _) (Eq.symm (decide_eq_false (fun g => c (by have := g.1.1; omega)))))
theorem costs_rows (n : Nat) (hn : n ≤ 5) : ∀ l : List (List Int), Ev (fun k => impl_AreCosts.rows k n l) (decide (∀ x ∈ l, x.length = n ∧ ∀ y ∈ x, 0 ≤ y ∧ y ≤ 1000))
  | [] => conv (now true) (by simp)
  | x :: xs => by
    unfold impl_AreCosts.rows
    by_cases e : x.length = n
    · refine pos e (bind (impl_allWithin_f x 0 1000 (by omega)) ?_)
      by_cases f : ∀ y ∈ x, 0 ≤ y ∧ y ≤ 1000
      · refine pos (by simpa using f) (conv (costs_rows n hn xs) ?_)
        rw [decide_eq_decide, List.forall_mem_cons]
        exact ⟨fun g => ⟨⟨e, f⟩, g⟩, fun g => g.2⟩
      · refine neg (by simpa using f) (conv (now _) (Eq.symm (decide_eq_false ?_)))
        rw [List.forall_mem_cons]
        exact fun g => f g.1.2
    · refine neg e (conv (now _) (Eq.symm (decide_eq_false ?_)))
      rw [List.forall_mem_cons]
      exact fun g => e g.1.1
theorem areCosts_f (l : List (List Int)) : Ev (fun k => impl_AreCosts.f k l) (decide (Costs l)) := by
  unfold impl_AreCosts.f
  rw [rowLength_f]
  refine bindSome rfl ?_
  by_cases c : 1 ≤ (l.length : Int) ∧ (l.length : Int) ≤ 20
  · refine pos (by simpa using c) (pos (by omega) ?_)
    rw [impl_in]
    refine bindSome rfl ?_
    by_cases d : 1 ≤ ((l.getD 0 []).length : Int) ∧ ((l.getD 0 []).length : Int) ≤ 5
    · refine pos (by simpa using d) (conv (costs_rows _ (by omega) l) ?_)
      rw [decide_eq_decide]
      exact ⟨fun g => ⟨⟨by omega, by omega⟩, g⟩, fun g => g.2⟩
    · exact neg (by simpa using d) (conv (now _) (Eq.symm (decide_eq_false (fun g => d (by have := g.1.2; omega)))))
  · exact neg (by simpa using c) (conv (now _) (Eq.symm (decide_eq_false (fun g => c (by have := g.1.1; omega)))))

open impl_paintFrom (iter stp dv tab D1 D2 Rect)
theorem iter_rel {σ τ : Type} (R : Nat → σ → τ → Prop) (f : Nat → σ → σ) (g : Nat → τ → τ) : ∀ (n i : Nat) (c : σ) (c' : τ), (∀ j c c', i ≤ j → j < i + n → R j c c' → R (j + 1) (f j c) (g j c')) → R i c c' → R (i + n) (iter f n i c) (iter g n i c')
  | 0, _, _, _, _, h => h
  | n + 1, i, c, c', hs, h => by
    have z := iter_rel R f g n (i + 1) _ _ (fun j c c' h1 h2 => hs j c c' (by omega) (by omega)) (hs i c c' (Nat.le_refl _) (by omega) h)
    rw [show i + 1 + n = i + (n + 1) by omega] at z
    exact z
theorem stp_v (c : Nat) (v : Int) (e1 e2 : Nat → Int) (x : Nat) (p a : Int × Int) (h1 : e1 x = a.1) (h2 : e2 x = a.2) : stp c v e1 e2 x p = if x = c ∨ a.2 = 0 then p else if p.2 = 0 ∨ wrap64 (v + a.1) < p.1 then (wrap64 (v + a.1), wrap64 (0 + a.2)) else if wrap64 (v + a.1) = p.1 then (p.1, wrap64 (p.2 + a.2)) else p := by
  obtain ⟨a1, a2⟩ := a
  subst h1 h2
  rfl
/-- The last house's colour that is not had. -/
def noc (f0 : Nat) (rg : Bool) : Int := if rg = true then (f0 : Int) else -1
/-- Costs, as rows. -/
def Good (l : List (List Int)) (n K : Nat) : Prop := ((1 ≤ n ∧ n ≤ 20) ∧ (1 ≤ K ∧ K ≤ 5)) ∧ ∀ i c, i < n → c < K → 0 ≤ dv l i c ∧ dv l i c ≤ 1000
theorem pow5 (r : Nat) (h : r ≤ 20) : 5 ^ r ≤ 95367431640625 := Nat.le_trans (Nat.pow_le_pow_right (by decide) h) (by decide)
/-- The first that is. -/
theorem least_of (p : Nat → Prop) : ∀ n : Nat, p n → ∃ m, m ≤ n ∧ p m ∧ ∀ k, k < m → ¬ p k := by
  intro n
  induction n using Nat.strongRecOn with
  | _ n ih =>
    intro hp
    by_cases h : ∃ m, m < n ∧ p m
    · obtain ⟨m, hm, hpm⟩ := h
      obtain ⟨m', h1, h2, h3⟩ := ih m hm hpm
      exact ⟨m', by omega, h2, h3⟩
    · exact ⟨n, Nat.le_refl _, hp, fun k hk hpk => h ⟨k, hk, hpk⟩⟩
theorem tab_len (n K : Nat) (d : Nat → Nat → Int) : (tab n K d).length = n := by simp [tab]
theorem tab_row (n K : Nat) (d : Nat → Nat → Int) (x : Nat) (hx : x < n) : rd_L1 (tab n K d) (x : Int) = (List.range K).map fun y => d x y := by
  rw [rd_L1_lt _ _ (by rw [tab_len]; exact hx)]
  simp [tab]
theorem tab_rlen (n K : Nat) (d : Nat → Nat → Int) (x : Nat) (hx : x < n) : (rd_L1 (tab n K d) (x : Int)).length = K := by rw [tab_row _ _ _ _ hx]; simp
theorem tab_rd (n K : Nat) (d : Nat → Nat → Int) (x y : Nat) (hx : x < n) (hy : y < K) : rd (rd_L1 (tab n K d) (x : Int)) (y : Int) = d x y := by
  rw [tab_row _ _ _ _ hx, rd_lt _ _ (by simpa using hy)]
  simp
theorem dv_rd (l : List (List Int)) (i c : Nat) : rd (rd_L1 l (i : Int)) (c : Int) = dv l i c := by rw [rd_L1_nat]; rfl
/-- Costs of so many houses and colours. -/
def Cst (l : List (List Int)) (n K : Nat) : Prop := (l.length = n ∧ ∀ x ∈ l, x.length = K) ∧ Good l n K
theorem Cst.row {l : List (List Int)} {n K : Nat} (h : Cst l n K) (i : Nat) (hi : i < n) : (rd_L1 l (i : Int)).length = K := by
  rw [rd_L1_lt l i (by have := h.1.1; omega)]
  exact h.1.2 _ (List.getElem_mem _)
theorem Cst.head {l : List (List Int)} {n K : Nat} (h : Cst l n K) : (l.getD 0 []).length = K := by
  have z := h.row 0 (by have := h.2.1.1; omega)
  rw [rd_L1_nat] at z
  exact z
theorem paintFrom_some {l : List (List Int)} {n K : Nat} (h : Cst l n K) (no : Int) : Ev (fun k => impl_paintFrom.f k l no) (tab n K (D1 l n K no), tab n K (D2 l n K no)) := by
  have e1 := h.1.1
  have e2 := h.head
  refine ⟨1, fun k hk => ?_⟩
  obtain ⟨k, rfl⟩ : ∃ j, k = j + 1 := ⟨k - 1, by omega⟩
  simp only [impl_paintFrom.f]
  rw [if_pos ⟨by have := h.2.1.1; omega, by have := h.2.1.2; omega, rfl, fun x hx => by rw [h.1.2 x hx, e2]⟩, e1, e2]
theorem isRing_f (n : Nat) (ring : Bool) : impl_isRing.f (n : Int) ring = some (ring && decide (2 < n)) := by
  unfold impl_isRing.f
  cases ring with
  | false => rw [if_neg (by simp)]; rfl
  | true =>
    rw [if_pos rfl]
    congr 1
    rw [Bool.true_and, decide_eq_decide]
    omega
theorem rwRing_f (n : Nat) (ring : Bool) : spec_rwRing.f (n : Int) ring = some (ring && decide (2 < n)) := by
  unfold spec_rwRing.f
  cases ring with
  | false => rw [if_neg (by simp)]; rfl
  | true =>
    rw [if_pos rfl]
    congr 1
    rw [Bool.true_and, decide_eq_decide]
    omega

open spec_rwPaint (stq bad E1 E2)
theorem stq_v (c : Nat) (v : Int) (e1 e2 : Nat → Int) (x : Nat) (p a : Int × Int) (h1 : e1 x = a.1) (h2 : e2 x = a.2) : stq c v e1 e2 x p = if x = c ∨ a.1 = 1000000 then p else if wrap64 (v + a.1) < p.1 then (wrap64 (v + a.1), a.2) else if wrap64 (v + a.1) = p.1 then (p.1, wrap64 (p.2 + a.2)) else p := by
  obtain ⟨a1, a2⟩ := a
  subst h1 h2
  rfl
/-- What the two tables say of one house and colour. -/
def Rel (K r : Nat) (p q : Int × Int) : Prop := (p.2 = 0 ∧ q.1 = 1000000 ∧ q.2 = 0) ∨ (1 ≤ p.2 ∧ p = q ∧ (0 ≤ p.1 ∧ p.1 ≤ 1000 * ((r : Int) + 1)) ∧ p.2 ≤ ((5 ^ r : Nat) : Int))
theorem rel_row {l : List (List Int)} {n K : Nat} (hg : Good l n K) (f0 : Nat) (rg : Bool) (h1 : n = 1 → rg = false) : ∀ r : Nat, r < n → ∀ c : Nat, c < K → (r + 1 < n ∨ c = f0) → Rel K r (impl_paintFrom.P l n K (noc f0 rg) r c) (spec_rwPaint.P l n K f0 rg r c)
  | 0, hr, c, hc, hor => by
    have hb : bad n f0 rg (n - 1) c = (rg && decide (c = f0)) := by
      unfold bad
      have e1 : decide (n - 1 + 1 = n) = true := decide_eq_true (by omega)
      rw [e1]
      by_cases q : c = f0
      · subst q; simp
      · have e2 : decide (n - 1 = 0) = false := decide_eq_false (by omega)
        have e3 : decide ((c : Int) = (f0 : Int)) = false := decide_eq_false (by omega)
        have e4 : decide (c = f0) = false := decide_eq_false q
        rw [e2, e3, e4]
        cases rg <;> rfl
    show Rel K 0 (if (c : Int) = noc f0 rg then (0, 0) else (dv l (n - 1) c, 1)) (if bad n f0 rg (n - 1) c = true then (1000000, 0) else (dv l (n - 1) c, 1))
    rw [hb]
    have hd := hg.2 (n - 1) c (by omega) hc
    by_cases q : rg = true ∧ c = f0
    · rw [if_pos (by unfold noc; rw [if_pos q.1, q.2]), if_pos (by simp [q.1, q.2])]
      exact .inl ⟨rfl, rfl, rfl⟩
    · rw [if_neg (by unfold noc; intro z; split at z <;> rename_i t; exact q ⟨t, by omega⟩; omega), if_neg (by simpa using q)]
      exact .inr ⟨by show (1 : Int) ≤ 1; omega, rfl, by dsimp only; omega, by show (1 : Int) ≤ ((1 : Nat) : Int); omega⟩
  | r + 1, hr, c, hc, hor => by
    have hb : bad n f0 rg (n - 1 - (r + 1)) c = false := by
      unfold bad
      have e1 : decide (n - 1 - (r + 1) + 1 = n) = false := decide_eq_false (by omega)
      rw [e1]
      by_cases q : c = f0
      · subst q; simp
      · have e2 : decide (n - 1 - (r + 1) = 0) = false := decide_eq_false (by omega)
        rw [e2]
        simp
    have hd := hg.2 (n - 1 - (r + 1)) c (by omega) hc
    have hp := pow5 r (by have := hg.1.1; omega)
    have hp1 : 5 ^ (r + 1) = 5 ^ r * 5 := Nat.pow_succ 5 r
    have hn20 := hg.1.1.2
    have z := iter_rel (fun x (p q : Int × Int) => (p.2 = 0 ∧ p = (0, 0) ∧ q = (1000000, 0)) ∨ (1 ≤ p.2 ∧ p = q ∧ (0 ≤ p.1 ∧ p.1 ≤ 1000 * ((r : Int) + 1) + 1000) ∧ p.2 ≤ ((5 ^ r * x : Nat) : Int)))
      (stp c (dv l (n - 1 - (r + 1)) c) (fun x => (impl_paintFrom.P l n K (noc f0 rg) r x).1) (fun x => (impl_paintFrom.P l n K (noc f0 rg) r x).2)) (stq c (dv l (n - 1 - (r + 1)) c) (fun x => (spec_rwPaint.P l n K f0 rg r x).1) (fun x => (spec_rwPaint.P l n K f0 rg r x).2)) K 0 (0, 0) (1000000, 0) (fun x p q _ hx hpq => by
        have hr' := rel_row hg f0 rg h1 r (by omega) x (by omega) (.inl (by omega))
        have hmul : 5 ^ r * (x + 1) = 5 ^ r * x + 5 ^ r := Nat.mul_succ _ _
        have hmul2 : 5 ^ r * x ≤ 5 ^ r * 5 := Nat.mul_le_mul_left _ (by have := hg.1.2; omega)
        rw [stp_v _ _ _ _ _ _ (impl_paintFrom.P l n K (noc f0 rg) r x) rfl rfl, stq_v _ _ _ _ _ _ (spec_rwPaint.P l n K f0 rg r x) rfl rfl]
        generalize impl_paintFrom.P l n K (noc f0 rg) r x = a at hr' ⊢
        generalize spec_rwPaint.P l n K f0 rg r x = b at hr' ⊢
        generalize dv l (n - 1 - (r + 1)) c = v at hd ⊢
        by_cases q1 : x = c
        · rw [if_pos (.inl q1), if_pos (.inl q1)]
          rcases hpq with h | ⟨h2, h3, h4, h5⟩
          · exact .inl h
          · exact .inr ⟨h2, h3, h4, by omega⟩
        · rcases hr' with ⟨a1, a2, a3⟩ | ⟨a1, a2, a3, a4⟩
          · rw [if_pos (.inr a1), if_pos (.inr a2)]
            rcases hpq with h | ⟨h2, h3, h4, h5⟩
            · exact .inl h
            · exact .inr ⟨h2, h3, h4, by omega⟩
          · subst a2
            have e1 : wrap64 (v + a.1) = v + a.1 := w64 (by omega) (by omega)
            have e2 : wrap64 (0 + a.2) = a.2 := by rw [Int.zero_add]; exact w64 (by omega) (by omega)
            rw [e1, e2, if_neg (show ¬ (x = c ∨ a.2 = 0) from fun h => h.elim q1 (fun h => by omega)), if_neg (show ¬ (x = c ∨ a.1 = 1000000) from fun h => h.elim q1 (fun h => by omega))]
            rcases hpq with ⟨h2, h3, h4⟩ | ⟨h2, h3, h4, h5⟩
            · subst h3 h4
              rw [if_pos (.inl rfl), if_pos (show v + a.1 < ((1000000, 0) : Int × Int).1 by show v + a.1 < 1000000; omega)]
              exact .inr ⟨a1, rfl, by dsimp only; omega, by dsimp only; omega⟩
            · subst h3
              by_cases q2 : v + a.1 < p.1
              · rw [if_pos (.inr q2), if_pos q2]
                exact .inr ⟨a1, rfl, by dsimp only; omega, by dsimp only; omega⟩
              · rw [if_neg (fun h => h.elim (fun h => by omega) q2), if_neg q2]
                have e3 : wrap64 (p.2 + a.2) = p.2 + a.2 := w64 (by omega) (by omega)
                rw [e3]
                by_cases q3 : v + a.1 = p.1
                · rw [if_pos q3]
                  exact .inr ⟨by dsimp only; omega, rfl, h4, by dsimp only; omega⟩
                · rw [if_neg q3]
                  exact .inr ⟨h2, rfl, h4, by omega⟩) (.inl ⟨rfl, rfl, rfl⟩)
    rw [Nat.zero_add] at z
    show Rel K (r + 1) (iter _ K 0 (0, 0)) (if bad n f0 rg (n - 1 - (r + 1)) c = true then (1000000, 0) else iter _ K 0 (1000000, 0))
    rw [hb, if_neg (by simp)]
    rcases z with ⟨z1, z2, z3⟩ | ⟨z1, z2, z3, z4⟩
    · refine .inl ⟨z1, ?_, ?_⟩
      · exact congrArg Prod.fst z3
      · exact congrArg Prod.snd z3
    · have hmul2 : 5 ^ r * K ≤ 5 ^ r * 5 := Nat.mul_le_mul_left _ hg.1.2.2
      exact .inr ⟨z1, z2, by omega, by omega⟩
/-- A cost that is had is had by way of a next colour. -/
theorem attained {l : List (List Int)} {n K : Nat} (hg : Good l n K) (f0 : Nat) (rg : Bool) (h1 : n = 1 → rg = false) (r : Nat) (hr : r + 1 < n) (c : Nat) (hc : c < K) (hpos : 1 ≤ (impl_paintFrom.P l n K (noc f0 rg) (r + 1) c).2) :
    ∃ d, d < K ∧ d ≠ c ∧ 1 ≤ (impl_paintFrom.P l n K (noc f0 rg) r d).2 ∧ dv l (n - 1 - (r + 1)) c + (impl_paintFrom.P l n K (noc f0 rg) r d).1 = (impl_paintFrom.P l n K (noc f0 rg) (r + 1) c).1 := by
  have hd := hg.2 (n - 1 - (r + 1)) c (by omega) hc
  have hn20 := hg.1.1.2
  have z := iter_rel (fun x (p _ : Int × Int) => 0 ≤ p.2 ∧ (p.2 ≠ 0 → ∃ d, d < x ∧ d ≠ c ∧ 1 ≤ (impl_paintFrom.P l n K (noc f0 rg) r d).2 ∧ dv l (n - 1 - (r + 1)) c + (impl_paintFrom.P l n K (noc f0 rg) r d).1 = p.1) ∧ p.2 ≤ ((5 ^ r * x : Nat) : Int))
    (stp c (dv l (n - 1 - (r + 1)) c) (fun x => (impl_paintFrom.P l n K (noc f0 rg) r x).1) (fun x => (impl_paintFrom.P l n K (noc f0 rg) r x).2)) (fun _ q => q) K 0 (0, 0) (0, 0) (fun x p q _ hx hpq => by
      have hr' := rel_row hg f0 rg h1 r (by omega) x (by omega) (.inl (by omega))
      have hp := pow5 r (by omega)
      have hmul : 5 ^ r * (x + 1) = 5 ^ r * x + 5 ^ r := Nat.mul_succ _ _
      have hmul2 : 5 ^ r * x ≤ 5 ^ r * 5 := Nat.mul_le_mul_left _ (by have := hg.1.2; omega)
      have mor : (p.2 ≠ 0 → ∃ d, d < x + 1 ∧ d ≠ c ∧ 1 ≤ (impl_paintFrom.P l n K (noc f0 rg) r d).2 ∧ dv l (n - 1 - (r + 1)) c + (impl_paintFrom.P l n K (noc f0 rg) r d).1 = p.1) := fun h => by
        obtain ⟨d, d1, d2⟩ := hpq.2.1 h
        exact ⟨d, by omega, d2⟩
      rw [stp_v _ _ _ _ _ _ (impl_paintFrom.P l n K (noc f0 rg) r x) rfl rfl]
      by_cases q1 : x = c ∨ (impl_paintFrom.P l n K (noc f0 rg) r x).2 = 0
      · rw [if_pos q1]
        exact ⟨hpq.1, mor, by omega⟩
      · rw [if_neg q1]
        rcases hr' with ⟨a1, -, -⟩ | ⟨a1, -, a3, a4⟩
        · exact absurd (.inr a1) q1
        · have e1 : wrap64 (dv l (n - 1 - (r + 1)) c + (impl_paintFrom.P l n K (noc f0 rg) r x).1) = dv l (n - 1 - (r + 1)) c + (impl_paintFrom.P l n K (noc f0 rg) r x).1 := w64 (by omega) (by omega)
          have e2 : wrap64 (0 + (impl_paintFrom.P l n K (noc f0 rg) r x).2) = (impl_paintFrom.P l n K (noc f0 rg) r x).2 := by rw [Int.zero_add]; exact w64 (by omega) (by omega)
          have e3 : wrap64 (p.2 + (impl_paintFrom.P l n K (noc f0 rg) r x).2) = p.2 + (impl_paintFrom.P l n K (noc f0 rg) r x).2 := w64 (by omega) (by omega)
          rw [e1, e2, e3]
          have me : x ≠ c := fun e => q1 (.inl e)
          split
          · exact ⟨by dsimp only; omega, fun _ => ⟨x, by omega, me, a1, rfl⟩, by dsimp only; omega⟩
          · split
            · rename_i h3
              exact ⟨by dsimp only; omega, fun _ => ⟨x, by omega, me, a1, h3⟩, by dsimp only; omega⟩
            · exact ⟨hpq.1, mor, by omega⟩) ⟨by decide, fun h => absurd rfl h, by simp⟩
  rw [Nat.zero_add] at z
  exact z.2.1 (fun h => by
    have e : (impl_paintFrom.P l n K (noc f0 rg) (r + 1) c).2 = 0 := h
    omega)
theorem costs_cst {l : List (List Int)} (h : Costs l) : Cst l l.length (l.getD 0 []).length := by
  refine ⟨⟨rfl, fun x hx => (h.2 x hx).1⟩, ⟨h.1.1, h.1.2⟩, fun i c hi hc => ?_⟩
  have e : l.getD i [] = l[i] := by rw [List.getD_eq_getElem?_getD, List.getElem?_eq_getElem hi]; rfl
  have hm := h.2 l[i] (List.getElem_mem hi)
  unfold dv
  rw [e, rd_lt _ _ (by omega)]
  exact hm.2 _ (List.getElem_mem _)
theorem rwPaint_some {l : List (List Int)} {n K : Nat} (h : Cst l n K) (f0 : Nat) (rg : Bool) : Ev (fun k => spec_rwPaint.f k l f0 rg) (tab n K (E1 l n K f0 rg), tab n K (E2 l n K f0 rg)) := by
  have e1 := h.1.1
  have e2 := h.head
  refine ⟨1, fun k hk => ?_⟩
  obtain ⟨k, rfl⟩ : ∃ j, k = j + 1 := ⟨k - 1, by omega⟩
  simp only [spec_rwPaint.f]
  rw [if_pos ⟨⟨by have := h.2.1.1; omega, by have := h.2.1.2; omega⟩, ⟨rfl, fun x hx => by rw [h.1.2 x hx, e2]⟩, by omega⟩, e1, e2]
/-- The colours behind the first one: both sides go on with the same. -/
theorem chain {l : List (List Int)} {n K : Nat} (h : Cst l n K) (f0 : Nat) (hf : f0 < K) (rg ring : Bool) (h1 : n = 1 → rg = false) (least total best cnt : Int) (xf : Nat) :
    ∀ d i : Nat, i + d = n → 1 ≤ i → ∀ (acc : List Int) (b : Nat), acc.length = i → rd acc ((i - 1 : Nat) : Int) = b → b < K → (i - 1 = 0 → b = f0) → 1 ≤ (impl_paintFrom.P l n K (noc f0 rg) (n - 1 - (i - 1)) b).2 →
    ∃ out : List Int, out.length = n ∧
      (∀ R, Ev (fun k => impl_bestPaint.l0 k l ring least total out K (wrap64 ((xf : Int) + 1))) R → Ev (fun k => impl_bestPaint.l1 k l ring least total acc (tab n K (D1 l n K (noc f0 rg))) (tab n K (D2 l n K (noc f0 rg))) i K xf) R) ∧
      (∀ R, Ev (fun k => spec_rwBest.l0 k l rg best (wrap64 (cnt + E2 l n K f0 rg 0 f0)) out K (wrap64 ((xf : Int) + 1))) R → Ev (fun k => spec_rwBest.l1 k l rg best cnt acc f0 (tab n K (E1 l n K f0 rg)) (tab n K (E2 l n K f0 rg)) i K xf) R) := by
  have hn := h.2.1.1
  have hK := h.2.1.2
  intro d
  induction d with
  | zero =>
    intro i hi h0 acc b hl _ _ _ _
    refine ⟨acc, by omega, fun R hR => succ ?_, fun R hR => succ ?_⟩
    · simp only [impl_bestPaint.l1]
      rw [h.1.1]
      exact neg (by omega) hR
    · simp only [spec_rwBest.l1]
      rw [h.1.1, tab_len, show (0 : Int) = ((0 : Nat) : Int) from rfl, tab_rlen _ _ _ 0 (by omega), tab_rd _ _ _ 0 f0 (by omega) hf]
      exact neg (by omega) (pos (by omega) (pos (by omega) (pos (by omega) hR)))
  | succ d ih =>
    intro i hi h0 acc b hl hb hbK hbf hpos
    obtain ⟨r, hr⟩ : ∃ r, r = n - 1 - i := ⟨_, rfl⟩
    have hr1 : n - 1 - (i - 1) = r + 1 := by omega
    have hri : n - 1 - (r + 1) = i - 1 := by omega
    rw [hr1] at hpos
    obtain ⟨d0, a1, a2, a3, a4⟩ := attained h.2 f0 rg h1 r (by omega) b hbK hpos
    rw [hri] at a4
    obtain ⟨m, m0, ⟨m1, m2, m3⟩, mmin⟩ := least_of (fun c => c ≠ b ∧ 1 ≤ (impl_paintFrom.P l n K (noc f0 rg) r c).2 ∧ dv l (i - 1) b + (impl_paintFrom.P l n K (noc f0 rg) r c).1 = (impl_paintFrom.P l n K (noc f0 rg) (r + 1) b).1) d0 ⟨a2, a3, a4⟩
    have hmK : m < K := by omega
    obtain ⟨out, o1, o2, o3⟩ := ih (i + 1) (by omega) (by omega) (acc ++ [(m : Int)]) m (by simp [hl]) (by rw [Nat.add_sub_cancel, rd_lt _ _ (by simp [hl])]; simp [hl]) hmK (fun q => by omega) (by rw [Nat.add_sub_cancel, ← hr]; exact m2)
    have relb := rel_row h.2 f0 rg h1 (r + 1) (by omega) b hbK (by
      by_cases q : i - 1 = 0
      · exact .inr (hbf q)
      · exact .inl (by omega))
    have hdb := h.2.2 (i - 1) b (by omega) hbK
    have eb : (spec_rwPaint.P l n K f0 rg (r + 1) b) = (impl_paintFrom.P l n K (noc f0 rg) (r + 1) b) := by
      rcases relb with ⟨z, -, -⟩ | ⟨-, z, -, -⟩
      · omega
      · exact z.symm
    have bb : 0 ≤ (impl_paintFrom.P l n K (noc f0 rg) (r + 1) b).1 ∧ (impl_paintFrom.P l n K (noc f0 rg) (r + 1) b).1 ≤ 1000 * ((r + 1 : Nat) + 1 : Int) := by
      rcases relb with ⟨z, -, -⟩ | ⟨-, -, z, -⟩
      · omega
      · exact z
    have hD1 : D1 l n K (noc f0 rg) (i - 1) b = (impl_paintFrom.P l n K (noc f0 rg) (r + 1) b).1 := by unfold D1; rw [hr1]
    have hE1 : E1 l n K f0 rg (i - 1) b = (impl_paintFrom.P l n K (noc f0 rg) (r + 1) b).1 := by unfold E1; rw [hr1, eb]
    have hwi : wrap64 ((i : Int) - 1) = ((i - 1 : Nat) : Int) := by rw [wsub1 (by omega)]; omega
    have dD1 : ∀ c, D1 l n K (noc f0 rg) i c = (impl_paintFrom.P l n K (noc f0 rg) r c).1 := fun c => by unfold D1; rw [← hr]
    have dD2 : ∀ c, D2 l n K (noc f0 rg) i c = (impl_paintFrom.P l n K (noc f0 rg) r c).2 := fun c => by unfold D2; rw [← hr]
    have dE1 : ∀ c, E1 l n K f0 rg i c = (spec_rwPaint.P l n K f0 rg r c).1 := fun c => by unfold E1; rw [← hr]
    refine ⟨out, o1, fun R hR => succ ?_, fun R hR => succ ?_⟩
    · simp only [impl_bestPaint.l1]
      rw [hwi, hb, h.1.1, hl, tab_len, tab_rlen _ _ _ (i - 1) (by omega), h.row (i - 1) (by omega), tab_rd _ _ _ (i - 1) b (by omega) hbK, dv_rd, h.row i (by omega), hD1, w64 (x := (impl_paintFrom.P l n K (noc f0 rg) (r + 1) b).1 - dv l (i - 1) b) (by omega) (by omega)]
      refine pos (by omega) (pos (by omega) (pos (by omega) (pos (by omega) (pos (by omega) (pos (by omega) (pos (by omega) (pos (by omega) (pos (by omega) ?_))))))))
      have key : ∀ c : Nat, c ≤ m → Ev (fun k => impl_bestPaint.l2 k l ring least total acc (tab n K (D1 l n K (noc f0 rg))) (tab n K (D2 l n K (noc f0 rg))) i b ((impl_paintFrom.P l n K (noc f0 rg) (r + 1) b).1 - dv l (i - 1) b) K xf K c) R := by
        refine down m ?_ ?_
        · refine succ ?_
          simp only [impl_bestPaint.l2]
          rw [tab_len, tab_len, tab_rlen _ _ _ i (by omega), tab_rlen _ _ _ i (by omega), tab_rd _ _ _ i m (by omega) hmK, tab_rd _ _ _ i m (by omega) hmK, dD1, dD2, wnat (i := i) (by omega)]
          exact pos (by omega) (neg (by omega) (pos (by omega) (pos (by omega) (pos (by omega) (pos (by omega) (pos (by omega) (pos (by omega) (pos (by omega) (pos (by omega) (pos (by omega) (o2 R hR)))))))))))
        · intro c hc ihc
          have hcn := mmin c hc
          refine succ ?_
          simp only [impl_bestPaint.l2]
          rw [tab_len, tab_len, tab_rlen _ _ _ i (by omega), tab_rlen _ _ _ i (by omega), tab_rd _ _ _ i c (by omega) (by omega), tab_rd _ _ _ i c (by omega) (by omega), dD1, dD2, wnat (i := c) (by omega)]
          refine pos (by omega) ?_
          by_cases q1 : (c : Int) = b
          · exact pos q1 ihc
          · refine neg q1 (pos (by omega) (pos (by omega) (pos (by omega) (pos (by omega) ?_))))
            by_cases q2 : (impl_paintFrom.P l n K (noc f0 rg) r c).2 > 0
            · refine pos q2 (pos (by omega) (pos (by omega) (neg (fun q3 => hcn ⟨by omega, by omega, by omega⟩) ihc)))
            · exact neg q2 ihc
      exact key 0 (by omega)
    · simp only [spec_rwBest.l1]
      rw [h.1.1, show rd_L1 l 0 = rd_L1 l ((0 : Nat) : Int) from rfl, h.row 0 (by omega)]
      refine pos (by omega) (pos (by omega) ?_)
      have key : ∀ c : Nat, c ≤ m → Ev (fun k => spec_rwBest.l2 k l rg best cnt acc f0 (tab n K (E1 l n K f0 rg)) (tab n K (E2 l n K f0 rg)) i K xf K c) R := by
        refine down m ?_ ?_
        · have relm := rel_row h.2 f0 rg h1 r (by omega) m hmK (.inl (by omega))
          have em : (spec_rwPaint.P l n K f0 rg r m).1 = (impl_paintFrom.P l n K (noc f0 rg) r m).1 ∧ (impl_paintFrom.P l n K (noc f0 rg) r m).1 ≤ 1000 * ((r : Int) + 1) ∧ 0 ≤ (impl_paintFrom.P l n K (noc f0 rg) r m).1 := by
            rcases relm with ⟨z, -, -⟩ | ⟨-, z, z2, -⟩
            · omega
            · exact ⟨by rw [z], z2.2, z2.1⟩
          refine succ ?_
          simp only [spec_rwBest.l2]
          rw [hwi, hb, hl, tab_len, h.1.1, tab_rlen _ _ _ i (by omega), tab_rd _ _ _ i m (by omega) hmK, dE1, em.1, h.row (i - 1) (by omega), tab_rlen _ _ _ (i - 1) (by omega), dv_rd, tab_rd _ _ _ (i - 1) b (by omega) hbK, hE1, wnat (i := i) (by omega), w64 (x := dv l (i - 1) b + (impl_paintFrom.P l n K (noc f0 rg) r m).1) (by omega) (by omega)]
          exact pos (by omega) (pos (by omega) (pos (by omega) (neg (by omega) (pos (by omega) (pos (by omega) (pos (by omega) (pos (by omega) (neg (by omega) (pos (by omega) (pos (by omega) (pos (by omega) (pos (by omega) (pos (by omega) (pos m3 (pos (by omega) (o3 R hR))))))))))))))))
        · intro c hc ihc
          have hcn := mmin c hc
          have relc := rel_row h.2 f0 rg h1 r (by omega) c (by omega) (.inl (by omega))
          refine succ ?_
          simp only [spec_rwBest.l2]
          rw [hwi, hb, hl, tab_len, h.1.1, tab_rlen _ _ _ i (by omega), tab_rd _ _ _ i c (by omega) (by omega), dE1, h.row (i - 1) (by omega), tab_rlen _ _ _ (i - 1) (by omega), dv_rd, tab_rd _ _ _ (i - 1) b (by omega) hbK, hE1, wnat (i := c) (by omega)]
          refine pos (by omega) (pos (by omega) (pos (by omega) ?_))
          by_cases q1 : (c : Int) = b
          · exact pos q1 ihc
          · refine neg q1 (pos (by omega) (pos (by omega) (pos (by omega) (pos (by omega) ?_))))
            rcases relc with ⟨-, z, -⟩ | ⟨z1, z, z2, -⟩
            · exact pos z ihc
            · rw [← z]
              rw [w64 (x := dv l (i - 1) b + (impl_paintFrom.P l n K (noc f0 rg) r c).1) (by omega) (by omega)]
              refine neg (by omega) (pos (by omega) (pos (by omega) (pos (by omega) (pos (by omega) (pos (by omega) (neg (fun q3 => hcn ⟨by omega, z1, q3⟩) ihc))))))
      exact key 0 (by omega)
/-- What both sides have gathered after some first colours. -/
def InvO (n f : Nat) (s t : Int × Int × List Int) : Prop :=
  (s = (0, 0, []) ∧ t = (1000000, 0, [])) ∨ (1 ≤ s.2.1 ∧ s = t ∧ (0 ≤ s.1 ∧ s.1 ≤ 20000) ∧ s.2.1 ≤ 95367431640625 * (f : Int) ∧ s.2.2.length = n)
theorem outer {l : List (List Int)} {n K : Nat} (h : Cst l n K) (ring rg : Bool) (hrg : rg = (ring && decide (2 < n))) : ∀ f : Nat, f ≤ K → ∀ s t : Int × Int × List Int, InvO n f s t → ∃ s' t' : Int × Int × List Int, InvO n K s' t' ∧
    Ev (fun k => impl_bestPaint.l0 k l ring s.1 s.2.1 s.2.2 K f) (s'.1, s'.2.2, s'.2.1, decide (s'.2.1 > 0)) ∧ Ev (fun k => spec_rwBest.l0 k l rg t.1 t.2.1 t.2.2 K f) (t'.1, t'.2.2, t'.2.1) := by
  have hn := h.2.1.1
  have hK := h.2.1.2
  have h1 : n = 1 → rg = false := fun e => by rw [hrg, e]; simp
  refine down K ?_ ?_
  · intro s t hi
    refine ⟨s, t, hi, succ ?_, succ ?_⟩
    · simp only [impl_bestPaint.l0]
      exact neg (by omega) (now _)
    · simp only [spec_rwBest.l0]
      exact neg (by omega) (now _)
  · intro f hf ih s t hi
    have rel := rel_row h.2 f rg h1 (n - 1) (by omega) f hf (.inr rfl)
    have hp5 := pow5 (n - 1) (by omega)
    obtain ⟨a, ha⟩ : ∃ a, a = impl_paintFrom.P l n K (noc f rg) (n - 1) f := ⟨_, rfl⟩
    obtain ⟨b, hb⟩ : ∃ b, b = spec_rwPaint.P l n K f rg (n - 1) f := ⟨_, rfl⟩
    rw [← ha, ← hb] at rel
    have hD1 : D1 l n K (noc f rg) 0 f = a.1 := by rw [ha]; rfl
    have hD2 : D2 l n K (noc f rg) 0 f = a.2 := by rw [ha]; rfl
    have hE1 : E1 l n K f rg 0 f = b.1 := by rw [hb]; rfl
    have hE2 : E2 l n K f rg 0 f = b.2 := by rw [hb]; rfl
    -- the program's round, up to the tables
    have pre : ∀ R, Ev (fun k => if a.2 = 0 then impl_bestPaint.j2 k l ring s.1 s.2.1 s.2.2 f (tab n K (D1 l n K (noc f rg))) (tab n K (D2 l n K (noc f rg))) K f true else if s.2.1 > 0 then impl_bestPaint.j2 k l ring s.1 s.2.1 s.2.2 f (tab n K (D1 l n K (noc f rg))) (tab n K (D2 l n K (noc f rg))) K f (decide (a.1 > s.1)) else impl_bestPaint.j2 k l ring s.1 s.2.1 s.2.2 f (tab n K (D1 l n K (noc f rg))) (tab n K (D2 l n K (noc f rg))) K f false) R → Ev (fun k => impl_bestPaint.l0 k l ring s.1 s.2.1 s.2.2 K f) R := by
      intro R hR
      have mid : Ev (fun k => impl_bestPaint.j1 k l ring s.1 s.2.1 s.2.2 f (noc f rg) K f) R := by
        refine succ ?_
        simp only [impl_bestPaint.j1]
        refine bind (paintFrom_some h _) ?_
        rw [tab_len, tab_len, show (0 : Int) = ((0 : Nat) : Int) from rfl, tab_rlen _ _ _ 0 (by omega), tab_rlen _ _ _ 0 (by omega), tab_rd _ _ _ 0 f (by omega) hf, tab_rd _ _ _ 0 f (by omega) hf, hD1, hD2]
        refine pos (by omega) (pos (by omega) (pos (by omega) ?_))
        by_cases q : a.2 = 0
        · simp only [if_pos q] at hR
          exact pos q hR
        · simp only [if_neg q] at hR
          refine neg q ?_
          by_cases q2 : s.2.1 > 0
          · simp only [if_pos q2] at hR
            exact pos q2 (pos (by omega) (pos (by omega) hR))
          · simp only [if_neg q2] at hR
            exact neg q2 hR
      refine succ ?_
      simp only [impl_bestPaint.l0]
      rw [h.1.1, isRing_f, ← hrg]
      refine pos (by omega) (bindSome rfl ?_)
      cases rg with
      | true => exact pos rfl mid
      | false => exact neg (by simp) mid
    -- the reference's
    have pre2 : ∀ R, Ev (fun k => if b.1 = 1000000 then spec_rwBest.j1 k l rg t.1 t.2.1 t.2.2 f (tab n K (E1 l n K f rg)) (tab n K (E2 l n K f rg)) K f true else spec_rwBest.j1 k l rg t.1 t.2.1 t.2.2 f (tab n K (E1 l n K f rg)) (tab n K (E2 l n K f rg)) K f (decide (b.1 > t.1))) R → Ev (fun k => spec_rwBest.l0 k l rg t.1 t.2.1 t.2.2 K f) R := by
      intro R hR
      refine succ ?_
      simp only [spec_rwBest.l0]
      refine pos (by omega) (bind (rwPaint_some h f rg) ?_)
      rw [tab_len, show (0 : Int) = ((0 : Nat) : Int) from rfl, tab_rlen _ _ _ 0 (by omega), tab_rd _ _ _ 0 f (by omega) hf, hE1]
      refine pos (by omega) (pos (by omega) (pos (by omega) ?_))
      by_cases q : b.1 = 1000000
      · simp only [if_pos q] at hR
        exact pos q hR
      · simp only [if_neg q] at hR
        exact neg q hR
    have skip1 : ∀ R, Ev (fun k => impl_bestPaint.l0 k l ring s.1 s.2.1 s.2.2 K ((f + 1 : Nat) : Int)) R → Ev (fun k => impl_bestPaint.j2 k l ring s.1 s.2.1 s.2.2 f (tab n K (D1 l n K (noc f rg))) (tab n K (D2 l n K (noc f rg))) K f true) R := fun R hR => by
      refine succ ?_
      simp only [impl_bestPaint.j2]
      rw [wnat (by omega)]
      exact pos trivial hR
    have skip2 : ∀ R, Ev (fun k => spec_rwBest.l0 k l rg t.1 t.2.1 t.2.2 K ((f + 1 : Nat) : Int)) R → Ev (fun k => spec_rwBest.j1 k l rg t.1 t.2.1 t.2.2 f (tab n K (E1 l n K f rg)) (tab n K (E2 l n K f rg)) K f true) R := fun R hR => by
      refine succ ?_
      simp only [spec_rwBest.j1]
      rw [wnat (by omega)]
      exact pos trivial hR
    rcases rel with ⟨r1, r2, -⟩ | ⟨r1, r2, r3, r4⟩
    · obtain ⟨s', t', q1, q2, q3⟩ := ih s t (by
        rcases hi with z | ⟨z1, z2, z3, z4, z5⟩
        · exact .inl z
        · exact .inr ⟨z1, z2, z3, by omega, z5⟩)
      refine ⟨s', t', q1, pre _ ?_, pre2 _ ?_⟩
      · simp only [if_pos r1]
        exact skip1 _ q2
      · simp only [if_pos r2]
        exact skip2 _ q3
    · subst r2
      have a20 : a.1 ≤ 20000 := by omega
      have na2 : ¬ a.2 = 0 := by omega
      have na1 : ¬ a.1 = 1000000 := by omega
      obtain ⟨out, o1, o2, o3⟩ := chain h f hf rg ring h1 a.1 a.2 a.1 0 f (n - 1) 1 (by omega) (by omega) [(f : Int)] f rfl rfl hf (fun _ => rfl) (by show 1 ≤ (impl_paintFrom.P l n K (noc f rg) (n - 1 - 0) f).2; rw [Nat.sub_zero, ← ha]; exact r1)
      rw [hE2, Int.zero_add, w64 (by omega) (by omega)] at o3
      rw [wnat (by omega)] at o2 o3
      -- a new best
      have new1 : ∀ R, Ev (fun k => impl_bestPaint.l0 k l ring a.1 a.2 out K ((f + 1 : Nat) : Int)) R → Ev (fun k => impl_bestPaint.j3 k l ring s.1 s.2.1 s.2.2 f (tab n K (D1 l n K (noc f rg))) (tab n K (D2 l n K (noc f rg))) K f false) R := fun R hR => by
        refine succ ?_
        simp only [impl_bestPaint.j3]
        rw [tab_len, tab_len, show (0 : Int) = ((0 : Nat) : Int) from rfl, tab_rlen _ _ _ 0 (by omega), tab_rlen _ _ _ 0 (by omega), tab_rd _ _ _ 0 f (by omega) hf, tab_rd _ _ _ 0 f (by omega) hf, hD1, hD2]
        exact neg (by simp) (pos (by omega) (pos (by omega) (pos (by omega) (pos (by omega) (pos (by omega) (o2 R hR))))))
      have new2 : a.1 < t.1 → ∀ R, Ev (fun k => spec_rwBest.l0 k l rg a.1 a.2 out K ((f + 1 : Nat) : Int)) R → Ev (fun k => spec_rwBest.j1 k l rg t.1 t.2.1 t.2.2 f (tab n K (E1 l n K f rg)) (tab n K (E2 l n K f rg)) K f false) R := fun hlt R hR => by
        refine succ ?_
        simp only [spec_rwBest.j1]
        rw [tab_len, show (0 : Int) = ((0 : Nat) : Int) from rfl, tab_rlen _ _ _ 0 (by omega), tab_rd _ _ _ 0 f (by omega) hf, hE1]
        exact neg (by simp) (pos (by omega) (pos (by omega) (pos (by omega) (pos hlt (o3 R hR)))))
      have take1 : ∀ R, ¬ s.2.1 > 0 ∨ a.1 < s.1 → Ev (fun k => impl_bestPaint.l0 k l ring a.1 a.2 out K ((f + 1 : Nat) : Int)) R → Ev (fun k => impl_bestPaint.j2 k l ring s.1 s.2.1 s.2.2 f (tab n K (D1 l n K (noc f rg))) (tab n K (D2 l n K (noc f rg))) K f false) R := fun R hor hR => by
        refine succ ?_
        simp only [impl_bestPaint.j2]
        refine neg (by simp) ?_
        by_cases q2 : s.2.1 > 0
        · rw [tab_len, show (0 : Int) = ((0 : Nat) : Int) from rfl, tab_rlen _ _ _ 0 (by omega), tab_rd _ _ _ 0 f (by omega) hf, hD1]
          have e : (a.1 == s.1) = false := by rw [beq_eq_false_iff_ne]; omega
          rw [e]
          exact pos q2 (pos (by omega) (pos (by omega) (pos (by omega) (new1 R hR))))
        · exact neg q2 (new1 R hR)
      rcases hi with ⟨z1, z2⟩ | ⟨z1, z2, z3, z4, z5⟩
      · subst z1 z2
        obtain ⟨s', t', q1, q2, q3⟩ := ih (a.1, a.2, out) (a.1, a.2, out) (.inr ⟨r1, rfl, ⟨r3.1, a20⟩, by dsimp only; omega, o1⟩)
        refine ⟨s', t', q1, pre _ ?_, pre2 _ ?_⟩
        · simp only [if_neg na2]
          exact neg (by simp) (take1 _ (.inl (by simp)) q2)
        · simp only [if_neg na1]
          rw [show decide (a.1 > ((1000000, 0, []) : Int × Int × List Int).1) = false from decide_eq_false (by show ¬ a.1 > 1000000; omega)]
          exact new2 (by show a.1 < 1000000; omega) _ q3
      · subst z2
        have hs0 : s.2.1 > 0 := by omega
        by_cases c1 : a.1 > s.1
        · obtain ⟨s', t', q1, q2, q3⟩ := ih s s (.inr ⟨z1, rfl, z3, by omega, z5⟩)
          refine ⟨s', t', q1, pre _ ?_, pre2 _ ?_⟩
          · simp only [if_neg na2, if_pos hs0]
            rw [decide_eq_true c1]
            exact skip1 _ q2
          · simp only [if_neg na1]
            rw [decide_eq_true c1]
            exact skip2 _ q3
        · by_cases c2 : a.1 = s.1
          · obtain ⟨s', t', q1, q2, q3⟩ := ih (s.1, s.2.1 + a.2, s.2.2) (s.1, s.2.1 + a.2, s.2.2) (.inr ⟨by dsimp only; omega, rfl, z3, by dsimp only; omega, z5⟩)
            refine ⟨s', t', q1, pre _ ?_, pre2 _ ?_⟩
            · simp only [if_neg na2, if_pos hs0]
              rw [decide_eq_false c1]
              refine succ ?_
              simp only [impl_bestPaint.j2]
              rw [tab_len, show (0 : Int) = ((0 : Nat) : Int) from rfl, tab_rlen _ _ _ 0 (by omega), tab_rd _ _ _ 0 f (by omega) hf, hD1]
              have e : (a.1 == s.1) = true := by rw [beq_iff_eq]; exact c2
              rw [e]
              refine neg (by simp) (pos hs0 (pos (by omega) (pos (by omega) (pos (by omega) (succ ?_)))))
              simp only [impl_bestPaint.j3]
              rw [tab_len, tab_len, show (0 : Int) = ((0 : Nat) : Int) from rfl, tab_rlen _ _ _ 0 (by omega), tab_rlen _ _ _ 0 (by omega), tab_rd _ _ _ 0 f (by omega) hf, tab_rd _ _ _ 0 f (by omega) hf, hD1, hD2, w64 (x := s.2.1 + a.2) (by omega) (by omega), wnat (by omega)]
              exact pos trivial (pos (by omega) (pos (by omega) (pos (by omega) q2)))
            · simp only [if_neg na1]
              rw [decide_eq_false c1]
              refine succ ?_
              simp only [spec_rwBest.j1]
              rw [tab_len, tab_len, show (0 : Int) = ((0 : Nat) : Int) from rfl, tab_rlen _ _ _ 0 (by omega), tab_rlen _ _ _ 0 (by omega), tab_rd _ _ _ 0 f (by omega) hf, tab_rd _ _ _ 0 f (by omega) hf, hE1, hE2, w64 (x := s.2.1 + a.2) (by omega) (by omega), wnat (by omega)]
              exact neg (by simp) (pos (by omega) (pos (by omega) (pos (by omega) (neg (by omega) (pos (by omega) (pos (by omega) q3))))))
          · obtain ⟨s', t', q1, q2, q3⟩ := ih (a.1, a.2, out) (a.1, a.2, out) (.inr ⟨r1, rfl, ⟨r3.1, a20⟩, by dsimp only; omega, o1⟩)
            refine ⟨s', t', q1, pre _ ?_, pre2 _ ?_⟩
            · simp only [if_neg na2, if_pos hs0]
              rw [decide_eq_false c1]
              exact take1 _ (.inr (by omega)) q2
            · simp only [if_neg na1]
              rw [decide_eq_false c1]
              exact new2 (by omega) _ q3
/-- Both sides' best paintings. -/
theorem best_both {l : List (List Int)} (h : Costs l) (ring : Bool) : ∃ s t : Int × Int × List Int, InvO l.length (l.getD 0 []).length s t ∧ Ev (fun k => impl_bestPaint.f k l ring) (s.1, s.2.2, s.2.1, decide (s.2.1 > 0)) ∧ Ev (fun k => spec_rwBest.f k l ring) (t.1, t.2.2, t.2.1) := by
  have hc := costs_cst h
  have hn := hc.2.1.1
  obtain ⟨s, t, h1, h2, h3⟩ := outer hc ring (ring && decide (2 < l.length)) rfl 0 (by omega) (0, 0, []) (1000000, 0, []) (.inl ⟨rfl, rfl⟩)
  refine ⟨s, t, h1, ?_, ?_⟩
  · unfold impl_bestPaint.f
    exact pos (by omega) h2
  · unfold spec_rwBest.f
    rw [rwRing_f]
    exact bindSome rfl (pos (by omega) h3)

/-- What a marked row holds: 1, 2, .. -/
def marked (n : Nat) : List Int := (List.range n).map fun (j : Nat) => (j : Int) + 1
theorem markIntS_l0 (n : Nat) (hn : n ≤ 35184372088832) : ∀ i : Nat, i ≤ n → ∀ ys : List Int, ys.length = n → (∀ j : Nat, j < i → ys.getD j 0 = (j : Int) + 1) → Ev (fun k => laws_markIntS.l0 k ys ((i : Int) + 1) i) ((n : Int) + 1, marked n) := by
  refine down n ?_ ?_
  · intro ys hl hy
    refine succ ?_
    simp only [laws_markIntS.l0]
    refine neg (by omega) (conv (now _) ?_)
    congr 1
    refine List.ext_getElem (by simp [marked, hl]) (fun j h1 h2 => ?_)
    have := hy j (by omega)
    simp only [marked, List.getElem_map, List.getElem_range]
    simpa [h1] using this
  · intro i hi ih ys hl hy
    refine succ ?_
    simp only [laws_markIntS.l0]
    rw [wnat (by omega), w64 (x := (i : Int) + 1 + 1) (by omega) (by omega), show (i : Int) + 1 + 1 = ((i + 1 : Nat) : Int) + 1 by omega]
    refine pos (by omega) (pos (by omega) ?_)
    refine ih _ (by simp [hl]) (fun j hj => ?_)
    simp only [Int.toNat_natCast]
    by_cases e : j = i
    · subst e
      simp [hl, hi]
    · rw [List.getD_eq_getElem?_getD, List.getElem?_set_ne (Ne.symm e), ← List.getD_eq_getElem?_getD]
      exact hy j (by omega)
theorem markIntS_f (xs : List Int) (hn : xs.length ≤ 35184372088832) : Ev (fun k => laws_markIntS.f k xs 1) ((xs.length : Int) + 1, marked xs.length) := by
  unfold laws_markIntS.f
  exact markIntS_l0 xs.length hn 0 (by omega) xs rfl (fun j hj => by omega)
theorem marked_rd (n i : Nat) (h : i < n) : rd (marked n) (i : Int) = (i : Int) + 1 := by
  rw [rd_lt _ _ (by simpa [marked] using h)]
  simp [marked]
theorem heldIntS_l0 (n : Nat) (hn : n ≤ 35184372088832) : ∀ i : Nat, i ≤ n → Ev (fun k => laws_heldIntS.l0 k (marked n) ((i : Int) + 1) i) ((n : Int) + 1) := by
  have hl : (marked n).length = n := by simp [marked]
  refine down n ?_ ?_
  · refine succ ?_
    simp only [laws_heldIntS.l0]
    exact neg (by omega) (now _)
  · intro i hi ih
    refine succ ?_
    simp only [laws_heldIntS.l0]
    rw [wnat (by omega), w64 (x := (i : Int) + 1 + 1) (by omega) (by omega), show (i : Int) + 1 + 1 = ((i + 1 : Nat) : Int) + 1 by omega]
    exact pos (by omega) (pos (by omega) (pos (marked_rd n i hi) ih))
theorem heldIntS_f (n : Nat) (hn : n ≤ 35184372088832) : Ev (fun k => laws_heldIntS.f k (marked n) 1) ((n : Int) + 1) := by
  unfold laws_heldIntS.f
  exact heldIntS_l0 n hn 0 (by omega)

/-- What a marked row holds: v, v + 1, .. -/
def markedV (v : Int) (n : Nat) : List Int := (List.range n).map fun (j : Nat) => (j : Int) + v
theorem markV_l0 (v : Int) (hv : 0 ≤ v ∧ v ≤ 35184372088832) (n : Nat) (hn : n ≤ 35184372088832) : ∀ i : Nat, i ≤ n → ∀ ys : List Int, ys.length = n → (∀ j : Nat, j < i → ys.getD j 0 = (j : Int) + v) → Ev (fun k => laws_markIntS.l0 k ys ((i : Int) + v) i) ((n : Int) + v, markedV v n) := by
  refine down n ?_ ?_
  · intro ys hl hy
    refine succ ?_
    simp only [laws_markIntS.l0]
    refine neg (by omega) (conv (now _) ?_)
    congr 1
    refine List.ext_getElem (by simp [markedV, hl]) (fun j h1 h2 => ?_)
    have := hy j (by omega)
    simp only [markedV, List.getElem_map, List.getElem_range]
    simpa [h1] using this
  · intro i hi ih ys hl hy
    refine succ ?_
    simp only [laws_markIntS.l0]
    rw [wnat (by omega), w64 (x := (i : Int) + v + 1) (by omega) (by omega), show (i : Int) + v + 1 = ((i + 1 : Nat) : Int) + v by omega]
    refine pos (by omega) (pos (by omega) ?_)
    refine ih _ (by simp [hl]) (fun j hj => ?_)
    simp only [Int.toNat_natCast]
    by_cases e : j = i
    · subst e
      simp [hl, hi]
    · rw [List.getD_eq_getElem?_getD, List.getElem?_set_ne (Ne.symm e), ← List.getD_eq_getElem?_getD]
      exact hy j (by omega)
theorem markV_f (xs : List Int) (v : Int) (hv : 0 ≤ v ∧ v ≤ 35184372088832) (hn : xs.length ≤ 35184372088832) : Ev (fun k => laws_markIntS.f k xs v) ((xs.length : Int) + v, markedV v xs.length) := by
  unfold laws_markIntS.f
  have z := markV_l0 v hv xs.length hn 0 (by omega) xs rfl (fun j hj => by omega)
  rw [show ((0 : Nat) : Int) + v = v by omega] at z
  exact z
theorem markedV_rd (v : Int) (n i : Nat) (h : i < n) : rd (markedV v n) (i : Int) = (i : Int) + v := by
  rw [rd_lt _ _ (by simpa [markedV] using h)]
  simp [markedV]
theorem heldV_f (v : Int) (hv : 0 ≤ v ∧ v ≤ 35184372088832) (n : Nat) (hn : n ≤ 35184372088832) : Ev (fun k => laws_heldIntS.f k (markedV v n) v) ((n : Int) + v) := by
  have hl : (markedV v n).length = n := by simp [markedV]
  have key : ∀ i : Nat, i ≤ n → Ev (fun k => laws_heldIntS.l0 k (markedV v n) ((i : Int) + v) i) ((n : Int) + v) := by
    refine down n ?_ ?_
    · refine succ ?_
      simp only [laws_heldIntS.l0]
      exact neg (by omega) (now _)
    · intro i hi ih
      refine succ ?_
      simp only [laws_heldIntS.l0]
      rw [wnat (by omega), w64 (x := (i : Int) + v + 1) (by omega) (by omega), show (i : Int) + v + 1 = ((i + 1 : Nat) : Int) + v by omega]
      exact pos (by omega) (pos (by omega) (pos (markedV_rd v n i hi) ih))
  unfold laws_heldIntS.f
  have z := key 0 (by omega)
  rw [show ((0 : Nat) : Int) + v = v by omega] at z
  exact z

theorem marksSS : ∀ (l : List (List Int)), (∀ x ∈ l, x.length ≤ 1048576) → ∀ v : Int, 0 ≤ v → v + 1048576 * (l.length : Int) ≤ 35184372088832 → ∃ r, 0 ≤ r ∧ Ev (fun k => laws_markIntSS.m k l v) r
  | [], _, v, hv, _ => ⟨v, hv, now _⟩
  | x :: t, hx, v, hv, hs => by
    have h1 := hx x (List.mem_cons_self ..)
    rw [List.length_cons] at hs
    obtain ⟨r, h2, h3⟩ := marksSS t (fun y hy => hx y (List.mem_cons_of_mem _ hy)) ((x.length : Int) + v) (by omega) (by omega)
    exact ⟨r, h2, bind (markV_f x v (by omega) (by omega)) h3⟩
theorem both_same (l : List (List Int)) (ring : Bool) (hz : l.length ≤ 1048576) (hb : Lens l) : ∃ v : List Int × Bool, v.1.length ≤ 1048576 ∧ Ev (fun k => spec_FirstPaint.f k l ring) v ∧ Ev (fun k => impl_FirstPaint.f k l ring) v := by
  unfold spec_FirstPaint.f impl_FirstPaint.f
  by_cases c : Costs l
  · obtain ⟨s, t, hi, h1, h2⟩ := best_both c ring
    rcases hi with ⟨z1, z2⟩ | ⟨z1, z2, z3, z4, z5⟩
    · subst z1 z2
      exact ⟨([], false), by simp, bind (rwGood_f l hz hb) (pos (by simpa using c) (bind h2 (pos rfl (now _)))), bind (areCosts_f l) (pos (by simpa using c) (bind h1 (now _)))⟩
    · subst z2
      refine ⟨(s.2.2, true), by rw [z5]; exact hz, bind (rwGood_f l hz hb) (pos (by simpa using c) (bind h2 (neg (by dsimp only; omega) (now _)))), bind (areCosts_f l) (pos (by simpa using c) (bind h1 (conv (now _) ?_)))⟩
      dsimp only
      rw [decide_eq_true (by omega)]
  · exact ⟨([], false), by simp, bind (rwGood_f l hz hb) (neg (by simpa using c) (now _)), bind (areCosts_f l) (neg (by simpa using c) (now _))⟩
theorem FnExactFirstPaint : laws_FnExactFirstPaint.Pure := by
  intro l ring hl hw
  refine Ev.rounds ?_
  unfold laws_FnExactFirstPaint.f
  obtain ⟨v, hv, hn⟩ := szIntSS_f l hl (fun x hx => (hw x hx).1)
  refine bind hv ?_
  by_cases c : v < 0
  · exact pos c (now _)
  obtain ⟨hz, hb⟩ := hn c
  obtain ⟨r, hr, h1, h2⟩ := both_same l ring hz hb
  obtain ⟨q, hq, h3⟩ := marksSS l hb 1 (by omega) (by omega)
  have hvl : r.1.length ≤ 35184372088832 := by omega
  refine neg c (bind (toIntSS_f l hz hb) (bind h1 (bind (toIntSS_f l hz hb) (bind h2 (bind (eqIntS_same _ hvl) (pos rfl (succ ?_)))))))
  simp only [laws_FnExactFirstPaint.j0]
  refine neg (by simp) (bind (toIntSS_f l hz hb) (bind (eqIntSS_same l hz hb) (pos rfl (bind (show Ev (fun k => laws_markIntSS.f k l 1) q from h3) (neg (by omega) (bind (eqIntS_same _ hvl) (pos rfl (succ ?_))))))))
  simp only [laws_FnExactFirstPaint.j1]
  refine neg (by simp) (bind (markIntS_f r.1 hvl) (bind (heldIntS_f _ hvl) (neg (by omega) (pos rfl (bind (toIntSS_f l hz hb) (bind h2 (bind (eqIntS_same _ hvl) (pos rfl (succ ?_)))))))))
  simp only [laws_FnExactFirstPaint.j2]
  exact neg (by simp) (bind (heldIntS_f _ hvl) (neg (by omega) (pos rfl (now _))))

end Go.Proofs.Ytknookofgnandaa.Pure
