/- No boxes, as many, have a lesser sum of walks than the first boxes: the table's least sums are attained, and no chain of boxes lies below them. -/
import Derived.Test.YtgpnnepagfnfgaaMBx8
import Derived.Test.YtgpnnepagfnfgaaLib
namespace Go.Proofs.Ytgpnnepagfnfgaa.Pure
open Go.RowKit Go.Proofs.Ytgpnnepagfnfgaa.MB Go.Proofs.YtgpnnepagfnfgaaW.PrintWords Go.Proofs.YtgpnnepagfnfgaaW.PrintLast Go.Proofs.YtgpnnepagfnfgaaW.PrintMore Go.Proofs.Ytgpnnepagfnfgaa.Lib
set_option linter.unusedVariables false
set_option linter.unusedSimpArgs false

theorem spec_in (a b c : Int) : spec_l1In.f a b c = some (decide (b ≤ a ∧ a ≤ c)) := by
  unfold spec_l1In.f
  by_cases h : a ≥ b
  · rw [if_pos h]; simp [show b ≤ a from h]
  · rw [if_neg h]; simp [show ¬ b ≤ a from h]
theorem impl_in (a b c : Int) : impl_within.f a b c = some (decide (b ≤ a ∧ a ≤ c)) := by
  unfold impl_within.f
  by_cases h : a ≥ b
  · rw [if_pos h]; simp [show b ≤ a from h]
  · rw [if_neg h]; simp [show ¬ b ≤ a from h]

theorem toIntS_l0 (xs : List Int) (hx : xs.length ≤ 35184372088832) : ∀ i : Nat, i ≤ xs.length → ∀ ys : List Int, ys.length = xs.length → (∀ j : Nat, j < i → ys.getD j 0 = xs.getD j 0) → Ev (fun k => laws_toIntS.l0 k xs ys i) xs := by
  refine down xs.length ?_ ?_
  · intro ys hl hy
    refine succ ?_
    simp only [laws_toIntS.l0]
    refine neg (by omega) (conv (now _) ?_)
    refine List.ext_getElem hl (fun j h1 h2 => ?_)
    have := hy j h2
    simpa [h1, h2] using this
  · intro i hi ih ys hl hy
    refine succ ?_
    simp only [laws_toIntS.l0]
    rw [wnat (by omega)]
    refine pos (by omega) (pos (by omega) (pos (by omega) ?_))
    refine ih _ (by simp [hl]) (fun j hj => ?_)
    simp only [Int.toNat_natCast, rd_nat]
    by_cases e : j = i
    · subst e
      simp [hl, hi]
    · rw [List.getD_eq_getElem?_getD, List.getElem?_set_ne (Ne.symm e), ← List.getD_eq_getElem?_getD]
      exact hy j (by omega)
theorem toIntS_f (xs : List Int) (hx : xs.length ≤ 35184372088832) : Ev (fun k => laws_toIntS.f k xs) xs := by
  unfold laws_toIntS.f
  refine pos (by omega) (pos (by omega) ?_)
  exact toIntS_l0 xs hx 0 (by omega) _ (by simp) (fun j hj => by omega)
theorem eqIntS_l0 (xs ys : List Int) (hx : xs.length ≤ 35184372088832) (hl : xs.length = ys.length) : ∀ i : Nat, i ≤ xs.length → Ev (fun k => laws_eqIntS.l0 k xs ys i) (decide (xs.drop i = ys.drop i)) := by
  refine down xs.length ?_ ?_
  · refine succ ?_
    simp only [laws_eqIntS.l0]
    exact neg (by omega) (conv (now _) (by simp [hl]))
  · intro i hi ih
    refine succ ?_
    simp only [laws_eqIntS.l0]
    rw [wnat (by omega)]
    refine pos (by omega) (pos (by omega) (pos (by omega) ?_))
    rw [rd_lt xs i hi, rd_lt ys i (by omega)]
    by_cases e : xs[i] = ys[i]'(by omega)
    · exact pos e (conv ih (by rw [decide_eq_decide, drop_iff hi (by omega)]; exact ⟨fun h => ⟨e, h⟩, fun h => h.2⟩))
    · exact neg e (conv (now _) (Eq.symm (decide_eq_false (by rw [drop_iff hi (by omega)]; exact fun h => e h.1))))
theorem eqIntS_f (xs ys : List Int) (hx : xs.length ≤ 35184372088832) : Ev (fun k => laws_eqIntS.f k xs ys) (decide (xs = ys)) := by
  unfold laws_eqIntS.f
  by_cases e : xs.length = ys.length
  · exact pos (by omega) (conv (eqIntS_l0 xs ys hx e 0 (by omega)) (by simp))
  · exact neg (by omega) (conv (now _) (by simp; intro h; exact e (by rw [h])))
theorem eqIntS_same (xs : List Int) (hx : xs.length ≤ 35184372088832) : Ev (fun k => laws_eqIntS.f k xs xs) true := conv (eqIntS_f xs xs hx) (by simp)

theorem spec_l1All_l0 (xs : List Int) (a b : Int) (hx : xs.length ≤ 35184372088832) : ∀ i : Nat, i ≤ xs.length → Ev (fun k => spec_l1All.l0 k a b xs xs.length i) (decide (∀ x ∈ xs.drop i, a ≤ x ∧ x ≤ b)) := by
  refine down xs.length ?_ ?_
  · refine succ ?_
    simp only [spec_l1All.l0]
    exact neg (by omega) (conv (now _) (by simp))
  · intro i hi ih
    refine succ ?_
    simp only [spec_l1All.l0, spec_in, Option.bind_some]
    rw [wnat (by omega)]
    refine pos (by omega) (pos (by omega) (pos (by omega) ?_))
    rw [rd_lt xs i hi]
    by_cases e : a ≤ xs[i] ∧ xs[i] ≤ b
    · exact pos (by simpa using e) (conv ih (by rw [decide_eq_decide, all_drop hi]; exact ⟨fun h => ⟨e, h⟩, fun h => h.2⟩))
    · exact neg (by simpa using e) (conv (now _) (Eq.symm (decide_eq_false (by rw [all_drop hi]; exact fun h => e h.1))))
theorem spec_l1All_f (xs : List Int) (a b : Int) (hx : xs.length ≤ 35184372088832) : Ev (fun k => spec_l1All.f k xs a b) (decide (∀ x ∈ xs, a ≤ x ∧ x ≤ b)) :=
  spec_l1All_l0 xs a b hx 0 (by omega)

theorem impl_allWithin_l0 (xs : List Int) (a b : Int) (hx : xs.length ≤ 35184372088832) : ∀ i : Nat, i ≤ xs.length → Ev (fun k => impl_allWithin.l0 k a b xs xs.length i) (decide (∀ x ∈ xs.drop i, a ≤ x ∧ x ≤ b)) := by
  refine down xs.length ?_ ?_
  · refine succ ?_
    simp only [impl_allWithin.l0]
    exact neg (by omega) (conv (now _) (by simp))
  · intro i hi ih
    refine succ ?_
    simp only [impl_allWithin.l0, impl_in, Option.bind_some]
    rw [wnat (by omega)]
    refine pos (by omega) (pos (by omega) (pos (by omega) ?_))
    rw [rd_lt xs i hi]
    by_cases e : a ≤ xs[i] ∧ xs[i] ≤ b
    · exact pos (by simpa using e) (conv ih (by rw [decide_eq_decide, all_drop hi]; exact ⟨fun h => ⟨e, h⟩, fun h => h.2⟩))
    · exact neg (by simpa using e) (conv (now _) (Eq.symm (decide_eq_false (by rw [all_drop hi]; exact fun h => e h.1))))
theorem impl_allWithin_f (xs : List Int) (a b : Int) (hx : xs.length ≤ 35184372088832) : Ev (fun k => impl_allWithin.f k xs a b) (decide (∀ x ∈ xs, a ≤ x ∧ x ≤ b)) :=
  impl_allWithin_l0 xs a b hx 0 (by omega)

/-- What people hold. -/
def Q (vs : List Int) : Prop := (1 ≤ vs.length ∧ vs.length ≤ 60) ∧ ∀ i : Nat, 0 ≤ rd vs i ∧ rd vs i ≤ 1000
theorem q_of {vs : List Int} (h : 1 ≤ vs.length ∧ vs.length ≤ 60) (hv : ∀ x ∈ vs, 0 ≤ x ∧ x ≤ 1000) : Q vs := by
  refine ⟨h, fun i => ?_⟩
  by_cases c : i < vs.length
  · exact hv _ (rd_mem vs i c)
  · simp [rd, c]
theorem spec_sum_l0 {vs : List Int} (hv : Q vs) : ∀ i : Nat, i ≤ vs.length → ∀ s : Int, 0 ≤ s → s ≤ 1000 * i → Ev (fun k => spec_mdSum.l0 k s vs vs.length i) (s + (vs.drop i).sum) := by
  have hl := hv.1
  refine down vs.length ?_ ?_
  · intro s _ _
    refine succ ?_
    simp only [spec_mdSum.l0]
    exact neg (by omega) (conv (now _) (by simp))
  · intro i hi ih s h0 h1
    have hb := hv.2 i
    refine succ ?_
    simp only [spec_mdSum.l0]
    rw [wnat (by omega), w64 (by omega) (by omega)]
    refine pos (by omega) (pos (by omega) (pos (by omega) (conv (ih _ (by omega) (by omega)) ?_)))
    rw [List.drop_eq_getElem_cons hi, List.sum_cons, rd_lt vs i hi]
    omega
theorem impl_sum_l0 {vs : List Int} (hv : Q vs) : ∀ i : Nat, i ≤ vs.length → ∀ s : Int, 0 ≤ s → s ≤ 1000 * i → Ev (fun k => impl_sumOf.l0 k s vs vs.length i) (s + (vs.drop i).sum) := by
  have hl := hv.1
  refine down vs.length ?_ ?_
  · intro s _ _
    refine succ ?_
    simp only [impl_sumOf.l0]
    exact neg (by omega) (conv (now _) (by simp))
  · intro i hi ih s h0 h1
    have hb := hv.2 i
    refine succ ?_
    simp only [impl_sumOf.l0]
    rw [wnat (by omega), w64 (by omega) (by omega)]
    refine pos (by omega) (pos (by omega) (pos (by omega) (conv (ih _ (by omega) (by omega)) ?_)))
    rw [List.drop_eq_getElem_cons hi, List.sum_cons, rd_lt vs i hi]
    omega
/-- People. -/
def People (vs : List Int) : Prop := ((1 ≤ vs.length ∧ vs.length ≤ 60) ∧ ∀ x ∈ vs, 0 ≤ x ∧ x ≤ 1000) ∧ 0 < vs.sum
instance (vs : List Int) : Decidable (People vs) := by unfold People; infer_instance
theorem good_spec (vs : List Int) (hx : vs.length ≤ 35184372088832) : Ev (fun k => spec_mdGood.f k vs) (decide (People vs)) := by
  unfold spec_mdGood.f
  rw [spec_in]
  refine bind (now _) ?_
  by_cases c : 1 ≤ (vs.length : Int) ∧ (vs.length : Int) ≤ 60
  · refine pos (by simpa using c) (bind (spec_l1All_f vs 0 1000 hx) ?_)
    by_cases d : ∀ x ∈ vs, 0 ≤ x ∧ x ≤ 1000
    · refine pos (by simpa using d) ?_
      unfold spec_mdSum.f
      refine conv (bind (spec_sum_l0 (q_of (by omega) d) 0 (by omega) 0 (by omega) (by omega)) (now _)) ?_
      rw [decide_eq_decide]
      simp only [List.drop_zero]
      exact ⟨fun g => ⟨⟨by omega, d⟩, by omega⟩, fun g => by have := g.2; omega⟩
    · refine neg (by simpa using d) (conv (now _) (Eq.symm (decide_eq_false (fun g => d g.1.2))))
  · refine neg (by simpa using c) (conv (now _) (Eq.symm (decide_eq_false (fun g => c (by have := g.1.1; omega)))))
theorem good_impl (vs : List Int) (hx : vs.length ≤ 35184372088832) : Ev (fun k => impl_ArePeople.f k vs) (decide (People vs)) := by
  unfold impl_ArePeople.f
  rw [impl_in]
  refine bind (now _) ?_
  by_cases c : 1 ≤ (vs.length : Int) ∧ (vs.length : Int) ≤ 60
  · refine pos (by simpa using c) (bind (impl_allWithin_f vs 0 1000 hx) ?_)
    by_cases d : ∀ x ∈ vs, 0 ≤ x ∧ x ≤ 1000
    · refine pos (by simpa using d) ?_
      unfold impl_sumOf.f
      refine conv (bind (impl_sum_l0 (q_of (by omega) d) 0 (by omega) 0 (by omega) (by omega)) (now _)) ?_
      rw [decide_eq_decide]
      simp only [List.drop_zero]
      exact ⟨fun g => ⟨⟨by omega, d⟩, by omega⟩, fun g => by have := g.2; omega⟩
    · refine neg (by simpa using d) (conv (now _) (Eq.symm (decide_eq_false (fun g => d g.1.2))))
  · refine neg (by simpa using c) (conv (now _) (Eq.symm (decide_eq_false (fun g => c (by have := g.1.1; omega)))))
theorem people_q {vs : List Int} (h : People vs) : Q vs := q_of h.1.1 h.1.2
/-- The distance of two houses. -/
def dist (a b : Int) : Int := ((a - b).natAbs : Int)
theorem spec_most (a b : Int) : spec_l1Most.f a b = some (max a b) := by
  unfold spec_l1Most.f
  split <;> congr 1 <;> omega
theorem spec_absd (a b : Int) (h1 : -9223372036854775808 < a - b) (h2 : a - b ≤ 9223372036854775807) : spec_l1Abs.f (wrap64 (a - b)) = some (dist a b) := by
  unfold spec_l1Abs.f dist
  rw [w64 (x := a - b) (by omega) (by omega), w64 (by omega) (by omega), spec_most]
  simp only [Option.bind_some]
  congr 1; omega

theorem impl_absd (a b : Int) (h1 : -9223372036854775808 < a - b) (h2 : a - b ≤ 9223372036854775807) : impl_absOf.f (wrap64 (a - b)) = some (dist a b) := by
  unfold impl_absOf.f dist mx
  rw [w64 (x := a - b) (by omega) (by omega), w64 (by omega) (by omega)]
  congr 1; split <;> omega
theorem mx_max (a b : Int) : mx a b = max a b := by unfold mx; omega
theorem impl_absd' (a b : Int) (h1 : -9223372036854775808 < a - b) (h2 : a - b ≤ 9223372036854775807) : impl_absOf.f (wrap64 (a - b)) = some (dist b a) := by
  rw [impl_absd a b h1 h2]; unfold dist; congr 1; omega

open impl_firstBoxes (bw far T pick boxes iter Small)
theorem iter_snoc {σ : Type} (f : Nat → σ → σ) : ∀ (n i : Nat) (c : σ), iter f (n + 1) i c = f (i + n) (iter f n i c)
  | 0, i, c => rfl
  | n + 1, i, c => by
    show iter f (n + 1) (i + 1) (f i c) = _
    rw [iter_snoc f n (i + 1) (f i c)]
    show f (i + 1 + n) _ = f (i + (n + 1)) _
    rw [show i + 1 + n = i + (n + 1) by omega]
    rfl
theorem iter_rel {σ τ : Type} (R : Nat → σ → τ → Prop) (f : Nat → σ → σ) (g : Nat → τ → τ) : ∀ (n i : Nat) (c : σ) (c' : τ), (∀ j c c', i ≤ j → j < i + n → R j c c' → R (j + 1) (f j c) (g j c')) → R i c c' → R (i + n) (iter f n i c) (iter g n i c')
  | 0, _, _, _, _, h => h
  | n + 1, i, c, c', hs, h => by
    have z := iter_rel R f g n (i + 1) _ _ (fun j c c' h1 h2 => hs j c c' (by omega) (by omega)) (hs i c c' (Nat.le_refl _) (by omega) h)
    rw [show i + 1 + n = i + (n + 1) by omega] at z
    exact z
theorem iter_inv {σ : Type} (P : Nat → σ → Prop) (f : Nat → σ → σ) (n i : Nat) (c : σ) (hs : ∀ j c, i ≤ j → j < i + n → P j c → P (j + 1) (f j c)) (h : P i c) : P (i + n) (iter f n i c) :=
  iter_rel (fun j c _ => P j c) f f n i c c (fun j c _ h1 h2 => hs j c h1 h2) h
theorem iter_cong {σ : Type} (f g : Nat → σ → σ) (n i : Nat) (c : σ) (h : ∀ j c, i ≤ j → j < i + n → f j c = g j c) : iter f n i c = iter g n i c :=
  iter_rel (fun _ c c' => c = c') f g n i c c (fun j c c' h1 h2 e => by rw [e]; exact h j c' h1 h2) rfl
theorem iter_add {σ : Type} (f : Nat → σ → σ) (b : Nat) : ∀ (n i : Nat) (c : σ), iter f (n + b) i c = iter f b (i + n) (iter f n i c)
  | 0, i, c => by rw [Nat.zero_add]; rfl
  | n + 1, i, c => by
    rw [show n + 1 + b = (n + b) + 1 by omega]
    show iter f (n + b) (i + 1) (f i c) = iter f b (i + (n + 1)) (iter f n (i + 1) (f i c))
    rw [iter_add f b n (i + 1) _, show i + 1 + n = i + (n + 1) by omega]
theorem iter_plus (g : Nat → Int) : ∀ (n i : Nat) (c : Int), iter (fun h c => c + g h) n i c = c + iter (fun h c => c + g h) n i 0
  | 0, _, c => by show c = c + 0; omega
  | n + 1, i, c => by
    show iter (fun h c => c + g h) n (i + 1) (c + g i) = c + iter (fun h c => c + g h) n (i + 1) (0 + g i)
    rw [iter_plus g n (i + 1) (c + g i), iter_plus g n (i + 1) (0 + g i)]
    omega
/-- The reference's table. -/
def S (l : List Int) : Nat → Nat → Int
  | 0, b => bw l b (l.length : Int)
  | m + 1, b => iter (fun x c => min c (bw l b (x : Int) + S l m x)) (l.length - (b + 1)) (b + 1) 1000000000
/-- The reference's next box. -/
def pickS (l : List Int) (last : Int) (m : Nat) : Int × Int := iter (fun x (p : Int × Int) => if bw l last (x : Int) + S l m x < p.2 then ((x : Int), bw l last (x : Int) + S l m x) else p) (l.length - (last + 1).toNat) (last + 1).toNat (-1, 1000000000)
theorem bw_nat {l : List Int} (hS : Small l) {i : Int} (hi : -1 ≤ i) (x : Nat) (hx : x ≤ l.length) : 0 ≤ bw l i (x : Int) ∧ bw l i (x : Int) ≤ 3600000 := impl_firstBoxes.bw_small hS hi (by omega)
theorem TS {l : List Int} (hS : Small l) : ∀ (m : Nat), m ≤ 5 → ∀ b : Nat, b < l.length → (b + m < l.length → T l m b = S l m b ∧ 0 ≤ T l m b ∧ T l m b ≤ 3600000 * (m + 1 : Nat)) ∧ (l.length ≤ b + m → T l m b = 1099511627776 ∧ S l m b = 1000000000)
  | 0, _, b, hb => by
    refine ⟨fun _ => ?_, fun h => by omega⟩
    have z := bw_nat hS (i := (b : Int)) (by omega) l.length (Nat.le_refl _)
    refine ⟨rfl, ?_⟩
    show 0 ≤ bw l b (l.length : Int) ∧ bw l b (l.length : Int) ≤ 3600000 * (0 + 1 : Nat)
    omega
  | m + 1, hm, b, hb => by
    have z := iter_rel (fun j (c c' : Int) => (b + 1 < j ∧ b + 1 + m < l.length → c = c' ∧ 0 ≤ c ∧ c ≤ 3600000 * (m + 2 : Nat)) ∧ (¬ (b + 1 < j ∧ b + 1 + m < l.length) → c = 1099511627776 ∧ c' = 1000000000))
      (fun x c => min c (bw l b (x : Int) + T l m x)) (fun x c => min c (bw l b (x : Int) + S l m x)) (l.length - (b + 1)) (b + 1) 1099511627776 1000000000 (fun j c c' h1 h2 hc => by
        have hB := bw_nat hS (i := (b : Int)) (by omega) j (by omega)
        have hT := TS hS m (by omega) j (by omega)
        generalize bw l b (j : Int) = B at hB ⊢
        generalize T l m j = t at hT ⊢
        generalize S l m j = s at hT ⊢
        (try dsimp only at hc ⊢)
        have o1 : 1 ≤ m + 2 := by omega
        by_cases f : j + m < l.length
        · obtain ⟨e1, e2, e3⟩ := hT.1 f
          refine ⟨fun _ => ?_, fun g => absurd ⟨by omega, by omega⟩ g⟩
          by_cases q : b + 1 < j ∧ b + 1 + m < l.length
          · obtain ⟨a1, a2, a3⟩ := hc.1 q
            subst e1 a1
            omega
          · obtain ⟨a1, a2⟩ := hc.2 q
            subst e1 a1 a2
            omega
        · obtain ⟨e1, e2⟩ := hT.2 (by omega)
          subst e1 e2
          by_cases q : b + 1 < j ∧ b + 1 + m < l.length
          · obtain ⟨a1, a2, a3⟩ := hc.1 q
            subst a1
            exact ⟨fun _ => by omega, fun g => absurd ⟨by omega, q.2⟩ g⟩
          · obtain ⟨a1, a2⟩ := hc.2 q
            subst a1 a2
            exact ⟨fun g => by omega, fun _ => by omega⟩) ⟨fun h => by omega, fun _ => ⟨rfl, rfl⟩⟩
    rw [show b + 1 + (l.length - (b + 1)) = l.length by omega] at z
    refine ⟨fun h => ?_, fun h => ?_⟩
    · exact z.1 (by omega)
    · exact z.2 (by omega)
/-- What the next box is. -/
theorem pick_is {l : List Int} (hS : Small l) (m : Nat) (hm : m ≤ 4) (last : Int) (h1 : -1 ≤ last) (hf : last + 1 + m < l.length) :
    (pickS l last m).1 = (pick l last m).1 ∧ last < (pick l last m).1 ∧ (pick l last m).1 + m < l.length ∧ (pick l last m).2 = bw l last (pick l last m).1 + T l m (pick l last m).1.toNat ∧ ∀ x : Nat, last < x → x + m < l.length → (pick l last m).2 ≤ bw l last x + T l m x := by
  obtain ⟨s, hs⟩ : ∃ s : Nat, s = (last + 1).toNat := ⟨_, rfl⟩
  have z := iter_rel (fun j (p p' : Int × Int) => p'.1 = p.1 ∧ (s < j → p.2 = p'.2 ∧ p.2 ≤ 3600000 * (m + 2 : Nat) ∧ last < p.1 ∧ p.1 < j ∧ p.1 + m < l.length ∧ p.2 = bw l last p.1 + T l m p.1.toNat ∧ ∀ x : Nat, last < x → x < j → x + m < l.length → p.2 ≤ bw l last x + T l m x) ∧ (¬ s < j → p = (-1, 1099511627776) ∧ p' = (-1, 1000000000)))
    (fun x (p : Int × Int) => if bw l last (x : Int) + T l m x < p.2 then ((x : Int), bw l last (x : Int) + T l m x) else p) (fun x (p : Int × Int) => if bw l last (x : Int) + S l m x < p.2 then ((x : Int), bw l last (x : Int) + S l m x) else p) (l.length - s) s (-1, 1099511627776) (-1, 1000000000) (fun j c c' g1 g2 hc => by
      have hB := bw_nat hS (i := last) h1 j (by omega)
      have hT := TS hS m (by omega) j (by omega)
      (try dsimp only at hc ⊢)
      have hjn : ((j : Int)).toNat = j := by omega
      by_cases f : j + m < l.length
      · obtain ⟨e1, e2, e3⟩ := hT.1 f
        rw [← e1]
        by_cases q : s < j
        · obtain ⟨a1, a2, a3, a4, a5, a6, a7⟩ := hc.2.1 q
          rw [← a1]
          by_cases d : bw l last (j : Int) + T l m j < c.2
          · rw [if_pos d, if_pos d]
            refine ⟨rfl, fun _ => ⟨rfl, by (try dsimp only); omega, by (try dsimp only); omega, by (try dsimp only); omega, by (try dsimp only); omega, by (try dsimp only); rw [hjn], fun x x1 x2 x3 => ?_⟩, fun g => absurd (by omega) g⟩
            (try dsimp only)
            by_cases xj : x = j
            · subst xj; omega
            · have := a7 x x1 (by omega) x3; omega
          · rw [if_neg d, if_neg d]
            refine ⟨hc.1, fun _ => ⟨a1, a2, a3, by omega, a5, a6, fun x x1 x2 x3 => ?_⟩, fun g => absurd (by omega) g⟩
            by_cases xj : x = j
            · subst xj; omega
            · exact a7 x x1 (by omega) x3
        · obtain ⟨a1, a2⟩ := hc.2.2 q
          subst a1 a2
          have d : bw l last (j : Int) + T l m j < ((-1, 1000000000) : Int × Int).2 := by show _ < (1000000000 : Int); omega
          have d' : bw l last (j : Int) + T l m j < ((-1, 1099511627776) : Int × Int).2 := by show _ < (1099511627776 : Int); omega
          rw [if_pos d', if_pos d]
          refine ⟨rfl, fun _ => ⟨rfl, by (try dsimp only); omega, by (try dsimp only); omega, by (try dsimp only); omega, by (try dsimp only); omega, by (try dsimp only); rw [hjn], fun x x1 x2 x3 => ?_⟩, fun g => absurd (by omega) g⟩
          (try dsimp only)
          obtain rfl : x = j := by omega
          omega
      · obtain ⟨e1, e2⟩ := hT.2 (by omega)
        rw [e1, e2]
        have q : s < j := by omega
        obtain ⟨a1, a2, a3, a4, a5, a6, a7⟩ := hc.2.1 q
        rw [← a1, if_neg (by omega), if_neg (by omega)]
        exact ⟨hc.1, fun _ => ⟨a1, a2, a3, by omega, a5, a6, fun x x1 x2 x3 => a7 x x1 (by omega) x3⟩, fun g => absurd (by omega) g⟩) ⟨rfl, fun h => by omega, fun _ => ⟨rfl, rfl⟩⟩
  rw [show s + (l.length - s) = l.length by omega] at z
  have e1 : pick l last m = iter (fun x (p : Int × Int) => if bw l last (x : Int) + T l m x < p.2 then ((x : Int), bw l last (x : Int) + T l m x) else p) (l.length - s) s (-1, 1099511627776) := by rw [hs]; rfl
  have e2 : pickS l last m = iter (fun x (p : Int × Int) => if bw l last (x : Int) + S l m x < p.2 then ((x : Int), bw l last (x : Int) + S l m x) else p) (l.length - s) s (-1, 1000000000) := by rw [hs]; rfl
  rw [← e1, ← e2] at z
  obtain ⟨b1, b2, b3, b4, b5, b6, b7⟩ := z.2.1 (by omega)
  exact ⟨z.1, b3, b5, b6, fun x x1 x2 => b7 x x1 (by omega) x2⟩
/-- The walks of boxes behind a last one. -/
def cost (l : List Int) : Int → List Int → Int
  | i, [] => bw l i (l.length : Int)
  | i, b :: bs => bw l i b + cost l b bs
/-- Boxes one behind the other. -/
def Up (n : Nat) : Int → List Int → Prop
  | _, [] => True
  | i, b :: bs => i < b ∧ b < n ∧ Up n b bs
theorem up_len {n : Nat} : ∀ (bs : List Int) (i : Int), i < n → Up n i bs → i + bs.length < n
  | [], i, h, _ => by simpa using h
  | b :: bs, i, _, h => by
    have z := up_len bs b h.2.1 h.2.2
    have := h.1
    simp only [List.length_cons]
    omega
theorem boxes_len (l : List Int) : ∀ (m : Nat) (last : Int), (boxes l m last).length = m
  | 0, _ => rfl
  | m + 1, last => by
    show (boxes l m (pick l last m).1).length + 1 = m + 1
    rw [boxes_len l m]
theorem boxes_up {l : List Int} (hS : Small l) : ∀ (m : Nat), m ≤ 5 → ∀ last : Int, -1 ≤ last → last + m < l.length → Up l.length last (boxes l m last)
  | 0, _, _, _, _ => trivial
  | m + 1, hm, last, h1, hf => by
    obtain ⟨-, p2, p3, -, -⟩ := pick_is hS m (by omega) last h1 (by omega)
    exact ⟨p2, by omega, boxes_up hS m (by omega) _ (by omega) (by omega)⟩
theorem T_pick (l : List Int) (m b : Nat) : T l (m + 1) b = (pick l (b : Int) m).2 := by
  show iter (fun x c => min c (bw l b (x : Int) + T l m x)) (l.length - (b + 1)) (b + 1) 1099511627776 = (iter (fun x (p : Int × Int) => if bw l (b : Int) (x : Int) + T l m x < p.2 then ((x : Int), bw l (b : Int) (x : Int) + T l m x) else p) (l.length - ((b : Int) + 1).toNat) ((b : Int) + 1).toNat (-1, 1099511627776)).2
  rw [show ((b : Int) + 1).toNat = b + 1 by omega]
  refine iter_rel (fun _ (c : Int) (p : Int × Int) => c = p.2) _ _ _ _ _ _ (fun j c p _ _ e => ?_) rfl
  subst e
  (try dsimp only)
  split
  · (try dsimp only); omega
  · omega
theorem T_cost {l : List Int} (hS : Small l) : ∀ (m : Nat), m ≤ 5 → ∀ b : Nat, b + m < l.length → T l m b = cost l b (boxes l m b)
  | 0, _, _, _ => rfl
  | m + 1, hm, b, hb => by
    obtain ⟨-, p2, p3, p4, -⟩ := pick_is hS m (by omega) (b : Int) (by omega) (by omega)
    obtain ⟨p, hp⟩ := Int.eq_ofNat_of_zero_le (show 0 ≤ (pick l (b : Int) m).1 by omega)
    rw [T_pick, p4, hp, Int.toNat_natCast, T_cost hS m (by omega) p (by omega)]
    show _ = bw l b (pick l (b : Int) m).1 + cost l (pick l (b : Int) m).1 (boxes l m (pick l (b : Int) m).1)
    rw [hp]
theorem T_least {l : List Int} (hS : Small l) : ∀ (m : Nat), m ≤ 5 → ∀ (b : Nat) (bs : List Int), b < l.length → bs.length = m → Up l.length b bs → T l m b ≤ cost l b bs
  | 0, _, b, bs, _, hl, _ => by
    obtain rfl := List.length_eq_zero_iff.1 hl
    exact Int.le_refl _
  | m + 1, hm, b, bs, hb, hl, hu => by
    match bs, hl, hu with
    | x :: bs, hl, hu =>
      simp only [List.length_cons] at hl
      have ul := up_len bs x hu.2.1 hu.2.2
      have u1 := hu.1
      obtain ⟨y, rfl⟩ := Int.eq_ofNat_of_zero_le (show 0 ≤ x by omega)
      obtain ⟨-, -, -, -, p5⟩ := pick_is hS m (by omega) (b : Int) (by omega) (by omega)
      have a := p5 y (by omega) (by omega)
      have c := T_least hS m (by omega) y bs (by omega) (by omega) hu.2.2
      rw [T_pick]
      show _ ≤ bw l b y + cost l y bs
      omega
/-- The first boxes have the least walks. -/
theorem boxes_least {l : List Int} (hS : Small l) (m : Nat) (h1 : 1 ≤ m) (hm : m ≤ 5) (hn : m ≤ l.length) (bs : List Int) (hl : bs.length = m) (hu : Up l.length (-1) bs) : cost l (-1) (boxes l m (-1)) ≤ cost l (-1) bs := by
  obtain ⟨m, rfl⟩ : ∃ k, m = k + 1 := ⟨m - 1, by omega⟩
  obtain ⟨-, p2, p3, p4, p5⟩ := pick_is hS m (by omega) (-1) (by omega) (by omega)
  match bs, hl, hu with
  | x :: bs, hl, hu =>
    simp only [List.length_cons] at hl
    have ul := up_len bs x hu.2.1 hu.2.2
    have u1 := hu.1
    obtain ⟨y, rfl⟩ := Int.eq_ofNat_of_zero_le (show 0 ≤ x by omega)
    have a := p5 y (by omega) (by omega)
    have c := T_least hS m (by omega) y bs (by omega) (by omega) hu.2.2
    obtain ⟨p, hp⟩ := Int.eq_ofNat_of_zero_le (show 0 ≤ (pick l (-1) m).1 by omega)
    have d := T_cost hS m (by omega) p (by omega)
    rw [hp, Int.toNat_natCast] at p4
    show bw l (-1) (pick l (-1) m).1 + cost l (pick l (-1) m).1 (boxes l m (pick l (-1) m).1) ≤ bw l (-1) y + cost l y bs
    rw [hp]
    omega
/-- The way to the nearest of some boxes. -/
def nd : Int → List Int → Int → Int
  | x, [], h => ((x - h).natAbs : Int)
  | x, b :: bs, h => if ((b - h).natAbs : Int) < ((x - h).natAbs : Int) then nd b bs h else nd x bs h
theorem nd_near {n : Nat} : ∀ (bs : List Int) (b : Int) (h : Int), Up n b bs → h ≤ b → nd b bs h = b - h
  | [], b, h, _, hh => by show ((b - h).natAbs : Int) = b - h; omega
  | c :: bs, b, h, hu, hh => by
    have u1 := hu.1
    unfold nd
    rw [if_neg (by omega)]
    refine nd_near (n := n) bs b h ?_ hh
    match bs, hu.2.2 with
    | [], _ => trivial
    | d :: bs, hv => exact ⟨by have := hv.1; omega, hv.2⟩
theorem nd_left {n : Nat} : ∀ (bs : List Int) (x h : Int), Up n x bs → x ≤ h → (∀ b ∈ bs, h - x ≤ b - h) → nd x bs h = h - x
  | [], x, h, _, hh, _ => by show ((x - h).natAbs : Int) = h - x; omega
  | c :: bs, x, h, hu, hh, ha => by
    have a := ha c (by simp)
    have u1 := hu.1
    unfold nd
    rw [if_neg (by omega)]
    refine nd_left (n := n) bs x h ?_ hh (fun b hb => ha b (by simp [hb]))
    match bs, hu.2.2 with
    | [], _ => trivial
    | d :: bs, hv => exact ⟨by have := hv.1; omega, hv.2⟩
theorem up_gt {n : Nat} : ∀ (bs : List Int) (x : Int), Up n x bs → ∀ b ∈ bs, x < b
  | [], _, _, b, hb => by simp at hb
  | c :: bs, x, hu, b, hb => by
    rcases List.mem_cons.1 hb with rfl | hb
    · exact hu.1
    · have := up_gt bs c hu.2.2 b hb
      have := hu.1
      omega
theorem nd_step {n : Nat} (x b : Int) (bs : List Int) (h : Int) (hu : Up n x (b :: bs)) (hx : x ≤ h) : nd x (b :: bs) h = if h < b then min (h - x) (b - h) else nd b bs h := by
  have u1 := hu.1
  have e : nd x (b :: bs) h = if ((b - h).natAbs : Int) < ((x - h).natAbs : Int) then nd b bs h else nd x bs h := rfl
  rw [e]
  by_cases c : h < b
  · rw [if_pos c]
    by_cases d : ((b - h).natAbs : Int) < ((x - h).natAbs : Int)
    · rw [if_pos d, nd_near bs b h hu.2.2 (by omega)]
      omega
    · rw [if_neg d]
      have hv : Up n x bs := by
        match bs, hu.2.2 with
        | [], _ => trivial
        | e :: bs, hv => exact ⟨by have := hv.1; omega, hv.2⟩
      rw [nd_left bs x h hv hx (fun y hy => by have := up_gt bs b hu.2.2 y hy; omega)]
      omega
  · rw [if_neg c]
    by_cases d : ((b - h).natAbs : Int) < ((x - h).natAbs : Int)
    · rw [if_pos d]
    · omega
theorem cost_nd (l : List Int) : ∀ (bs : List Int) (i : Nat), i < l.length → Up l.length i bs → iter (fun h c => c + rd l (h : Int) * nd i bs h) (l.length - i) i 0 = cost l i bs
  | [], i, hi, _ => by
    show _ = iter (fun h c => c + rd l (h : Int) * far l.length i l.length h) ((min (l.length : Int) (l.length : Int)).toNat - (max 0 (i : Int)).toNat) (max 0 (i : Int)).toNat 0
    rw [show (min (l.length : Int) (l.length : Int)).toNat = l.length by omega, show (max 0 (i : Int)).toNat = i by omega]
    refine iter_cong _ _ _ _ _ (fun j c h1 h2 => ?_)
    have e1 : nd (i : Int) [] (j : Int) = (j : Int) - i := by show (((i : Int) - j).natAbs : Int) = _; omega
    have e2 : far l.length i l.length j = (j : Int) - i := by unfold far; rw [if_neg (by omega), if_pos (by omega)]
    rw [e1, e2]
  | b :: bs, i, hi, hu => by
    have u1 := hu.1
    have u2 := hu.2.1
    obtain ⟨y, rfl⟩ := Int.eq_ofNat_of_zero_le (show 0 ≤ b by omega)
    have ih := cost_nd l bs y (by omega) hu.2.2
    rw [show l.length - i = (y - i) + (l.length - y) by omega, iter_add, show i + (y - i) = y by omega]
    show _ = bw l i (y : Int) + cost l (y : Int) bs
    rw [← ih]
    have e1 : iter (fun h c => c + rd l (h : Int) * nd i ((y : Int) :: bs) h) (y - i) i 0 = bw l i (y : Int) := by
      show _ = iter (fun h c => c + rd l (h : Int) * far l.length i y h) ((min (y : Int) (l.length : Int)).toNat - (max 0 (i : Int)).toNat) (max 0 (i : Int)).toNat 0
      rw [show (min (y : Int) (l.length : Int)).toNat = y by omega, show (max 0 (i : Int)).toNat = i by omega]
      refine iter_cong _ _ _ _ _ (fun j c h1 h2 => ?_)
      rw [nd_step (i : Int) y bs j hu (by omega), if_pos (by omega)]
      have e2 : far l.length i y j = min ((j : Int) - i) (y - j) := by unfold far; rw [if_neg (by omega), if_neg (by omega)]
      rw [e2]
    rw [e1, iter_plus (fun h => rd l (h : Int) * nd i ((y : Int) :: bs) h)]
    congr 1
    refine iter_cong _ _ _ _ _ (fun j c h1 h2 => ?_)
    (try dsimp only)
    rw [nd_step (i : Int) y bs j hu (by omega), if_neg (by omega)]
/-- The walks of all to some boxes. -/
theorem cost_all (l : List Int) (b : Int) (bs : List Int) (hu : Up l.length (-1) (b :: bs)) : iter (fun h c => c + rd l (h : Int) * nd b bs h) l.length 0 0 = cost l (-1) (b :: bs) := by
  have u1 := hu.1
  have u2 := hu.2.1
  obtain ⟨y, rfl⟩ := Int.eq_ofNat_of_zero_le (show 0 ≤ b by omega)
  have ih := cost_nd l bs y (by omega) hu.2.2
  rw [show l.length = y + (l.length - y) by omega, iter_add, Nat.zero_add]
  show _ = bw l (-1) (y : Int) + cost l (y : Int) bs
  rw [← ih]
  have e1 : iter (fun h c => c + rd l (h : Int) * nd (y : Int) bs h) y 0 0 = bw l (-1) (y : Int) := by
    show _ = iter (fun h c => c + rd l (h : Int) * far l.length (-1) y h) ((min (y : Int) (l.length : Int)).toNat - (max 0 (-1 : Int)).toNat) (max 0 (-1 : Int)).toNat 0
    rw [show (min (y : Int) (l.length : Int)).toNat = y by omega, show (max 0 (-1 : Int)).toNat = 0 by omega]
    refine iter_cong _ _ _ _ _ (fun j c h1 h2 => ?_)
    rw [nd_near bs y j hu.2.2 (by omega)]
    have e2 : far l.length (-1) y j = (y : Int) - j := by unfold far; rw [if_pos (by omega)]
    rw [e2]
  rw [e1, iter_plus (fun h => rd l (h : Int) * nd (y : Int) bs h)]

theorem spec_least (a b : Int) : spec_l1Least.f a b = some (min a b) := by
  unfold spec_l1Least.f
  split <;> congr 1 <;> omega
theorem small_q {l : List Int} (h : Q l) : Small l := ⟨h.1, fun v hv => by
  obtain ⟨j, hj, rfl⟩ := List.getElem_of_mem hv
  have := h.2 j
  rw [rd_lt l j hj] at this
  exact this⟩
/-- The walks between two boxes, in the reference. -/
theorem part_f {l : List Int} (hS : Small l) (i tt : Int) (hi : -1 ≤ i) (ht : 0 ≤ tt) (hn : tt ≤ l.length) (hor : 0 ≤ i ∨ tt < l.length) : Ev (fun k => spec_mdPart.f k l i tt) (bw l i tt) := by
  obtain ⟨t, rfl⟩ := Int.eq_ofNat_of_zero_le ht
  have n60 := hS.1.2
  have key : ∀ h : Nat, h ≤ t → max 0 i ≤ h → ∀ c : Int, 0 ≤ c → c ≤ 60000 * h → Ev (fun k => spec_mdPart.l0 k l i t c h) (iter (fun h c => c + rd l (h : Int) * far l.length i t h) (t - h) h c) := by
    refine down t ?_ ?_
    · intro _ c _ _
      refine succ ?_
      simp only [spec_mdPart.l0, spec_least, Option.bind_some]
      rw [Nat.sub_self]
      exact neg (by omega) (now _)
    · intro h hh ih hm c c0 c1
      have hf := impl_firstBoxes.far_small (n := l.length) (i := i) (k := (t : Int)) (h := h) hi hn n60 hm (by omega)
      have hp := impl_firstBoxes.prod_small (impl_firstBoxes.Small.at hS h) hf
      have e : iter (fun h c => c + rd l (h : Int) * far l.length i t h) (t - h) h c = iter (fun h c => c + rd l (h : Int) * far l.length i t h) (t - (h + 1)) (h + 1) (c + rd l (h : Int) * far l.length i t h) := impl_firstBoxes.iter_step _ _ _ hh _
      rw [e]
      have nx := ih (by omega) (c + rd l (h : Int) * far l.length i t h) (by omega) (by omega)
      clear ih e
      refine succ ?_
      simp only [spec_mdPart.l0, spec_least, Option.bind_some]
      rw [wnat (by omega)]
      refine pos (by omega) ?_
      by_cases c1 : i ≥ 0
      · refine pos c1 ?_
        by_cases c2 : (t : Int) < l.length
        · have ef : min (wrap64 ((h : Int) - i)) (wrap64 ((t : Int) - h)) = far l.length i t h := by
            unfold far
            rw [if_neg (by omega), if_neg (by omega), w64 (by omega) (by omega), w64 (by omega) (by omega)]
          rw [ef, w64 (x := rd l (h : Int) * far l.length i t h) (by omega) (by omega), w64 (x := c + rd l (h : Int) * far l.length i t h) (by omega) (by omega)]
          exact pos c2 (pos (by omega) (pos (by omega) nx))
        · have ef : wrap64 ((h : Int) - i) = far l.length i t h := by
            unfold far
            rw [if_neg (by omega), if_pos (by omega), w64 (by omega) (by omega)]
          refine neg c2 ?_
          rw [ef, w64 (x := rd l (h : Int) * far l.length i t h) (by omega) (by omega), w64 (x := c + rd l (h : Int) * far l.length i t h) (by omega) (by omega)]
          exact pos (by omega) (pos (by omega) nx)
      · have ef : min 1000000000 (wrap64 ((t : Int) - h)) = far l.length i t h := by
          unfold far
          rw [if_pos (by omega), w64 (by omega) (by omega)]
          omega
        rw [ef, w64 (x := rd l (h : Int) * far l.length i t h) (by omega) (by omega), w64 (x := c + rd l (h : Int) * far l.length i t h) (by omega) (by omega)]
        exact neg c1 (pos (by omega) (pos (by omega) (pos (by omega) nx)))
  unfold spec_mdPart.f
  rw [spec_most]
  refine bindSome rfl ?_
  obtain ⟨s, hs⟩ := Int.eq_ofNat_of_zero_le (show 0 ≤ max i 0 by omega)
  rw [hs]
  have e : bw l i t = iter (fun h c => c + rd l (h : Int) * far l.length i t h) (t - s) s 0 := by
    unfold bw
    rw [show (min (t : Int) (l.length : Int)).toNat = t by omega, show (max 0 i).toNat = s by omega]
  rw [e]
  by_cases c : s ≤ t
  · exact key s c (by omega) 0 (by omega) (by omega)
  · rw [show t - s = 0 by omega]
    refine succ ?_
    simp only [spec_mdPart.l0, spec_least, Option.bind_some]
    exact neg (by omega) (now _)
/-- A row of the reference's table. -/
def rowS (l : List Int) (m : Nat) (n : Nat) : List Int := (List.range n).map fun b => S l m b
theorem rowS_len (l : List Int) (m n : Nat) : (rowS l m n).length = n := by simp [rowS]
theorem rowS_succ (l : List Int) (m n : Nat) : rowS l m n ++ [S l m n] = rowS l m (n + 1) := by simp [rowS, List.range_succ]
theorem rowS_rd (l : List Int) (m n b : Nat) (h : b < n) : rd (rowS l m n) (b : Int) = S l m b := by
  rw [rd_lt _ _ (by rw [rowS_len]; exact h)]
  simp [rowS]
def tabS (l : List Int) (m : Nat) : List (List Int) := (List.range m).map fun j => rowS l j l.length
theorem tabS_len (l : List Int) (m : Nat) : (tabS l m).length = m := by simp [tabS]
theorem tabS_succ (l : List Int) (m : Nat) : tabS l m ++ [rowS l m l.length] = tabS l (m + 1) := by simp [tabS, List.range_succ]
theorem tabS_rd (l : List Int) (m j : Nat) (h : j < m) : rd_L1 (tabS l m) (j : Int) = rowS l j l.length := by
  unfold rd_L1 tabS
  rw [Int.toNat_natCast]
  simp [List.getD_eq_getElem?_getD, List.getElem?_map, List.getElem?_range h]
theorem S_small {l : List Int} (hS : Small l) (m : Nat) (hm : m ≤ 5) (b : Nat) (hb : b < l.length) : 0 ≤ S l m b ∧ S l m b ≤ 1000000000 := by
  have z := TS hS m hm b hb
  by_cases c : b + m < l.length
  · obtain ⟨e1, e2, e3⟩ := z.1 c
    omega
  · obtain ⟨e1, e2⟩ := z.2 (by omega)
    omega
theorem rest_l3 {l : List Int} (hS : Small l) (many m : Nat) (hm : m ≤ 4) (b : Nat) (hb : b < l.length) (r : List (List Int)) (row : List Int) (hr : row.length ≤ 60)
    (K : Ev (fun k => spec_mdRest.l2 k l many l.length (tabS l (m + 1)) ((m + 1 : Nat) : Int) (row ++ [S l (m + 1) b]) ((b + 1 : Nat) : Int)) r) : Ev (fun k => spec_mdRest.l3 k l many l.length (tabS l (m + 1)) ((m + 1 : Nat) : Int) row b 1000000000 ((b + 1 : Nat) : Int)) r := by
  have n60 := hS.1.2
  have key : ∀ x : Nat, x ≤ l.length → b + 1 ≤ x → ∀ c : Int, iter (fun x c => min c (bw l b (x : Int) + S l m x)) (l.length - x) x c = S l (m + 1) b → Ev (fun k => spec_mdRest.l3 k l many l.length (tabS l (m + 1)) ((m + 1 : Nat) : Int) row b c x) r := by
    refine down l.length ?_ ?_
    · intro _ c hc
      rw [Nat.sub_self] at hc
      have hc : c = S l (m + 1) b := hc
      subst hc
      refine succ ?_
      simp only [spec_mdRest.l3]
      rw [wnat (i := b) (by omega)]
      exact neg (by omega) (pos (by omega) K)
    · intro x hx ih hbx c hc
      rw [impl_firstBoxes.iter_step _ _ _ hx] at hc
      have hB := bw_nat hS (i := (b : Int)) (by omega) x (by omega)
      have hs := S_small hS m (by omega) x hx
      refine succ ?_
      simp only [spec_mdRest.l3]
      rw [wnat (by omega), w64 (x := ((m + 1 : Nat) : Int) - 1) (by omega) (by omega), show ((m + 1 : Nat) : Int) - 1 = (m : Int) by omega, tabS_rd l (m + 1) m (by omega), rowS_len, rowS_rd l m _ x hx, tabS_len]
      refine pos (by omega) (bind (part_f hS b x (by omega) (by omega) (by omega) (by omega)) (pos (by omega) (pos (by omega) (pos (by omega) (pos (by omega) ?_)))))
      rw [spec_least, w64 (by omega) (by omega)]
      exact bindSome rfl (ih (by omega) _ hc)
  exact key (b + 1) (by omega) (by omega) _ rfl
theorem rest_f {l : List Int} (hS : Small l) (many : Nat) (h1 : 1 ≤ many) (h5 : many ≤ 5) : Ev (fun k => spec_mdRest.f k l many) (tabS l many) := by
  have n60 := hS.1.2
  have l2 : ∀ m : Nat, m ≤ 4 → m + 1 < many → Ev (fun k => spec_mdRest.l1 k l many l.length (tabS l (m + 2)) ((m + 2 : Nat) : Int)) (tabS l many) → ∀ b : Nat, b ≤ l.length → Ev (fun k => spec_mdRest.l2 k l many l.length (tabS l (m + 1)) ((m + 1 : Nat) : Int) (rowS l (m + 1) b) b) (tabS l many) := by
    intro m hm hmm K
    refine down l.length ?_ ?_
    · refine succ ?_
      simp only [spec_mdRest.l2]
      rw [w64 (x := ((m + 1 : Nat) : Int) + 1) (by omega) (by omega), show ((m + 1 : Nat) : Int) + 1 = ((m + 2 : Nat) : Int) by omega, tabS_succ]
      exact neg (by omega) (pos (by rw [tabS_len]; omega) K)
    · intro b hb ih
      refine succ ?_
      simp only [spec_mdRest.l2]
      rw [wnat (by omega)]
      refine pos (by omega) (rest_l3 hS many m hm b hb _ _ (by rw [rowS_len]; omega) ?_)
      rw [rowS_succ]
      exact ih
  have l1 : ∀ m : Nat, m ≤ many → 1 ≤ m → Ev (fun k => spec_mdRest.l1 k l many l.length (tabS l m) m) (tabS l many) := by
    refine down many ?_ ?_
    · intro _
      refine succ ?_
      simp only [spec_mdRest.l1]
      exact neg (by omega) (now _)
    · intro m hm ih h
      obtain ⟨m, rfl⟩ : ∃ j, m = j + 1 := ⟨m - 1, by omega⟩
      refine succ ?_
      simp only [spec_mdRest.l1]
      exact pos (by omega) (l2 m (by omega) (by omega) (ih (by omega)) 0 (by omega))
  have l0 : ∀ b : Nat, b ≤ l.length → Ev (fun k => spec_mdRest.l0 k l many l.length (rowS l 0 b) b) (tabS l many) := by
    refine down l.length ?_ ?_
    · refine succ ?_
      simp only [spec_mdRest.l0]
      exact neg (by omega) (pos (by simp) (l1 1 h1 (Nat.le_refl _)))
    · intro b hb ih
      refine succ ?_
      simp only [spec_mdRest.l0]
      rw [wnat (by omega)]
      refine pos (by omega) (bind (part_f hS b l.length (by omega) (by omega) (by omega) (by omega)) (pos (by rw [rowS_len]; omega) ?_))
      have z := rowS_succ l 0 b
      rw [show S l 0 b = bw l b (l.length : Int) from rfl] at z
      rw [z]
      exact ih
  unfold spec_mdRest.f
  exact l0 0 (by omega)
theorem cost_small {l : List Int} (hS : Small l) : ∀ (bs : List Int) (i : Int), -1 ≤ i → Up l.length i bs → 0 ≤ cost l i bs ∧ cost l i bs ≤ 3600000 * (bs.length + 1 : Nat)
  | [], i, hi, _ => by
    have z := bw_nat hS hi l.length (Nat.le_refl _)
    show 0 ≤ bw l i (l.length : Int) ∧ bw l i (l.length : Int) ≤ 3600000 * (0 + 1 : Nat)
    omega
  | b :: bs, i, hi, hu => by
    have u1 := hu.1
    have u2 := hu.2.1
    obtain ⟨y, rfl⟩ := Int.eq_ofNat_of_zero_le (show 0 ≤ b by omega)
    have z := bw_nat hS hi y (by omega)
    have c := cost_small hS bs y (by omega) hu.2.2
    show 0 ≤ bw l i y + cost l y bs ∧ bw l i y + cost l y bs ≤ 3600000 * (bs.length + 1 + 1 : Nat)
    omega
theorem first_l1 {l : List Int} (hS : Small l) (many m : Nat) (hm : m < many) (h5 : many ≤ 5) (last : Int) (h1 : -1 ≤ last) (hf : last + 1 + m < l.length) (acc : List Int) (ha : acc.length ≤ 60) (tot : Int) (t0 : 0 ≤ tot) (t1 : tot ≤ 100000000) (r : List Int × Int)
    (K : Ev (fun k => spec_mdFirst.l0 k l (tabS l many) (acc ++ [(pick l last m).1]) (tot + bw l last (pick l last m).1) (pick l last m).1 ((m : Int) - 1)) r) : Ev (fun k => spec_mdFirst.l1 k l (tabS l many) acc tot last m (-1) 1000000000 (last + 1)) r := by
  have n60 := hS.1.2
  obtain ⟨p1, p2, p3, -, -⟩ := pick_is hS m (by omega) last h1 hf
  have key : ∀ x : Nat, x ≤ l.length → ∀ p : Int × Int, iter (fun x (p : Int × Int) => if bw l last (x : Int) + S l m x < p.2 then ((x : Int), bw l last (x : Int) + S l m x) else p) (l.length - x) x p = pickS l last m → Ev (fun k => spec_mdFirst.l1 k l (tabS l many) acc tot last m p.1 p.2 x) r := by
    refine down l.length ?_ ?_
    · intro p hp
      rw [Nat.sub_self] at hp
      have hp : p = pickS l last m := hp
      subst hp
      obtain ⟨q, hq⟩ := Int.eq_ofNat_of_zero_le (show 0 ≤ (pick l last m).1 by omega)
      have hB := bw_nat hS h1 q (by omega)
      rw [← hq] at hB
      refine succ ?_
      simp only [spec_mdFirst.l1]
      rw [p1]
      refine neg (by omega) (bind (part_f hS last _ h1 (by omega) (by omega) (by omega)) (pos (by omega) ?_))
      rw [wsub1 (by omega), w64 (by omega) (by omega)]
      exact K
    · intro x hx ih p hp
      rw [impl_firstBoxes.iter_step _ _ _ hx] at hp
      have hB := bw_nat hS h1 x (by omega)
      have hs := S_small hS m (by omega) x hx
      refine succ ?_
      simp only [spec_mdFirst.l1]
      rw [wnat (by omega), tabS_rd l many m hm, rowS_len, rowS_rd l m _ x hx, tabS_len]
      refine pos (by omega) (bind (part_f hS last x h1 (by omega) (by omega) (by omega)) (pos (by omega) (pos (by omega) (pos (by omega) (pos (by omega) ?_)))))
      rw [w64 (by omega) (by omega)]
      by_cases c : bw l last (x : Int) + S l m x < p.2
      · rw [if_pos c] at hp
        exact pos c (ih _ hp)
      · rw [if_neg c] at hp
        exact neg c (ih _ hp)
  obtain ⟨s, hs⟩ := Int.eq_ofNat_of_zero_le (show 0 ≤ last + 1 by omega)
  have z := key s (by omega) (-1, 1000000000) (by unfold pickS; rw [hs, Int.toNat_natCast])
  rw [hs]
  exact z
theorem first_l0 {l : List Int} (hS : Small l) (many : Nat) (h5 : many ≤ 5) : ∀ (m : Nat), m ≤ many → ∀ (last : Int), -1 ≤ last → (m = 0 → 0 ≤ last) → last + m < l.length → ∀ (acc : List Int) (tot : Int), acc.length + m ≤ 5 → 0 ≤ tot → tot ≤ 3600000 * acc.length →
    Ev (fun k => spec_mdFirst.l0 k l (tabS l many) acc tot last ((m : Int) - 1)) (acc ++ boxes l m last, tot + cost l last (boxes l m last))
  | 0, _, last, h1, h0, hf, acc, tot, ha, t0, t1 => by
    have n60 := hS.1.2
    have hB := bw_nat hS h1 l.length (Nat.le_refl _)
    refine succ ?_
    simp only [spec_mdFirst.l0]
    refine neg (by omega) (bind (part_f hS last l.length h1 (by omega) (by omega) (.inl (h0 rfl))) (conv (now _) ?_))
    rw [w64 (by omega) (by omega)]
    show (acc, tot + bw l last (l.length : Int)) = (acc ++ [], tot + bw l last (l.length : Int))
    rw [List.append_nil]
  | m + 1, hm, last, h1, h0, hf, acc, tot, ha, t0, t1 => by
    have n60 := hS.1.2
    obtain ⟨p1, p2, p3, -, -⟩ := pick_is hS m (by omega) last h1 (by omega)
    obtain ⟨q, hq⟩ := Int.eq_ofNat_of_zero_le (show 0 ≤ (pick l last m).1 by omega)
    have hB := bw_nat hS h1 q (by omega)
    rw [← hq] at hB
    refine succ ?_
    simp only [spec_mdFirst.l0]
    rw [show ((m + 1 : Nat) : Int) - 1 = (m : Int) by omega, w64 (x := last + 1) (by omega) (by omega)]
    refine pos (by omega) (first_l1 hS many m (by omega) h5 last h1 (by omega) acc (by omega) tot t0 (by omega) _ ?_)
    have z := first_l0 hS many h5 m (by omega) (pick l last m).1 (by omega) (fun _ => by omega) (by omega) (acc ++ [(pick l last m).1]) (tot + bw l last (pick l last m).1) (by simp; omega) (by omega) (by simp; omega)
    refine conv z ?_
    show (acc ++ [(pick l last m).1] ++ boxes l m (pick l last m).1, tot + bw l last (pick l last m).1 + cost l (pick l last m).1 (boxes l m (pick l last m).1)) = (acc ++ ((pick l last m).1 :: boxes l m (pick l last m).1), tot + (bw l last (pick l last m).1 + cost l (pick l last m).1 (boxes l m (pick l last m).1)))
    rw [List.append_assoc, Int.add_assoc]
    rfl
theorem first_f {l : List Int} (hS : Small l) (many : Nat) (h1 : 1 ≤ many) (h5 : many ≤ 5) (hn : many ≤ l.length) : Ev (fun k => spec_mdFirst.f k l many) (boxes l many (-1), cost l (-1) (boxes l many (-1))) := by
  unfold spec_mdFirst.f
  rw [wsub1 (by omega)]
  refine bind (rest_f hS many h1 h5) ?_
  have z := first_l0 hS many h5 many (Nat.le_refl _) (-1) (by omega) (by omega) (by omega) [] 0 (by simpa using h5) (by omega) (by simp)
  refine conv z ?_
  rw [List.nil_append, Int.zero_add]
theorem firstBoxes_f {l : List Int} (hS : Small l) (many : Int) (h1 : 1 ≤ many) (h5 : many ≤ 5) : Ev (fun k => impl_firstBoxes.f k l many) (boxes l many.toNat (-1)) := by
  refine ⟨1, fun k hk => ?_⟩
  obtain ⟨k, rfl⟩ : ∃ j, k = j + 1 := ⟨k - 1, by omega⟩
  unfold impl_firstBoxes.f
  exact if_pos ⟨hS, h1, h5⟩
theorem many_spec (l : List Int) (a : Int) (hx : l.length ≤ 35184372088832) : Ev (fun k => spec_mdMany.f k l a) (decide (People l ∧ 1 ≤ a ∧ a ≤ min 5 (l.length : Int))) := by
  unfold spec_mdMany.f
  refine bind (good_spec l hx) ?_
  by_cases c : People l
  · refine pos (by simpa using c) ?_
    rw [spec_least]
    refine bindSome rfl ?_
    rw [spec_in]
    exact bindSome rfl (conv (now _) (by simp [c]))
  · exact neg (by simpa using c) (conv (now _) (by simp [c]))
theorem many_impl (l : List Int) (a : Int) (hx : l.length ≤ 35184372088832) : Ev (fun k => impl_areMany.f k l a) (decide (People l ∧ 1 ≤ a ∧ a ≤ min 5 (l.length : Int))) := by
  unfold impl_areMany.f
  refine bind (good_impl l hx) ?_
  by_cases c : People l
  · refine pos (by simpa using c) ?_
    rw [impl_in, show mn 5 (l.length : Int) = min 5 (l.length : Int) by unfold mn; split <;> omega]
    exact bindSome rfl (conv (now _) (by simp [c]))
  · exact neg (by simpa using c) (conv (now _) (by simp [c]))
theorem boxes_spec (l : List Int) (a : Int) (hx : l.length ≤ 35184372088832) : Ev (fun k => spec_FirstBoxes.f k l a) (if People l ∧ 1 ≤ a ∧ a ≤ min 5 (l.length : Int) then (boxes l a.toNat (-1), true) else ([], false)) := by
  unfold spec_FirstBoxes.f
  refine bind (many_spec l a hx) ?_
  by_cases c : People l ∧ 1 ≤ a ∧ a ≤ min 5 (l.length : Int)
  · rw [if_pos c]
    obtain ⟨m, rfl⟩ := Int.eq_ofNat_of_zero_le (show 0 ≤ a by omega)
    exact pos (by simpa using c) (bind (first_f (small_q (people_q c.1)) m (by omega) (by omega) (by omega)) (now _))
  · rw [if_neg c]
    exact neg (by simpa using c) (now _)
theorem boxes_impl (l : List Int) (a : Int) (hx : l.length ≤ 35184372088832) : Ev (fun k => impl_FirstBoxes.f k l a) (if People l ∧ 1 ≤ a ∧ a ≤ min 5 (l.length : Int) then (boxes l a.toNat (-1), true) else ([], false)) := by
  unfold impl_FirstBoxes.f
  refine bind (many_impl l a hx) ?_
  by_cases c : People l ∧ 1 ≤ a ∧ a ≤ min 5 (l.length : Int)
  · rw [if_pos c]
    exact pos (by simpa using c) (bind (firstBoxes_f (small_q (people_q c.1)) a (by omega) (by omega)) (now _))
  · rw [if_neg c]
    exact neg (by simpa using c) (now _)

theorem up_in {n : Nat} : ∀ (bs : List Int) (x : Int), Up n x bs → ∀ b ∈ bs, x < b ∧ b < n
  | [], _, _, b, hb => by simp at hb
  | c :: bs, x, hu, b, hb => by
    have u1 := hu.1
    rcases List.mem_cons.1 hb with rfl | hb
    · exact ⟨hu.1, hu.2.1⟩
    · have := up_in bs c hu.2.2 b hb
      omega
/-- The nearest of some boxes. -/
def nr : Int → List Int → Int → Int
  | x, [], _ => x
  | x, b :: bs, h => if dist b h < dist x h then nr b bs h else nr x bs h
theorem nr_nd : ∀ (bs : List Int) (x h : Int), nd x bs h = dist (nr x bs h) h
  | [], x, h => rfl
  | b :: bs, x, h => by
    unfold nd nr
    by_cases c : dist b h < dist x h
    · rw [if_pos c, if_pos (show ((b - h).natAbs : Int) < ((x - h).natAbs : Int) from c), nr_nd bs b h]
    · rw [if_neg c, if_neg (show ¬ ((b - h).natAbs : Int) < ((x - h).natAbs : Int) from c), nr_nd bs x h]
theorem nr_mem : ∀ (bs : List Int) (x h : Int), nr x bs h ∈ x :: bs
  | [], x, h => by simp [nr]
  | b :: bs, x, h => by
    unfold nr
    split
    · exact List.mem_cons_of_mem _ (nr_mem bs b h)
    · rcases List.mem_cons.1 (nr_mem bs x h) with e | e
      · rw [e]; simp
      · simp [e]
/-- All in a street of so many houses. -/
def Inn (n : Nat) (bs : List Int) : Prop := ∀ b ∈ bs, 0 ≤ b ∧ b < n
theorem inn_rd {n : Nat} {bs : List Int} (h : Inn n bs) (i : Nat) (hi : i < bs.length) : 0 ≤ rd bs (i : Int) ∧ rd bs (i : Int) < n := h _ (rd_mem bs i hi)
theorem impl_near (n : Nat) (hn : n ≤ 60) (b : Int) (bs : List Int) (hb : Inn n (b :: bs)) (hl : (b :: bs).length ≤ 1000) (h : Int) (h0 : 0 ≤ h) (h1 : h ≤ 60) : Ev (fun k => impl_nearestBox.f k (b :: bs) h) (nr b bs h) := by
  have key : ∀ i : Nat, i ≤ (b :: bs).length → ∀ x : Int, 0 ≤ x → x ≤ 60 → Ev (fun k => impl_nearestBox.l0 k h x (b :: bs) (b :: bs).length i) (nr x ((b :: bs).drop i) h) := by
    refine down (b :: bs).length ?_ ?_
    · intro x _ _
      refine succ ?_
      simp only [impl_nearestBox.l0]
      rw [List.drop_length]
      exact neg (by omega) (now _)
    · intro i hi ih x x0 x1
      have hr := inn_rd hb i hi
      refine succ ?_
      simp only [impl_nearestBox.l0]
      rw [wnat (by omega), impl_absd _ _ (by omega) (by omega), impl_absd _ _ (by omega) (by omega)]
      refine pos (by omega) (pos (by omega) (pos (by omega) (bind (now _) (bind (now _) ?_))))
      rw [List.drop_eq_getElem_cons hi, ← rd_lt _ i hi]
      unfold nr
      by_cases c : dist (rd (b :: bs) (i : Int)) h < dist x h
      · rw [if_pos c]
        exact pos c (ih _ (by omega) (by omega))
      · rw [if_neg c]
        exact neg c (ih _ x0 x1)
  have hb0 := hb b (by simp)
  have z := key 0 (by omega) b (by omega) (by omega)
  unfold impl_nearestBox.f
  refine pos (by simp) ?_
  rw [show rd (b :: bs) 0 = b from rfl]
  refine conv z ?_
  rw [List.drop_zero]
  show (if dist b h < dist b h then _ else _) = _
  rw [if_neg (by omega)]
theorem nd_small (n : Nat) (hn : n ≤ 60) (b : Int) (bs : List Int) (hb : Inn n (b :: bs)) (h : Nat) (hh : h < n) : 0 ≤ nd b bs h ∧ nd b bs h ≤ 60 := by
  rw [nr_nd]
  have z := hb _ (nr_mem bs b h)
  unfold dist
  omega
theorem impl_sum {l : List Int} (hS : Small l) (b : Int) (bs : List Int) (hb : Inn l.length (b :: bs)) (hl : (b :: bs).length ≤ 1000) : Ev (fun k => impl_boxesSum.f k l (b :: bs)) (iter (fun h c => c + rd l (h : Int) * nd b bs h) l.length 0 0) := by
  have n60 := hS.1.2
  have key : ∀ h : Nat, h ≤ l.length → ∀ c : Int, 0 ≤ c → c ≤ 60000 * h → Ev (fun k => impl_boxesSum.l0 k (b :: bs) c l l.length h) (iter (fun h c => c + rd l (h : Int) * nd b bs h) (l.length - h) h c) := by
    refine down l.length ?_ ?_
    · intro c _ _
      refine succ ?_
      simp only [impl_boxesSum.l0]
      rw [Nat.sub_self]
      exact neg (by omega) (now _)
    · intro h hh ih c c0 c1
      have hd := nd_small l.length n60 b bs hb h hh
      have hp := impl_firstBoxes.prod_small (impl_firstBoxes.Small.at hS h) hd
      have hm := hb _ (nr_mem bs b h)
      rw [impl_firstBoxes.iter_step _ _ _ hh]
      have nx := ih (c + rd l (h : Int) * nd b bs h) (by omega) (by omega)
      clear ih
      refine succ ?_
      simp only [impl_boxesSum.l0]
      rw [wnat (by omega)]
      refine pos (by omega) (pos (by omega) (pos (by omega) (bind (impl_near l.length n60 b bs hb hl h (by omega) (by omega)) ?_)))
      rw [impl_absd _ _ (by omega) (by omega), ← nr_nd]
      refine bind (now _) ?_
      rw [w64 (x := rd l (h : Int) * nd b bs h) (by omega) (by omega), w64 (by omega) (by omega)]
      exact nx
  unfold impl_boxesSum.f
  exact key 0 (by omega) 0 (by omega) (by omega)
theorem up_inn {n : Nat} {bs : List Int} (h : Up n (-1) bs) : Inn n bs := fun b hb => by
  have := up_in bs (-1) h b hb
  omega
/-- What boxes cost, in the program. -/
theorem impl_cost {l : List Int} (hS : Small l) (bs : List Int) (h1 : 1 ≤ bs.length) (hl : bs.length ≤ 1000) (hu : Up l.length (-1) bs) : Ev (fun k => impl_boxesSum.f k l bs) (cost l (-1) bs) := by
  match bs, h1 with
  | b :: bs, _ => exact conv (impl_sum hS b bs (up_inn hu) hl) (cost_all l b bs hu)

/-- Rising numbers of houses. -/
def RisesFrom (xs : List Int) (a b : Int) (i : Nat) : Prop := ∀ j : Nat, i ≤ j → (h : j < xs.length) → (a ≤ xs[j] ∧ xs[j] ≤ b) ∧ (0 < j → xs[j - 1]'(by omega) < xs[j])
theorem risesFrom_end (xs : List Int) (a b : Int) : RisesFrom xs a b xs.length := fun j h1 h2 => by omega
theorem risesFrom_step (xs : List Int) (a b : Int) (i : Nat) (hi : i < xs.length) : RisesFrom xs a b i ↔ ((a ≤ xs[i] ∧ xs[i] ≤ b) ∧ (0 < i → xs[i - 1]'(by omega) < xs[i])) ∧ RisesFrom xs a b (i + 1) := by
  constructor
  · intro g; exact ⟨g i (Nat.le_refl _) hi, fun j h1 h2 => g j (by omega) h2⟩
  · rintro ⟨g, r⟩ j h1 h2
    by_cases e : j = i
    · subst e; exact g
    · exact r j (by omega) h2
open Classical in
theorem spec_l1Rising_l0 (xs : List Int) (a b : Int) (hx : xs.length ≤ 35184372088832) : ∀ i : Nat, i ≤ xs.length → Ev (fun k => spec_l1Rising.l0 k xs a b xs xs.length i) (decide (RisesFrom xs a b i)) := by
  refine down xs.length ?_ ?_
  · refine succ ?_
    simp only [spec_l1Rising.l0]
    exact neg (by omega) (conv (now _) (by simp [risesFrom_end]))
  · intro i hi ih
    refine succ ?_
    simp only [spec_l1Rising.l0, spec_in, Option.bind_some]
    rw [wnat (by omega), wsub1 (by omega)]
    refine pos (by omega) (pos (by omega) (pos (by omega) ?_))
    rw [rd_lt xs i hi]
    by_cases e : a ≤ xs[i] ∧ xs[i] ≤ b
    · refine pos (by simpa using e) ?_
      by_cases z : (i : Int) > 0
      · refine pos z (pos (by omega) (pos (by omega) ?_))
        have ei : (i : Int) - 1 = ((i - 1 : Nat) : Int) := by omega
        rw [ei, rd_lt xs (i - 1) (by omega)]
        by_cases f : xs[i - 1] ≥ xs[i]
        · refine pos f (conv (now _) (Eq.symm (decide_eq_false ?_)))
          rw [risesFrom_step xs a b i hi]
          intro g; have := g.1.2 (by omega); omega
        · refine neg f (conv ih ?_)
          rw [decide_eq_decide, risesFrom_step xs a b i hi]
          exact ⟨fun g => ⟨⟨e, fun _ => by omega⟩, g⟩, fun g => g.2⟩
      · refine neg z (conv ih ?_)
        rw [decide_eq_decide, risesFrom_step xs a b i hi]
        exact ⟨fun g => ⟨⟨e, fun _ => by omega⟩, g⟩, fun g => g.2⟩
    · refine neg (by simpa using e) (conv (now _) (Eq.symm (decide_eq_false ?_)))
      rw [risesFrom_step xs a b i hi]
      exact fun g => e g.1.1
/-- Strictly increasing from one on. -/
def IncFrom (xs : List Int) (i : Nat) : Prop := ∀ j : Nat, i ≤ j → 0 < j → (h : j < xs.length) → xs[j - 1]'(by omega) < xs[j]
theorem incFrom_step (xs : List Int) (i : Nat) (h0 : 0 < i) (hi : i < xs.length) : IncFrom xs i ↔ (xs[i - 1]'(by omega) < xs[i]) ∧ IncFrom xs (i + 1) := by
  constructor
  · intro g; exact ⟨g i (Nat.le_refl _) h0 hi, fun j h1 h2 h3 => g j (by omega) h2 h3⟩
  · rintro ⟨g, r⟩ j h1 h2 h3
    by_cases e : j = i
    · subst e; exact g
    · exact r j (by omega) h2 h3
open Classical in
theorem impl_increasing_f (xs : List Int) (hx : xs.length ≤ 35184372088832) : Ev (fun k => impl_increasing.f k xs) (decide (IncFrom xs 1)) := by
  have key : ∀ i : Nat, i ≤ xs.length → 1 ≤ i → Ev (fun k => impl_increasing.l0 k xs i) (decide (IncFrom xs i)) := by
    refine down xs.length ?_ ?_
    · intro _
      refine succ ?_
      simp only [impl_increasing.l0]
      exact neg (by omega) (conv (now _) (Eq.symm (decide_eq_true (fun j h1 h2 h3 => by omega))))
    · intro i hi ih h0
      refine succ ?_
      simp only [impl_increasing.l0]
      rw [wnat (by omega), wsub1 (by omega)]
      refine pos (by omega) (pos (by omega) (pos (by omega) (pos (by omega) ?_)))
      have ei : (i : Int) - 1 = ((i - 1 : Nat) : Int) := by omega
      rw [ei, rd_lt xs (i - 1) (by omega), rd_lt xs i hi]
      by_cases f : xs[i - 1] ≥ xs[i]
      · refine pos f (conv (now _) (Eq.symm (decide_eq_false ?_)))
        rw [incFrom_step xs i h0 hi]
        intro g; have := g.1; omega
      · refine neg f (conv (ih (by omega)) ?_)
        rw [decide_eq_decide, incFrom_step xs i h0 hi]
        exact ⟨fun g => ⟨by omega, g⟩, fun g => g.2⟩
  rcases Nat.lt_or_ge 0 xs.length with h | h
  · exact key 1 (by omega) (by omega)
  · unfold impl_increasing.f
    refine succ ?_
    simp only [impl_increasing.l0]
    exact neg (by omega) (conv (now _) (Eq.symm (decide_eq_true (fun j h1 h2 h3 => by omega))))
theorem rises_iff (xs : List Int) (a b : Int) : RisesFrom xs a b 0 ↔ IncFrom xs 1 ∧ ∀ x ∈ xs, a ≤ x ∧ x ≤ b := by
  constructor
  · intro g
    refine ⟨fun j h1 h2 h3 => (g j (by omega) h3).2 h2, fun x hx => ?_⟩
    obtain ⟨j, hj, rfl⟩ := List.getElem_of_mem hx
    exact (g j (by omega) hj).1
  · rintro ⟨g, r⟩ j h1 h2
    exact ⟨r _ (List.getElem_mem h2), fun h0 => g j (by omega) h0 h2⟩
theorem inc_lt {xs : List Int} (h : IncFrom xs 1) : ∀ j i : Nat, (hij : i < j) → (hj : j < xs.length) → xs[i]'(by omega) < xs[j] := by
  intro j
  induction j with
  | zero => intro i h1; omega
  | succ j ih =>
    intro i h1 hj
    have a := h (j + 1) (by omega) (by omega) hj
    simp only [Nat.add_sub_cancel] at a
    by_cases e : i = j
    · subst e; exact a
    · have := ih i (by omega) (by omega); omega

theorem rises_up (bs : List Int) (n : Nat) : ∀ d j : Nat, j + d = bs.length → RisesFrom bs 0 ((n : Int) - 1) j → ∀ i : Int, (∀ _ : 0 < j, i = rd bs ((j - 1 : Nat) : Int)) → (j = 0 → i = -1) → Up n i (bs.drop j) := by
  intro d
  induction d with
  | zero =>
    intro j hj _ i _ _
    rw [show j = bs.length by omega, List.drop_length]
    trivial
  | succ d ih =>
    intro j hj hr i h1 h0
    have hjl : j < bs.length := by omega
    have z := (risesFrom_step bs 0 ((n : Int) - 1) j hjl).1 hr
    rw [List.drop_eq_getElem_cons hjl]
    refine ⟨?_, by have := z.1.1.2; omega, ih (j + 1) (by omega) z.2 _ (fun _ => by rw [Nat.add_sub_cancel, rd_lt bs j hjl]) (fun h => by omega)⟩
    by_cases c : j = 0
    · have := z.1.1.1
      have := h0 c
      omega
    · have a := z.1.2 (by omega)
      have e := h1 (by omega)
      rw [rd_lt bs (j - 1) (by omega)] at e
      omega
/-- Boxes as they may be. -/
def Boxes (l bs : List Int) : Prop := People l ∧ (1 ≤ bs.length ∧ bs.length ≤ 5) ∧ RisesFrom bs 0 ((l.length : Int) - 1) 0
theorem Boxes.up {l bs : List Int} (h : Boxes l bs) : Up l.length (-1) bs := by
  have z := rises_up bs l.length bs.length 0 (by omega) h.2.2 (-1) (fun h => by omega) (fun _ => rfl)
  rw [List.drop_zero] at z
  exact z
open Classical in
theorem good_boxes_spec (l bs : List Int) (hl : l.length ≤ 1048576) (hb : bs.length ≤ 1048576) : Ev (fun k => spec_mdBoxes.f k l bs) (decide (Boxes l bs)) := by
  unfold spec_mdBoxes.f
  refine bind (good_spec l (by omega)) ?_
  by_cases c : People l
  · refine pos (by simpa using c) ?_
    rw [spec_in]
    refine bindSome rfl ?_
    by_cases d : 1 ≤ (bs.length : Int) ∧ (bs.length : Int) ≤ 5
    · refine pos (by simpa using d) ?_
      rw [wsub1 (by omega)]
      refine bind (spec_l1Rising_l0 bs 0 ((l.length : Int) - 1) (by omega) 0 (by omega)) (conv (now _) ?_)
      rw [decide_eq_decide]
      exact ⟨fun g => ⟨c, by omega, g⟩, fun g => g.2.2⟩
    · exact neg (by simpa using d) (conv (now _) (Eq.symm (decide_eq_false (fun g => d (by have := g.2.1; omega)))))
  · exact neg (by simpa using c) (conv (now _) (Eq.symm (decide_eq_false (fun g => c g.1))))
open Classical in
theorem good_boxes_impl (l bs : List Int) (hl : l.length ≤ 1048576) (hb : bs.length ≤ 1048576) : Ev (fun k => impl_areBoxes.f k l bs) (decide (Boxes l bs)) := by
  unfold impl_areBoxes.f
  refine bind (good_impl l (by omega)) ?_
  by_cases c : People l
  · refine pos (by simpa using c) ?_
    rw [impl_in]
    refine bindSome rfl ?_
    by_cases d : 1 ≤ (bs.length : Int) ∧ (bs.length : Int) ≤ 5
    · refine pos (by simpa using d) ?_
      rw [wsub1 (by omega)]
      refine bind (impl_increasing_f bs (by omega)) ?_
      by_cases e : IncFrom bs 1
      · refine pos (by simpa using e) (bind (impl_allWithin_f bs 0 ((l.length : Int) - 1) (by omega)) (conv (now _) ?_))
        rw [decide_eq_decide]
        exact ⟨fun g => ⟨c, by omega, (rises_iff _ _ _).2 ⟨e, g⟩⟩, fun g => ((rises_iff _ _ _).1 g.2.2).2⟩
      · exact neg (by simpa using e) (conv (now _) (Eq.symm (decide_eq_false (fun g => e ((rises_iff _ _ _).1 g.2.2).1))))
    · exact neg (by simpa using d) (conv (now _) (Eq.symm (decide_eq_false (fun g => d (by have := g.2.1; omega)))))
  · exact neg (by simpa using c) (conv (now _) (Eq.symm (decide_eq_false (fun g => c g.1))))
theorem spec_near (n : Nat) (hn : n ≤ 60) (b : Int) (bs : List Int) (hb : Inn n (b :: bs)) (hl : (b :: bs).length ≤ 1000) (h : Int) (h0 : 0 ≤ h) (h1 : h ≤ 60) : Ev (fun k => spec_mdNear.f k (b :: bs) h) (nr b bs h) := by
  have key : ∀ i : Nat, i ≤ (b :: bs).length → ∀ x : Int, 0 ≤ x → x ≤ 60 → Ev (fun k => spec_mdNear.l0 k h x (b :: bs) (b :: bs).length i) (nr x ((b :: bs).drop i) h) := by
    refine down (b :: bs).length ?_ ?_
    · intro x _ _
      refine succ ?_
      simp only [spec_mdNear.l0]
      rw [List.drop_length]
      exact neg (by omega) (now _)
    · intro i hi ih x x0 x1
      have hr := inn_rd hb i hi
      refine succ ?_
      simp only [spec_mdNear.l0]
      rw [wnat (by omega), spec_absd _ _ (by omega) (by omega), spec_absd _ _ (by omega) (by omega)]
      refine pos (by omega) (pos (by omega) (pos (by omega) (bind (now _) (bind (now _) ?_))))
      rw [List.drop_eq_getElem_cons hi, ← rd_lt _ i hi]
      unfold nr
      by_cases c : dist (rd (b :: bs) (i : Int)) h < dist x h
      · rw [if_pos c]
        exact pos c (ih _ (by omega) (by omega))
      · rw [if_neg c]
        exact neg c (ih _ x0 x1)
  have hb0 := hb b (by simp)
  have z := key 0 (by omega) b (by omega) (by omega)
  unfold spec_mdNear.f
  refine pos (by simp) ?_
  rw [show rd (b :: bs) 0 = b from rfl]
  refine conv z ?_
  rw [List.drop_zero]
  show (if dist b h < dist b h then _ else _) = _
  rw [if_neg (by omega)]
theorem dist_comm (a b : Int) : dist a b = dist b a := by unfold dist; omega
theorem spec_sum {l : List Int} (hS : Small l) (b : Int) (bs : List Int) (hb : Inn l.length (b :: bs)) (hl : (b :: bs).length ≤ 1000) : Ev (fun k => spec_BoxesSum.l0 k (b :: bs) 0 l l.length 0) (iter (fun h c => c + rd l (h : Int) * nd b bs h) l.length 0 0, true) := by
  have n60 := hS.1.2
  have key : ∀ h : Nat, h ≤ l.length → ∀ c : Int, 0 ≤ c → c ≤ 60000 * h → Ev (fun k => spec_BoxesSum.l0 k (b :: bs) c l l.length h) (iter (fun h c => c + rd l (h : Int) * nd b bs h) (l.length - h) h c, true) := by
    refine down l.length ?_ ?_
    · intro c _ _
      refine succ ?_
      simp only [spec_BoxesSum.l0]
      rw [Nat.sub_self]
      exact neg (by omega) (now _)
    · intro h hh ih c c0 c1
      have hd := nd_small l.length n60 b bs hb h hh
      have hp := impl_firstBoxes.prod_small (impl_firstBoxes.Small.at hS h) hd
      have hm := hb _ (nr_mem bs b h)
      rw [impl_firstBoxes.iter_step _ _ _ hh]
      have nx := ih (c + rd l (h : Int) * nd b bs h) (by omega) (by omega)
      clear ih
      refine succ ?_
      simp only [spec_BoxesSum.l0]
      rw [wnat (by omega)]
      refine pos (by omega) (pos (by omega) (pos (by omega) (bind (spec_near l.length n60 b bs hb hl h (by omega) (by omega)) ?_)))
      rw [spec_absd _ _ (by omega) (by omega), dist_comm, ← nr_nd]
      refine bind (now _) ?_
      rw [w64 (x := rd l (h : Int) * nd b bs h) (by omega) (by omega), w64 (by omega) (by omega)]
      exact nx
  exact key 0 (by omega) 0 (by omega) (by omega)
open Classical in
theorem sum_spec (l bs : List Int) (hl : l.length ≤ 1048576) (hb : bs.length ≤ 1048576) : Ev (fun k => spec_BoxesSum.f k l bs) (if Boxes l bs then (cost l (-1) bs, true) else (0, false)) := by
  unfold spec_BoxesSum.f
  refine bind (good_boxes_spec l bs hl hb) ?_
  by_cases c : Boxes l bs
  · rw [if_pos c]
    refine pos (by simpa using c) ?_
    have hu := c.up
    have h1 := c.2.1
    have hS := small_q (people_q c.1)
    match bs, h1, hu with
    | [], h1, _ => simp at h1
    | b :: bs, h1, hu => exact conv (spec_sum hS b bs (up_inn hu) (by omega)) (by rw [cost_all l b bs hu])
  · rw [if_neg c]
    exact neg (by simpa using c) (now _)
open Classical in
theorem sum_impl (l bs : List Int) (hl : l.length ≤ 1048576) (hb : bs.length ≤ 1048576) : Ev (fun k => impl_BoxesSum.f k l bs) (if Boxes l bs then (cost l (-1) bs, true) else (0, false)) := by
  unfold impl_BoxesSum.f
  refine bind (good_boxes_impl l bs hl hb) ?_
  by_cases c : Boxes l bs
  · rw [if_pos c]
    have h1 := c.2.1
    exact pos (by simpa using c) (bind (impl_cost (small_q (people_q c.1)) bs h1.1 (by omega) c.up) (now _))
  · rw [if_neg c]
    exact neg (by simpa using c) (now _)
/-- The least way, boxes taken one by one. -/
def md (h : Int) : List Int → Int → Int
  | [], c => c
  | b :: bs, c => md h bs (min c (dist b h))
theorem md_nd (h : Int) : ∀ (bs : List Int) (x : Int), md h bs (dist x h) = nd x bs h
  | [], _ => rfl
  | b :: bs, x => by
    have e : nd x (b :: bs) h = if dist b h < dist x h then nd b bs h else nd x bs h := rfl
    rw [e]
    show md h bs (min (dist x h) (dist b h)) = _
    by_cases c : dist b h < dist x h
    · rw [if_pos c, show min (dist x h) (dist b h) = dist b h by omega, md_nd h bs b]
    · rw [if_neg c, show min (dist x h) (dist b h) = dist x h by omega, md_nd h bs x]
theorem mn_min (a b : Int) : mn a b = min a b := by unfold mn; omega
theorem walks_l1 {l : List Int} (hS : Small l) (bs : List Int) (hb : Inn l.length bs) (hl : bs.length ≤ 1000) (h : Nat) (hh : h < l.length) (c : Int) (r : Int) (K : ∀ d : Int, d = md h bs l.length → Ev (fun k => laws_tdWalks.l0 k l bs (wrap64 (c + wrap64 (rd l (h : Int) * d))) l l.length (wrap64 ((h : Int) + 1))) r) :
    Ev (fun k => laws_tdWalks.l1 k l bs c h (rd l (h : Int)) l.length l l.length h bs bs.length 0) r := by
  have n60 := hS.1.2
  have key : ∀ i : Nat, i ≤ bs.length → ∀ d : Int, md h (bs.drop i) d = md h bs l.length → Ev (fun k => laws_tdWalks.l1 k l bs c h (rd l (h : Int)) d l l.length h bs bs.length i) r := by
    refine down bs.length ?_ ?_
    · intro d hd
      rw [List.drop_length] at hd
      refine succ ?_
      simp only [laws_tdWalks.l1]
      exact neg (by omega) (K d hd)
    · intro i hi ih d hd
      have hr := inn_rd hb i hi
      rw [List.drop_eq_getElem_cons hi, ← rd_lt _ i hi] at hd
      refine succ ?_
      simp only [laws_tdWalks.l1]
      rw [wnat (by omega), w64 (x := rd bs (i : Int) - h) (by omega) (by omega), w64 (x := (h : Int) - rd bs (i : Int)) (by omega) (by omega), mn_min, mx_max, show max (rd bs (i : Int) - h) ((h : Int) - rd bs (i : Int)) = dist (rd bs (i : Int)) h by unfold dist; omega]
      exact pos (by omega) (pos (by omega) (pos (by omega) (ih _ hd)))
  exact key 0 (by omega) l.length (by rw [List.drop_zero])
theorem walks_f {l : List Int} (hS : Small l) (bs : List Int) (h1 : 1 ≤ bs.length) (hl : bs.length ≤ 1000) (hu : Up l.length (-1) bs) : Ev (fun k => laws_tdWalks.f k l bs) (cost l (-1) bs) := by
  have n60 := hS.1.2
  match bs, h1, hl, hu with
  | b :: bs, h1, hl, hu =>
    have hb := up_inn hu
    rw [← cost_all l b bs hu]
    have key : ∀ h : Nat, h ≤ l.length → ∀ c : Int, 0 ≤ c → c ≤ 60000 * h → Ev (fun k => laws_tdWalks.l0 k l (b :: bs) c l l.length h) (iter (fun h c => c + rd l (h : Int) * nd b bs h) (l.length - h) h c) := by
      refine down l.length ?_ ?_
      · intro c _ _
        refine succ ?_
        simp only [laws_tdWalks.l0]
        rw [Nat.sub_self]
        exact neg (by omega) (now _)
      · intro h hh ih c c0 c1
        have hd := nd_small l.length n60 b bs hb h hh
        have hp := impl_firstBoxes.prod_small (impl_firstBoxes.Small.at hS h) hd
        rw [impl_firstBoxes.iter_step _ _ _ hh]
        have nx := ih (c + rd l (h : Int) * nd b bs h) (by omega) (by omega)
        clear ih
        refine succ ?_
        simp only [laws_tdWalks.l0]
        refine pos (by omega) (pos (by omega) (pos (by omega) (walks_l1 hS (b :: bs) hb hl h hh c _ (fun d hd' => ?_))))
        have e : md h (b :: bs) l.length = nd b bs h := by
          have i0 := hb b (by simp)
          show md h bs (min (l.length : Int) (dist b h)) = _
          rw [show min (l.length : Int) (dist b h) = dist b h by unfold dist; omega, md_nd]
        rw [hd', e, wnat (by omega), w64 (x := rd l (h : Int) * nd b bs h) (by omega) (by omega), w64 (by omega) (by omega)]
        exact nx
    unfold laws_tdWalks.f
    exact key 0 (by omega) 0 (by omega) (by omega)
open Classical in
theorem FnNoBetterBoxes : laws_FnNoBetterBoxes.Pure := by
  intro xs bs hm hs hw hm' hs' hw'
  refine Ev.rounds ?_
  unfold laws_FnNoBetterBoxes.f
  by_cases h : (xs.length : Int) > 1000
  · refine pos h (succ ?_)
    simp only [laws_FnNoBetterBoxes.j0]
    exact pos (by simp) (now _)
  refine neg h (succ ?_)
  simp only [laws_FnNoBetterBoxes.j0]
  by_cases h' : (bs.length : Int) > 1000
  · exact pos (by simpa using h') (now _)
  refine neg (by simpa using h') ?_
  have q1 := sum_impl xs bs (by omega) (by omega)
  have q2 := sum_spec xs bs (by omega) (by omega)
  by_cases c : Boxes xs bs
  · rw [if_pos c] at q1 q2
    have hS := small_q (people_q c.1)
    have hu := c.up
    have b1 := c.2.1.1
    have b5 := c.2.1.2
    have hn : bs.length ≤ xs.length := by
      match bs, b1, hu with
      | b :: bs, _, hu =>
        have := up_len bs b hu.2.1 hu.2.2
        have := hu.1
        simp only [List.length_cons]
        omega
    refine bind q1 (bind q2 (neg (by simp) (succ ?_)))
    simp only [laws_FnNoBetterBoxes.j1]
    have cm : People xs ∧ 1 ≤ (bs.length : Int) ∧ (bs.length : Int) ≤ min 5 (xs.length : Int) := ⟨c.1, by omega, by omega⟩
    have f1 := boxes_impl xs bs.length (by omega)
    rw [if_pos cm, Int.toNat_natCast] at f1
    have bu := boxes_up hS bs.length b5 (-1) (by omega) (by omega)
    have bl := boxes_len xs bs.length (-1)
    have f2 : Ev (fun k => impl_LeastBoxesSum.f k xs bs.length) (cost xs (-1) (boxes xs bs.length (-1)), true) := by
      unfold impl_LeastBoxesSum.f
      have hf := firstBoxes_f hS (bs.length : Int) (by omega) (by omega)
      rw [Int.toNat_natCast] at hf
      exact bind (many_impl xs bs.length (by omega)) (pos (by simpa using cm) (bind hf (bind (impl_cost hS (boxes xs bs.length (-1)) (by omega) (by omega) bu) (now _))))
    refine neg (by simp) (pos trivial (bind f1 (bind f2 (bind (walks_f hS bs b1 (by omega) hu) (pos rfl (pos rfl (pos rfl (bind (walks_f hS (boxes xs bs.length (-1)) (by omega) (by omega) bu) (pos rfl (conv (now _) ?_))))))))))
    exact decide_eq_true (boxes_least hS bs.length b1 b5 hn bs rfl hu)
  · rw [if_neg c] at q1 q2
    refine bind q1 (bind q2 (neg (by simp) (succ ?_)))
    simp only [laws_FnNoBetterBoxes.j1]
    exact neg (by simp) (neg (by simp) (now _))

end Go.Proofs.Ytgpnnepagfnfgaa.Pure
