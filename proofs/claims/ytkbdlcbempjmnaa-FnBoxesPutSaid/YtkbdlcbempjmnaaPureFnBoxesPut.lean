/- First boxes have the least sum, one box more never has a greater one, the longest walks are the least reach that is enough, and everybody goes to the nearest box. -/
import Derived.Test.YtkbdlcbempjmnaaMXx10
import Derived.Test.YtkbdlcbempjmnaaLib
import Derived.Laws.BitsAllLaws
namespace Go.Proofs.Ytkbdlcbempjmnaa.Pure
open Go.RowKit Go.Proofs.Ytkbdlcbempjmnaa.MX Go.Proofs.YtkbdlcbempjmnaaW.PrintWords Go.Proofs.YtkbdlcbempjmnaaW.PrintLast Go.Proofs.YtkbdlcbempjmnaaW.PrintMore Go.Proofs.Ytkbdlcbempjmnaa.Lib
set_option linter.unusedVariables false
set_option linter.unusedSimpArgs false

theorem spec_in (a b c : Int) : spec_l1In.f a b c = some (decide (b ≤ a ∧ a ≤ c)) := by
  unfold spec_l1In.f
  by_cases h : a ≥ b
  · rw [if_pos h]; simp [show b ≤ a from h]
  · rw [if_neg h]; simp [show ¬ b ≤ a from h]
theorem impl_in (a b c : Int) : impl_within.f a b c = some (decide (b ≤ a ∧ a ≤ c)) := by
  unfold impl_within.f
  by_cases h : a ≥ b
  · rw [if_pos h]; simp [show b ≤ a from h]
  · rw [if_neg h]; simp [show ¬ b ≤ a from h]

theorem spec_l1All_l0 (xs : List Int) (a b : Int) (hx : xs.length ≤ 35184372088832) : ∀ i : Nat, i ≤ xs.length → Ev (fun k => spec_l1All.l0 k a b xs xs.length i) (decide (∀ x ∈ xs.drop i, a ≤ x ∧ x ≤ b)) := by
  refine down xs.length ?_ ?_
  · refine succ ?_
    simp only [spec_l1All.l0]
    exact neg (by omega) (conv (now _) (by simp))
  · intro i hi ih
    refine succ ?_
    simp only [spec_l1All.l0, spec_in, Option.bind_some]
    rw [wnat (by omega)]
    refine pos (by omega) (pos (by omega) (pos (by omega) ?_))
    rw [rd_lt xs i hi]
    by_cases e : a ≤ xs[i] ∧ xs[i] ≤ b
    · exact pos (by simpa using e) (conv ih (by rw [decide_eq_decide, all_drop hi]; exact ⟨fun h => ⟨e, h⟩, fun h => h.2⟩))
    · exact neg (by simpa using e) (conv (now _) (Eq.symm (decide_eq_false (by rw [all_drop hi]; exact fun h => e h.1))))
theorem spec_l1All_f (xs : List Int) (a b : Int) (hx : xs.length ≤ 35184372088832) : Ev (fun k => spec_l1All.f k xs a b) (decide (∀ x ∈ xs, a ≤ x ∧ x ≤ b)) :=
  spec_l1All_l0 xs a b hx 0 (by omega)

theorem impl_allWithin_l0 (xs : List Int) (a b : Int) (hx : xs.length ≤ 35184372088832) : ∀ i : Nat, i ≤ xs.length → Ev (fun k => impl_allWithin.l0 k a b xs xs.length i) (decide (∀ x ∈ xs.drop i, a ≤ x ∧ x ≤ b)) := by
  refine down xs.length ?_ ?_
  · refine succ ?_
    simp only [impl_allWithin.l0]
    exact neg (by omega) (conv (now _) (by simp))
  · intro i hi ih
    refine succ ?_
    simp only [impl_allWithin.l0, impl_in, Option.bind_some]
    rw [wnat (by omega)]
    refine pos (by omega) (pos (by omega) (pos (by omega) ?_))
    rw [rd_lt xs i hi]
    by_cases e : a ≤ xs[i] ∧ xs[i] ≤ b
    · exact pos (by simpa using e) (conv ih (by rw [decide_eq_decide, all_drop hi]; exact ⟨fun h => ⟨e, h⟩, fun h => h.2⟩))
    · exact neg (by simpa using e) (conv (now _) (Eq.symm (decide_eq_false (by rw [all_drop hi]; exact fun h => e h.1))))
theorem impl_allWithin_f (xs : List Int) (a b : Int) (hx : xs.length ≤ 35184372088832) : Ev (fun k => impl_allWithin.f k xs a b) (decide (∀ x ∈ xs, a ≤ x ∧ x ≤ b)) :=
  impl_allWithin_l0 xs a b hx 0 (by omega)

/-- What people hold. -/
def Q (vs : List Int) : Prop := (1 ≤ vs.length ∧ vs.length ≤ 60) ∧ ∀ i : Nat, 0 ≤ rd vs i ∧ rd vs i ≤ 1000
theorem q_of {vs : List Int} (h : 1 ≤ vs.length ∧ vs.length ≤ 60) (hv : ∀ x ∈ vs, 0 ≤ x ∧ x ≤ 1000) : Q vs := by
  refine ⟨h, fun i => ?_⟩
  by_cases c : i < vs.length
  · exact hv _ (rd_mem vs i c)
  · simp [rd, c]
theorem spec_sum_l0 {vs : List Int} (hv : Q vs) : ∀ i : Nat, i ≤ vs.length → ∀ s : Int, 0 ≤ s → s ≤ 1000 * i → Ev (fun k => spec_mdSum.l0 k s vs vs.length i) (s + (vs.drop i).sum) := by
  have hl := hv.1
  refine down vs.length ?_ ?_
  · intro s _ _
    refine succ ?_
    simp only [spec_mdSum.l0]
    exact neg (by omega) (conv (now _) (by simp))
  · intro i hi ih s h0 h1
    have hb := hv.2 i
    refine succ ?_
    simp only [spec_mdSum.l0]
    rw [wnat (by omega), w64 (by omega) (by omega)]
    refine pos (by omega) (pos (by omega) (pos (by omega) (conv (ih _ (by omega) (by omega)) ?_)))
    rw [List.drop_eq_getElem_cons hi, List.sum_cons, rd_lt vs i hi]
    omega
theorem impl_sum_l0 {vs : List Int} (hv : Q vs) : ∀ i : Nat, i ≤ vs.length → ∀ s : Int, 0 ≤ s → s ≤ 1000 * i → Ev (fun k => impl_sumOf.l0 k s vs vs.length i) (s + (vs.drop i).sum) := by
  have hl := hv.1
  refine down vs.length ?_ ?_
  · intro s _ _
    refine succ ?_
    simp only [impl_sumOf.l0]
    exact neg (by omega) (conv (now _) (by simp))
  · intro i hi ih s h0 h1
    have hb := hv.2 i
    refine succ ?_
    simp only [impl_sumOf.l0]
    rw [wnat (by omega), w64 (by omega) (by omega)]
    refine pos (by omega) (pos (by omega) (pos (by omega) (conv (ih _ (by omega) (by omega)) ?_)))
    rw [List.drop_eq_getElem_cons hi, List.sum_cons, rd_lt vs i hi]
    omega
/-- People. -/
def People (vs : List Int) : Prop := ((1 ≤ vs.length ∧ vs.length ≤ 60) ∧ ∀ x ∈ vs, 0 ≤ x ∧ x ≤ 1000) ∧ 0 < vs.sum
instance (vs : List Int) : Decidable (People vs) := by unfold People; infer_instance
theorem good_spec (vs : List Int) (hx : vs.length ≤ 35184372088832) : Ev (fun k => spec_mdGood.f k vs) (decide (People vs)) := by
  unfold spec_mdGood.f
  rw [spec_in]
  refine bind (now _) ?_
  by_cases c : 1 ≤ (vs.length : Int) ∧ (vs.length : Int) ≤ 60
  · refine pos (by simpa using c) (bind (spec_l1All_f vs 0 1000 hx) ?_)
    by_cases d : ∀ x ∈ vs, 0 ≤ x ∧ x ≤ 1000
    · refine pos (by simpa using d) ?_
      unfold spec_mdSum.f
      refine conv (bind (spec_sum_l0 (q_of (by omega) d) 0 (by omega) 0 (by omega) (by omega)) (now _)) ?_
      rw [decide_eq_decide]
      simp only [List.drop_zero]
      exact ⟨fun g => ⟨⟨by omega, d⟩, by omega⟩, fun g => by have := g.2; omega⟩
    · refine neg (by simpa using d) (conv (now _) (Eq.symm (decide_eq_false (fun g => d g.1.2))))
  · refine neg (by simpa using c) (conv (now _) (Eq.symm (decide_eq_false (fun g => c (by have := g.1.1; omega)))))
theorem good_impl (vs : List Int) (hx : vs.length ≤ 35184372088832) : Ev (fun k => impl_ArePeople.f k vs) (decide (People vs)) := by
  unfold impl_ArePeople.f
  rw [impl_in]
  refine bind (now _) ?_
  by_cases c : 1 ≤ (vs.length : Int) ∧ (vs.length : Int) ≤ 60
  · refine pos (by simpa using c) (bind (impl_allWithin_f vs 0 1000 hx) ?_)
    by_cases d : ∀ x ∈ vs, 0 ≤ x ∧ x ≤ 1000
    · refine pos (by simpa using d) ?_
      unfold impl_sumOf.f
      refine conv (bind (impl_sum_l0 (q_of (by omega) d) 0 (by omega) 0 (by omega) (by omega)) (now _)) ?_
      rw [decide_eq_decide]
      simp only [List.drop_zero]
      exact ⟨fun g => ⟨⟨by omega, d⟩, by omega⟩, fun g => by have := g.2; omega⟩
    · refine neg (by simpa using d) (conv (now _) (Eq.symm (decide_eq_false (fun g => d g.1.2))))
  · refine neg (by simpa using c) (conv (now _) (Eq.symm (decide_eq_false (fun g => c (by have := g.1.1; omega)))))
theorem people_q {vs : List Int} (h : People vs) : Q vs := q_of h.1.1 h.1.2
/-- The distance of two houses. -/
def dist (a b : Int) : Int := ((a - b).natAbs : Int)
theorem spec_most (a b : Int) : spec_l1Most.f a b = some (max a b) := by
  unfold spec_l1Most.f
  split <;> congr 1 <;> omega
theorem spec_absd (a b : Int) (h1 : -9223372036854775808 < a - b) (h2 : a - b ≤ 9223372036854775807) : spec_l1Abs.f (wrap64 (a - b)) = some (dist a b) := by
  unfold spec_l1Abs.f dist
  rw [w64 (x := a - b) (by omega) (by omega), w64 (by omega) (by omega), spec_most]
  simp only [Option.bind_some]
  congr 1; omega

theorem impl_absd (a b : Int) (h1 : -9223372036854775808 < a - b) (h2 : a - b ≤ 9223372036854775807) : impl_absOf.f (wrap64 (a - b)) = some (dist a b) := by
  unfold impl_absOf.f dist mx
  rw [w64 (x := a - b) (by omega) (by omega), w64 (by omega) (by omega)]
  congr 1; split <;> omega
theorem mx_max (a b : Int) : mx a b = max a b := by unfold mx; omega
theorem impl_absd' (a b : Int) (h1 : -9223372036854775808 < a - b) (h2 : a - b ≤ 9223372036854775807) : impl_absOf.f (wrap64 (a - b)) = some (dist b a) := by
  rw [impl_absd a b h1 h2]; unfold dist; congr 1; omega

open impl_firstBoxes (bw far T pick boxes iter Small)
theorem iter_snoc {σ : Type} (f : Nat → σ → σ) : ∀ (n i : Nat) (c : σ), iter f (n + 1) i c = f (i + n) (iter f n i c)
  | 0, i, c => rfl
  | n + 1, i, c => by
    show iter f (n + 1) (i + 1) (f i c) = _
    rw [iter_snoc f n (i + 1) (f i c)]
    show f (i + 1 + n) _ = f (i + (n + 1)) _
    rw [show i + 1 + n = i + (n + 1) by omega]
    rfl
theorem iter_rel {σ τ : Type} (R : Nat → σ → τ → Prop) (f : Nat → σ → σ) (g : Nat → τ → τ) : ∀ (n i : Nat) (c : σ) (c' : τ), (∀ j c c', i ≤ j → j < i + n → R j c c' → R (j + 1) (f j c) (g j c')) → R i c c' → R (i + n) (iter f n i c) (iter g n i c')
  | 0, _, _, _, _, h => h
  | n + 1, i, c, c', hs, h => by
    have z := iter_rel R f g n (i + 1) _ _ (fun j c c' h1 h2 => hs j c c' (by omega) (by omega)) (hs i c c' (Nat.le_refl _) (by omega) h)
    rw [show i + 1 + n = i + (n + 1) by omega] at z
    exact z
theorem iter_inv {σ : Type} (P : Nat → σ → Prop) (f : Nat → σ → σ) (n i : Nat) (c : σ) (hs : ∀ j c, i ≤ j → j < i + n → P j c → P (j + 1) (f j c)) (h : P i c) : P (i + n) (iter f n i c) :=
  iter_rel (fun j c _ => P j c) f f n i c c (fun j c _ h1 h2 => hs j c h1 h2) h
theorem iter_cong {σ : Type} (f g : Nat → σ → σ) (n i : Nat) (c : σ) (h : ∀ j c, i ≤ j → j < i + n → f j c = g j c) : iter f n i c = iter g n i c :=
  iter_rel (fun _ c c' => c = c') f g n i c c (fun j c c' h1 h2 e => by rw [e]; exact h j c' h1 h2) rfl
theorem iter_add {σ : Type} (f : Nat → σ → σ) (b : Nat) : ∀ (n i : Nat) (c : σ), iter f (n + b) i c = iter f b (i + n) (iter f n i c)
  | 0, i, c => by rw [Nat.zero_add]; rfl
  | n + 1, i, c => by
    rw [show n + 1 + b = (n + b) + 1 by omega]
    show iter f (n + b) (i + 1) (f i c) = iter f b (i + (n + 1)) (iter f n (i + 1) (f i c))
    rw [iter_add f b n (i + 1) _, show i + 1 + n = i + (n + 1) by omega]
theorem iter_plus (g : Nat → Int) : ∀ (n i : Nat) (c : Int), iter (fun h c => c + g h) n i c = c + iter (fun h c => c + g h) n i 0
  | 0, _, c => by show c = c + 0; omega
  | n + 1, i, c => by
    show iter (fun h c => c + g h) n (i + 1) (c + g i) = c + iter (fun h c => c + g h) n (i + 1) (0 + g i)
    rw [iter_plus g n (i + 1) (c + g i), iter_plus g n (i + 1) (0 + g i)]
    omega
/-- The reference's table. -/
def S (l : List Int) : Nat → Nat → Int
  | 0, b => bw l b (l.length : Int)
  | m + 1, b => iter (fun x c => min c (bw l b (x : Int) + S l m x)) (l.length - (b + 1)) (b + 1) 1000000000
/-- The reference's next box. -/
def pickS (l : List Int) (last : Int) (m : Nat) : Int × Int := iter (fun x (p : Int × Int) => if bw l last (x : Int) + S l m x < p.2 then ((x : Int), bw l last (x : Int) + S l m x) else p) (l.length - (last + 1).toNat) (last + 1).toNat (-1, 1000000000)
theorem bw_nat {l : List Int} (hS : Small l) {i : Int} (hi : -1 ≤ i) (x : Nat) (hx : x ≤ l.length) : 0 ≤ bw l i (x : Int) ∧ bw l i (x : Int) ≤ 3600000 := impl_firstBoxes.bw_small hS hi (by omega)
theorem TS {l : List Int} (hS : Small l) : ∀ (m : Nat), m ≤ 5 → ∀ b : Nat, b < l.length → (b + m < l.length → T l m b = S l m b ∧ 0 ≤ T l m b ∧ T l m b ≤ 3600000 * (m + 1 : Nat)) ∧ (l.length ≤ b + m → T l m b = 1099511627776 ∧ S l m b = 1000000000)
  | 0, _, b, hb => by
    refine ⟨fun _ => ?_, fun h => by omega⟩
    have z := bw_nat hS (i := (b : Int)) (by omega) l.length (Nat.le_refl _)
    refine ⟨rfl, ?_⟩
    show 0 ≤ bw l b (l.length : Int) ∧ bw l b (l.length : Int) ≤ 3600000 * (0 + 1 : Nat)
    omega
  | m + 1, hm, b, hb => by
    have z := iter_rel (fun j (c c' : Int) => (b + 1 < j ∧ b + 1 + m < l.length → c = c' ∧ 0 ≤ c ∧ c ≤ 3600000 * (m + 2 : Nat)) ∧ (¬ (b + 1 < j ∧ b + 1 + m < l.length) → c = 1099511627776 ∧ c' = 1000000000))
      (fun x c => min c (bw l b (x : Int) + T l m x)) (fun x c => min c (bw l b (x : Int) + S l m x)) (l.length - (b + 1)) (b + 1) 1099511627776 1000000000 (fun j c c' h1 h2 hc => by
        have hB := bw_nat hS (i := (b : Int)) (by omega) j (by omega)
        have hT := TS hS m (by omega) j (by omega)
        generalize bw l b (j : Int) = B at hB ⊢
        generalize T l m j = t at hT ⊢
        generalize S l m j = s at hT ⊢
        (try dsimp only at hc ⊢)
        have o1 : 1 ≤ m + 2 := by omega
        by_cases f : j + m < l.length
        · obtain ⟨e1, e2, e3⟩ := hT.1 f
          refine ⟨fun _ => ?_, fun g => absurd ⟨by omega, by omega⟩ g⟩
          by_cases q : b + 1 < j ∧ b + 1 + m < l.length
          · obtain ⟨a1, a2, a3⟩ := hc.1 q
            subst e1 a1
            omega
          · obtain ⟨a1, a2⟩ := hc.2 q
            subst e1 a1 a2
            omega
        · obtain ⟨e1, e2⟩ := hT.2 (by omega)
          subst e1 e2
          by_cases q : b + 1 < j ∧ b + 1 + m < l.length
          · obtain ⟨a1, a2, a3⟩ := hc.1 q
            subst a1
            exact ⟨fun _ => by omega, fun g => absurd ⟨by omega, q.2⟩ g⟩
          · obtain ⟨a1, a2⟩ := hc.2 q
            subst a1 a2
            exact ⟨fun g => by omega, fun _ => by omega⟩) ⟨fun h => by omega, fun _ => ⟨rfl, rfl⟩⟩
    rw [show b + 1 + (l.length - (b + 1)) = l.length by omega] at z
    refine ⟨fun h => ?_, fun h => ?_⟩
    · exact z.1 (by omega)
    · exact z.2 (by omega)
/-- What the next box is. -/
theorem pick_is {l : List Int} (hS : Small l) (m : Nat) (hm : m ≤ 4) (last : Int) (h1 : -1 ≤ last) (hf : last + 1 + m < l.length) :
    (pickS l last m).1 = (pick l last m).1 ∧ last < (pick l last m).1 ∧ (pick l last m).1 + m < l.length ∧ (pick l last m).2 = bw l last (pick l last m).1 + T l m (pick l last m).1.toNat ∧ ∀ x : Nat, last < x → x + m < l.length → (pick l last m).2 ≤ bw l last x + T l m x := by
  obtain ⟨s, hs⟩ : ∃ s : Nat, s = (last + 1).toNat := ⟨_, rfl⟩
  have z := iter_rel (fun j (p p' : Int × Int) => p'.1 = p.1 ∧ (s < j → p.2 = p'.2 ∧ p.2 ≤ 3600000 * (m + 2 : Nat) ∧ last < p.1 ∧ p.1 < j ∧ p.1 + m < l.length ∧ p.2 = bw l last p.1 + T l m p.1.toNat ∧ ∀ x : Nat, last < x → x < j → x + m < l.length → p.2 ≤ bw l last x + T l m x) ∧ (¬ s < j → p = (-1, 1099511627776) ∧ p' = (-1, 1000000000)))
    (fun x (p : Int × Int) => if bw l last (x : Int) + T l m x < p.2 then ((x : Int), bw l last (x : Int) + T l m x) else p) (fun x (p : Int × Int) => if bw l last (x : Int) + S l m x < p.2 then ((x : Int), bw l last (x : Int) + S l m x) else p) (l.length - s) s (-1, 1099511627776) (-1, 1000000000) (fun j c c' g1 g2 hc => by
      have hB := bw_nat hS (i := last) h1 j (by omega)
      have hT := TS hS m (by omega) j (by omega)
      (try dsimp only at hc ⊢)
      have hjn : ((j : Int)).toNat = j := by omega
      by_cases f : j + m < l.length
      · obtain ⟨e1, e2, e3⟩ := hT.1 f
        rw [← e1]
        by_cases q : s < j
        · obtain ⟨a1, a2, a3, a4, a5, a6, a7⟩ := hc.2.1 q
          rw [← a1]
          by_cases d : bw l last (j : Int) + T l m j < c.2
          · rw [if_pos d, if_pos d]
            refine ⟨rfl, fun _ => ⟨rfl, by (try dsimp only); omega, by (try dsimp only); omega, by (try dsimp only); omega, by (try dsimp only); omega, by (try dsimp only); rw [hjn], fun x x1 x2 x3 => ?_⟩, fun g => absurd (by omega) g⟩
            (try dsimp only)
            by_cases xj : x = j
            · subst xj; omega
            · have := a7 x x1 (by omega) x3; omega
          · rw [if_neg d, if_neg d]
            refine ⟨hc.1, fun _ => ⟨a1, a2, a3, by omega, a5, a6, fun x x1 x2 x3 => ?_⟩, fun g => absurd (by omega) g⟩
            by_cases xj : x = j
            · subst xj; omega
            · exact a7 x x1 (by omega) x3
        · obtain ⟨a1, a2⟩ := hc.2.2 q
          subst a1 a2
          have d : bw l last (j : Int) + T l m j < ((-1, 1000000000) : Int × Int).2 := by show _ < (1000000000 : Int); omega
          have d' : bw l last (j : Int) + T l m j < ((-1, 1099511627776) : Int × Int).2 := by show _ < (1099511627776 : Int); omega
          rw [if_pos d', if_pos d]
          refine ⟨rfl, fun _ => ⟨rfl, by (try dsimp only); omega, by (try dsimp only); omega, by (try dsimp only); omega, by (try dsimp only); omega, by (try dsimp only); rw [hjn], fun x x1 x2 x3 => ?_⟩, fun g => absurd (by omega) g⟩
          (try dsimp only)
          obtain rfl : x = j := by omega
          omega
      · obtain ⟨e1, e2⟩ := hT.2 (by omega)
        rw [e1, e2]
        have q : s < j := by omega
        obtain ⟨a1, a2, a3, a4, a5, a6, a7⟩ := hc.2.1 q
        rw [← a1, if_neg (by omega), if_neg (by omega)]
        exact ⟨hc.1, fun _ => ⟨a1, a2, a3, by omega, a5, a6, fun x x1 x2 x3 => a7 x x1 (by omega) x3⟩, fun g => absurd (by omega) g⟩) ⟨rfl, fun h => by omega, fun _ => ⟨rfl, rfl⟩⟩
  rw [show s + (l.length - s) = l.length by omega] at z
  have e1 : pick l last m = iter (fun x (p : Int × Int) => if bw l last (x : Int) + T l m x < p.2 then ((x : Int), bw l last (x : Int) + T l m x) else p) (l.length - s) s (-1, 1099511627776) := by rw [hs]; rfl
  have e2 : pickS l last m = iter (fun x (p : Int × Int) => if bw l last (x : Int) + S l m x < p.2 then ((x : Int), bw l last (x : Int) + S l m x) else p) (l.length - s) s (-1, 1000000000) := by rw [hs]; rfl
  rw [← e1, ← e2] at z
  obtain ⟨b1, b2, b3, b4, b5, b6, b7⟩ := z.2.1 (by omega)
  exact ⟨z.1, b3, b5, b6, fun x x1 x2 => b7 x x1 (by omega) x2⟩
/-- The walks of boxes behind a last one. -/
def cost (l : List Int) : Int → List Int → Int
  | i, [] => bw l i (l.length : Int)
  | i, b :: bs => bw l i b + cost l b bs
/-- Boxes one behind the other. -/
def Up (n : Nat) : Int → List Int → Prop
  | _, [] => True
  | i, b :: bs => i < b ∧ b < n ∧ Up n b bs
theorem up_len {n : Nat} : ∀ (bs : List Int) (i : Int), i < n → Up n i bs → i + bs.length < n
  | [], i, h, _ => by simpa using h
  | b :: bs, i, _, h => by
    have z := up_len bs b h.2.1 h.2.2
    have := h.1
    simp only [List.length_cons]
    omega
theorem boxes_len (l : List Int) : ∀ (m : Nat) (last : Int), (boxes l m last).length = m
  | 0, _ => rfl
  | m + 1, last => by
    show (boxes l m (pick l last m).1).length + 1 = m + 1
    rw [boxes_len l m]
theorem boxes_up {l : List Int} (hS : Small l) : ∀ (m : Nat), m ≤ 5 → ∀ last : Int, -1 ≤ last → last + m < l.length → Up l.length last (boxes l m last)
  | 0, _, _, _, _ => trivial
  | m + 1, hm, last, h1, hf => by
    obtain ⟨-, p2, p3, -, -⟩ := pick_is hS m (by omega) last h1 (by omega)
    exact ⟨p2, by omega, boxes_up hS m (by omega) _ (by omega) (by omega)⟩
theorem T_pick (l : List Int) (m b : Nat) : T l (m + 1) b = (pick l (b : Int) m).2 := by
  show iter (fun x c => min c (bw l b (x : Int) + T l m x)) (l.length - (b + 1)) (b + 1) 1099511627776 = (iter (fun x (p : Int × Int) => if bw l (b : Int) (x : Int) + T l m x < p.2 then ((x : Int), bw l (b : Int) (x : Int) + T l m x) else p) (l.length - ((b : Int) + 1).toNat) ((b : Int) + 1).toNat (-1, 1099511627776)).2
  rw [show ((b : Int) + 1).toNat = b + 1 by omega]
  refine iter_rel (fun _ (c : Int) (p : Int × Int) => c = p.2) _ _ _ _ _ _ (fun j c p _ _ e => ?_) rfl
  subst e
  (try dsimp only)
  split
  · (try dsimp only); omega
  · omega
theorem T_cost {l : List Int} (hS : Small l) : ∀ (m : Nat), m ≤ 5 → ∀ b : Nat, b + m < l.length → T l m b = cost l b (boxes l m b)
  | 0, _, _, _ => rfl
  | m + 1, hm, b, hb => by
    obtain ⟨-, p2, p3, p4, -⟩ := pick_is hS m (by omega) (b : Int) (by omega) (by omega)
    obtain ⟨p, hp⟩ := Int.eq_ofNat_of_zero_le (show 0 ≤ (pick l (b : Int) m).1 by omega)
    rw [T_pick, p4, hp, Int.toNat_natCast, T_cost hS m (by omega) p (by omega)]
    show _ = bw l b (pick l (b : Int) m).1 + cost l (pick l (b : Int) m).1 (boxes l m (pick l (b : Int) m).1)
    rw [hp]
theorem T_least {l : List Int} (hS : Small l) : ∀ (m : Nat), m ≤ 5 → ∀ (b : Nat) (bs : List Int), b < l.length → bs.length = m → Up l.length b bs → T l m b ≤ cost l b bs
  | 0, _, b, bs, _, hl, _ => by
    obtain rfl := List.length_eq_zero_iff.1 hl
    exact Int.le_refl _
  | m + 1, hm, b, bs, hb, hl, hu => by
    match bs, hl, hu with
    | x :: bs, hl, hu =>
      simp only [List.length_cons] at hl
      have ul := up_len bs x hu.2.1 hu.2.2
      have u1 := hu.1
      obtain ⟨y, rfl⟩ := Int.eq_ofNat_of_zero_le (show 0 ≤ x by omega)
      obtain ⟨-, -, -, -, p5⟩ := pick_is hS m (by omega) (b : Int) (by omega) (by omega)
      have a := p5 y (by omega) (by omega)
      have c := T_least hS m (by omega) y bs (by omega) (by omega) hu.2.2
      rw [T_pick]
      show _ ≤ bw l b y + cost l y bs
      omega
/-- The first boxes have the least walks. -/
theorem boxes_least {l : List Int} (hS : Small l) (m : Nat) (h1 : 1 ≤ m) (hm : m ≤ 5) (hn : m ≤ l.length) (bs : List Int) (hl : bs.length = m) (hu : Up l.length (-1) bs) : cost l (-1) (boxes l m (-1)) ≤ cost l (-1) bs := by
  obtain ⟨m, rfl⟩ : ∃ k, m = k + 1 := ⟨m - 1, by omega⟩
  obtain ⟨-, p2, p3, p4, p5⟩ := pick_is hS m (by omega) (-1) (by omega) (by omega)
  match bs, hl, hu with
  | x :: bs, hl, hu =>
    simp only [List.length_cons] at hl
    have ul := up_len bs x hu.2.1 hu.2.2
    have u1 := hu.1
    obtain ⟨y, rfl⟩ := Int.eq_ofNat_of_zero_le (show 0 ≤ x by omega)
    have a := p5 y (by omega) (by omega)
    have c := T_least hS m (by omega) y bs (by omega) (by omega) hu.2.2
    obtain ⟨p, hp⟩ := Int.eq_ofNat_of_zero_le (show 0 ≤ (pick l (-1) m).1 by omega)
    have d := T_cost hS m (by omega) p (by omega)
    rw [hp, Int.toNat_natCast] at p4
    show bw l (-1) (pick l (-1) m).1 + cost l (pick l (-1) m).1 (boxes l m (pick l (-1) m).1) ≤ bw l (-1) y + cost l y bs
    rw [hp]
    omega
/-- The way to the nearest of some boxes. -/
def nd : Int → List Int → Int → Int
  | x, [], h => ((x - h).natAbs : Int)
  | x, b :: bs, h => if ((b - h).natAbs : Int) < ((x - h).natAbs : Int) then nd b bs h else nd x bs h
theorem nd_near {n : Nat} : ∀ (bs : List Int) (b : Int) (h : Int), Up n b bs → h ≤ b → nd b bs h = b - h
  | [], b, h, _, hh => by show ((b - h).natAbs : Int) = b - h; omega
  | c :: bs, b, h, hu, hh => by
    have u1 := hu.1
    unfold nd
    rw [if_neg (by omega)]
    refine nd_near (n := n) bs b h ?_ hh
    match bs, hu.2.2 with
    | [], _ => trivial
    | d :: bs, hv => exact ⟨by have := hv.1; omega, hv.2⟩
theorem nd_left {n : Nat} : ∀ (bs : List Int) (x h : Int), Up n x bs → x ≤ h → (∀ b ∈ bs, h - x ≤ b - h) → nd x bs h = h - x
  | [], x, h, _, hh, _ => by show ((x - h).natAbs : Int) = h - x; omega
  | c :: bs, x, h, hu, hh, ha => by
    have a := ha c (by simp)
    have u1 := hu.1
    unfold nd
    rw [if_neg (by omega)]
    refine nd_left (n := n) bs x h ?_ hh (fun b hb => ha b (by simp [hb]))
    match bs, hu.2.2 with
    | [], _ => trivial
    | d :: bs, hv => exact ⟨by have := hv.1; omega, hv.2⟩
theorem up_gt {n : Nat} : ∀ (bs : List Int) (x : Int), Up n x bs → ∀ b ∈ bs, x < b
  | [], _, _, b, hb => by simp at hb
  | c :: bs, x, hu, b, hb => by
    rcases List.mem_cons.1 hb with rfl | hb
    · exact hu.1
    · have := up_gt bs c hu.2.2 b hb
      have := hu.1
      omega
theorem nd_step {n : Nat} (x b : Int) (bs : List Int) (h : Int) (hu : Up n x (b :: bs)) (hx : x ≤ h) : nd x (b :: bs) h = if h < b then min (h - x) (b - h) else nd b bs h := by
  have u1 := hu.1
  have e : nd x (b :: bs) h = if ((b - h).natAbs : Int) < ((x - h).natAbs : Int) then nd b bs h else nd x bs h := rfl
  rw [e]
  by_cases c : h < b
  · rw [if_pos c]
    by_cases d : ((b - h).natAbs : Int) < ((x - h).natAbs : Int)
    · rw [if_pos d, nd_near bs b h hu.2.2 (by omega)]
      omega
    · rw [if_neg d]
      have hv : Up n x bs := by
        match bs, hu.2.2 with
        | [], _ => trivial
        | e :: bs, hv => exact ⟨by have := hv.1; omega, hv.2⟩
      rw [nd_left bs x h hv hx (fun y hy => by have := up_gt bs b hu.2.2 y hy; omega)]
      omega
  · rw [if_neg c]
    by_cases d : ((b - h).natAbs : Int) < ((x - h).natAbs : Int)
    · rw [if_pos d]
    · omega
theorem cost_nd (l : List Int) : ∀ (bs : List Int) (i : Nat), i < l.length → Up l.length i bs → iter (fun h c => c + rd l (h : Int) * nd i bs h) (l.length - i) i 0 = cost l i bs
  | [], i, hi, _ => by
    show _ = iter (fun h c => c + rd l (h : Int) * far l.length i l.length h) ((min (l.length : Int) (l.length : Int)).toNat - (max 0 (i : Int)).toNat) (max 0 (i : Int)).toNat 0
    rw [show (min (l.length : Int) (l.length : Int)).toNat = l.length by omega, show (max 0 (i : Int)).toNat = i by omega]
    refine iter_cong _ _ _ _ _ (fun j c h1 h2 => ?_)
    have e1 : nd (i : Int) [] (j : Int) = (j : Int) - i := by show (((i : Int) - j).natAbs : Int) = _; omega
    have e2 : far l.length i l.length j = (j : Int) - i := by unfold far; rw [if_neg (by omega), if_pos (by omega)]
    rw [e1, e2]
  | b :: bs, i, hi, hu => by
    have u1 := hu.1
    have u2 := hu.2.1
    obtain ⟨y, rfl⟩ := Int.eq_ofNat_of_zero_le (show 0 ≤ b by omega)
    have ih := cost_nd l bs y (by omega) hu.2.2
    rw [show l.length - i = (y - i) + (l.length - y) by omega, iter_add, show i + (y - i) = y by omega]
    show _ = bw l i (y : Int) + cost l (y : Int) bs
    rw [← ih]
    have e1 : iter (fun h c => c + rd l (h : Int) * nd i ((y : Int) :: bs) h) (y - i) i 0 = bw l i (y : Int) := by
      show _ = iter (fun h c => c + rd l (h : Int) * far l.length i y h) ((min (y : Int) (l.length : Int)).toNat - (max 0 (i : Int)).toNat) (max 0 (i : Int)).toNat 0
      rw [show (min (y : Int) (l.length : Int)).toNat = y by omega, show (max 0 (i : Int)).toNat = i by omega]
      refine iter_cong _ _ _ _ _ (fun j c h1 h2 => ?_)
      rw [nd_step (i : Int) y bs j hu (by omega), if_pos (by omega)]
      have e2 : far l.length i y j = min ((j : Int) - i) (y - j) := by unfold far; rw [if_neg (by omega), if_neg (by omega)]
      rw [e2]
    rw [e1, iter_plus (fun h => rd l (h : Int) * nd i ((y : Int) :: bs) h)]
    congr 1
    refine iter_cong _ _ _ _ _ (fun j c h1 h2 => ?_)
    (try dsimp only)
    rw [nd_step (i : Int) y bs j hu (by omega), if_neg (by omega)]
/-- The walks of all to some boxes. -/
theorem cost_all (l : List Int) (b : Int) (bs : List Int) (hu : Up l.length (-1) (b :: bs)) : iter (fun h c => c + rd l (h : Int) * nd b bs h) l.length 0 0 = cost l (-1) (b :: bs) := by
  have u1 := hu.1
  have u2 := hu.2.1
  obtain ⟨y, rfl⟩ := Int.eq_ofNat_of_zero_le (show 0 ≤ b by omega)
  have ih := cost_nd l bs y (by omega) hu.2.2
  rw [show l.length = y + (l.length - y) by omega, iter_add, Nat.zero_add]
  show _ = bw l (-1) (y : Int) + cost l (y : Int) bs
  rw [← ih]
  have e1 : iter (fun h c => c + rd l (h : Int) * nd (y : Int) bs h) y 0 0 = bw l (-1) (y : Int) := by
    show _ = iter (fun h c => c + rd l (h : Int) * far l.length (-1) y h) ((min (y : Int) (l.length : Int)).toNat - (max 0 (-1 : Int)).toNat) (max 0 (-1 : Int)).toNat 0
    rw [show (min (y : Int) (l.length : Int)).toNat = y by omega, show (max 0 (-1 : Int)).toNat = 0 by omega]
    refine iter_cong _ _ _ _ _ (fun j c h1 h2 => ?_)
    rw [nd_near bs y j hu.2.2 (by omega)]
    have e2 : far l.length (-1) y j = (y : Int) - j := by unfold far; rw [if_pos (by omega)]
    rw [e2]
  rw [e1, iter_plus (fun h => rd l (h : Int) * nd (y : Int) bs h)]

theorem spec_least (a b : Int) : spec_l1Least.f a b = some (min a b) := by
  unfold spec_l1Least.f
  split <;> congr 1 <;> omega
theorem small_q {l : List Int} (h : Q l) : Small l := ⟨h.1, fun v hv => by
  obtain ⟨j, hj, rfl⟩ := List.getElem_of_mem hv
  have := h.2 j
  rw [rd_lt l j hj] at this
  exact this⟩
/-- The walks between two boxes, in the reference. -/
theorem part_f {l : List Int} (hS : Small l) (i tt : Int) (hi : -1 ≤ i) (ht : 0 ≤ tt) (hn : tt ≤ l.length) (hor : 0 ≤ i ∨ tt < l.length) : Ev (fun k => spec_mdPart.f k l i tt) (bw l i tt) := by
  obtain ⟨t, rfl⟩ := Int.eq_ofNat_of_zero_le ht
  have n60 := hS.1.2
  have key : ∀ h : Nat, h ≤ t → max 0 i ≤ h → ∀ c : Int, 0 ≤ c → c ≤ 60000 * h → Ev (fun k => spec_mdPart.l0 k l i t c h) (iter (fun h c => c + rd l (h : Int) * far l.length i t h) (t - h) h c) := by
    refine down t ?_ ?_
    · intro _ c _ _
      refine succ ?_
      simp only [spec_mdPart.l0, spec_least, Option.bind_some]
      rw [Nat.sub_self]
      exact neg (by omega) (now _)
    · intro h hh ih hm c c0 c1
      have hf := impl_firstBoxes.far_small (n := l.length) (i := i) (k := (t : Int)) (h := h) hi hn n60 hm (by omega)
      have hp := impl_firstBoxes.prod_small (impl_firstBoxes.Small.at hS h) hf
      have e : iter (fun h c => c + rd l (h : Int) * far l.length i t h) (t - h) h c = iter (fun h c => c + rd l (h : Int) * far l.length i t h) (t - (h + 1)) (h + 1) (c + rd l (h : Int) * far l.length i t h) := impl_firstBoxes.iter_step _ _ _ hh _
      rw [e]
      have nx := ih (by omega) (c + rd l (h : Int) * far l.length i t h) (by omega) (by omega)
      clear ih e
      refine succ ?_
      simp only [spec_mdPart.l0, spec_least, Option.bind_some]
      rw [wnat (by omega)]
      refine pos (by omega) ?_
      by_cases c1 : i ≥ 0
      · refine pos c1 ?_
        by_cases c2 : (t : Int) < l.length
        · have ef : min (wrap64 ((h : Int) - i)) (wrap64 ((t : Int) - h)) = far l.length i t h := by
            unfold far
            rw [if_neg (by omega), if_neg (by omega), w64 (by omega) (by omega), w64 (by omega) (by omega)]
          rw [ef, w64 (x := rd l (h : Int) * far l.length i t h) (by omega) (by omega), w64 (x := c + rd l (h : Int) * far l.length i t h) (by omega) (by omega)]
          exact pos c2 (pos (by omega) (pos (by omega) nx))
        · have ef : wrap64 ((h : Int) - i) = far l.length i t h := by
            unfold far
            rw [if_neg (by omega), if_pos (by omega), w64 (by omega) (by omega)]
          refine neg c2 ?_
          rw [ef, w64 (x := rd l (h : Int) * far l.length i t h) (by omega) (by omega), w64 (x := c + rd l (h : Int) * far l.length i t h) (by omega) (by omega)]
          exact pos (by omega) (pos (by omega) nx)
      · have ef : min 1000000000 (wrap64 ((t : Int) - h)) = far l.length i t h := by
          unfold far
          rw [if_pos (by omega), w64 (by omega) (by omega)]
          omega
        rw [ef, w64 (x := rd l (h : Int) * far l.length i t h) (by omega) (by omega), w64 (x := c + rd l (h : Int) * far l.length i t h) (by omega) (by omega)]
        exact neg c1 (pos (by omega) (pos (by omega) (pos (by omega) nx)))
  unfold spec_mdPart.f
  rw [spec_most]
  refine bindSome rfl ?_
  obtain ⟨s, hs⟩ := Int.eq_ofNat_of_zero_le (show 0 ≤ max i 0 by omega)
  rw [hs]
  have e : bw l i t = iter (fun h c => c + rd l (h : Int) * far l.length i t h) (t - s) s 0 := by
    unfold bw
    rw [show (min (t : Int) (l.length : Int)).toNat = t by omega, show (max 0 i).toNat = s by omega]
  rw [e]
  by_cases c : s ≤ t
  · exact key s c (by omega) 0 (by omega) (by omega)
  · rw [show t - s = 0 by omega]
    refine succ ?_
    simp only [spec_mdPart.l0, spec_least, Option.bind_some]
    exact neg (by omega) (now _)
/-- A row of the reference's table. -/
def rowS (l : List Int) (m : Nat) (n : Nat) : List Int := (List.range n).map fun b => S l m b
theorem rowS_len (l : List Int) (m n : Nat) : (rowS l m n).length = n := by simp [rowS]
theorem rowS_succ (l : List Int) (m n : Nat) : rowS l m n ++ [S l m n] = rowS l m (n + 1) := by simp [rowS, List.range_succ]
theorem rowS_rd (l : List Int) (m n b : Nat) (h : b < n) : rd (rowS l m n) (b : Int) = S l m b := by
  rw [rd_lt _ _ (by rw [rowS_len]; exact h)]
  simp [rowS]
def tabS (l : List Int) (m : Nat) : List (List Int) := (List.range m).map fun j => rowS l j l.length
theorem tabS_len (l : List Int) (m : Nat) : (tabS l m).length = m := by simp [tabS]
theorem tabS_succ (l : List Int) (m : Nat) : tabS l m ++ [rowS l m l.length] = tabS l (m + 1) := by simp [tabS, List.range_succ]
theorem tabS_rd (l : List Int) (m j : Nat) (h : j < m) : rd_L2 (tabS l m) (j : Int) = rowS l j l.length := by
  unfold rd_L2 tabS
  rw [Int.toNat_natCast]
  simp [List.getD_eq_getElem?_getD, List.getElem?_map, List.getElem?_range h]
theorem S_small {l : List Int} (hS : Small l) (m : Nat) (hm : m ≤ 5) (b : Nat) (hb : b < l.length) : 0 ≤ S l m b ∧ S l m b ≤ 1000000000 := by
  have z := TS hS m hm b hb
  by_cases c : b + m < l.length
  · obtain ⟨e1, e2, e3⟩ := z.1 c
    omega
  · obtain ⟨e1, e2⟩ := z.2 (by omega)
    omega
theorem rest_l3 {l : List Int} (hS : Small l) (many m : Nat) (hm : m ≤ 4) (b : Nat) (hb : b < l.length) (r : List (List Int)) (row : List Int) (hr : row.length ≤ 60)
    (K : Ev (fun k => spec_mdRest.l2 k l many l.length (tabS l (m + 1)) ((m + 1 : Nat) : Int) (row ++ [S l (m + 1) b]) ((b + 1 : Nat) : Int)) r) : Ev (fun k => spec_mdRest.l3 k l many l.length (tabS l (m + 1)) ((m + 1 : Nat) : Int) row b 1000000000 ((b + 1 : Nat) : Int)) r := by
  have n60 := hS.1.2
  have key : ∀ x : Nat, x ≤ l.length → b + 1 ≤ x → ∀ c : Int, iter (fun x c => min c (bw l b (x : Int) + S l m x)) (l.length - x) x c = S l (m + 1) b → Ev (fun k => spec_mdRest.l3 k l many l.length (tabS l (m + 1)) ((m + 1 : Nat) : Int) row b c x) r := by
    refine down l.length ?_ ?_
    · intro _ c hc
      rw [Nat.sub_self] at hc
      have hc : c = S l (m + 1) b := hc
      subst hc
      refine succ ?_
      simp only [spec_mdRest.l3]
      rw [wnat (i := b) (by omega)]
      exact neg (by omega) (pos (by omega) K)
    · intro x hx ih hbx c hc
      rw [impl_firstBoxes.iter_step _ _ _ hx] at hc
      have hB := bw_nat hS (i := (b : Int)) (by omega) x (by omega)
      have hs := S_small hS m (by omega) x hx
      refine succ ?_
      simp only [spec_mdRest.l3]
      rw [wnat (by omega), w64 (x := ((m + 1 : Nat) : Int) - 1) (by omega) (by omega), show ((m + 1 : Nat) : Int) - 1 = (m : Int) by omega, tabS_rd l (m + 1) m (by omega), rowS_len, rowS_rd l m _ x hx, tabS_len]
      refine pos (by omega) (bind (part_f hS b x (by omega) (by omega) (by omega) (by omega)) (pos (by omega) (pos (by omega) (pos (by omega) (pos (by omega) ?_)))))
      rw [spec_least, w64 (by omega) (by omega)]
      exact bindSome rfl (ih (by omega) _ hc)
  exact key (b + 1) (by omega) (by omega) _ rfl
theorem rest_f {l : List Int} (hS : Small l) (many : Nat) (h1 : 1 ≤ many) (h5 : many ≤ 5) : Ev (fun k => spec_mdRest.f k l many) (tabS l many) := by
  have n60 := hS.1.2
  have l2 : ∀ m : Nat, m ≤ 4 → m + 1 < many → Ev (fun k => spec_mdRest.l1 k l many l.length (tabS l (m + 2)) ((m + 2 : Nat) : Int)) (tabS l many) → ∀ b : Nat, b ≤ l.length → Ev (fun k => spec_mdRest.l2 k l many l.length (tabS l (m + 1)) ((m + 1 : Nat) : Int) (rowS l (m + 1) b) b) (tabS l many) := by
    intro m hm hmm K
    refine down l.length ?_ ?_
    · refine succ ?_
      simp only [spec_mdRest.l2]
      rw [w64 (x := ((m + 1 : Nat) : Int) + 1) (by omega) (by omega), show ((m + 1 : Nat) : Int) + 1 = ((m + 2 : Nat) : Int) by omega, tabS_succ]
      exact neg (by omega) (pos (by rw [tabS_len]; omega) K)
    · intro b hb ih
      refine succ ?_
      simp only [spec_mdRest.l2]
      rw [wnat (by omega)]
      refine pos (by omega) (rest_l3 hS many m hm b hb _ _ (by rw [rowS_len]; omega) ?_)
      rw [rowS_succ]
      exact ih
  have l1 : ∀ m : Nat, m ≤ many → 1 ≤ m → Ev (fun k => spec_mdRest.l1 k l many l.length (tabS l m) m) (tabS l many) := by
    refine down many ?_ ?_
    · intro _
      refine succ ?_
      simp only [spec_mdRest.l1]
      exact neg (by omega) (now _)
    · intro m hm ih h
      obtain ⟨m, rfl⟩ : ∃ j, m = j + 1 := ⟨m - 1, by omega⟩
      refine succ ?_
      simp only [spec_mdRest.l1]
      exact pos (by omega) (l2 m (by omega) (by omega) (ih (by omega)) 0 (by omega))
  have l0 : ∀ b : Nat, b ≤ l.length → Ev (fun k => spec_mdRest.l0 k l many l.length (rowS l 0 b) b) (tabS l many) := by
    refine down l.length ?_ ?_
    · refine succ ?_
      simp only [spec_mdRest.l0]
      exact neg (by omega) (pos (by simp) (l1 1 h1 (Nat.le_refl _)))
    · intro b hb ih
      refine succ ?_
      simp only [spec_mdRest.l0]
      rw [wnat (by omega)]
      refine pos (by omega) (bind (part_f hS b l.length (by omega) (by omega) (by omega) (by omega)) (pos (by rw [rowS_len]; omega) ?_))
      have z := rowS_succ l 0 b
      rw [show S l 0 b = bw l b (l.length : Int) from rfl] at z
      rw [z]
      exact ih
  unfold spec_mdRest.f
  exact l0 0 (by omega)
theorem cost_small {l : List Int} (hS : Small l) : ∀ (bs : List Int) (i : Int), -1 ≤ i → Up l.length i bs → 0 ≤ cost l i bs ∧ cost l i bs ≤ 3600000 * (bs.length + 1 : Nat)
  | [], i, hi, _ => by
    have z := bw_nat hS hi l.length (Nat.le_refl _)
    show 0 ≤ bw l i (l.length : Int) ∧ bw l i (l.length : Int) ≤ 3600000 * (0 + 1 : Nat)
    omega
  | b :: bs, i, hi, hu => by
    have u1 := hu.1
    have u2 := hu.2.1
    obtain ⟨y, rfl⟩ := Int.eq_ofNat_of_zero_le (show 0 ≤ b by omega)
    have z := bw_nat hS hi y (by omega)
    have c := cost_small hS bs y (by omega) hu.2.2
    show 0 ≤ bw l i y + cost l y bs ∧ bw l i y + cost l y bs ≤ 3600000 * (bs.length + 1 + 1 : Nat)
    omega
theorem first_l1 {l : List Int} (hS : Small l) (many m : Nat) (hm : m < many) (h5 : many ≤ 5) (last : Int) (h1 : -1 ≤ last) (hf : last + 1 + m < l.length) (acc : List Int) (ha : acc.length ≤ 60) (tot : Int) (t0 : 0 ≤ tot) (t1 : tot ≤ 100000000) (r : List Int × Int)
    (K : Ev (fun k => spec_mdFirst.l0 k l (tabS l many) (acc ++ [(pick l last m).1]) (tot + bw l last (pick l last m).1) (pick l last m).1 ((m : Int) - 1)) r) : Ev (fun k => spec_mdFirst.l1 k l (tabS l many) acc tot last m (-1) 1000000000 (last + 1)) r := by
  have n60 := hS.1.2
  obtain ⟨p1, p2, p3, -, -⟩ := pick_is hS m (by omega) last h1 hf
  have key : ∀ x : Nat, x ≤ l.length → ∀ p : Int × Int, iter (fun x (p : Int × Int) => if bw l last (x : Int) + S l m x < p.2 then ((x : Int), bw l last (x : Int) + S l m x) else p) (l.length - x) x p = pickS l last m → Ev (fun k => spec_mdFirst.l1 k l (tabS l many) acc tot last m p.1 p.2 x) r := by
    refine down l.length ?_ ?_
    · intro p hp
      rw [Nat.sub_self] at hp
      have hp : p = pickS l last m := hp
      subst hp
      obtain ⟨q, hq⟩ := Int.eq_ofNat_of_zero_le (show 0 ≤ (pick l last m).1 by omega)
      have hB := bw_nat hS h1 q (by omega)
      rw [← hq] at hB
      refine succ ?_
      simp only [spec_mdFirst.l1]
      rw [p1]
      refine neg (by omega) (bind (part_f hS last _ h1 (by omega) (by omega) (by omega)) (pos (by omega) ?_))
      rw [wsub1 (by omega), w64 (by omega) (by omega)]
      exact K
    · intro x hx ih p hp
      rw [impl_firstBoxes.iter_step _ _ _ hx] at hp
      have hB := bw_nat hS h1 x (by omega)
      have hs := S_small hS m (by omega) x hx
      refine succ ?_
      simp only [spec_mdFirst.l1]
      rw [wnat (by omega), tabS_rd l many m hm, rowS_len, rowS_rd l m _ x hx, tabS_len]
      refine pos (by omega) (bind (part_f hS last x h1 (by omega) (by omega) (by omega)) (pos (by omega) (pos (by omega) (pos (by omega) (pos (by omega) ?_)))))
      rw [w64 (by omega) (by omega)]
      by_cases c : bw l last (x : Int) + S l m x < p.2
      · rw [if_pos c] at hp
        exact pos c (ih _ hp)
      · rw [if_neg c] at hp
        exact neg c (ih _ hp)
  obtain ⟨s, hs⟩ := Int.eq_ofNat_of_zero_le (show 0 ≤ last + 1 by omega)
  have z := key s (by omega) (-1, 1000000000) (by unfold pickS; rw [hs, Int.toNat_natCast])
  rw [hs]
  exact z
theorem first_l0 {l : List Int} (hS : Small l) (many : Nat) (h5 : many ≤ 5) : ∀ (m : Nat), m ≤ many → ∀ (last : Int), -1 ≤ last → (m = 0 → 0 ≤ last) → last + m < l.length → ∀ (acc : List Int) (tot : Int), acc.length + m ≤ 5 → 0 ≤ tot → tot ≤ 3600000 * acc.length →
    Ev (fun k => spec_mdFirst.l0 k l (tabS l many) acc tot last ((m : Int) - 1)) (acc ++ boxes l m last, tot + cost l last (boxes l m last))
  | 0, _, last, h1, h0, hf, acc, tot, ha, t0, t1 => by
    have n60 := hS.1.2
    have hB := bw_nat hS h1 l.length (Nat.le_refl _)
    refine succ ?_
    simp only [spec_mdFirst.l0]
    refine neg (by omega) (bind (part_f hS last l.length h1 (by omega) (by omega) (.inl (h0 rfl))) (conv (now _) ?_))
    rw [w64 (by omega) (by omega)]
    show (acc, tot + bw l last (l.length : Int)) = (acc ++ [], tot + bw l last (l.length : Int))
    rw [List.append_nil]
  | m + 1, hm, last, h1, h0, hf, acc, tot, ha, t0, t1 => by
    have n60 := hS.1.2
    obtain ⟨p1, p2, p3, -, -⟩ := pick_is hS m (by omega) last h1 (by omega)
    obtain ⟨q, hq⟩ := Int.eq_ofNat_of_zero_le (show 0 ≤ (pick l last m).1 by omega)
    have hB := bw_nat hS h1 q (by omega)
    rw [← hq] at hB
    refine succ ?_
    simp only [spec_mdFirst.l0]
    rw [show ((m + 1 : Nat) : Int) - 1 = (m : Int) by omega, w64 (x := last + 1) (by omega) (by omega)]
    refine pos (by omega) (first_l1 hS many m (by omega) h5 last h1 (by omega) acc (by omega) tot t0 (by omega) _ ?_)
    have z := first_l0 hS many h5 m (by omega) (pick l last m).1 (by omega) (fun _ => by omega) (by omega) (acc ++ [(pick l last m).1]) (tot + bw l last (pick l last m).1) (by simp; omega) (by omega) (by simp; omega)
    refine conv z ?_
    show (acc ++ [(pick l last m).1] ++ boxes l m (pick l last m).1, tot + bw l last (pick l last m).1 + cost l (pick l last m).1 (boxes l m (pick l last m).1)) = (acc ++ ((pick l last m).1 :: boxes l m (pick l last m).1), tot + (bw l last (pick l last m).1 + cost l (pick l last m).1 (boxes l m (pick l last m).1)))
    rw [List.append_assoc, Int.add_assoc]
    rfl
theorem first_f {l : List Int} (hS : Small l) (many : Nat) (h1 : 1 ≤ many) (h5 : many ≤ 5) (hn : many ≤ l.length) : Ev (fun k => spec_mdFirst.f k l many) (boxes l many (-1), cost l (-1) (boxes l many (-1))) := by
  unfold spec_mdFirst.f
  rw [wsub1 (by omega)]
  refine bind (rest_f hS many h1 h5) ?_
  have z := first_l0 hS many h5 many (Nat.le_refl _) (-1) (by omega) (by omega) (by omega) [] 0 (by simpa using h5) (by omega) (by simp)
  refine conv z ?_
  rw [List.nil_append, Int.zero_add]
theorem firstBoxes_f {l : List Int} (hS : Small l) (many : Int) (h1 : 1 ≤ many) (h5 : many ≤ 5) : Ev (fun k => impl_firstBoxes.f k l many) (boxes l many.toNat (-1)) := by
  refine ⟨1, fun k hk => ?_⟩
  obtain ⟨k, rfl⟩ : ∃ j, k = j + 1 := ⟨k - 1, by omega⟩
  unfold impl_firstBoxes.f
  exact if_pos ⟨hS, h1, h5⟩
theorem many_spec (l : List Int) (a : Int) (hx : l.length ≤ 35184372088832) : Ev (fun k => spec_mdMany.f k l a) (decide (People l ∧ 1 ≤ a ∧ a ≤ min 5 (l.length : Int))) := by
  unfold spec_mdMany.f
  refine bind (good_spec l hx) ?_
  by_cases c : People l
  · refine pos (by simpa using c) ?_
    rw [spec_least]
    refine bindSome rfl ?_
    rw [spec_in]
    exact bindSome rfl (conv (now _) (by simp [c]))
  · exact neg (by simpa using c) (conv (now _) (by simp [c]))
theorem many_impl (l : List Int) (a : Int) (hx : l.length ≤ 35184372088832) : Ev (fun k => impl_areMany.f k l a) (decide (People l ∧ 1 ≤ a ∧ a ≤ min 5 (l.length : Int))) := by
  unfold impl_areMany.f
  refine bind (good_impl l hx) ?_
  by_cases c : People l
  · refine pos (by simpa using c) ?_
    rw [impl_in, show mn 5 (l.length : Int) = min 5 (l.length : Int) by unfold mn; split <;> omega]
    exact bindSome rfl (conv (now _) (by simp [c]))
  · exact neg (by simpa using c) (conv (now _) (by simp [c]))
theorem boxes_spec (l : List Int) (a : Int) (hx : l.length ≤ 35184372088832) : Ev (fun k => spec_FirstBoxes.f k l a) (if People l ∧ 1 ≤ a ∧ a ≤ min 5 (l.length : Int) then (boxes l a.toNat (-1), true) else ([], false)) := by
  unfold spec_FirstBoxes.f
  refine bind (many_spec l a hx) ?_
  by_cases c : People l ∧ 1 ≤ a ∧ a ≤ min 5 (l.length : Int)
  · rw [if_pos c]
    obtain ⟨m, rfl⟩ := Int.eq_ofNat_of_zero_le (show 0 ≤ a by omega)
    exact pos (by simpa using c) (bind (first_f (small_q (people_q c.1)) m (by omega) (by omega) (by omega)) (now _))
  · rw [if_neg c]
    exact neg (by simpa using c) (now _)
theorem boxes_impl (l : List Int) (a : Int) (hx : l.length ≤ 35184372088832) : Ev (fun k => impl_FirstBoxes.f k l a) (if People l ∧ 1 ≤ a ∧ a ≤ min 5 (l.length : Int) then (boxes l a.toNat (-1), true) else ([], false)) := by
  unfold impl_FirstBoxes.f
  refine bind (many_impl l a hx) ?_
  by_cases c : People l ∧ 1 ≤ a ∧ a ≤ min 5 (l.length : Int)
  · rw [if_pos c]
    exact pos (by simpa using c) (bind (firstBoxes_f (small_q (people_q c.1)) a (by omega) (by omega)) (now _))
  · rw [if_neg c]
    exact neg (by simpa using c) (now _)

theorem up_in {n : Nat} : ∀ (bs : List Int) (x : Int), Up n x bs → ∀ b ∈ bs, x < b ∧ b < n
  | [], _, _, b, hb => by simp at hb
  | c :: bs, x, hu, b, hb => by
    have u1 := hu.1
    rcases List.mem_cons.1 hb with rfl | hb
    · exact ⟨hu.1, hu.2.1⟩
    · have := up_in bs c hu.2.2 b hb
      omega
/-- The nearest of some boxes. -/
def nr : Int → List Int → Int → Int
  | x, [], _ => x
  | x, b :: bs, h => if dist b h < dist x h then nr b bs h else nr x bs h
theorem nr_nd : ∀ (bs : List Int) (x h : Int), nd x bs h = dist (nr x bs h) h
  | [], x, h => rfl
  | b :: bs, x, h => by
    unfold nd nr
    by_cases c : dist b h < dist x h
    · rw [if_pos c, if_pos (show ((b - h).natAbs : Int) < ((x - h).natAbs : Int) from c), nr_nd bs b h]
    · rw [if_neg c, if_neg (show ¬ ((b - h).natAbs : Int) < ((x - h).natAbs : Int) from c), nr_nd bs x h]
theorem nr_mem : ∀ (bs : List Int) (x h : Int), nr x bs h ∈ x :: bs
  | [], x, h => by simp [nr]
  | b :: bs, x, h => by
    unfold nr
    split
    · exact List.mem_cons_of_mem _ (nr_mem bs b h)
    · rcases List.mem_cons.1 (nr_mem bs x h) with e | e
      · rw [e]; simp
      · simp [e]
/-- All in a street of so many houses. -/
def Inn (n : Nat) (bs : List Int) : Prop := ∀ b ∈ bs, 0 ≤ b ∧ b < n
theorem inn_rd {n : Nat} {bs : List Int} (h : Inn n bs) (i : Nat) (hi : i < bs.length) : 0 ≤ rd bs (i : Int) ∧ rd bs (i : Int) < n := h _ (rd_mem bs i hi)
theorem impl_near (n : Nat) (hn : n ≤ 60) (b : Int) (bs : List Int) (hb : Inn n (b :: bs)) (hl : (b :: bs).length ≤ 1000) (h : Int) (h0 : 0 ≤ h) (h1 : h ≤ 60) : Ev (fun k => impl_nearestBox.f k (b :: bs) h) (nr b bs h) := by
  have key : ∀ i : Nat, i ≤ (b :: bs).length → ∀ x : Int, 0 ≤ x → x ≤ 60 → Ev (fun k => impl_nearestBox.l0 k h x (b :: bs) (b :: bs).length i) (nr x ((b :: bs).drop i) h) := by
    refine down (b :: bs).length ?_ ?_
    · intro x _ _
      refine succ ?_
      simp only [impl_nearestBox.l0]
      rw [List.drop_length]
      exact neg (by omega) (now _)
    · intro i hi ih x x0 x1
      have hr := inn_rd hb i hi
      refine succ ?_
      simp only [impl_nearestBox.l0]
      rw [wnat (by omega), impl_absd _ _ (by omega) (by omega), impl_absd _ _ (by omega) (by omega)]
      refine pos (by omega) (pos (by omega) (pos (by omega) (bind (now _) (bind (now _) ?_))))
      rw [List.drop_eq_getElem_cons hi, ← rd_lt _ i hi]
      unfold nr
      by_cases c : dist (rd (b :: bs) (i : Int)) h < dist x h
      · rw [if_pos c]
        exact pos c (ih _ (by omega) (by omega))
      · rw [if_neg c]
        exact neg c (ih _ x0 x1)
  have hb0 := hb b (by simp)
  have z := key 0 (by omega) b (by omega) (by omega)
  unfold impl_nearestBox.f
  refine pos (by simp) ?_
  rw [show rd (b :: bs) 0 = b from rfl]
  refine conv z ?_
  rw [List.drop_zero]
  show (if dist b h < dist b h then _ else _) = _
  rw [if_neg (by omega)]
theorem nd_small (n : Nat) (hn : n ≤ 60) (b : Int) (bs : List Int) (hb : Inn n (b :: bs)) (h : Nat) (hh : h < n) : 0 ≤ nd b bs h ∧ nd b bs h ≤ 60 := by
  rw [nr_nd]
  have z := hb _ (nr_mem bs b h)
  unfold dist
  omega
theorem impl_sum {l : List Int} (hS : Small l) (b : Int) (bs : List Int) (hb : Inn l.length (b :: bs)) (hl : (b :: bs).length ≤ 1000) : Ev (fun k => impl_boxesSum.f k l (b :: bs)) (iter (fun h c => c + rd l (h : Int) * nd b bs h) l.length 0 0) := by
  have n60 := hS.1.2
  have key : ∀ h : Nat, h ≤ l.length → ∀ c : Int, 0 ≤ c → c ≤ 60000 * h → Ev (fun k => impl_boxesSum.l0 k (b :: bs) c l l.length h) (iter (fun h c => c + rd l (h : Int) * nd b bs h) (l.length - h) h c) := by
    refine down l.length ?_ ?_
    · intro c _ _
      refine succ ?_
      simp only [impl_boxesSum.l0]
      rw [Nat.sub_self]
      exact neg (by omega) (now _)
    · intro h hh ih c c0 c1
      have hd := nd_small l.length n60 b bs hb h hh
      have hp := impl_firstBoxes.prod_small (impl_firstBoxes.Small.at hS h) hd
      have hm := hb _ (nr_mem bs b h)
      rw [impl_firstBoxes.iter_step _ _ _ hh]
      have nx := ih (c + rd l (h : Int) * nd b bs h) (by omega) (by omega)
      clear ih
      refine succ ?_
      simp only [impl_boxesSum.l0]
      rw [wnat (by omega)]
      refine pos (by omega) (pos (by omega) (pos (by omega) (bind (impl_near l.length n60 b bs hb hl h (by omega) (by omega)) ?_)))
      rw [impl_absd _ _ (by omega) (by omega), ← nr_nd]
      refine bind (now _) ?_
      rw [w64 (x := rd l (h : Int) * nd b bs h) (by omega) (by omega), w64 (by omega) (by omega)]
      exact nx
  unfold impl_boxesSum.f
  exact key 0 (by omega) 0 (by omega) (by omega)
theorem up_inn {n : Nat} {bs : List Int} (h : Up n (-1) bs) : Inn n bs := fun b hb => by
  have := up_in bs (-1) h b hb
  omega
/-- What boxes cost, in the program. -/
theorem impl_cost {l : List Int} (hS : Small l) (bs : List Int) (h1 : 1 ≤ bs.length) (hl : bs.length ≤ 1000) (hu : Up l.length (-1) bs) : Ev (fun k => impl_boxesSum.f k l bs) (cost l (-1) bs) := by
  match bs, h1 with
  | b :: bs, _ => exact conv (impl_sum hS b bs (up_inn hu) hl) (cost_all l b bs hu)

/-- Rising numbers of houses. -/
def RisesFrom (xs : List Int) (a b : Int) (i : Nat) : Prop := ∀ j : Nat, i ≤ j → (h : j < xs.length) → (a ≤ xs[j] ∧ xs[j] ≤ b) ∧ (0 < j → xs[j - 1]'(by omega) < xs[j])
theorem risesFrom_end (xs : List Int) (a b : Int) : RisesFrom xs a b xs.length := fun j h1 h2 => by omega
theorem risesFrom_step (xs : List Int) (a b : Int) (i : Nat) (hi : i < xs.length) : RisesFrom xs a b i ↔ ((a ≤ xs[i] ∧ xs[i] ≤ b) ∧ (0 < i → xs[i - 1]'(by omega) < xs[i])) ∧ RisesFrom xs a b (i + 1) := by
  constructor
  · intro g; exact ⟨g i (Nat.le_refl _) hi, fun j h1 h2 => g j (by omega) h2⟩
  · rintro ⟨g, r⟩ j h1 h2
    by_cases e : j = i
    · subst e; exact g
    · exact r j (by omega) h2
open Classical in
theorem spec_l1Rising_l0 (xs : List Int) (a b : Int) (hx : xs.length ≤ 35184372088832) : ∀ i : Nat, i ≤ xs.length → Ev (fun k => spec_l1Rising.l0 k xs a b xs xs.length i) (decide (RisesFrom xs a b i)) := by
  refine down xs.length ?_ ?_
  · refine succ ?_
    simp only [spec_l1Rising.l0]
    exact neg (by omega) (conv (now _) (by simp [risesFrom_end]))
  · intro i hi ih
    refine succ ?_
    simp only [spec_l1Rising.l0, spec_in, Option.bind_some]
    rw [wnat (by omega), wsub1 (by omega)]
    refine pos (by omega) (pos (by omega) (pos (by omega) ?_))
    rw [rd_lt xs i hi]
    by_cases e : a ≤ xs[i] ∧ xs[i] ≤ b
    · refine pos (by simpa using e) ?_
      by_cases z : (i : Int) > 0
      · refine pos z (pos (by omega) (pos (by omega) ?_))
        have ei : (i : Int) - 1 = ((i - 1 : Nat) : Int) := by omega
        rw [ei, rd_lt xs (i - 1) (by omega)]
        by_cases f : xs[i - 1] ≥ xs[i]
        · refine pos f (conv (now _) (Eq.symm (decide_eq_false ?_)))
          rw [risesFrom_step xs a b i hi]
          intro g; have := g.1.2 (by omega); omega
        · refine neg f (conv ih ?_)
          rw [decide_eq_decide, risesFrom_step xs a b i hi]
          exact ⟨fun g => ⟨⟨e, fun _ => by omega⟩, g⟩, fun g => g.2⟩
      · refine neg z (conv ih ?_)
        rw [decide_eq_decide, risesFrom_step xs a b i hi]
        exact ⟨fun g => ⟨⟨e, fun _ => by omega⟩, g⟩, fun g => g.2⟩
    · refine neg (by simpa using e) (conv (now _) (Eq.symm (decide_eq_false ?_)))
      rw [risesFrom_step xs a b i hi]
      exact fun g => e g.1.1
/-- Strictly increasing from one on. -/
def IncFrom (xs : List Int) (i : Nat) : Prop := ∀ j : Nat, i ≤ j → 0 < j → (h : j < xs.length) → xs[j - 1]'(by omega) < xs[j]
theorem incFrom_step (xs : List Int) (i : Nat) (h0 : 0 < i) (hi : i < xs.length) : IncFrom xs i ↔ (xs[i - 1]'(by omega) < xs[i]) ∧ IncFrom xs (i + 1) := by
  constructor
  · intro g; exact ⟨g i (Nat.le_refl _) h0 hi, fun j h1 h2 h3 => g j (by omega) h2 h3⟩
  · rintro ⟨g, r⟩ j h1 h2 h3
    by_cases e : j = i
    · subst e; exact g
    · exact r j (by omega) h2 h3
open Classical in
theorem impl_increasing_f (xs : List Int) (hx : xs.length ≤ 35184372088832) : Ev (fun k => impl_increasing.f k xs) (decide (IncFrom xs 1)) := by
  have key : ∀ i : Nat, i ≤ xs.length → 1 ≤ i → Ev (fun k => impl_increasing.l0 k xs i) (decide (IncFrom xs i)) := by
    refine down xs.length ?_ ?_
    · intro _
      refine succ ?_
      simp only [impl_increasing.l0]
      exact neg (by omega) (conv (now _) (Eq.symm (decide_eq_true (fun j h1 h2 h3 => by omega))))
    · intro i hi ih h0
      refine succ ?_
      simp only [impl_increasing.l0]
      rw [wnat (by omega), wsub1 (by omega)]
      refine pos (by omega) (pos (by omega) (pos (by omega) (pos (by omega) ?_)))
      have ei : (i : Int) - 1 = ((i - 1 : Nat) : Int) := by omega
      rw [ei, rd_lt xs (i - 1) (by omega), rd_lt xs i hi]
      by_cases f : xs[i - 1] ≥ xs[i]
      · refine pos f (conv (now _) (Eq.symm (decide_eq_false ?_)))
        rw [incFrom_step xs i h0 hi]
        intro g; have := g.1; omega
      · refine neg f (conv (ih (by omega)) ?_)
        rw [decide_eq_decide, incFrom_step xs i h0 hi]
        exact ⟨fun g => ⟨by omega, g⟩, fun g => g.2⟩
  rcases Nat.lt_or_ge 0 xs.length with h | h
  · exact key 1 (by omega) (by omega)
  · unfold impl_increasing.f
    refine succ ?_
    simp only [impl_increasing.l0]
    exact neg (by omega) (conv (now _) (Eq.symm (decide_eq_true (fun j h1 h2 h3 => by omega))))
theorem rises_iff (xs : List Int) (a b : Int) : RisesFrom xs a b 0 ↔ IncFrom xs 1 ∧ ∀ x ∈ xs, a ≤ x ∧ x ≤ b := by
  constructor
  · intro g
    refine ⟨fun j h1 h2 h3 => (g j (by omega) h3).2 h2, fun x hx => ?_⟩
    obtain ⟨j, hj, rfl⟩ := List.getElem_of_mem hx
    exact (g j (by omega) hj).1
  · rintro ⟨g, r⟩ j h1 h2
    exact ⟨r _ (List.getElem_mem h2), fun h0 => g j (by omega) h0 h2⟩
theorem inc_lt {xs : List Int} (h : IncFrom xs 1) : ∀ j i : Nat, (hij : i < j) → (hj : j < xs.length) → xs[i]'(by omega) < xs[j] := by
  intro j
  induction j with
  | zero => intro i h1; omega
  | succ j ih =>
    intro i h1 hj
    have a := h (j + 1) (by omega) (by omega) hj
    simp only [Nat.add_sub_cancel] at a
    by_cases e : i = j
    · subst e; exact a
    · have := ih i (by omega) (by omega); omega

theorem rises_up (bs : List Int) (n : Nat) : ∀ d j : Nat, j + d = bs.length → RisesFrom bs 0 ((n : Int) - 1) j → ∀ i : Int, (∀ _ : 0 < j, i = rd bs ((j - 1 : Nat) : Int)) → (j = 0 → i = -1) → Up n i (bs.drop j) := by
  intro d
  induction d with
  | zero =>
    intro j hj _ i _ _
    rw [show j = bs.length by omega, List.drop_length]
    trivial
  | succ d ih =>
    intro j hj hr i h1 h0
    have hjl : j < bs.length := by omega
    have z := (risesFrom_step bs 0 ((n : Int) - 1) j hjl).1 hr
    rw [List.drop_eq_getElem_cons hjl]
    refine ⟨?_, by have := z.1.1.2; omega, ih (j + 1) (by omega) z.2 _ (fun _ => by rw [Nat.add_sub_cancel, rd_lt bs j hjl]) (fun h => by omega)⟩
    by_cases c : j = 0
    · have := z.1.1.1
      have := h0 c
      omega
    · have a := z.1.2 (by omega)
      have e := h1 (by omega)
      rw [rd_lt bs (j - 1) (by omega)] at e
      omega
/-- Boxes as they may be. -/
def Boxes (l bs : List Int) : Prop := People l ∧ (1 ≤ bs.length ∧ bs.length ≤ 5) ∧ RisesFrom bs 0 ((l.length : Int) - 1) 0
theorem Boxes.up {l bs : List Int} (h : Boxes l bs) : Up l.length (-1) bs := by
  have z := rises_up bs l.length bs.length 0 (by omega) h.2.2 (-1) (fun h => by omega) (fun _ => rfl)
  rw [List.drop_zero] at z
  exact z
open Classical in
theorem good_boxes_spec (l bs : List Int) (hl : l.length ≤ 1048576) (hb : bs.length ≤ 1048576) : Ev (fun k => spec_mdBoxes.f k l bs) (decide (Boxes l bs)) := by
  unfold spec_mdBoxes.f
  refine bind (good_spec l (by omega)) ?_
  by_cases c : People l
  · refine pos (by simpa using c) ?_
    rw [spec_in]
    refine bindSome rfl ?_
    by_cases d : 1 ≤ (bs.length : Int) ∧ (bs.length : Int) ≤ 5
    · refine pos (by simpa using d) ?_
      rw [wsub1 (by omega)]
      refine bind (spec_l1Rising_l0 bs 0 ((l.length : Int) - 1) (by omega) 0 (by omega)) (conv (now _) ?_)
      rw [decide_eq_decide]
      exact ⟨fun g => ⟨c, by omega, g⟩, fun g => g.2.2⟩
    · exact neg (by simpa using d) (conv (now _) (Eq.symm (decide_eq_false (fun g => d (by have := g.2.1; omega)))))
  · exact neg (by simpa using c) (conv (now _) (Eq.symm (decide_eq_false (fun g => c g.1))))
open Classical in
theorem good_boxes_impl (l bs : List Int) (hl : l.length ≤ 1048576) (hb : bs.length ≤ 1048576) : Ev (fun k => impl_areBoxes.f k l bs) (decide (Boxes l bs)) := by
  unfold impl_areBoxes.f
  refine bind (good_impl l (by omega)) ?_
  by_cases c : People l
  · refine pos (by simpa using c) ?_
    rw [impl_in]
    refine bindSome rfl ?_
    by_cases d : 1 ≤ (bs.length : Int) ∧ (bs.length : Int) ≤ 5
    · refine pos (by simpa using d) ?_
      rw [wsub1 (by omega)]
      refine bind (impl_increasing_f bs (by omega)) ?_
      by_cases e : IncFrom bs 1
      · refine pos (by simpa using e) (bind (impl_allWithin_f bs 0 ((l.length : Int) - 1) (by omega)) (conv (now _) ?_))
        rw [decide_eq_decide]
        exact ⟨fun g => ⟨c, by omega, (rises_iff _ _ _).2 ⟨e, g⟩⟩, fun g => ((rises_iff _ _ _).1 g.2.2).2⟩
      · exact neg (by simpa using e) (conv (now _) (Eq.symm (decide_eq_false (fun g => e ((rises_iff _ _ _).1 g.2.2).1))))
    · exact neg (by simpa using d) (conv (now _) (Eq.symm (decide_eq_false (fun g => d (by have := g.2.1; omega)))))
  · exact neg (by simpa using c) (conv (now _) (Eq.symm (decide_eq_false (fun g => c g.1))))
theorem spec_near (n : Nat) (hn : n ≤ 60) (b : Int) (bs : List Int) (hb : Inn n (b :: bs)) (hl : (b :: bs).length ≤ 1000) (h : Int) (h0 : 0 ≤ h) (h1 : h ≤ 60) : Ev (fun k => spec_mdNear.f k (b :: bs) h) (nr b bs h) := by
  have key : ∀ i : Nat, i ≤ (b :: bs).length → ∀ x : Int, 0 ≤ x → x ≤ 60 → Ev (fun k => spec_mdNear.l0 k h x (b :: bs) (b :: bs).length i) (nr x ((b :: bs).drop i) h) := by
    refine down (b :: bs).length ?_ ?_
    · intro x _ _
      refine succ ?_
      simp only [spec_mdNear.l0]
      rw [List.drop_length]
      exact neg (by omega) (now _)
    · intro i hi ih x x0 x1
      have hr := inn_rd hb i hi
      refine succ ?_
      simp only [spec_mdNear.l0]
      rw [wnat (by omega), spec_absd _ _ (by omega) (by omega), spec_absd _ _ (by omega) (by omega)]
      refine pos (by omega) (pos (by omega) (pos (by omega) (bind (now _) (bind (now _) ?_))))
      rw [List.drop_eq_getElem_cons hi, ← rd_lt _ i hi]
      unfold nr
      by_cases c : dist (rd (b :: bs) (i : Int)) h < dist x h
      · rw [if_pos c]
        exact pos c (ih _ (by omega) (by omega))
      · rw [if_neg c]
        exact neg c (ih _ x0 x1)
  have hb0 := hb b (by simp)
  have z := key 0 (by omega) b (by omega) (by omega)
  unfold spec_mdNear.f
  refine pos (by simp) ?_
  rw [show rd (b :: bs) 0 = b from rfl]
  refine conv z ?_
  rw [List.drop_zero]
  show (if dist b h < dist b h then _ else _) = _
  rw [if_neg (by omega)]
theorem dist_comm (a b : Int) : dist a b = dist b a := by unfold dist; omega
theorem spec_sum {l : List Int} (hS : Small l) (b : Int) (bs : List Int) (hb : Inn l.length (b :: bs)) (hl : (b :: bs).length ≤ 1000) : Ev (fun k => spec_BoxesSum.l0 k (b :: bs) 0 l l.length 0) (iter (fun h c => c + rd l (h : Int) * nd b bs h) l.length 0 0, true) := by
  have n60 := hS.1.2
  have key : ∀ h : Nat, h ≤ l.length → ∀ c : Int, 0 ≤ c → c ≤ 60000 * h → Ev (fun k => spec_BoxesSum.l0 k (b :: bs) c l l.length h) (iter (fun h c => c + rd l (h : Int) * nd b bs h) (l.length - h) h c, true) := by
    refine down l.length ?_ ?_
    · intro c _ _
      refine succ ?_
      simp only [spec_BoxesSum.l0]
      rw [Nat.sub_self]
      exact neg (by omega) (now _)
    · intro h hh ih c c0 c1
      have hd := nd_small l.length n60 b bs hb h hh
      have hp := impl_firstBoxes.prod_small (impl_firstBoxes.Small.at hS h) hd
      have hm := hb _ (nr_mem bs b h)
      rw [impl_firstBoxes.iter_step _ _ _ hh]
      have nx := ih (c + rd l (h : Int) * nd b bs h) (by omega) (by omega)
      clear ih
      refine succ ?_
      simp only [spec_BoxesSum.l0]
      rw [wnat (by omega)]
      refine pos (by omega) (pos (by omega) (pos (by omega) (bind (spec_near l.length n60 b bs hb hl h (by omega) (by omega)) ?_)))
      rw [spec_absd _ _ (by omega) (by omega), dist_comm, ← nr_nd]
      refine bind (now _) ?_
      rw [w64 (x := rd l (h : Int) * nd b bs h) (by omega) (by omega), w64 (by omega) (by omega)]
      exact nx
  exact key 0 (by omega) 0 (by omega) (by omega)
open Classical in
theorem sum_spec (l bs : List Int) (hl : l.length ≤ 1048576) (hb : bs.length ≤ 1048576) : Ev (fun k => spec_BoxesSum.f k l bs) (if Boxes l bs then (cost l (-1) bs, true) else (0, false)) := by
  unfold spec_BoxesSum.f
  refine bind (good_boxes_spec l bs hl hb) ?_
  by_cases c : Boxes l bs
  · rw [if_pos c]
    refine pos (by simpa using c) ?_
    have hu := c.up
    have h1 := c.2.1
    have hS := small_q (people_q c.1)
    match bs, h1, hu with
    | [], h1, _ => simp at h1
    | b :: bs, h1, hu => exact conv (spec_sum hS b bs (up_inn hu) (by omega)) (by rw [cost_all l b bs hu])
  · rw [if_neg c]
    exact neg (by simpa using c) (now _)
open Classical in
theorem sum_impl (l bs : List Int) (hl : l.length ≤ 1048576) (hb : bs.length ≤ 1048576) : Ev (fun k => impl_BoxesSum.f k l bs) (if Boxes l bs then (cost l (-1) bs, true) else (0, false)) := by
  unfold impl_BoxesSum.f
  refine bind (good_boxes_impl l bs hl hb) ?_
  by_cases c : Boxes l bs
  · rw [if_pos c]
    have h1 := c.2.1
    exact pos (by simpa using c) (bind (impl_cost (small_q (people_q c.1)) bs h1.1 (by omega) c.up) (now _))
  · rw [if_neg c]
    exact neg (by simpa using c) (now _)

/-- All houses with the least number: from a house on. -/
def Lst (t : Int → Int) : Nat → Int → List Int → Int → List Int
  | 0, _, b, _ => b
  | d + 1, i, b, l => if b = [] ∨ t i < l then Lst t d (i + 1) [i] (t i) else if t i = l then Lst t d (i + 1) (b ++ [i]) l else Lst t d (i + 1) b l
theorem lst_len (t : Int → Int) : ∀ d i b l, (Lst t d i b l).length ≤ b.length + d := by
  intro d
  induction d with
  | zero => intro i b l; simp [Lst]
  | succ d ih =>
    intro i b l
    simp only [Lst]
    split
    · have := ih (i + 1) [i] (t i); simp at this; omega
    · split
      · have := ih (i + 1) (b ++ [i]) l; simp at this; omega
      · have := ih (i + 1) b l; omega
/-- A table. -/
def tbl (t : Int → Int) (n : Nat) : List Int := (List.range n).map fun (i : Nat) => t i
theorem tbl_rd (t : Int → Int) (n i : Nat) (h : i < n) : rd (tbl t n) i = t i := by
  rw [rd_lt _ _ (by simpa [tbl] using h)]
  simp [tbl]
theorem tbl_succ (t : Int → Int) (n : Nat) : tbl t (n + 1) = tbl t n ++ [t n] := by simp [tbl, List.range_succ]
theorem tbl_len (t : Int → Int) (n : Nat) : (tbl t n).length = n := by simp [tbl]

/-- The sum of walks to a house, from a house on. -/
def Wk (vs : List Int) (h : Int) : Nat → Nat → Int
  | 0, _ => 0
  | d + 1, i => rd vs i * dist i h + Wk vs h d (i + 1)
theorem dist_le {n : Nat} {i : Nat} {h : Int} (hi : i < n) (h0 : 0 ≤ h) (h1 : h < n) : 0 ≤ dist i h ∧ dist i h ≤ n := by unfold dist; omega
theorem term_le {vs : List Int} (hv : Q vs) {i : Nat} {h : Int} (hi : i < vs.length) (h0 : 0 ≤ h) (h1 : h < vs.length) : 0 ≤ rd vs i * dist i h ∧ rd vs i * dist i h ≤ 60000 := by
  have a := hv.2 i
  have b := dist_le hi h0 h1
  have c := hv.1.2
  refine ⟨Int.mul_nonneg a.1 b.1, ?_⟩
  calc rd vs i * dist i h ≤ 1000 * dist i h := Int.mul_le_mul_of_nonneg_right a.2 b.1
    _ ≤ 60000 := by omega
theorem near_one (h : Int) (i : Int) (h1 : -9223372036854775808 < h - i) (h2 : h - i ≤ 9223372036854775807) : Ev (fun k => impl_nearestBox.f k [h] i) h := by
  unfold impl_nearestBox.f
  refine pos (by simp) (succ ?_)
  simp only [impl_nearestBox.l0]
  rw [show rd [h] 0 = h by simp [rd], impl_absd _ _ h1 h2]
  refine pos (by simp) (pos (by omega) (pos (by simp) (bind (now _) (bind (now _) (neg (by omega) (succ ?_))))))
  simp only [impl_nearestBox.l0]
  exact neg (by simp [wrap64]) (now _)
theorem impl_walks (vs : List Int) (hv : Q vs) (h : Int) (h0 : 0 ≤ h) (h1 : h < vs.length) : Ev (fun k => impl_boxesSum.f k vs [h]) (Wk vs h vs.length 0) := by
  have hl := hv.1
  have key : ∀ i : Nat, i ≤ vs.length → ∀ s : Int, 0 ≤ s → s ≤ 60000 * i → Ev (fun k => impl_boxesSum.l0 k [h] s vs vs.length i) (s + Wk vs h (vs.length - i) i) := by
    refine down vs.length ?_ ?_
    · intro s _ _
      refine succ ?_
      simp only [impl_boxesSum.l0]
      rw [Nat.sub_self]
      exact neg (by omega) (conv (now _) (by simp [Wk]))
    · intro i hi ih s s0 s1
      have tb := term_le hv hi h0 h1
      refine succ ?_
      simp only [impl_boxesSum.l0]
      rw [wnat (by omega)]
      refine pos (by omega) (pos (by omega) (pos (by omega) (bind (near_one h i (by omega) (by omega)) ?_)))
      rw [impl_absd' _ _ (by omega) (by omega)]
      refine bind (now _) ?_
      rw [w64 (x := rd vs i * dist i h) (by omega) (by omega), w64 (by omega) (by omega)]
      refine conv (ih _ (by omega) (by omega)) ?_
      rw [show vs.length - i = (vs.length - (i + 1)) + 1 by omega]
      simp only [Wk]
      omega
  unfold impl_boxesSum.f
  exact conv (key 0 (by omega) 0 (by omega) (by omega)) (by simp)

/-- The longest walk to a house, from a house on. -/
def Fk (vs : List Int) (h : Int) : Nat → Nat → Int → Int
  | 0, _, a => a
  | d + 1, i, a => Fk vs h d (i + 1) (if rd vs i > 0 then max a (dist i h) else a)
theorem impl_far (vs : List Int) (hv : Q vs) (h : Int) (h0 : 0 ≤ h) (h1 : h < vs.length) : Ev (fun k => impl_farthestTo.f k vs h) (Fk vs h vs.length 0 0) := by
  have hl := hv.1
  have key : ∀ i : Nat, i ≤ vs.length → ∀ s : Int, Ev (fun k => impl_farthestTo.l0 k h s vs vs.length i) (Fk vs h (vs.length - i) i s) := by
    refine down vs.length ?_ ?_
    · intro s
      refine succ ?_
      simp only [impl_farthestTo.l0]
      rw [Nat.sub_self]
      exact neg (by omega) (now _)
    · intro i hi ih s
      refine succ ?_
      simp only [impl_farthestTo.l0]
      rw [impl_absd _ _ (by omega) (by omega), wnat (by omega), show vs.length - i = (vs.length - (i + 1)) + 1 by omega]
      simp only [Fk, mx_max]
      refine pos (by omega) (pos (by omega) (pos (by omega) ?_))
      by_cases c : rd vs i > 0
      · rw [if_pos c]
        exact pos c (bind (now _) (ih _))
      · rw [if_neg c]
        exact neg c (ih _)
  unfold impl_farthestTo.f
  exact conv (key 0 (by omega) 0) (by simp)

theorem least {P : Nat → Prop} (h : ∃ n, P n) : ∃ n, P n ∧ ∀ m, m < n → ¬ P m := by
  obtain ⟨n, hn⟩ := h
  induction n using Nat.strongRecOn with
  | _ n ih =>
    by_cases c : ∃ m, m < n ∧ P m
    · obtain ⟨m, h1, h2⟩ := c
      exact ih m h1 h2
    · exact ⟨n, hn, fun m h1 h2 => c ⟨m, h1, h2⟩⟩

/-- How many boxes are enough from a house on, put as far behind as they can be (d: at least the houses that are left). -/
def NB (l : List Int) (f : Nat) : Nat → Nat → Nat
  | 0, _ => 0
  | d + 1, i => if i < l.length then (if 0 < rd l (i : Int) then NB l f d (i + 2 * f + 1) + 1 else NB l f d (i + 1)) else 0
theorem NB_end (l : List Int) (f : Nat) : ∀ (d i : Nat), l.length ≤ i → NB l f d i = 0
  | 0, _, _ => rfl
  | d + 1, i, h => by simp only [NB]; rw [if_neg (by omega)]
theorem NB_fuel (l : List Int) (f : Nat) : ∀ (d i : Nat), l.length ≤ i + d → NB l f d i = NB l f (l.length - i) i := by
  intro d
  induction d with
  | zero => intro i h; rw [NB_end _ _ _ _ (by omega), NB_end _ _ _ _ (by omega)]
  | succ d ih =>
    intro i h
    by_cases c : i < l.length
    · obtain ⟨e, he⟩ : ∃ e, l.length - i = e + 1 := ⟨l.length - i - 1, by omega⟩
      rw [he]
      simp only [NB]
      rw [if_pos c, if_pos c]
      have key : ∀ j, i < j → NB l f d j = NB l f e j := fun j hj => by
        rw [ih j (by omega)]
        have : ∀ (a b : Nat), l.length ≤ j + a → l.length ≤ j + b → a ≤ b → NB l f a j = NB l f b j := by
          intro a
          induction a generalizing j with
          | zero => intro b h1 _ _; rw [NB_end _ _ _ _ (by omega), NB_end _ _ _ _ (by omega)]
          | succ a iha =>
            intro b h1 h2 h3
            obtain ⟨b, rfl⟩ : ∃ b', b = b' + 1 := ⟨b - 1, by omega⟩
            simp only [NB]
            split
            · split
              · rw [iha (j + 2 * f + 1) (by omega) b (by omega) (by omega) (by omega)]
              · rw [iha (j + 1) (by omega) b (by omega) (by omega) (by omega)]
            · rfl
        exact this _ _ (by omega) (by omega) (by omega)
      rw [key _ (by omega), key _ (by omega)]
    · rw [NB_end _ _ _ _ (by omega), NB_end _ _ _ _ (by omega)]
/-- How many boxes are enough. -/
def need (l : List Int) (f : Nat) : Nat := NB l f l.length 0
theorem NB_le (l : List Int) (f : Nat) : ∀ (d i : Nat), NB l f d i ≤ d := by
  intro d
  induction d with
  | zero => intro i; exact Nat.le_refl _
  | succ d ih =>
    intro i
    simp only [NB]
    have h1 := ih (i + 2 * f + 1)
    have h2 := ih (i + 1)
    split
    · split <;> omega
    · omega
theorem fewest_l0 (l : List Int) (hl : l.length ≤ 60) (f : Nat) (hf : f ≤ 60) : ∀ (d i c : Nat), l.length ≤ i + d → i ≤ 1000 → c + d ≤ 1000 → Ev (fun k => impl_fewestBoxes.l0 k l (f : Int) (c : Int) (i : Int)) ((c + NB l f d i : Nat) : Int) := by
  intro d
  induction d with
  | zero =>
    intro i c h hi hc
    refine succ ?_
    simp only [impl_fewestBoxes.l0]
    exact neg (by omega) (conv (now _) (by simp [NB]))
  | succ d ih =>
    intro i c h hi hc
    refine succ ?_
    simp only [impl_fewestBoxes.l0, NB]
    by_cases c1 : i < l.length
    · rw [if_pos c1]
      refine pos (by omega) (pos (by omega) ?_)
      by_cases c2 : 0 < rd l (i : Int)
      · rw [if_pos c2]
        refine pos (by omega) ?_
        rw [wnat (by omega), w64 (x := 2 * (f : Int)) (by omega) (by omega), w64 (x := (i : Int) + 2 * (f : Int)) (by omega) (by omega), w64 (by omega) (by omega), show (i : Int) + 2 * (f : Int) + 1 = ((i + 2 * f + 1 : Nat) : Int) by omega]
        exact conv (ih (i + 2 * f + 1) (c + 1) (by omega) (by omega) (by omega)) (by congr 1; omega)
      · rw [if_neg c2]
        refine neg (by omega) ?_
        rw [wnat (by omega)]
        exact ih (i + 1) c (by omega) (by omega) (by omega)
    · rw [if_neg c1]
      exact neg (by omega) (now _)
theorem fewest_f (l : List Int) (hl : l.length ≤ 60) (f : Nat) (hf : f ≤ 60) : Ev (fun k => impl_fewestBoxes.f k l (f : Int)) (need l f : Int) := by
  unfold impl_fewestBoxes.f need
  exact conv (fewest_l0 l hl f hf l.length 0 0 (by omega) (by omega) (by omega)) (by simp)
/-- The reference looks at each house, and skips those within reach. -/
theorem need_l0 (l : List Int) (hl : l.length ≤ 60) (f : Nat) (hf : f ≤ 60) : ∀ i : Nat, i ≤ l.length → ∀ (c r : Nat), r ≤ 300 → c ≤ i → Ev (fun k => spec_mdNeed.l0 k (f : Int) (c : Int) ((r : Int) - 1) l l.length (i : Int)) ((c + NB l f (l.length - max i r) (max i r) : Nat) : Int) := by
  refine down l.length ?_ ?_
  · intro c r hr hc
    refine succ ?_
    simp only [spec_mdNeed.l0]
    exact neg (by omega) (conv (now _) (by rw [NB_end _ _ _ _ (by omega)]; simp))
  · intro i hi ih c r hr hc
    refine succ ?_
    simp only [spec_mdNeed.l0]
    rw [wnat (by omega), wnat (by omega)]
    refine pos (by omega) (pos (by omega) (pos (by omega) ?_))
    by_cases c2 : 0 < rd l (i : Int)
    · refine pos (by omega) ?_
      by_cases c3 : r ≤ i
      · refine pos (by omega) ?_
        rw [w64 (x := 2 * (f : Int)) (by omega) (by omega), w64 (x := (i : Int) + 2 * (f : Int)) (by omega) (by omega), show (i : Int) + 2 * (f : Int) = ((i + 2 * f + 1 : Nat) : Int) - 1 by omega]
        refine conv (ih (c + 1) (i + 2 * f + 1) (by omega) (by omega)) ?_
        rw [show max i r = i by omega, show max (i + 1) (i + 2 * f + 1) = i + 2 * f + 1 by omega]
        obtain ⟨e, he⟩ : ∃ e, l.length - i = e + 1 := ⟨l.length - i - 1, by omega⟩
        rw [he]
        simp only [NB]
        rw [if_pos hi, if_pos c2, NB_fuel l f e _ (by omega)]
        congr 1
        omega
      · refine neg (by omega) ?_
        rw [show max i r = max (i + 1) r by omega]
        exact ih c r hr (by omega)
    · refine neg (by omega) ?_
      refine conv (ih c r hr (by omega)) ?_
      by_cases c3 : r ≤ i
      · rw [show max i r = i by omega, show max (i + 1) r = i + 1 by omega]
        obtain ⟨e, he⟩ : ∃ e, l.length - i = e + 1 := ⟨l.length - i - 1, by omega⟩
        rw [he]
        simp only [NB]
        rw [if_pos hi, if_neg c2, NB_fuel l f e _ (by omega)]
      · rw [show max i r = max (i + 1) r by omega]
theorem need_f (l : List Int) (hl : l.length ≤ 60) (f : Nat) (hf : f ≤ 60) : Ev (fun k => spec_mdNeed.f k l (f : Int)) (need l f : Int) := by
  unfold spec_mdNeed.f need
  exact conv (need_l0 l hl f hf 0 (Nat.zero_le _) 0 0 (by omega) (by omega)) (by simp)
/-- One box is enough for all of a street. -/
theorem need_one (l : List Int) (hl : l.length ≤ 60) : need l 60 ≤ 1 := by
  have key : ∀ (d i : Nat), NB l 60 d i ≤ 1 := by
    intro d
    induction d with
    | zero => intro i; simp [NB]
    | succ d ih =>
      intro i
      simp only [NB]
      split
      · split
        · rw [NB_end _ _ _ _ (by omega)]; omega
        · exact ih _
      · omega
  exact key _ _
theorem need_pos {l : List Int} (h : ∃ i : Nat, i < l.length ∧ 0 < rd l (i : Int)) (f : Nat) : 1 ≤ need l f := by
  obtain ⟨i, hi, hr⟩ := h
  have key : ∀ (d j : Nat), j ≤ i → l.length ≤ j + d → 1 ≤ NB l f d j := by
    intro d
    induction d with
    | zero => intro j h1 h2; omega
    | succ d ih =>
      intro j h1 h2
      simp only [NB]
      rw [if_pos (by omega)]
      split
      · omega
      · rename_i c
        have : j ≠ i := fun e => c (by rw [e]; exact hr)
        exact ih (j + 1) (by omega) (by omega)
  exact key _ 0 (Nat.zero_le _) (by omega)
theorem need_len (l : List Int) (f : Nat) : need l f ≤ l.length := NB_le _ _ _ _

/-- So many boxes may be asked for. -/
def Many (l : List Int) (a : Int) : Prop := People l ∧ 1 ≤ a ∧ a ≤ min 5 (l.length : Int)
theorem far_least (l : List Int) (hl : l.length ≤ 60) {m : Nat} (hm : 1 ≤ m) : ∃ f : Nat, f ≤ 60 ∧ need l f ≤ m ∧ ∀ g, g < f → m < need l g := by
  obtain ⟨f, h1, h2⟩ := least (P := fun f => need l f ≤ m) ⟨60, Nat.le_trans (need_one l hl) hm⟩
  refine ⟨f, ?_, h1, fun g hg => by have := h2 g hg; omega⟩
  by_cases c : f ≤ 60
  · exact c
  · exact absurd (Nat.le_trans (need_one l hl) hm) (h2 60 (by omega))
theorem far_impl_l0 (l : List Int) (hl : l.length ≤ 60) (m : Nat) (f : Nat) (hf : f ≤ 60) (h1 : need l f ≤ m) (h2 : ∀ g, g < f → m < need l g) : ∀ g : Nat, g ≤ f → Ev (fun k => impl_FarthestBoxes.l0 k l (m : Int) (g : Int)) ((f : Int), true) := by
  refine down f ?_ ?_
  · refine succ ?_
    simp only [impl_FarthestBoxes.l0]
    exact bind (fewest_f l hl f hf) (neg (by omega) (now _))
  · intro g hg ih
    refine succ ?_
    simp only [impl_FarthestBoxes.l0]
    have := h2 g hg
    rw [wnat (by omega)]
    exact bind (fewest_f l hl g (by omega)) (pos (by omega) ih)
theorem far_spec_l0 (l : List Int) (hl : l.length ≤ 60) (m : Nat) (f : Nat) (hf : f ≤ 60) (h1 : need l f ≤ m) (h2 : ∀ g, g < f → m < need l g) : ∀ g : Nat, g ≤ f → Ev (fun k => spec_FarthestBoxes.l0 k l (m : Int) (g : Int)) ((f : Int), true) := by
  refine down f ?_ ?_
  · refine succ ?_
    simp only [spec_FarthestBoxes.l0]
    exact bind (need_f l hl f hf) (neg (by omega) (now _))
  · intro g hg ih
    refine succ ?_
    simp only [spec_FarthestBoxes.l0]
    have := h2 g hg
    rw [wnat (by omega)]
    exact bind (need_f l hl g (by omega)) (pos (by omega) ih)
theorem farthest_impl (l : List Int) (m : Nat) (h : Many l m) (f : Nat) (hf : f ≤ 60) (h1 : need l f ≤ m) (h2 : ∀ g, g < f → m < need l g) : Ev (fun k => impl_FarthestBoxes.f k l (m : Int)) ((f : Int), true) := by
  have hl := h.1.1.1
  unfold impl_FarthestBoxes.f
  exact bind (many_impl l m (by omega)) (pos (by simpa [Many] using h) (far_impl_l0 l hl.2 m f hf h1 h2 0 (Nat.zero_le _)))
theorem farthest_spec (l : List Int) (m : Nat) (h : Many l m) (f : Nat) (hf : f ≤ 60) (h1 : need l f ≤ m) (h2 : ∀ g, g < f → m < need l g) : Ev (fun k => spec_FarthestBoxes.f k l (m : Int)) ((f : Int), true) := by
  have hl := h.1.1.1
  unfold spec_FarthestBoxes.f
  exact bind (many_spec l m (by omega)) (pos (by simpa [Many] using h) (far_spec_l0 l hl.2 m f hf h1 h2 0 (Nat.zero_le _)))
theorem farthest_no (l : List Int) (a : Int) (hx : l.length ≤ 35184372088832) (h : ¬ Many l a) : Ev (fun k => impl_FarthestBoxes.f k l a) (0, false) ∧ Ev (fun k => spec_FarthestBoxes.f k l a) (0, false) := by
  unfold impl_FarthestBoxes.f spec_FarthestBoxes.f
  exact ⟨bind (many_impl l a hx) (neg (by simpa [Many] using h) (now _)), bind (many_spec l a hx) (neg (by simpa [Many] using h) (now _))⟩
theorem fewest_impl (l : List Int) (hp : People l) (f : Nat) (hf : f ≤ 60) : Ev (fun k => impl_FewestBoxes.f k l (f : Int)) (if need l f ≤ 5 then ((need l f : Int), true) else (0, false)) := by
  have hl := hp.1.1
  unfold impl_FewestBoxes.f
  refine bind (good_impl l (by omega)) (pos (by simpa using hp) ?_)
  rw [impl_in]
  refine bindSome rfl (succ ?_)
  simp only [impl_FewestBoxes.j0]
  refine neg (by simp; omega) (bind (fewest_f l hl.2 f hf) ?_)
  by_cases c : need l f ≤ 5
  · rw [if_pos c]; exact neg (by omega) (now _)
  · rw [if_neg c]; exact pos (by omega) (now _)
theorem fewest_spec (l : List Int) (hp : People l) (f : Nat) (hf : f ≤ 60) : Ev (fun k => spec_FewestBoxes.f k l (f : Int)) (if need l f ≤ 5 then ((need l f : Int), true) else (0, false)) := by
  have hl := hp.1.1
  unfold spec_FewestBoxes.f
  refine bind (good_spec l (by omega)) (pos (by simpa using hp) ?_)
  rw [spec_in]
  refine bindSome rfl (succ ?_)
  simp only [spec_FewestBoxes.j0]
  refine neg (by simp; omega) (bind (need_f l hl.2 f hf) ?_)
  by_cases c : need l f ≤ 5
  · rw [if_pos c]; exact neg (by omega) (now _)
  · rw [if_neg c]; exact pos (by omega) (now _)
theorem fewest_no (l : List Int) (a : Int) (hx : l.length ≤ 35184372088832) (h : ¬ (People l ∧ 0 ≤ a ∧ a ≤ 60)) : Ev (fun k => impl_FewestBoxes.f k l a) (0, false) ∧ Ev (fun k => spec_FewestBoxes.f k l a) (0, false) := by
  unfold impl_FewestBoxes.f spec_FewestBoxes.f
  by_cases c : People l
  · have hn : ¬ (0 ≤ a ∧ a ≤ 60) := fun z => h ⟨c, z⟩
    rw [impl_in, spec_in]
    constructor
    · refine bind (good_impl l hx) (pos (by simpa using c) (bindSome rfl (succ ?_)))
      simp only [impl_FewestBoxes.j0]
      exact pos (by simp; omega) (now _)
    · refine bind (good_spec l hx) (pos (by simpa using c) (bindSome rfl (succ ?_)))
      simp only [spec_FewestBoxes.j0]
      exact pos (by simp; omega) (now _)
  · constructor
    · refine bind (good_impl l hx) (neg (by simpa using c) (succ ?_))
      simp only [impl_FewestBoxes.j0]
      exact pos trivial (now _)
    · refine bind (good_spec l hx) (neg (by simpa using c) (succ ?_))
      simp only [spec_FewestBoxes.j0]
      exact pos trivial (now _)
theorem people_pos {l : List Int} (h : People l) : ∃ i : Nat, i < l.length ∧ 0 < rd l (i : Int) := by
  have h0 := h.2
  have key : ∀ L : List Int, 0 < L.sum → ∃ x ∈ L, 0 < x := by
    intro L
    induction L with
    | nil => intro h; simp at h
    | cons x L ih =>
      intro h
      rw [List.sum_cons] at h
      by_cases c : 0 < x
      · exact ⟨x, by simp, c⟩
      · obtain ⟨y, hy, hp⟩ := ih (by omega)
        exact ⟨y, by simp [hy], hp⟩
  obtain ⟨x, hx, hp⟩ := key l h0
  obtain ⟨i, hi, rfl⟩ := List.getElem_of_mem hx
  exact ⟨i, hi, by rw [rd_lt l i hi]; exact hp⟩

theorem nd_le : ∀ (bs : List Int) (x h b : Int), b ∈ x :: bs → nd x bs h ≤ dist b h := by
  intro bs
  induction bs with
  | nil =>
    intro x h b hb
    obtain rfl : b = x := by simpa using hb
    exact Int.le_refl _
  | cons c bs ih =>
    intro x h b hb
    simp only [nd]
    have hc := ih c h c (by simp)
    have hx := ih x h x (by simp)
    rcases List.mem_cons.1 hb with rfl | hb
    · split
      · unfold dist at *; omega
      · exact hx
    · rcases List.mem_cons.1 hb with rfl | hb
      · split
        · exact hc
        · unfold dist at *; omega
      · split
        · exact ih c h b (by simp [hb])
        · exact ih x h b (by simp [hb])
/-- A house more among boxes. -/
def ins (x : Int) : List Int → List Int
  | [] => [x]
  | b :: bs => if x < b then x :: b :: bs else b :: ins x bs
theorem ins_len (x : Int) : ∀ bs, (ins x bs).length = bs.length + 1 := by
  intro bs
  induction bs with
  | nil => rfl
  | cons b bs ih => simp only [ins]; split <;> simp [ih]
theorem ins_mem (x b : Int) : ∀ bs, b ∈ bs → b ∈ ins x bs := by
  intro bs
  induction bs with
  | nil => intro h; cases h
  | cons c bs ih =>
    intro h
    simp only [ins]
    split
    · exact List.mem_cons_of_mem _ h
    · rcases List.mem_cons.1 h with rfl | h
      · simp
      · exact List.mem_cons_of_mem _ (ih h)
theorem ins_up {n : Nat} (x : Int) (hx : x < n) : ∀ (bs : List Int) (i : Int), Up n i bs → i < x → x ∉ bs → Up n i (ins x bs) := by
  intro bs
  induction bs with
  | nil => intro i _ h _; exact ⟨h, hx, trivial⟩
  | cons b bs ih =>
    intro i hu h hm
    obtain ⟨h1, h2, h3⟩ := hu
    simp only [ins]
    split
    · rename_i c
      exact ⟨h, hx, c, h2, h3⟩
    · rename_i c
      have hne : x ≠ b := fun e => hm (by simp [e])
      exact ⟨h1, h2, ih b h3 (by omega) (fun z => hm (by simp [z]))⟩
theorem gap {n : Nat} : ∀ (bs : List Int) (i : Int), Up n i bs → i + 1 + bs.length < n → ∃ x, i < x ∧ x < n ∧ x ∉ bs := by
  intro bs
  induction bs with
  | nil => intro i _ h; exact ⟨i + 1, by omega, by simpa using h, by simp⟩
  | cons b bs ih =>
    intro i hu h
    obtain ⟨h1, h2, h3⟩ := hu
    simp only [List.length_cons] at h
    by_cases c : i + 1 < b
    · refine ⟨i + 1, by omega, by omega, fun z => ?_⟩
      rcases List.mem_cons.1 z with z | z
      · omega
      · have := up_gt bs b h3 _ z; omega
    · obtain ⟨x, x1, x2, x3⟩ := ih b h3 (by omega)
      exact ⟨x, by omega, x2, fun z => by
        rcases List.mem_cons.1 z with z | z
        · omega
        · exact x3 z⟩
theorem iter_le (g g' : Nat → Int) : ∀ (n i : Nat) (c c' : Int), c ≤ c' → (∀ h, i ≤ h → h < i + n → g h ≤ g' h) → iter (fun h c => c + g h) n i c ≤ iter (fun h c => c + g' h) n i c' := by
  intro n
  induction n with
  | zero => intro i c c' h _; exact h
  | succ n ih =>
    intro i c c' h hg
    have h0 := hg i (Nat.le_refl _) (by omega)
    exact ih (i + 1) _ _ (show c + g i ≤ c' + g' i by omega) (fun j h1 h2 => hg j (by omega) (by omega))
/-- More boxes have no greater sum. -/
theorem cost_more {l : List Int} (hp : ∀ i : Nat, 0 ≤ rd l (i : Int)) {bs cs : List Int} (hb : bs ≠ []) (hc : cs ≠ []) (ub : Up l.length (-1) bs) (uc : Up l.length (-1) cs) (h : ∀ b ∈ bs, b ∈ cs) : cost l (-1) cs ≤ cost l (-1) bs := by
  cases bs with
  | nil => exact absurd rfl hb
  | cons b bs =>
    cases cs with
    | nil => exact absurd rfl hc
    | cons c cs =>
      rw [← cost_all l b bs ub, ← cost_all l c cs uc]
      refine iter_le _ _ _ _ _ _ (Int.le_refl _) (fun j _ _ => ?_)
      refine Int.mul_le_mul_of_nonneg_left ?_ (hp j)
      rw [nr_nd bs b]
      exact nd_le cs c j _ (h _ (nr_mem bs b j))
theorem least_more {l : List Int} (hq : Q l) (m : Nat) (h1 : 1 ≤ m) (h2 : m + 1 ≤ 5) (hn : m + 1 ≤ l.length) : cost l (-1) (boxes l (m + 1) (-1)) ≤ cost l (-1) (boxes l m (-1)) := by
  have hS := small_q hq
  have hu := boxes_up hS m (by omega) (-1) (by omega) (by omega)
  have hl := boxes_len l m (-1)
  obtain ⟨x, x1, x2, x3⟩ := gap (boxes l m (-1)) (-1) hu (by omega)
  have hu' := ins_up x x2 (boxes l m (-1)) (-1) hu (by omega) x3
  have hl' := ins_len x (boxes l m (-1))
  refine Int.le_trans (boxes_least hS (m + 1) (by omega) h2 hn (ins x (boxes l m (-1))) (by omega) hu') ?_
  exact cost_more (fun i => (hq.2 i).1) (fun e => by rw [e] at hl; simp at hl; omega) (fun e => by rw [e] at hl'; simp at hl') hu hu' (fun b hb => ins_mem x b _ hb)
/-- The first place of the least number. -/
def FirstAt (t : Int → Int) (n x : Nat) : Prop := x < n ∧ (∀ y : Nat, y < n → t x ≤ t y) ∧ ∀ y : Nat, y < x → t x < t y
theorem first_one {t : Int → Int} {n x y : Nat} (h : FirstAt t n x) (h' : FirstAt t n y) : x = y := by
  by_cases a : x < y
  · have := h'.2.2 x a; have := h.2.1 y h'.1; omega
  · by_cases b : y < x
    · have := h.2.2 y b; have := h'.2.1 x h.1; omega
    · omega
theorem iter_first (G : Int → Int) (B : Int) : ∀ n : Nat, 1 ≤ n → (∀ x : Nat, x < n → G x < B) → ∃ x : Nat, iter (fun x (p : Int × Int) => if G (x : Int) < p.2 then ((x : Int), G (x : Int)) else p) n 0 (-1, B) = ((x : Int), G x) ∧ FirstAt G n x := by
  intro n
  induction n with
  | zero => intro h; omega
  | succ n ih =>
    intro _ hG
    rw [iter_snoc, Nat.zero_add]
    by_cases c : n = 0
    · subst c
      refine ⟨0, ?_, by omega, fun y hy => ?_, fun y hy => by omega⟩
      · show (if G ((0 : Nat) : Int) < B then _ else _) = _
        rw [if_pos (hG 0 (by omega))]
      · obtain rfl : y = 0 := by omega
        exact Int.le_refl _
    · obtain ⟨x, e, h1, h2, h3⟩ := ih (by omega) (fun x hx => hG x (by omega))
      rw [e]
      by_cases d : G (n : Int) < G (x : Int)
      · refine ⟨n, by rw [if_pos d], by omega, fun y hy => ?_, fun y hy => ?_⟩
        · by_cases e : y = n
          · subst e; exact Int.le_refl _
          · have := h2 y (by omega); omega
        · have := h2 y hy; omega
      · refine ⟨x, by rw [if_neg d], by omega, fun y hy => ?_, h3⟩
        by_cases e : y = n
        · subst e; omega
        · exact h2 y (by omega)
theorem lst_first (t : Int → Int) : ∀ (d i : Nat) (b : List Int) (l : Int) (x : Nat), b ≠ [] → rd b 0 = (x : Int) → t x = l → FirstAt t i x → Lst t d (i : Int) b l ≠ [] ∧ ∃ y : Nat, rd (Lst t d (i : Int) b l) 0 = (y : Int) ∧ FirstAt t (i + d) y := by
  intro d
  induction d with
  | zero => intro i b l x hb hr _ hf; exact ⟨hb, x, hr, hf⟩
  | succ d ih =>
    intro i b l x hb hr hl hf
    obtain ⟨h1, h2, h3⟩ := hf
    simp only [Lst]
    rw [show i + (d + 1) = (i + 1) + d by omega, show (i : Int) + 1 = ((i + 1 : Nat) : Int) by omega]
    by_cases c : t (i : Int) < l
    · rw [if_pos (.inr c)]
      refine ih (i + 1) [(i : Int)] _ i (by simp) (by simp [rd]) rfl ⟨by omega, fun y hy => ?_, fun y hy => ?_⟩
      · by_cases e : y = i
        · subst e; exact Int.le_refl _
        · have := h2 y (by omega); omega
      · have := h2 y hy; omega
    · rw [if_neg (fun z => z.elim hb c)]
      have hf' : FirstAt t (i + 1) x := ⟨by omega, fun y hy => by
        by_cases e : y = i
        · subst e; omega
        · exact h2 y (by omega), h3⟩
      split
      · refine ih (i + 1) (b ++ [(i : Int)]) l x (by simp) ?_ hl hf'
        cases b with
        | nil => exact absurd rfl hb
        | cons a b => simpa [rd] using hr
      · exact ih (i + 1) b l x hb hr hl hf'
theorem lst_head (t : Int → Int) (n : Nat) (hn : 1 ≤ n) (l : Int) : Lst t n 0 [] l ≠ [] ∧ ∃ y : Nat, rd (Lst t n 0 [] l) 0 = (y : Int) ∧ FirstAt t n y := by
  obtain ⟨d, rfl⟩ : ∃ d, n = d + 1 := ⟨n - 1, by omega⟩
  simp only [Lst]
  rw [if_pos (.inl trivial)]
  have := lst_first t d 1 [0] (t 0) 0 (by simp) (by simp [rd]) rfl ⟨by omega, fun y hy => by
    obtain rfl : y = 0 := by omega
    exact Int.le_refl _, fun y hy => by omega⟩
  rw [Nat.add_comm d 1]
  exact this
/-! ### the nearest box -/
theorem up_less {n : Nat} {x c : Int} (h : x < c) : ∀ {bs : List Int}, Up n c bs → Up n x bs
  | [], _ => trivial
  | _ :: _, hu => ⟨by have := hu.1; omega, hu.2.1, hu.2.2⟩
theorem nr_low {n : Nat} : ∀ (bs : List Int) (x h : Int), Up n x bs → ∀ b ∈ x :: bs, dist b h = nd x bs h → nr x bs h ≤ b := by
  intro bs
  induction bs with
  | nil =>
    intro x h _ b hb _
    obtain rfl : b = x := by simpa using hb
    exact Int.le_refl _
  | cons c bs ih =>
    intro x h hu b hb he
    obtain ⟨h1, h2, h3⟩ := hu
    have hux := up_less h1 h3
    simp only [nr]
    have hnd : nd x (c :: bs) h = if dist c h < dist x h then nd c bs h else nd x bs h := rfl
    rw [hnd] at he
    by_cases d : dist c h < dist x h
    · rw [if_pos d] at he ⊢
      rcases List.mem_cons.1 hb with rfl | hb
      · have := nd_le bs c h c (by simp); omega
      · exact ih c h h3 b hb he
    · rw [if_neg d] at he ⊢
      have hx := nd_le bs x h x (by simp)
      rcases List.mem_cons.1 hb with rfl | hb
      · exact ih b h hux b (by simp) he
      · rcases List.mem_cons.1 hb with rfl | hb
        · have := ih x h hux x (by simp) (by omega); omega
        · exact ih x h hux b (by simp [hb]) he
theorem nr_mono {n : Nat} (bs : List Int) (x : Int) (hu : Up n x bs) (h : Int) : nr x bs h ≤ nr x bs (h + 1) := by
  have a1 := nr_mem bs x h
  have a2 := nr_mem bs x (h + 1)
  have b1 := nd_le bs x h _ a2
  have b2 := nd_le bs x (h + 1) _ a1
  have c1 := nr_nd bs x h
  have c2 := nr_nd bs x (h + 1)
  by_cases e : dist (nr x bs (h + 1)) h = nd x bs h
  · exact nr_low bs x h hu _ a2 e
  · unfold dist at *
    omega

theorem goB_f (g : Nat → Int → Option Int) (t : Int → Int) (n : Nat) (h : ∀ i : Nat, i < n → Ev (fun k => g k i) (t i)) : ∀ d : Nat, ∀ i : Nat, i + d = n → ∀ b l, Ev (fun k => impl_BestHouses.go (g k) d i b l) (Lst t d i b l) := by
  intro d
  induction d with
  | zero => intro i _ b l; exact now _
  | succ d ih =>
    intro i hi b l
    simp only [impl_BestHouses.go, Lst]
    have c1 : ((i : Int) + 1) = ((i + 1 : Nat) : Int) := by omega
    rw [c1]
    refine bind (h i (by omega)) ?_
    by_cases c : b = [] ∨ t i < l
    · rw [if_pos c]
      exact pos c (ih (i + 1) (by omega) _ _)
    · rw [if_neg c]
      refine neg c ?_
      by_cases e : t i = l
      · rw [if_pos e]
        exact pos e (ih (i + 1) (by omega) _ _)
      · rw [if_neg e]
        exact neg e (ih (i + 1) (by omega) _ _)
theorem goC_f (g : Nat → Int → Option Int) (t : Int → Int) (n : Nat) (h : ∀ i : Nat, i < n → Ev (fun k => g k i) (t i)) : ∀ d : Nat, ∀ i : Nat, i + d = n → ∀ b l, Ev (fun k => impl_CenterHouses.go (g k) d i b l) (Lst t d i b l) := by
  intro d
  induction d with
  | zero => intro i _ b l; exact now _
  | succ d ih =>
    intro i hi b l
    simp only [impl_CenterHouses.go, Lst]
    have c1 : ((i : Int) + 1) = ((i + 1 : Nat) : Int) := by omega
    rw [c1]
    refine bind (h i (by omega)) ?_
    by_cases c : b = [] ∨ t i < l
    · rw [if_pos c]
      exact pos c (ih (i + 1) (by omega) _ _)
    · rw [if_neg c]
      refine neg c ?_
      by_cases e : t i = l
      · rw [if_pos e]
        exact pos e (ih (i + 1) (by omega) _ _)
      · rw [if_neg e]
        exact neg e (ih (i + 1) (by omega) _ _)
theorem best_impl (vs : List Int) (c : People vs) : Ev (fun k => impl_BestHouses.f k vs) (Lst (fun h => Wk vs h vs.length 0) vs.length 0 [] 0, true) := by
  have hv := people_q c
  have hn := hv.1
  unfold impl_BestHouses.f
  refine bind (good_impl vs (by omega)) (pos (by simpa using c) (pos (by omega) (bind ?_ (now _))))
  exact goB_f (fun k => impl_BestHouses.g k vs) (fun h => Wk vs h vs.length 0) vs.length (fun i hi => by unfold impl_BestHouses.g; exact impl_walks vs hv i (by omega) (by omega)) vs.length 0 (by omega) [] 0
theorem center_impl (vs : List Int) (c : People vs) : Ev (fun k => impl_CenterHouses.f k vs) (Lst (fun h => Fk vs h vs.length 0 0) vs.length 0 [] 0, true) := by
  have hv := people_q c
  have hn := hv.1
  unfold impl_CenterHouses.f
  refine bind (good_impl vs (by omega)) (pos (by simpa using c) (pos (by omega) (bind ?_ (now _))))
  exact goC_f (fun k => impl_CenterHouses.g k vs) (fun h => Fk vs h vs.length 0 0) vs.length (fun i hi => by unfold impl_CenterHouses.g; exact impl_far vs hv i (by omega) (by omega)) vs.length 0 (by omega) [] 0
theorem farthest_to (vs : List Int) (c : People vs) (x : Nat) (hx : x < vs.length) : Ev (fun k => impl_FarthestTo.f k vs (x : Int)) (Fk vs x vs.length 0 0, true) := by
  have hv := people_q c
  have hn := hv.1
  unfold impl_FarthestTo.f impl_hasHouse.f
  refine bind (bind (good_impl vs (by omega)) (pos (by simpa using c) (bindSome (impl_in _ _ _) (now _)))) (pos ?_ (bind (impl_far vs hv x (by omega) (by omega)) (now _)))
  rw [wsub1 (by omega)]
  simp
  omega
/-- One box alone: the first of the best houses. -/
theorem box_one {l : List Int} (hq : Q l) : ∃ x : Nat, boxes l 1 (-1) = [(x : Int)] ∧ FirstAt (fun h => Wk l h l.length 0) l.length x := by
  have hS := small_q hq
  have hn := hq.1
  have hcost : ∀ x : Nat, x < l.length → cost l (-1) [(x : Int)] = Wk l x l.length 0 := fun x hx => two (impl_cost hS [(x : Int)] (by simp) (by simp) ⟨by omega, by omega, trivial⟩) (impl_walks l hq x (by omega) (by omega))
  obtain ⟨x, e, hf⟩ := iter_first (fun h => bw l (-1) h + bw l h l.length) 1099511627776 l.length (by omega) (fun x hx => by
    have := cost_small hS [(x : Int)] (-1) (by omega) ⟨by omega, by omega, trivial⟩
    have z : cost l (-1) [(x : Int)] = bw l (-1) x + bw l x l.length := rfl
    simp at this
    show bw l (-1) x + bw l x l.length < _
    omega)
  refine ⟨x, ?_, hf.1, fun y hy => ?_, fun y hy => ?_⟩
  · have z : (pick l (-1) 0).1 = (x : Int) := by
      have : pick l (-1) 0 = iter (fun x (p : Int × Int) => if bw l (-1) (x : Int) + bw l (x : Int) l.length < p.2 then ((x : Int), bw l (-1) (x : Int) + bw l (x : Int) l.length) else p) l.length 0 (-1, 1099511627776) := rfl
      rw [this, e]
    show (pick l (-1) 0).1 :: [] = _
    rw [z]
  · have := hf.2.1 y hy
    have a := hcost x hf.1
    have b := hcost y hy
    have a' : cost l (-1) [(x : Int)] = bw l (-1) x + bw l x l.length := rfl
    have b' : cost l (-1) [(y : Int)] = bw l (-1) y + bw l y l.length := rfl
    show Wk l x l.length 0 ≤ Wk l y l.length 0
    have : bw l (-1) (x : Int) + bw l (x : Int) l.length ≤ bw l (-1) (y : Int) + bw l (y : Int) l.length := this
    omega
  · have := hf.2.2 y hy
    have a := hcost x hf.1
    have b := hcost y (by have := hf.1; omega)
    have a' : cost l (-1) [(x : Int)] = bw l (-1) x + bw l x l.length := rfl
    have b' : cost l (-1) [(y : Int)] = bw l (-1) y + bw l y l.length := rfl
    show Wk l x l.length 0 < Wk l y l.length 0
    have : bw l (-1) (x : Int) + bw l (x : Int) l.length < bw l (-1) (y : Int) + bw l (y : Int) l.length := this
    omega
/-! ### one box: how far -/
theorem Fk_le (l : List Int) (h : Int) (g : Int) : ∀ (d i : Nat) (a : Int), i + d = l.length → (Fk l h d i a ≤ g ↔ a ≤ g ∧ ∀ j : Nat, i ≤ j → j < l.length → 0 < rd l (j : Int) → dist j h ≤ g) := by
  intro d
  induction d with
  | zero =>
    intro i a hd
    exact ⟨fun z => ⟨z, fun j h1 h2 => by omega⟩, fun z => z.1⟩
  | succ d ih =>
    intro i a hd
    simp only [Fk]
    rw [ih (i + 1) _ (by omega)]
    constructor
    · rintro ⟨h1, h2⟩
      split at h1
      · refine ⟨by omega, fun j j1 j2 j3 => ?_⟩
        by_cases e : j = i
        · subst e; omega
        · exact h2 j (by omega) j2 j3
      · rename_i c
        refine ⟨h1, fun j j1 j2 j3 => ?_⟩
        by_cases e : j = i
        · subst e; exact absurd j3 c
        · exact h2 j (by omega) j2 j3
    · rintro ⟨h1, h2⟩
      refine ⟨?_, fun j j1 j2 j3 => h2 j (by omega) j2 j3⟩
      split
      · rename_i c
        have := h2 i (Nat.le_refl _) (by omega) c
        omega
      · exact h1
theorem NB_none (l : List Int) (f : Nat) : ∀ (d i : Nat), (∀ j : Nat, i ≤ j → j < l.length → ¬ 0 < rd l (j : Int)) → NB l f d i = 0 := by
  intro d
  induction d with
  | zero => intro i _; rfl
  | succ d ih =>
    intro i h
    simp only [NB]
    split
    · rename_i c
      rw [if_neg (h i (Nat.le_refl _) c)]
      exact ih (i + 1) (fun j h1 h2 => h j (by omega) h2)
    · rfl
theorem NB_some (l : List Int) (f : Nat) {j : Nat} (hj : j < l.length) (hr : 0 < rd l (j : Int)) : ∀ (d i : Nat), i ≤ j → l.length ≤ i + d → 1 ≤ NB l f d i := by
  intro d
  induction d with
  | zero => intro i h1 h2; omega
  | succ d ih =>
    intro i h1 h2
    simp only [NB]
    rw [if_pos (by omega)]
    split
    · omega
    · rename_i c
      have : i ≠ j := fun e => c (by rw [e]; exact hr)
      exact ih (i + 1) (by omega) (by omega)
/-- One box is enough just if all live within one reach of the first one. -/
theorem need_one_iff {l : List Int} {m : Nat} (hm : m < l.length) (hr : 0 < rd l (m : Int)) (h0 : ∀ j : Nat, j < m → ¬ 0 < rd l (j : Int)) (f : Nat) : need l f ≤ 1 ↔ ∀ j : Nat, j < l.length → 0 < rd l (j : Int) → j ≤ m + 2 * f := by
  have walk : ∀ (e i : Nat), i + e = m → need l f = NB l f l.length 0 → ∀ d, NB l f (d + e) i = NB l f d m := by
    intro e
    induction e with
    | zero => intro i h _ d; rw [show i = m by omega]; rfl
    | succ e ih =>
      intro i h hn d
      rw [show d + (e + 1) = (d + e) + 1 by omega]
      simp only [NB]
      rw [if_pos (by omega), if_neg (h0 i (by omega))]
      exact ih (i + 1) (by omega) hn d
  have e1 : need l f = NB l f (l.length - m) m := by
    have := walk m 0 (by omega) rfl (l.length - m)
    rw [show l.length - m + m = l.length by omega] at this
    exact this
  obtain ⟨d, hd⟩ : ∃ d, l.length - m = d + 1 := ⟨l.length - m - 1, by omega⟩
  rw [e1, hd]
  simp only [NB]
  rw [if_pos hm, if_pos hr]
  constructor
  · intro h j hj hp
    by_cases c : j ≤ m + 2 * f
    · exact c
    · have := NB_some l f hj hp d (m + 2 * f + 1) (by omega) (by omega)
      omega
  · intro h
    rw [NB_none l f d (m + 2 * f + 1) (fun j h1 h2 h3 => by have := h j h2 h3; omega)]
    omega
theorem center_far {l : List Int} (hp : People l) {c f : Nat} (hc : FirstAt (fun h => Fk l h l.length 0 0) l.length c) (h1 : need l f ≤ 1) (h2 : ∀ g, g < f → 1 < need l g) : Fk l c l.length 0 0 = (f : Int) := by
  obtain ⟨m, ⟨hm, hr⟩, h0⟩ := least (P := fun m => m < l.length ∧ 0 < rd l (m : Int)) (people_pos hp)
  have h0 : ∀ j : Nat, j < m → ¬ 0 < rd l (j : Int) := fun j hj hz => h0 j hj ⟨by omega, hz⟩
  have hle := (need_one_iff hm hr h0 f).1 h1
  -- a house from which nobody is farther than f
  obtain ⟨h, hh1, hh2⟩ : ∃ h : Nat, h < l.length ∧ ∀ j : Nat, j < l.length → 0 < rd l (j : Int) → dist j h ≤ f := by
    refine ⟨min (m + f) (l.length - 1), by omega, fun j hj hz => ?_⟩
    have a := hle j hj hz
    have b : m ≤ j := by
      by_cases z : m ≤ j
      · exact z
      · exact absurd hz (h0 j (by omega))
    unfold dist
    omega
  have up : Fk l c l.length 0 0 ≤ f := by
    refine Int.le_trans (hc.2.1 h hh1) ?_
    exact (Fk_le l h f l.length 0 0 (by omega)).2 ⟨by omega, fun j _ => hh2 j⟩
  have low : 0 ≤ Fk l c l.length 0 0 := by
    have := (Fk_le l c (Fk l c l.length 0 0) l.length 0 0 (by omega)).1 (Int.le_refl _)
    exact this.1
  obtain ⟨g, hg⟩ : ∃ g : Nat, Fk l c l.length 0 0 = (g : Int) := ⟨(Fk l c l.length 0 0).toNat, by omega⟩
  have hall := ((Fk_le l c g l.length 0 0 (by omega)).1 (by omega)).2
  have : need l g ≤ 1 := (need_one_iff hm hr h0 g).2 (fun j hj hz => by
    have a := hall j (Nat.zero_le _) hj hz
    have b := hall m (Nat.zero_le _) hm hr
    unfold dist at a b
    omega)
  by_cases z : g < f
  · have := h2 g z; omega
  · omega

/-- All numbers of a list are bytes. -/
def Bytes (l : List Int) : Prop := l.length ≤ 1048576 ∧ ∀ x ∈ l, 0 ≤ x ∧ x ≤ 255
theorem u64_range (x : Int) : 0 ≤ IntKind.u64.wrap x ∧ IntKind.u64.wrap x < 18446744073709551616 := by
  simp [IntKind.wrap, IntKind.bits, IntKind.signed]
  omega
theorem low_bits (y : Int) : 0 ≤ wrap64 (Go.bits .and .u64 (IntKind.u64.wrap y / 1099511627776) 255) ∧ wrap64 (Go.bits .and .u64 (IntKind.u64.wrap y / 1099511627776) 255) ≤ 255 := by
  have hs := u64_range y
  generalize IntKind.u64.wrap y = x at hs
  have h2 : 0 ≤ x / 1099511627776 ∧ x / 1099511627776 < 18446744073709551616 := by omega
  rw [u64_and _ _ h2.1 h2.2 (by omega) (by omega)]
  have h3 : ((x / 1099511627776).toNat &&& (255 : Int).toNat) ≤ 255 := Nat.and_le_right
  rw [w64 (by omega) (by omega)]
  omega
theorem next_ok {l : List Int} (h : Bytes l) {n : Int} (s : Int) (hn : 0 ≤ n ∧ n ≤ 1000000) : ∃ v s', spec_l1Cur_next.f l n s = some (v, n + 1, s') ∧ 0 ≤ v ∧ v ≤ 255 := by
  unfold spec_l1Cur_next.f
  rw [w64 (x := n + 1) (by omega) (by omega)]
  obtain ⟨m, rfl⟩ : ∃ m : Nat, n = (m : Int) := ⟨n.toNat, by omega⟩
  by_cases c : (m : Int) < (l.length : Int)
  · have hb := h.2 _ (rd_mem l m (by omega))
    rw [if_pos c, if_pos (by omega), w64 (x := rd l m) (by omega) (by omega)]
    by_cases d : (m : Int) + 1 ≤ (l.length : Int)
    · rw [if_pos d]
      exact ⟨_, _, rfl, hb⟩
    · rw [if_neg d]
      exact ⟨_, _, rfl, low_bits _⟩
  · rw [if_neg c]
    by_cases d : (m : Int) + 1 ≤ (l.length : Int)
    · rw [if_pos d]
      exact ⟨_, _, rfl, by omega, by omega⟩
    · rw [if_neg d]
      exact ⟨_, _, rfl, low_bits _⟩
theorem pick_ok {l : List Int} (h : Bytes l) {n : Int} (s : Int) {m : Int} (hn : 0 ≤ n ∧ n ≤ 1000000) (hm : 1 ≤ m ∧ m ≤ 200) : ∃ v n' s', spec_l1Cur_pick.f l n s m = some (v, n', s') ∧ (0 ≤ v ∧ v < m) ∧ (n ≤ n' ∧ n' ≤ n + 1) := by
  unfold spec_l1Cur_pick.f
  by_cases c : m ≤ 1
  · exact ⟨0, n, s, by rw [if_pos c], by omega, by omega⟩
  · obtain ⟨v, s', e, h0, h1⟩ := next_ok h s hn
    refine ⟨_, n + 1, s', by rw [if_neg c, e, Option.bind_some, if_neg (by omega), if_neg (by omega)], ?_, by omega⟩
    show 0 ≤ Int.tmod v m ∧ Int.tmod v m < m
    rw [Int.tmod_eq_emod_of_nonneg h0]
    exact ⟨Int.emod_nonneg _ (by omega), Int.emod_lt_of_pos _ (by omega)⟩
theorem among_ok {l : List Int} (h : Bytes l) {n : Int} (s : Int) (hn : 0 ≤ n ∧ n ≤ 1000000) {xs : List Int} (hx : 1 ≤ xs.length ∧ xs.length ≤ 200) : ∃ v n' s', spec_l1Cur_among.f l n s xs = some (v, n', s') ∧ v ∈ xs ∧ (n ≤ n' ∧ n' ≤ n + 1) := by
  obtain ⟨v, n', s', e, h1, h2⟩ := pick_ok h s (m := (xs.length : Int)) hn (by omega)
  unfold spec_l1Cur_among.f
  rw [e]
  obtain ⟨j, rfl⟩ : ∃ j : Nat, v = (j : Int) := ⟨v.toNat, by omega⟩
  exact ⟨_, n', s', by rw [Option.bind_some, if_pos h1.1, if_pos h1.2], rd_mem xs j (by omega), h2⟩

theorem one_ok {l : List Int} (h : Bytes l) {n : Int} (s : Int) {m : Int} (hn : 0 ≤ n ∧ n ≤ 1000000) (hm : 1 ≤ m ∧ m ≤ 200) : ∃ v n' s', spec_l1Cur_one.f l n s m = some (v, n', s') ∧ (n ≤ n' ∧ n' ≤ n + 1) := by
  obtain ⟨v, n', s', e, -, h2⟩ := pick_ok h s hn hm
  refine ⟨v == 0, n', s', ?_, h2⟩
  unfold spec_l1Cur_one.f
  rw [e]
  rfl
theorem sum_small {vs : List Int} (hl : vs.length ≤ 100) (hv : ∀ x ∈ vs, 0 ≤ x ∧ x ≤ 1000) : ∃ t, Ev (fun k => spec_mdSum.f k vs) t := by
  have key : ∀ i : Nat, i ≤ vs.length → ∀ s : Int, 0 ≤ s → s ≤ 1000 * i → ∃ t, Ev (fun k => spec_mdSum.l0 k s vs vs.length i) t := by
    refine down vs.length ?_ ?_
    · intro s h0 h1
      refine ⟨s, succ ?_⟩
      simp only [spec_mdSum.l0]
      exact neg (by omega) (now _)
    · intro i hi ih s h0 h1
      have hx := hv _ (rd_mem vs i hi)
      obtain ⟨t, ht⟩ := ih (s + rd vs i) (by omega) (by omega)
      refine ⟨t, succ ?_⟩
      simp only [spec_mdSum.l0]
      rw [wnat (by omega), w64 (x := s + rd vs i) (by omega) (by omega)]
      exact pos (by omega) (pos (by omega) (pos (by omega) ht))
  unfold spec_mdSum.f
  exact key 0 (Nat.zero_le _) 0 (Int.le_refl _) (Int.le_refl _)
/-- A list as it is drawn. -/
def Drawn (o : List Int) : Prop := o.length ≤ 61 ∧ ∀ x ∈ o, -1 ≤ x ∧ x ≤ 1001
theorem sure_ok {l : List Int} (h : Bytes l) {n : Int} (s : Int) (hn : 0 ≤ n ∧ n ≤ 1000) : ∃ o n' s', Ev (fun k => spec_l1Cur_surePeople.f k l n s) (o, n', s') ∧ (1 ≤ o.length ∧ o.length ≤ 9 ∧ ∀ x ∈ o, 0 ≤ x ∧ x ≤ 5) ∧ (n ≤ n' ∧ n' ≤ n + 20) := by
  have key : ∀ (d : Nat) (o : List Int) (n s : Int), d ≤ 9 → 0 ≤ n ∧ n + d ≤ 2000 → 1 ≤ o.length + d → o.length + d ≤ 9 → (∀ x ∈ o, 0 ≤ x ∧ x ≤ 5) → ∃ o' n' s', Ev (fun k => spec_l1Cur_surePeople.l0 k o (d : Int) l n s) (o', n', s') ∧ (1 ≤ o'.length ∧ o'.length ≤ 9 ∧ ∀ x ∈ o', 0 ≤ x ∧ x ≤ 5) ∧ (n ≤ n' ∧ n' ≤ n + d + 1) := by
    intro d
    induction d with
    | zero =>
      intro o n s _ hn h1 h9 ho
      obtain ⟨t, ht⟩ := sum_small (vs := o) (by omega) (fun x hx => by have := ho x hx; omega)
      by_cases c : t = 0
      · obtain ⟨v, n', s', e, hv, hn'⟩ := pick_ok h s (n := n) (m := (o.length : Int)) (by omega) (by omega)
        refine ⟨o.set v.toNat 1, n', s', succ ?_, ⟨by simp; omega, by simp; omega, fun x hx => ?_⟩, by omega⟩
        · simp only [spec_l1Cur_surePeople.l0]
          refine neg (by omega) (bind ht (pos c (bindSome e (pos hv.1 (pos hv.2 (now _))))))
        · rcases List.mem_or_eq_of_mem_set hx with hx | rfl
          · exact ho x hx
          · omega
      · refine ⟨o, n, s, succ ?_, ⟨by omega, by omega, ho⟩, by omega⟩
        simp only [spec_l1Cur_surePeople.l0]
        exact neg (by omega) (bind ht (neg c (now _)))
    | succ d ih =>
      intro o n s hd hn h1 h9 ho
      obtain ⟨v, n1, s1, e, hv, hn1⟩ := among_ok h s (n := n) (by omega) (xs := [0, 0, 1, 1, 2, 3, 5]) (by simp)
      obtain ⟨o', n', s', e', h2, h3⟩ := ih (o ++ [v]) n1 s1 (by omega) (by omega) (by simp; omega) (by simp; omega) (fun x hx => by
        rcases List.mem_append.1 hx with hx | hx
        · exact ho x hx
        · simp at hx hv; omega)
      refine ⟨o', n', s', succ ?_, h2, by omega⟩
      simp only [spec_l1Cur_surePeople.l0]
      refine pos (by omega) (bindSome e (pos (by omega) ?_))
      rw [show wrap64 (((d + 1 : Nat) : Int) - 1) = (d : Int) by unfold wrap64; omega]
      exact e'
  obtain ⟨v, n1, s1, e, hv, hn1⟩ := pick_ok h s (n := n) (m := 9) (by omega) (by omega)
  obtain ⟨d, rfl⟩ : ∃ d : Nat, v = (d : Int) := ⟨v.toNat, by omega⟩
  obtain ⟨o, n', s', e', h2, h3⟩ := key (d + 1) [] n1 s1 (by omega) (by omega) (by simp) (by simp; omega) (fun x hx => by cases hx)
  refine ⟨o, n', s', ?_, h2, by omega⟩
  unfold spec_l1Cur_surePeople.f
  refine bindSome e ?_
  rw [show wrap64 (1 + (d : Int)) = ((d + 1 : Nat) : Int) by unfold wrap64; omega]
  exact e'
theorem more_ok {l : List Int} (h : Bytes l) : ∀ (d : Nat) (o : List Int) (n s : Int), 20 < o.length + d → o.length ≤ 20 → 0 ≤ n ∧ n + d ≤ 5000 → (∀ x ∈ o, 0 ≤ x ∧ x ≤ 5) → ∃ o' n' s', spec_l1Cur_people.more l d o n s = some (o', n', s') ∧ (o'.length ≤ 20 ∧ ∀ x ∈ o', 0 ≤ x ∧ x ≤ 5) ∧ (n ≤ n' ∧ n' ≤ n + d) := by
  intro d
  induction d with
  | zero => intro o n s h1 h2; omega
  | succ d ih =>
    intro o n s h1 h2 hn ho
    simp only [spec_l1Cur_people.more]
    by_cases c : o.length < 20
    · rw [if_pos c]
      obtain ⟨v, n1, s1, e, hv, hn1⟩ := pick_ok h s (n := n) (m := 3) (by omega) (by omega)
      obtain ⟨o', n', s', e', h3, h4⟩ := ih (o ++ [v]) n1 s1 (by simp; omega) (by simp; omega) (by omega) (fun x hx => by
        rcases List.mem_append.1 hx with hx | hx
        · exact ho x hx
        · simp at hx; omega)
      rw [e, Option.bind_some]
      exact ⟨o', n', s', e', h3, by omega⟩
    · rw [if_neg c]
      exact ⟨o, n, s, rfl, ⟨h2, ho⟩, by omega⟩
theorem rows_drawn (q : Nat) : Drawn (spec_l1Cur_people.rows.getD q []) := by
  unfold spec_l1Cur_people.rows
  rcases (show q = 0 ∨ q = 1 ∨ q = 2 ∨ q = 3 ∨ q = 4 ∨ q = 5 ∨ 6 ≤ q by omega) with rfl | rfl | rfl | rfl | rfl | rfl | h
  · exact ⟨by decide, fun x hx => by cases hx⟩
  · exact ⟨by decide, fun x hx => by simp at hx; omega⟩
  · exact ⟨by decide, fun x hx => by simp at hx; omega⟩
  · exact ⟨by decide, fun x hx => by simp at hx; omega⟩
  · exact ⟨by simp, fun x hx => by simp at hx; omega⟩
  · exact ⟨by decide, fun x hx => by simp at hx; omega⟩
  · rw [List.getD_eq_getElem?_getD, List.getElem?_eq_none (by simpa using h)]
    exact ⟨by decide, fun x hx => by cases hx⟩
theorem people_ok {l : List Int} (h : Bytes l) {n : Int} (s : Int) (hn : 0 ≤ n ∧ n ≤ 1000) : ∃ o n' s', Ev (fun k => spec_l1Cur_people.f k l n s) (o, n', s') ∧ Drawn o ∧ (n ≤ n' ∧ n' ≤ n + 100) := by
  obtain ⟨o, n1, s1, e1, ⟨h1, h2, h3⟩, hn1⟩ := sure_ok h s hn
  obtain ⟨v, n2, s2, e2, hv, hn2⟩ := pick_ok h s1 (n := n1) (m := 16) (by omega) (by omega)
  have fin : ∀ {r : List Int × Int × Int}, spec_l1Cur_people.rest l o v n2 s2 = some r → Ev (fun k => spec_l1Cur_people.f k l n s) r := fun hr => by
    unfold spec_l1Cur_people.f
    refine bind e1 (bindSome e2 ?_)
    exact ofEq hr
  by_cases c0 : v = 0
  · obtain ⟨q, n3, s3, e3, hq, hn3⟩ := pick_ok h s2 (n := n2) (m := 6) (by omega) (by omega)
    refine ⟨_, n3, s3, fin ?_, rows_drawn q.toNat, by omega⟩
    unfold spec_l1Cur_people.rest
    rw [if_pos c0, e3, Option.bind_some, if_pos hq]
  · by_cases c1 : v = 1
    · obtain ⟨o', n3, s3, e3, ⟨h4, h5⟩, hn3⟩ := more_ok h 21 o n2 s2 (by omega) (by omega) (by omega) h3
      refine ⟨o', n3, s3, fin ?_, ⟨by omega, fun x hx => by have := h5 x hx; omega⟩, by omega⟩
      unfold spec_l1Cur_people.rest
      rw [if_neg c0, if_pos c1]
      exact e3
    · refine ⟨o, n2, s2, fin ?_, ⟨by omega, fun x hx => by have := h3 x hx; omega⟩, by omega⟩
      unfold spec_l1Cur_people.rest
      rw [if_neg c0, if_neg c1]

/-! ### small loops of the laws -/
theorem zsame (xs : List Int) (hx : xs.length ≤ 1048576) : Ev (fun k => laws_zSame.f k xs xs) true := by
  have key : ∀ i : Nat, i ≤ xs.length → Ev (fun k => laws_zSame.l0 k xs xs xs.length i) true := by
    refine down xs.length ?_ ?_
    · refine succ ?_
      simp only [laws_zSame.l0]
      exact neg (by omega) (now _)
    · intro i hi ih
      refine succ ?_
      simp only [laws_zSame.l0]
      rw [wnat (by omega)]
      exact pos (by omega) (pos (by omega) (pos (by omega) (pos (by omega) (pos trivial ih))))
  unfold laws_zSame.f
  exact pos rfl (key 0 (Nat.zero_le _))
theorem zrises (xs : List Int) (hx : xs.length ≤ 1048576) (h : ∀ j : Nat, (hj : j + 1 < xs.length) → xs[j] < xs[j + 1]) : Ev (fun k => laws_zRises.f k xs) true := by
  have key : ∀ i : Nat, i ≤ xs.length → 1 ≤ i → Ev (fun k => laws_zRises.l0 k xs i) true := by
    refine down xs.length ?_ ?_
    · intro h0
      refine succ ?_
      simp only [laws_zRises.l0]
      exact neg (by omega) (now _)
    · intro i hi ih h0
      refine succ ?_
      simp only [laws_zRises.l0]
      obtain ⟨j, rfl⟩ : ∃ j, i = j + 1 := ⟨i - 1, by omega⟩
      rw [wnat (by omega), wsub1 (by omega), show (((j + 1 : Nat) : Int) - 1) = (j : Int) by omega, rd_lt xs j (by omega), rd_lt xs (j + 1) hi]
      have := h j hi
      exact pos (by omega) (pos (by omega) (pos (by omega) (pos (by omega) (neg (by omega) (ih (by omega))))))
  unfold laws_zRises.f
  by_cases c : 1 ≤ xs.length
  · exact key 1 c (Nat.le_refl _)
  · refine succ ?_
    simp only [laws_zRises.l0]
    exact neg (by omega) (now _)
theorem zhas (xs : List Int) (hx : xs.length ≤ 1048576) (a : Int) : Ev (fun k => laws_zHas.f k xs a) (decide (a ∈ xs)) := by
  have key : ∀ i : Nat, i ≤ xs.length → Ev (fun k => laws_zHas.l0 k a xs xs.length i) (decide (a ∈ xs.drop i)) := by
    refine down xs.length ?_ ?_
    · refine succ ?_
      simp only [laws_zHas.l0]
      exact neg (by omega) (conv (now _) (by simp))
    · intro i hi ih
      refine succ ?_
      simp only [laws_zHas.l0]
      rw [wnat (by omega), rd_lt xs i hi]
      refine pos (by omega) (pos (by omega) (pos (by omega) ?_))
      rw [List.drop_eq_getElem_cons hi]
      by_cases e : xs[i] = a
      · exact pos e (conv (now _) (by simp [e]))
      · refine neg e (conv ih ?_)
        rw [decide_eq_decide, List.mem_cons]
        exact ⟨fun h => .inr h, fun h => h.resolve_left (fun z => e z.symm)⟩
  unfold laws_zHas.f
  exact conv (key 0 (Nat.zero_le _)) (by simp)

theorem all_below {P : Nat → Nat → Prop} : ∀ n : Nat, (∀ j, j < n → ∃ K, ∀ k, K ≤ k → P j k) → ∃ K, ∀ k, K ≤ k → ∀ j, j < n → P j k := by
  intro n
  induction n with
  | zero => intro _; exact ⟨0, fun _ _ j hj => by omega⟩
  | succ n ih =>
    intro h
    obtain ⟨K1, h1⟩ := ih (fun j hj => h j (by omega))
    obtain ⟨K2, h2⟩ := h n (by omega)
    refine ⟨K1 + K2, fun k hk j hj => ?_⟩
    by_cases e : j = n
    · subst e; exact h2 k (by omega)
    · exact h1 k (by omega) j (by omega)

/-! ### the first half -/
theorem up_rises {n : Nat} : ∀ (bs : List Int) (i : Int), Up n i bs → ∀ j : Nat, (h : j < bs.length) → (i < bs[j] ∧ bs[j] < n) ∧ (∀ _ : 0 < j, bs[j - 1]'(by omega) < bs[j]) := by
  intro bs
  induction bs with
  | nil => intro i _ j h; simp at h
  | cons b bs ih =>
    intro i hu j h
    obtain ⟨h1, h2, h3⟩ := hu
    cases j with
    | zero => exact ⟨⟨h1, h2⟩, fun z => by omega⟩
    | succ j =>
      have hj : j < bs.length := by simpa using h
      obtain ⟨⟨a1, a2⟩, a3⟩ := ih b h3 j hj
      refine ⟨⟨by simp only [List.getElem_cons_succ]; omega, by simpa using a2⟩, fun _ => ?_⟩
      cases j with
      | zero => simpa using a1
      | succ j => simpa using a3 (by omega)
theorem boxes_good {l : List Int} (hp : People l) (m : Nat) (h1 : 1 ≤ m) (h5 : m ≤ 5) (hn : m ≤ l.length) : Boxes l (boxes l m (-1)) := by
  have hS := small_q (people_q hp)
  have hu := boxes_up hS m (by omega) (-1) (by omega) (by omega)
  refine ⟨hp, by rw [boxes_len]; omega, fun j _ hj => ?_⟩
  obtain ⟨⟨a1, a2⟩, a3⟩ := up_rises _ _ hu j hj
  exact ⟨by omega, fun z => a3 z⟩
theorem least_spec (l : List Int) (m : Nat) (c : Many l m) : Ev (fun k => spec_LeastBoxesSum.f k l (m : Int)) (cost l (-1) (boxes l m (-1)), true) := by
  have hS := small_q (people_q c.1)
  have c2 := c.2
  have hx := c.1.1.1
  unfold spec_LeastBoxesSum.f
  exact bind (many_spec l m (by omega)) (pos (by simpa [Many] using c) (bind (first_f hS m (by omega) (by omega) (by omega)) (now _)))
theorem least_impl (l : List Int) (m : Nat) (c : Many l m) : Ev (fun k => impl_LeastBoxesSum.f k l (m : Int)) (cost l (-1) (boxes l m (-1)), true) := by
  have hS := small_q (people_q c.1)
  have c2 := c.2
  have hx := c.1.1.1
  have hb := impl_cost hS (boxes l m (-1)) (by rw [boxes_len]; omega) (by rw [boxes_len]; omega) (boxes_up hS m (by omega) (-1) (by omega) (by omega))
  have hf := firstBoxes_f hS (m : Int) (by omega) (by omega)
  rw [Int.toNat_natCast] at hf
  unfold impl_LeastBoxesSum.f
  exact bind (many_impl l m (by omega)) (pos (by simpa [Many] using c) (bind hf (bind hb (now _))))
theorem least_no (l : List Int) (a : Int) (hx : l.length ≤ 35184372088832) (c : ¬ Many l a) : Ev (fun k => spec_LeastBoxesSum.f k l a) (0, false) ∧ Ev (fun k => impl_LeastBoxesSum.f k l a) (0, false) := by
  unfold spec_LeastBoxesSum.f impl_LeastBoxesSum.f
  exact ⟨bind (many_spec l a hx) (neg (by simpa [Many] using c) (now _)), bind (many_impl l a hx) (neg (by simpa [Many] using c) (now _))⟩
theorem draw_first {l : List Int} (h : Bytes l) : ∃ o m, Ev (fun k => spec_DrawFirstBoxes.f k l) (o, m) ∧ Drawn o := by
  obtain ⟨o, n1, s1, e1, hd, hn⟩ := people_ok h 0 (n := 0) (by omega)
  obtain ⟨v, n2, s2, e2, -, -⟩ := among_ok h s1 (n := n1) (by omega) (xs := [1, 2, 3, 2, 5, 6, 0, -1]) (by simp)
  refine ⟨o, v, ?_, hd⟩
  unfold spec_DrawFirstBoxes.f spec_DrawLeastBoxesSum.f
  exact bind (bind e1 (bindSome e2 (now _))) (now _)
theorem put_ok (l : List Int) (m : Nat) (c : Many l m) (f : Nat) (hf : f ≤ 60) (h1 : need l f ≤ m) (h2 : ∀ g, g < f → m < need l g) : ∃ n, ∀ k, n ≤ k → laws_FnBoxesPut.Put k l (boxes l m (-1)) (m : Int) (cost l (-1) (boxes l m (-1))) (f : Int) := by
  obtain ⟨hp, c1, c2⟩ := c
  have hq := people_q hp
  have hx := hq.1
  have hb := boxes_good hp m (by omega) (by omega) (by omega)
  have hlen := boxes_len l m (-1)
  obtain ⟨n1, A1⟩ := sum_impl l (boxes l m (-1)) (by omega) (by omega)
  rw [if_pos hb] at A1
  obtain ⟨n2, A2⟩ := fewest_impl l hp f hf
  rw [if_pos (by omega)] at A2
  obtain ⟨n3, A3⟩ := zrises (boxes l m (-1)) (by omega) (fun j hj => by
    have := (up_rises _ _ (boxes_up (small_q hq) m (by omega) (-1) (by omega) (by omega)) (j + 1) hj).2 (by omega)
    simpa using this)
  have B : ∃ n, ∀ k, n ≤ k → 0 < (f : Int) → ∃ (over : Int) (b : Bool), impl_FewestBoxes.f k l ((f : Int) - 1) = some (over, b) ∧ (b = true → (m : Int) < over) := by
    by_cases z : f = 0
    · exact ⟨0, fun _ _ h => by omega⟩
    · obtain ⟨n, A⟩ := fewest_impl l hp (f - 1) (by omega)
      have := h2 (f - 1) (by omega)
      refine ⟨n, fun k hk _ => ?_⟩
      have e := A k hk
      rw [show ((f - 1 : Nat) : Int) = (f : Int) - 1 by omega] at e
      by_cases w : need l (f - 1) ≤ 5
      · rw [if_pos w] at e
        exact ⟨_, _, e, fun _ => by omega⟩
      · rw [if_neg w] at e
        exact ⟨_, _, e, fun h => by cases h⟩
  have C : ∃ n, ∀ k, n ≤ k → 1 < (m : Int) → ∃ fewer wide : Int, impl_LeastBoxesSum.f k l ((m : Int) - 1) = some (fewer, true) ∧ impl_FarthestBoxes.f k l ((m : Int) - 1) = some (wide, true) ∧ cost l (-1) (boxes l m (-1)) ≤ fewer ∧ (f : Int) ≤ wide := by
    by_cases z : 1 < m
    · have c' : Many l ((m - 1 : Nat) : Int) := ⟨hp, by omega, by omega⟩
      obtain ⟨g, g0, g1, g2⟩ := far_least l hx.2 (m := m - 1) (by omega)
      obtain ⟨na, A⟩ := least_impl l (m - 1) c'
      obtain ⟨nb, B⟩ := farthest_impl l (m - 1) c' g g0 g1 g2
      have hm := least_more hq (m - 1) (by omega) (by omega) (by omega)
      rw [show m - 1 + 1 = m by omega] at hm
      refine ⟨na + nb, fun k hk _ => ⟨cost l (-1) (boxes l (m - 1) (-1)), (g : Int), ?_, ?_, hm, ?_⟩⟩
      · have e := A k (by omega)
        rwa [show ((m - 1 : Nat) : Int) = (m : Int) - 1 by omega] at e
      · have e := B k (by omega)
        rwa [show ((m - 1 : Nat) : Int) = (m : Int) - 1 by omega] at e
      · by_cases w : g < f
        · have := h2 g w; omega
        · omega
    · exact ⟨0, fun _ _ h => by omega⟩
  have D : ∃ n, ∀ k, n ≤ k → (m : Int) ≤ 1 → ∃ best center : List Int, impl_BestHouses.f k l = some (best, true) ∧ impl_CenterHouses.f k l = some (center, true) ∧ 0 < best.length ∧ 0 < center.length ∧ rd (boxes l m (-1)) 0 = rd best 0 ∧ impl_FarthestTo.f k l (rd center 0) = some ((f : Int), true) := by
    by_cases z : m = 1
    · subst z
      obtain ⟨x, e, hxf⟩ := box_one hq
      obtain ⟨n1, A⟩ := best_impl l hp
      obtain ⟨n2, B⟩ := center_impl l hp
      obtain ⟨a1, y, a2, a3⟩ := lst_head (fun h => Wk l h l.length 0) l.length hx.1 0
      obtain ⟨b1, w, b2, b3⟩ := lst_head (fun h => Fk l h l.length 0 0) l.length hx.1 0
      obtain ⟨n3, C⟩ := farthest_to l hp w b3.1
      have exy : x = y := first_one hxf a3
      have ecf := center_far hp b3 h1 h2
      refine ⟨n1 + n2 + n3, fun k hk _ => ⟨_, _, A k (by omega), B k (by omega), List.length_pos_iff.2 a1, List.length_pos_iff.2 b1, ?_, ?_⟩⟩
      · rw [e, a2, ← exy]
        simp [rd]
      · rw [b2]
        have z := C k (by omega)
        rw [ecf] at z
        exact z
    · exact ⟨0, fun _ _ h => by omega⟩
  obtain ⟨n4, B⟩ := B
  obtain ⟨n5, C⟩ := C
  obtain ⟨n6, D⟩ := D
  exact ⟨n1 + n2 + n3 + n4 + n5 + n6, fun k hk => ⟨_, A1 k (by omega), A2 k (by omega), by rw [hlen], A3 k (by omega), by omega, by omega, by omega, B k (by omega), C k (by omega), D k (by omega)⟩⟩
theorem one_all {l : List Int} (h : Bytes l) : ∃ n, ∀ k, n ≤ k → laws_FnBoxesPut.One k l := by
  obtain ⟨p, a, ⟨n0, e⟩, hd⟩ := draw_first h
  have hx := hd.1
  by_cases c : Many p a
  · obtain ⟨m, rfl⟩ : ∃ m : Nat, a = (m : Int) := ⟨a.toNat, by have := c.2; omega⟩
    obtain ⟨hp, c1, c2⟩ := c
    obtain ⟨f, f0, f1, f2⟩ := far_least p (people_q hp).1.2 (m := m) (by omega)
    have c : Many p m := ⟨hp, c1, c2⟩
    obtain ⟨n1, A1⟩ := boxes_impl p m (by omega)
    obtain ⟨n2, A2⟩ := boxes_spec p m (by omega)
    rw [if_pos (show People p ∧ 1 ≤ (m : Int) ∧ (m : Int) ≤ min 5 (p.length : Int) from c), Int.toNat_natCast] at A1 A2
    obtain ⟨n3, A3⟩ := least_impl p m c
    obtain ⟨n4, A4⟩ := least_spec p m c
    obtain ⟨n5, A5⟩ := farthest_impl p m c f f0 f1 f2
    obtain ⟨n6, A6⟩ := farthest_spec p m c f f0 f1 f2
    obtain ⟨n7, A7⟩ := zsame (boxes p m (-1)) (by rw [boxes_len]; omega)
    obtain ⟨n8, A8⟩ := put_ok p m c f f0 f1 f2
    exact ⟨n0 + n1 + n2 + n3 + n4 + n5 + n6 + n7 + n8, fun k hk => ⟨p, _, m, _, f, true, e k (by omega), A1 k (by omega), A2 k (by omega), A3 k (by omega), A4 k (by omega), A5 k (by omega), A6 k (by omega), A7 k (by omega), fun _ => A8 k (by omega)⟩⟩
  · obtain ⟨n1, A1⟩ := boxes_impl p a (by omega)
    obtain ⟨n2, A2⟩ := boxes_spec p a (by omega)
    rw [if_neg (show ¬ (People p ∧ 1 ≤ a ∧ a ≤ min 5 (p.length : Int)) from c)] at A1 A2
    obtain ⟨⟨n4, A4⟩, ⟨n3, A3⟩⟩ := least_no p a (by omega) c
    obtain ⟨⟨n5, A5⟩, ⟨n6, A6⟩⟩ := farthest_no p a (by omega) c
    obtain ⟨n7, A7⟩ := zsame [] (by simp)
    exact ⟨n0 + n1 + n2 + n3 + n4 + n5 + n6 + n7, fun k hk => ⟨p, [], a, 0, 0, false, e k (by omega), A1 k (by omega), A2 k (by omega), A3 k (by omega), A4 k (by omega), A5 k (by omega), A6 k (by omega), A7 k (by omega), fun h => by cases h⟩⟩
/-! ### the second half -/
theorem pick_any {l : List Int} (h : Bytes l) {n : Int} (s : Int) {m : Int} (hn : 0 ≤ n ∧ n ≤ 1000000) (hm : m ≤ 200) : ∃ v n' s', spec_l1Cur_pick.f l n s m = some (v, n', s') ∧ (n ≤ n' ∧ n' ≤ n + 1) := by
  by_cases c : 1 ≤ m
  · obtain ⟨v, n', s', e, -, h2⟩ := pick_ok h s hn ⟨c, hm⟩
    exact ⟨v, n', s', e, h2⟩
  · refine ⟨0, n, s, ?_, by omega⟩
    unfold spec_l1Cur_pick.f
    rw [if_pos (by omega)]
theorem j2_ok {l : List Int} (h : Bytes l) (p bs : List Int) (hb : bs.length ≤ 6) {n : Int} (s : Int) (hn : 0 ≤ n ∧ n ≤ 100000) : ∃ bs' n' s', Ev (fun k => spec_l1Cur_boxes.j2 k p bs l n s) (p, bs', n', s') ∧ bs'.length ≤ 7 := by
  obtain ⟨v, n1, s1, e1, hn1⟩ := one_ok h s (n := n) (m := 12) (by omega) (by omega)
  cases v with
  | true =>
    obtain ⟨u, n2, s2, e2, -, -⟩ := among_ok h s1 (n := n1) (by omega) (xs := [-1, 0, 9, 60]) (by simp)
    refine ⟨bs ++ [u], n2, s2, succ ?_, by simp; omega⟩
    simp only [spec_l1Cur_boxes.j2]
    exact bindSome e1 (pos rfl (bindSome e2 (pos (by omega) (now _))))
  | false =>
    refine ⟨bs, n1, s1, succ ?_, by omega⟩
    simp only [spec_l1Cur_boxes.j2]
    exact bindSome e1 (neg Bool.false_ne_true (now _))
theorem j1_ok {l : List Int} (h : Bytes l) (p bs : List Int) (hp : p.length ≤ 61) (hb : bs.length ≤ 6) (x : Bool) {n : Int} (s : Int) (hn : 0 ≤ n ∧ n ≤ 10000) : ∃ bs' n' s', Ev (fun k => spec_l1Cur_boxes.j1 k p bs x l n s) (p, bs', n', s') ∧ bs'.length ≤ 7 := by
  cases x with
  | true =>
    obtain ⟨v, n1, s1, e1, hn1⟩ := pick_any h s (n := n) (m := (p.length : Int)) (by omega) (by omega)
    obtain ⟨bs', n', s', e, hl⟩ := j2_ok h p [v] (by simp) s1 (n := n1) (by omega)
    refine ⟨bs', n', s', succ ?_, hl⟩
    simp only [spec_l1Cur_boxes.j1]
    exact pos trivial (bindSome e1 e)
  | false =>
    obtain ⟨bs', n', s', e, hl⟩ := j2_ok h p bs hb s (n := n) (by omega)
    refine ⟨bs', n', s', succ ?_, hl⟩
    simp only [spec_l1Cur_boxes.j1]
    exact neg Bool.false_ne_true e
theorem bl0_ok {l : List Int} (h : Bytes l) (p : List Int) (hp : p.length ≤ 61) (m : Int) (hm : 1 ≤ m ∧ m ≤ 200) : ∀ i : Nat, i ≤ p.length → ∀ (bs : List Int) (n s : Int), bs.length ≤ 5 → 0 ≤ n ∧ n ≤ 1000 + i → ∃ bs' n' s', Ev (fun k => spec_l1Cur_boxes.l0 k p bs m (p.length : Int) (i : Int) l n s) (p, bs', n', s') ∧ bs'.length ≤ 7 := by
  refine down p.length ?_ ?_
  · intro bs n s hb hn
    by_cases c : (bs.length : Int) = 0
    · obtain ⟨v, n1, s1, e1, hn1⟩ := one_ok h s (n := n) (m := 6) (by omega) (by omega)
      obtain ⟨bs', n', s', e, hl⟩ := j1_ok h p bs hp (by omega) (!v) s1 (n := n1) (by omega)
      refine ⟨bs', n', s', succ ?_, hl⟩
      simp only [spec_l1Cur_boxes.l0]
      exact neg (by omega) (pos c (bindSome e1 e))
    · obtain ⟨bs', n', s', e, hl⟩ := j1_ok h p bs hp (by omega) false s (n := n) (by omega)
      refine ⟨bs', n', s', succ ?_, hl⟩
      simp only [spec_l1Cur_boxes.l0]
      exact neg (by omega) (neg c e)
  · intro i hi ih bs n s hb hn
    obtain ⟨v, n1, s1, e1, hn1⟩ := one_ok h s (n := n) (m := m) (by omega) hm
    have ew : wrap64 ((i : Int) + 1) = ((i + 1 : Nat) : Int) := wnat (by omega)
    cases v with
    | true =>
      by_cases c : (bs.length : Int) < 5
      · obtain ⟨bs', n', s', e, hl⟩ := ih (bs ++ [(i : Int)]) n1 s1 (by simp; omega) (by omega)
        refine ⟨bs', n', s', succ ?_, hl⟩
        simp only [spec_l1Cur_boxes.l0]
        rw [ew]
        exact pos (by omega) (bindSome e1 (pos rfl (pos c (pos (by omega) e))))
      · obtain ⟨bs', n', s', e, hl⟩ := ih bs n1 s1 hb (by omega)
        refine ⟨bs', n', s', succ ?_, hl⟩
        simp only [spec_l1Cur_boxes.l0]
        rw [ew]
        exact pos (by omega) (bindSome e1 (pos rfl (neg c e)))
    | false =>
      obtain ⟨bs', n', s', e, hl⟩ := ih bs n1 s1 hb (by omega)
      refine ⟨bs', n', s', succ ?_, hl⟩
      simp only [spec_l1Cur_boxes.l0]
      rw [ew]
      exact pos (by omega) (bindSome e1 (neg Bool.false_ne_true e))
theorem draw_each {l : List Int} (h : Bytes l) : ∃ p bs, Ev (fun k => spec_DrawBoxOfEach.f k l) (p, bs) ∧ Drawn p ∧ bs.length ≤ 7 := by
  obtain ⟨p, n1, s1, e1, hd, hn1⟩ := people_ok h 0 (n := 0) (by omega)
  obtain ⟨v, n2, s2, e2, hv, hn2⟩ := pick_ok h s1 (n := n1) (m := 4) (by omega) (by omega)
  obtain ⟨bs, n', s', e3, hl⟩ := bl0_ok h p hd.1 (1 + v) (by omega) 0 (Nat.zero_le _) [] n2 s2 (by simp) (by omega)
  refine ⟨p, bs, ?_, hd, hl⟩
  unfold spec_DrawBoxOfEach.f spec_DrawBoxesSum.f spec_l1Cur_boxes.f
  refine bind (a := (p, bs)) (bind (a := (p, bs, n', s')) (bind e1 (bindSome e2 ?_)) (now _)) (now _)
  rw [w64 (x := 1 + v) (by omega) (by omega)]
  exact e3
theorem draw_fewest {l : List Int} (h : Bytes l) : ∃ q a, Ev (fun k => spec_DrawFewestBoxes.f k l) (q, a) ∧ Drawn q := by
  obtain ⟨o, n1, s1, e1, hd, hn⟩ := people_ok h 0 (n := 0) (by omega)
  obtain ⟨v, n2, s2, e2, -, -⟩ := among_ok h s1 (n := n1) (by omega) (xs := [0, 1, 2, 3, 60, 61, -1]) (by simp)
  refine ⟨o, v, ?_, hd⟩
  unfold spec_DrawFewestBoxes.f
  exact bind e1 (bindSome e2 (now _))
/-- The nearest box of each house. -/
def nears (b : Int) (bs : List Int) (n : Nat) : List Int := (List.range n).map fun (j : Nat) => nr b bs (j : Int)
theorem nears_len (b : Int) (bs : List Int) (n : Nat) : (nears b bs n).length = n := by simp [nears]
theorem nears_rd (b : Int) (bs : List Int) (n j : Nat) (h : j < n) : rd (nears b bs n) (j : Int) = nr b bs j := by
  rw [rd_lt _ j (by rw [nears_len]; exact h)]
  simp [nears]
theorem each_spec {l : List Int} (b : Int) (bs : List Int) (hc : Boxes l (b :: bs)) : Ev (fun k => spec_BoxOfEach.f k l (b :: bs)) (nears b bs l.length, true) := by
  have hx := hc.1.1.1
  have hb5 := hc.2.1
  have hin := up_inn hc.up
  have key : ∀ i : Nat, i ≤ l.length → Ev (fun k => spec_BoxOfEach.l0 k (b :: bs) (nears b bs i) l.length i) (nears b bs l.length, true) := by
    refine down l.length ?_ ?_
    · refine succ ?_
      simp only [spec_BoxOfEach.l0]
      exact neg (by omega) (now _)
    · intro i hi ih
      refine succ ?_
      simp only [spec_BoxOfEach.l0]
      rw [wnat (by omega)]
      refine pos (by omega) (bind (spec_near l.length hx.2 b bs hin (by omega) i (by omega) (by omega)) (pos (by rw [nears_len]; omega) ?_))
      rw [show nears b bs i ++ [nr b bs (i : Int)] = nears b bs (i + 1) by simp [nears, List.range_succ]]
      exact ih
  unfold spec_BoxOfEach.f
  exact bind (good_boxes_spec l (b :: bs) (by omega) (by omega)) (pos (by simpa using hc) (key 0 (Nat.zero_le _)))
theorem each_impl {l : List Int} (b : Int) (bs : List Int) (hc : Boxes l (b :: bs)) : Ev (fun k => impl_BoxOfEach.f k l (b :: bs)) (nears b bs l.length, true) := by
  have hx := hc.1.1.1
  have hb5 := hc.2.1
  have hin := up_inn hc.up
  have key : ∀ i : Nat, i ≤ l.length → ∀ xs : List Int, xs.length = l.length → (∀ j : Nat, j < i → rd xs (j : Int) = nr b bs j) → Ev (fun k => impl_BoxOfEach.l0 k (b :: bs) xs (xs.length : Int) i) (nears b bs l.length, true) := by
    refine down l.length ?_ ?_
    · intro xs hl hr
      refine succ ?_
      simp only [impl_BoxOfEach.l0]
      refine neg (by omega) (conv (now _) ?_)
      congr 1
      refine List.ext_getElem (by rw [nears_len, hl]) (fun j h1 h2 => ?_)
      have := hr j (by omega)
      rw [rd_lt xs j h1] at this
      rw [this]
      simp [nears]
    · intro i hi ih xs hl hr
      refine succ ?_
      simp only [impl_BoxOfEach.l0]
      rw [wnat (by omega)]
      refine pos (by omega) (bind (impl_near l.length hx.2 b bs hin (by omega) i (by omega) (by omega)) (pos (by omega) (pos (by omega) ?_)))
      rw [Int.toNat_natCast]
      have z := ih (xs.set i (nr b bs i)) (by simpa using hl) (fun j hj => by
        rw [rd_nat, List.getD_eq_getElem?_getD, List.getElem?_set]
        by_cases e : i = j
        · subst e
          simp [hl, hi]
        · rw [if_neg e, ← List.getD_eq_getElem?_getD, ← rd_nat]
          exact hr j (by omega))
      rw [List.length_set] at z
      exact z
  unfold impl_BoxOfEach.f
  refine bind (good_boxes_impl l (b :: bs) (by omega) (by omega)) (pos (by simpa using hc) (pos (by omega) (pos (by omega) (bindSome rfl ?_))))
  rw [Int.toNat_natCast]
  exact key 0 (Nat.zero_le _) (List.replicate l.length 0) (by simp) (fun j hj => by omega)
theorem each_no (l bs : List Int) (hl : l.length ≤ 1048576) (hb : bs.length ≤ 1048576) (c : ¬ Boxes l bs) : Ev (fun k => spec_BoxOfEach.f k l bs) ([], false) ∧ Ev (fun k => impl_BoxOfEach.f k l bs) ([], false) := by
  unfold spec_BoxOfEach.f impl_BoxOfEach.f
  exact ⟨bind (good_boxes_spec l bs hl hb) (neg (by simpa using c) (now _)), bind (good_boxes_impl l bs hl hb) (neg (by simpa using c) (now _))⟩
theorem tot_cost (l : List Int) (b : Int) (bs : List Int) : ∀ j : Nat, j ≤ l.length → laws_FnBoxesPut.tot l (nears b bs l.length) j = iter (fun h c => c + rd l (h : Int) * nd b bs h) j 0 0 := by
  intro j
  induction j with
  | zero => intro _; rfl
  | succ j ih =>
    intro hj
    rw [iter_snoc, Nat.zero_add, ← ih (by omega)]
    simp only [laws_FnBoxesPut.tot]
    rw [nears_rd b bs l.length j (by omega), nr_nd]
    rfl
theorem near_all (l : List Int) (b : Int) (bs : List Int) (hc : Boxes l (b :: bs)) : ∃ n, ∀ k, n ≤ k → laws_FnBoxesPut.Near k l (b :: bs) (nears b bs l.length) (cost l (-1) (b :: bs)) := by
  have hx := hc.1.1.1
  have hv := hc.1.1.2
  have hb5 := hc.2.1
  have hu := hc.up
  have hin := up_inn hu
  have hq := people_q hc.1
  obtain ⟨n1, A1⟩ := all_below (P := fun j k => laws_zHas.f k (b :: bs) (nr b bs (j : Int)) = some true) l.length (fun j _ => by
    obtain ⟨n, e⟩ := zhas (b :: bs) (by omega) (nr b bs (j : Int))
    exact ⟨n, fun k hk => by rw [show laws_zHas.f k (b :: bs) (nr b bs (j : Int)) = _ from e k hk, decide_eq_true (nr_mem bs b j)]⟩)
  have c : Many l ((b :: bs).length : Int) := ⟨hc.1, by omega, by have := up_len (b :: bs) (-1) (by omega) hu; omega⟩
  obtain ⟨n2, A2⟩ := least_impl l (b :: bs).length c
  have hle := boxes_least (small_q hq) (b :: bs).length hb5.1 hb5.2 (by have := c.2; omega) (b :: bs) rfl hu
  refine ⟨n1 + n2, fun k hk => ⟨nears_len _ _ _, by omega, by omega, fun j hj => ⟨hq.2 j, ?_⟩, fun j hj => ⟨?_, fun h0 => ?_⟩, fun i hi => ?_, fun j hj i hi => ?_, ?_, _, A2 k (by omega), hle⟩⟩
  · rw [nears_rd _ _ _ _ hj]
    have := hin _ (nr_mem bs b j)
    omega
  · rw [nears_rd _ _ _ _ hj]
    exact A1 k (by omega) j hj
  · rw [nears_rd _ _ _ _ hj, nears_rd _ _ _ _ (by omega)]
    have := nr_mono bs b hu.2.2 ((j - 1 : Nat) : Int)
    rwa [show ((j - 1 : Nat) : Int) + 1 = (j : Int) by omega] at this
  · have := hin _ (rd_mem (b :: bs) i hi)
    omega
  · rw [nears_rd _ _ _ _ hj]
    have hm := rd_mem (b :: bs) i hi
    have h1 := nd_le bs b j _ hm
    have h2 := nr_nd bs b j
    have h3 := nr_low bs b j hu.2.2 _ hm
    unfold dist at h1 h2 h3
    exact ⟨by omega, fun e => h3 (by omega)⟩
  · rw [tot_cost l b bs l.length (Nat.le_refl _)]
    exact cost_all l b bs hu
theorem two_all {l : List Int} (h : Bytes l) : ∃ n, ∀ k, n ≤ k → laws_FnBoxesPut.Two k l := by
  obtain ⟨p, bs, ⟨n0, e0⟩, hd, hl⟩ := draw_each h
  obtain ⟨q, a, ⟨n1, e1⟩, hdq⟩ := draw_fewest h
  have hp := hd.1
  have hq := hdq.1
  have F : ∃ (need_ : Int) (nine : Bool), (∃ n, ∀ k, n ≤ k → impl_FewestBoxes.f k q a = some (need_, nine)) ∧ (∃ n, ∀ k, n ≤ k → spec_FewestBoxes.f k q a = some (need_, nine)) ∧ (nine = true → 1 ≤ need_ ∧ need_ ≤ 5 ∧ need_ ≤ (q.length : Int)) := by
    by_cases c : People q ∧ 0 ≤ a ∧ a ≤ 60
    · obtain ⟨c1, c2, c3⟩ := c
      obtain ⟨f, rfl⟩ : ∃ f : Nat, a = (f : Int) := ⟨a.toNat, by omega⟩
      have A := fewest_impl q c1 f (by omega)
      have B := fewest_spec q c1 f (by omega)
      have h1 := need_pos (people_pos c1) f
      have h2 := need_len q f
      by_cases d : need q f ≤ 5
      · rw [if_pos d] at A B
        exact ⟨_, _, A, B, fun _ => by omega⟩
      · rw [if_neg d] at A B
        exact ⟨_, _, A, B, fun z => by cases z⟩
    · obtain ⟨A, B⟩ := fewest_no q a (by omega) c
      exact ⟨_, _, A, B, fun z => by cases z⟩
  obtain ⟨need_, nine, ⟨n2, f1⟩, ⟨n3, f2⟩, f3⟩ := F
  by_cases c : Boxes p bs
  · cases bs with
    | nil => exact absurd c.2.1.1 (by simp)
    | cons b bs =>
      obtain ⟨n4, g1⟩ := each_impl b bs c
      obtain ⟨n5, g2⟩ := each_spec b bs c
      obtain ⟨n6, g3⟩ := sum_impl p (b :: bs) (by omega) (by omega)
      obtain ⟨n7, g4⟩ := sum_spec p (b :: bs) (by omega) (by omega)
      rw [if_pos c] at g3 g4
      obtain ⟨n8, g5⟩ := zsame (nears b bs p.length) (by rw [nears_len]; omega)
      obtain ⟨n9, g6⟩ := near_all p b bs c
      exact ⟨n0 + n1 + n2 + n3 + n4 + n5 + n6 + n7 + n8 + n9, fun k hk => ⟨p, b :: bs, _, q, _, a, need_, true, nine, e0 k (by omega), g1 k (by omega), g2 k (by omega), g3 k (by omega), g4 k (by omega), e1 k (by omega), f1 k (by omega), f2 k (by omega), g5 k (by omega), fun _ => g6 k (by omega), f3⟩⟩
  · obtain ⟨⟨n5, g2⟩, ⟨n4, g1⟩⟩ := each_no p bs (by omega) (by omega) c
    obtain ⟨n6, g3⟩ := sum_impl p bs (by omega) (by omega)
    obtain ⟨n7, g4⟩ := sum_spec p bs (by omega) (by omega)
    rw [if_neg c] at g3 g4
    obtain ⟨n8, g5⟩ := zsame [] (by simp)
    exact ⟨n0 + n1 + n2 + n3 + n4 + n5 + n6 + n7 + n8, fun k hk => ⟨p, bs, [], q, 0, a, need_, false, nine, e0 k (by omega), g1 k (by omega), g2 k (by omega), g3 k (by omega), g4 k (by omega), e1 k (by omega), f1 k (by omega), f2 k (by omega), g5 k (by omega), (fun z => by cases z), f3⟩⟩
theorem both_f (l0 l1 : List Int) (h0 : l0.length ≤ 140737488355327) (h1 : l1.length ≤ 140737488355327) (b0 : ∀ x ∈ l0, 0 ≤ x ∧ x ≤ 255) (b1 : ∀ x ∈ l1, 0 ≤ x ∧ x ≤ 255) : laws_FnBoxesPut.f l0 l1 = some true := by
  unfold laws_FnBoxesPut.f
  split
  · rfl
  · rename_i g
    have hb : laws_big.f l0 l1 = some true := by
      unfold laws_big.f
      by_cases c : (l0.length : Int) > 1048576
      · rw [if_pos c]
      · rw [if_neg c, w64 (by omega) (by omega)]
        by_cases d : (l1.length : Int) > 1048576 - (l0.length : Int)
        · rw [decide_eq_true d]
        · refine absurd ?_ g
          obtain ⟨n1, f1⟩ := one_all (l := l0) ⟨by omega, b0⟩
          obtain ⟨n2, f2⟩ := two_all (l := l1) ⟨by omega, b1⟩
          refine ⟨n1 + n2, ?_, f1 _ (by omega), f2 _ (by omega)⟩
          unfold laws_big.f
          rw [if_neg c, w64 (by omega) (by omega), decide_eq_false d]
    rw [if_pos hb]
theorem FnBoxesPut : laws_FnBoxesPut.Pure := by
  intro l0 l1 hm0 hs0 hw0 hm1 hs1 hw1
  have bytes : ∀ {l : List Int}, (∀ x ∈ l, (Lit.int .u8 x).wf = true) → ∀ x ∈ l, 0 ≤ x ∧ x ≤ 255 := fun {l} h x hx => by
    have z := h x hx
    simp [Lit.wf, IntKind.wrap, IntKind.bits, IntKind.signed] at z
    have e1 : IntKind.u8.min = 0 := by decide
    have e2 : IntKind.u8.max = 255 := by decide
    omega
  exact both_f l0 l1 (by omega) (by omega) (bytes hw0) (bytes hw1)

end Go.Proofs.Ytkbdlcbempjmnaa.Pure
