/- The program counts the paintings of least cost where all costs are nought, by its tables; the reference counts the lists that end with the first colour and those that do not. Both are so many times the ways that go on from one colour. -/
import Derived.Test.YtbchfajbobploaaMCx4
import Derived.Test.YtbchfajbobploaaLib
namespace Go.Proofs.Ytbchfajbobploaa.Pure
open Go.RowKit Go.Proofs.Ytbchfajbobploaa.MC Go.Proofs.YtbchfajbobploaaW.PrintWords Go.Proofs.YtbchfajbobploaaW.PrintLast Go.Proofs.YtbchfajbobploaaW.PrintMore Go.Proofs.Ytbchfajbobploaa.Lib
set_option linter.unusedVariables false
set_option linter.unusedSimpArgs false

theorem spec_in (a b c : Int) : spec_l1In.f a b c = some (decide (b ≤ a ∧ a ≤ c)) := by
  unfold spec_l1In.f
  by_cases h : a ≥ b
  · rw [if_pos h]; simp [show b ≤ a from h]
  · rw [if_neg h]; simp [show ¬ b ≤ a from h]
theorem impl_in (a b c : Int) : impl_within.f a b c = some (decide (b ≤ a ∧ a ≤ c)) := by
  unfold impl_within.f
  by_cases h : a ≥ b
  · rw [if_pos h]; simp [show b ≤ a from h]
  · rw [if_neg h]; simp [show ¬ b ≤ a from h]

theorem rd_L1_nat (l : List (List Int)) (i : Nat) : rd_L1 l (i : Int) = l.getD i [] := by simp [rd_L1]
theorem rd_L1_lt (l : List (List Int)) (i : Nat) (h : i < l.length) : rd_L1 l (i : Int) = l[i] := by simp [rd_L1, h]

open impl_paintFrom (iter stp dv tab D1 D2 Rect)
theorem iter_rel {σ τ : Type} (R : Nat → σ → τ → Prop) (f : Nat → σ → σ) (g : Nat → τ → τ) : ∀ (n i : Nat) (c : σ) (c' : τ), (∀ j c c', i ≤ j → j < i + n → R j c c' → R (j + 1) (f j c) (g j c')) → R i c c' → R (i + n) (iter f n i c) (iter g n i c')
  | 0, _, _, _, _, h => h
  | n + 1, i, c, c', hs, h => by
    have z := iter_rel R f g n (i + 1) _ _ (fun j c c' h1 h2 => hs j c c' (by omega) (by omega)) (hs i c c' (Nat.le_refl _) (by omega) h)
    rw [show i + 1 + n = i + (n + 1) by omega] at z
    exact z
theorem stp_v (c : Nat) (v : Int) (e1 e2 : Nat → Int) (x : Nat) (p a : Int × Int) (h1 : e1 x = a.1) (h2 : e2 x = a.2) : stp c v e1 e2 x p = if x = c ∨ a.2 = 0 then p else if p.2 = 0 ∨ wrap64 (v + a.1) < p.1 then (wrap64 (v + a.1), wrap64 (0 + a.2)) else if wrap64 (v + a.1) = p.1 then (p.1, wrap64 (p.2 + a.2)) else p := by
  obtain ⟨a1, a2⟩ := a
  subst h1 h2
  rfl
/-- The last house's colour that is not had. -/
def noc (f0 : Nat) (rg : Bool) : Int := if rg = true then (f0 : Int) else -1
/-- Costs, as rows. -/
def Good (l : List (List Int)) (n K : Nat) : Prop := ((1 ≤ n ∧ n ≤ 20) ∧ (1 ≤ K ∧ K ≤ 5)) ∧ ∀ i c, i < n → c < K → 0 ≤ dv l i c ∧ dv l i c ≤ 1000
theorem pow5 (r : Nat) (h : r ≤ 20) : 5 ^ r ≤ 95367431640625 := Nat.le_trans (Nat.pow_le_pow_right (by decide) h) (by decide)
/-- The first that is. -/
theorem least_of (p : Nat → Prop) : ∀ n : Nat, p n → ∃ m, m ≤ n ∧ p m ∧ ∀ k, k < m → ¬ p k := by
  intro n
  induction n using Nat.strongRecOn with
  | _ n ih =>
    intro hp
    by_cases h : ∃ m, m < n ∧ p m
    · obtain ⟨m, hm, hpm⟩ := h
      obtain ⟨m', h1, h2, h3⟩ := ih m hm hpm
      exact ⟨m', by omega, h2, h3⟩
    · exact ⟨n, Nat.le_refl _, hp, fun k hk hpk => h ⟨k, hk, hpk⟩⟩
theorem tab_len (n K : Nat) (d : Nat → Nat → Int) : (tab n K d).length = n := by simp [tab]
theorem tab_row (n K : Nat) (d : Nat → Nat → Int) (x : Nat) (hx : x < n) : rd_L1 (tab n K d) (x : Int) = (List.range K).map fun y => d x y := by
  rw [rd_L1_lt _ _ (by rw [tab_len]; exact hx)]
  simp [tab]
theorem tab_rlen (n K : Nat) (d : Nat → Nat → Int) (x : Nat) (hx : x < n) : (rd_L1 (tab n K d) (x : Int)).length = K := by rw [tab_row _ _ _ _ hx]; simp
theorem tab_rd (n K : Nat) (d : Nat → Nat → Int) (x y : Nat) (hx : x < n) (hy : y < K) : rd (rd_L1 (tab n K d) (x : Int)) (y : Int) = d x y := by
  rw [tab_row _ _ _ _ hx, rd_lt _ _ (by simpa using hy)]
  simp
theorem dv_rd (l : List (List Int)) (i c : Nat) : rd (rd_L1 l (i : Int)) (c : Int) = dv l i c := by rw [rd_L1_nat]; rfl
/-- Costs of so many houses and colours. -/
def Cst (l : List (List Int)) (n K : Nat) : Prop := (l.length = n ∧ ∀ x ∈ l, x.length = K) ∧ Good l n K
theorem Cst.row {l : List (List Int)} {n K : Nat} (h : Cst l n K) (i : Nat) (hi : i < n) : (rd_L1 l (i : Int)).length = K := by
  rw [rd_L1_lt l i (by have := h.1.1; omega)]
  exact h.1.2 _ (List.getElem_mem _)
theorem Cst.head {l : List (List Int)} {n K : Nat} (h : Cst l n K) : (l.getD 0 []).length = K := by
  have z := h.row 0 (by have := h.2.1.1; omega)
  rw [rd_L1_nat] at z
  exact z
theorem paintFrom_some {l : List (List Int)} {n K : Nat} (h : Cst l n K) (no : Int) : Ev (fun k => impl_paintFrom.f k l no) (tab n K (D1 l n K no), tab n K (D2 l n K no)) := by
  have e1 := h.1.1
  have e2 := h.head
  refine ⟨1, fun k hk => ?_⟩
  obtain ⟨k, rfl⟩ : ∃ j, k = j + 1 := ⟨k - 1, by omega⟩
  simp only [impl_paintFrom.f]
  rw [if_pos ⟨by have := h.2.1.1; omega, by have := h.2.1.2; omega, rfl, fun x hx => by rw [h.1.2 x hx, e2]⟩, e1, e2]
theorem isRing_f (n : Nat) (ring : Bool) : impl_isRing.f (n : Int) ring = some (ring && decide (2 < n)) := by
  unfold impl_isRing.f
  cases ring with
  | false => rw [if_neg (by simp)]; rfl
  | true =>
    rw [if_pos rfl]
    congr 1
    rw [Bool.true_and, decide_eq_decide]
    omega
theorem rwRing_f (n : Nat) (ring : Bool) : spec_rwRing.f (n : Int) ring = some (ring && decide (2 < n)) := by
  unfold spec_rwRing.f
  cases ring with
  | false => rw [if_neg (by simp)]; rfl
  | true =>
    rw [if_pos rfl]
    congr 1
    rw [Bool.true_and, decide_eq_decide]
    omega

/-- Costs that are all nought. -/
def zr (n K : Nat) : List (List Int) := List.replicate n (List.replicate K 0)
theorem dv_zr (n K i c : Nat) (hi : i < n) (hc : c < K) : dv (zr n K) i c = 0 := by
  unfold dv zr
  rw [List.getD_eq_getElem?_getD, List.getElem?_replicate, if_pos hi]
  show rd (List.replicate K 0) (c : Int) = 0
  rw [rd_lt _ _ (by simpa using hc)]
  simp
theorem zr_cst (n K : Nat) (hn : 1 ≤ n ∧ n ≤ 20) (hK : 1 ≤ K ∧ K ≤ 5) : Cst (zr n K) n K := by
  refine ⟨⟨by simp [zr], fun x hx => ?_⟩, ⟨hn, hK⟩, fun i c hi hc => ?_⟩
  · rw [List.eq_of_mem_replicate hx]; simp
  · rw [dv_zr n K i c hi hc]; omega
/-- How many go on from the first colour, and from another. -/
def ab (K : Nat) (rg : Bool) : Nat → Int × Int
  | 0 => (if rg = true then 0 else 1, 1)
  | r + 1 => (((K : Int) - 1) * (ab K rg r).2, (ab K rg r).1 + ((K : Int) - 2) * (ab K rg r).2)
theorem five {K : Nat} (hK : 1 ≤ K ∧ K ≤ 5) : K = 1 ∨ K = 2 ∨ K = 3 ∨ K = 4 ∨ K = 5 := by omega
theorem ab_bd (K : Nat) (hK : 1 ≤ K ∧ K ≤ 5) (rg : Bool) : ∀ r : Nat, (0 ≤ (ab K rg r).1 ∧ (ab K rg r).1 ≤ ((5 ^ r : Nat) : Int)) ∧ (2 ≤ K → 0 ≤ (ab K rg r).2 ∧ (ab K rg r).2 ≤ ((5 ^ r : Nat) : Int))
  | 0 => by
    show (0 ≤ (if rg = true then (0 : Int) else 1) ∧ (if rg = true then (0 : Int) else 1) ≤ ((1 : Nat) : Int)) ∧ (2 ≤ K → (0 : Int) ≤ 1 ∧ (1 : Int) ≤ ((1 : Nat) : Int))
    cases rg <;> simp
  | r + 1 => by
    have ih := ab_bd K hK rg r
    have hp : 5 ^ (r + 1) = 5 ^ r * 5 := Nat.pow_succ 5 r
    rw [hp]
    simp only [ab]
    generalize (ab K rg r).1 = a at ih ⊢
    generalize (ab K rg r).2 = b at ih ⊢
    generalize 5 ^ r = q at ih ⊢
    rcases five hK with rfl | rfl | rfl | rfl | rfl
    · refine ⟨by simp; omega, fun h => absurd h (by decide)⟩
    all_goals
      have ih2 := ih.2 (by decide)
      refine ⟨by omega, fun _ => by omega⟩
def mm (a b : Int) (f x : Nat) : Int := if x = f then a else b
def sT (a b : Int) (f c : Nat) : Nat → Int
  | 0 => 0
  | x + 1 => if x = c then sT a b f c x else sT a b f c x + mm a b f x
theorem sT_eq (a b : Int) (f c : Nat) : ∀ x : Nat, sT a b f c x = (x : Int) * b + (if f < x then a - b else 0) - (if c < x then mm a b f c else 0)
  | 0 => by simp [sT]
  | x + 1 => by
    have ih := sT_eq a b f c x
    have e : ((x + 1 : Nat) : Int) * b = (x : Int) * b + b := by rw [Int.natCast_add, Int.add_mul]; simp
    rw [e]
    simp only [sT]
    rw [ih]
    generalize (x : Int) * b = y
    unfold mm
    have e4 : (if f < x + 1 then a - b else 0) = (if f < x then a - b else 0) + (if x = f then a - b else 0) := by
      by_cases h2 : x = f
      · subst h2
        rw [if_pos (show x < x + 1 by omega), if_neg (show ¬ x < x by omega), if_pos rfl]
        omega
      · rw [if_neg h2]
        by_cases h3 : f < x
        · rw [if_pos h3, if_pos (show f < x + 1 by omega)]; omega
        · rw [if_neg h3, if_neg (show ¬ f < x + 1 by omega)]; omega
    rw [e4]
    generalize (if f < x then a - b else 0) = u
    by_cases h1 : x = c
    · subst h1
      rw [if_pos rfl, if_neg (show ¬ x < x by omega), if_pos (show x < x + 1 by omega)]
      by_cases h2 : x = f
      · rw [if_pos h2, if_pos h2]; omega
      · rw [if_neg h2, if_neg h2]; omega
    · rw [if_neg h1]
      have e3 : (if c < x then (if c = f then a else b) else 0) = (if c < x + 1 then (if c = f then a else b) else 0) := by
        by_cases h : c < x
        · rw [if_pos h, if_pos (show c < x + 1 by omega)]
        · rw [if_neg h, if_neg (show ¬ c < x + 1 by omega)]
      rw [e3]
      generalize (if c < x + 1 then (if c = f then a else b) else 0) = z
      by_cases h2 : x = f
      · rw [if_pos h2, if_pos h2]; omega
      · rw [if_neg h2, if_neg h2]; omega
theorem sT_K (K : Nat) (rg : Bool) (r f c : Nat) (hf : f < K) (hc : c < K) : sT (ab K rg r).1 (ab K rg r).2 f c K = mm (ab K rg (r + 1)).1 (ab K rg (r + 1)).2 f c := by
  rw [sT_eq, if_pos hf, if_pos hc]
  simp only [ab, mm]
  rw [Int.sub_mul, Int.sub_mul]
  by_cases h : c = f
  · rw [if_pos h, if_pos h]; omega
  · rw [if_neg h, if_neg h]; omega
theorem mm_bd (K : Nat) (hK : 1 ≤ K ∧ K ≤ 5) (rg : Bool) (r f x : Nat) (hf : f < K) (hx : x < K) : 0 ≤ mm (ab K rg r).1 (ab K rg r).2 f x ∧ mm (ab K rg r).1 (ab K rg r).2 f x ≤ ((5 ^ r : Nat) : Int) := by
  have h := ab_bd K hK rg r
  unfold mm
  by_cases e : x = f
  · rw [if_pos e]; exact h.1
  · rw [if_neg e]; exact h.2 (by omega)
/-- The table of noughts: how many paintings go on from a colour. -/
theorem P_zr (n K : Nat) (hn : 1 ≤ n ∧ n ≤ 20) (hK : 1 ≤ K ∧ K ≤ 5) (rg : Bool) (f : Nat) (hf : f < K) : ∀ r : Nat, r < n → ∀ c : Nat, c < K → impl_paintFrom.P (zr n K) n K (noc f rg) r c = (0, mm (ab K rg r).1 (ab K rg r).2 f c)
  | 0, hr, c, hc => by
    show (if (c : Int) = noc f rg then ((0, 0) : Int × Int) else (dv (zr n K) (n - 1) c, 1)) = (0, if c = f then (if rg = true then 0 else 1) else 1)
    rw [dv_zr n K (n - 1) c (by omega) hc]
    cases rg with
    | true =>
      show (if (c : Int) = (f : Int) then ((0, 0) : Int × Int) else (0, 1)) = (0, if c = f then 0 else 1)
      by_cases e : c = f
      · rw [if_pos (by omega), if_pos e]
      · rw [if_neg (by omega), if_neg e]
    | false =>
      show (if (c : Int) = -1 then ((0, 0) : Int × Int) else (0, 1)) = (0, if c = f then 1 else 1)
      rw [if_neg (by omega)]
      simp
  | r + 1, hr, c, hc => by
    have hp := pow5 r (by omega)
    have z := iter_rel (fun x (p _ : Int × Int) => p = (0, sT (ab K rg r).1 (ab K rg r).2 f c x) ∧ 0 ≤ sT (ab K rg r).1 (ab K rg r).2 f c x ∧ sT (ab K rg r).1 (ab K rg r).2 f c x ≤ ((5 ^ r * x : Nat) : Int))
      (stp c (dv (zr n K) (n - 1 - (r + 1)) c) (fun x => (impl_paintFrom.P (zr n K) n K (noc f rg) r x).1) (fun x => (impl_paintFrom.P (zr n K) n K (noc f rg) r x).2)) (fun _ q => q) K 0 (0, 0) (0, 0) (fun x p q _ hx hpq => by
        have ih := P_zr n K hn hK rg f hf r (by omega) x (by omega)
        have hb := mm_bd K hK rg r f x hf (by omega)
        have hmul : 5 ^ r * (x + 1) = 5 ^ r * x + 5 ^ r := Nat.mul_succ _ _
        have hmul2 : 5 ^ r * x ≤ 5 ^ r * 5 := Nat.mul_le_mul_left _ (by omega)
        rw [stp_v _ _ _ _ _ _ (impl_paintFrom.P (zr n K) n K (noc f rg) r x) rfl rfl, ih, dv_zr n K _ c (by omega) hc]
        obtain ⟨rfl, h1, h2⟩ := hpq
        simp only [sT]
        generalize sT (ab K rg r).1 (ab K rg r).2 f c x = t at h1 h2 ⊢
        generalize mm (ab K rg r).1 (ab K rg r).2 f x = m at hb ⊢
        have w0 : wrap64 (0 + (0 : Int)) = 0 := by rw [Int.add_zero]; exact w64 (by omega) (by omega)
        have w1 : wrap64 (0 + m) = m := by rw [Int.zero_add]; exact w64 (by omega) (by omega)
        have w2 : wrap64 (t + m) = t + m := w64 (by omega) (by omega)
        rw [w0, w1, w2]
        by_cases e1 : x = c
        · rw [if_pos (.inl e1), if_pos e1]
          exact ⟨rfl, h1, by omega⟩
        · rw [if_neg e1]
          by_cases e2 : m = 0
          · rw [if_pos (.inr e2), e2, Int.add_zero]
            exact ⟨rfl, h1, by omega⟩
          · rw [if_neg (show ¬ (x = c ∨ m = 0) from fun h => h.elim e1 e2)]
            by_cases e3 : t = 0
            · rw [if_pos (.inl e3), e3, Int.zero_add]
              exact ⟨rfl, hb.1, by omega⟩
            · rw [if_neg (show ¬ (t = 0 ∨ (0 : Int) < 0) from fun h => h.elim e3 (by omega)), if_pos rfl]
              exact ⟨rfl, by omega, by omega⟩) ⟨rfl, by simp [sT], by simp [sT]⟩
    rw [Nat.zero_add] at z
    show iter _ K 0 (0, 0) = _
    rw [z.1, sT_K K rg r f c hf hc]
/-- A colour that goes on goes on to another one. -/
theorem attainedz (K : Nat) (hK : 1 ≤ K ∧ K ≤ 5) (rg : Bool) (r f c : Nat) (hf : f < K) (hc : c < K) (h : 1 ≤ mm (ab K rg (r + 1)).1 (ab K rg (r + 1)).2 f c) : ∃ d, d < K ∧ d ≠ c ∧ 1 ≤ mm (ab K rg r).1 (ab K rg r).2 f d := by
  have hb := ab_bd K hK rg r
  simp only [mm, ab] at h ⊢
  generalize (ab K rg r).1 = a at h hb ⊢
  generalize (ab K rg r).2 = b at h hb ⊢
  by_cases e : c = f
  · rw [if_pos e] at h
    have hK2 : 2 ≤ K := by
      refine Nat.lt_of_not_le fun h2 => ?_
      obtain rfl : K = 1 := by omega
      simp at h
    have hb2 : 1 ≤ b := by
      have := hb.2 hK2
      rcases five hK with rfl | rfl | rfl | rfl | rfl <;> omega
    by_cases e0 : f = 0
    · exact ⟨1, by omega, by omega, by rw [if_neg (by omega)]; exact hb2⟩
    · exact ⟨0, by omega, by omega, by rw [if_neg (by omega)]; exact hb2⟩
  · rw [if_neg e] at h
    by_cases ha : 1 ≤ a
    · exact ⟨f, hf, fun q => e q.symm, by rw [if_pos rfl]; exact ha⟩
    · have hb1 := hb.2 (by omega)
      have hK3 : 3 ≤ K ∧ 1 ≤ b := by
        rcases five hK with rfl | rfl | rfl | rfl | rfl <;> omega
      obtain ⟨d, d1, d2, d3⟩ : ∃ d, d < K ∧ d ≠ c ∧ d ≠ f := by
        by_cases h0 : 0 ≠ c ∧ 0 ≠ f
        · exact ⟨0, by omega, h0.1, h0.2⟩
        · by_cases h1 : 1 ≠ c ∧ 1 ≠ f
          · exact ⟨1, by omega, h1.1, h1.2⟩
          · exact ⟨2, by omega, by omega, by omega⟩
      exact ⟨d, d1, d2, by rw [if_neg d3]; exact hK3.2⟩
/-- The colours behind the first one. -/
theorem chainz (n K : Nat) (hn : 1 ≤ n ∧ n ≤ 20) (hK : 1 ≤ K ∧ K ≤ 5) (f0 : Nat) (hf : f0 < K) (rg ring : Bool) (least total : Int) (xf : Nat) :
    ∀ d i : Nat, i + d = n → 1 ≤ i → ∀ (acc : List Int) (b : Nat), acc.length = i → rd acc ((i - 1 : Nat) : Int) = b → b < K → 1 ≤ mm (ab K rg (n - 1 - (i - 1))).1 (ab K rg (n - 1 - (i - 1))).2 f0 b →
    ∃ out : List Int, ∀ R, Ev (fun k => impl_bestPaint.l0 k (zr n K) ring least total out K (wrap64 ((xf : Int) + 1))) R → Ev (fun k => impl_bestPaint.l1 k (zr n K) ring least total acc (tab n K (D1 (zr n K) n K (noc f0 rg))) (tab n K (D2 (zr n K) n K (noc f0 rg))) i K xf) R := by
  have h := zr_cst n K hn hK
  have hP := P_zr n K hn hK rg f0 hf
  generalize hl0 : zr n K = l at h hP ⊢
  intro d
  induction d with
  | zero =>
    intro i hi h0 acc b hl _ _ _
    refine ⟨acc, fun R hR => succ ?_⟩
    simp only [impl_bestPaint.l1]
    rw [h.1.1]
    exact neg (by omega) hR
  | succ d ih =>
    intro i hi h0 acc b hl hb hbK hpos
    obtain ⟨r, hr⟩ : ∃ r, r = n - 1 - i := ⟨_, rfl⟩
    have hr1 : n - 1 - (i - 1) = r + 1 := by omega
    rw [hr1] at hpos
    obtain ⟨d0, a1, a2, a3⟩ := attainedz K hK rg r f0 b hf hbK hpos
    obtain ⟨m, m0, ⟨m1, m2⟩, mmin⟩ := least_of (fun c => c ≠ b ∧ 1 ≤ mm (ab K rg r).1 (ab K rg r).2 f0 c) d0 ⟨a2, a3⟩
    have hmK : m < K := by omega
    obtain ⟨out, o2⟩ := ih (i + 1) (by omega) (by omega) (acc ++ [(m : Int)]) m (by simp [hl]) (by rw [Nat.add_sub_cancel, rd_lt _ _ (by simp [hl])]; simp [hl]) hmK (by rw [Nat.add_sub_cancel, ← hr]; exact m2)
    have hdz : dv l (i - 1) b = 0 := by rw [← hl0]; exact dv_zr n K _ _ (by omega) hbK
    have hD1 : D1 l n K (noc f0 rg) (i - 1) b = 0 := by unfold D1; rw [hr1, hP (r + 1) (by omega) b hbK]
    have hwi : wrap64 ((i : Int) - 1) = ((i - 1 : Nat) : Int) := by rw [wsub1 (by omega)]; omega
    have dD1 : ∀ c, c < K → D1 l n K (noc f0 rg) i c = 0 := fun c hc => by unfold D1; rw [← hr, hP r (by omega) c hc]
    have dD2 : ∀ c, c < K → D2 l n K (noc f0 rg) i c = mm (ab K rg r).1 (ab K rg r).2 f0 c := fun c hc => by unfold D2; rw [← hr, hP r (by omega) c hc]
    refine ⟨out, fun R hR => succ ?_⟩
    simp only [impl_bestPaint.l1]
    rw [hwi, hb, h.1.1, hl, tab_len, tab_rlen _ _ _ (i - 1) (by omega), h.row (i - 1) (by omega), tab_rd _ _ _ (i - 1) b (by omega) hbK, dv_rd, h.row i (by omega), hD1, hdz, show wrap64 ((0 : Int) - 0) = 0 from by rw [Int.sub_zero]; exact w64 (by omega) (by omega)]
    refine pos (by omega) (pos (by omega) (pos (by omega) (pos (by omega) (pos (by omega) (pos (by omega) (pos (by omega) (pos (by omega) (pos (by omega) ?_))))))))
    have key : ∀ c : Nat, c ≤ m → Ev (fun k => impl_bestPaint.l2 k l ring least total acc (tab n K (D1 l n K (noc f0 rg))) (tab n K (D2 l n K (noc f0 rg))) i b 0 K xf K c) R := by
      refine down m ?_ ?_
      · refine succ ?_
        simp only [impl_bestPaint.l2]
        rw [tab_len, tab_len, tab_rlen _ _ _ i (by omega), tab_rlen _ _ _ i (by omega), tab_rd _ _ _ i m (by omega) hmK, tab_rd _ _ _ i m (by omega) hmK, dD1 m hmK, dD2 m hmK, wnat (i := i) (by omega)]
        exact pos (by omega) (neg (by omega) (pos (by omega) (pos (by omega) (pos (by omega) (pos (by omega) (pos (by omega) (pos (by omega) (pos (by omega) (pos (by omega) (pos (by omega) (o2 R hR)))))))))))
      · intro c hc ihc
        have hcn := mmin c hc
        refine succ ?_
        simp only [impl_bestPaint.l2]
        rw [tab_len, tab_len, tab_rlen _ _ _ i (by omega), tab_rlen _ _ _ i (by omega), tab_rd _ _ _ i c (by omega) (by omega), tab_rd _ _ _ i c (by omega) (by omega), dD1 c (by omega), dD2 c (by omega), wnat (i := c) (by omega)]
        refine pos (by omega) ?_
        by_cases q1 : (c : Int) = b
        · exact pos q1 ihc
        · refine neg q1 (pos (by omega) (pos (by omega) (pos (by omega) (pos (by omega) ?_))))
          exact neg (fun q2 => hcn ⟨by omega, by omega⟩) ihc
    exact key 0 (by omega)
/-- All first colours: each goes on in as many ways. -/
theorem outerz (n K : Nat) (hn : 1 ≤ n ∧ n ≤ 20) (hK : 1 ≤ K ∧ K ≤ 5) (ring rg : Bool) (hrg : rg = (ring && decide (2 < n))) : ∀ f : Nat, f ≤ K → ∀ (tot : Int) (out : List Int), tot = (f : Int) * (ab K rg (n - 1)).1 → ∃ out' : List Int,
    Ev (fun k => impl_bestPaint.l0 k (zr n K) ring 0 tot out K f) (0, out', (K : Int) * (ab K rg (n - 1)).1, decide ((K : Int) * (ab K rg (n - 1)).1 > 0)) := by
  have h := zr_cst n K hn hK
  have hbd := (ab_bd K hK rg (n - 1)).1
  have hp5 := pow5 (n - 1) (by omega)
  refine down K ?_ ?_
  · intro tot out ht
    refine ⟨out, succ ?_⟩
    simp only [impl_bestPaint.l0]
    rw [← ht]
    exact neg (by omega) (now _)
  · intro f hf ih tot out ht
    have hP := P_zr n K hn hK rg f hf (n - 1) (by omega) f hf
    have hch := chainz n K hn hK f hf rg ring
    have hm1 : ((f + 1 : Nat) : Int) * (ab K rg (n - 1)).1 = tot + (ab K rg (n - 1)).1 := by rw [ht, Int.natCast_add, Int.add_mul]; simp
    have htb : 0 ≤ tot ∧ tot ≤ 5 * 95367431640625 := by
      rw [ht]
      refine ⟨Int.mul_nonneg (by omega) hbd.1, Int.le_trans (Int.mul_le_mul_of_nonneg_left (show (ab K rg (n - 1)).1 ≤ 95367431640625 by omega) (by omega)) ?_⟩
      exact Int.mul_le_mul_of_nonneg_right (by omega) (by omega)
    rw [hm1] at ih
    simp only [mm, if_true] at hP
    have hfr := ht
    generalize hA : (ab K rg (n - 1)).1 = A at hP ih hbd ht hm1 ⊢
    have hD1 : D1 (zr n K) n K (noc f rg) 0 f = 0 := by unfold D1; rw [Nat.sub_zero, hP]
    have hD2 : D2 (zr n K) n K (noc f rg) 0 f = A := by unfold D2; rw [Nat.sub_zero, hP]
    have hch1 : 1 ≤ A → ∃ out' : List Int, ∀ R, Ev (fun k => impl_bestPaint.l0 k (zr n K) ring 0 A out' K (wrap64 ((f : Int) + 1))) R → Ev (fun k => impl_bestPaint.l1 k (zr n K) ring 0 A [(f : Int)] (tab n K (D1 (zr n K) n K (noc f rg))) (tab n K (D2 (zr n K) n K (noc f rg))) 1 K f) R := fun hA1 => by
      obtain ⟨o, ho⟩ := hch 0 A f (n - 1) 1 (by omega) (by omega) [(f : Int)] f rfl rfl hf (by
        rw [Nat.sub_self, Nat.sub_zero]
        simp only [mm, if_true]
        rw [hA]
        exact hA1)
      exact ⟨o, ho⟩
    have pre : ∀ R, Ev (fun k => if A = 0 then impl_bestPaint.j2 k (zr n K) ring 0 tot out f (tab n K (D1 (zr n K) n K (noc f rg))) (tab n K (D2 (zr n K) n K (noc f rg))) K f true else impl_bestPaint.j2 k (zr n K) ring 0 tot out f (tab n K (D1 (zr n K) n K (noc f rg))) (tab n K (D2 (zr n K) n K (noc f rg))) K f false) R → Ev (fun k => impl_bestPaint.l0 k (zr n K) ring 0 tot out K f) R := by
      intro R hR
      have mid : Ev (fun k => impl_bestPaint.j1 k (zr n K) ring 0 tot out f (noc f rg) K f) R := by
        refine succ ?_
        simp only [impl_bestPaint.j1]
        refine bind (paintFrom_some h _) ?_
        rw [tab_len, tab_len, show (0 : Int) = ((0 : Nat) : Int) from rfl, tab_rlen _ _ _ 0 (by omega), tab_rlen _ _ _ 0 (by omega), tab_rd _ _ _ 0 f (by omega) hf, tab_rd _ _ _ 0 f (by omega) hf, hD1, hD2]
        refine pos (by omega) (pos (by omega) (pos (by omega) ?_))
        by_cases q : A = 0
        · simp only [if_pos q] at hR
          exact pos q hR
        · simp only [if_neg q] at hR
          refine neg q ?_
          by_cases q2 : tot > 0
          · exact pos q2 (pos (by omega) (pos (by omega) hR))
          · exact neg q2 hR
      refine succ ?_
      simp only [impl_bestPaint.l0]
      rw [h.1.1, isRing_f, ← hrg]
      refine pos (by omega) (bindSome rfl ?_)
      cases rg with
      | true => exact pos rfl mid
      | false => exact neg (by simp) mid
    by_cases hA0 : A = 0
    · obtain ⟨out', ho⟩ := ih tot out (by omega)
      refine ⟨out', pre _ ?_⟩
      simp only [if_pos hA0]
      refine succ ?_
      simp only [impl_bestPaint.j2]
      rw [wnat (by omega)]
      exact pos trivial ho
    · obtain ⟨o1, ho1⟩ := hch1 (by omega)
      rw [wnat (by omega)] at ho1
      by_cases ht0 : tot > 0
      · obtain ⟨out', ho⟩ := ih (tot + A) out rfl
        refine ⟨out', pre _ ?_⟩
        simp only [if_neg hA0]
        refine succ ?_
        simp only [impl_bestPaint.j2]
        rw [tab_len, show (0 : Int) = ((0 : Nat) : Int) from rfl, tab_rlen _ _ _ 0 (by omega), tab_rd _ _ _ 0 f (by omega) hf, hD1]
        refine neg (by simp) (pos (by omega) (pos (by omega) (pos (by omega) (pos (by omega) (succ ?_)))))
        simp only [impl_bestPaint.j3]
        rw [tab_len, tab_len, show (0 : Int) = ((0 : Nat) : Int) from rfl, tab_rlen _ _ _ 0 (by omega), tab_rlen _ _ _ 0 (by omega), tab_rd _ _ _ 0 f (by omega) hf, tab_rd _ _ _ 0 f (by omega) hf, hD1, hD2, w64 (x := tot + A) (by omega) (by omega), wnat (by omega)]
        exact pos (by simp) (pos (by omega) (pos (by omega) (pos (by omega) ho)))
      · obtain ⟨out', ho⟩ := ih A o1 (by omega)
        refine ⟨out', pre _ ?_⟩
        simp only [if_neg hA0]
        refine succ ?_
        simp only [impl_bestPaint.j2]
        refine neg (by simp) (neg ht0 (succ ?_))
        simp only [impl_bestPaint.j3]
        rw [tab_len, tab_len, show (0 : Int) = ((0 : Nat) : Int) from rfl, tab_rlen _ _ _ 0 (by omega), tab_rlen _ _ _ 0 (by omega), tab_rd _ _ _ 0 f (by omega) hf, tab_rd _ _ _ 0 f (by omega) hf, hD1, hD2]
        exact neg (by simp) (pos (by omega) (pos (by omega) (pos (by omega) (pos (by omega) (pos (by omega) (ho1 _ ho))))))
theorem bestz (n K : Nat) (hn : 1 ≤ n ∧ n ≤ 20) (hK : 1 ≤ K ∧ K ≤ 5) (ring : Bool) : ∃ out' : List Int, Ev (fun k => impl_bestPaint.f k (zr n K) ring) (0, out', (K : Int) * (ab K (ring && decide (2 < n)) (n - 1)).1, decide ((K : Int) * (ab K (ring && decide (2 < n)) (n - 1)).1 > 0)) := by
  have h := zr_cst n K hn hK
  obtain ⟨o, ho⟩ := outerz n K hn hK ring _ rfl 0 (by omega) 0 [] (by simp)
  refine ⟨o, ?_⟩
  unfold impl_bestPaint.f
  have e2 : (((zr n K).getD 0 []).length : Int) = K := by rw [h.head]
  rw [h.1.1]
  rw [show rd_L1 (zr n K) 0 = rd_L1 (zr n K) ((0 : Nat) : Int) from rfl, h.row 0 (by omega)]
  exact pos (by omega) ho

theorem rwHouses_f (n : Int) : spec_rwHouses.f n = some (decide (1 ≤ n ∧ n ≤ 20)) := by unfold spec_rwHouses.f; rw [spec_in]; rfl
/-- The lists that end with the first colour, and those that do not. -/
def st (K : Nat) : Nat → Int × Int
  | 0 => ((K : Int), 0)
  | r + 1 => ((st K r).2, (st K r).1 * ((K : Int) - 1) + (st K r).2 * ((K : Int) - 2))
theorem st_bd (K : Nat) (hK : 1 ≤ K ∧ K ≤ 5) : ∀ r : Nat, (0 ≤ (st K r).1 ∧ 0 ≤ (st K r).2) ∧ (st K r).1 + (st K r).2 ≤ ((5 ^ r * 5 : Nat) : Int) ∧ (K = 1 → (st K r).2 = 0)
  | 0 => by
    show (0 ≤ (K : Int) ∧ (0 : Int) ≤ 0) ∧ (K : Int) + 0 ≤ ((1 * 5 : Nat) : Int) ∧ (K = 1 → (0 : Int) = 0)
    omega
  | r + 1 => by
    have ih := st_bd K hK r
    have hp : 5 ^ (r + 1) = 5 ^ r * 5 := Nat.pow_succ 5 r
    rw [hp]
    simp only [st]
    generalize (st K r).1 = s at ih ⊢
    generalize (st K r).2 = t at ih ⊢
    generalize 5 ^ r = q at ih ⊢
    rcases five hK with rfl | rfl | rfl | rfl | rfl
    · have h0 := ih.2.2 rfl
      subst h0
      refine ⟨by simp, by simp; omega, fun _ => by simp⟩
    all_goals exact ⟨by omega, by omega, fun h => absurd h (by decide)⟩
/-- Both counts go on alike. -/
theorem counts (K : Nat) (hK : 1 ≤ K ∧ K ≤ 5) : ∀ r : Nat, ((st K r).2 = (K : Int) * (ab K true r).1 ∧ (K : Int) * (((K : Int) - 1) * (ab K true r).2) = (st K r).1 * ((K : Int) - 1) + (st K r).2 * ((K : Int) - 2)) ∧ ((st K r).1 + (st K r).2 = (K : Int) * (ab K false r).1 ∧ (2 ≤ K → (ab K false r).1 = (ab K false r).2))
  | 0 => by
    show ((0 : Int) = (K : Int) * 0 ∧ (K : Int) * (((K : Int) - 1) * 1) = (K : Int) * ((K : Int) - 1) + 0 * ((K : Int) - 2)) ∧ ((K : Int) + 0 = (K : Int) * 1 ∧ (2 ≤ K → (1 : Int) = 1))
    refine ⟨⟨by omega, by rw [Int.mul_one, Int.zero_mul, Int.add_zero]⟩, by omega, fun _ => rfl⟩
  | r + 1 => by
    have ih := counts K hK r
    have hb := st_bd K hK r
    simp only [st, ab]
    generalize (st K r).1 = s at ih hb ⊢
    generalize (st K r).2 = t at ih hb ⊢
    generalize (ab K true r).1 = a at ih ⊢
    generalize (ab K true r).2 = b at ih ⊢
    generalize (ab K false r).1 = c at ih ⊢
    generalize (ab K false r).2 = d at ih ⊢
    rcases five hK with rfl | rfl | rfl | rfl | rfl
    · have h0 := hb.2.2 rfl
      subst h0
      refine ⟨⟨by simp, by simp⟩, by simp, fun h => absurd h (by decide)⟩
    all_goals
      have h2 := ih.2.2 (by decide)
      subst h2
      exact ⟨⟨by omega, by omega⟩, by omega, fun _ => by omega⟩
theorem count_rg (K : Nat) (hK : 1 ≤ K ∧ K ≤ 5) (rg : Bool) (r : Nat) : (if rg = true then (st K r).2 else (st K r).1 + (st K r).2) = (K : Int) * (ab K rg r).1 := by
  have h := counts K hK r
  cases rg with
  | true => rw [if_pos rfl]; exact h.1.1
  | false => rw [if_neg (by simp)]; exact h.2.1
theorem spec_l0 (n K : Nat) (hn : 1 ≤ n ∧ n ≤ 20) (hK : 1 ≤ K ∧ K ≤ 5) (ring : Bool) : ∀ d i : Nat, i + d = n → 1 ≤ i → Ev (fun k => spec_CountPaintings.l0 k n K ring (st K (i - 1)).1 (st K (i - 1)).2 i) ((K : Int) * (ab K (ring && decide (2 < n)) (n - 1)).1, true)
  | 0, i, h, hi => by
    obtain rfl : i = n := by omega
    have hc := count_rg K hK (ring && decide (2 < i)) (i - 1)
    have hb := st_bd K hK (i - 1)
    have hp := pow5 (i - 1) (by omega)
    refine succ ?_
    simp only [spec_CountPaintings.l0]
    rw [rwRing_f, ← hc, w64 (x := (st K (i - 1)).1 + (st K (i - 1)).2) (by omega) (by omega)]
    refine neg (by omega) (bindSome rfl ?_)
    by_cases e : (ring && decide (2 < i)) = true
    · exact conv (pos e (now _)) (by rw [if_pos e])
    · exact conv (neg e (now _)) (by rw [if_neg e])
  | d + 1, i, h, hi => by
    have hb := st_bd K hK (i - 1)
    have hp := pow5 (i - 1) (by omega)
    have z := spec_l0 n K hn hK ring d (i + 1) (by omega) (by omega)
    have e1 : i + 1 - 1 = (i - 1) + 1 := by omega
    rw [e1] at z
    simp only [st] at z
    refine succ ?_
    simp only [spec_CountPaintings.l0]
    generalize (st K (i - 1)).1 = s at z hb ⊢
    generalize (st K (i - 1)).2 = t at z hb ⊢
    have w1 : wrap64 ((K : Int) - 1) = (K : Int) - 1 := w64 (by omega) (by omega)
    have w2 : wrap64 ((K : Int) - 2) = (K : Int) - 2 := w64 (by omega) (by omega)
    have hq : ((5 ^ (i - 1) * 5 : Nat) : Int) ≤ 476837158203125 := by omega
    have m1 : 0 ≤ s * ((K : Int) - 1) ∧ s * ((K : Int) - 1) ≤ 2384185791015625 := by
      rcases five hK with rfl | rfl | rfl | rfl | rfl <;> omega
    have m2 : -2384185791015625 ≤ t * ((K : Int) - 2) ∧ t * ((K : Int) - 2) ≤ 2384185791015625 := by
      rcases five hK with rfl | rfl | rfl | rfl | rfl <;> omega
    have w3 : wrap64 (s * ((K : Int) - 1)) = s * ((K : Int) - 1) := w64 (by omega) (by omega)
    have w4 : wrap64 (t * ((K : Int) - 2)) = t * ((K : Int) - 2) := w64 (by omega) (by omega)
    rw [w1, w2, w3, w4, w64 (x := s * ((K : Int) - 1) + t * ((K : Int) - 2)) (by omega) (by omega), wnat (by omega)]
    exact pos (by omega) z
theorem both (a0 a1 : Int) (ring : Bool) : ∃ v, Ev (fun k => spec_CountPaintings.f k a0 a1 ring) v ∧ Ev (fun k => impl_CountPaintings.f k a0 a1 ring) v := by
  unfold spec_CountPaintings.f impl_CountPaintings.f
  by_cases c0 : 1 ≤ a0 ∧ a0 ≤ 20
  · by_cases c1 : 1 ≤ a1 ∧ a1 ≤ 5
    · obtain ⟨n, rfl⟩ := Int.eq_ofNat_of_zero_le (show 0 ≤ a0 by omega)
      obtain ⟨K, rfl⟩ := Int.eq_ofNat_of_zero_le (show 0 ≤ a1 by omega)
      have hn : 1 ≤ n ∧ n ≤ 20 := by omega
      have hK : 1 ≤ K ∧ K ≤ 5 := by omega
      obtain ⟨out, hb⟩ := bestz n K hn hK ring
      have hs := spec_l0 n K hn hK ring (n - 1) 1 (by omega) (by omega)
      have hA := (ab_bd K hK (ring && decide (2 < n)) (n - 1)).1
      have hKA : 0 ≤ (K : Int) * (ab K (ring && decide (2 < n)) (n - 1)).1 := Int.mul_nonneg (by omega) hA.1
      generalize (K : Int) * (ab K (ring && decide (2 < n)) (n - 1)).1 = A at hb hs hKA
      refine ⟨(A, true), bindSome (rwHouses_f _) (pos (by simpa using c0) (bindSome (spec_in _ _ _) (succ ?_))), ?_⟩
      · simp only [spec_CountPaintings.j0]
        exact neg (by simpa using c1) hs
      · rw [Int.toNat_natCast, Int.toNat_natCast]
        refine pos c0 (pos c1 (bind hb ?_))
        by_cases e : A > 0
        · exact pos (by simpa using e) (now _)
        · obtain rfl : A = 0 := by omega
          exact neg (by simp) (now _)
    · refine ⟨(0, false), bindSome (rwHouses_f _) (pos (by simpa using c0) (bindSome (spec_in _ _ _) (succ ?_))), pos c0 (neg c1 (now _))⟩
      simp only [spec_CountPaintings.j0]
      exact pos (by simp; omega) (now _)
  · refine ⟨(0, false), bindSome (rwHouses_f _) (neg (by simpa using c0) (succ ?_)), neg c0 (now _)⟩
    simp only [spec_CountPaintings.j0]
    exact pos trivial (now _)
theorem FnExactCountPaintings : laws_FnExactCountPaintings.Pure := by
  intro a0 a1 ring _ _
  refine Ev.rounds ?_
  unfold laws_FnExactCountPaintings.f
  obtain ⟨v, h1, h2⟩ := both a0 a1 ring
  exact bind h1 (bind h2 (pos rfl (neg (by simp) (now _))))

end Go.Proofs.Ytbchfajbobploaa.Pure
