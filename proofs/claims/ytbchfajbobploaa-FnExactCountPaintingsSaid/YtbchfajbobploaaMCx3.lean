-- The machine side, written by this repo's program mp.py; contracts marked as of this repo are this session's own.
import Derived.Test.YtbchfajbobploaaMCx0
import Derived.Test.YtbchfajbobploaaMCx1
import Derived.Test.YtbchfajbobploaaMCx2
namespace Go.Proofs.Ytbchfajbobploaa.MC
open Go.RowKit Go.Proofs.YtbchfajbobploaaW.PrintWords Go.Proofs.YtbchfajbobploaaW.PrintLast Go.Proofs.YtbchfajbobploaaW.PrintMore
attribute [local go_sem] max2_int min2_int max_two min_two max_three min_three max_four min_four   -- for this text's walks alone
set_option linter.unusedVariables false
set_option linter.unusedSimpArgs false

/-! ### impl_bestPaint: function 69 -/
mutual
def impl_bestPaint.l0 : Nat → List (List Int) → Bool → Int → Int → List Int → Int → Int → Option (Int × List Int × Int × Bool)
  | 0, _, _, _, _, _, _, _ => none
  | k + 1, x0, x1, x8, x9, x10, x22, x23 => if x23 < x22 then ((impl_isRing.f (x0.length : Int) x1).bind fun t107 => (if t107 = true then (impl_bestPaint.j1 k x0 x1 x8 x9 x10 x23 x23 x22 x23) else (impl_bestPaint.j1 k x0 x1 x8 x9 x10 x23 (-1) x22 x23))) else (some (x8, x10, x9, decide (x9 > 0)))
def impl_bestPaint.j1 : Nat → List (List Int) → Bool → Int → Int → List Int → Int → Int → Int → Int → Option (Int × List Int × Int × Bool)
  | 0, _, _, _, _, _, _, _, _, _ => none
  | k + 1, x0, x1, x8, x9, x10, x11, x12, x22, x23 => (impl_paintFrom.f k x0 x12).bind fun bt108 => (if 0 < (bt108.2.length : Int) then (if 0 ≤ x11 then (if x11 < ((rd_L1 bt108.2 0).length : Int) then (if (rd (rd_L1 bt108.2 0) x11) = 0 then (impl_bestPaint.j2 k x0 x1 x8 x9 x10 x11 bt108.1 bt108.2 x22 x23 true) else (if x9 > 0 then (if 0 < (bt108.1.length : Int) then (if x11 < ((rd_L1 bt108.1 0).length : Int) then (impl_bestPaint.j2 k x0 x1 x8 x9 x10 x11 bt108.1 bt108.2 x22 x23 (decide ((rd (rd_L1 bt108.1 0) x11) > x8))) else (none)) else (none)) else (impl_bestPaint.j2 k x0 x1 x8 x9 x10 x11 bt108.1 bt108.2 x22 x23 false))) else (none)) else (none)) else (none))
def impl_bestPaint.j2 : Nat → List (List Int) → Bool → Int → Int → List Int → Int → List (List Int) → List (List Int) → Int → Int → Bool → Option (Int × List Int × Int × Bool)
  | 0, _, _, _, _, _, _, _, _, _, _, _ => none
  | k + 1, x0, x1, x8, x9, x10, x11, x13, x14, x22, x23, x57 => if x57 = true then (impl_bestPaint.l0 k x0 x1 x8 x9 x10 x22 (wrap64 (x23 + 1))) else (if x9 > 0 then (if 0 < (x13.length : Int) then (if 0 ≤ x11 then (if x11 < ((rd_L1 x13 0).length : Int) then (impl_bestPaint.j3 k x0 x1 x8 x9 x10 x11 x13 x14 x22 x23 ((rd (rd_L1 x13 0) x11) == x8)) else (none)) else (none)) else (none)) else (impl_bestPaint.j3 k x0 x1 x8 x9 x10 x11 x13 x14 x22 x23 false))
def impl_bestPaint.j3 : Nat → List (List Int) → Bool → Int → Int → List Int → Int → List (List Int) → List (List Int) → Int → Int → Bool → Option (Int × List Int × Int × Bool)
  | 0, _, _, _, _, _, _, _, _, _, _, _ => none
  | k + 1, x0, x1, x8, x9, x10, x11, x13, x14, x22, x23, x69 => if x69 = true then (if 0 < (x14.length : Int) then (if 0 ≤ x11 then (if x11 < ((rd_L1 x14 0).length : Int) then (impl_bestPaint.l0 k x0 x1 x8 (wrap64 (x9 + (rd (rd_L1 x14 0) x11))) x10 x22 (wrap64 (x23 + 1))) else (none)) else (none)) else (none)) else (if 0 < (x13.length : Int) then (if 0 ≤ x11 then (if x11 < ((rd_L1 x13 0).length : Int) then (if 0 < (x14.length : Int) then (if x11 < ((rd_L1 x14 0).length : Int) then (impl_bestPaint.l1 k x0 x1 (rd (rd_L1 x13 0) x11) (rd (rd_L1 x14 0) x11) (([x11] : List Int)) x13 x14 1 x22 x23) else (none)) else (none)) else (none)) else (none)) else (none))
def impl_bestPaint.l1 : Nat → List (List Int) → Bool → Int → Int → List Int → List (List Int) → List (List Int) → Int → Int → Int → Option (Int × List Int × Int × Bool)
  | 0, _, _, _, _, _, _, _, _, _, _ => none
  | k + 1, x0, x1, x8, x9, x10, x13, x14, x15, x22, x23 => if x15 < (x0.length : Int) then (if 0 ≤ (wrap64 (x15 - 1)) then (if (wrap64 (x15 - 1)) < (x10.length : Int) then (if (wrap64 (x15 - 1)) < (x13.length : Int) then (if 0 ≤ (rd x10 (wrap64 (x15 - 1))) then (if (rd x10 (wrap64 (x15 - 1))) < ((rd_L1 x13 (wrap64 (x15 - 1))).length : Int) then (if (wrap64 (x15 - 1)) < (x0.length : Int) then (if (rd x10 (wrap64 (x15 - 1))) < ((rd_L1 x0 (wrap64 (x15 - 1))).length : Int) then (if 0 ≤ x15 then (impl_bestPaint.l2 k x0 x1 x8 x9 x10 x13 x14 x15 (rd x10 (wrap64 (x15 - 1))) (wrap64 ((rd (rd_L1 x13 (wrap64 (x15 - 1))) (rd x10 (wrap64 (x15 - 1)))) - (rd (rd_L1 x0 (wrap64 (x15 - 1))) (rd x10 (wrap64 (x15 - 1)))))) x22 x23 ((rd_L1 x0 x15).length : Int) 0) else (none)) else (none)) else (none)) else (none)) else (none)) else (none)) else (none)) else (none)) else (impl_bestPaint.l0 k x0 x1 x8 x9 x10 x22 (wrap64 (x23 + 1)))
def impl_bestPaint.l2 : Nat → List (List Int) → Bool → Int → Int → List Int → List (List Int) → List (List Int) → Int → Int → Int → Int → Int → Int → Int → Option (Int × List Int × Int × Bool)
  | 0, _, _, _, _, _, _, _, _, _, _, _, _, _, _ => none
  | k + 1, x0, x1, x8, x9, x10, x13, x14, x15, x16, x17, x22, x23, x124, x125 => if x125 < x124 then (if x125 = x16 then (impl_bestPaint.l2 k x0 x1 x8 x9 x10 x13 x14 x15 x16 x17 x22 x23 x124 (wrap64 (x125 + 1))) else (if 0 ≤ x15 then (if x15 < (x14.length : Int) then (if 0 ≤ x125 then (if x125 < ((rd_L1 x14 x15).length : Int) then (if (rd (rd_L1 x14 x15) x125) > 0 then (if x15 < (x13.length : Int) then (if x125 < ((rd_L1 x13 x15).length : Int) then (if (rd (rd_L1 x13 x15) x125) = x17 then (if x10.length < 17592186044416 then (impl_bestPaint.l1 k x0 x1 x8 x9 (x10 ++ [x125]) x13 x14 (wrap64 (x15 + 1)) x22 x23) else (none)) else (impl_bestPaint.l2 k x0 x1 x8 x9 x10 x13 x14 x15 x16 x17 x22 x23 x124 (wrap64 (x125 + 1)))) else (none)) else (none)) else (impl_bestPaint.l2 k x0 x1 x8 x9 x10 x13 x14 x15 x16 x17 x22 x23 x124 (wrap64 (x125 + 1)))) else (none)) else (none)) else (none)) else (none))) else (impl_bestPaint.l1 k x0 x1 x8 x9 x10 x13 x14 (wrap64 (x15 + 1)) x22 x23)
end
def impl_bestPaint.f (k : Nat) (l0 : List (List Int)) (a1 : Bool) : Option (Int × List Int × Int × Bool) := if 0 < (l0.length : Int) then (impl_bestPaint.l0 k l0 a1 0 0 ([] : List Int) ((rd_L1 l0 0).length : Int) 0) else (none)
theorem impl_bestPaint.mono_l : ∀ k, (∀ y0 y1 y2 y3 y4 y5 y6, LeO (impl_bestPaint.l0 k y0 y1 y2 y3 y4 y5 y6) (impl_bestPaint.l0 (k + 1) y0 y1 y2 y3 y4 y5 y6)) ∧ (∀ y0 y1 y2 y3 y4 y5 y6 y7 y8, LeO (impl_bestPaint.j1 k y0 y1 y2 y3 y4 y5 y6 y7 y8) (impl_bestPaint.j1 (k + 1) y0 y1 y2 y3 y4 y5 y6 y7 y8)) ∧ (∀ y0 y1 y2 y3 y4 y5 y6 y7 y8 y9 y10, LeO (impl_bestPaint.j2 k y0 y1 y2 y3 y4 y5 y6 y7 y8 y9 y10) (impl_bestPaint.j2 (k + 1) y0 y1 y2 y3 y4 y5 y6 y7 y8 y9 y10)) ∧ (∀ y0 y1 y2 y3 y4 y5 y6 y7 y8 y9 y10, LeO (impl_bestPaint.j3 k y0 y1 y2 y3 y4 y5 y6 y7 y8 y9 y10) (impl_bestPaint.j3 (k + 1) y0 y1 y2 y3 y4 y5 y6 y7 y8 y9 y10)) ∧ (∀ y0 y1 y2 y3 y4 y5 y6 y7 y8 y9, LeO (impl_bestPaint.l1 k y0 y1 y2 y3 y4 y5 y6 y7 y8 y9) (impl_bestPaint.l1 (k + 1) y0 y1 y2 y3 y4 y5 y6 y7 y8 y9)) ∧ (∀ y0 y1 y2 y3 y4 y5 y6 y7 y8 y9 y10 y11 y12 y13, LeO (impl_bestPaint.l2 k y0 y1 y2 y3 y4 y5 y6 y7 y8 y9 y10 y11 y12 y13) (impl_bestPaint.l2 (k + 1) y0 y1 y2 y3 y4 y5 y6 y7 y8 y9 y10 y11 y12 y13))
  | 0 => ⟨fun _ _ _ _ _ _ _ r h => by simp [impl_bestPaint.l0] at h, fun _ _ _ _ _ _ _ _ _ r h => by simp [impl_bestPaint.j1] at h, fun _ _ _ _ _ _ _ _ _ _ _ r h => by simp [impl_bestPaint.j2] at h, fun _ _ _ _ _ _ _ _ _ _ _ r h => by simp [impl_bestPaint.j3] at h, fun _ _ _ _ _ _ _ _ _ _ r h => by simp [impl_bestPaint.l1] at h, fun _ _ _ _ _ _ _ _ _ _ _ _ _ _ r h => by simp [impl_bestPaint.l2] at h⟩
  | k + 1 => by
    obtain ⟨ih0, ih1, ih2, ih3, ih4, ih5⟩ := impl_bestPaint.mono_l k
    refine ⟨?_, ?_, ?_, ?_, ?_, ?_⟩
    · intro y0 y1 y2 y3 y4 y5 y6
      unfold impl_bestPaint.l0
      repeat' first
      | (with_reducible exact ih0 _ _ _ _ _ _ _)
      | (with_reducible exact ih1 _ _ _ _ _ _ _ _ _)
      | (with_reducible exact ih2 _ _ _ _ _ _ _ _ _ _ _)
      | (with_reducible exact ih3 _ _ _ _ _ _ _ _ _ _ _)
      | (with_reducible exact ih4 _ _ _ _ _ _ _ _ _ _)
      | (with_reducible exact ih5 _ _ _ _ _ _ _ _ _ _ _ _ _ _)
      | (with_reducible exact impl_paintFrom.mono _ _ _)
      | (with_reducible exact LeO.refl _)
      | (with_reducible exact LeO.none _)
      | (with_reducible refine LeO.ite ?_ ?_)
      | (with_reducible refine LeO.bind ?_ (fun _ => ?_))
      | exact ih0 _ _ _ _ _ _ _
      | exact ih1 _ _ _ _ _ _ _ _ _
      | exact ih2 _ _ _ _ _ _ _ _ _ _ _
      | exact ih3 _ _ _ _ _ _ _ _ _ _ _
      | exact ih4 _ _ _ _ _ _ _ _ _ _
      | exact ih5 _ _ _ _ _ _ _ _ _ _ _ _ _ _
      | exact impl_paintFrom.mono _ _ _
      | exact LeO.none _
      | refine LeO.ite ?_ ?_
      | refine LeO.bind ?_ (fun _ => ?_)
    · intro y0 y1 y2 y3 y4 y5 y6 y7 y8
      unfold impl_bestPaint.j1
      repeat' first
      | (with_reducible exact ih0 _ _ _ _ _ _ _)
      | (with_reducible exact ih1 _ _ _ _ _ _ _ _ _)
      | (with_reducible exact ih2 _ _ _ _ _ _ _ _ _ _ _)
      | (with_reducible exact ih3 _ _ _ _ _ _ _ _ _ _ _)
      | (with_reducible exact ih4 _ _ _ _ _ _ _ _ _ _)
      | (with_reducible exact ih5 _ _ _ _ _ _ _ _ _ _ _ _ _ _)
      | (with_reducible exact impl_paintFrom.mono _ _ _)
      | (with_reducible exact LeO.refl _)
      | (with_reducible exact LeO.none _)
      | (with_reducible refine LeO.ite ?_ ?_)
      | (with_reducible refine LeO.bind ?_ (fun _ => ?_))
      | exact ih0 _ _ _ _ _ _ _
      | exact ih1 _ _ _ _ _ _ _ _ _
      | exact ih2 _ _ _ _ _ _ _ _ _ _ _
      | exact ih3 _ _ _ _ _ _ _ _ _ _ _
      | exact ih4 _ _ _ _ _ _ _ _ _ _
      | exact ih5 _ _ _ _ _ _ _ _ _ _ _ _ _ _
      | exact impl_paintFrom.mono _ _ _
      | exact LeO.none _
      | refine LeO.ite ?_ ?_
      | refine LeO.bind ?_ (fun _ => ?_)
    · intro y0 y1 y2 y3 y4 y5 y6 y7 y8 y9 y10
      unfold impl_bestPaint.j2
      repeat' first
      | (with_reducible exact ih0 _ _ _ _ _ _ _)
      | (with_reducible exact ih1 _ _ _ _ _ _ _ _ _)
      | (with_reducible exact ih2 _ _ _ _ _ _ _ _ _ _ _)
      | (with_reducible exact ih3 _ _ _ _ _ _ _ _ _ _ _)
      | (with_reducible exact ih4 _ _ _ _ _ _ _ _ _ _)
      | (with_reducible exact ih5 _ _ _ _ _ _ _ _ _ _ _ _ _ _)
      | (with_reducible exact impl_paintFrom.mono _ _ _)
      | (with_reducible exact LeO.refl _)
      | (with_reducible exact LeO.none _)
      | (with_reducible refine LeO.ite ?_ ?_)
      | (with_reducible refine LeO.bind ?_ (fun _ => ?_))
      | exact ih0 _ _ _ _ _ _ _
      | exact ih1 _ _ _ _ _ _ _ _ _
      | exact ih2 _ _ _ _ _ _ _ _ _ _ _
      | exact ih3 _ _ _ _ _ _ _ _ _ _ _
      | exact ih4 _ _ _ _ _ _ _ _ _ _
      | exact ih5 _ _ _ _ _ _ _ _ _ _ _ _ _ _
      | exact impl_paintFrom.mono _ _ _
      | exact LeO.none _
      | refine LeO.ite ?_ ?_
      | refine LeO.bind ?_ (fun _ => ?_)
    · intro y0 y1 y2 y3 y4 y5 y6 y7 y8 y9 y10
      unfold impl_bestPaint.j3
      repeat' first
      | (with_reducible exact ih0 _ _ _ _ _ _ _)
      | (with_reducible exact ih1 _ _ _ _ _ _ _ _ _)
      | (with_reducible exact ih2 _ _ _ _ _ _ _ _ _ _ _)
      | (with_reducible exact ih3 _ _ _ _ _ _ _ _ _ _ _)
      | (with_reducible exact ih4 _ _ _ _ _ _ _ _ _ _)
      | (with_reducible exact ih5 _ _ _ _ _ _ _ _ _ _ _ _ _ _)
      | (with_reducible exact impl_paintFrom.mono _ _ _)
      | (with_reducible exact LeO.refl _)
      | (with_reducible exact LeO.none _)
      | (with_reducible refine LeO.ite ?_ ?_)
      | (with_reducible refine LeO.bind ?_ (fun _ => ?_))
      | exact ih0 _ _ _ _ _ _ _
      | exact ih1 _ _ _ _ _ _ _ _ _
      | exact ih2 _ _ _ _ _ _ _ _ _ _ _
      | exact ih3 _ _ _ _ _ _ _ _ _ _ _
      | exact ih4 _ _ _ _ _ _ _ _ _ _
      | exact ih5 _ _ _ _ _ _ _ _ _ _ _ _ _ _
      | exact impl_paintFrom.mono _ _ _
      | exact LeO.none _
      | refine LeO.ite ?_ ?_
      | refine LeO.bind ?_ (fun _ => ?_)
    · intro y0 y1 y2 y3 y4 y5 y6 y7 y8 y9
      unfold impl_bestPaint.l1
      repeat' first
      | (with_reducible exact ih0 _ _ _ _ _ _ _)
      | (with_reducible exact ih1 _ _ _ _ _ _ _ _ _)
      | (with_reducible exact ih2 _ _ _ _ _ _ _ _ _ _ _)
      | (with_reducible exact ih3 _ _ _ _ _ _ _ _ _ _ _)
      | (with_reducible exact ih4 _ _ _ _ _ _ _ _ _ _)
      | (with_reducible exact ih5 _ _ _ _ _ _ _ _ _ _ _ _ _ _)
      | (with_reducible exact impl_paintFrom.mono _ _ _)
      | (with_reducible exact LeO.refl _)
      | (with_reducible exact LeO.none _)
      | (with_reducible refine LeO.ite ?_ ?_)
      | (with_reducible refine LeO.bind ?_ (fun _ => ?_))
      | exact ih0 _ _ _ _ _ _ _
      | exact ih1 _ _ _ _ _ _ _ _ _
      | exact ih2 _ _ _ _ _ _ _ _ _ _ _
      | exact ih3 _ _ _ _ _ _ _ _ _ _ _
      | exact ih4 _ _ _ _ _ _ _ _ _ _
      | exact ih5 _ _ _ _ _ _ _ _ _ _ _ _ _ _
      | exact impl_paintFrom.mono _ _ _
      | exact LeO.none _
      | refine LeO.ite ?_ ?_
      | refine LeO.bind ?_ (fun _ => ?_)
    · intro y0 y1 y2 y3 y4 y5 y6 y7 y8 y9 y10 y11 y12 y13
      unfold impl_bestPaint.l2
      repeat' first
      | (with_reducible exact ih0 _ _ _ _ _ _ _)
      | (with_reducible exact ih1 _ _ _ _ _ _ _ _ _)
      | (with_reducible exact ih2 _ _ _ _ _ _ _ _ _ _ _)
      | (with_reducible exact ih3 _ _ _ _ _ _ _ _ _ _ _)
      | (with_reducible exact ih4 _ _ _ _ _ _ _ _ _ _)
      | (with_reducible exact ih5 _ _ _ _ _ _ _ _ _ _ _ _ _ _)
      | (with_reducible exact impl_paintFrom.mono _ _ _)
      | (with_reducible exact LeO.refl _)
      | (with_reducible exact LeO.none _)
      | (with_reducible refine LeO.ite ?_ ?_)
      | (with_reducible refine LeO.bind ?_ (fun _ => ?_))
      | exact ih0 _ _ _ _ _ _ _
      | exact ih1 _ _ _ _ _ _ _ _ _
      | exact ih2 _ _ _ _ _ _ _ _ _ _ _
      | exact ih3 _ _ _ _ _ _ _ _ _ _ _
      | exact ih4 _ _ _ _ _ _ _ _ _ _
      | exact ih5 _ _ _ _ _ _ _ _ _ _ _ _ _ _
      | exact impl_paintFrom.mono _ _ _
      | exact LeO.none _
      | refine LeO.ite ?_ ?_
      | refine LeO.bind ?_ (fun _ => ?_)
theorem impl_bestPaint.mono : ∀ a0 a1 k, LeO (impl_bestPaint.f k a0 a1) (impl_bestPaint.f (k + 1) a0 a1) := by
  intro a0 a1 k
  obtain ⟨ih0, ih1, ih2, ih3, ih4, ih5⟩ := impl_bestPaint.mono_l k
  unfold impl_bestPaint.f
  repeat' first
      | (with_reducible exact ih0 _ _ _ _ _ _ _)
      | (with_reducible exact ih1 _ _ _ _ _ _ _ _ _)
      | (with_reducible exact ih2 _ _ _ _ _ _ _ _ _ _ _)
      | (with_reducible exact ih3 _ _ _ _ _ _ _ _ _ _ _)
      | (with_reducible exact ih4 _ _ _ _ _ _ _ _ _ _)
      | (with_reducible exact ih5 _ _ _ _ _ _ _ _ _ _ _ _ _ _)
      | (with_reducible exact impl_paintFrom.mono _ _ _)
      | (with_reducible exact LeO.refl _)
      | (with_reducible exact LeO.none _)
      | (with_reducible refine LeO.ite ?_ ?_)
      | (with_reducible refine LeO.bind ?_ (fun _ => ?_))
      | exact ih0 _ _ _ _ _ _ _
      | exact ih1 _ _ _ _ _ _ _ _ _
      | exact ih2 _ _ _ _ _ _ _ _ _ _ _
      | exact ih3 _ _ _ _ _ _ _ _ _ _ _
      | exact ih4 _ _ _ _ _ _ _ _ _ _
      | exact ih5 _ _ _ _ _ _ _ _ _ _ _ _ _ _
      | exact impl_paintFrom.mono _ _ _
      | exact LeO.none _
      | refine LeO.ite ?_ ?_
      | refine LeO.bind ?_ (fun _ => ?_)
set_option maxHeartbeats 8000000 in
set_option maxRecDepth 100000 in
theorem impl_bestPaint.calls (k : Nat) (A0 : Option Addr) (c0 : Nat) (l0 : List (List Int)) (a1 : Bool) (r1 : Int) (r2 : List Int) (r3 : Int) (r4 : Bool) (w : World) (hr0 : Kd.C (Kd.slice 3 (Kd.int .i64)) w A0 l0.length l0) (hc0 : l0.length ≤ c0) (h : impl_bestPaint.f k l0 a1 = some (r1, r2, r3, r4)) :
    Calls Try.prog 69 #[.slice A0 l0.length c0, .bool a1] w fun e w' => ∃ v1_ : Value, e = .returned (.tuple #[.int .i64 r1, v1_, .int .i64 r3, .bool r4]) ∧ Kd.R (Kd.int .i64) 3 w' w.heap.size (fun _ => True) v1_ r2 ∧ Below w.heap.size w w' := by
  have HR0 := Aside0.mk hr0
  have HC0 := Aside0.mk hc0
  clear hr0 hc0
  have HB := Aside0.mk (Below.refl w.heap.size w)
  have H : (if 0 < (l0.length : Int) then (impl_bestPaint.l0 k l0 a1 0 0 ([] : List Int) ((rd_L1 l0 0).length : Int) 0) else (none)) = some (r1, r2, r3, r4) := h
  clear h
  by_cases c3 : 0 < (l0.length : Int)
  · rw [if_pos c3] at H
    have c3b0 : decide (0 < (l0.length : Int)) = true := decide_eq_true c3
    have c3b1 : decide (0 < l0.length) = true := decide_eq_true (by omega)
    clear c3
    have H' := Aside0.mk H
    clear H
    have p106 : 0 ≤ (0 : Int) := (by omega)
    have q106 : 0 < (l0.length : Int) := of_decide_eq_true (by first | (with_reducible assumption) | assumption)
    obtain ⟨ad106, A106_0, c106_0, e106, hx106_0, hl106_0, hi106_0⟩ := at_L1 HR0.out 0 p106 q106
    cases e106
    have qi106 : (0 < l0.length) = True := eq_true (by omega)
    (try rw [show ((0 : Int)).toNat = 0 from rfl] at hx106_0)
    (try rw [Addr.add_zero'] at hx106_0)
    have HR106_0 := Aside0.mk hi106_0
    have HC106_0 := Aside0.mk hl106_0
    clear hi106_0 hl106_0
    replace p106 := eq_true p106
    replace q106 := eq_true q106
    go_enter Try.func69, Try.ntmps69
    go_wp2
    repeat (go_quiet (fail); try go_wp2)
    go_loopg [8, 9, 10, 23] k (fun kq v8 v9 v10 v23 w' => ∃ (x8_1 : Int) (x9_1 : Int) (x10_1 : List Int) (x23_1 : Int), v8 = .int .i64 x8_1 ∧ v9 = .int .i64 x9_1 ∧ v23 = .int .i64 x23_1 ∧ Aside0 (impl_bestPaint.l0 kq l0 a1 x8_1 x9_1 x10_1 ((rd_L1 l0 0).length : Int) x23_1 = some (r1, r2, r3, r4)) ∧ Aside0 (kq ≤ k) ∧ Aside0 (Kd.R (Kd.int .i64) 3 w' w.heap.size (fun _ => True) v10 x10_1) ∧ Aside0 (Below w.heap.size w w'))
    case atStart => exact ⟨(0), (0), (([] : List Int)), (0), (by first | rfl | (simp; done) | (simp [*]; done)), (by first | rfl | (simp; done) | (simp [*]; done)), (by first | rfl | (simp; done) | (simp [*]; done)), H', ⟨Nat.le_refl _⟩, ⟨by first | exact Kd.R_nil _ _ _ _ _ | exact Kd.N_nil _ _ _ _ _ | exact Kd.V_nil _ _ _ _ _ | exact Kd.Q_nil _ _ _ _ _ | exact Kd.S_nil _ _ _ _ _⟩, ⟨by repeat (first | (with_reducible first | exact HB.out | apply below_alloc | apply pw_below_drewN | apply below_drew1) | exact HB.out)⟩⟩
    case round =>
      clear H'
      try clear c1
      try clear p1
      try clear q1
      try clear hx1
      try clear qi1
      try clear p2
      try clear c3
      try clear c3b0
      try clear c3b1
      try clear hx106_0
      try clear p106
      try clear q106
      obtain ⟨x8_1, x9_1, x10_1, x23_1, rfl, rfl, rfl, HA, HK1, HO_10, HB⟩ := hrel
      cases gk with
      | zero => exact absurd HA.out (by simp [impl_bestPaint.l0])
      | succ k1 =>
        have H := HA.out
        clear HA
        simp only [impl_bestPaint.l0] at H
        by_cases c4 : x23_1 < ((rd_L1 l0 0).length : Int)
        · rw [if_pos c4] at H
          have c4b0 : decide (x23_1 < ((rd_L1 l0 0).length : Int)) = true := decide_eq_true c4
          clear c4
          replace H := Option.bind_eq_some_iff.mp H
          obtain ⟨t107, A50, H⟩ := H
          replace H : (if t107 = true then (impl_bestPaint.j1 k1 l0 a1 x8_1 x9_1 x10_1 x23_1 x23_1 ((rd_L1 l0 0).length : Int) x23_1) else (impl_bestPaint.j1 k1 l0 a1 x8_1 x9_1 x10_1 x23_1 (-1) ((rd_L1 l0 0).length : Int) x23_1)) = some (r1, r2, r3, r4) := H
          have A5 := Aside0.mk A50
          clear A50
          have HC6 := Aside0.mk H
          clear H
          go_upto_if 29 with (first | (go_at_call 52; (with_reducible refine (impl_isRing.calls (l0.length : Int) a1 t107 _ A5.out).mono ?_); rintro e w' ⟨rfl, ⟨nd, rfl⟩⟩; (try first | exact ⟨rfl, _, World.drewN_drewN _ _ _⟩ | exact ⟨rfl, _, Eq.trans (World.drewN_drewN _ _ _) (congrArg (World.drewN _) (Nat.add_assoc _ _ _))⟩)))
          repeat (go_quiet (first | (go_at_call 52; (with_reducible refine (impl_isRing.calls (l0.length : Int) a1 t107 _ A5.out).mono ?_); rintro e w' ⟨rfl, ⟨nd, rfl⟩⟩; (try first | exact ⟨rfl, _, World.drewN_drewN _ _ _⟩ | exact ⟨rfl, _, Eq.trans (World.drewN_drewN _ _ _) (congrArg (World.drewN _) (Nat.add_assoc _ _ _))⟩))); go_upto_if 29 with (first | (go_at_call 52; (with_reducible refine (impl_isRing.calls (l0.length : Int) a1 t107 _ A5.out).mono ?_); rintro e w' ⟨rfl, ⟨nd, rfl⟩⟩; (try first | exact ⟨rfl, _, World.drewN_drewN _ _ _⟩ | exact ⟨rfl, _, Eq.trans (World.drewN_drewN _ _ _) (congrArg (World.drewN _) (Nat.add_assoc _ _ _))⟩))))
          (try simp only [Act.put, List.setIfInBounds_toArray, List.set_cons_zero, List.set_cons_succ])
          go_cut [12] (fun v12 wc => ∃ (kq : Nat) (x12_5 : Int), v12 = .int .i64 x12_5 ∧ Aside0 (impl_bestPaint.j1 kq l0 a1 x8_1 x9_1 x10_1 x23_1 x12_5 ((rd_L1 l0 0).length : Int) x23_1 = some (r1, r2, r3, r4)) ∧ Aside0 (kq ≤ k1) ∧ Aside0 (Kd.R (Kd.int .i64) 3 wc w.heap.size (fun _ => True) u10 x10_1) ∧ Aside0 (Below w.heap.size w wc))
          case first =>
            have H := HC6.out
            clear HC6
            by_cases c7 : t107 = true
            · subst c7
              have H1 : (impl_bestPaint.j1 k1 l0 a1 x8_1 x9_1 x10_1 x23_1 x23_1 ((rd_L1 l0 0).length : Int) x23_1) = some (r1, r2, r3, r4) := by rw [if_pos rfl] at H; exact H
              clear H
              have H := H1
              clear H1
              have H' := Aside0.mk H
              clear H
              go_wp2
              repeat (go_quiet (fail); try go_wp2)
              go_meet
              case rel => exact ⟨_, (x23_1), (by first | rfl | (simp; done) | (simp [*]; done)), H', ⟨by have := HK1.out; first | omega | exact Nat.le_refl _⟩, ⟨by (with_reducible repeat (first | apply Kd.R_alloc | apply Kd.R_drewN | apply Kd.R_drew)); exact HO_10.out⟩, ⟨by repeat (first | (with_reducible first | exact HB.out | apply below_alloc | apply pw_below_drewN | apply below_drew1) | exact HB.out)⟩⟩
            · replace c7 := Bool.eq_false_iff.mpr c7
              subst c7
              have H1 : (impl_bestPaint.j1 k1 l0 a1 x8_1 x9_1 x10_1 x23_1 (-1) ((rd_L1 l0 0).length : Int) x23_1) = some (r1, r2, r3, r4) := by rw [if_neg (show ¬ (false = true) by decide)] at H; exact H
              clear H
              have H := H1
              clear H1
              have H' := Aside0.mk H
              clear H
              go_wp2
              repeat (go_quiet (fail); try go_wp2)
              go_meet
              case rel => exact ⟨_, ((-1)), (by first | rfl | (simp; done) | (simp [*]; done)), H', ⟨by have := HK1.out; first | omega | exact Nat.le_refl _⟩, ⟨by (with_reducible repeat (first | apply Kd.R_alloc | apply Kd.R_drewN | apply Kd.R_drew)); exact HO_10.out⟩, ⟨by repeat (first | (with_reducible first | exact HB.out | apply below_alloc | apply pw_below_drewN | apply below_drew1) | exact HB.out)⟩⟩
          case rest =>
            clear HC6
            try clear c1
            try clear p1
            try clear q1
            try clear hx1
            try clear qi1
            try clear p2
            try clear c3
            try clear c3b0
            try clear c3b1
            try clear c4
            try clear c4b0
            try clear c6
            try clear c7
            try clear hx106_0
            try clear p1
            try clear p106
            try clear p2
            try clear q1
            try clear q106
            obtain ⟨kq, x12_5, rfl, HA, HJ5, HO_10, HB⟩ := hcut
            cases kq with
            | zero => exact absurd HA.out (by simp [impl_bestPaint.j1])
            | succ kj5 =>
              have H := HA.out
              clear HA
              simp only [impl_bestPaint.j1] at H
              replace H := Option.bind_eq_some_iff.mp H
              obtain ⟨⟨t108, t109⟩, A80, H⟩ := H
              replace H : (if 0 < (t109.length : Int) then (if 0 ≤ x23_1 then (if x23_1 < ((rd_L1 t109 0).length : Int) then (if (rd (rd_L1 t109 0) x23_1) = 0 then (impl_bestPaint.j2 kj5 l0 a1 x8_1 x9_1 x10_1 x23_1 t108 t109 ((rd_L1 l0 0).length : Int) x23_1 true) else (if x9_1 > 0 then (if 0 < (t108.length : Int) then (if x23_1 < ((rd_L1 t108 0).length : Int) then (impl_bestPaint.j2 kj5 l0 a1 x8_1 x9_1 x10_1 x23_1 t108 t109 ((rd_L1 l0 0).length : Int) x23_1 (decide ((rd (rd_L1 t108 0) x23_1) > x8_1))) else (none)) else (none)) else (impl_bestPaint.j2 kj5 l0 a1 x8_1 x9_1 x10_1 x23_1 t108 t109 ((rd_L1 l0 0).length : Int) x23_1 false))) else (none)) else (none)) else (none)) = some (r1, r2, r3, r4) := H
              have A8 := Aside0.mk A80
              clear A80
              have HC9 := Aside0.mk H
              clear H
              go_upto_region 10 with (first | (go_at_call 78; (with_reducible refine (impl_paintFrom.calls kj5 _ _ l0 x12_5 t108 t109 _ ?side1 ?side2 A8.out).mono ?_); (case side1 => repeat (first | exact (Kd.C_below HR0.out HB.out) | (with_reducible refine Kd.C_alloc ?_ _) | (with_reducible refine Kd.C_drewN ?_ _) | (with_reducible refine Kd.C_drew ?_))); (case side2 => exact HC0.out); rintro e w10 ⟨v110, v112, rfl, ho0, ho1, hb⟩; have n0_ := Aside0.mk (Kd.R_below (by (with_reducible repeat (first | apply Kd.R_alloc | apply Kd.R_drewN | apply Kd.R_drew)); exact HO_10.out) hb); have n1_ := Aside0.mk (Kd.S_lower (Kd.S_new' ho0 (Kd.R_lt (by (with_reducible repeat (first | apply Kd.R_alloc | apply Kd.R_drewN | apply Kd.R_drew)); exact HO_10.out))) (below_size (by repeat (first | (with_reducible first | exact HB.out | apply below_alloc | apply pw_below_drewN | apply below_drew1) | exact HB.out)))); have n2_ := Aside0.mk (Kd.S_lower (Kd.S_new' ho1 (Kd.R_lt (by (with_reducible repeat (first | apply Kd.R_alloc | apply Kd.R_drewN | apply Kd.R_drew)); exact HO_10.out))) (below_size (by repeat (first | (with_reducible first | exact HB.out | apply below_alloc | apply pw_below_drewN | apply below_drew1) | exact HB.out)))); have n3_ := Aside0.mk (below_step (by repeat (first | (with_reducible first | exact HB.out | apply below_alloc | apply pw_below_drewN | apply below_drew1) | exact HB.out)) hb); clear HO_10; clear HB; have HO_10 := n0_; have HO111 := n1_; have HO113 := n2_; have HB := n3_; clear n0_ n1_ n2_ n3_; (try clear hb); (try clear hb2); (try clear hk); (try clear hi); (try clear ho0); (try clear ho1)))
              repeat (go_quiet (first | (go_at_call 78; (with_reducible refine (impl_paintFrom.calls kj5 _ _ l0 x12_5 t108 t109 _ ?side1 ?side2 A8.out).mono ?_); (case side1 => repeat (first | exact (Kd.C_below HR0.out HB.out) | (with_reducible refine Kd.C_alloc ?_ _) | (with_reducible refine Kd.C_drewN ?_ _) | (with_reducible refine Kd.C_drew ?_))); (case side2 => exact HC0.out); rintro e w10 ⟨v110, v112, rfl, ho0, ho1, hb⟩; have n0_ := Aside0.mk (Kd.R_below (by (with_reducible repeat (first | apply Kd.R_alloc | apply Kd.R_drewN | apply Kd.R_drew)); exact HO_10.out) hb); have n1_ := Aside0.mk (Kd.S_lower (Kd.S_new' ho0 (Kd.R_lt (by (with_reducible repeat (first | apply Kd.R_alloc | apply Kd.R_drewN | apply Kd.R_drew)); exact HO_10.out))) (below_size (by repeat (first | (with_reducible first | exact HB.out | apply below_alloc | apply pw_below_drewN | apply below_drew1) | exact HB.out)))); have n2_ := Aside0.mk (Kd.S_lower (Kd.S_new' ho1 (Kd.R_lt (by (with_reducible repeat (first | apply Kd.R_alloc | apply Kd.R_drewN | apply Kd.R_drew)); exact HO_10.out))) (below_size (by repeat (first | (with_reducible first | exact HB.out | apply below_alloc | apply pw_below_drewN | apply below_drew1) | exact HB.out)))); have n3_ := Aside0.mk (below_step (by repeat (first | (with_reducible first | exact HB.out | apply below_alloc | apply pw_below_drewN | apply below_drew1) | exact HB.out)) hb); clear HO_10; clear HB; have HO_10 := n0_; have HO111 := n1_; have HO113 := n2_; have HB := n3_; clear n0_ n1_ n2_ n3_; (try clear hb); (try clear hb2); (try clear hk); (try clear hi); (try clear ho0); (try clear ho1))); go_upto_region 10 with (first | (go_at_call 78; (with_reducible refine (impl_paintFrom.calls kj5 _ _ l0 x12_5 t108 t109 _ ?side1 ?side2 A8.out).mono ?_); (case side1 => repeat (first | exact (Kd.C_below HR0.out HB.out) | (with_reducible refine Kd.C_alloc ?_ _) | (with_reducible refine Kd.C_drewN ?_ _) | (with_reducible refine Kd.C_drew ?_))); (case side2 => exact HC0.out); rintro e w10 ⟨v110, v112, rfl, ho0, ho1, hb⟩; have n0_ := Aside0.mk (Kd.R_below (by (with_reducible repeat (first | apply Kd.R_alloc | apply Kd.R_drewN | apply Kd.R_drew)); exact HO_10.out) hb); have n1_ := Aside0.mk (Kd.S_lower (Kd.S_new' ho0 (Kd.R_lt (by (with_reducible repeat (first | apply Kd.R_alloc | apply Kd.R_drewN | apply Kd.R_drew)); exact HO_10.out))) (below_size (by repeat (first | (with_reducible first | exact HB.out | apply below_alloc | apply pw_below_drewN | apply below_drew1) | exact HB.out)))); have n2_ := Aside0.mk (Kd.S_lower (Kd.S_new' ho1 (Kd.R_lt (by (with_reducible repeat (first | apply Kd.R_alloc | apply Kd.R_drewN | apply Kd.R_drew)); exact HO_10.out))) (below_size (by repeat (first | (with_reducible first | exact HB.out | apply below_alloc | apply pw_below_drewN | apply below_drew1) | exact HB.out)))); have n3_ := Aside0.mk (below_step (by repeat (first | (with_reducible first | exact HB.out | apply below_alloc | apply pw_below_drewN | apply below_drew1) | exact HB.out)) hb); clear HO_10; clear HB; have HO_10 := n0_; have HO111 := n1_; have HO113 := n2_; have HB := n3_; clear n0_ n1_ n2_ n3_; (try clear hb); (try clear hb2); (try clear hk); (try clear hi); (try clear ho0); (try clear ho1))))
              (try simp only [Act.put, List.setIfInBounds_toArray, List.set_cons_zero, List.set_cons_succ])
              go_cut [57] (fun v57 wc => ∃ (kq : Nat) (x57_8 : Bool), v57 = .bool x57_8 ∧ Aside0 (impl_bestPaint.j2 kq l0 a1 x8_1 x9_1 x10_1 x23_1 t108 t109 ((rd_L1 l0 0).length : Int) x23_1 x57_8 = some (r1, r2, r3, r4)) ∧ Aside0 (kq ≤ kj5) ∧ Aside0 (Kd.R (Kd.int .i64) 3 wc w.heap.size (fun _ => True) u10 x10_1) ∧ Aside0 (Kd.S (Kd.slice 3 (Kd.int .i64)) 29 wc w.heap.size (fun k_ => some k_ ≠ (u10 : Value).ownBlock ∧ some k_ ≠ (v112 : Value).ownBlock) v110 t108) ∧ Aside0 (Kd.S (Kd.slice 3 (Kd.int .i64)) 29 wc w.heap.size (fun k_ => some k_ ≠ (u10 : Value).ownBlock ∧ some k_ ≠ (v110 : Value).ownBlock) v112 t109) ∧ Aside0 (Below w.heap.size w wc))
              case first =>
                have H := HC9.out
                clear HC9
                by_cases c11 : 0 < (t109.length : Int)
                · rw [if_pos c11] at H
                  have c11b0 : decide (0 < (t109.length : Int)) = true := decide_eq_true c11
                  have c11b1 : decide (0 < t109.length) = true := decide_eq_true (by omega)
                  clear c11
                  (first | rw [c11b0] | (simp only [i64_w, i32_w]; rw [c11b0]) | skip)
                  by_cases c12 : 0 ≤ x23_1
                  · rw [if_pos c12] at H
                    have c12b0 : decide (0 ≤ x23_1) = true := decide_eq_true c12
                    clear c12
                    by_cases c13 : x23_1 < ((rd_L1 t109 0).length : Int)
                    · rw [if_pos c13] at H
                      have c13b0 : decide (x23_1 < ((rd_L1 t109 0).length : Int)) = true := decide_eq_true c13
                      clear c13
                      by_cases c14 : (rd (rd_L1 t109 0) x23_1) = 0
                      · rw [if_pos c14] at H
                        have c14b0 : ((rd (rd_L1 t109 0) x23_1) == 0) = true := beq_iff_eq.mpr c14
                        have c14b1 : ((rd (rd_L1 t109 0) x23_1) != 0) = false := bne_eq_false_iff_eq.mpr c14
                        clear c14
                        have H' := Aside0.mk H
                        clear H
                        obtain ⟨Ao15, co15, eo15⟩ := Kd.S_slice HO113.out
                        subst eo15
                        have p114 : 0 ≤ (0 : Int) := (by omega)
                        have q114 : 0 < (t109.length : Int) := of_decide_eq_true (by first | (with_reducible assumption) | assumption)
                        obtain ⟨ad114, A114_0, c114_0, e114, hx114_0, hl114_0, hi114_0⟩ := at_L1 (Kd.S_reads' HO113.out).2.2 0 p114 q114
                        cases e114
                        obtain ⟨ce114, hce114, hMe114, hcc114⟩ := Kd.S_get HO113.out [] 0 p114 (by first | exact q114 | exact of_decide_eq_true (by first | (with_reducible assumption) | assumption) | (have e_ := (Kd.S_reads' HO113.out).1; omega))
                        obtain ⟨ve114_0, rfl, ge114_0⟩ := hMe114
                        have hv114_0 := hcc114 0 _ rfl
                        rw [Nat.add_zero, show ((Kd.slice 3 (Kd.int .i64))).sz = 1 from rfl, Nat.mul_one] at hv114_0
                        replace hv114_0 := Option.some.inj (hv114_0.symm.trans hx114_0)
                        rw [hv114_0] at ge114_0
                        have HL114_0 := Aside0.mk (show Kd.R (Kd.int .i64) 3 _ _ _ _ (rd_L1 t109 0) from ge114_0)
                        clear hv114_0 ge114_0
                        clear hcc114 hce114
                        have qi114 : (0 < t109.length) = True := eq_true (by omega)
                        (try rw [show ((0 : Int)).toNat = 0 from rfl] at hx114_0)
                        (try rw [Addr.add_zero'] at hx114_0)
                        have HR114_0 := Aside0.mk hi114_0
                        have HC114_0 := Aside0.mk hl114_0
                        clear hi114_0 hl114_0
                        replace p114 := eq_true p114
                        replace q114 := eq_true q114
                        have p115 : 0 ≤ (x23_1 : Int) := of_decide_eq_true (by first | (with_reducible assumption) | assumption)
                        have q115 : x23_1 < ((rd_L1 t109 0).length : Int) := of_decide_eq_true (by first | (with_reducible assumption) | assumption)
                        obtain ⟨ad115, e115, hx115_0⟩ := Kd.at_int (by repeat (first | (with_reducible exact HR114_0.out) | (with_reducible refine Kd.C_alloc ?_ _) | (with_reducible refine Kd.C_drewN ?_ _) | (with_reducible refine Kd.C_drew ?_) | exact HR114_0.out)) x23_1 p115 q115
                        cases e115
                        replace p115 := eq_true p115
                        replace q115 := eq_true q115
                        go_wp2
                        repeat (go_quiet (fail); try go_wp2)
                        go_meet
                        case rel => exact ⟨_, (true), (by first | rfl | (simp; done) | (simp [*]; done)), H', ⟨by have := HK1.out; have := HJ5.out; first | omega | exact Nat.le_refl _⟩, ⟨by (with_reducible repeat (first | apply Kd.R_alloc | apply Kd.R_drewN | apply Kd.R_drew)); exact HO_10.out⟩, ⟨by (with_reducible repeat (first | apply Kd.S_alloc | apply Kd.S_drewN | apply Kd.S_drew)); exact Kd.S_mono HO111.out (fun _ hk => ⟨hk.2, hk.1⟩)⟩, ⟨by (with_reducible repeat (first | apply Kd.S_alloc | apply Kd.S_drewN | apply Kd.S_drew)); exact Kd.S_mono HO113.out (fun _ hk => ⟨hk.2, hk.1⟩)⟩, ⟨by repeat (first | (with_reducible first | exact HB.out | apply below_alloc | apply pw_below_drewN | apply below_drew1) | exact HB.out)⟩⟩
                      · rw [if_neg c14] at H
                        have c14b0 : ((rd (rd_L1 t109 0) x23_1) == 0) = false := beq_eq_false_iff_ne.mpr c14
                        have c14b1 : ((rd (rd_L1 t109 0) x23_1) != 0) = true := bne_iff_ne.mpr c14
                        by_cases c16 : x9_1 > 0
                        · rw [if_pos c16] at H
                          have c16b0 : decide (0 < x9_1) = true := decide_eq_true c16
                          clear c16
                          by_cases c17 : 0 < (t108.length : Int)
                          · rw [if_pos c17] at H
                            have c17b0 : decide (0 < (t108.length : Int)) = true := decide_eq_true c17
                            have c17b1 : decide (0 < t108.length) = true := decide_eq_true (by omega)
                            clear c17
                            by_cases c18 : x23_1 < ((rd_L1 t108 0).length : Int)
                            · rw [if_pos c18] at H
                              have c18b0 : decide (x23_1 < ((rd_L1 t108 0).length : Int)) = true := decide_eq_true c18
                              clear c18
                              have H' := Aside0.mk H
                              clear H
                              obtain ⟨Ao19, co19, eo19⟩ := Kd.S_slice HO113.out
                              subst eo19
                              have p114 : 0 ≤ (0 : Int) := (by omega)
                              have q114 : 0 < (t109.length : Int) := of_decide_eq_true (by first | (with_reducible assumption) | assumption)
                              obtain ⟨ad114, A114_0, c114_0, e114, hx114_0, hl114_0, hi114_0⟩ := at_L1 (Kd.S_reads' HO113.out).2.2 0 p114 q114
                              cases e114
                              obtain ⟨ce114, hce114, hMe114, hcc114⟩ := Kd.S_get HO113.out [] 0 p114 (by first | exact q114 | exact of_decide_eq_true (by first | (with_reducible assumption) | assumption) | (have e_ := (Kd.S_reads' HO113.out).1; omega))
                              obtain ⟨ve114_0, rfl, ge114_0⟩ := hMe114
                              have hv114_0 := hcc114 0 _ rfl
                              rw [Nat.add_zero, show ((Kd.slice 3 (Kd.int .i64))).sz = 1 from rfl, Nat.mul_one] at hv114_0
                              replace hv114_0 := Option.some.inj (hv114_0.symm.trans hx114_0)
                              rw [hv114_0] at ge114_0
                              have HL114_0 := Aside0.mk (show Kd.R (Kd.int .i64) 3 _ _ _ _ (rd_L1 t109 0) from ge114_0)
                              clear hv114_0 ge114_0
                              clear hcc114 hce114
                              have qi114 : (0 < t109.length) = True := eq_true (by omega)
                              (try rw [show ((0 : Int)).toNat = 0 from rfl] at hx114_0)
                              (try rw [Addr.add_zero'] at hx114_0)
                              have HR114_0 := Aside0.mk hi114_0
                              have HC114_0 := Aside0.mk hl114_0
                              clear hi114_0 hl114_0
                              replace p114 := eq_true p114
                              replace q114 := eq_true q114
                              have p115 : 0 ≤ (x23_1 : Int) := of_decide_eq_true (by first | (with_reducible assumption) | assumption)
                              have q115 : x23_1 < ((rd_L1 t109 0).length : Int) := of_decide_eq_true (by first | (with_reducible assumption) | assumption)
                              obtain ⟨ad115, e115, hx115_0⟩ := Kd.at_int (by repeat (first | (with_reducible exact HR114_0.out) | (with_reducible refine Kd.C_alloc ?_ _) | (with_reducible refine Kd.C_drewN ?_ _) | (with_reducible refine Kd.C_drew ?_) | exact HR114_0.out)) x23_1 p115 q115
                              cases e115
                              replace p115 := eq_true p115
                              replace q115 := eq_true q115
                              obtain ⟨Ao20, co20, eo20⟩ := Kd.S_slice HO111.out
                              subst eo20
                              have p116 : 0 ≤ (0 : Int) := (by omega)
                              have q116 : 0 < (t108.length : Int) := of_decide_eq_true (by first | (with_reducible assumption) | assumption)
                              obtain ⟨ad116, A116_0, c116_0, e116, hx116_0, hl116_0, hi116_0⟩ := at_L1 (Kd.S_reads' HO111.out).2.2 0 p116 q116
                              cases e116
                              obtain ⟨ce116, hce116, hMe116, hcc116⟩ := Kd.S_get HO111.out [] 0 p116 (by first | exact q116 | exact of_decide_eq_true (by first | (with_reducible assumption) | assumption) | (have e_ := (Kd.S_reads' HO111.out).1; omega))
                              obtain ⟨ve116_0, rfl, ge116_0⟩ := hMe116
                              have hv116_0 := hcc116 0 _ rfl
                              rw [Nat.add_zero, show ((Kd.slice 3 (Kd.int .i64))).sz = 1 from rfl, Nat.mul_one] at hv116_0
                              replace hv116_0 := Option.some.inj (hv116_0.symm.trans hx116_0)
                              rw [hv116_0] at ge116_0
                              have HL116_0 := Aside0.mk (show Kd.R (Kd.int .i64) 3 _ _ _ _ (rd_L1 t108 0) from ge116_0)
                              clear hv116_0 ge116_0
                              clear hcc116 hce116
                              have qi116 : (0 < t108.length) = True := eq_true (by omega)
                              (try rw [show ((0 : Int)).toNat = 0 from rfl] at hx116_0)
                              (try rw [Addr.add_zero'] at hx116_0)
                              have HR116_0 := Aside0.mk hi116_0
                              have HC116_0 := Aside0.mk hl116_0
                              clear hi116_0 hl116_0
                              replace p116 := eq_true p116
                              replace q116 := eq_true q116
                              have p117 : 0 ≤ (x23_1 : Int) := of_decide_eq_true (by first | (with_reducible assumption) | assumption)
                              have q117 : x23_1 < ((rd_L1 t108 0).length : Int) := of_decide_eq_true (by first | (with_reducible assumption) | assumption)
                              obtain ⟨ad117, e117, hx117_0⟩ := Kd.at_int (by repeat (first | (with_reducible exact HR116_0.out) | (with_reducible refine Kd.C_alloc ?_ _) | (with_reducible refine Kd.C_drewN ?_ _) | (with_reducible refine Kd.C_drew ?_) | exact HR116_0.out)) x23_1 p117 q117
                              cases e117
                              replace p117 := eq_true p117
                              replace q117 := eq_true q117
                              go_wp2
                              repeat (go_quiet (fail); try go_wp2)
                              go_meet
                              case rel => exact ⟨_, (decide ((rd (rd_L1 t108 0) x23_1) > x8_1)), (by first | rfl | (simp; done) | (simp [*]; done)), H', ⟨by have := HK1.out; have := HJ5.out; first | omega | exact Nat.le_refl _⟩, ⟨by (with_reducible repeat (first | apply Kd.R_alloc | apply Kd.R_drewN | apply Kd.R_drew)); exact HO_10.out⟩, ⟨by (with_reducible repeat (first | apply Kd.S_alloc | apply Kd.S_drewN | apply Kd.S_drew)); exact Kd.S_mono HO111.out (fun _ hk => ⟨hk.2, hk.1⟩)⟩, ⟨by (with_reducible repeat (first | apply Kd.S_alloc | apply Kd.S_drewN | apply Kd.S_drew)); exact Kd.S_mono HO113.out (fun _ hk => ⟨hk.2, hk.1⟩)⟩, ⟨by repeat (first | (with_reducible first | exact HB.out | apply below_alloc | apply pw_below_drewN | apply below_drew1) | exact HB.out)⟩⟩
                            · rw [if_neg c18] at H
                              exact absurd H (by simp)
                          · rw [if_neg c17] at H
                            exact absurd H (by simp)
                        · rw [if_neg c16] at H
                          have c16b0 : decide (0 < x9_1) = false := decide_eq_false c16
                          clear c16
                          have H' := Aside0.mk H
                          clear H
                          obtain ⟨Ao21, co21, eo21⟩ := Kd.S_slice HO113.out
                          subst eo21
                          have p114 : 0 ≤ (0 : Int) := (by omega)
                          have q114 : 0 < (t109.length : Int) := of_decide_eq_true (by first | (with_reducible assumption) | assumption)
                          obtain ⟨ad114, A114_0, c114_0, e114, hx114_0, hl114_0, hi114_0⟩ := at_L1 (Kd.S_reads' HO113.out).2.2 0 p114 q114
                          cases e114
                          obtain ⟨ce114, hce114, hMe114, hcc114⟩ := Kd.S_get HO113.out [] 0 p114 (by first | exact q114 | exact of_decide_eq_true (by first | (with_reducible assumption) | assumption) | (have e_ := (Kd.S_reads' HO113.out).1; omega))
                          obtain ⟨ve114_0, rfl, ge114_0⟩ := hMe114
                          have hv114_0 := hcc114 0 _ rfl
                          rw [Nat.add_zero, show ((Kd.slice 3 (Kd.int .i64))).sz = 1 from rfl, Nat.mul_one] at hv114_0
                          replace hv114_0 := Option.some.inj (hv114_0.symm.trans hx114_0)
                          rw [hv114_0] at ge114_0
                          have HL114_0 := Aside0.mk (show Kd.R (Kd.int .i64) 3 _ _ _ _ (rd_L1 t109 0) from ge114_0)
                          clear hv114_0 ge114_0
                          clear hcc114 hce114
                          have qi114 : (0 < t109.length) = True := eq_true (by omega)
                          (try rw [show ((0 : Int)).toNat = 0 from rfl] at hx114_0)
                          (try rw [Addr.add_zero'] at hx114_0)
                          have HR114_0 := Aside0.mk hi114_0
                          have HC114_0 := Aside0.mk hl114_0
                          clear hi114_0 hl114_0
                          replace p114 := eq_true p114
                          replace q114 := eq_true q114
                          have p115 : 0 ≤ (x23_1 : Int) := of_decide_eq_true (by first | (with_reducible assumption) | assumption)
                          have q115 : x23_1 < ((rd_L1 t109 0).length : Int) := of_decide_eq_true (by first | (with_reducible assumption) | assumption)
                          obtain ⟨ad115, e115, hx115_0⟩ := Kd.at_int (by repeat (first | (with_reducible exact HR114_0.out) | (with_reducible refine Kd.C_alloc ?_ _) | (with_reducible refine Kd.C_drewN ?_ _) | (with_reducible refine Kd.C_drew ?_) | exact HR114_0.out)) x23_1 p115 q115
                          cases e115
                          replace p115 := eq_true p115
                          replace q115 := eq_true q115
                          go_wp2
                          repeat (go_quiet (fail); try go_wp2)
                          go_meet
                          case rel => exact ⟨_, (false), (by first | rfl | (simp; done) | (simp [*]; done)), H', ⟨by have := HK1.out; have := HJ5.out; first | omega | exact Nat.le_refl _⟩, ⟨by (with_reducible repeat (first | apply Kd.R_alloc | apply Kd.R_drewN | apply Kd.R_drew)); exact HO_10.out⟩, ⟨by (with_reducible repeat (first | apply Kd.S_alloc | apply Kd.S_drewN | apply Kd.S_drew)); exact Kd.S_mono HO111.out (fun _ hk => ⟨hk.2, hk.1⟩)⟩, ⟨by (with_reducible repeat (first | apply Kd.S_alloc | apply Kd.S_drewN | apply Kd.S_drew)); exact Kd.S_mono HO113.out (fun _ hk => ⟨hk.2, hk.1⟩)⟩, ⟨by repeat (first | (with_reducible first | exact HB.out | apply below_alloc | apply pw_below_drewN | apply below_drew1) | exact HB.out)⟩⟩
                    · rw [if_neg c13] at H
                      exact absurd H (by simp)
                  · rw [if_neg c12] at H
                    exact absurd H (by simp)
                · rw [if_neg c11] at H
                  exact absurd H (by simp)
              case rest =>
                clear HC9
                try clear c1
                try clear p1
                try clear q1
                try clear hx1
                try clear qi1
                try clear p2
                try clear c3
                try clear c3b0
                try clear c3b1
                try clear c4
                try clear c4b0
                try clear c6
                try clear c7
                try clear c10
                try clear p10
                try clear q10
                try clear hx10
                try clear qi10
                try clear c11
                try clear c11b0
                try clear c11b1
                try clear p11
                try clear q11
                try clear hx11
                try clear qi11
                try clear c12
                try clear c12b0
                try clear c13
                try clear c13b0
                try clear c14
                try clear c14b0
                try clear c14b1
                try clear c16
                try clear c16b0
                try clear c17
                try clear c17b0
                try clear c17b1
                try clear c18
                try clear c18b0
                try clear hx106_0
                try clear hx114_0
                try clear hx115_0
                try clear hx116_0
                try clear hx117_0
                try clear p1
                try clear p106
                try clear p114
                try clear p115
                try clear p116
                try clear p117
                try clear p2
                try clear q1
                try clear q106
                try clear q114
                try clear q115
                try clear q116
                try clear q117
                obtain ⟨kq, x57_8, rfl, HA, HJ8, HO_10, HO_13, HO_14, HB⟩ := hcut
                cases kq with
                | zero => exact absurd HA.out (by simp [impl_bestPaint.j2])
                | succ kj8 =>
                  have H := HA.out
                  clear HA
                  simp only [impl_bestPaint.j2] at H
                  by_cases c22 : x57_8 = true
                  · subst c22
                    have H1 : (impl_bestPaint.l0 kj8 l0 a1 x8_1 x9_1 x10_1 ((rd_L1 l0 0).length : Int) (wrap64 (x23_1 + 1))) = some (r1, r2, r3, r4) := by rw [if_pos rfl] at H; exact H
                    clear H
                    have H := H1
                    clear H1
                    have H' := Aside0.mk H
                    clear H
                    go_wp2
                    repeat (go_quiet (fail); try go_wp2)
                    go_roundg kj8
                    case measure => have := HK1.out; have := HJ5.out; have := HJ8.out; omega
                    case rel => exact ⟨(x8_1), (x9_1), (x10_1), (wrap64 (x23_1 + 1)), (by first | rfl | (simp; done) | (simp [*]; done)), (by first | rfl | (simp; done) | (simp [*]; done)), (by first | rfl | (simp; done) | (simp [*]; done)), H', ⟨by have := HK1.out; have := HJ5.out; have := HJ8.out; omega⟩, ⟨by (with_reducible repeat (first | apply Kd.R_alloc | apply Kd.R_drewN | apply Kd.R_drew)); exact HO_10.out⟩, ⟨by repeat (first | (with_reducible first | exact HB.out | apply below_alloc | apply pw_below_drewN | apply below_drew1) | exact HB.out)⟩⟩
                  · replace c22 := Bool.eq_false_iff.mpr c22
                    subst c22
                    have H1 : (if x9_1 > 0 then (if 0 < (t108.length : Int) then (if 0 ≤ x23_1 then (if x23_1 < ((rd_L1 t108 0).length : Int) then (impl_bestPaint.j3 kj8 l0 a1 x8_1 x9_1 x10_1 x23_1 t108 t109 ((rd_L1 l0 0).length : Int) x23_1 ((rd (rd_L1 t108 0) x23_1) == x8_1)) else (none)) else (none)) else (none)) else (impl_bestPaint.j3 kj8 l0 a1 x8_1 x9_1 x10_1 x23_1 t108 t109 ((rd_L1 l0 0).length : Int) x23_1 false)) = some (r1, r2, r3, r4) := by rw [if_neg (show ¬ (false = true) by decide)] at H; exact H
                    clear H
                    have H := H1
                    clear H1
                    have HC23 := Aside0.mk H
                    clear H
                    go_upto_region 11 with (fail)
                    repeat (go_quiet (fail); go_upto_region 11 with (fail))
                    go_cut [69] (fun v69 wc => ∃ (kq : Nat) (x69_22 : Bool), v69 = .bool x69_22 ∧ Aside0 (impl_bestPaint.j3 kq l0 a1 x8_1 x9_1 x10_1 x23_1 t108 t109 ((rd_L1 l0 0).length : Int) x23_1 x69_22 = some (r1, r2, r3, r4)) ∧ Aside0 (kq ≤ kj8) ∧ Aside0 (Kd.R (Kd.int .i64) 3 wc w.heap.size (fun _ => True) u10 x10_1) ∧ Aside0 (Kd.S (Kd.slice 3 (Kd.int .i64)) 29 wc w.heap.size (fun k_ => some k_ ≠ (u10 : Value).ownBlock ∧ some k_ ≠ (v112 : Value).ownBlock) v110 t108) ∧ Aside0 (Kd.S (Kd.slice 3 (Kd.int .i64)) 29 wc w.heap.size (fun k_ => some k_ ≠ (u10 : Value).ownBlock ∧ some k_ ≠ (v110 : Value).ownBlock) v112 t109) ∧ Aside0 (Below w.heap.size w wc))
                    case first =>
                      have H := HC23.out
                      clear HC23
                      by_cases c24 : x9_1 > 0
                      · rw [if_pos c24] at H
                        have c24b0 : decide (0 < x9_1) = true := decide_eq_true c24
                        clear c24
                        (first | rw [c24b0] | (simp only [i64_w, i32_w]; rw [c24b0]) | skip)
                        by_cases c25 : 0 < (t108.length : Int)
                        · rw [if_pos c25] at H
                          have c25b0 : decide (0 < (t108.length : Int)) = true := decide_eq_true c25
                          have c25b1 : decide (0 < t108.length) = true := decide_eq_true (by omega)
                          clear c25
                          by_cases c26 : 0 ≤ x23_1
                          · rw [if_pos c26] at H
                            have c26b0 : decide (0 ≤ x23_1) = true := decide_eq_true c26
                            clear c26
                            by_cases c27 : x23_1 < ((rd_L1 t108 0).length : Int)
                            · rw [if_pos c27] at H
                              have c27b0 : decide (x23_1 < ((rd_L1 t108 0).length : Int)) = true := decide_eq_true c27
                              clear c27
                              have H' := Aside0.mk H
                              clear H
                              obtain ⟨Ao28, co28, eo28⟩ := Kd.S_slice HO_13.out
                              subst eo28
                              have p118 : 0 ≤ (0 : Int) := (by omega)
                              have q118 : 0 < (t108.length : Int) := of_decide_eq_true (by first | (with_reducible assumption) | assumption)
                              obtain ⟨ad118, A118_0, c118_0, e118, hx118_0, hl118_0, hi118_0⟩ := at_L1 (Kd.S_reads' HO_13.out).2.2 0 p118 q118
                              cases e118
                              obtain ⟨ce118, hce118, hMe118, hcc118⟩ := Kd.S_get HO_13.out [] 0 p118 (by first | exact q118 | exact of_decide_eq_true (by first | (with_reducible assumption) | assumption) | (have e_ := (Kd.S_reads' HO_13.out).1; omega))
                              obtain ⟨ve118_0, rfl, ge118_0⟩ := hMe118
                              have hv118_0 := hcc118 0 _ rfl
                              rw [Nat.add_zero, show ((Kd.slice 3 (Kd.int .i64))).sz = 1 from rfl, Nat.mul_one] at hv118_0
                              replace hv118_0 := Option.some.inj (hv118_0.symm.trans hx118_0)
                              rw [hv118_0] at ge118_0
                              have HL118_0 := Aside0.mk (show Kd.R (Kd.int .i64) 3 _ _ _ _ (rd_L1 t108 0) from ge118_0)
                              clear hv118_0 ge118_0
                              clear hcc118 hce118
                              have qi118 : (0 < t108.length) = True := eq_true (by omega)
                              (try rw [show ((0 : Int)).toNat = 0 from rfl] at hx118_0)
                              (try rw [Addr.add_zero'] at hx118_0)
                              have HR118_0 := Aside0.mk hi118_0
                              have HC118_0 := Aside0.mk hl118_0
                              clear hi118_0 hl118_0
                              replace p118 := eq_true p118
                              replace q118 := eq_true q118
                              have p119 : 0 ≤ (x23_1 : Int) := of_decide_eq_true (by first | (with_reducible assumption) | assumption)
                              have q119 : x23_1 < ((rd_L1 t108 0).length : Int) := of_decide_eq_true (by first | (with_reducible assumption) | assumption)
                              obtain ⟨ad119, e119, hx119_0⟩ := Kd.at_int (by repeat (first | (with_reducible exact HR118_0.out) | (with_reducible refine Kd.C_alloc ?_ _) | (with_reducible refine Kd.C_drewN ?_ _) | (with_reducible refine Kd.C_drew ?_) | exact HR118_0.out)) x23_1 p119 q119
                              cases e119
                              replace p119 := eq_true p119
                              replace q119 := eq_true q119
                              go_wp2
                              repeat (go_quiet (fail); try go_wp2)
                              go_meet
                              case rel => exact ⟨_, (((rd (rd_L1 t108 0) x23_1) == x8_1)), (by first | rfl | (simp; done) | (simp [*]; done)), H', ⟨by have := HK1.out; have := HJ5.out; have := HJ8.out; first | omega | exact Nat.le_refl _⟩, ⟨by (with_reducible repeat (first | apply Kd.R_alloc | apply Kd.R_drewN | apply Kd.R_drew)); exact HO_10.out⟩, ⟨by (with_reducible repeat (first | apply Kd.S_alloc | apply Kd.S_drewN | apply Kd.S_drew)); exact HO_13.out⟩, ⟨by (with_reducible repeat (first | apply Kd.S_alloc | apply Kd.S_drewN | apply Kd.S_drew)); exact HO_14.out⟩, ⟨by repeat (first | (with_reducible first | exact HB.out | apply below_alloc | apply pw_below_drewN | apply below_drew1) | exact HB.out)⟩⟩
                            · rw [if_neg c27] at H
                              exact absurd H (by simp)
                          · rw [if_neg c26] at H
                            exact absurd H (by simp)
                        · rw [if_neg c25] at H
                          exact absurd H (by simp)
                      · rw [if_neg c24] at H
                        have c24b0 : decide (0 < x9_1) = false := decide_eq_false c24
                        clear c24
                        (first | rw [c24b0] | (simp only [i64_w, i32_w]; rw [c24b0]) | skip)
                        have H' := Aside0.mk H
                        clear H
                        go_wp2
                        repeat (go_quiet (fail); try go_wp2)
                        go_meet
                        case rel => exact ⟨_, (false), (by first | rfl | (simp; done) | (simp [*]; done)), H', ⟨by have := HK1.out; have := HJ5.out; have := HJ8.out; first | omega | exact Nat.le_refl _⟩, ⟨by (with_reducible repeat (first | apply Kd.R_alloc | apply Kd.R_drewN | apply Kd.R_drew)); exact HO_10.out⟩, ⟨by (with_reducible repeat (first | apply Kd.S_alloc | apply Kd.S_drewN | apply Kd.S_drew)); exact HO_13.out⟩, ⟨by (with_reducible repeat (first | apply Kd.S_alloc | apply Kd.S_drewN | apply Kd.S_drew)); exact HO_14.out⟩, ⟨by repeat (first | (with_reducible first | exact HB.out | apply below_alloc | apply pw_below_drewN | apply below_drew1) | exact HB.out)⟩⟩
                    case rest =>
                      clear HC23
                      try clear c1
                      try clear p1
                      try clear q1
                      try clear hx1
                      try clear qi1
                      try clear c2
                      try clear p2
                      try clear c3
                      try clear c3b0
                      try clear c3b1
                      try clear c4
                      try clear c4b0
                      try clear c6
                      try clear p6
                      try clear c7
                      try clear c10
                      try clear p10
                      try clear q10
                      try clear hx10
                      try clear qi10
                      try clear c11
                      try clear c11b0
                      try clear c11b1
                      try clear p11
                      try clear q11
                      try clear hx11
                      try clear qi11
                      try clear c12
                      try clear c12b0
                      try clear c13
                      try clear c13b0
                      try clear c14
                      try clear c14b0
                      try clear c14b1
                      try clear c16
                      try clear c16b0
                      try clear c17
                      try clear c17b0
                      try clear c17b1
                      try clear c18
                      try clear c18b0
                      try clear c22
                      try clear c24
                      try clear c24b0
                      try clear c25
                      try clear c25b0
                      try clear c25b1
                      try clear c26
                      try clear c26b0
                      try clear c27
                      try clear c27b0
                      try clear hx106_0
                      try clear hx114_0
                      try clear hx115_0
                      try clear hx116_0
                      try clear hx117_0
                      try clear hx118_0
                      try clear hx119_0
                      try clear p1
                      try clear p10
                      try clear p106
                      try clear p11
                      try clear p114
                      try clear p115
                      try clear p116
                      try clear p117
                      try clear p118
                      try clear p119
                      try clear p2
                      try clear q1
                      try clear q10
                      try clear q106
                      try clear q11
                      try clear q114
                      try clear q115
                      try clear q116
                      try clear q117
                      try clear q118
                      try clear q119
                      obtain ⟨kq, x69_22, rfl, HA, HJ22, HO_10, HO_13, HO_14, HB⟩ := hcut
                      cases kq with
                      | zero => exact absurd HA.out (by simp [impl_bestPaint.j3])
                      | succ kj22 =>
                        have H := HA.out
                        clear HA
                        simp only [impl_bestPaint.j3] at H
                        by_cases c29 : x69_22 = true
                        · subst c29
                          have H1 : (if 0 < (t109.length : Int) then (if 0 ≤ x23_1 then (if x23_1 < ((rd_L1 t109 0).length : Int) then (impl_bestPaint.l0 kj22 l0 a1 x8_1 (wrap64 (x9_1 + (rd (rd_L1 t109 0) x23_1))) x10_1 ((rd_L1 l0 0).length : Int) (wrap64 (x23_1 + 1))) else (none)) else (none)) else (none)) = some (r1, r2, r3, r4) := by rw [if_pos rfl] at H; exact H
                          clear H
                          have H := H1
                          clear H1
                          by_cases c30 : 0 < (t109.length : Int)
                          · rw [if_pos c30] at H
                            have c30b0 : decide (0 < (t109.length : Int)) = true := decide_eq_true c30
                            have c30b1 : decide (0 < t109.length) = true := decide_eq_true (by omega)
                            clear c30
                            by_cases c31 : 0 ≤ x23_1
                            · rw [if_pos c31] at H
                              have c31b0 : decide (0 ≤ x23_1) = true := decide_eq_true c31
                              clear c31
                              by_cases c32 : x23_1 < ((rd_L1 t109 0).length : Int)
                              · rw [if_pos c32] at H
                                have c32b0 : decide (x23_1 < ((rd_L1 t109 0).length : Int)) = true := decide_eq_true c32
                                clear c32
                                have H' := Aside0.mk H
                                clear H
                                obtain ⟨Ao33, co33, eo33⟩ := Kd.S_slice HO_14.out
                                subst eo33
                                have p120 : 0 ≤ (0 : Int) := (by omega)
                                have q120 : 0 < (t109.length : Int) := of_decide_eq_true (by first | (with_reducible assumption) | assumption)
                                obtain ⟨ad120, A120_0, c120_0, e120, hx120_0, hl120_0, hi120_0⟩ := at_L1 (Kd.S_reads' HO_14.out).2.2 0 p120 q120
                                cases e120
                                obtain ⟨ce120, hce120, hMe120, hcc120⟩ := Kd.S_get HO_14.out [] 0 p120 (by first | exact q120 | exact of_decide_eq_true (by first | (with_reducible assumption) | assumption) | (have e_ := (Kd.S_reads' HO_14.out).1; omega))
                                obtain ⟨ve120_0, rfl, ge120_0⟩ := hMe120
                                have hv120_0 := hcc120 0 _ rfl
                                rw [Nat.add_zero, show ((Kd.slice 3 (Kd.int .i64))).sz = 1 from rfl, Nat.mul_one] at hv120_0
                                replace hv120_0 := Option.some.inj (hv120_0.symm.trans hx120_0)
                                rw [hv120_0] at ge120_0
                                have HL120_0 := Aside0.mk (show Kd.R (Kd.int .i64) 3 _ _ _ _ (rd_L1 t109 0) from ge120_0)
                                clear hv120_0 ge120_0
                                clear hcc120 hce120
                                have qi120 : (0 < t109.length) = True := eq_true (by omega)
                                (try rw [show ((0 : Int)).toNat = 0 from rfl] at hx120_0)
                                (try rw [Addr.add_zero'] at hx120_0)
                                have HR120_0 := Aside0.mk hi120_0
                                have HC120_0 := Aside0.mk hl120_0
                                clear hi120_0 hl120_0
                                replace p120 := eq_true p120
                                replace q120 := eq_true q120
                                have p121 : 0 ≤ (x23_1 : Int) := of_decide_eq_true (by first | (with_reducible assumption) | assumption)
                                have q121 : x23_1 < ((rd_L1 t109 0).length : Int) := of_decide_eq_true (by first | (with_reducible assumption) | assumption)
                                obtain ⟨ad121, e121, hx121_0⟩ := Kd.at_int (by repeat (first | (with_reducible exact HR120_0.out) | (with_reducible refine Kd.C_alloc ?_ _) | (with_reducible refine Kd.C_drewN ?_ _) | (with_reducible refine Kd.C_drew ?_) | exact HR120_0.out)) x23_1 p121 q121
                                cases e121
                                replace p121 := eq_true p121
                                replace q121 := eq_true q121
                                go_wp2
                                repeat (go_quiet (fail); try go_wp2)
                                go_roundg kj22
                                case measure => have := HK1.out; have := HJ5.out; have := HJ8.out; have := HJ22.out; omega
                                case rel => exact ⟨(x8_1), (wrap64 (x9_1 + (rd (rd_L1 t109 0) x23_1))), (x10_1), (wrap64 (x23_1 + 1)), (by first | rfl | (simp; done) | (simp [*]; done)), (by first | rfl | (simp; done) | (simp [*]; done)), (by first | rfl | (simp; done) | (simp [*]; done)), H', ⟨by have := HK1.out; have := HJ5.out; have := HJ8.out; have := HJ22.out; omega⟩, ⟨by (with_reducible repeat (first | apply Kd.R_alloc | apply Kd.R_drewN | apply Kd.R_drew)); exact HO_10.out⟩, ⟨by repeat (first | (with_reducible first | exact HB.out | apply below_alloc | apply pw_below_drewN | apply below_drew1) | exact HB.out)⟩⟩
                              · rw [if_neg c32] at H
                                exact absurd H (by simp)
                            · rw [if_neg c31] at H
                              exact absurd H (by simp)
                          · rw [if_neg c30] at H
                            exact absurd H (by simp)
                        · replace c29 := Bool.eq_false_iff.mpr c29
                          subst c29
                          have H1 : (if 0 < (t108.length : Int) then (if 0 ≤ x23_1 then (if x23_1 < ((rd_L1 t108 0).length : Int) then (if 0 < (t109.length : Int) then (if x23_1 < ((rd_L1 t109 0).length : Int) then (impl_bestPaint.l1 kj22 l0 a1 (rd (rd_L1 t108 0) x23_1) (rd (rd_L1 t109 0) x23_1) (([x23_1] : List Int)) t108 t109 1 ((rd_L1 l0 0).length : Int) x23_1) else (none)) else (none)) else (none)) else (none)) else (none)) = some (r1, r2, r3, r4) := by rw [if_neg (show ¬ (false = true) by decide)] at H; exact H
                          clear H
                          have H := H1
                          clear H1
                          by_cases c34 : 0 < (t108.length : Int)
                          · rw [if_pos c34] at H
                            have c34b0 : decide (0 < (t108.length : Int)) = true := decide_eq_true c34
                            have c34b1 : decide (0 < t108.length) = true := decide_eq_true (by omega)
                            clear c34
                            by_cases c35 : 0 ≤ x23_1
                            · rw [if_pos c35] at H
                              have c35b0 : decide (0 ≤ x23_1) = true := decide_eq_true c35
                              clear c35
                              by_cases c36 : x23_1 < ((rd_L1 t108 0).length : Int)
                              · rw [if_pos c36] at H
                                have c36b0 : decide (x23_1 < ((rd_L1 t108 0).length : Int)) = true := decide_eq_true c36
                                clear c36
                                by_cases c37 : 0 < (t109.length : Int)
                                · rw [if_pos c37] at H
                                  have c37b0 : decide (0 < (t109.length : Int)) = true := decide_eq_true c37
                                  have c37b1 : decide (0 < t109.length) = true := decide_eq_true (by omega)
                                  clear c37
                                  by_cases c38 : x23_1 < ((rd_L1 t109 0).length : Int)
                                  · rw [if_pos c38] at H
                                    have c38b0 : decide (x23_1 < ((rd_L1 t109 0).length : Int)) = true := decide_eq_true c38
                                    clear c38
                                    obtain ⟨y126, hy126⟩ : ∃ y_ : List Int, y_ = (([x23_1] : List Int)) := ⟨_, rfl⟩
                                    replace H : (impl_bestPaint.l1 kj22 l0 a1 (rd (rd_L1 t108 0) x23_1) (rd (rd_L1 t109 0) x23_1) y126 t108 t109 1 ((rd_L1 l0 0).length : Int) x23_1) = some (r1, r2, r3, r4) := by first | (rw [hy126]; with_reducible exact H) | (have H2_ := (Option.bind_some _ _).symm.trans H; rw [hy126]; with_reducible exact H2_) | (have H2_ := (Option.bind_some _ _).symm.trans H; with_reducible exact H2_) | with_reducible exact H | (rw [hy126]; exact H) | exact H
                                    have Ny126 := Aside0.mk hy126
                                    clear hy126
                                    have H' := Aside0.mk H
                                    clear H
                                    obtain ⟨Ao39, co39, eo39⟩ := Kd.S_slice HO_13.out
                                    subst eo39
                                    have p122 : 0 ≤ (0 : Int) := (by omega)
                                    have q122 : 0 < (t108.length : Int) := of_decide_eq_true (by first | (with_reducible assumption) | assumption)
                                    obtain ⟨ad122, A122_0, c122_0, e122, hx122_0, hl122_0, hi122_0⟩ := at_L1 (Kd.S_reads' HO_13.out).2.2 0 p122 q122
                                    cases e122
                                    obtain ⟨ce122, hce122, hMe122, hcc122⟩ := Kd.S_get HO_13.out [] 0 p122 (by first | exact q122 | exact of_decide_eq_true (by first | (with_reducible assumption) | assumption) | (have e_ := (Kd.S_reads' HO_13.out).1; omega))
                                    obtain ⟨ve122_0, rfl, ge122_0⟩ := hMe122
                                    have hv122_0 := hcc122 0 _ rfl
                                    rw [Nat.add_zero, show ((Kd.slice 3 (Kd.int .i64))).sz = 1 from rfl, Nat.mul_one] at hv122_0
                                    replace hv122_0 := Option.some.inj (hv122_0.symm.trans hx122_0)
                                    rw [hv122_0] at ge122_0
                                    have HL122_0 := Aside0.mk (show Kd.R (Kd.int .i64) 3 _ _ _ _ (rd_L1 t108 0) from ge122_0)
                                    clear hv122_0 ge122_0
                                    clear hcc122 hce122
                                    have qi122 : (0 < t108.length) = True := eq_true (by omega)
                                    (try rw [show ((0 : Int)).toNat = 0 from rfl] at hx122_0)
                                    (try rw [Addr.add_zero'] at hx122_0)
                                    have HR122_0 := Aside0.mk hi122_0
                                    have HC122_0 := Aside0.mk hl122_0
                                    clear hi122_0 hl122_0
                                    replace p122 := eq_true p122
                                    replace q122 := eq_true q122
                                    have p123 : 0 ≤ (x23_1 : Int) := of_decide_eq_true (by first | (with_reducible assumption) | assumption)
                                    have q123 : x23_1 < ((rd_L1 t108 0).length : Int) := of_decide_eq_true (by first | (with_reducible assumption) | assumption)
                                    obtain ⟨ad123, e123, hx123_0⟩ := Kd.at_int (by repeat (first | (with_reducible exact HR122_0.out) | (with_reducible refine Kd.C_alloc ?_ _) | (with_reducible refine Kd.C_drewN ?_ _) | (with_reducible refine Kd.C_drew ?_) | exact HR122_0.out)) x23_1 p123 q123
                                    cases e123
                                    replace p123 := eq_true p123
                                    replace q123 := eq_true q123
                                    obtain ⟨Ao40, co40, eo40⟩ := Kd.S_slice HO_14.out
                                    subst eo40
                                    have p124 : 0 ≤ (0 : Int) := (by omega)
                                    have q124 : 0 < (t109.length : Int) := of_decide_eq_true (by first | (with_reducible assumption) | assumption)
                                    obtain ⟨ad124, A124_0, c124_0, e124, hx124_0, hl124_0, hi124_0⟩ := at_L1 (Kd.S_reads' HO_14.out).2.2 0 p124 q124
                                    cases e124
                                    obtain ⟨ce124, hce124, hMe124, hcc124⟩ := Kd.S_get HO_14.out [] 0 p124 (by first | exact q124 | exact of_decide_eq_true (by first | (with_reducible assumption) | assumption) | (have e_ := (Kd.S_reads' HO_14.out).1; omega))
                                    obtain ⟨ve124_0, rfl, ge124_0⟩ := hMe124
                                    have hv124_0 := hcc124 0 _ rfl
                                    rw [Nat.add_zero, show ((Kd.slice 3 (Kd.int .i64))).sz = 1 from rfl, Nat.mul_one] at hv124_0
                                    replace hv124_0 := Option.some.inj (hv124_0.symm.trans hx124_0)
                                    rw [hv124_0] at ge124_0
                                    have HL124_0 := Aside0.mk (show Kd.R (Kd.int .i64) 3 _ _ _ _ (rd_L1 t109 0) from ge124_0)
                                    clear hv124_0 ge124_0
                                    clear hcc124 hce124
                                    have qi124 : (0 < t109.length) = True := eq_true (by omega)
                                    (try rw [show ((0 : Int)).toNat = 0 from rfl] at hx124_0)
                                    (try rw [Addr.add_zero'] at hx124_0)
                                    have HR124_0 := Aside0.mk hi124_0
                                    have HC124_0 := Aside0.mk hl124_0
                                    clear hi124_0 hl124_0
                                    replace p124 := eq_true p124
                                    replace q124 := eq_true q124
                                    have p125 : 0 ≤ (x23_1 : Int) := of_decide_eq_true (by first | (with_reducible assumption) | assumption)
                                    have q125 : x23_1 < ((rd_L1 t109 0).length : Int) := of_decide_eq_true (by first | (with_reducible assumption) | assumption)
                                    obtain ⟨ad125, e125, hx125_0⟩ := Kd.at_int (by repeat (first | (with_reducible exact HR124_0.out) | (with_reducible refine Kd.C_alloc ?_ _) | (with_reducible refine Kd.C_drewN ?_ _) | (with_reducible refine Kd.C_drew ?_) | exact HR124_0.out)) x23_1 p125 q125
                                    cases e125
                                    replace p125 := eq_true p125
                                    replace q125 := eq_true q125
                                    go_wp2_with (first | ((with_reducible refine gate_dst (N := 91) rfl ?_); refine Kd.R_lit (Kd.int .i64) _ 3 ?hg (N := 91) ?hd (xs := ([x23_1] : List Int)) (inner := [.int .i64 x23_1]) (ok := fun _ => True) (okp := fun _ => True) ?hr ?hp (fun _ hk => hk) trivial (Below.refl _ _) (Nat.le_refl _) (by simp) ?_; (case hd => rfl); (case hg => rfl); (case hr => first | (go_simp; done) | (go_simp; rfl)); (case hp => exact (Reps.one (show Kd.M (Kd.int .i64) _ _ _ x23_1 [.int .i64 x23_1] from rfl) (Reps.none _ _))); intro v127 w41 ho42 hb hg_ hnew_; clear hg_ hnew_; (first | rw [← Ny126.out] at ho42 | (simp only [Int.reduceToNat] at ho42; rw [← Ny126.out] at ho42)); have n0_ := Aside0.mk (Kd.R_elder' (by (with_reducible repeat (first | apply Kd.R_alloc | apply Kd.R_drewN | apply Kd.R_drew)); exact HO_10.out) (Kd.R_base ho42) hb); have n1_ := Aside0.mk (Kd.S_elder' (by (with_reducible repeat (first | apply Kd.S_alloc | apply Kd.S_drewN | apply Kd.S_drew)); exact HO_13.out) (Kd.R_base ho42) hb); have n2_ := Aside0.mk (Kd.S_elder' (by (with_reducible repeat (first | apply Kd.S_alloc | apply Kd.S_drewN | apply Kd.S_drew)); exact HO_14.out) (Kd.R_base ho42) hb); have n3_ := Aside0.mk (Kd.R_elder' (by (with_reducible repeat (first | apply Kd.R_alloc | apply Kd.R_drewN | apply Kd.R_drew)); exact HL122_0.out) (Kd.R_base ho42) hb); have n4_ := Aside0.mk (Kd.R_elder' (by (with_reducible repeat (first | apply Kd.R_alloc | apply Kd.R_drewN | apply Kd.R_drew)); exact HL124_0.out) (Kd.R_base ho42) hb); have n5_ := Aside0.mk (Kd.R_lower (Kd.R_new' (Kd.R_new' (Kd.R_new' ho42 (Kd.R_lt (by (with_reducible repeat (first | apply Kd.R_alloc | apply Kd.R_drewN | apply Kd.R_drew)); exact HO_10.out))) (Kd.R_lt (by (with_reducible repeat (first | apply Kd.R_alloc | apply Kd.R_drewN | apply Kd.R_drew)); exact HL122_0.out))) (Kd.R_lt (by (with_reducible repeat (first | apply Kd.R_alloc | apply Kd.R_drewN | apply Kd.R_drew)); exact HL124_0.out))) (below_size (by repeat (first | (with_reducible first | exact HB.out | apply below_alloc | apply pw_below_drewN | apply below_drew1) | exact HB.out)))); have n6_ := Aside0.mk (Kd.C_below (by repeat (first | (with_reducible exact HR122_0.out) | (with_reducible refine Kd.C_alloc ?_ _) | (with_reducible refine Kd.C_drewN ?_ _) | (with_reducible refine Kd.C_drew ?_) | exact HR122_0.out)) hb); have n7_ := Aside0.mk (Kd.C_below (by repeat (first | (with_reducible exact HR124_0.out) | (with_reducible refine Kd.C_alloc ?_ _) | (with_reducible refine Kd.C_drewN ?_ _) | (with_reducible refine Kd.C_drew ?_) | exact HR124_0.out)) hb); have n8_ := Aside0.mk (below_step (by repeat (first | (with_reducible first | exact HB.out | apply below_alloc | apply pw_below_drewN | apply below_drew1) | exact HB.out)) hb); clear HO_10; clear HO_13; clear HO_14; clear HL122_0; clear HL124_0; clear HR122_0; clear HR124_0; clear HB; have HO_10 := n0_; have HO_13 := n1_; have HO_14 := n2_; have HL122_0 := n3_; have HL124_0 := n4_; have HO128 := n5_; have HR122_0 := n6_; have HR124_0 := n7_; have HB := n8_; clear n0_ n1_ n2_ n3_ n4_ n5_ n6_ n7_ n8_; clear hb ho42))
                                    repeat (go_quiet (first | ((with_reducible refine gate_dst (N := 91) rfl ?_); refine Kd.R_lit (Kd.int .i64) _ 3 ?hg (N := 91) ?hd (xs := ([x23_1] : List Int)) (inner := [.int .i64 x23_1]) (ok := fun _ => True) (okp := fun _ => True) ?hr ?hp (fun _ hk => hk) trivial (Below.refl _ _) (Nat.le_refl _) (by simp) ?_; (case hd => rfl); (case hg => rfl); (case hr => first | (go_simp; done) | (go_simp; rfl)); (case hp => exact (Reps.one (show Kd.M (Kd.int .i64) _ _ _ x23_1 [.int .i64 x23_1] from rfl) (Reps.none _ _))); intro v127 w41 ho42 hb hg_ hnew_; clear hg_ hnew_; (first | rw [← Ny126.out] at ho42 | (simp only [Int.reduceToNat] at ho42; rw [← Ny126.out] at ho42)); have n0_ := Aside0.mk (Kd.R_elder' (by (with_reducible repeat (first | apply Kd.R_alloc | apply Kd.R_drewN | apply Kd.R_drew)); exact HO_10.out) (Kd.R_base ho42) hb); have n1_ := Aside0.mk (Kd.S_elder' (by (with_reducible repeat (first | apply Kd.S_alloc | apply Kd.S_drewN | apply Kd.S_drew)); exact HO_13.out) (Kd.R_base ho42) hb); have n2_ := Aside0.mk (Kd.S_elder' (by (with_reducible repeat (first | apply Kd.S_alloc | apply Kd.S_drewN | apply Kd.S_drew)); exact HO_14.out) (Kd.R_base ho42) hb); have n3_ := Aside0.mk (Kd.R_elder' (by (with_reducible repeat (first | apply Kd.R_alloc | apply Kd.R_drewN | apply Kd.R_drew)); exact HL122_0.out) (Kd.R_base ho42) hb); have n4_ := Aside0.mk (Kd.R_elder' (by (with_reducible repeat (first | apply Kd.R_alloc | apply Kd.R_drewN | apply Kd.R_drew)); exact HL124_0.out) (Kd.R_base ho42) hb); have n5_ := Aside0.mk (Kd.R_lower (Kd.R_new' (Kd.R_new' (Kd.R_new' ho42 (Kd.R_lt (by (with_reducible repeat (first | apply Kd.R_alloc | apply Kd.R_drewN | apply Kd.R_drew)); exact HO_10.out))) (Kd.R_lt (by (with_reducible repeat (first | apply Kd.R_alloc | apply Kd.R_drewN | apply Kd.R_drew)); exact HL122_0.out))) (Kd.R_lt (by (with_reducible repeat (first | apply Kd.R_alloc | apply Kd.R_drewN | apply Kd.R_drew)); exact HL124_0.out))) (below_size (by repeat (first | (with_reducible first | exact HB.out | apply below_alloc | apply pw_below_drewN | apply below_drew1) | exact HB.out)))); have n6_ := Aside0.mk (Kd.C_below (by repeat (first | (with_reducible exact HR122_0.out) | (with_reducible refine Kd.C_alloc ?_ _) | (with_reducible refine Kd.C_drewN ?_ _) | (with_reducible refine Kd.C_drew ?_) | exact HR122_0.out)) hb); have n7_ := Aside0.mk (Kd.C_below (by repeat (first | (with_reducible exact HR124_0.out) | (with_reducible refine Kd.C_alloc ?_ _) | (with_reducible refine Kd.C_drewN ?_ _) | (with_reducible refine Kd.C_drew ?_) | exact HR124_0.out)) hb); have n8_ := Aside0.mk (below_step (by repeat (first | (with_reducible first | exact HB.out | apply below_alloc | apply pw_below_drewN | apply below_drew1) | exact HB.out)) hb); clear HO_10; clear HO_13; clear HO_14; clear HL122_0; clear HL124_0; clear HR122_0; clear HR124_0; clear HB; have HO_10 := n0_; have HO_13 := n1_; have HO_14 := n2_; have HL122_0 := n3_; have HL124_0 := n4_; have HO128 := n5_; have HR122_0 := n6_; have HR124_0 := n7_; have HB := n8_; clear n0_ n1_ n2_ n3_ n4_ n5_ n6_ n7_ n8_; clear hb ho42)); try go_wp2_with (first | ((with_reducible refine gate_dst (N := 91) rfl ?_); refine Kd.R_lit (Kd.int .i64) _ 3 ?hg (N := 91) ?hd (xs := ([x23_1] : List Int)) (inner := [.int .i64 x23_1]) (ok := fun _ => True) (okp := fun _ => True) ?hr ?hp (fun _ hk => hk) trivial (Below.refl _ _) (Nat.le_refl _) (by simp) ?_; (case hd => rfl); (case hg => rfl); (case hr => first | (go_simp; done) | (go_simp; rfl)); (case hp => exact (Reps.one (show Kd.M (Kd.int .i64) _ _ _ x23_1 [.int .i64 x23_1] from rfl) (Reps.none _ _))); intro v127 w41 ho42 hb hg_ hnew_; clear hg_ hnew_; (first | rw [← Ny126.out] at ho42 | (simp only [Int.reduceToNat] at ho42; rw [← Ny126.out] at ho42)); have n0_ := Aside0.mk (Kd.R_elder' (by (with_reducible repeat (first | apply Kd.R_alloc | apply Kd.R_drewN | apply Kd.R_drew)); exact HO_10.out) (Kd.R_base ho42) hb); have n1_ := Aside0.mk (Kd.S_elder' (by (with_reducible repeat (first | apply Kd.S_alloc | apply Kd.S_drewN | apply Kd.S_drew)); exact HO_13.out) (Kd.R_base ho42) hb); have n2_ := Aside0.mk (Kd.S_elder' (by (with_reducible repeat (first | apply Kd.S_alloc | apply Kd.S_drewN | apply Kd.S_drew)); exact HO_14.out) (Kd.R_base ho42) hb); have n3_ := Aside0.mk (Kd.R_elder' (by (with_reducible repeat (first | apply Kd.R_alloc | apply Kd.R_drewN | apply Kd.R_drew)); exact HL122_0.out) (Kd.R_base ho42) hb); have n4_ := Aside0.mk (Kd.R_elder' (by (with_reducible repeat (first | apply Kd.R_alloc | apply Kd.R_drewN | apply Kd.R_drew)); exact HL124_0.out) (Kd.R_base ho42) hb); have n5_ := Aside0.mk (Kd.R_lower (Kd.R_new' (Kd.R_new' (Kd.R_new' ho42 (Kd.R_lt (by (with_reducible repeat (first | apply Kd.R_alloc | apply Kd.R_drewN | apply Kd.R_drew)); exact HO_10.out))) (Kd.R_lt (by (with_reducible repeat (first | apply Kd.R_alloc | apply Kd.R_drewN | apply Kd.R_drew)); exact HL122_0.out))) (Kd.R_lt (by (with_reducible repeat (first | apply Kd.R_alloc | apply Kd.R_drewN | apply Kd.R_drew)); exact HL124_0.out))) (below_size (by repeat (first | (with_reducible first | exact HB.out | apply below_alloc | apply pw_below_drewN | apply below_drew1) | exact HB.out)))); have n6_ := Aside0.mk (Kd.C_below (by repeat (first | (with_reducible exact HR122_0.out) | (with_reducible refine Kd.C_alloc ?_ _) | (with_reducible refine Kd.C_drewN ?_ _) | (with_reducible refine Kd.C_drew ?_) | exact HR122_0.out)) hb); have n7_ := Aside0.mk (Kd.C_below (by repeat (first | (with_reducible exact HR124_0.out) | (with_reducible refine Kd.C_alloc ?_ _) | (with_reducible refine Kd.C_drewN ?_ _) | (with_reducible refine Kd.C_drew ?_) | exact HR124_0.out)) hb); have n8_ := Aside0.mk (below_step (by repeat (first | (with_reducible first | exact HB.out | apply below_alloc | apply pw_below_drewN | apply below_drew1) | exact HB.out)) hb); clear HO_10; clear HO_13; clear HO_14; clear HL122_0; clear HL124_0; clear HR122_0; clear HR124_0; clear HB; have HO_10 := n0_; have HO_13 := n1_; have HO_14 := n2_; have HL122_0 := n3_; have HL124_0 := n4_; have HO128 := n5_; have HR122_0 := n6_; have HR124_0 := n7_; have HB := n8_; clear n0_ n1_ n2_ n3_ n4_ n5_ n6_ n7_ n8_; clear hb ho42)))
                                    go_loopg [10, 15] kj22 (fun kq v10 v15 w' => ∃ (x10_5 : List Int) (x15_5 : Int), v15 = .int .i64 x15_5 ∧ Aside0 (impl_bestPaint.l1 kq l0 a1 (rd (rd_L1 t108 0) x23_1) (rd (rd_L1 t109 0) x23_1) x10_5 t108 t109 x15_5 ((rd_L1 l0 0).length : Int) x23_1 = some (r1, r2, r3, r4)) ∧ Aside0 (kq ≤ kj22) ∧ Aside0 (Kd.R (Kd.int .i64) 3 w' w.heap.size (fun _ => True) v10 x10_5) ∧ Aside0 (Kd.S (Kd.slice 3 (Kd.int .i64)) 29 w' w.heap.size (fun k_ => some k_ ≠ (v10 : Value).ownBlock ∧ some k_ ≠ ((.slice (some ad124) t109.length co40) : Value).ownBlock) (.slice (some ad122) t108.length co39) t108) ∧ Aside0 (Kd.S (Kd.slice 3 (Kd.int .i64)) 29 w' w.heap.size (fun k_ => some k_ ≠ (v10 : Value).ownBlock ∧ some k_ ≠ ((.slice (some ad122) t108.length co39) : Value).ownBlock) (.slice (some ad124) t109.length co40) t109) ∧ Aside0 (Below w.heap.size w w'))
                                    case atStart => exact ⟨(y126), (1), (by first | rfl | (simp; done) | (simp [*]; done)), H', ⟨Nat.le_refl _⟩, ⟨by (with_reducible repeat (first | apply Kd.R_alloc | apply Kd.R_drewN | apply Kd.R_drew)); exact Kd.R_mono HO128.out (fun _ hk => trivial)⟩, ⟨by (with_reducible repeat (first | apply Kd.S_alloc | apply Kd.S_drewN | apply Kd.S_drew)); exact Kd.S_mono HO_13.out (fun _ hk => ⟨hk.2, hk.1.2⟩)⟩, ⟨by (with_reducible repeat (first | apply Kd.S_alloc | apply Kd.S_drewN | apply Kd.S_drew)); exact Kd.S_mono HO_14.out (fun _ hk => ⟨hk.2, hk.1.2⟩)⟩, ⟨by repeat (first | (with_reducible first | exact HB.out | apply below_alloc | apply pw_below_drewN | apply below_drew1) | exact HB.out)⟩⟩
                                    case round =>
                                      clear H'
                                      try clear c1
                                      try clear p1
                                      try clear q1
                                      try clear hx1
                                      try clear qi1
                                      try clear c2
                                      try clear p2
                                      try clear c3
                                      try clear c3b0
                                      try clear c3b1
                                      try clear c4
                                      try clear c4b0
                                      try clear c6
                                      try clear p6
                                      try clear c7
                                      try clear c10
                                      try clear p10
                                      try clear q10
                                      try clear hx10
                                      try clear qi10
                                      try clear c11
                                      try clear c11b0
                                      try clear c11b1
                                      try clear p11
                                      try clear q11
                                      try clear hx11
                                      try clear qi11
                                      try clear c12
                                      try clear c12b0
                                      try clear p12
                                      try clear q12
                                      try clear hx12
                                      try clear qi12
                                      try clear c13
                                      try clear c13b0
                                      try clear c14
                                      try clear c14b0
                                      try clear c14b1
                                      try clear c16
                                      try clear c16b0
                                      try clear c17
                                      try clear c17b0
                                      try clear c17b1
                                      try clear c18
                                      try clear c18b0
                                      try clear c22
                                      try clear c24
                                      try clear c24b0
                                      try clear c25
                                      try clear c25b0
                                      try clear c25b1
                                      try clear c26
                                      try clear c26b0
                                      try clear c27
                                      try clear c27b0
                                      try clear c29
                                      try clear c30
                                      try clear c30b0
                                      try clear c30b1
                                      try clear c31
                                      try clear c31b0
                                      try clear c32
                                      try clear c32b0
                                      try clear c34
                                      try clear c34b0
                                      try clear c34b1
                                      try clear c35
                                      try clear c35b0
                                      try clear c36
                                      try clear c36b0
                                      try clear c37
                                      try clear c37b0
                                      try clear c37b1
                                      try clear c38
                                      try clear c38b0
                                      try clear hx106_0
                                      try clear hx114_0
                                      try clear hx115_0
                                      try clear hx116_0
                                      try clear hx117_0
                                      try clear hx118_0
                                      try clear hx119_0
                                      try clear hx120_0
                                      try clear hx121_0
                                      try clear hx122_0
                                      try clear hx123_0
                                      try clear hx124_0
                                      try clear hx125_0
                                      try clear p1
                                      try clear p10
                                      try clear p106
                                      try clear p11
                                      try clear p114
                                      try clear p115
                                      try clear p116
                                      try clear p117
                                      try clear p118
                                      try clear p119
                                      try clear p120
                                      try clear p121
                                      try clear p122
                                      try clear p123
                                      try clear p124
                                      try clear p125
                                      try clear p2
                                      try clear p6
                                      try clear q1
                                      try clear q10
                                      try clear q106
                                      try clear q11
                                      try clear q114
                                      try clear q115
                                      try clear q116
                                      try clear q117
                                      try clear q118
                                      try clear q119
                                      try clear q120
                                      try clear q121
                                      try clear q122
                                      try clear q123
                                      try clear q124
                                      try clear q125
                                      obtain ⟨x10_5, x15_5, rfl, HA, HK5, HO_10, HO_13, HO_14, HB⟩ := hrel
                                      cases gk with
                                      | zero => exact absurd HA.out (by simp [impl_bestPaint.l1])
                                      | succ k5 =>
                                        have H := HA.out
                                        clear HA
                                        simp only [impl_bestPaint.l1] at H
                                        by_cases c43 : x15_5 < (l0.length : Int)
                                        · rw [if_pos c43] at H
                                          have c43b0 : decide (x15_5 < (l0.length : Int)) = true := decide_eq_true c43
                                          clear c43
                                          obtain ⟨ji44, hji44⟩ : ∃ j_ : Int, (wrap64 (x15_5 - 1)) = j_ := ⟨_, rfl⟩
                                          replace H : (if 0 ≤ (ji44) then (if (ji44) < (x10_5.length : Int) then (if (ji44) < (t108.length : Int) then (if 0 ≤ (rd x10_5 (ji44)) then (if (rd x10_5 (ji44)) < ((rd_L1 t108 (ji44)).length : Int) then (if (ji44) < (l0.length : Int) then (if (rd x10_5 (ji44)) < ((rd_L1 l0 (ji44)).length : Int) then (if 0 ≤ x15_5 then (impl_bestPaint.l2 k5 l0 a1 (rd (rd_L1 t108 0) x23_1) (rd (rd_L1 t109 0) x23_1) x10_5 t108 t109 x15_5 (rd x10_5 (ji44)) (wrap64 ((rd (rd_L1 t108 (ji44)) (rd x10_5 (ji44))) - (rd (rd_L1 l0 (ji44)) (rd x10_5 (ji44))))) ((rd_L1 l0 0).length : Int) x23_1 ((rd_L1 l0 x15_5).length : Int) 0) else (none)) else (none)) else (none)) else (none)) else (none)) else (none)) else (none)) else (none)) = some (r1, r2, r3, r4) := by first | (rw [hji44] at H; exact H) | (simp only [hji44] at H ⊢; exact H)
                                          have hji44w : (IntKind.i64.wrap (x15_5 - 1)) = ji44 := (i64_w _).trans hji44
                                          by_cases c45 : 0 ≤ (ji44)
                                          · rw [if_pos c45] at H
                                            have c45b0 : decide (0 ≤ (ji44)) = true := decide_eq_true c45
                                            clear c45
                                            by_cases c46 : (ji44) < (x10_5.length : Int)
                                            · rw [if_pos c46] at H
                                              have c46b0 : decide ((ji44) < (x10_5.length : Int)) = true := decide_eq_true c46
                                              clear c46
                                              by_cases c47 : (ji44) < (t108.length : Int)
                                              · rw [if_pos c47] at H
                                                have c47b0 : decide ((ji44) < (t108.length : Int)) = true := decide_eq_true c47
                                                clear c47
                                                by_cases c48 : 0 ≤ (rd x10_5 (ji44))
                                                · rw [if_pos c48] at H
                                                  have c48b0 : decide (0 ≤ (rd x10_5 (ji44))) = true := decide_eq_true c48
                                                  clear c48
                                                  by_cases c49 : (rd x10_5 (ji44)) < ((rd_L1 t108 (ji44)).length : Int)
                                                  · rw [if_pos c49] at H
                                                    have c49b0 : decide ((rd x10_5 (ji44)) < ((rd_L1 t108 (ji44)).length : Int)) = true := decide_eq_true c49
                                                    clear c49
                                                    by_cases c50 : (ji44) < (l0.length : Int)
                                                    · rw [if_pos c50] at H
                                                      have c50b0 : decide ((ji44) < (l0.length : Int)) = true := decide_eq_true c50
                                                      clear c50
                                                      by_cases c51 : (rd x10_5 (ji44)) < ((rd_L1 l0 (ji44)).length : Int)
                                                      · rw [if_pos c51] at H
                                                        have c51b0 : decide ((rd x10_5 (ji44)) < ((rd_L1 l0 (ji44)).length : Int)) = true := decide_eq_true c51
                                                        clear c51
                                                        by_cases c52 : 0 ≤ x15_5
                                                        · rw [if_pos c52] at H
                                                          have c52b0 : decide (0 ≤ x15_5) = true := decide_eq_true c52
                                                          clear c52
                                                          have H' := Aside0.mk H
                                                          clear H
                                                          obtain ⟨Ao53, co53, eo53⟩ := Kd.R_slice HO_10.out
                                                          subst eo53
                                                          have p129 : 0 ≤ ((ji44) : Int) := of_decide_eq_true (by first | (with_reducible assumption) | assumption)
                                                          have q129 : (ji44) < (x10_5.length : Int) := of_decide_eq_true (by first | (with_reducible assumption) | assumption)
                                                          obtain ⟨ad129, e129, hx129_0⟩ := Kd.at_int (Kd.R_reads' HO_10.out).2.2 (ji44) p129 q129
                                                          cases e129
                                                          replace p129 := eq_true p129
                                                          replace q129 := eq_true q129
                                                          have p130 : 0 ≤ ((ji44) : Int) := of_decide_eq_true (by first | (with_reducible assumption) | assumption)
                                                          have q130 : (ji44) < (t108.length : Int) := of_decide_eq_true (by first | (with_reducible assumption) | assumption)
                                                          obtain ⟨ad130, A130_0, c130_0, e130, hx130_0, hl130_0, hi130_0⟩ := at_L1 (Kd.S_reads' HO_13.out).2.2 (ji44) p130 q130
                                                          obtain rfl : ad122 = ad130 := (by injection e130)
                                                          obtain ⟨ce130, hce130, hMe130, hcc130⟩ := Kd.S_get HO_13.out [] (ji44) p130 (by first | exact q130 | exact of_decide_eq_true (by first | (with_reducible assumption) | assumption) | (have e_ := (Kd.S_reads' HO_13.out).1; omega))
                                                          obtain ⟨ve130_0, rfl, ge130_0⟩ := hMe130
                                                          have hv130_0 := hcc130 0 _ rfl
                                                          rw [Nat.add_zero, show ((Kd.slice 3 (Kd.int .i64))).sz = 1 from rfl, Nat.mul_one] at hv130_0
                                                          replace hv130_0 := Option.some.inj (hv130_0.symm.trans hx130_0)
                                                          rw [hv130_0] at ge130_0
                                                          have HL130_0 := Aside0.mk (show Kd.R (Kd.int .i64) 3 _ _ _ _ (rd_L1 t108 (ji44)) from ge130_0)
                                                          clear hv130_0 ge130_0
                                                          clear hcc130 hce130
                                                          have HR130_0 := Aside0.mk hi130_0
                                                          have HC130_0 := Aside0.mk hl130_0
                                                          clear hi130_0 hl130_0
                                                          replace p130 := eq_true p130
                                                          replace q130 := eq_true q130
                                                          have p131 : 0 ≤ ((rd x10_5 (ji44)) : Int) := of_decide_eq_true (by first | (with_reducible assumption) | assumption)
                                                          have q131 : (rd x10_5 (ji44)) < ((rd_L1 t108 (ji44)).length : Int) := of_decide_eq_true (by first | (with_reducible assumption) | assumption)
                                                          obtain ⟨ad131, e131, hx131_0⟩ := Kd.at_int (by repeat (first | (with_reducible exact HR130_0.out) | (with_reducible refine Kd.C_alloc ?_ _) | (with_reducible refine Kd.C_drewN ?_ _) | (with_reducible refine Kd.C_drew ?_) | exact HR130_0.out)) (rd x10_5 (ji44)) p131 q131
                                                          cases e131
                                                          replace p131 := eq_true p131
                                                          replace q131 := eq_true q131
                                                          have p132 : 0 ≤ ((ji44) : Int) := of_decide_eq_true (by first | (with_reducible assumption) | assumption)
                                                          have q132 : (ji44) < (l0.length : Int) := of_decide_eq_true (by first | (with_reducible assumption) | assumption)
                                                          obtain ⟨ad132, A132_0, c132_0, e132, hx132_0, hl132_0, hi132_0⟩ := at_L1 HR0.out (ji44) p132 q132
                                                          obtain rfl : ad106 = ad132 := (by injection e132)
                                                          replace hx132_0 := (HB.out.cell (World.block_lt_of_cell? w _ hx132_0)).trans hx132_0
                                                          have HR132_0 := Aside0.mk hi132_0
                                                          have HC132_0 := Aside0.mk hl132_0
                                                          clear hi132_0 hl132_0
                                                          replace p132 := eq_true p132
                                                          replace q132 := eq_true q132
                                                          have p133 : 0 ≤ ((rd x10_5 (ji44)) : Int) := of_decide_eq_true (by first | (with_reducible assumption) | assumption)
                                                          have q133 : (rd x10_5 (ji44)) < ((rd_L1 l0 (ji44)).length : Int) := of_decide_eq_true (by first | (with_reducible assumption) | assumption)
                                                          obtain ⟨ad133, e133, hx133_0⟩ := Kd.at_int HR132_0.out (rd x10_5 (ji44)) p133 q133
                                                          cases e133
                                                          replace hx133_0 := (HB.out.cell (World.block_lt_of_cell? w _ hx133_0)).trans hx133_0
                                                          replace p133 := eq_true p133
                                                          replace q133 := eq_true q133
                                                          have p134 : 0 ≤ (x15_5 : Int) := of_decide_eq_true (by first | (with_reducible assumption) | assumption)
                                                          have q134 : x15_5 < (l0.length : Int) := of_decide_eq_true (by first | (with_reducible assumption) | assumption)
                                                          obtain ⟨ad134, A134_0, c134_0, e134, hx134_0, hl134_0, hi134_0⟩ := at_L1 HR0.out x15_5 p134 q134
                                                          obtain rfl : ad106 = ad134 := (by injection e134)
                                                          replace hx134_0 := (HB.out.cell (World.block_lt_of_cell? w _ hx134_0)).trans hx134_0
                                                          have HR134_0 := Aside0.mk hi134_0
                                                          have HC134_0 := Aside0.mk hl134_0
                                                          clear hi134_0 hl134_0
                                                          replace p134 := eq_true p134
                                                          replace q134 := eq_true q134
                                                          go_wp2
                                                          repeat (go_quiet (fail); try go_wp2)
                                                          go_loopg [10, 125] k5 (fun kq v10 v125 w' => ∃ (x10_6 : List Int) (x125_6 : Int), v125 = .int .i64 x125_6 ∧ Aside0 (impl_bestPaint.l2 kq l0 a1 (rd (rd_L1 t108 0) x23_1) (rd (rd_L1 t109 0) x23_1) x10_6 t108 t109 x15_5 (rd x10_5 (ji44)) (wrap64 ((rd (rd_L1 t108 (ji44)) (rd x10_5 (ji44))) - (rd (rd_L1 l0 (ji44)) (rd x10_5 (ji44))))) ((rd_L1 l0 0).length : Int) x23_1 ((rd_L1 l0 x15_5).length : Int) x125_6 = some (r1, r2, r3, r4)) ∧ Aside0 (kq ≤ k5) ∧ Aside0 (Kd.R (Kd.int .i64) 3 w' w.heap.size (fun _ => True) v10 x10_6) ∧ Aside0 (Kd.S (Kd.slice 3 (Kd.int .i64)) 29 w' w.heap.size (fun k_ => some k_ ≠ (v10 : Value).ownBlock ∧ some k_ ≠ ((.slice (some ad124) t109.length co40) : Value).ownBlock) (.slice (some ad122) t108.length co39) t108) ∧ Aside0 (Kd.S (Kd.slice 3 (Kd.int .i64)) 29 w' w.heap.size (fun k_ => some k_ ≠ (v10 : Value).ownBlock ∧ some k_ ≠ ((.slice (some ad122) t108.length co39) : Value).ownBlock) (.slice (some ad124) t109.length co40) t109) ∧ Aside0 (Kd.C (Kd.int .i64) w' (some ad131) (rd_L1 t108 (ji44)).length (rd_L1 t108 (ji44))) ∧ Aside0 (Below w.heap.size w w'))
                                                          case atStart => exact ⟨(x10_5), (0), (by first | rfl | (simp; done) | (simp [*]; done)), H', ⟨Nat.le_refl _⟩, ⟨by (with_reducible repeat (first | apply Kd.R_alloc | apply Kd.R_drewN | apply Kd.R_drew)); exact HO_10.out⟩, ⟨by (with_reducible repeat (first | apply Kd.S_alloc | apply Kd.S_drewN | apply Kd.S_drew)); exact HO_13.out⟩, ⟨by (with_reducible repeat (first | apply Kd.S_alloc | apply Kd.S_drewN | apply Kd.S_drew)); exact HO_14.out⟩, ⟨by repeat (first | (with_reducible exact HR130_0.out) | (with_reducible refine Kd.C_alloc ?_ _) | (with_reducible refine Kd.C_drewN ?_ _) | (with_reducible refine Kd.C_drew ?_) | exact HR130_0.out)⟩, ⟨by repeat (first | (with_reducible first | exact HB.out | apply below_alloc | apply pw_below_drewN | apply below_drew1) | exact HB.out)⟩⟩
                                                          case round =>
                                                            clear H'
                                                            try clear c1
                                                            try clear p1
                                                            try clear q1
                                                            try clear hx1
                                                            try clear qi1
                                                            try clear c2
                                                            try clear p2
                                                            try clear c3
                                                            try clear c3b0
                                                            try clear c3b1
                                                            try clear c4
                                                            try clear c4b0
                                                            try clear c5
                                                            try clear c6
                                                            try clear p6
                                                            try clear c7
                                                            try clear c10
                                                            try clear p10
                                                            try clear q10
                                                            try clear hx10
                                                            try clear qi10
                                                            try clear c11
                                                            try clear c11b0
                                                            try clear c11b1
                                                            try clear p11
                                                            try clear q11
                                                            try clear hx11
                                                            try clear qi11
                                                            try clear c12
                                                            try clear c12b0
                                                            try clear p12
                                                            try clear q12
                                                            try clear hx12
                                                            try clear qi12
                                                            try clear c13
                                                            try clear c13b0
                                                            try clear p13
                                                            try clear q13
                                                            try clear hx13
                                                            try clear c14
                                                            try clear c14b0
                                                            try clear c14b1
                                                            try clear c16
                                                            try clear c16b0
                                                            try clear c17
                                                            try clear c17b0
                                                            try clear c17b1
                                                            try clear c18
                                                            try clear c18b0
                                                            try clear c22
                                                            try clear c24
                                                            try clear c24b0
                                                            try clear c25
                                                            try clear c25b0
                                                            try clear c25b1
                                                            try clear c26
                                                            try clear c26b0
                                                            try clear c27
                                                            try clear c27b0
                                                            try clear c29
                                                            try clear c30
                                                            try clear c30b0
                                                            try clear c30b1
                                                            try clear c31
                                                            try clear c31b0
                                                            try clear c32
                                                            try clear c32b0
                                                            try clear c34
                                                            try clear c34b0
                                                            try clear c34b1
                                                            try clear c35
                                                            try clear c35b0
                                                            try clear c36
                                                            try clear c36b0
                                                            try clear c37
                                                            try clear c37b0
                                                            try clear c37b1
                                                            try clear c38
                                                            try clear c38b0
                                                            try clear c43
                                                            try clear c43b0
                                                            try clear c45
                                                            try clear c45b0
                                                            try clear c46
                                                            try clear c46b0
                                                            try clear c47
                                                            try clear c47b0
                                                            try clear c48
                                                            try clear c48b0
                                                            try clear c49
                                                            try clear c49b0
                                                            try clear c50
                                                            try clear c50b0
                                                            try clear c51
                                                            try clear c51b0
                                                            try clear c52
                                                            try clear c52b0
                                                            try clear hx106_0
                                                            try clear hx114_0
                                                            try clear hx115_0
                                                            try clear hx116_0
                                                            try clear hx117_0
                                                            try clear hx118_0
                                                            try clear hx119_0
                                                            try clear hx120_0
                                                            try clear hx121_0
                                                            try clear hx122_0
                                                            try clear hx123_0
                                                            try clear hx124_0
                                                            try clear hx125_0
                                                            try clear hx129_0
                                                            try clear hx130_0
                                                            try clear hx131_0
                                                            try clear hx132_0
                                                            try clear hx133_0
                                                            try clear hx134_0
                                                            try clear p1
                                                            try clear p10
                                                            try clear p106
                                                            try clear p11
                                                            try clear p114
                                                            try clear p115
                                                            try clear p116
                                                            try clear p117
                                                            try clear p118
                                                            try clear p119
                                                            try clear p12
                                                            try clear p120
                                                            try clear p121
                                                            try clear p122
                                                            try clear p123
                                                            try clear p124
                                                            try clear p125
                                                            try clear p129
                                                            try clear p130
                                                            try clear p131
                                                            try clear p132
                                                            try clear p133
                                                            try clear p134
                                                            try clear p2
                                                            try clear p6
                                                            try clear q1
                                                            try clear q10
                                                            try clear q106
                                                            try clear q11
                                                            try clear q114
                                                            try clear q115
                                                            try clear q116
                                                            try clear q117
                                                            try clear q118
                                                            try clear q119
                                                            try clear q12
                                                            try clear q120
                                                            try clear q121
                                                            try clear q122
                                                            try clear q123
                                                            try clear q124
                                                            try clear q125
                                                            try clear q129
                                                            try clear q130
                                                            try clear q131
                                                            try clear q132
                                                            try clear q133
                                                            try clear q134
                                                            obtain ⟨x10_6, x125_6, rfl, HA, HK6, HO_10, HO_13, HO_14, HR130_0, HB⟩ := hrel
                                                            cases gk with
                                                            | zero => exact absurd HA.out (by simp [impl_bestPaint.l2])
                                                            | succ k6 =>
                                                              have H := HA.out
                                                              clear HA
                                                              simp only [impl_bestPaint.l2] at H
                                                              by_cases c54 : x125_6 < ((rd_L1 l0 x15_5).length : Int)
                                                              · rw [if_pos c54] at H
                                                                have c54b0 : decide (x125_6 < ((rd_L1 l0 x15_5).length : Int)) = true := decide_eq_true c54
                                                                clear c54
                                                                by_cases c55 : x125_6 = (rd x10_5 (ji44))
                                                                · rw [if_pos c55] at H
                                                                  have c55b0 : (x125_6 == (rd x10_5 (ji44))) = true := beq_iff_eq.mpr c55
                                                                  have c55b1 : (x125_6 != (rd x10_5 (ji44))) = false := bne_eq_false_iff_eq.mpr c55
                                                                  clear c55
                                                                  have H' := Aside0.mk H
                                                                  clear H
                                                                  go_wp2
                                                                  repeat (go_quiet (fail); try go_wp2)
                                                                  go_roundg k6
                                                                  case measure => have := HK1.out; have := HJ5.out; have := HJ8.out; have := HJ22.out; have := HK5.out; have := HK6.out; omega
                                                                  case rel => exact ⟨(x10_6), (wrap64 (x125_6 + 1)), (by first | rfl | (simp; done) | (simp [*]; done)), H', ⟨by have := HK1.out; have := HJ5.out; have := HJ8.out; have := HJ22.out; have := HK5.out; have := HK6.out; omega⟩, ⟨by (with_reducible repeat (first | apply Kd.R_alloc | apply Kd.R_drewN | apply Kd.R_drew)); exact HO_10.out⟩, ⟨by (with_reducible repeat (first | apply Kd.S_alloc | apply Kd.S_drewN | apply Kd.S_drew)); exact HO_13.out⟩, ⟨by (with_reducible repeat (first | apply Kd.S_alloc | apply Kd.S_drewN | apply Kd.S_drew)); exact HO_14.out⟩, ⟨by repeat (first | (with_reducible exact HR130_0.out) | (with_reducible refine Kd.C_alloc ?_ _) | (with_reducible refine Kd.C_drewN ?_ _) | (with_reducible refine Kd.C_drew ?_) | exact HR130_0.out)⟩, ⟨by repeat (first | (with_reducible first | exact HB.out | apply below_alloc | apply pw_below_drewN | apply below_drew1) | exact HB.out)⟩⟩
                                                                · rw [if_neg c55] at H
                                                                  have c55b0 : (x125_6 == (rd x10_5 (ji44))) = false := beq_eq_false_iff_ne.mpr c55
                                                                  have c55b1 : (x125_6 != (rd x10_5 (ji44))) = true := bne_iff_ne.mpr c55
                                                                  by_cases c56 : 0 ≤ x15_5
                                                                  · rw [if_pos c56] at H
                                                                    have c56b0 : decide (0 ≤ x15_5) = true := decide_eq_true c56
                                                                    clear c56
                                                                    by_cases c57 : x15_5 < (t109.length : Int)
                                                                    · rw [if_pos c57] at H
                                                                      have c57b0 : decide (x15_5 < (t109.length : Int)) = true := decide_eq_true c57
                                                                      clear c57
                                                                      by_cases c58 : 0 ≤ x125_6
                                                                      · rw [if_pos c58] at H
                                                                        have c58b0 : decide (0 ≤ x125_6) = true := decide_eq_true c58
                                                                        clear c58
                                                                        by_cases c59 : x125_6 < ((rd_L1 t109 x15_5).length : Int)
                                                                        · rw [if_pos c59] at H
                                                                          have c59b0 : decide (x125_6 < ((rd_L1 t109 x15_5).length : Int)) = true := decide_eq_true c59
                                                                          clear c59
                                                                          by_cases c60 : (rd (rd_L1 t109 x15_5) x125_6) > 0
                                                                          · rw [if_pos c60] at H
                                                                            have c60b0 : decide (0 < (rd (rd_L1 t109 x15_5) x125_6)) = true := decide_eq_true c60
                                                                            clear c60
                                                                            by_cases c61 : x15_5 < (t108.length : Int)
                                                                            · rw [if_pos c61] at H
                                                                              have c61b0 : decide (x15_5 < (t108.length : Int)) = true := decide_eq_true c61
                                                                              clear c61
                                                                              by_cases c62 : x125_6 < ((rd_L1 t108 x15_5).length : Int)
                                                                              · rw [if_pos c62] at H
                                                                                have c62b0 : decide (x125_6 < ((rd_L1 t108 x15_5).length : Int)) = true := decide_eq_true c62
                                                                                clear c62
                                                                                by_cases c63 : (rd (rd_L1 t108 x15_5) x125_6) = (wrap64 ((rd (rd_L1 t108 (ji44)) (rd x10_5 (ji44))) - (rd (rd_L1 l0 (ji44)) (rd x10_5 (ji44)))))
                                                                                · rw [if_pos c63] at H
                                                                                  have c63b0 : ((rd (rd_L1 t108 x15_5) x125_6) == (wrap64 ((rd (rd_L1 t108 (ji44)) (rd x10_5 (ji44))) - (rd (rd_L1 l0 (ji44)) (rd x10_5 (ji44)))))) = true := beq_iff_eq.mpr c63
                                                                                  have c63b1 : ((rd (rd_L1 t108 x15_5) x125_6) != (wrap64 ((rd (rd_L1 t108 (ji44)) (rd x10_5 (ji44))) - (rd (rd_L1 l0 (ji44)) (rd x10_5 (ji44)))))) = false := bne_eq_false_iff_eq.mpr c63
                                                                                  clear c63
                                                                                  by_cases c64 : x10_6.length < 17592186044416
                                                                                  · rw [if_pos c64] at H
                                                                                    have LMc64 := Aside0.mk c64
                                                                                    clear c64
                                                                                    obtain ⟨y139, hy139⟩ : ∃ y_ : List Int, y_ = (x10_6 ++ [x125_6]) := ⟨_, rfl⟩
                                                                                    replace H : (impl_bestPaint.l1 k6 l0 a1 (rd (rd_L1 t108 0) x23_1) (rd (rd_L1 t109 0) x23_1) y139 t108 t109 (wrap64 (x15_5 + 1)) ((rd_L1 l0 0).length : Int) x23_1) = some (r1, r2, r3, r4) := by first | (rw [hy139]; with_reducible exact H) | (have H2_ := (Option.bind_some _ _).symm.trans H; rw [hy139]; with_reducible exact H2_) | (have H2_ := (Option.bind_some _ _).symm.trans H; with_reducible exact H2_) | with_reducible exact H | (rw [hy139]; exact H) | exact H
                                                                                    have Ny139 := Aside0.mk hy139
                                                                                    clear hy139
                                                                                    have H' := Aside0.mk H
                                                                                    clear H
                                                                                    have p135 : 0 ≤ (x15_5 : Int) := of_decide_eq_true (by first | (with_reducible assumption) | assumption)
                                                                                    have q135 : x15_5 < (t109.length : Int) := of_decide_eq_true (by first | (with_reducible assumption) | assumption)
                                                                                    obtain ⟨ad135, A135_0, c135_0, e135, hx135_0, hl135_0, hi135_0⟩ := at_L1 (Kd.S_reads' HO_14.out).2.2 x15_5 p135 q135
                                                                                    obtain rfl : ad124 = ad135 := (by injection e135)
                                                                                    obtain ⟨ce135, hce135, hMe135, hcc135⟩ := Kd.S_get HO_14.out [] x15_5 p135 (by first | exact q135 | exact of_decide_eq_true (by first | (with_reducible assumption) | assumption) | (have e_ := (Kd.S_reads' HO_14.out).1; omega))
                                                                                    obtain ⟨ve135_0, rfl, ge135_0⟩ := hMe135
                                                                                    have hv135_0 := hcc135 0 _ rfl
                                                                                    rw [Nat.add_zero, show ((Kd.slice 3 (Kd.int .i64))).sz = 1 from rfl, Nat.mul_one] at hv135_0
                                                                                    replace hv135_0 := Option.some.inj (hv135_0.symm.trans hx135_0)
                                                                                    rw [hv135_0] at ge135_0
                                                                                    have HL135_0 := Aside0.mk (show Kd.R (Kd.int .i64) 3 _ _ _ _ (rd_L1 t109 x15_5) from ge135_0)
                                                                                    clear hv135_0 ge135_0
                                                                                    clear hcc135 hce135
                                                                                    have HR135_0 := Aside0.mk hi135_0
                                                                                    have HC135_0 := Aside0.mk hl135_0
                                                                                    clear hi135_0 hl135_0
                                                                                    replace p135 := eq_true p135
                                                                                    replace q135 := eq_true q135
                                                                                    have p136 : 0 ≤ (x125_6 : Int) := of_decide_eq_true (by first | (with_reducible assumption) | assumption)
                                                                                    have q136 : x125_6 < ((rd_L1 t109 x15_5).length : Int) := of_decide_eq_true (by first | (with_reducible assumption) | assumption)
                                                                                    obtain ⟨ad136, e136, hx136_0⟩ := Kd.at_int (by repeat (first | (with_reducible exact HR135_0.out) | (with_reducible refine Kd.C_alloc ?_ _) | (with_reducible refine Kd.C_drewN ?_ _) | (with_reducible refine Kd.C_drew ?_) | exact HR135_0.out)) x125_6 p136 q136
                                                                                    cases e136
                                                                                    replace p136 := eq_true p136
                                                                                    replace q136 := eq_true q136
                                                                                    have p137 : 0 ≤ (x15_5 : Int) := of_decide_eq_true (by first | (with_reducible assumption) | assumption)
                                                                                    have q137 : x15_5 < (t108.length : Int) := of_decide_eq_true (by first | (with_reducible assumption) | assumption)
                                                                                    obtain ⟨ad137, A137_0, c137_0, e137, hx137_0, hl137_0, hi137_0⟩ := at_L1 (Kd.S_reads' HO_13.out).2.2 x15_5 p137 q137
                                                                                    obtain rfl : ad122 = ad137 := (by injection e137)
                                                                                    obtain ⟨ce137, hce137, hMe137, hcc137⟩ := Kd.S_get HO_13.out [] x15_5 p137 (by first | exact q137 | exact of_decide_eq_true (by first | (with_reducible assumption) | assumption) | (have e_ := (Kd.S_reads' HO_13.out).1; omega))
                                                                                    obtain ⟨ve137_0, rfl, ge137_0⟩ := hMe137
                                                                                    have hv137_0 := hcc137 0 _ rfl
                                                                                    rw [Nat.add_zero, show ((Kd.slice 3 (Kd.int .i64))).sz = 1 from rfl, Nat.mul_one] at hv137_0
                                                                                    replace hv137_0 := Option.some.inj (hv137_0.symm.trans hx137_0)
                                                                                    rw [hv137_0] at ge137_0
                                                                                    have HL137_0 := Aside0.mk (show Kd.R (Kd.int .i64) 3 _ _ _ _ (rd_L1 t108 x15_5) from ge137_0)
                                                                                    clear hv137_0 ge137_0
                                                                                    clear hcc137 hce137
                                                                                    have HR137_0 := Aside0.mk hi137_0
                                                                                    have HC137_0 := Aside0.mk hl137_0
                                                                                    clear hi137_0 hl137_0
                                                                                    replace p137 := eq_true p137
                                                                                    replace q137 := eq_true q137
                                                                                    have p138 : 0 ≤ (x125_6 : Int) := of_decide_eq_true (by first | (with_reducible assumption) | assumption)
                                                                                    have q138 : x125_6 < ((rd_L1 t108 x15_5).length : Int) := of_decide_eq_true (by first | (with_reducible assumption) | assumption)
                                                                                    obtain ⟨ad138, e138, hx138_0⟩ := Kd.at_int (by repeat (first | (with_reducible exact HR137_0.out) | (with_reducible refine Kd.C_alloc ?_ _) | (with_reducible refine Kd.C_drewN ?_ _) | (with_reducible refine Kd.C_drew ?_) | exact HR137_0.out)) x125_6 p138 q138
                                                                                    cases e138
                                                                                    replace p138 := eq_true p138
                                                                                    replace q138 := eq_true q138
                                                                                    go_wp2_with (first | ((with_reducible refine gate_builtin (b := .append) (xs := #[.tmp 152, .tmp 154]) rfl ?_); at_builtin; refine Kd.R_append (Kd.int .i64) (w0 := w) w.heap.size rfl (.tmp 152) (.tmp 154) 29 3 (.int .i64 0) 8 rfl Try.underlying29 info3 rfl (by decide) (by omega) u10 x10_6 x125_6 [.int .i64 x125_6] (fun _ => True) (fun _ => False) rfl rfl ?aP (fun _ hk => hk.elim) ?aF ?aO ?aB ?aS ?aL ?_; (case aP => exact rfl); (case aB => exact (by repeat (first | (with_reducible first | exact HB.out | apply below_alloc | apply pw_below_drewN | apply below_drew1) | exact HB.out))); (case aF => exact (fun _ _ => trivial)); (case aO => exact (by (with_reducible repeat (first | apply Kd.R_alloc | apply Kd.R_drewN | apply Kd.R_drew)); exact HO_10.out)); (case aS => exact (below_size (by repeat (first | (with_reducible first | exact HB.out | apply below_alloc | apply pw_below_drewN | apply below_drew1) | exact HB.out)))); (case aL => have := LMc64.out; omega); intro v140 w65 ho hb hg hat; rw [← Ny139.out] at ho; have n0_ := Aside0.mk (Kd.S_after (ok := (fun k_ => some k_ ≠ (.slice (some ad124) t109.length co40 : Value).ownBlock)) (by (with_reducible repeat (first | apply Kd.S_alloc | apply Kd.S_drewN | apply Kd.S_drew)); exact Kd.S_mono HO_13.out (fun _ hk => ⟨hk.2, hk.1⟩)) hg hat); have n1_ := Aside0.mk (Kd.S_after (ok := (fun k_ => some k_ ≠ (.slice (some ad122) t108.length co39 : Value).ownBlock)) (by (with_reducible repeat (first | apply Kd.S_alloc | apply Kd.S_drewN | apply Kd.S_drew)); exact Kd.S_mono HO_14.out (fun _ hk => ⟨hk.2, hk.1⟩)) hg hat); have n2_ := Aside0.mk (Kd.R_after (ok := (fun k_ => some k_ ≠ (.slice (some ad122) t108.length co39 : Value).ownBlock ∧ some k_ ≠ (.slice (some ad124) t109.length co40 : Value).ownBlock)) (by (with_reducible repeat (first | apply Kd.R_alloc | apply Kd.R_drewN | apply Kd.R_drew)); exact Kd.R_mono HL135_0.out (fun _ hk => ⟨⟨hk.1.2, hk.2⟩, hk.1.1⟩)) hg hat); have n3_ := Aside0.mk (Kd.R_after (ok := (fun k_ => some k_ ≠ (.slice (some ad122) t108.length co39 : Value).ownBlock ∧ some k_ ≠ (.slice (some ad124) t109.length co40 : Value).ownBlock)) (by (with_reducible repeat (first | apply Kd.R_alloc | apply Kd.R_drewN | apply Kd.R_drew)); exact Kd.R_mono HL137_0.out (fun _ hk => ⟨⟨hk.2, hk.1.2⟩, hk.1.1⟩)) hg hat); have n4_ := Aside0.mk (hb); have n5_ := Aside0.mk (ho); clear HO_13; clear HO_14; clear HL135_0; clear HL137_0; clear HB; clear HO_10; have HO_13 := n0_; have HO_14 := n1_; have HL135_0 := n2_; have HL137_0 := n3_; have HB := n4_; have HO141 := n5_; clear n0_ n1_ n2_ n3_ n4_ n5_; clear ho hb hg hat))
                                                                                    repeat (go_quiet (first | ((with_reducible refine gate_builtin (b := .append) (xs := #[.tmp 152, .tmp 154]) rfl ?_); at_builtin; refine Kd.R_append (Kd.int .i64) (w0 := w) w.heap.size rfl (.tmp 152) (.tmp 154) 29 3 (.int .i64 0) 8 rfl Try.underlying29 info3 rfl (by decide) (by omega) u10 x10_6 x125_6 [.int .i64 x125_6] (fun _ => True) (fun _ => False) rfl rfl ?aP (fun _ hk => hk.elim) ?aF ?aO ?aB ?aS ?aL ?_; (case aP => exact rfl); (case aB => exact (by repeat (first | (with_reducible first | exact HB.out | apply below_alloc | apply pw_below_drewN | apply below_drew1) | exact HB.out))); (case aF => exact (fun _ _ => trivial)); (case aO => exact (by (with_reducible repeat (first | apply Kd.R_alloc | apply Kd.R_drewN | apply Kd.R_drew)); exact HO_10.out)); (case aS => exact (below_size (by repeat (first | (with_reducible first | exact HB.out | apply below_alloc | apply pw_below_drewN | apply below_drew1) | exact HB.out)))); (case aL => have := LMc64.out; omega); intro v140 w65 ho hb hg hat; rw [← Ny139.out] at ho; have n0_ := Aside0.mk (Kd.S_after (ok := (fun k_ => some k_ ≠ (.slice (some ad124) t109.length co40 : Value).ownBlock)) (by (with_reducible repeat (first | apply Kd.S_alloc | apply Kd.S_drewN | apply Kd.S_drew)); exact Kd.S_mono HO_13.out (fun _ hk => ⟨hk.2, hk.1⟩)) hg hat); have n1_ := Aside0.mk (Kd.S_after (ok := (fun k_ => some k_ ≠ (.slice (some ad122) t108.length co39 : Value).ownBlock)) (by (with_reducible repeat (first | apply Kd.S_alloc | apply Kd.S_drewN | apply Kd.S_drew)); exact Kd.S_mono HO_14.out (fun _ hk => ⟨hk.2, hk.1⟩)) hg hat); have n2_ := Aside0.mk (Kd.R_after (ok := (fun k_ => some k_ ≠ (.slice (some ad122) t108.length co39 : Value).ownBlock ∧ some k_ ≠ (.slice (some ad124) t109.length co40 : Value).ownBlock)) (by (with_reducible repeat (first | apply Kd.R_alloc | apply Kd.R_drewN | apply Kd.R_drew)); exact Kd.R_mono HL135_0.out (fun _ hk => ⟨⟨hk.1.2, hk.2⟩, hk.1.1⟩)) hg hat); have n3_ := Aside0.mk (Kd.R_after (ok := (fun k_ => some k_ ≠ (.slice (some ad122) t108.length co39 : Value).ownBlock ∧ some k_ ≠ (.slice (some ad124) t109.length co40 : Value).ownBlock)) (by (with_reducible repeat (first | apply Kd.R_alloc | apply Kd.R_drewN | apply Kd.R_drew)); exact Kd.R_mono HL137_0.out (fun _ hk => ⟨⟨hk.2, hk.1.2⟩, hk.1.1⟩)) hg hat); have n4_ := Aside0.mk (hb); have n5_ := Aside0.mk (ho); clear HO_13; clear HO_14; clear HL135_0; clear HL137_0; clear HB; clear HO_10; have HO_13 := n0_; have HO_14 := n1_; have HL135_0 := n2_; have HL137_0 := n3_; have HB := n4_; have HO141 := n5_; clear n0_ n1_ n2_ n3_ n4_ n5_; clear ho hb hg hat)); try go_wp2_with (first | ((with_reducible refine gate_builtin (b := .append) (xs := #[.tmp 152, .tmp 154]) rfl ?_); at_builtin; refine Kd.R_append (Kd.int .i64) (w0 := w) w.heap.size rfl (.tmp 152) (.tmp 154) 29 3 (.int .i64 0) 8 rfl Try.underlying29 info3 rfl (by decide) (by omega) u10 x10_6 x125_6 [.int .i64 x125_6] (fun _ => True) (fun _ => False) rfl rfl ?aP (fun _ hk => hk.elim) ?aF ?aO ?aB ?aS ?aL ?_; (case aP => exact rfl); (case aB => exact (by repeat (first | (with_reducible first | exact HB.out | apply below_alloc | apply pw_below_drewN | apply below_drew1) | exact HB.out))); (case aF => exact (fun _ _ => trivial)); (case aO => exact (by (with_reducible repeat (first | apply Kd.R_alloc | apply Kd.R_drewN | apply Kd.R_drew)); exact HO_10.out)); (case aS => exact (below_size (by repeat (first | (with_reducible first | exact HB.out | apply below_alloc | apply pw_below_drewN | apply below_drew1) | exact HB.out)))); (case aL => have := LMc64.out; omega); intro v140 w65 ho hb hg hat; rw [← Ny139.out] at ho; have n0_ := Aside0.mk (Kd.S_after (ok := (fun k_ => some k_ ≠ (.slice (some ad124) t109.length co40 : Value).ownBlock)) (by (with_reducible repeat (first | apply Kd.S_alloc | apply Kd.S_drewN | apply Kd.S_drew)); exact Kd.S_mono HO_13.out (fun _ hk => ⟨hk.2, hk.1⟩)) hg hat); have n1_ := Aside0.mk (Kd.S_after (ok := (fun k_ => some k_ ≠ (.slice (some ad122) t108.length co39 : Value).ownBlock)) (by (with_reducible repeat (first | apply Kd.S_alloc | apply Kd.S_drewN | apply Kd.S_drew)); exact Kd.S_mono HO_14.out (fun _ hk => ⟨hk.2, hk.1⟩)) hg hat); have n2_ := Aside0.mk (Kd.R_after (ok := (fun k_ => some k_ ≠ (.slice (some ad122) t108.length co39 : Value).ownBlock ∧ some k_ ≠ (.slice (some ad124) t109.length co40 : Value).ownBlock)) (by (with_reducible repeat (first | apply Kd.R_alloc | apply Kd.R_drewN | apply Kd.R_drew)); exact Kd.R_mono HL135_0.out (fun _ hk => ⟨⟨hk.1.2, hk.2⟩, hk.1.1⟩)) hg hat); have n3_ := Aside0.mk (Kd.R_after (ok := (fun k_ => some k_ ≠ (.slice (some ad122) t108.length co39 : Value).ownBlock ∧ some k_ ≠ (.slice (some ad124) t109.length co40 : Value).ownBlock)) (by (with_reducible repeat (first | apply Kd.R_alloc | apply Kd.R_drewN | apply Kd.R_drew)); exact Kd.R_mono HL137_0.out (fun _ hk => ⟨⟨hk.2, hk.1.2⟩, hk.1.1⟩)) hg hat); have n4_ := Aside0.mk (hb); have n5_ := Aside0.mk (ho); clear HO_13; clear HO_14; clear HL135_0; clear HL137_0; clear HB; clear HO_10; have HO_13 := n0_; have HO_14 := n1_; have HL135_0 := n2_; have HL137_0 := n3_; have HB := n4_; have HO141 := n5_; clear n0_ n1_ n2_ n3_ n4_ n5_; clear ho hb hg hat)))
                                                                                    go_roundg k6
                                                                                    case measure => have := HK1.out; have := HJ5.out; have := HJ8.out; have := HJ22.out; have := HK5.out; have := HK6.out; omega
                                                                                    case rel => exact ⟨(y139), (wrap64 (x15_5 + 1)), (by first | rfl | (simp; done) | (simp [*]; done)), H', ⟨by have := HK1.out; have := HJ5.out; have := HJ8.out; have := HJ22.out; have := HK5.out; have := HK6.out; omega⟩, ⟨by (with_reducible repeat (first | apply Kd.R_alloc | apply Kd.R_drewN | apply Kd.R_drew)); exact HO141.out⟩, ⟨by (with_reducible repeat (first | apply Kd.S_alloc | apply Kd.S_drewN | apply Kd.S_drew)); exact Kd.S_mono HO_13.out (fun _ hk => ⟨hk.2, hk.1⟩)⟩, ⟨by (with_reducible repeat (first | apply Kd.S_alloc | apply Kd.S_drewN | apply Kd.S_drew)); exact Kd.S_mono HO_14.out (fun _ hk => ⟨hk.2, hk.1⟩)⟩, ⟨by repeat (first | (with_reducible first | exact HB.out | apply below_alloc | apply pw_below_drewN | apply below_drew1) | exact HB.out)⟩⟩
                                                                                  · rw [if_neg c64] at H
                                                                                    exact absurd H (by simp)
                                                                                · rw [if_neg c63] at H
                                                                                  have c63b0 : ((rd (rd_L1 t108 x15_5) x125_6) == (wrap64 ((rd (rd_L1 t108 (ji44)) (rd x10_5 (ji44))) - (rd (rd_L1 l0 (ji44)) (rd x10_5 (ji44)))))) = false := beq_eq_false_iff_ne.mpr c63
                                                                                  have c63b1 : ((rd (rd_L1 t108 x15_5) x125_6) != (wrap64 ((rd (rd_L1 t108 (ji44)) (rd x10_5 (ji44))) - (rd (rd_L1 l0 (ji44)) (rd x10_5 (ji44)))))) = true := bne_iff_ne.mpr c63
                                                                                  have H' := Aside0.mk H
                                                                                  clear H
                                                                                  have p135 : 0 ≤ (x15_5 : Int) := of_decide_eq_true (by first | (with_reducible assumption) | assumption)
                                                                                  have q135 : x15_5 < (t109.length : Int) := of_decide_eq_true (by first | (with_reducible assumption) | assumption)
                                                                                  obtain ⟨ad135, A135_0, c135_0, e135, hx135_0, hl135_0, hi135_0⟩ := at_L1 (Kd.S_reads' HO_14.out).2.2 x15_5 p135 q135
                                                                                  obtain rfl : ad124 = ad135 := (by injection e135)
                                                                                  obtain ⟨ce135, hce135, hMe135, hcc135⟩ := Kd.S_get HO_14.out [] x15_5 p135 (by first | exact q135 | exact of_decide_eq_true (by first | (with_reducible assumption) | assumption) | (have e_ := (Kd.S_reads' HO_14.out).1; omega))
                                                                                  obtain ⟨ve135_0, rfl, ge135_0⟩ := hMe135
                                                                                  have hv135_0 := hcc135 0 _ rfl
                                                                                  rw [Nat.add_zero, show ((Kd.slice 3 (Kd.int .i64))).sz = 1 from rfl, Nat.mul_one] at hv135_0
                                                                                  replace hv135_0 := Option.some.inj (hv135_0.symm.trans hx135_0)
                                                                                  rw [hv135_0] at ge135_0
                                                                                  have HL135_0 := Aside0.mk (show Kd.R (Kd.int .i64) 3 _ _ _ _ (rd_L1 t109 x15_5) from ge135_0)
                                                                                  clear hv135_0 ge135_0
                                                                                  clear hcc135 hce135
                                                                                  have HR135_0 := Aside0.mk hi135_0
                                                                                  have HC135_0 := Aside0.mk hl135_0
                                                                                  clear hi135_0 hl135_0
                                                                                  replace p135 := eq_true p135
                                                                                  replace q135 := eq_true q135
                                                                                  have p136 : 0 ≤ (x125_6 : Int) := of_decide_eq_true (by first | (with_reducible assumption) | assumption)
                                                                                  have q136 : x125_6 < ((rd_L1 t109 x15_5).length : Int) := of_decide_eq_true (by first | (with_reducible assumption) | assumption)
                                                                                  obtain ⟨ad136, e136, hx136_0⟩ := Kd.at_int (by repeat (first | (with_reducible exact HR135_0.out) | (with_reducible refine Kd.C_alloc ?_ _) | (with_reducible refine Kd.C_drewN ?_ _) | (with_reducible refine Kd.C_drew ?_) | exact HR135_0.out)) x125_6 p136 q136
                                                                                  cases e136
                                                                                  replace p136 := eq_true p136
                                                                                  replace q136 := eq_true q136
                                                                                  have p137 : 0 ≤ (x15_5 : Int) := of_decide_eq_true (by first | (with_reducible assumption) | assumption)
                                                                                  have q137 : x15_5 < (t108.length : Int) := of_decide_eq_true (by first | (with_reducible assumption) | assumption)
                                                                                  obtain ⟨ad137, A137_0, c137_0, e137, hx137_0, hl137_0, hi137_0⟩ := at_L1 (Kd.S_reads' HO_13.out).2.2 x15_5 p137 q137
                                                                                  obtain rfl : ad122 = ad137 := (by injection e137)
                                                                                  obtain ⟨ce137, hce137, hMe137, hcc137⟩ := Kd.S_get HO_13.out [] x15_5 p137 (by first | exact q137 | exact of_decide_eq_true (by first | (with_reducible assumption) | assumption) | (have e_ := (Kd.S_reads' HO_13.out).1; omega))
                                                                                  obtain ⟨ve137_0, rfl, ge137_0⟩ := hMe137
                                                                                  have hv137_0 := hcc137 0 _ rfl
                                                                                  rw [Nat.add_zero, show ((Kd.slice 3 (Kd.int .i64))).sz = 1 from rfl, Nat.mul_one] at hv137_0
                                                                                  replace hv137_0 := Option.some.inj (hv137_0.symm.trans hx137_0)
                                                                                  rw [hv137_0] at ge137_0
                                                                                  have HL137_0 := Aside0.mk (show Kd.R (Kd.int .i64) 3 _ _ _ _ (rd_L1 t108 x15_5) from ge137_0)
                                                                                  clear hv137_0 ge137_0
                                                                                  clear hcc137 hce137
                                                                                  have HR137_0 := Aside0.mk hi137_0
                                                                                  have HC137_0 := Aside0.mk hl137_0
                                                                                  clear hi137_0 hl137_0
                                                                                  replace p137 := eq_true p137
                                                                                  replace q137 := eq_true q137
                                                                                  have p138 : 0 ≤ (x125_6 : Int) := of_decide_eq_true (by first | (with_reducible assumption) | assumption)
                                                                                  have q138 : x125_6 < ((rd_L1 t108 x15_5).length : Int) := of_decide_eq_true (by first | (with_reducible assumption) | assumption)
                                                                                  obtain ⟨ad138, e138, hx138_0⟩ := Kd.at_int (by repeat (first | (with_reducible exact HR137_0.out) | (with_reducible refine Kd.C_alloc ?_ _) | (with_reducible refine Kd.C_drewN ?_ _) | (with_reducible refine Kd.C_drew ?_) | exact HR137_0.out)) x125_6 p138 q138
                                                                                  cases e138
                                                                                  replace p138 := eq_true p138
                                                                                  replace q138 := eq_true q138
                                                                                  go_wp2
                                                                                  repeat (go_quiet (fail); try go_wp2)
                                                                                  go_roundg k6
                                                                                  case measure => have := HK1.out; have := HJ5.out; have := HJ8.out; have := HJ22.out; have := HK5.out; have := HK6.out; omega
                                                                                  case rel => exact ⟨(x10_6), (wrap64 (x125_6 + 1)), (by first | rfl | (simp; done) | (simp [*]; done)), H', ⟨by have := HK1.out; have := HJ5.out; have := HJ8.out; have := HJ22.out; have := HK5.out; have := HK6.out; omega⟩, ⟨by (with_reducible repeat (first | apply Kd.R_alloc | apply Kd.R_drewN | apply Kd.R_drew)); exact HO_10.out⟩, ⟨by (with_reducible repeat (first | apply Kd.S_alloc | apply Kd.S_drewN | apply Kd.S_drew)); exact HO_13.out⟩, ⟨by (with_reducible repeat (first | apply Kd.S_alloc | apply Kd.S_drewN | apply Kd.S_drew)); exact HO_14.out⟩, ⟨by repeat (first | (with_reducible exact HR130_0.out) | (with_reducible refine Kd.C_alloc ?_ _) | (with_reducible refine Kd.C_drewN ?_ _) | (with_reducible refine Kd.C_drew ?_) | exact HR130_0.out)⟩, ⟨by repeat (first | (with_reducible first | exact HB.out | apply below_alloc | apply pw_below_drewN | apply below_drew1) | exact HB.out)⟩⟩
                                                                              · rw [if_neg c62] at H
                                                                                exact absurd H (by simp)
                                                                            · rw [if_neg c61] at H
                                                                              exact absurd H (by simp)
                                                                          · rw [if_neg c60] at H
                                                                            have c60b0 : decide (0 < (rd (rd_L1 t109 x15_5) x125_6)) = false := decide_eq_false c60
                                                                            clear c60
                                                                            have H' := Aside0.mk H
                                                                            clear H
                                                                            have p135 : 0 ≤ (x15_5 : Int) := of_decide_eq_true (by first | (with_reducible assumption) | assumption)
                                                                            have q135 : x15_5 < (t109.length : Int) := of_decide_eq_true (by first | (with_reducible assumption) | assumption)
                                                                            obtain ⟨ad135, A135_0, c135_0, e135, hx135_0, hl135_0, hi135_0⟩ := at_L1 (Kd.S_reads' HO_14.out).2.2 x15_5 p135 q135
                                                                            obtain rfl : ad124 = ad135 := (by injection e135)
                                                                            obtain ⟨ce135, hce135, hMe135, hcc135⟩ := Kd.S_get HO_14.out [] x15_5 p135 (by first | exact q135 | exact of_decide_eq_true (by first | (with_reducible assumption) | assumption) | (have e_ := (Kd.S_reads' HO_14.out).1; omega))
                                                                            obtain ⟨ve135_0, rfl, ge135_0⟩ := hMe135
                                                                            have hv135_0 := hcc135 0 _ rfl
                                                                            rw [Nat.add_zero, show ((Kd.slice 3 (Kd.int .i64))).sz = 1 from rfl, Nat.mul_one] at hv135_0
                                                                            replace hv135_0 := Option.some.inj (hv135_0.symm.trans hx135_0)
                                                                            rw [hv135_0] at ge135_0
                                                                            have HL135_0 := Aside0.mk (show Kd.R (Kd.int .i64) 3 _ _ _ _ (rd_L1 t109 x15_5) from ge135_0)
                                                                            clear hv135_0 ge135_0
                                                                            clear hcc135 hce135
                                                                            have HR135_0 := Aside0.mk hi135_0
                                                                            have HC135_0 := Aside0.mk hl135_0
                                                                            clear hi135_0 hl135_0
                                                                            replace p135 := eq_true p135
                                                                            replace q135 := eq_true q135
                                                                            have p136 : 0 ≤ (x125_6 : Int) := of_decide_eq_true (by first | (with_reducible assumption) | assumption)
                                                                            have q136 : x125_6 < ((rd_L1 t109 x15_5).length : Int) := of_decide_eq_true (by first | (with_reducible assumption) | assumption)
                                                                            obtain ⟨ad136, e136, hx136_0⟩ := Kd.at_int (by repeat (first | (with_reducible exact HR135_0.out) | (with_reducible refine Kd.C_alloc ?_ _) | (with_reducible refine Kd.C_drewN ?_ _) | (with_reducible refine Kd.C_drew ?_) | exact HR135_0.out)) x125_6 p136 q136
                                                                            cases e136
                                                                            replace p136 := eq_true p136
                                                                            replace q136 := eq_true q136
                                                                            go_wp2
                                                                            repeat (go_quiet (fail); try go_wp2)
                                                                            go_roundg k6
                                                                            case measure => have := HK1.out; have := HJ5.out; have := HJ8.out; have := HJ22.out; have := HK5.out; have := HK6.out; omega
                                                                            case rel => exact ⟨(x10_6), (wrap64 (x125_6 + 1)), (by first | rfl | (simp; done) | (simp [*]; done)), H', ⟨by have := HK1.out; have := HJ5.out; have := HJ8.out; have := HJ22.out; have := HK5.out; have := HK6.out; omega⟩, ⟨by (with_reducible repeat (first | apply Kd.R_alloc | apply Kd.R_drewN | apply Kd.R_drew)); exact HO_10.out⟩, ⟨by (with_reducible repeat (first | apply Kd.S_alloc | apply Kd.S_drewN | apply Kd.S_drew)); exact HO_13.out⟩, ⟨by (with_reducible repeat (first | apply Kd.S_alloc | apply Kd.S_drewN | apply Kd.S_drew)); exact HO_14.out⟩, ⟨by repeat (first | (with_reducible exact HR130_0.out) | (with_reducible refine Kd.C_alloc ?_ _) | (with_reducible refine Kd.C_drewN ?_ _) | (with_reducible refine Kd.C_drew ?_) | exact HR130_0.out)⟩, ⟨by repeat (first | (with_reducible first | exact HB.out | apply below_alloc | apply pw_below_drewN | apply below_drew1) | exact HB.out)⟩⟩
                                                                        · rw [if_neg c59] at H
                                                                          exact absurd H (by simp)
                                                                      · rw [if_neg c58] at H
                                                                        exact absurd H (by simp)
                                                                    · rw [if_neg c57] at H
                                                                      exact absurd H (by simp)
                                                                  · rw [if_neg c56] at H
                                                                    exact absurd H (by simp)
                                                              · rw [if_neg c54] at H
                                                                have c54b0 : decide (x125_6 < ((rd_L1 l0 x15_5).length : Int)) = false := decide_eq_false c54
                                                                clear c54
                                                                have H' := Aside0.mk H
                                                                clear H
                                                                go_wp2
                                                                repeat (go_quiet (fail); try go_wp2)
                                                                go_roundg k6
                                                                case measure => have := HK1.out; have := HJ5.out; have := HJ8.out; have := HJ22.out; have := HK5.out; have := HK6.out; omega
                                                                case rel => exact ⟨(x10_6), (wrap64 (x15_5 + 1)), (by first | rfl | (simp; done) | (simp [*]; done)), H', ⟨by have := HK1.out; have := HJ5.out; have := HJ8.out; have := HJ22.out; have := HK5.out; have := HK6.out; omega⟩, ⟨by (with_reducible repeat (first | apply Kd.R_alloc | apply Kd.R_drewN | apply Kd.R_drew)); exact HO_10.out⟩, ⟨by (with_reducible repeat (first | apply Kd.S_alloc | apply Kd.S_drewN | apply Kd.S_drew)); exact HO_13.out⟩, ⟨by (with_reducible repeat (first | apply Kd.S_alloc | apply Kd.S_drewN | apply Kd.S_drew)); exact HO_14.out⟩, ⟨by repeat (first | (with_reducible first | exact HB.out | apply below_alloc | apply pw_below_drewN | apply below_drew1) | exact HB.out)⟩⟩
                                                        · rw [if_neg c52] at H
                                                          exact absurd H (by simp)
                                                      · rw [if_neg c51] at H
                                                        exact absurd H (by simp)
                                                    · rw [if_neg c50] at H
                                                      exact absurd H (by simp)
                                                  · rw [if_neg c49] at H
                                                    exact absurd H (by simp)
                                                · rw [if_neg c48] at H
                                                  exact absurd H (by simp)
                                              · rw [if_neg c47] at H
                                                exact absurd H (by simp)
                                            · rw [if_neg c46] at H
                                              exact absurd H (by simp)
                                          · rw [if_neg c45] at H
                                            exact absurd H (by simp)
                                        · rw [if_neg c43] at H
                                          have c43b0 : decide (x15_5 < (l0.length : Int)) = false := decide_eq_false c43
                                          clear c43
                                          have H' := Aside0.mk H
                                          clear H
                                          go_wp2
                                          repeat (go_quiet (fail); try go_wp2)
                                          go_roundg k5
                                          case measure => have := HK1.out; have := HJ5.out; have := HJ8.out; have := HJ22.out; have := HK5.out; omega
                                          case rel => exact ⟨((rd (rd_L1 t108 0) x23_1)), ((rd (rd_L1 t109 0) x23_1)), (x10_5), (wrap64 (x23_1 + 1)), (by first | rfl | (simp; done) | (simp [*]; done)), (by first | rfl | (simp; done) | (simp [*]; done)), (by first | rfl | (simp; done) | (simp [*]; done)), H', ⟨by have := HK1.out; have := HJ5.out; have := HJ8.out; have := HJ22.out; have := HK5.out; omega⟩, ⟨by (with_reducible repeat (first | apply Kd.R_alloc | apply Kd.R_drewN | apply Kd.R_drew)); exact HO_10.out⟩, ⟨by repeat (first | (with_reducible first | exact HB.out | apply below_alloc | apply pw_below_drewN | apply below_drew1) | exact HB.out)⟩⟩
                                  · rw [if_neg c38] at H
                                    exact absurd H (by simp)
                                · rw [if_neg c37] at H
                                  exact absurd H (by simp)
                              · rw [if_neg c36] at H
                                exact absurd H (by simp)
                            · rw [if_neg c35] at H
                              exact absurd H (by simp)
                          · rw [if_neg c34] at H
                            exact absurd H (by simp)
        · rw [if_neg c4] at H
          have c4b0 : decide (x23_1 < ((rd_L1 l0 0).length : Int)) = false := decide_eq_false c4
          clear c4
          simp only [Option.some.injEq, Prod.mk.injEq] at H
          obtain ⟨rfl, rfl, rfl, rfl⟩ := H
          go_wp2
          repeat (go_quiet (fail); try go_wp2)
          refine bodyPost_ret (results_list (rs := [.tmp 4, .tmp 5, .tmp 6, .tmp 7]) rfl (by simp) (.tmp (.tmp (.tmp (.tmp .nil))))) rfl ?_
          exact ⟨_, by first | rfl | (simp [errW_none, errW_some] <;> rfl) | (simp [*, errW_none, errW_some] <;> rfl), by (with_reducible repeat (first | apply Kd.R_alloc | apply Kd.R_drewN | apply Kd.R_drew)); exact HO_10.out, by repeat (first | (with_reducible first | exact HB.out | apply below_alloc | apply pw_below_drewN | apply below_drew1) | exact HB.out)⟩
  · rw [if_neg c3] at H
    exact absurd H (by simp)

end Go.Proofs.Ytbchfajbobploaa.MC
