-- The machine side, written by this repo's program mp.py; contracts marked as of this repo are this session's own.
import Derived.Test.YtbchfajbobploaaMQx0
import Derived.Test.YtbchfajbobploaaMQx3
import Derived.Test.YtbchfajbobploaaMQx6
namespace Go.Proofs.Ytbchfajbobploaa.MQ
open Go.RowKit Go.Proofs.YtbchfajbobploaaW.PrintWords Go.Proofs.YtbchfajbobploaaW.PrintLast Go.Proofs.YtbchfajbobploaaW.PrintMore
attribute [local go_sem] max2_int min2_int max_two min_two max_three min_three max_four min_four   -- for this text's walks alone
set_option linter.unusedVariables false
set_option linter.unusedSimpArgs false

/-! ### impl_bestPaint: function 69 -/
mutual
def impl_bestPaint.l0 : Nat → List (List Int) → Bool → Int → Int → List Int → Int → Int → Option (Int × List Int × Int × Bool)
  | 0, _, _, _, _, _, _, _ => none
  | k + 1, x0, x1, x8, x9, x10, x22, x23 => if x23 < x22 then ((impl_isRing.f (x0.length : Int) x1).bind fun t178 => (if t178 = true then (impl_bestPaint.j1 k x0 x1 x8 x9 x10 x23 x23 x22 x23) else (impl_bestPaint.j1 k x0 x1 x8 x9 x10 x23 (-1) x22 x23))) else (some (x8, x10, x9, decide (x9 > 0)))
def impl_bestPaint.j1 : Nat → List (List Int) → Bool → Int → Int → List Int → Int → Int → Int → Int → Option (Int × List Int × Int × Bool)
  | 0, _, _, _, _, _, _, _, _, _ => none
  | k + 1, x0, x1, x8, x9, x10, x11, x12, x22, x23 => (impl_paintFrom.f k x0 x12).bind fun bt179 => (if 0 < (bt179.2.length : Int) then (if 0 ≤ x11 then (if x11 < ((rd_L1 bt179.2 0).length : Int) then (if (rd (rd_L1 bt179.2 0) x11) = 0 then (impl_bestPaint.j2 k x0 x1 x8 x9 x10 x11 bt179.1 bt179.2 x22 x23 true) else (if x9 > 0 then (if 0 < (bt179.1.length : Int) then (if x11 < ((rd_L1 bt179.1 0).length : Int) then (impl_bestPaint.j2 k x0 x1 x8 x9 x10 x11 bt179.1 bt179.2 x22 x23 (decide ((rd (rd_L1 bt179.1 0) x11) > x8))) else (none)) else (none)) else (impl_bestPaint.j2 k x0 x1 x8 x9 x10 x11 bt179.1 bt179.2 x22 x23 false))) else (none)) else (none)) else (none))
def impl_bestPaint.j2 : Nat → List (List Int) → Bool → Int → Int → List Int → Int → List (List Int) → List (List Int) → Int → Int → Bool → Option (Int × List Int × Int × Bool)
  | 0, _, _, _, _, _, _, _, _, _, _, _ => none
  | k + 1, x0, x1, x8, x9, x10, x11, x13, x14, x22, x23, x57 => if x57 = true then (impl_bestPaint.l0 k x0 x1 x8 x9 x10 x22 (wrap64 (x23 + 1))) else (if x9 > 0 then (if 0 < (x13.length : Int) then (if 0 ≤ x11 then (if x11 < ((rd_L1 x13 0).length : Int) then (impl_bestPaint.j3 k x0 x1 x8 x9 x10 x11 x13 x14 x22 x23 ((rd (rd_L1 x13 0) x11) == x8)) else (none)) else (none)) else (none)) else (impl_bestPaint.j3 k x0 x1 x8 x9 x10 x11 x13 x14 x22 x23 false))
def impl_bestPaint.j3 : Nat → List (List Int) → Bool → Int → Int → List Int → Int → List (List Int) → List (List Int) → Int → Int → Bool → Option (Int × List Int × Int × Bool)
  | 0, _, _, _, _, _, _, _, _, _, _, _ => none
  | k + 1, x0, x1, x8, x9, x10, x11, x13, x14, x22, x23, x69 => if x69 = true then (if 0 < (x14.length : Int) then (if 0 ≤ x11 then (if x11 < ((rd_L1 x14 0).length : Int) then (impl_bestPaint.l0 k x0 x1 x8 (wrap64 (x9 + (rd (rd_L1 x14 0) x11))) x10 x22 (wrap64 (x23 + 1))) else (none)) else (none)) else (none)) else (if 0 < (x13.length : Int) then (if 0 ≤ x11 then (if x11 < ((rd_L1 x13 0).length : Int) then (if 0 < (x14.length : Int) then (if x11 < ((rd_L1 x14 0).length : Int) then (impl_bestPaint.l1 k x0 x1 (rd (rd_L1 x13 0) x11) (rd (rd_L1 x14 0) x11) (([x11] : List Int)) x13 x14 1 x22 x23) else (none)) else (none)) else (none)) else (none)) else (none))
def impl_bestPaint.l1 : Nat → List (List Int) → Bool → Int → Int → List Int → List (List Int) → List (List Int) → Int → Int → Int → Option (Int × List Int × Int × Bool)
  | 0, _, _, _, _, _, _, _, _, _, _ => none
  | k + 1, x0, x1, x8, x9, x10, x13, x14, x15, x22, x23 => if x15 < (x0.length : Int) then (if 0 ≤ (wrap64 (x15 - 1)) then (if (wrap64 (x15 - 1)) < (x10.length : Int) then (if (wrap64 (x15 - 1)) < (x13.length : Int) then (if 0 ≤ (rd x10 (wrap64 (x15 - 1))) then (if (rd x10 (wrap64 (x15 - 1))) < ((rd_L1 x13 (wrap64 (x15 - 1))).length : Int) then (if (wrap64 (x15 - 1)) < (x0.length : Int) then (if (rd x10 (wrap64 (x15 - 1))) < ((rd_L1 x0 (wrap64 (x15 - 1))).length : Int) then (if 0 ≤ x15 then (impl_bestPaint.l2 k x0 x1 x8 x9 x10 x13 x14 x15 (rd x10 (wrap64 (x15 - 1))) (wrap64 ((rd (rd_L1 x13 (wrap64 (x15 - 1))) (rd x10 (wrap64 (x15 - 1)))) - (rd (rd_L1 x0 (wrap64 (x15 - 1))) (rd x10 (wrap64 (x15 - 1)))))) x22 x23 ((rd_L1 x0 x15).length : Int) 0) else (none)) else (none)) else (none)) else (none)) else (none)) else (none)) else (none)) else (none)) else (impl_bestPaint.l0 k x0 x1 x8 x9 x10 x22 (wrap64 (x23 + 1)))
def impl_bestPaint.l2 : Nat → List (List Int) → Bool → Int → Int → List Int → List (List Int) → List (List Int) → Int → Int → Int → Int → Int → Int → Int → Option (Int × List Int × Int × Bool)
  | 0, _, _, _, _, _, _, _, _, _, _, _, _, _, _ => none
  | k + 1, x0, x1, x8, x9, x10, x13, x14, x15, x16, x17, x22, x23, x124, x125 => if x125 < x124 then (if x125 = x16 then (impl_bestPaint.l2 k x0 x1 x8 x9 x10 x13 x14 x15 x16 x17 x22 x23 x124 (wrap64 (x125 + 1))) else (if 0 ≤ x15 then (if x15 < (x14.length : Int) then (if 0 ≤ x125 then (if x125 < ((rd_L1 x14 x15).length : Int) then (if (rd (rd_L1 x14 x15) x125) > 0 then (if x15 < (x13.length : Int) then (if x125 < ((rd_L1 x13 x15).length : Int) then (if (rd (rd_L1 x13 x15) x125) = x17 then (if x10.length < 17592186044416 then (impl_bestPaint.l1 k x0 x1 x8 x9 (x10 ++ [x125]) x13 x14 (wrap64 (x15 + 1)) x22 x23) else (none)) else (impl_bestPaint.l2 k x0 x1 x8 x9 x10 x13 x14 x15 x16 x17 x22 x23 x124 (wrap64 (x125 + 1)))) else (none)) else (none)) else (impl_bestPaint.l2 k x0 x1 x8 x9 x10 x13 x14 x15 x16 x17 x22 x23 x124 (wrap64 (x125 + 1)))) else (none)) else (none)) else (none)) else (none))) else (impl_bestPaint.l1 k x0 x1 x8 x9 x10 x13 x14 (wrap64 (x15 + 1)) x22 x23)
end
def impl_bestPaint.f (k : Nat) (l0 : List (List Int)) (a1 : Bool) : Option (Int × List Int × Int × Bool) := if 0 < (l0.length : Int) then (impl_bestPaint.l0 k l0 a1 0 0 ([] : List Int) ((rd_L1 l0 0).length : Int) 0) else (none)
theorem impl_bestPaint.mono_l : ∀ k, (∀ y0 y1 y2 y3 y4 y5 y6, LeO (impl_bestPaint.l0 k y0 y1 y2 y3 y4 y5 y6) (impl_bestPaint.l0 (k + 1) y0 y1 y2 y3 y4 y5 y6)) ∧ (∀ y0 y1 y2 y3 y4 y5 y6 y7 y8, LeO (impl_bestPaint.j1 k y0 y1 y2 y3 y4 y5 y6 y7 y8) (impl_bestPaint.j1 (k + 1) y0 y1 y2 y3 y4 y5 y6 y7 y8)) ∧ (∀ y0 y1 y2 y3 y4 y5 y6 y7 y8 y9 y10, LeO (impl_bestPaint.j2 k y0 y1 y2 y3 y4 y5 y6 y7 y8 y9 y10) (impl_bestPaint.j2 (k + 1) y0 y1 y2 y3 y4 y5 y6 y7 y8 y9 y10)) ∧ (∀ y0 y1 y2 y3 y4 y5 y6 y7 y8 y9 y10, LeO (impl_bestPaint.j3 k y0 y1 y2 y3 y4 y5 y6 y7 y8 y9 y10) (impl_bestPaint.j3 (k + 1) y0 y1 y2 y3 y4 y5 y6 y7 y8 y9 y10)) ∧ (∀ y0 y1 y2 y3 y4 y5 y6 y7 y8 y9, LeO (impl_bestPaint.l1 k y0 y1 y2 y3 y4 y5 y6 y7 y8 y9) (impl_bestPaint.l1 (k + 1) y0 y1 y2 y3 y4 y5 y6 y7 y8 y9)) ∧ (∀ y0 y1 y2 y3 y4 y5 y6 y7 y8 y9 y10 y11 y12 y13, LeO (impl_bestPaint.l2 k y0 y1 y2 y3 y4 y5 y6 y7 y8 y9 y10 y11 y12 y13) (impl_bestPaint.l2 (k + 1) y0 y1 y2 y3 y4 y5 y6 y7 y8 y9 y10 y11 y12 y13))
  | 0 => ⟨fun _ _ _ _ _ _ _ r h => by simp [impl_bestPaint.l0] at h, fun _ _ _ _ _ _ _ _ _ r h => by simp [impl_bestPaint.j1] at h, fun _ _ _ _ _ _ _ _ _ _ _ r h => by simp [impl_bestPaint.j2] at h, fun _ _ _ _ _ _ _ _ _ _ _ r h => by simp [impl_bestPaint.j3] at h, fun _ _ _ _ _ _ _ _ _ _ r h => by simp [impl_bestPaint.l1] at h, fun _ _ _ _ _ _ _ _ _ _ _ _ _ _ r h => by simp [impl_bestPaint.l2] at h⟩
  | k + 1 => by
    obtain ⟨ih0, ih1, ih2, ih3, ih4, ih5⟩ := impl_bestPaint.mono_l k
    refine ⟨?_, ?_, ?_, ?_, ?_, ?_⟩
    · intro y0 y1 y2 y3 y4 y5 y6
      unfold impl_bestPaint.l0
      repeat' first
      | (with_reducible exact ih0 _ _ _ _ _ _ _)
      | (with_reducible exact ih1 _ _ _ _ _ _ _ _ _)
      | (with_reducible exact ih2 _ _ _ _ _ _ _ _ _ _ _)
      | (with_reducible exact ih3 _ _ _ _ _ _ _ _ _ _ _)
      | (with_reducible exact ih4 _ _ _ _ _ _ _ _ _ _)
      | (with_reducible exact ih5 _ _ _ _ _ _ _ _ _ _ _ _ _ _)
      | (with_reducible exact impl_paintFrom.mono _ _ _)
      | (with_reducible exact LeO.refl _)
      | (with_reducible exact LeO.none _)
      | (with_reducible refine LeO.ite ?_ ?_)
      | (with_reducible refine LeO.bind ?_ (fun _ => ?_))
      | exact ih0 _ _ _ _ _ _ _
      | exact ih1 _ _ _ _ _ _ _ _ _
      | exact ih2 _ _ _ _ _ _ _ _ _ _ _
      | exact ih3 _ _ _ _ _ _ _ _ _ _ _
      | exact ih4 _ _ _ _ _ _ _ _ _ _
      | exact ih5 _ _ _ _ _ _ _ _ _ _ _ _ _ _
      | exact impl_paintFrom.mono _ _ _
      | exact LeO.none _
      | refine LeO.ite ?_ ?_
      | refine LeO.bind ?_ (fun _ => ?_)
    · intro y0 y1 y2 y3 y4 y5 y6 y7 y8
      unfold impl_bestPaint.j1
      repeat' first
      | (with_reducible exact ih0 _ _ _ _ _ _ _)
      | (with_reducible exact ih1 _ _ _ _ _ _ _ _ _)
      | (with_reducible exact ih2 _ _ _ _ _ _ _ _ _ _ _)
      | (with_reducible exact ih3 _ _ _ _ _ _ _ _ _ _ _)
      | (with_reducible exact ih4 _ _ _ _ _ _ _ _ _ _)
      | (with_reducible exact ih5 _ _ _ _ _ _ _ _ _ _ _ _ _ _)
      | (with_reducible exact impl_paintFrom.mono _ _ _)
      | (with_reducible exact LeO.refl _)
      | (with_reducible exact LeO.none _)
      | (with_reducible refine LeO.ite ?_ ?_)
      | (with_reducible refine LeO.bind ?_ (fun _ => ?_))
      | exact ih0 _ _ _ _ _ _ _
      | exact ih1 _ _ _ _ _ _ _ _ _
      | exact ih2 _ _ _ _ _ _ _ _ _ _ _
      | exact ih3 _ _ _ _ _ _ _ _ _ _ _
      | exact ih4 _ _ _ _ _ _ _ _ _ _
      | exact ih5 _ _ _ _ _ _ _ _ _ _ _ _ _ _
      | exact impl_paintFrom.mono _ _ _
      | exact LeO.none _
      | refine LeO.ite ?_ ?_
      | refine LeO.bind ?_ (fun _ => ?_)
    · intro y0 y1 y2 y3 y4 y5 y6 y7 y8 y9 y10
      unfold impl_bestPaint.j2
      repeat' first
      | (with_reducible exact ih0 _ _ _ _ _ _ _)
      | (with_reducible exact ih1 _ _ _ _ _ _ _ _ _)
      | (with_reducible exact ih2 _ _ _ _ _ _ _ _ _ _ _)
      | (with_reducible exact ih3 _ _ _ _ _ _ _ _ _ _ _)
      | (with_reducible exact ih4 _ _ _ _ _ _ _ _ _ _)
      | (with_reducible exact ih5 _ _ _ _ _ _ _ _ _ _ _ _ _ _)
      | (with_reducible exact impl_paintFrom.mono _ _ _)
      | (with_reducible exact LeO.refl _)
      | (with_reducible exact LeO.none _)
      | (with_reducible refine LeO.ite ?_ ?_)
      | (with_reducible refine LeO.bind ?_ (fun _ => ?_))
      | exact ih0 _ _ _ _ _ _ _
      | exact ih1 _ _ _ _ _ _ _ _ _
      | exact ih2 _ _ _ _ _ _ _ _ _ _ _
      | exact ih3 _ _ _ _ _ _ _ _ _ _ _
      | exact ih4 _ _ _ _ _ _ _ _ _ _
      | exact ih5 _ _ _ _ _ _ _ _ _ _ _ _ _ _
      | exact impl_paintFrom.mono _ _ _
      | exact LeO.none _
      | refine LeO.ite ?_ ?_
      | refine LeO.bind ?_ (fun _ => ?_)
    · intro y0 y1 y2 y3 y4 y5 y6 y7 y8 y9 y10
      unfold impl_bestPaint.j3
      repeat' first
      | (with_reducible exact ih0 _ _ _ _ _ _ _)
      | (with_reducible exact ih1 _ _ _ _ _ _ _ _ _)
      | (with_reducible exact ih2 _ _ _ _ _ _ _ _ _ _ _)
      | (with_reducible exact ih3 _ _ _ _ _ _ _ _ _ _ _)
      | (with_reducible exact ih4 _ _ _ _ _ _ _ _ _ _)
      | (with_reducible exact ih5 _ _ _ _ _ _ _ _ _ _ _ _ _ _)
      | (with_reducible exact impl_paintFrom.mono _ _ _)
      | (with_reducible exact LeO.refl _)
      | (with_reducible exact LeO.none _)
      | (with_reducible refine LeO.ite ?_ ?_)
      | (with_reducible refine LeO.bind ?_ (fun _ => ?_))
      | exact ih0 _ _ _ _ _ _ _
      | exact ih1 _ _ _ _ _ _ _ _ _
      | exact ih2 _ _ _ _ _ _ _ _ _ _ _
      | exact ih3 _ _ _ _ _ _ _ _ _ _ _
      | exact ih4 _ _ _ _ _ _ _ _ _ _
      | exact ih5 _ _ _ _ _ _ _ _ _ _ _ _ _ _
      | exact impl_paintFrom.mono _ _ _
      | exact LeO.none _
      | refine LeO.ite ?_ ?_
      | refine LeO.bind ?_ (fun _ => ?_)
    · intro y0 y1 y2 y3 y4 y5 y6 y7 y8 y9
      unfold impl_bestPaint.l1
      repeat' first
      | (with_reducible exact ih0 _ _ _ _ _ _ _)
      | (with_reducible exact ih1 _ _ _ _ _ _ _ _ _)
      | (with_reducible exact ih2 _ _ _ _ _ _ _ _ _ _ _)
      | (with_reducible exact ih3 _ _ _ _ _ _ _ _ _ _ _)
      | (with_reducible exact ih4 _ _ _ _ _ _ _ _ _ _)
      | (with_reducible exact ih5 _ _ _ _ _ _ _ _ _ _ _ _ _ _)
      | (with_reducible exact impl_paintFrom.mono _ _ _)
      | (with_reducible exact LeO.refl _)
      | (with_reducible exact LeO.none _)
      | (with_reducible refine LeO.ite ?_ ?_)
      | (with_reducible refine LeO.bind ?_ (fun _ => ?_))
      | exact ih0 _ _ _ _ _ _ _
      | exact ih1 _ _ _ _ _ _ _ _ _
      | exact ih2 _ _ _ _ _ _ _ _ _ _ _
      | exact ih3 _ _ _ _ _ _ _ _ _ _ _
      | exact ih4 _ _ _ _ _ _ _ _ _ _
      | exact ih5 _ _ _ _ _ _ _ _ _ _ _ _ _ _
      | exact impl_paintFrom.mono _ _ _
      | exact LeO.none _
      | refine LeO.ite ?_ ?_
      | refine LeO.bind ?_ (fun _ => ?_)
    · intro y0 y1 y2 y3 y4 y5 y6 y7 y8 y9 y10 y11 y12 y13
      unfold impl_bestPaint.l2
      repeat' first
      | (with_reducible exact ih0 _ _ _ _ _ _ _)
      | (with_reducible exact ih1 _ _ _ _ _ _ _ _ _)
      | (with_reducible exact ih2 _ _ _ _ _ _ _ _ _ _ _)
      | (with_reducible exact ih3 _ _ _ _ _ _ _ _ _ _ _)
      | (with_reducible exact ih4 _ _ _ _ _ _ _ _ _ _)
      | (with_reducible exact ih5 _ _ _ _ _ _ _ _ _ _ _ _ _ _)
      | (with_reducible exact impl_paintFrom.mono _ _ _)
      | (with_reducible exact LeO.refl _)
      | (with_reducible exact LeO.none _)
      | (with_reducible refine LeO.ite ?_ ?_)
      | (with_reducible refine LeO.bind ?_ (fun _ => ?_))
      | exact ih0 _ _ _ _ _ _ _
      | exact ih1 _ _ _ _ _ _ _ _ _
      | exact ih2 _ _ _ _ _ _ _ _ _ _ _
      | exact ih3 _ _ _ _ _ _ _ _ _ _ _
      | exact ih4 _ _ _ _ _ _ _ _ _ _
      | exact ih5 _ _ _ _ _ _ _ _ _ _ _ _ _ _
      | exact impl_paintFrom.mono _ _ _
      | exact LeO.none _
      | refine LeO.ite ?_ ?_
      | refine LeO.bind ?_ (fun _ => ?_)
theorem impl_bestPaint.mono : ∀ a0 a1 k, LeO (impl_bestPaint.f k a0 a1) (impl_bestPaint.f (k + 1) a0 a1) := by
  intro a0 a1 k
  obtain ⟨ih0, ih1, ih2, ih3, ih4, ih5⟩ := impl_bestPaint.mono_l k
  unfold impl_bestPaint.f
  repeat' first
      | (with_reducible exact ih0 _ _ _ _ _ _ _)
      | (with_reducible exact ih1 _ _ _ _ _ _ _ _ _)
      | (with_reducible exact ih2 _ _ _ _ _ _ _ _ _ _ _)
      | (with_reducible exact ih3 _ _ _ _ _ _ _ _ _ _ _)
      | (with_reducible exact ih4 _ _ _ _ _ _ _ _ _ _)
      | (with_reducible exact ih5 _ _ _ _ _ _ _ _ _ _ _ _ _ _)
      | (with_reducible exact impl_paintFrom.mono _ _ _)
      | (with_reducible exact LeO.refl _)
      | (with_reducible exact LeO.none _)
      | (with_reducible refine LeO.ite ?_ ?_)
      | (with_reducible refine LeO.bind ?_ (fun _ => ?_))
      | exact ih0 _ _ _ _ _ _ _
      | exact ih1 _ _ _ _ _ _ _ _ _
      | exact ih2 _ _ _ _ _ _ _ _ _ _ _
      | exact ih3 _ _ _ _ _ _ _ _ _ _ _
      | exact ih4 _ _ _ _ _ _ _ _ _ _
      | exact ih5 _ _ _ _ _ _ _ _ _ _ _ _ _ _
      | exact impl_paintFrom.mono _ _ _
      | exact LeO.none _
      | refine LeO.ite ?_ ?_
      | refine LeO.bind ?_ (fun _ => ?_)
set_option maxHeartbeats 8000000 in
set_option maxRecDepth 100000 in
theorem impl_bestPaint.calls (k : Nat) (A0 : Option Addr) (c0 : Nat) (l0 : List (List Int)) (a1 : Bool) (r1 : Int) (r2 : List Int) (r3 : Int) (r4 : Bool) (w : World) (hr0 : Kd.C (Kd.slice 3 (Kd.int .i64)) w A0 l0.length l0) (hc0 : l0.length ≤ c0) (h : impl_bestPaint.f k l0 a1 = some (r1, r2, r3, r4)) :
    Calls Try.prog 69 #[.slice A0 l0.length c0, .bool a1] w fun e w' => ∃ v1_ : Value, e = .returned (.tuple #[.int .i64 r1, v1_, .int .i64 r3, .bool r4]) ∧ Kd.R (Kd.int .i64) 3 w' w.heap.size (fun _ => True) v1_ r2 ∧ Below w.heap.size w w' := by
  have HR0 := Aside0.mk hr0
  have HC0 := Aside0.mk hc0
  clear hr0 hc0
  have HB := Aside0.mk (Below.refl w.heap.size w)
  have H : (if 0 < (l0.length : Int) then (impl_bestPaint.l0 k l0 a1 0 0 ([] : List Int) ((rd_L1 l0 0).length : Int) 0) else (none)) = some (r1, r2, r3, r4) := h
  clear h
  by_cases c3 : 0 < (l0.length : Int)
  · rw [if_pos c3] at H
    have c3b0 : decide (0 < (l0.length : Int)) = true := decide_eq_true c3
    have c3b1 : decide (0 < l0.length) = true := decide_eq_true (by omega)
    clear c3
    have H' := Aside0.mk H
    clear H
    have p177 : 0 ≤ (0 : Int) := (by omega)
    have q177 : 0 < (l0.length : Int) := of_decide_eq_true (by first | (with_reducible assumption) | assumption)
    obtain ⟨ad177, A177_0, c177_0, e177, hx177_0, hl177_0, hi177_0⟩ := at_L1 HR0.out 0 p177 q177
    cases e177
    have qi177 : (0 < l0.length) = True := eq_true (by omega)
    (try rw [show ((0 : Int)).toNat = 0 from rfl] at hx177_0)
    (try rw [Addr.add_zero'] at hx177_0)
    have HR177_0 := Aside0.mk hi177_0
    have HC177_0 := Aside0.mk hl177_0
    clear hi177_0 hl177_0
    replace p177 := eq_true p177
    replace q177 := eq_true q177
    go_enter Try.func69, Try.ntmps69
    go_wp2
    repeat (go_quiet (fail); try go_wp2)
    go_loopg [8, 9, 10, 23] k (fun kq v8 v9 v10 v23 w' => ∃ (x8_1 : Int) (x9_1 : Int) (x10_1 : List Int) (x23_1 : Int), v8 = .int .i64 x8_1 ∧ v9 = .int .i64 x9_1 ∧ v23 = .int .i64 x23_1 ∧ Aside0 (impl_bestPaint.l0 kq l0 a1 x8_1 x9_1 x10_1 ((rd_L1 l0 0).length : Int) x23_1 = some (r1, r2, r3, r4)) ∧ Aside0 (kq ≤ k) ∧ Aside0 (Kd.R (Kd.int .i64) 3 w' w.heap.size (fun _ => True) v10 x10_1) ∧ Aside0 (Below w.heap.size w w'))
    case atStart => exact ⟨(0), (0), (([] : List Int)), (0), (by first | rfl | (simp; done) | (simp [*]; done)), (by first | rfl | (simp; done) | (simp [*]; done)), (by first | rfl | (simp; done) | (simp [*]; done)), H', ⟨Nat.le_refl _⟩, ⟨by first | exact Kd.R_nil _ _ _ _ _ | exact Kd.N_nil _ _ _ _ _ | exact Kd.V_nil _ _ _ _ _ | exact Kd.Q_nil _ _ _ _ _ | exact Kd.S_nil _ _ _ _ _⟩, ⟨by repeat (first | (with_reducible first | exact HB.out | apply below_alloc | apply pw_below_drewN | apply below_drew1) | exact HB.out)⟩⟩
    case round =>
      clear H'
      try clear c1
      try clear p1
      try clear q1
      try clear hx1
      try clear qi1
      try clear p2
      try clear c3
      try clear c3b0
      try clear c3b1
      try clear hx177_0
      try clear p177
      try clear q177
      obtain ⟨x8_1, x9_1, x10_1, x23_1, rfl, rfl, rfl, HA, HK1, HO_10, HB⟩ := hrel
      cases gk with
      | zero => exact absurd HA.out (by simp [impl_bestPaint.l0])
      | succ k1 =>
        have H := HA.out
        clear HA
        simp only [impl_bestPaint.l0] at H
        by_cases c4 : x23_1 < ((rd_L1 l0 0).length : Int)
        · rw [if_pos c4] at H
          have c4b0 : decide (x23_1 < ((rd_L1 l0 0).length : Int)) = true := decide_eq_true c4
          clear c4
          replace H := Option.bind_eq_some_iff.mp H
          obtain ⟨t178, A50, H⟩ := H
          replace H : (if t178 = true then (impl_bestPaint.j1 k1 l0 a1 x8_1 x9_1 x10_1 x23_1 x23_1 ((rd_L1 l0 0).length : Int) x23_1) else (impl_bestPaint.j1 k1 l0 a1 x8_1 x9_1 x10_1 x23_1 (-1) ((rd_L1 l0 0).length : Int) x23_1)) = some (r1, r2, r3, r4) := H
          have A5 := Aside0.mk A50
          clear A50
          have HC6 := Aside0.mk H
          clear H
          go_upto_if 29 with (first | (go_at_call 52; (with_reducible refine (impl_isRing.calls (l0.length : Int) a1 t178 _ A5.out).mono ?_); rintro e w' ⟨rfl, ⟨nd, rfl⟩⟩; (try first | exact ⟨rfl, _, World.drewN_drewN _ _ _⟩ | exact ⟨rfl, _, Eq.trans (World.drewN_drewN _ _ _) (congrArg (World.drewN _) (Nat.add_assoc _ _ _))⟩)))
          repeat (go_quiet (first | (go_at_call 52; (with_reducible refine (impl_isRing.calls (l0.length : Int) a1 t178 _ A5.out).mono ?_); rintro e w' ⟨rfl, ⟨nd, rfl⟩⟩; (try first | exact ⟨rfl, _, World.drewN_drewN _ _ _⟩ | exact ⟨rfl, _, Eq.trans (World.drewN_drewN _ _ _) (congrArg (World.drewN _) (Nat.add_assoc _ _ _))⟩))); go_upto_if 29 with (first | (go_at_call 52; (with_reducible refine (impl_isRing.calls (l0.length : Int) a1 t178 _ A5.out).mono ?_); rintro e w' ⟨rfl, ⟨nd, rfl⟩⟩; (try first | exact ⟨rfl, _, World.drewN_drewN _ _ _⟩ | exact ⟨rfl, _, Eq.trans (World.drewN_drewN _ _ _) (congrArg (World.drewN _) (Nat.add_assoc _ _ _))⟩))))
          (try simp only [Act.put, List.setIfInBounds_toArray, List.set_cons_zero, List.set_cons_succ])
          go_cut [12] (fun v12 wc => ∃ (kq : Nat) (x12_5 : Int), v12 = .int .i64 x12_5 ∧ Aside0 (impl_bestPaint.j1 kq l0 a1 x8_1 x9_1 x10_1 x23_1 x12_5 ((rd_L1 l0 0).length : Int) x23_1 = some (r1, r2, r3, r4)) ∧ Aside0 (kq ≤ k1) ∧ Aside0 (Kd.R (Kd.int .i64) 3 wc w.heap.size (fun _ => True) u10 x10_1) ∧ Aside0 (Below w.heap.size w wc))
          case first =>
            have H := HC6.out
            clear HC6
            by_cases c7 : t178 = true
            · subst c7
              have H1 : (impl_bestPaint.j1 k1 l0 a1 x8_1 x9_1 x10_1 x23_1 x23_1 ((rd_L1 l0 0).length : Int) x23_1) = some (r1, r2, r3, r4) := by rw [if_pos rfl] at H; exact H
              clear H
              have H := H1
              clear H1
              have H' := Aside0.mk H
              clear H
              go_wp2
              repeat (go_quiet (fail); try go_wp2)
              go_meet
              case rel => exact ⟨_, (x23_1), (by first | rfl | (simp; done) | (simp [*]; done)), H', ⟨by have := HK1.out; first | omega | exact Nat.le_refl _⟩, ⟨by (with_reducible repeat (first | apply Kd.R_alloc | apply Kd.R_drewN | apply Kd.R_drew)); exact HO_10.out⟩, ⟨by repeat (first | (with_reducible first | exact HB.out | apply below_alloc | apply pw_below_drewN | apply below_drew1) | exact HB.out)⟩⟩
            · replace c7 := Bool.eq_false_iff.mpr c7
              subst c7
              have H1 : (impl_bestPaint.j1 k1 l0 a1 x8_1 x9_1 x10_1 x23_1 (-1) ((rd_L1 l0 0).length : Int) x23_1) = some (r1, r2, r3, r4) := by rw [if_neg (show ¬ (false = true) by decide)] at H; exact H
              clear H
              have H := H1
              clear H1
              have H' := Aside0.mk H
              clear H
              go_wp2
              repeat (go_quiet (fail); try go_wp2)
              go_meet
              case rel => exact ⟨_, ((-1)), (by first | rfl | (simp; done) | (simp [*]; done)), H', ⟨by have := HK1.out; first | omega | exact Nat.le_refl _⟩, ⟨by (with_reducible repeat (first | apply Kd.R_alloc | apply Kd.R_drewN | apply Kd.R_drew)); exact HO_10.out⟩, ⟨by repeat (first | (with_reducible first | exact HB.out | apply below_alloc | apply pw_below_drewN | apply below_drew1) | exact HB.out)⟩⟩
          case rest =>
            clear HC6
            try clear c1
            try clear p1
            try clear q1
            try clear hx1
            try clear qi1
            try clear p2
            try clear c3
            try clear c3b0
            try clear c3b1
            try clear c4
            try clear c4b0
            try clear c6
            try clear c7
            try clear hx177_0
            try clear p1
            try clear p177
            try clear p2
            try clear q1
            try clear q177
            obtain ⟨kq, x12_5, rfl, HA, HJ5, HO_10, HB⟩ := hcut
            cases kq with
            | zero => exact absurd HA.out (by simp [impl_bestPaint.j1])
            | succ kj5 =>
              have H := HA.out
              clear HA
              simp only [impl_bestPaint.j1] at H
              replace H := Option.bind_eq_some_iff.mp H
              obtain ⟨⟨t179, t180⟩, A80, H⟩ := H
              replace H : (if 0 < (t180.length : Int) then (if 0 ≤ x23_1 then (if x23_1 < ((rd_L1 t180 0).length : Int) then (if (rd (rd_L1 t180 0) x23_1) = 0 then (impl_bestPaint.j2 kj5 l0 a1 x8_1 x9_1 x10_1 x23_1 t179 t180 ((rd_L1 l0 0).length : Int) x23_1 true) else (if x9_1 > 0 then (if 0 < (t179.length : Int) then (if x23_1 < ((rd_L1 t179 0).length : Int) then (impl_bestPaint.j2 kj5 l0 a1 x8_1 x9_1 x10_1 x23_1 t179 t180 ((rd_L1 l0 0).length : Int) x23_1 (decide ((rd (rd_L1 t179 0) x23_1) > x8_1))) else (none)) else (none)) else (impl_bestPaint.j2 kj5 l0 a1 x8_1 x9_1 x10_1 x23_1 t179 t180 ((rd_L1 l0 0).length : Int) x23_1 false))) else (none)) else (none)) else (none)) = some (r1, r2, r3, r4) := H
              have A8 := Aside0.mk A80
              clear A80
              have HC9 := Aside0.mk H
              clear H
              go_upto_region 10 with (first | (go_at_call 78; (with_reducible refine (impl_paintFrom.calls kj5 _ _ l0 x12_5 t179 t180 _ ?side1 ?side2 A8.out).mono ?_); (case side1 => repeat (first | exact (Kd.C_below HR0.out HB.out) | (with_reducible refine Kd.C_alloc ?_ _) | (with_reducible refine Kd.C_drewN ?_ _) | (with_reducible refine Kd.C_drew ?_))); (case side2 => exact HC0.out); rintro e w10 ⟨v181, v183, rfl, ho0, ho1, hb⟩; have n0_ := Aside0.mk (Kd.R_below (by (with_reducible repeat (first | apply Kd.R_alloc | apply Kd.R_drewN | apply Kd.R_drew)); exact HO_10.out) hb); have n1_ := Aside0.mk (Kd.S_lower (Kd.S_new' ho0 (Kd.R_lt (by (with_reducible repeat (first | apply Kd.R_alloc | apply Kd.R_drewN | apply Kd.R_drew)); exact HO_10.out))) (below_size (by repeat (first | (with_reducible first | exact HB.out | apply below_alloc | apply pw_below_drewN | apply below_drew1) | exact HB.out)))); have n2_ := Aside0.mk (Kd.S_lower (Kd.S_new' ho1 (Kd.R_lt (by (with_reducible repeat (first | apply Kd.R_alloc | apply Kd.R_drewN | apply Kd.R_drew)); exact HO_10.out))) (below_size (by repeat (first | (with_reducible first | exact HB.out | apply below_alloc | apply pw_below_drewN | apply below_drew1) | exact HB.out)))); have n3_ := Aside0.mk (below_step (by repeat (first | (with_reducible first | exact HB.out | apply below_alloc | apply pw_below_drewN | apply below_drew1) | exact HB.out)) hb); clear HO_10; clear HB; have HO_10 := n0_; have HO182 := n1_; have HO184 := n2_; have HB := n3_; clear n0_ n1_ n2_ n3_; (try clear hb); (try clear hb2); (try clear hk); (try clear hi); (try clear ho0); (try clear ho1)))
              repeat (go_quiet (first | (go_at_call 78; (with_reducible refine (impl_paintFrom.calls kj5 _ _ l0 x12_5 t179 t180 _ ?side1 ?side2 A8.out).mono ?_); (case side1 => repeat (first | exact (Kd.C_below HR0.out HB.out) | (with_reducible refine Kd.C_alloc ?_ _) | (with_reducible refine Kd.C_drewN ?_ _) | (with_reducible refine Kd.C_drew ?_))); (case side2 => exact HC0.out); rintro e w10 ⟨v181, v183, rfl, ho0, ho1, hb⟩; have n0_ := Aside0.mk (Kd.R_below (by (with_reducible repeat (first | apply Kd.R_alloc | apply Kd.R_drewN | apply Kd.R_drew)); exact HO_10.out) hb); have n1_ := Aside0.mk (Kd.S_lower (Kd.S_new' ho0 (Kd.R_lt (by (with_reducible repeat (first | apply Kd.R_alloc | apply Kd.R_drewN | apply Kd.R_drew)); exact HO_10.out))) (below_size (by repeat (first | (with_reducible first | exact HB.out | apply below_alloc | apply pw_below_drewN | apply below_drew1) | exact HB.out)))); have n2_ := Aside0.mk (Kd.S_lower (Kd.S_new' ho1 (Kd.R_lt (by (with_reducible repeat (first | apply Kd.R_alloc | apply Kd.R_drewN | apply Kd.R_drew)); exact HO_10.out))) (below_size (by repeat (first | (with_reducible first | exact HB.out | apply below_alloc | apply pw_below_drewN | apply below_drew1) | exact HB.out)))); have n3_ := Aside0.mk (below_step (by repeat (first | (with_reducible first | exact HB.out | apply below_alloc | apply pw_below_drewN | apply below_drew1) | exact HB.out)) hb); clear HO_10; clear HB; have HO_10 := n0_; have HO182 := n1_; have HO184 := n2_; have HB := n3_; clear n0_ n1_ n2_ n3_; (try clear hb); (try clear hb2); (try clear hk); (try clear hi); (try clear ho0); (try clear ho1))); go_upto_region 10 with (first | (go_at_call 78; (with_reducible refine (impl_paintFrom.calls kj5 _ _ l0 x12_5 t179 t180 _ ?side1 ?side2 A8.out).mono ?_); (case side1 => repeat (first | exact (Kd.C_below HR0.out HB.out) | (with_reducible refine Kd.C_alloc ?_ _) | (with_reducible refine Kd.C_drewN ?_ _) | (with_reducible refine Kd.C_drew ?_))); (case side2 => exact HC0.out); rintro e w10 ⟨v181, v183, rfl, ho0, ho1, hb⟩; have n0_ := Aside0.mk (Kd.R_below (by (with_reducible repeat (first | apply Kd.R_alloc | apply Kd.R_drewN | apply Kd.R_drew)); exact HO_10.out) hb); have n1_ := Aside0.mk (Kd.S_lower (Kd.S_new' ho0 (Kd.R_lt (by (with_reducible repeat (first | apply Kd.R_alloc | apply Kd.R_drewN | apply Kd.R_drew)); exact HO_10.out))) (below_size (by repeat (first | (with_reducible first | exact HB.out | apply below_alloc | apply pw_below_drewN | apply below_drew1) | exact HB.out)))); have n2_ := Aside0.mk (Kd.S_lower (Kd.S_new' ho1 (Kd.R_lt (by (with_reducible repeat (first | apply Kd.R_alloc | apply Kd.R_drewN | apply Kd.R_drew)); exact HO_10.out))) (below_size (by repeat (first | (with_reducible first | exact HB.out | apply below_alloc | apply pw_below_drewN | apply below_drew1) | exact HB.out)))); have n3_ := Aside0.mk (below_step (by repeat (first | (with_reducible first | exact HB.out | apply below_alloc | apply pw_below_drewN | apply below_drew1) | exact HB.out)) hb); clear HO_10; clear HB; have HO_10 := n0_; have HO182 := n1_; have HO184 := n2_; have HB := n3_; clear n0_ n1_ n2_ n3_; (try clear hb); (try clear hb2); (try clear hk); (try clear hi); (try clear ho0); (try clear ho1))))
              (try simp only [Act.put, List.setIfInBounds_toArray, List.set_cons_zero, List.set_cons_succ])
              go_cut [57] (fun v57 wc => ∃ (kq : Nat) (x57_8 : Bool), v57 = .bool x57_8 ∧ Aside0 (impl_bestPaint.j2 kq l0 a1 x8_1 x9_1 x10_1 x23_1 t179 t180 ((rd_L1 l0 0).length : Int) x23_1 x57_8 = some (r1, r2, r3, r4)) ∧ Aside0 (kq ≤ kj5) ∧ Aside0 (Kd.R (Kd.int .i64) 3 wc w.heap.size (fun _ => True) u10 x10_1) ∧ Aside0 (Kd.S (Kd.slice 3 (Kd.int .i64)) 29 wc w.heap.size (fun k_ => some k_ ≠ (u10 : Value).ownBlock ∧ some k_ ≠ (v183 : Value).ownBlock) v181 t179) ∧ Aside0 (Kd.S (Kd.slice 3 (Kd.int .i64)) 29 wc w.heap.size (fun k_ => some k_ ≠ (u10 : Value).ownBlock ∧ some k_ ≠ (v181 : Value).ownBlock) v183 t180) ∧ Aside0 (Below w.heap.size w wc))
              case first =>
                have H := HC9.out
                clear HC9
                by_cases c11 : 0 < (t180.length : Int)
                · rw [if_pos c11] at H
                  have c11b0 : decide (0 < (t180.length : Int)) = true := decide_eq_true c11
                  have c11b1 : decide (0 < t180.length) = true := decide_eq_true (by omega)
                  clear c11
                  (first | rw [c11b0] | (simp only [i64_w, i32_w]; rw [c11b0]) | skip)
                  by_cases c12 : 0 ≤ x23_1
                  · rw [if_pos c12] at H
                    have c12b0 : decide (0 ≤ x23_1) = true := decide_eq_true c12
                    clear c12
                    by_cases c13 : x23_1 < ((rd_L1 t180 0).length : Int)
                    · rw [if_pos c13] at H
                      have c13b0 : decide (x23_1 < ((rd_L1 t180 0).length : Int)) = true := decide_eq_true c13
                      clear c13
                      by_cases c14 : (rd (rd_L1 t180 0) x23_1) = 0
                      · rw [if_pos c14] at H
                        have c14b0 : ((rd (rd_L1 t180 0) x23_1) == 0) = true := beq_iff_eq.mpr c14
                        have c14b1 : ((rd (rd_L1 t180 0) x23_1) != 0) = false := bne_eq_false_iff_eq.mpr c14
                        clear c14
                        have H' := Aside0.mk H
                        clear H
                        obtain ⟨Ao15, co15, eo15⟩ := Kd.S_slice HO184.out
                        subst eo15
                        have p185 : 0 ≤ (0 : Int) := (by omega)
                        have q185 : 0 < (t180.length : Int) := of_decide_eq_true (by first | (with_reducible assumption) | assumption)
                        obtain ⟨ad185, A185_0, c185_0, e185, hx185_0, hl185_0, hi185_0⟩ := at_L1 (Kd.S_reads' HO184.out).2.2 0 p185 q185
                        cases e185
                        obtain ⟨ce185, hce185, hMe185, hcc185⟩ := Kd.S_get HO184.out [] 0 p185 (by first | exact q185 | exact of_decide_eq_true (by first | (with_reducible assumption) | assumption) | (have e_ := (Kd.S_reads' HO184.out).1; omega))
                        obtain ⟨ve185_0, rfl, ge185_0⟩ := hMe185
                        have hv185_0 := hcc185 0 _ rfl
                        rw [Nat.add_zero, show ((Kd.slice 3 (Kd.int .i64))).sz = 1 from rfl, Nat.mul_one] at hv185_0
                        replace hv185_0 := Option.some.inj (hv185_0.symm.trans hx185_0)
                        rw [hv185_0] at ge185_0
                        have HL185_0 := Aside0.mk (show Kd.R (Kd.int .i64) 3 _ _ _ _ (rd_L1 t180 0) from ge185_0)
                        clear hv185_0 ge185_0
                        clear hcc185 hce185
                        have qi185 : (0 < t180.length) = True := eq_true (by omega)
                        (try rw [show ((0 : Int)).toNat = 0 from rfl] at hx185_0)
                        (try rw [Addr.add_zero'] at hx185_0)
                        have HR185_0 := Aside0.mk hi185_0
                        have HC185_0 := Aside0.mk hl185_0
                        clear hi185_0 hl185_0
                        replace p185 := eq_true p185
                        replace q185 := eq_true q185
                        have p186 : 0 ≤ (x23_1 : Int) := of_decide_eq_true (by first | (with_reducible assumption) | assumption)
                        have q186 : x23_1 < ((rd_L1 t180 0).length : Int) := of_decide_eq_true (by first | (with_reducible assumption) | assumption)
                        obtain ⟨ad186, e186, hx186_0⟩ := Kd.at_int (by repeat (first | (with_reducible exact HR185_0.out) | (with_reducible refine Kd.C_alloc ?_ _) | (with_reducible refine Kd.C_drewN ?_ _) | (with_reducible refine Kd.C_drew ?_) | exact HR185_0.out)) x23_1 p186 q186
                        cases e186
                        replace p186 := eq_true p186
                        replace q186 := eq_true q186
                        go_wp2
                        repeat (go_quiet (fail); try go_wp2)
                        go_meet
                        case rel => exact ⟨_, (true), (by first | rfl | (simp; done) | (simp [*]; done)), H', ⟨by have := HK1.out; have := HJ5.out; first | omega | exact Nat.le_refl _⟩, ⟨by (with_reducible repeat (first | apply Kd.R_alloc | apply Kd.R_drewN | apply Kd.R_drew)); exact HO_10.out⟩, ⟨by (with_reducible repeat (first | apply Kd.S_alloc | apply Kd.S_drewN | apply Kd.S_drew)); exact Kd.S_mono HO182.out (fun _ hk => ⟨hk.2, hk.1⟩)⟩, ⟨by (with_reducible repeat (first | apply Kd.S_alloc | apply Kd.S_drewN | apply Kd.S_drew)); exact Kd.S_mono HO184.out (fun _ hk => ⟨hk.2, hk.1⟩)⟩, ⟨by repeat (first | (with_reducible first | exact HB.out | apply below_alloc | apply pw_below_drewN | apply below_drew1) | exact HB.out)⟩⟩
                      · rw [if_neg c14] at H
                        have c14b0 : ((rd (rd_L1 t180 0) x23_1) == 0) = false := beq_eq_false_iff_ne.mpr c14
                        have c14b1 : ((rd (rd_L1 t180 0) x23_1) != 0) = true := bne_iff_ne.mpr c14
                        by_cases c16 : x9_1 > 0
                        · rw [if_pos c16] at H
                          have c16b0 : decide (0 < x9_1) = true := decide_eq_true c16
                          clear c16
                          by_cases c17 : 0 < (t179.length : Int)
                          · rw [if_pos c17] at H
                            have c17b0 : decide (0 < (t179.length : Int)) = true := decide_eq_true c17
                            have c17b1 : decide (0 < t179.length) = true := decide_eq_true (by omega)
                            clear c17
                            by_cases c18 : x23_1 < ((rd_L1 t179 0).length : Int)
                            · rw [if_pos c18] at H
                              have c18b0 : decide (x23_1 < ((rd_L1 t179 0).length : Int)) = true := decide_eq_true c18
                              clear c18
                              have H' := Aside0.mk H
                              clear H
                              obtain ⟨Ao19, co19, eo19⟩ := Kd.S_slice HO184.out
                              subst eo19
                              have p185 : 0 ≤ (0 : Int) := (by omega)
                              have q185 : 0 < (t180.length : Int) := of_decide_eq_true (by first | (with_reducible assumption) | assumption)
                              obtain ⟨ad185, A185_0, c185_0, e185, hx185_0, hl185_0, hi185_0⟩ := at_L1 (Kd.S_reads' HO184.out).2.2 0 p185 q185
                              cases e185
                              obtain ⟨ce185, hce185, hMe185, hcc185⟩ := Kd.S_get HO184.out [] 0 p185 (by first | exact q185 | exact of_decide_eq_true (by first | (with_reducible assumption) | assumption) | (have e_ := (Kd.S_reads' HO184.out).1; omega))
                              obtain ⟨ve185_0, rfl, ge185_0⟩ := hMe185
                              have hv185_0 := hcc185 0 _ rfl
                              rw [Nat.add_zero, show ((Kd.slice 3 (Kd.int .i64))).sz = 1 from rfl, Nat.mul_one] at hv185_0
                              replace hv185_0 := Option.some.inj (hv185_0.symm.trans hx185_0)
                              rw [hv185_0] at ge185_0
                              have HL185_0 := Aside0.mk (show Kd.R (Kd.int .i64) 3 _ _ _ _ (rd_L1 t180 0) from ge185_0)
                              clear hv185_0 ge185_0
                              clear hcc185 hce185
                              have qi185 : (0 < t180.length) = True := eq_true (by omega)
                              (try rw [show ((0 : Int)).toNat = 0 from rfl] at hx185_0)
                              (try rw [Addr.add_zero'] at hx185_0)
                              have HR185_0 := Aside0.mk hi185_0
                              have HC185_0 := Aside0.mk hl185_0
                              clear hi185_0 hl185_0
                              replace p185 := eq_true p185
                              replace q185 := eq_true q185
                              have p186 : 0 ≤ (x23_1 : Int) := of_decide_eq_true (by first | (with_reducible assumption) | assumption)
                              have q186 : x23_1 < ((rd_L1 t180 0).length : Int) := of_decide_eq_true (by first | (with_reducible assumption) | assumption)
                              obtain ⟨ad186, e186, hx186_0⟩ := Kd.at_int (by repeat (first | (with_reducible exact HR185_0.out) | (with_reducible refine Kd.C_alloc ?_ _) | (with_reducible refine Kd.C_drewN ?_ _) | (with_reducible refine Kd.C_drew ?_) | exact HR185_0.out)) x23_1 p186 q186
                              cases e186
                              replace p186 := eq_true p186
                              replace q186 := eq_true q186
                              obtain ⟨Ao20, co20, eo20⟩ := Kd.S_slice HO182.out
                              subst eo20
                              have p187 : 0 ≤ (0 : Int) := (by omega)
                              have q187 : 0 < (t179.length : Int) := of_decide_eq_true (by first | (with_reducible assumption) | assumption)
                              obtain ⟨ad187, A187_0, c187_0, e187, hx187_0, hl187_0, hi187_0⟩ := at_L1 (Kd.S_reads' HO182.out).2.2 0 p187 q187
                              cases e187
                              obtain ⟨ce187, hce187, hMe187, hcc187⟩ := Kd.S_get HO182.out [] 0 p187 (by first | exact q187 | exact of_decide_eq_true (by first | (with_reducible assumption) | assumption) | (have e_ := (Kd.S_reads' HO182.out).1; omega))
                              obtain ⟨ve187_0, rfl, ge187_0⟩ := hMe187
                              have hv187_0 := hcc187 0 _ rfl
                              rw [Nat.add_zero, show ((Kd.slice 3 (Kd.int .i64))).sz = 1 from rfl, Nat.mul_one] at hv187_0
                              replace hv187_0 := Option.some.inj (hv187_0.symm.trans hx187_0)
                              rw [hv187_0] at ge187_0
                              have HL187_0 := Aside0.mk (show Kd.R (Kd.int .i64) 3 _ _ _ _ (rd_L1 t179 0) from ge187_0)
                              clear hv187_0 ge187_0
                              clear hcc187 hce187
                              have qi187 : (0 < t179.length) = True := eq_true (by omega)
                              (try rw [show ((0 : Int)).toNat = 0 from rfl] at hx187_0)
                              (try rw [Addr.add_zero'] at hx187_0)
                              have HR187_0 := Aside0.mk hi187_0
                              have HC187_0 := Aside0.mk hl187_0
                              clear hi187_0 hl187_0
                              replace p187 := eq_true p187
                              replace q187 := eq_true q187
                              have p188 : 0 ≤ (x23_1 : Int) := of_decide_eq_true (by first | (with_reducible assumption) | assumption)
                              have q188 : x23_1 < ((rd_L1 t179 0).length : Int) := of_decide_eq_true (by first | (with_reducible assumption) | assumption)
                              obtain ⟨ad188, e188, hx188_0⟩ := Kd.at_int (by repeat (first | (with_reducible exact HR187_0.out) | (with_reducible refine Kd.C_alloc ?_ _) | (with_reducible refine Kd.C_drewN ?_ _) | (with_reducible refine Kd.C_drew ?_) | exact HR187_0.out)) x23_1 p188 q188
                              cases e188
                              replace p188 := eq_true p188
                              replace q188 := eq_true q188
                              go_wp2
                              repeat (go_quiet (fail); try go_wp2)
                              go_meet
                              case rel => exact ⟨_, (decide ((rd (rd_L1 t179 0) x23_1) > x8_1)), (by first | rfl | (simp; done) | (simp [*]; done)), H', ⟨by have := HK1.out; have := HJ5.out; first | omega | exact Nat.le_refl _⟩, ⟨by (with_reducible repeat (first | apply Kd.R_alloc | apply Kd.R_drewN | apply Kd.R_drew)); exact HO_10.out⟩, ⟨by (with_reducible repeat (first | apply Kd.S_alloc | apply Kd.S_drewN | apply Kd.S_drew)); exact Kd.S_mono HO182.out (fun _ hk => ⟨hk.2, hk.1⟩)⟩, ⟨by (with_reducible repeat (first | apply Kd.S_alloc | apply Kd.S_drewN | apply Kd.S_drew)); exact Kd.S_mono HO184.out (fun _ hk => ⟨hk.2, hk.1⟩)⟩, ⟨by repeat (first | (with_reducible first | exact HB.out | apply below_alloc | apply pw_below_drewN | apply below_drew1) | exact HB.out)⟩⟩
                            · rw [if_neg c18] at H
                              exact absurd H (by simp)
                          · rw [if_neg c17] at H
                            exact absurd H (by simp)
                        · rw [if_neg c16] at H
                          have c16b0 : decide (0 < x9_1) = false := decide_eq_false c16
                          clear c16
                          have H' := Aside0.mk H
                          clear H
                          obtain ⟨Ao21, co21, eo21⟩ := Kd.S_slice HO184.out
                          subst eo21
                          have p185 : 0 ≤ (0 : Int) := (by omega)
                          have q185 : 0 < (t180.length : Int) := of_decide_eq_true (by first | (with_reducible assumption) | assumption)
                          obtain ⟨ad185, A185_0, c185_0, e185, hx185_0, hl185_0, hi185_0⟩ := at_L1 (Kd.S_reads' HO184.out).2.2 0 p185 q185
                          cases e185
                          obtain ⟨ce185, hce185, hMe185, hcc185⟩ := Kd.S_get HO184.out [] 0 p185 (by first | exact q185 | exact of_decide_eq_true (by first | (with_reducible assumption) | assumption) | (have e_ := (Kd.S_reads' HO184.out).1; omega))
                          obtain ⟨ve185_0, rfl, ge185_0⟩ := hMe185
                          have hv185_0 := hcc185 0 _ rfl
                          rw [Nat.add_zero, show ((Kd.slice 3 (Kd.int .i64))).sz = 1 from rfl, Nat.mul_one] at hv185_0
                          replace hv185_0 := Option.some.inj (hv185_0.symm.trans hx185_0)
                          rw [hv185_0] at ge185_0
                          have HL185_0 := Aside0.mk (show Kd.R (Kd.int .i64) 3 _ _ _ _ (rd_L1 t180 0) from ge185_0)
                          clear hv185_0 ge185_0
                          clear hcc185 hce185
                          have qi185 : (0 < t180.length) = True := eq_true (by omega)
                          (try rw [show ((0 : Int)).toNat = 0 from rfl] at hx185_0)
                          (try rw [Addr.add_zero'] at hx185_0)
                          have HR185_0 := Aside0.mk hi185_0
                          have HC185_0 := Aside0.mk hl185_0
                          clear hi185_0 hl185_0
                          replace p185 := eq_true p185
                          replace q185 := eq_true q185
                          have p186 : 0 ≤ (x23_1 : Int) := of_decide_eq_true (by first | (with_reducible assumption) | assumption)
                          have q186 : x23_1 < ((rd_L1 t180 0).length : Int) := of_decide_eq_true (by first | (with_reducible assumption) | assumption)
                          obtain ⟨ad186, e186, hx186_0⟩ := Kd.at_int (by repeat (first | (with_reducible exact HR185_0.out) | (with_reducible refine Kd.C_alloc ?_ _) | (with_reducible refine Kd.C_drewN ?_ _) | (with_reducible refine Kd.C_drew ?_) | exact HR185_0.out)) x23_1 p186 q186
                          cases e186
                          replace p186 := eq_true p186
                          replace q186 := eq_true q186
                          go_wp2
                          repeat (go_quiet (fail); try go_wp2)
                          go_meet
                          case rel => exact ⟨_, (false), (by first | rfl | (simp; done) | (simp [*]; done)), H', ⟨by have := HK1.out; have := HJ5.out; first | omega | exact Nat.le_refl _⟩, ⟨by (with_reducible repeat (first | apply Kd.R_alloc | apply Kd.R_drewN | apply Kd.R_drew)); exact HO_10.out⟩, ⟨by (with_reducible repeat (first | apply Kd.S_alloc | apply Kd.S_drewN | apply Kd.S_drew)); exact Kd.S_mono HO182.out (fun _ hk => ⟨hk.2, hk.1⟩)⟩, ⟨by (with_reducible repeat (first | apply Kd.S_alloc | apply Kd.S_drewN | apply Kd.S_drew)); exact Kd.S_mono HO184.out (fun _ hk => ⟨hk.2, hk.1⟩)⟩, ⟨by repeat (first | (with_reducible first | exact HB.out | apply below_alloc | apply pw_below_drewN | apply below_drew1) | exact HB.out)⟩⟩
                    · rw [if_neg c13] at H
                      exact absurd H (by simp)
                  · rw [if_neg c12] at H
                    exact absurd H (by simp)
                · rw [if_neg c11] at H
                  exact absurd H (by simp)
              case rest =>
                clear HC9
                try clear c1
                try clear p1
                try clear q1
                try clear hx1
                try clear qi1
                try clear p2
                try clear c3
                try clear c3b0
                try clear c3b1
                try clear c4
                try clear c4b0
                try clear c6
                try clear c7
                try clear c11
                try clear c11b0
                try clear c11b1
                try clear c12
                try clear c12b0
                try clear c13
                try clear c13b0
                try clear c14
                try clear c14b0
                try clear c14b1
                try clear c16
                try clear c16b0
                try clear c17
                try clear c17b0
                try clear c17b1
                try clear p17
                try clear q17
                try clear hx17
                try clear qi17
                try clear c18
                try clear c18b0
                try clear p18
                try clear q18
                try clear hx18
                try clear qi18
                try clear hx177_0
                try clear hx185_0
                try clear hx186_0
                try clear hx187_0
                try clear hx188_0
                try clear p1
                try clear p177
                try clear p185
                try clear p186
                try clear p187
                try clear p188
                try clear p2
                try clear q1
                try clear q177
                try clear q185
                try clear q186
                try clear q187
                try clear q188
                obtain ⟨kq, x57_8, rfl, HA, HJ8, HO_10, HO_13, HO_14, HB⟩ := hcut
                cases kq with
                | zero => exact absurd HA.out (by simp [impl_bestPaint.j2])
                | succ kj8 =>
                  have H := HA.out
                  clear HA
                  simp only [impl_bestPaint.j2] at H
                  by_cases c22 : x57_8 = true
                  · subst c22
                    have H1 : (impl_bestPaint.l0 kj8 l0 a1 x8_1 x9_1 x10_1 ((rd_L1 l0 0).length : Int) (wrap64 (x23_1 + 1))) = some (r1, r2, r3, r4) := by rw [if_pos rfl] at H; exact H
                    clear H
                    have H := H1
                    clear H1
                    have H' := Aside0.mk H
                    clear H
                    go_wp2
                    repeat (go_quiet (fail); try go_wp2)
                    go_roundg kj8
                    case measure => have := HK1.out; have := HJ5.out; have := HJ8.out; omega
                    case rel => exact ⟨(x8_1), (x9_1), (x10_1), (wrap64 (x23_1 + 1)), (by first | rfl | (simp; done) | (simp [*]; done)), (by first | rfl | (simp; done) | (simp [*]; done)), (by first | rfl | (simp; done) | (simp [*]; done)), H', ⟨by have := HK1.out; have := HJ5.out; have := HJ8.out; omega⟩, ⟨by (with_reducible repeat (first | apply Kd.R_alloc | apply Kd.R_drewN | apply Kd.R_drew)); exact HO_10.out⟩, ⟨by repeat (first | (with_reducible first | exact HB.out | apply below_alloc | apply pw_below_drewN | apply below_drew1) | exact HB.out)⟩⟩
                  · replace c22 := Bool.eq_false_iff.mpr c22
                    subst c22
                    have H1 : (if x9_1 > 0 then (if 0 < (t179.length : Int) then (if 0 ≤ x23_1 then (if x23_1 < ((rd_L1 t179 0).length : Int) then (impl_bestPaint.j3 kj8 l0 a1 x8_1 x9_1 x10_1 x23_1 t179 t180 ((rd_L1 l0 0).length : Int) x23_1 ((rd (rd_L1 t179 0) x23_1) == x8_1)) else (none)) else (none)) else (none)) else (impl_bestPaint.j3 kj8 l0 a1 x8_1 x9_1 x10_1 x23_1 t179 t180 ((rd_L1 l0 0).length : Int) x23_1 false)) = some (r1, r2, r3, r4) := by rw [if_neg (show ¬ (false = true) by decide)] at H; exact H
                    clear H
                    have H := H1
                    clear H1
                    have HC23 := Aside0.mk H
                    clear H
                    go_upto_region 11 with (fail)
                    repeat (go_quiet (fail); go_upto_region 11 with (fail))
                    go_cut [69] (fun v69 wc => ∃ (kq : Nat) (x69_22 : Bool), v69 = .bool x69_22 ∧ Aside0 (impl_bestPaint.j3 kq l0 a1 x8_1 x9_1 x10_1 x23_1 t179 t180 ((rd_L1 l0 0).length : Int) x23_1 x69_22 = some (r1, r2, r3, r4)) ∧ Aside0 (kq ≤ kj8) ∧ Aside0 (Kd.R (Kd.int .i64) 3 wc w.heap.size (fun _ => True) u10 x10_1) ∧ Aside0 (Kd.S (Kd.slice 3 (Kd.int .i64)) 29 wc w.heap.size (fun k_ => some k_ ≠ (u10 : Value).ownBlock ∧ some k_ ≠ (v183 : Value).ownBlock) v181 t179) ∧ Aside0 (Kd.S (Kd.slice 3 (Kd.int .i64)) 29 wc w.heap.size (fun k_ => some k_ ≠ (u10 : Value).ownBlock ∧ some k_ ≠ (v181 : Value).ownBlock) v183 t180) ∧ Aside0 (Below w.heap.size w wc))
                    case first =>
                      have H := HC23.out
                      clear HC23
                      by_cases c24 : x9_1 > 0
                      · rw [if_pos c24] at H
                        have c24b0 : decide (0 < x9_1) = true := decide_eq_true c24
                        clear c24
                        (first | rw [c24b0] | (simp only [i64_w, i32_w]; rw [c24b0]) | skip)
                        by_cases c25 : 0 < (t179.length : Int)
                        · rw [if_pos c25] at H
                          have c25b0 : decide (0 < (t179.length : Int)) = true := decide_eq_true c25
                          have c25b1 : decide (0 < t179.length) = true := decide_eq_true (by omega)
                          clear c25
                          by_cases c26 : 0 ≤ x23_1
                          · rw [if_pos c26] at H
                            have c26b0 : decide (0 ≤ x23_1) = true := decide_eq_true c26
                            clear c26
                            by_cases c27 : x23_1 < ((rd_L1 t179 0).length : Int)
                            · rw [if_pos c27] at H
                              have c27b0 : decide (x23_1 < ((rd_L1 t179 0).length : Int)) = true := decide_eq_true c27
                              clear c27
                              have H' := Aside0.mk H
                              clear H
                              obtain ⟨Ao28, co28, eo28⟩ := Kd.S_slice HO_13.out
                              subst eo28
                              have p189 : 0 ≤ (0 : Int) := (by omega)
                              have q189 : 0 < (t179.length : Int) := of_decide_eq_true (by first | (with_reducible assumption) | assumption)
                              obtain ⟨ad189, A189_0, c189_0, e189, hx189_0, hl189_0, hi189_0⟩ := at_L1 (Kd.S_reads' HO_13.out).2.2 0 p189 q189
                              cases e189
                              obtain ⟨ce189, hce189, hMe189, hcc189⟩ := Kd.S_get HO_13.out [] 0 p189 (by first | exact q189 | exact of_decide_eq_true (by first | (with_reducible assumption) | assumption) | (have e_ := (Kd.S_reads' HO_13.out).1; omega))
                              obtain ⟨ve189_0, rfl, ge189_0⟩ := hMe189
                              have hv189_0 := hcc189 0 _ rfl
                              rw [Nat.add_zero, show ((Kd.slice 3 (Kd.int .i64))).sz = 1 from rfl, Nat.mul_one] at hv189_0
                              replace hv189_0 := Option.some.inj (hv189_0.symm.trans hx189_0)
                              rw [hv189_0] at ge189_0
                              have HL189_0 := Aside0.mk (show Kd.R (Kd.int .i64) 3 _ _ _ _ (rd_L1 t179 0) from ge189_0)
                              clear hv189_0 ge189_0
                              clear hcc189 hce189
                              have qi189 : (0 < t179.length) = True := eq_true (by omega)
                              (try rw [show ((0 : Int)).toNat = 0 from rfl] at hx189_0)
                              (try rw [Addr.add_zero'] at hx189_0)
                              have HR189_0 := Aside0.mk hi189_0
                              have HC189_0 := Aside0.mk hl189_0
                              clear hi189_0 hl189_0
                              replace p189 := eq_true p189
                              replace q189 := eq_true q189
                              have p190 : 0 ≤ (x23_1 : Int) := of_decide_eq_true (by first | (with_reducible assumption) | assumption)
                              have q190 : x23_1 < ((rd_L1 t179 0).length : Int) := of_decide_eq_true (by first | (with_reducible assumption) | assumption)
                              obtain ⟨ad190, e190, hx190_0⟩ := Kd.at_int (by repeat (first | (with_reducible exact HR189_0.out) | (with_reducible refine Kd.C_alloc ?_ _) | (with_reducible refine Kd.C_drewN ?_ _) | (with_reducible refine Kd.C_drew ?_) | exact HR189_0.out)) x23_1 p190 q190
                              cases e190
                              replace p190 := eq_true p190
                              replace q190 := eq_true q190
                              go_wp2
                              repeat (go_quiet (fail); try go_wp2)
                              go_meet
                              case rel => exact ⟨_, (((rd (rd_L1 t179 0) x23_1) == x8_1)), (by first | rfl | (simp; done) | (simp [*]; done)), H', ⟨by have := HK1.out; have := HJ5.out; have := HJ8.out; first | omega | exact Nat.le_refl _⟩, ⟨by (with_reducible repeat (first | apply Kd.R_alloc | apply Kd.R_drewN | apply Kd.R_drew)); exact HO_10.out⟩, ⟨by (with_reducible repeat (first | apply Kd.S_alloc | apply Kd.S_drewN | apply Kd.S_drew)); exact HO_13.out⟩, ⟨by (with_reducible repeat (first | apply Kd.S_alloc | apply Kd.S_drewN | apply Kd.S_drew)); exact HO_14.out⟩, ⟨by repeat (first | (with_reducible first | exact HB.out | apply below_alloc | apply pw_below_drewN | apply below_drew1) | exact HB.out)⟩⟩
                            · rw [if_neg c27] at H
                              exact absurd H (by simp)
                          · rw [if_neg c26] at H
                            exact absurd H (by simp)
                        · rw [if_neg c25] at H
                          exact absurd H (by simp)
                      · rw [if_neg c24] at H
                        have c24b0 : decide (0 < x9_1) = false := decide_eq_false c24
                        clear c24
                        (first | rw [c24b0] | (simp only [i64_w, i32_w]; rw [c24b0]) | skip)
                        have H' := Aside0.mk H
                        clear H
                        go_wp2
                        repeat (go_quiet (fail); try go_wp2)
                        go_meet
                        case rel => exact ⟨_, (false), (by first | rfl | (simp; done) | (simp [*]; done)), H', ⟨by have := HK1.out; have := HJ5.out; have := HJ8.out; first | omega | exact Nat.le_refl _⟩, ⟨by (with_reducible repeat (first | apply Kd.R_alloc | apply Kd.R_drewN | apply Kd.R_drew)); exact HO_10.out⟩, ⟨by (with_reducible repeat (first | apply Kd.S_alloc | apply Kd.S_drewN | apply Kd.S_drew)); exact HO_13.out⟩, ⟨by (with_reducible repeat (first | apply Kd.S_alloc | apply Kd.S_drewN | apply Kd.S_drew)); exact HO_14.out⟩, ⟨by repeat (first | (with_reducible first | exact HB.out | apply below_alloc | apply pw_below_drewN | apply below_drew1) | exact HB.out)⟩⟩
                    case rest =>
                      clear HC23
                      try clear c1
                      try clear p1
                      try clear q1
                      try clear hx1
                      try clear qi1
                      try clear c2
                      try clear p2
                      try clear c3
                      try clear c3b0
                      try clear c3b1
                      try clear c4
                      try clear c4b0
                      try clear c6
                      try clear p6
                      try clear c7
                      try clear c11
                      try clear c11b0
                      try clear c11b1
                      try clear c12
                      try clear c12b0
                      try clear c13
                      try clear c13b0
                      try clear c14
                      try clear c14b0
                      try clear c14b1
                      try clear c16
                      try clear c16b0
                      try clear c17
                      try clear c17b0
                      try clear c17b1
                      try clear p17
                      try clear q17
                      try clear hx17
                      try clear qi17
                      try clear c18
                      try clear c18b0
                      try clear p18
                      try clear q18
                      try clear hx18
                      try clear qi18
                      try clear p19
                      try clear q19
                      try clear hx19
                      try clear c22
                      try clear c24
                      try clear c24b0
                      try clear c25
                      try clear c25b0
                      try clear c25b1
                      try clear c26
                      try clear c26b0
                      try clear c27
                      try clear c27b0
                      try clear hx177_0
                      try clear hx185_0
                      try clear hx186_0
                      try clear hx187_0
                      try clear hx188_0
                      try clear hx189_0
                      try clear hx190_0
                      try clear p1
                      try clear p17
                      try clear p177
                      try clear p18
                      try clear p185
                      try clear p186
                      try clear p187
                      try clear p188
                      try clear p189
                      try clear p190
                      try clear p2
                      try clear q1
                      try clear q17
                      try clear q177
                      try clear q18
                      try clear q185
                      try clear q186
                      try clear q187
                      try clear q188
                      try clear q189
                      try clear q190
                      obtain ⟨kq, x69_22, rfl, HA, HJ22, HO_10, HO_13, HO_14, HB⟩ := hcut
                      cases kq with
                      | zero => exact absurd HA.out (by simp [impl_bestPaint.j3])
                      | succ kj22 =>
                        have H := HA.out
                        clear HA
                        simp only [impl_bestPaint.j3] at H
                        by_cases c29 : x69_22 = true
                        · subst c29
                          have H1 : (if 0 < (t180.length : Int) then (if 0 ≤ x23_1 then (if x23_1 < ((rd_L1 t180 0).length : Int) then (impl_bestPaint.l0 kj22 l0 a1 x8_1 (wrap64 (x9_1 + (rd (rd_L1 t180 0) x23_1))) x10_1 ((rd_L1 l0 0).length : Int) (wrap64 (x23_1 + 1))) else (none)) else (none)) else (none)) = some (r1, r2, r3, r4) := by rw [if_pos rfl] at H; exact H
                          clear H
                          have H := H1
                          clear H1
                          by_cases c30 : 0 < (t180.length : Int)
                          · rw [if_pos c30] at H
                            have c30b0 : decide (0 < (t180.length : Int)) = true := decide_eq_true c30
                            have c30b1 : decide (0 < t180.length) = true := decide_eq_true (by omega)
                            clear c30
                            by_cases c31 : 0 ≤ x23_1
                            · rw [if_pos c31] at H
                              have c31b0 : decide (0 ≤ x23_1) = true := decide_eq_true c31
                              clear c31
                              by_cases c32 : x23_1 < ((rd_L1 t180 0).length : Int)
                              · rw [if_pos c32] at H
                                have c32b0 : decide (x23_1 < ((rd_L1 t180 0).length : Int)) = true := decide_eq_true c32
                                clear c32
                                have H' := Aside0.mk H
                                clear H
                                obtain ⟨Ao33, co33, eo33⟩ := Kd.S_slice HO_14.out
                                subst eo33
                                have p191 : 0 ≤ (0 : Int) := (by omega)
                                have q191 : 0 < (t180.length : Int) := of_decide_eq_true (by first | (with_reducible assumption) | assumption)
                                obtain ⟨ad191, A191_0, c191_0, e191, hx191_0, hl191_0, hi191_0⟩ := at_L1 (Kd.S_reads' HO_14.out).2.2 0 p191 q191
                                cases e191
                                obtain ⟨ce191, hce191, hMe191, hcc191⟩ := Kd.S_get HO_14.out [] 0 p191 (by first | exact q191 | exact of_decide_eq_true (by first | (with_reducible assumption) | assumption) | (have e_ := (Kd.S_reads' HO_14.out).1; omega))
                                obtain ⟨ve191_0, rfl, ge191_0⟩ := hMe191
                                have hv191_0 := hcc191 0 _ rfl
                                rw [Nat.add_zero, show ((Kd.slice 3 (Kd.int .i64))).sz = 1 from rfl, Nat.mul_one] at hv191_0
                                replace hv191_0 := Option.some.inj (hv191_0.symm.trans hx191_0)
                                rw [hv191_0] at ge191_0
                                have HL191_0 := Aside0.mk (show Kd.R (Kd.int .i64) 3 _ _ _ _ (rd_L1 t180 0) from ge191_0)
                                clear hv191_0 ge191_0
                                clear hcc191 hce191
                                have qi191 : (0 < t180.length) = True := eq_true (by omega)
                                (try rw [show ((0 : Int)).toNat = 0 from rfl] at hx191_0)
                                (try rw [Addr.add_zero'] at hx191_0)
                                have HR191_0 := Aside0.mk hi191_0
                                have HC191_0 := Aside0.mk hl191_0
                                clear hi191_0 hl191_0
                                replace p191 := eq_true p191
                                replace q191 := eq_true q191
                                have p192 : 0 ≤ (x23_1 : Int) := of_decide_eq_true (by first | (with_reducible assumption) | assumption)
                                have q192 : x23_1 < ((rd_L1 t180 0).length : Int) := of_decide_eq_true (by first | (with_reducible assumption) | assumption)
                                obtain ⟨ad192, e192, hx192_0⟩ := Kd.at_int (by repeat (first | (with_reducible exact HR191_0.out) | (with_reducible refine Kd.C_alloc ?_ _) | (with_reducible refine Kd.C_drewN ?_ _) | (with_reducible refine Kd.C_drew ?_) | exact HR191_0.out)) x23_1 p192 q192
                                cases e192
                                replace p192 := eq_true p192
                                replace q192 := eq_true q192
                                go_wp2
                                repeat (go_quiet (fail); try go_wp2)
                                go_roundg kj22
                                case measure => have := HK1.out; have := HJ5.out; have := HJ8.out; have := HJ22.out; omega
                                case rel => exact ⟨(x8_1), (wrap64 (x9_1 + (rd (rd_L1 t180 0) x23_1))), (x10_1), (wrap64 (x23_1 + 1)), (by first | rfl | (simp; done) | (simp [*]; done)), (by first | rfl | (simp; done) | (simp [*]; done)), (by first | rfl | (simp; done) | (simp [*]; done)), H', ⟨by have := HK1.out; have := HJ5.out; have := HJ8.out; have := HJ22.out; omega⟩, ⟨by (with_reducible repeat (first | apply Kd.R_alloc | apply Kd.R_drewN | apply Kd.R_drew)); exact HO_10.out⟩, ⟨by repeat (first | (with_reducible first | exact HB.out | apply below_alloc | apply pw_below_drewN | apply below_drew1) | exact HB.out)⟩⟩
                              · rw [if_neg c32] at H
                                exact absurd H (by simp)
                            · rw [if_neg c31] at H
                              exact absurd H (by simp)
                          · rw [if_neg c30] at H
                            exact absurd H (by simp)
                        · replace c29 := Bool.eq_false_iff.mpr c29
                          subst c29
                          have H1 : (if 0 < (t179.length : Int) then (if 0 ≤ x23_1 then (if x23_1 < ((rd_L1 t179 0).length : Int) then (if 0 < (t180.length : Int) then (if x23_1 < ((rd_L1 t180 0).length : Int) then (impl_bestPaint.l1 kj22 l0 a1 (rd (rd_L1 t179 0) x23_1) (rd (rd_L1 t180 0) x23_1) (([x23_1] : List Int)) t179 t180 1 ((rd_L1 l0 0).length : Int) x23_1) else (none)) else (none)) else (none)) else (none)) else (none)) = some (r1, r2, r3, r4) := by rw [if_neg (show ¬ (false = true) by decide)] at H; exact H
                          clear H
                          have H := H1
                          clear H1
                          by_cases c34 : 0 < (t179.length : Int)
                          · rw [if_pos c34] at H
                            have c34b0 : decide (0 < (t179.length : Int)) = true := decide_eq_true c34
                            have c34b1 : decide (0 < t179.length) = true := decide_eq_true (by omega)
                            clear c34
                            by_cases c35 : 0 ≤ x23_1
                            · rw [if_pos c35] at H
                              have c35b0 : decide (0 ≤ x23_1) = true := decide_eq_true c35
                              clear c35
                              by_cases c36 : x23_1 < ((rd_L1 t179 0).length : Int)
                              · rw [if_pos c36] at H
                                have c36b0 : decide (x23_1 < ((rd_L1 t179 0).length : Int)) = true := decide_eq_true c36
                                clear c36
                                by_cases c37 : 0 < (t180.length : Int)
                                · rw [if_pos c37] at H
                                  have c37b0 : decide (0 < (t180.length : Int)) = true := decide_eq_true c37
                                  have c37b1 : decide (0 < t180.length) = true := decide_eq_true (by omega)
                                  clear c37
                                  by_cases c38 : x23_1 < ((rd_L1 t180 0).length : Int)
                                  · rw [if_pos c38] at H
                                    have c38b0 : decide (x23_1 < ((rd_L1 t180 0).length : Int)) = true := decide_eq_true c38
                                    clear c38
                                    obtain ⟨y197, hy197⟩ : ∃ y_ : List Int, y_ = (([x23_1] : List Int)) := ⟨_, rfl⟩
                                    replace H : (impl_bestPaint.l1 kj22 l0 a1 (rd (rd_L1 t179 0) x23_1) (rd (rd_L1 t180 0) x23_1) y197 t179 t180 1 ((rd_L1 l0 0).length : Int) x23_1) = some (r1, r2, r3, r4) := by first | (rw [hy197]; with_reducible exact H) | (have H2_ := (Option.bind_some _ _).symm.trans H; rw [hy197]; with_reducible exact H2_) | (have H2_ := (Option.bind_some _ _).symm.trans H; with_reducible exact H2_) | with_reducible exact H | (rw [hy197]; exact H) | exact H
                                    have Ny197 := Aside0.mk hy197
                                    clear hy197
                                    have H' := Aside0.mk H
                                    clear H
                                    obtain ⟨Ao39, co39, eo39⟩ := Kd.S_slice HO_13.out
                                    subst eo39
                                    have p193 : 0 ≤ (0 : Int) := (by omega)
                                    have q193 : 0 < (t179.length : Int) := of_decide_eq_true (by first | (with_reducible assumption) | assumption)
                                    obtain ⟨ad193, A193_0, c193_0, e193, hx193_0, hl193_0, hi193_0⟩ := at_L1 (Kd.S_reads' HO_13.out).2.2 0 p193 q193
                                    cases e193
                                    obtain ⟨ce193, hce193, hMe193, hcc193⟩ := Kd.S_get HO_13.out [] 0 p193 (by first | exact q193 | exact of_decide_eq_true (by first | (with_reducible assumption) | assumption) | (have e_ := (Kd.S_reads' HO_13.out).1; omega))
                                    obtain ⟨ve193_0, rfl, ge193_0⟩ := hMe193
                                    have hv193_0 := hcc193 0 _ rfl
                                    rw [Nat.add_zero, show ((Kd.slice 3 (Kd.int .i64))).sz = 1 from rfl, Nat.mul_one] at hv193_0
                                    replace hv193_0 := Option.some.inj (hv193_0.symm.trans hx193_0)
                                    rw [hv193_0] at ge193_0
                                    have HL193_0 := Aside0.mk (show Kd.R (Kd.int .i64) 3 _ _ _ _ (rd_L1 t179 0) from ge193_0)
                                    clear hv193_0 ge193_0
                                    clear hcc193 hce193
                                    have qi193 : (0 < t179.length) = True := eq_true (by omega)
                                    (try rw [show ((0 : Int)).toNat = 0 from rfl] at hx193_0)
                                    (try rw [Addr.add_zero'] at hx193_0)
                                    have HR193_0 := Aside0.mk hi193_0
                                    have HC193_0 := Aside0.mk hl193_0
                                    clear hi193_0 hl193_0
                                    replace p193 := eq_true p193
                                    replace q193 := eq_true q193
                                    have p194 : 0 ≤ (x23_1 : Int) := of_decide_eq_true (by first | (with_reducible assumption) | assumption)
                                    have q194 : x23_1 < ((rd_L1 t179 0).length : Int) := of_decide_eq_true (by first | (with_reducible assumption) | assumption)
                                    obtain ⟨ad194, e194, hx194_0⟩ := Kd.at_int (by repeat (first | (with_reducible exact HR193_0.out) | (with_reducible refine Kd.C_alloc ?_ _) | (with_reducible refine Kd.C_drewN ?_ _) | (with_reducible refine Kd.C_drew ?_) | exact HR193_0.out)) x23_1 p194 q194
                                    cases e194
                                    replace p194 := eq_true p194
                                    replace q194 := eq_true q194
                                    obtain ⟨Ao40, co40, eo40⟩ := Kd.S_slice HO_14.out
                                    subst eo40
                                    have p195 : 0 ≤ (0 : Int) := (by omega)
                                    have q195 : 0 < (t180.length : Int) := of_decide_eq_true (by first | (with_reducible assumption) | assumption)
                                    obtain ⟨ad195, A195_0, c195_0, e195, hx195_0, hl195_0, hi195_0⟩ := at_L1 (Kd.S_reads' HO_14.out).2.2 0 p195 q195
                                    cases e195
                                    obtain ⟨ce195, hce195, hMe195, hcc195⟩ := Kd.S_get HO_14.out [] 0 p195 (by first | exact q195 | exact of_decide_eq_true (by first | (with_reducible assumption) | assumption) | (have e_ := (Kd.S_reads' HO_14.out).1; omega))
                                    obtain ⟨ve195_0, rfl, ge195_0⟩ := hMe195
                                    have hv195_0 := hcc195 0 _ rfl
                                    rw [Nat.add_zero, show ((Kd.slice 3 (Kd.int .i64))).sz = 1 from rfl, Nat.mul_one] at hv195_0
                                    replace hv195_0 := Option.some.inj (hv195_0.symm.trans hx195_0)
                                    rw [hv195_0] at ge195_0
                                    have HL195_0 := Aside0.mk (show Kd.R (Kd.int .i64) 3 _ _ _ _ (rd_L1 t180 0) from ge195_0)
                                    clear hv195_0 ge195_0
                                    clear hcc195 hce195
                                    have qi195 : (0 < t180.length) = True := eq_true (by omega)
                                    (try rw [show ((0 : Int)).toNat = 0 from rfl] at hx195_0)
                                    (try rw [Addr.add_zero'] at hx195_0)
                                    have HR195_0 := Aside0.mk hi195_0
                                    have HC195_0 := Aside0.mk hl195_0
                                    clear hi195_0 hl195_0
                                    replace p195 := eq_true p195
                                    replace q195 := eq_true q195
                                    have p196 : 0 ≤ (x23_1 : Int) := of_decide_eq_true (by first | (with_reducible assumption) | assumption)
                                    have q196 : x23_1 < ((rd_L1 t180 0).length : Int) := of_decide_eq_true (by first | (with_reducible assumption) | assumption)
                                    obtain ⟨ad196, e196, hx196_0⟩ := Kd.at_int (by repeat (first | (with_reducible exact HR195_0.out) | (with_reducible refine Kd.C_alloc ?_ _) | (with_reducible refine Kd.C_drewN ?_ _) | (with_reducible refine Kd.C_drew ?_) | exact HR195_0.out)) x23_1 p196 q196
                                    cases e196
                                    replace p196 := eq_true p196
                                    replace q196 := eq_true q196
                                    go_wp2_with (first | ((with_reducible refine gate_dst (N := 91) rfl ?_); refine Kd.R_lit (Kd.int .i64) _ 3 ?hg (N := 91) ?hd (xs := ([x23_1] : List Int)) (inner := [.int .i64 x23_1]) (ok := fun _ => True) (okp := fun _ => True) ?hr ?hp (fun _ hk => hk) trivial (Below.refl _ _) (Nat.le_refl _) (by simp) ?_; (case hd => rfl); (case hg => rfl); (case hr => first | (go_simp; done) | (go_simp; rfl)); (case hp => exact (Reps.one (show Kd.M (Kd.int .i64) _ _ _ x23_1 [.int .i64 x23_1] from rfl) (Reps.none _ _))); intro v198 w41 ho42 hb hg_ hnew_; clear hg_ hnew_; (first | rw [← Ny197.out] at ho42 | (simp only [Int.reduceToNat] at ho42; rw [← Ny197.out] at ho42)); have n0_ := Aside0.mk (Kd.R_elder' (by (with_reducible repeat (first | apply Kd.R_alloc | apply Kd.R_drewN | apply Kd.R_drew)); exact HO_10.out) (Kd.R_base ho42) hb); have n1_ := Aside0.mk (Kd.S_elder' (by (with_reducible repeat (first | apply Kd.S_alloc | apply Kd.S_drewN | apply Kd.S_drew)); exact HO_13.out) (Kd.R_base ho42) hb); have n2_ := Aside0.mk (Kd.S_elder' (by (with_reducible repeat (first | apply Kd.S_alloc | apply Kd.S_drewN | apply Kd.S_drew)); exact HO_14.out) (Kd.R_base ho42) hb); have n3_ := Aside0.mk (Kd.R_elder' (by (with_reducible repeat (first | apply Kd.R_alloc | apply Kd.R_drewN | apply Kd.R_drew)); exact HL193_0.out) (Kd.R_base ho42) hb); have n4_ := Aside0.mk (Kd.R_elder' (by (with_reducible repeat (first | apply Kd.R_alloc | apply Kd.R_drewN | apply Kd.R_drew)); exact HL195_0.out) (Kd.R_base ho42) hb); have n5_ := Aside0.mk (Kd.R_lower (Kd.R_new' (Kd.R_new' (Kd.R_new' ho42 (Kd.R_lt (by (with_reducible repeat (first | apply Kd.R_alloc | apply Kd.R_drewN | apply Kd.R_drew)); exact HO_10.out))) (Kd.R_lt (by (with_reducible repeat (first | apply Kd.R_alloc | apply Kd.R_drewN | apply Kd.R_drew)); exact HL193_0.out))) (Kd.R_lt (by (with_reducible repeat (first | apply Kd.R_alloc | apply Kd.R_drewN | apply Kd.R_drew)); exact HL195_0.out))) (below_size (by repeat (first | (with_reducible first | exact HB.out | apply below_alloc | apply pw_below_drewN | apply below_drew1) | exact HB.out)))); have n6_ := Aside0.mk (Kd.C_below (by repeat (first | (with_reducible exact HR193_0.out) | (with_reducible refine Kd.C_alloc ?_ _) | (with_reducible refine Kd.C_drewN ?_ _) | (with_reducible refine Kd.C_drew ?_) | exact HR193_0.out)) hb); have n7_ := Aside0.mk (Kd.C_below (by repeat (first | (with_reducible exact HR195_0.out) | (with_reducible refine Kd.C_alloc ?_ _) | (with_reducible refine Kd.C_drewN ?_ _) | (with_reducible refine Kd.C_drew ?_) | exact HR195_0.out)) hb); have n8_ := Aside0.mk (below_step (by repeat (first | (with_reducible first | exact HB.out | apply below_alloc | apply pw_below_drewN | apply below_drew1) | exact HB.out)) hb); clear HO_10; clear HO_13; clear HO_14; clear HL193_0; clear HL195_0; clear HR193_0; clear HR195_0; clear HB; have HO_10 := n0_; have HO_13 := n1_; have HO_14 := n2_; have HL193_0 := n3_; have HL195_0 := n4_; have HO199 := n5_; have HR193_0 := n6_; have HR195_0 := n7_; have HB := n8_; clear n0_ n1_ n2_ n3_ n4_ n5_ n6_ n7_ n8_; clear hb ho42))
                                    repeat (go_quiet (first | ((with_reducible refine gate_dst (N := 91) rfl ?_); refine Kd.R_lit (Kd.int .i64) _ 3 ?hg (N := 91) ?hd (xs := ([x23_1] : List Int)) (inner := [.int .i64 x23_1]) (ok := fun _ => True) (okp := fun _ => True) ?hr ?hp (fun _ hk => hk) trivial (Below.refl _ _) (Nat.le_refl _) (by simp) ?_; (case hd => rfl); (case hg => rfl); (case hr => first | (go_simp; done) | (go_simp; rfl)); (case hp => exact (Reps.one (show Kd.M (Kd.int .i64) _ _ _ x23_1 [.int .i64 x23_1] from rfl) (Reps.none _ _))); intro v198 w41 ho42 hb hg_ hnew_; clear hg_ hnew_; (first | rw [← Ny197.out] at ho42 | (simp only [Int.reduceToNat] at ho42; rw [← Ny197.out] at ho42)); have n0_ := Aside0.mk (Kd.R_elder' (by (with_reducible repeat (first | apply Kd.R_alloc | apply Kd.R_drewN | apply Kd.R_drew)); exact HO_10.out) (Kd.R_base ho42) hb); have n1_ := Aside0.mk (Kd.S_elder' (by (with_reducible repeat (first | apply Kd.S_alloc | apply Kd.S_drewN | apply Kd.S_drew)); exact HO_13.out) (Kd.R_base ho42) hb); have n2_ := Aside0.mk (Kd.S_elder' (by (with_reducible repeat (first | apply Kd.S_alloc | apply Kd.S_drewN | apply Kd.S_drew)); exact HO_14.out) (Kd.R_base ho42) hb); have n3_ := Aside0.mk (Kd.R_elder' (by (with_reducible repeat (first | apply Kd.R_alloc | apply Kd.R_drewN | apply Kd.R_drew)); exact HL193_0.out) (Kd.R_base ho42) hb); have n4_ := Aside0.mk (Kd.R_elder' (by (with_reducible repeat (first | apply Kd.R_alloc | apply Kd.R_drewN | apply Kd.R_drew)); exact HL195_0.out) (Kd.R_base ho42) hb); have n5_ := Aside0.mk (Kd.R_lower (Kd.R_new' (Kd.R_new' (Kd.R_new' ho42 (Kd.R_lt (by (with_reducible repeat (first | apply Kd.R_alloc | apply Kd.R_drewN | apply Kd.R_drew)); exact HO_10.out))) (Kd.R_lt (by (with_reducible repeat (first | apply Kd.R_alloc | apply Kd.R_drewN | apply Kd.R_drew)); exact HL193_0.out))) (Kd.R_lt (by (with_reducible repeat (first | apply Kd.R_alloc | apply Kd.R_drewN | apply Kd.R_drew)); exact HL195_0.out))) (below_size (by repeat (first | (with_reducible first | exact HB.out | apply below_alloc | apply pw_below_drewN | apply below_drew1) | exact HB.out)))); have n6_ := Aside0.mk (Kd.C_below (by repeat (first | (with_reducible exact HR193_0.out) | (with_reducible refine Kd.C_alloc ?_ _) | (with_reducible refine Kd.C_drewN ?_ _) | (with_reducible refine Kd.C_drew ?_) | exact HR193_0.out)) hb); have n7_ := Aside0.mk (Kd.C_below (by repeat (first | (with_reducible exact HR195_0.out) | (with_reducible refine Kd.C_alloc ?_ _) | (with_reducible refine Kd.C_drewN ?_ _) | (with_reducible refine Kd.C_drew ?_) | exact HR195_0.out)) hb); have n8_ := Aside0.mk (below_step (by repeat (first | (with_reducible first | exact HB.out | apply below_alloc | apply pw_below_drewN | apply below_drew1) | exact HB.out)) hb); clear HO_10; clear HO_13; clear HO_14; clear HL193_0; clear HL195_0; clear HR193_0; clear HR195_0; clear HB; have HO_10 := n0_; have HO_13 := n1_; have HO_14 := n2_; have HL193_0 := n3_; have HL195_0 := n4_; have HO199 := n5_; have HR193_0 := n6_; have HR195_0 := n7_; have HB := n8_; clear n0_ n1_ n2_ n3_ n4_ n5_ n6_ n7_ n8_; clear hb ho42)); try go_wp2_with (first | ((with_reducible refine gate_dst (N := 91) rfl ?_); refine Kd.R_lit (Kd.int .i64) _ 3 ?hg (N := 91) ?hd (xs := ([x23_1] : List Int)) (inner := [.int .i64 x23_1]) (ok := fun _ => True) (okp := fun _ => True) ?hr ?hp (fun _ hk => hk) trivial (Below.refl _ _) (Nat.le_refl _) (by simp) ?_; (case hd => rfl); (case hg => rfl); (case hr => first | (go_simp; done) | (go_simp; rfl)); (case hp => exact (Reps.one (show Kd.M (Kd.int .i64) _ _ _ x23_1 [.int .i64 x23_1] from rfl) (Reps.none _ _))); intro v198 w41 ho42 hb hg_ hnew_; clear hg_ hnew_; (first | rw [← Ny197.out] at ho42 | (simp only [Int.reduceToNat] at ho42; rw [← Ny197.out] at ho42)); have n0_ := Aside0.mk (Kd.R_elder' (by (with_reducible repeat (first | apply Kd.R_alloc | apply Kd.R_drewN | apply Kd.R_drew)); exact HO_10.out) (Kd.R_base ho42) hb); have n1_ := Aside0.mk (Kd.S_elder' (by (with_reducible repeat (first | apply Kd.S_alloc | apply Kd.S_drewN | apply Kd.S_drew)); exact HO_13.out) (Kd.R_base ho42) hb); have n2_ := Aside0.mk (Kd.S_elder' (by (with_reducible repeat (first | apply Kd.S_alloc | apply Kd.S_drewN | apply Kd.S_drew)); exact HO_14.out) (Kd.R_base ho42) hb); have n3_ := Aside0.mk (Kd.R_elder' (by (with_reducible repeat (first | apply Kd.R_alloc | apply Kd.R_drewN | apply Kd.R_drew)); exact HL193_0.out) (Kd.R_base ho42) hb); have n4_ := Aside0.mk (Kd.R_elder' (by (with_reducible repeat (first | apply Kd.R_alloc | apply Kd.R_drewN | apply Kd.R_drew)); exact HL195_0.out) (Kd.R_base ho42) hb); have n5_ := Aside0.mk (Kd.R_lower (Kd.R_new' (Kd.R_new' (Kd.R_new' ho42 (Kd.R_lt (by (with_reducible repeat (first | apply Kd.R_alloc | apply Kd.R_drewN | apply Kd.R_drew)); exact HO_10.out))) (Kd.R_lt (by (with_reducible repeat (first | apply Kd.R_alloc | apply Kd.R_drewN | apply Kd.R_drew)); exact HL193_0.out))) (Kd.R_lt (by (with_reducible repeat (first | apply Kd.R_alloc | apply Kd.R_drewN | apply Kd.R_drew)); exact HL195_0.out))) (below_size (by repeat (first | (with_reducible first | exact HB.out | apply below_alloc | apply pw_below_drewN | apply below_drew1) | exact HB.out)))); have n6_ := Aside0.mk (Kd.C_below (by repeat (first | (with_reducible exact HR193_0.out) | (with_reducible refine Kd.C_alloc ?_ _) | (with_reducible refine Kd.C_drewN ?_ _) | (with_reducible refine Kd.C_drew ?_) | exact HR193_0.out)) hb); have n7_ := Aside0.mk (Kd.C_below (by repeat (first | (with_reducible exact HR195_0.out) | (with_reducible refine Kd.C_alloc ?_ _) | (with_reducible refine Kd.C_drewN ?_ _) | (with_reducible refine Kd.C_drew ?_) | exact HR195_0.out)) hb); have n8_ := Aside0.mk (below_step (by repeat (first | (with_reducible first | exact HB.out | apply below_alloc | apply pw_below_drewN | apply below_drew1) | exact HB.out)) hb); clear HO_10; clear HO_13; clear HO_14; clear HL193_0; clear HL195_0; clear HR193_0; clear HR195_0; clear HB; have HO_10 := n0_; have HO_13 := n1_; have HO_14 := n2_; have HL193_0 := n3_; have HL195_0 := n4_; have HO199 := n5_; have HR193_0 := n6_; have HR195_0 := n7_; have HB := n8_; clear n0_ n1_ n2_ n3_ n4_ n5_ n6_ n7_ n8_; clear hb ho42)))
                                    go_loopg [10, 15] kj22 (fun kq v10 v15 w' => ∃ (x10_5 : List Int) (x15_5 : Int), v15 = .int .i64 x15_5 ∧ Aside0 (impl_bestPaint.l1 kq l0 a1 (rd (rd_L1 t179 0) x23_1) (rd (rd_L1 t180 0) x23_1) x10_5 t179 t180 x15_5 ((rd_L1 l0 0).length : Int) x23_1 = some (r1, r2, r3, r4)) ∧ Aside0 (kq ≤ kj22) ∧ Aside0 (Kd.R (Kd.int .i64) 3 w' w.heap.size (fun _ => True) v10 x10_5) ∧ Aside0 (Kd.S (Kd.slice 3 (Kd.int .i64)) 29 w' w.heap.size (fun k_ => some k_ ≠ (v10 : Value).ownBlock ∧ some k_ ≠ ((.slice (some ad195) t180.length co40) : Value).ownBlock) (.slice (some ad193) t179.length co39) t179) ∧ Aside0 (Kd.S (Kd.slice 3 (Kd.int .i64)) 29 w' w.heap.size (fun k_ => some k_ ≠ (v10 : Value).ownBlock ∧ some k_ ≠ ((.slice (some ad193) t179.length co39) : Value).ownBlock) (.slice (some ad195) t180.length co40) t180) ∧ Aside0 (Below w.heap.size w w'))
                                    case atStart => exact ⟨(y197), (1), (by first | rfl | (simp; done) | (simp [*]; done)), H', ⟨Nat.le_refl _⟩, ⟨by (with_reducible repeat (first | apply Kd.R_alloc | apply Kd.R_drewN | apply Kd.R_drew)); exact Kd.R_mono HO199.out (fun _ hk => trivial)⟩, ⟨by (with_reducible repeat (first | apply Kd.S_alloc | apply Kd.S_drewN | apply Kd.S_drew)); exact Kd.S_mono HO_13.out (fun _ hk => ⟨hk.2, hk.1.2⟩)⟩, ⟨by (with_reducible repeat (first | apply Kd.S_alloc | apply Kd.S_drewN | apply Kd.S_drew)); exact Kd.S_mono HO_14.out (fun _ hk => ⟨hk.2, hk.1.2⟩)⟩, ⟨by repeat (first | (with_reducible first | exact HB.out | apply below_alloc | apply pw_below_drewN | apply below_drew1) | exact HB.out)⟩⟩
                                    case round =>
                                      clear H'
                                      try clear c1
                                      try clear p1
                                      try clear q1
                                      try clear hx1
                                      try clear qi1
                                      try clear c2
                                      try clear p2
                                      try clear c3
                                      try clear c3b0
                                      try clear c3b1
                                      try clear c4
                                      try clear c4b0
                                      try clear c6
                                      try clear p6
                                      try clear c7
                                      try clear c11
                                      try clear c11b0
                                      try clear c11b1
                                      try clear c12
                                      try clear c12b0
                                      try clear c13
                                      try clear c13b0
                                      try clear c14
                                      try clear c14b0
                                      try clear c14b1
                                      try clear c16
                                      try clear c16b0
                                      try clear c17
                                      try clear c17b0
                                      try clear c17b1
                                      try clear p17
                                      try clear q17
                                      try clear hx17
                                      try clear qi17
                                      try clear c18
                                      try clear c18b0
                                      try clear p18
                                      try clear q18
                                      try clear hx18
                                      try clear qi18
                                      try clear c19
                                      try clear p19
                                      try clear q19
                                      try clear hx19
                                      try clear qi19
                                      try clear c22
                                      try clear c24
                                      try clear c24b0
                                      try clear c25
                                      try clear c25b0
                                      try clear c25b1
                                      try clear c26
                                      try clear c26b0
                                      try clear c27
                                      try clear c27b0
                                      try clear c29
                                      try clear c30
                                      try clear c30b0
                                      try clear c30b1
                                      try clear c31
                                      try clear c31b0
                                      try clear c32
                                      try clear c32b0
                                      try clear c34
                                      try clear c34b0
                                      try clear c34b1
                                      try clear c35
                                      try clear c35b0
                                      try clear c36
                                      try clear c36b0
                                      try clear c37
                                      try clear c37b0
                                      try clear c37b1
                                      try clear c38
                                      try clear c38b0
                                      try clear hx177_0
                                      try clear hx185_0
                                      try clear hx186_0
                                      try clear hx187_0
                                      try clear hx188_0
                                      try clear hx189_0
                                      try clear hx190_0
                                      try clear hx191_0
                                      try clear hx192_0
                                      try clear hx193_0
                                      try clear hx194_0
                                      try clear hx195_0
                                      try clear hx196_0
                                      try clear p1
                                      try clear p17
                                      try clear p177
                                      try clear p18
                                      try clear p185
                                      try clear p186
                                      try clear p187
                                      try clear p188
                                      try clear p189
                                      try clear p19
                                      try clear p190
                                      try clear p191
                                      try clear p192
                                      try clear p193
                                      try clear p194
                                      try clear p195
                                      try clear p196
                                      try clear p2
                                      try clear p6
                                      try clear q1
                                      try clear q17
                                      try clear q177
                                      try clear q18
                                      try clear q185
                                      try clear q186
                                      try clear q187
                                      try clear q188
                                      try clear q189
                                      try clear q19
                                      try clear q190
                                      try clear q191
                                      try clear q192
                                      try clear q193
                                      try clear q194
                                      try clear q195
                                      try clear q196
                                      obtain ⟨x10_5, x15_5, rfl, HA, HK5, HO_10, HO_13, HO_14, HB⟩ := hrel
                                      cases gk with
                                      | zero => exact absurd HA.out (by simp [impl_bestPaint.l1])
                                      | succ k5 =>
                                        have H := HA.out
                                        clear HA
                                        simp only [impl_bestPaint.l1] at H
                                        by_cases c43 : x15_5 < (l0.length : Int)
                                        · rw [if_pos c43] at H
                                          have c43b0 : decide (x15_5 < (l0.length : Int)) = true := decide_eq_true c43
                                          clear c43
                                          obtain ⟨ji44, hji44⟩ : ∃ j_ : Int, (wrap64 (x15_5 - 1)) = j_ := ⟨_, rfl⟩
                                          replace H : (if 0 ≤ (ji44) then (if (ji44) < (x10_5.length : Int) then (if (ji44) < (t179.length : Int) then (if 0 ≤ (rd x10_5 (ji44)) then (if (rd x10_5 (ji44)) < ((rd_L1 t179 (ji44)).length : Int) then (if (ji44) < (l0.length : Int) then (if (rd x10_5 (ji44)) < ((rd_L1 l0 (ji44)).length : Int) then (if 0 ≤ x15_5 then (impl_bestPaint.l2 k5 l0 a1 (rd (rd_L1 t179 0) x23_1) (rd (rd_L1 t180 0) x23_1) x10_5 t179 t180 x15_5 (rd x10_5 (ji44)) (wrap64 ((rd (rd_L1 t179 (ji44)) (rd x10_5 (ji44))) - (rd (rd_L1 l0 (ji44)) (rd x10_5 (ji44))))) ((rd_L1 l0 0).length : Int) x23_1 ((rd_L1 l0 x15_5).length : Int) 0) else (none)) else (none)) else (none)) else (none)) else (none)) else (none)) else (none)) else (none)) = some (r1, r2, r3, r4) := by first | (rw [hji44] at H; exact H) | (simp only [hji44] at H ⊢; exact H)
                                          have hji44w : (IntKind.i64.wrap (x15_5 - 1)) = ji44 := (i64_w _).trans hji44
                                          by_cases c45 : 0 ≤ (ji44)
                                          · rw [if_pos c45] at H
                                            have c45b0 : decide (0 ≤ (ji44)) = true := decide_eq_true c45
                                            clear c45
                                            by_cases c46 : (ji44) < (x10_5.length : Int)
                                            · rw [if_pos c46] at H
                                              have c46b0 : decide ((ji44) < (x10_5.length : Int)) = true := decide_eq_true c46
                                              clear c46
                                              by_cases c47 : (ji44) < (t179.length : Int)
                                              · rw [if_pos c47] at H
                                                have c47b0 : decide ((ji44) < (t179.length : Int)) = true := decide_eq_true c47
                                                clear c47
                                                by_cases c48 : 0 ≤ (rd x10_5 (ji44))
                                                · rw [if_pos c48] at H
                                                  have c48b0 : decide (0 ≤ (rd x10_5 (ji44))) = true := decide_eq_true c48
                                                  clear c48
                                                  by_cases c49 : (rd x10_5 (ji44)) < ((rd_L1 t179 (ji44)).length : Int)
                                                  · rw [if_pos c49] at H
                                                    have c49b0 : decide ((rd x10_5 (ji44)) < ((rd_L1 t179 (ji44)).length : Int)) = true := decide_eq_true c49
                                                    clear c49
                                                    by_cases c50 : (ji44) < (l0.length : Int)
                                                    · rw [if_pos c50] at H
                                                      have c50b0 : decide ((ji44) < (l0.length : Int)) = true := decide_eq_true c50
                                                      clear c50
                                                      by_cases c51 : (rd x10_5 (ji44)) < ((rd_L1 l0 (ji44)).length : Int)
                                                      · rw [if_pos c51] at H
                                                        have c51b0 : decide ((rd x10_5 (ji44)) < ((rd_L1 l0 (ji44)).length : Int)) = true := decide_eq_true c51
                                                        clear c51
                                                        by_cases c52 : 0 ≤ x15_5
                                                        · rw [if_pos c52] at H
                                                          have c52b0 : decide (0 ≤ x15_5) = true := decide_eq_true c52
                                                          clear c52
                                                          have H' := Aside0.mk H
                                                          clear H
                                                          obtain ⟨Ao53, co53, eo53⟩ := Kd.R_slice HO_10.out
                                                          subst eo53
                                                          have p200 : 0 ≤ ((ji44) : Int) := of_decide_eq_true (by first | (with_reducible assumption) | assumption)
                                                          have q200 : (ji44) < (x10_5.length : Int) := of_decide_eq_true (by first | (with_reducible assumption) | assumption)
                                                          obtain ⟨ad200, e200, hx200_0⟩ := Kd.at_int (Kd.R_reads' HO_10.out).2.2 (ji44) p200 q200
                                                          cases e200
                                                          replace p200 := eq_true p200
                                                          replace q200 := eq_true q200
                                                          have p201 : 0 ≤ ((ji44) : Int) := of_decide_eq_true (by first | (with_reducible assumption) | assumption)
                                                          have q201 : (ji44) < (t179.length : Int) := of_decide_eq_true (by first | (with_reducible assumption) | assumption)
                                                          obtain ⟨ad201, A201_0, c201_0, e201, hx201_0, hl201_0, hi201_0⟩ := at_L1 (Kd.S_reads' HO_13.out).2.2 (ji44) p201 q201
                                                          obtain rfl : ad193 = ad201 := (by injection e201)
                                                          obtain ⟨ce201, hce201, hMe201, hcc201⟩ := Kd.S_get HO_13.out [] (ji44) p201 (by first | exact q201 | exact of_decide_eq_true (by first | (with_reducible assumption) | assumption) | (have e_ := (Kd.S_reads' HO_13.out).1; omega))
                                                          obtain ⟨ve201_0, rfl, ge201_0⟩ := hMe201
                                                          have hv201_0 := hcc201 0 _ rfl
                                                          rw [Nat.add_zero, show ((Kd.slice 3 (Kd.int .i64))).sz = 1 from rfl, Nat.mul_one] at hv201_0
                                                          replace hv201_0 := Option.some.inj (hv201_0.symm.trans hx201_0)
                                                          rw [hv201_0] at ge201_0
                                                          have HL201_0 := Aside0.mk (show Kd.R (Kd.int .i64) 3 _ _ _ _ (rd_L1 t179 (ji44)) from ge201_0)
                                                          clear hv201_0 ge201_0
                                                          clear hcc201 hce201
                                                          have HR201_0 := Aside0.mk hi201_0
                                                          have HC201_0 := Aside0.mk hl201_0
                                                          clear hi201_0 hl201_0
                                                          replace p201 := eq_true p201
                                                          replace q201 := eq_true q201
                                                          have p202 : 0 ≤ ((rd x10_5 (ji44)) : Int) := of_decide_eq_true (by first | (with_reducible assumption) | assumption)
                                                          have q202 : (rd x10_5 (ji44)) < ((rd_L1 t179 (ji44)).length : Int) := of_decide_eq_true (by first | (with_reducible assumption) | assumption)
                                                          obtain ⟨ad202, e202, hx202_0⟩ := Kd.at_int (by repeat (first | (with_reducible exact HR201_0.out) | (with_reducible refine Kd.C_alloc ?_ _) | (with_reducible refine Kd.C_drewN ?_ _) | (with_reducible refine Kd.C_drew ?_) | exact HR201_0.out)) (rd x10_5 (ji44)) p202 q202
                                                          cases e202
                                                          replace p202 := eq_true p202
                                                          replace q202 := eq_true q202
                                                          have p203 : 0 ≤ ((ji44) : Int) := of_decide_eq_true (by first | (with_reducible assumption) | assumption)
                                                          have q203 : (ji44) < (l0.length : Int) := of_decide_eq_true (by first | (with_reducible assumption) | assumption)
                                                          obtain ⟨ad203, A203_0, c203_0, e203, hx203_0, hl203_0, hi203_0⟩ := at_L1 HR0.out (ji44) p203 q203
                                                          obtain rfl : ad177 = ad203 := (by injection e203)
                                                          replace hx203_0 := (HB.out.cell (World.block_lt_of_cell? w _ hx203_0)).trans hx203_0
                                                          have HR203_0 := Aside0.mk hi203_0
                                                          have HC203_0 := Aside0.mk hl203_0
                                                          clear hi203_0 hl203_0
                                                          replace p203 := eq_true p203
                                                          replace q203 := eq_true q203
                                                          have p204 : 0 ≤ ((rd x10_5 (ji44)) : Int) := of_decide_eq_true (by first | (with_reducible assumption) | assumption)
                                                          have q204 : (rd x10_5 (ji44)) < ((rd_L1 l0 (ji44)).length : Int) := of_decide_eq_true (by first | (with_reducible assumption) | assumption)
                                                          obtain ⟨ad204, e204, hx204_0⟩ := Kd.at_int HR203_0.out (rd x10_5 (ji44)) p204 q204
                                                          cases e204
                                                          replace hx204_0 := (HB.out.cell (World.block_lt_of_cell? w _ hx204_0)).trans hx204_0
                                                          replace p204 := eq_true p204
                                                          replace q204 := eq_true q204
                                                          have p205 : 0 ≤ (x15_5 : Int) := of_decide_eq_true (by first | (with_reducible assumption) | assumption)
                                                          have q205 : x15_5 < (l0.length : Int) := of_decide_eq_true (by first | (with_reducible assumption) | assumption)
                                                          obtain ⟨ad205, A205_0, c205_0, e205, hx205_0, hl205_0, hi205_0⟩ := at_L1 HR0.out x15_5 p205 q205
                                                          obtain rfl : ad177 = ad205 := (by injection e205)
                                                          replace hx205_0 := (HB.out.cell (World.block_lt_of_cell? w _ hx205_0)).trans hx205_0
                                                          have HR205_0 := Aside0.mk hi205_0
                                                          have HC205_0 := Aside0.mk hl205_0
                                                          clear hi205_0 hl205_0
                                                          replace p205 := eq_true p205
                                                          replace q205 := eq_true q205
                                                          go_wp2
                                                          repeat (go_quiet (fail); try go_wp2)
                                                          go_loopg [10, 125] k5 (fun kq v10 v125 w' => ∃ (x10_6 : List Int) (x125_6 : Int), v125 = .int .i64 x125_6 ∧ Aside0 (impl_bestPaint.l2 kq l0 a1 (rd (rd_L1 t179 0) x23_1) (rd (rd_L1 t180 0) x23_1) x10_6 t179 t180 x15_5 (rd x10_5 (ji44)) (wrap64 ((rd (rd_L1 t179 (ji44)) (rd x10_5 (ji44))) - (rd (rd_L1 l0 (ji44)) (rd x10_5 (ji44))))) ((rd_L1 l0 0).length : Int) x23_1 ((rd_L1 l0 x15_5).length : Int) x125_6 = some (r1, r2, r3, r4)) ∧ Aside0 (kq ≤ k5) ∧ Aside0 (Kd.R (Kd.int .i64) 3 w' w.heap.size (fun _ => True) v10 x10_6) ∧ Aside0 (Kd.S (Kd.slice 3 (Kd.int .i64)) 29 w' w.heap.size (fun k_ => some k_ ≠ (v10 : Value).ownBlock ∧ some k_ ≠ ((.slice (some ad195) t180.length co40) : Value).ownBlock) (.slice (some ad193) t179.length co39) t179) ∧ Aside0 (Kd.S (Kd.slice 3 (Kd.int .i64)) 29 w' w.heap.size (fun k_ => some k_ ≠ (v10 : Value).ownBlock ∧ some k_ ≠ ((.slice (some ad193) t179.length co39) : Value).ownBlock) (.slice (some ad195) t180.length co40) t180) ∧ Aside0 (Kd.C (Kd.int .i64) w' (some ad202) (rd_L1 t179 (ji44)).length (rd_L1 t179 (ji44))) ∧ Aside0 (Below w.heap.size w w'))
                                                          case atStart => exact ⟨(x10_5), (0), (by first | rfl | (simp; done) | (simp [*]; done)), H', ⟨Nat.le_refl _⟩, ⟨by (with_reducible repeat (first | apply Kd.R_alloc | apply Kd.R_drewN | apply Kd.R_drew)); exact HO_10.out⟩, ⟨by (with_reducible repeat (first | apply Kd.S_alloc | apply Kd.S_drewN | apply Kd.S_drew)); exact HO_13.out⟩, ⟨by (with_reducible repeat (first | apply Kd.S_alloc | apply Kd.S_drewN | apply Kd.S_drew)); exact HO_14.out⟩, ⟨by repeat (first | (with_reducible exact HR201_0.out) | (with_reducible refine Kd.C_alloc ?_ _) | (with_reducible refine Kd.C_drewN ?_ _) | (with_reducible refine Kd.C_drew ?_) | exact HR201_0.out)⟩, ⟨by repeat (first | (with_reducible first | exact HB.out | apply below_alloc | apply pw_below_drewN | apply below_drew1) | exact HB.out)⟩⟩
                                                          case round =>
                                                            clear H'
                                                            try clear c1
                                                            try clear p1
                                                            try clear q1
                                                            try clear hx1
                                                            try clear qi1
                                                            try clear c2
                                                            try clear p2
                                                            try clear q2
                                                            try clear hx2
                                                            try clear c3
                                                            try clear c3b0
                                                            try clear c3b1
                                                            try clear c4
                                                            try clear c4b0
                                                            try clear c5
                                                            try clear c6
                                                            try clear p6
                                                            try clear c7
                                                            try clear c11
                                                            try clear c11b0
                                                            try clear c11b1
                                                            try clear c12
                                                            try clear c12b0
                                                            try clear c13
                                                            try clear c13b0
                                                            try clear c14
                                                            try clear c14b0
                                                            try clear c14b1
                                                            try clear c16
                                                            try clear c16b0
                                                            try clear c17
                                                            try clear c17b0
                                                            try clear c17b1
                                                            try clear p17
                                                            try clear q17
                                                            try clear hx17
                                                            try clear qi17
                                                            try clear c18
                                                            try clear c18b0
                                                            try clear p18
                                                            try clear q18
                                                            try clear hx18
                                                            try clear qi18
                                                            try clear c19
                                                            try clear p19
                                                            try clear q19
                                                            try clear hx19
                                                            try clear qi19
                                                            try clear c20
                                                            try clear p20
                                                            try clear q20
                                                            try clear hx20
                                                            try clear c22
                                                            try clear c24
                                                            try clear c24b0
                                                            try clear c25
                                                            try clear c25b0
                                                            try clear c25b1
                                                            try clear c26
                                                            try clear c26b0
                                                            try clear c27
                                                            try clear c27b0
                                                            try clear c29
                                                            try clear c30
                                                            try clear c30b0
                                                            try clear c30b1
                                                            try clear c31
                                                            try clear c31b0
                                                            try clear c32
                                                            try clear c32b0
                                                            try clear c34
                                                            try clear c34b0
                                                            try clear c34b1
                                                            try clear c35
                                                            try clear c35b0
                                                            try clear c36
                                                            try clear c36b0
                                                            try clear c37
                                                            try clear c37b0
                                                            try clear c37b1
                                                            try clear c38
                                                            try clear c38b0
                                                            try clear c43
                                                            try clear c43b0
                                                            try clear c45
                                                            try clear c45b0
                                                            try clear c46
                                                            try clear c46b0
                                                            try clear c47
                                                            try clear c47b0
                                                            try clear c48
                                                            try clear c48b0
                                                            try clear c49
                                                            try clear c49b0
                                                            try clear c50
                                                            try clear c50b0
                                                            try clear c51
                                                            try clear c51b0
                                                            try clear c52
                                                            try clear c52b0
                                                            try clear hx177_0
                                                            try clear hx185_0
                                                            try clear hx186_0
                                                            try clear hx187_0
                                                            try clear hx188_0
                                                            try clear hx189_0
                                                            try clear hx190_0
                                                            try clear hx191_0
                                                            try clear hx192_0
                                                            try clear hx193_0
                                                            try clear hx194_0
                                                            try clear hx195_0
                                                            try clear hx196_0
                                                            try clear hx200_0
                                                            try clear hx201_0
                                                            try clear hx202_0
                                                            try clear hx203_0
                                                            try clear hx204_0
                                                            try clear hx205_0
                                                            try clear p1
                                                            try clear p17
                                                            try clear p177
                                                            try clear p18
                                                            try clear p185
                                                            try clear p186
                                                            try clear p187
                                                            try clear p188
                                                            try clear p189
                                                            try clear p19
                                                            try clear p190
                                                            try clear p191
                                                            try clear p192
                                                            try clear p193
                                                            try clear p194
                                                            try clear p195
                                                            try clear p196
                                                            try clear p2
                                                            try clear p200
                                                            try clear p201
                                                            try clear p202
                                                            try clear p203
                                                            try clear p204
                                                            try clear p205
                                                            try clear p6
                                                            try clear q1
                                                            try clear q17
                                                            try clear q177
                                                            try clear q18
                                                            try clear q185
                                                            try clear q186
                                                            try clear q187
                                                            try clear q188
                                                            try clear q189
                                                            try clear q19
                                                            try clear q190
                                                            try clear q191
                                                            try clear q192
                                                            try clear q193
                                                            try clear q194
                                                            try clear q195
                                                            try clear q196
                                                            try clear q200
                                                            try clear q201
                                                            try clear q202
                                                            try clear q203
                                                            try clear q204
                                                            try clear q205
                                                            obtain ⟨x10_6, x125_6, rfl, HA, HK6, HO_10, HO_13, HO_14, HR201_0, HB⟩ := hrel
                                                            cases gk with
                                                            | zero => exact absurd HA.out (by simp [impl_bestPaint.l2])
                                                            | succ k6 =>
                                                              have H := HA.out
                                                              clear HA
                                                              simp only [impl_bestPaint.l2] at H
                                                              by_cases c54 : x125_6 < ((rd_L1 l0 x15_5).length : Int)
                                                              · rw [if_pos c54] at H
                                                                have c54b0 : decide (x125_6 < ((rd_L1 l0 x15_5).length : Int)) = true := decide_eq_true c54
                                                                clear c54
                                                                by_cases c55 : x125_6 = (rd x10_5 (ji44))
                                                                · rw [if_pos c55] at H
                                                                  have c55b0 : (x125_6 == (rd x10_5 (ji44))) = true := beq_iff_eq.mpr c55
                                                                  have c55b1 : (x125_6 != (rd x10_5 (ji44))) = false := bne_eq_false_iff_eq.mpr c55
                                                                  clear c55
                                                                  have H' := Aside0.mk H
                                                                  clear H
                                                                  go_wp2
                                                                  repeat (go_quiet (fail); try go_wp2)
                                                                  go_roundg k6
                                                                  case measure => have := HK1.out; have := HJ5.out; have := HJ8.out; have := HJ22.out; have := HK5.out; have := HK6.out; omega
                                                                  case rel => exact ⟨(x10_6), (wrap64 (x125_6 + 1)), (by first | rfl | (simp; done) | (simp [*]; done)), H', ⟨by have := HK1.out; have := HJ5.out; have := HJ8.out; have := HJ22.out; have := HK5.out; have := HK6.out; omega⟩, ⟨by (with_reducible repeat (first | apply Kd.R_alloc | apply Kd.R_drewN | apply Kd.R_drew)); exact HO_10.out⟩, ⟨by (with_reducible repeat (first | apply Kd.S_alloc | apply Kd.S_drewN | apply Kd.S_drew)); exact HO_13.out⟩, ⟨by (with_reducible repeat (first | apply Kd.S_alloc | apply Kd.S_drewN | apply Kd.S_drew)); exact HO_14.out⟩, ⟨by repeat (first | (with_reducible exact HR201_0.out) | (with_reducible refine Kd.C_alloc ?_ _) | (with_reducible refine Kd.C_drewN ?_ _) | (with_reducible refine Kd.C_drew ?_) | exact HR201_0.out)⟩, ⟨by repeat (first | (with_reducible first | exact HB.out | apply below_alloc | apply pw_below_drewN | apply below_drew1) | exact HB.out)⟩⟩
                                                                · rw [if_neg c55] at H
                                                                  have c55b0 : (x125_6 == (rd x10_5 (ji44))) = false := beq_eq_false_iff_ne.mpr c55
                                                                  have c55b1 : (x125_6 != (rd x10_5 (ji44))) = true := bne_iff_ne.mpr c55
                                                                  by_cases c56 : 0 ≤ x15_5
                                                                  · rw [if_pos c56] at H
                                                                    have c56b0 : decide (0 ≤ x15_5) = true := decide_eq_true c56
                                                                    clear c56
                                                                    by_cases c57 : x15_5 < (t180.length : Int)
                                                                    · rw [if_pos c57] at H
                                                                      have c57b0 : decide (x15_5 < (t180.length : Int)) = true := decide_eq_true c57
                                                                      clear c57
                                                                      by_cases c58 : 0 ≤ x125_6
                                                                      · rw [if_pos c58] at H
                                                                        have c58b0 : decide (0 ≤ x125_6) = true := decide_eq_true c58
                                                                        clear c58
                                                                        by_cases c59 : x125_6 < ((rd_L1 t180 x15_5).length : Int)
                                                                        · rw [if_pos c59] at H
                                                                          have c59b0 : decide (x125_6 < ((rd_L1 t180 x15_5).length : Int)) = true := decide_eq_true c59
                                                                          clear c59
                                                                          by_cases c60 : (rd (rd_L1 t180 x15_5) x125_6) > 0
                                                                          · rw [if_pos c60] at H
                                                                            have c60b0 : decide (0 < (rd (rd_L1 t180 x15_5) x125_6)) = true := decide_eq_true c60
                                                                            clear c60
                                                                            by_cases c61 : x15_5 < (t179.length : Int)
                                                                            · rw [if_pos c61] at H
                                                                              have c61b0 : decide (x15_5 < (t179.length : Int)) = true := decide_eq_true c61
                                                                              clear c61
                                                                              by_cases c62 : x125_6 < ((rd_L1 t179 x15_5).length : Int)
                                                                              · rw [if_pos c62] at H
                                                                                have c62b0 : decide (x125_6 < ((rd_L1 t179 x15_5).length : Int)) = true := decide_eq_true c62
                                                                                clear c62
                                                                                by_cases c63 : (rd (rd_L1 t179 x15_5) x125_6) = (wrap64 ((rd (rd_L1 t179 (ji44)) (rd x10_5 (ji44))) - (rd (rd_L1 l0 (ji44)) (rd x10_5 (ji44)))))
                                                                                · rw [if_pos c63] at H
                                                                                  have c63b0 : ((rd (rd_L1 t179 x15_5) x125_6) == (wrap64 ((rd (rd_L1 t179 (ji44)) (rd x10_5 (ji44))) - (rd (rd_L1 l0 (ji44)) (rd x10_5 (ji44)))))) = true := beq_iff_eq.mpr c63
                                                                                  have c63b1 : ((rd (rd_L1 t179 x15_5) x125_6) != (wrap64 ((rd (rd_L1 t179 (ji44)) (rd x10_5 (ji44))) - (rd (rd_L1 l0 (ji44)) (rd x10_5 (ji44)))))) = false := bne_eq_false_iff_eq.mpr c63
                                                                                  clear c63
                                                                                  by_cases c64 : x10_6.length < 17592186044416
                                                                                  · rw [if_pos c64] at H
                                                                                    have LMc64 := Aside0.mk c64
                                                                                    clear c64
                                                                                    obtain ⟨y210, hy210⟩ : ∃ y_ : List Int, y_ = (x10_6 ++ [x125_6]) := ⟨_, rfl⟩
                                                                                    replace H : (impl_bestPaint.l1 k6 l0 a1 (rd (rd_L1 t179 0) x23_1) (rd (rd_L1 t180 0) x23_1) y210 t179 t180 (wrap64 (x15_5 + 1)) ((rd_L1 l0 0).length : Int) x23_1) = some (r1, r2, r3, r4) := by first | (rw [hy210]; with_reducible exact H) | (have H2_ := (Option.bind_some _ _).symm.trans H; rw [hy210]; with_reducible exact H2_) | (have H2_ := (Option.bind_some _ _).symm.trans H; with_reducible exact H2_) | with_reducible exact H | (rw [hy210]; exact H) | exact H
                                                                                    have Ny210 := Aside0.mk hy210
                                                                                    clear hy210
                                                                                    have H' := Aside0.mk H
                                                                                    clear H
                                                                                    have p206 : 0 ≤ (x15_5 : Int) := of_decide_eq_true (by first | (with_reducible assumption) | assumption)
                                                                                    have q206 : x15_5 < (t180.length : Int) := of_decide_eq_true (by first | (with_reducible assumption) | assumption)
                                                                                    obtain ⟨ad206, A206_0, c206_0, e206, hx206_0, hl206_0, hi206_0⟩ := at_L1 (Kd.S_reads' HO_14.out).2.2 x15_5 p206 q206
                                                                                    obtain rfl : ad195 = ad206 := (by injection e206)
                                                                                    obtain ⟨ce206, hce206, hMe206, hcc206⟩ := Kd.S_get HO_14.out [] x15_5 p206 (by first | exact q206 | exact of_decide_eq_true (by first | (with_reducible assumption) | assumption) | (have e_ := (Kd.S_reads' HO_14.out).1; omega))
                                                                                    obtain ⟨ve206_0, rfl, ge206_0⟩ := hMe206
                                                                                    have hv206_0 := hcc206 0 _ rfl
                                                                                    rw [Nat.add_zero, show ((Kd.slice 3 (Kd.int .i64))).sz = 1 from rfl, Nat.mul_one] at hv206_0
                                                                                    replace hv206_0 := Option.some.inj (hv206_0.symm.trans hx206_0)
                                                                                    rw [hv206_0] at ge206_0
                                                                                    have HL206_0 := Aside0.mk (show Kd.R (Kd.int .i64) 3 _ _ _ _ (rd_L1 t180 x15_5) from ge206_0)
                                                                                    clear hv206_0 ge206_0
                                                                                    clear hcc206 hce206
                                                                                    have HR206_0 := Aside0.mk hi206_0
                                                                                    have HC206_0 := Aside0.mk hl206_0
                                                                                    clear hi206_0 hl206_0
                                                                                    replace p206 := eq_true p206
                                                                                    replace q206 := eq_true q206
                                                                                    have p207 : 0 ≤ (x125_6 : Int) := of_decide_eq_true (by first | (with_reducible assumption) | assumption)
                                                                                    have q207 : x125_6 < ((rd_L1 t180 x15_5).length : Int) := of_decide_eq_true (by first | (with_reducible assumption) | assumption)
                                                                                    obtain ⟨ad207, e207, hx207_0⟩ := Kd.at_int (by repeat (first | (with_reducible exact HR206_0.out) | (with_reducible refine Kd.C_alloc ?_ _) | (with_reducible refine Kd.C_drewN ?_ _) | (with_reducible refine Kd.C_drew ?_) | exact HR206_0.out)) x125_6 p207 q207
                                                                                    cases e207
                                                                                    replace p207 := eq_true p207
                                                                                    replace q207 := eq_true q207
                                                                                    have p208 : 0 ≤ (x15_5 : Int) := of_decide_eq_true (by first | (with_reducible assumption) | assumption)
                                                                                    have q208 : x15_5 < (t179.length : Int) := of_decide_eq_true (by first | (with_reducible assumption) | assumption)
                                                                                    obtain ⟨ad208, A208_0, c208_0, e208, hx208_0, hl208_0, hi208_0⟩ := at_L1 (Kd.S_reads' HO_13.out).2.2 x15_5 p208 q208
                                                                                    obtain rfl : ad193 = ad208 := (by injection e208)
                                                                                    obtain ⟨ce208, hce208, hMe208, hcc208⟩ := Kd.S_get HO_13.out [] x15_5 p208 (by first | exact q208 | exact of_decide_eq_true (by first | (with_reducible assumption) | assumption) | (have e_ := (Kd.S_reads' HO_13.out).1; omega))
                                                                                    obtain ⟨ve208_0, rfl, ge208_0⟩ := hMe208
                                                                                    have hv208_0 := hcc208 0 _ rfl
                                                                                    rw [Nat.add_zero, show ((Kd.slice 3 (Kd.int .i64))).sz = 1 from rfl, Nat.mul_one] at hv208_0
                                                                                    replace hv208_0 := Option.some.inj (hv208_0.symm.trans hx208_0)
                                                                                    rw [hv208_0] at ge208_0
                                                                                    have HL208_0 := Aside0.mk (show Kd.R (Kd.int .i64) 3 _ _ _ _ (rd_L1 t179 x15_5) from ge208_0)
                                                                                    clear hv208_0 ge208_0
                                                                                    clear hcc208 hce208
                                                                                    have HR208_0 := Aside0.mk hi208_0
                                                                                    have HC208_0 := Aside0.mk hl208_0
                                                                                    clear hi208_0 hl208_0
                                                                                    replace p208 := eq_true p208
                                                                                    replace q208 := eq_true q208
                                                                                    have p209 : 0 ≤ (x125_6 : Int) := of_decide_eq_true (by first | (with_reducible assumption) | assumption)
                                                                                    have q209 : x125_6 < ((rd_L1 t179 x15_5).length : Int) := of_decide_eq_true (by first | (with_reducible assumption) | assumption)
                                                                                    obtain ⟨ad209, e209, hx209_0⟩ := Kd.at_int (by repeat (first | (with_reducible exact HR208_0.out) | (with_reducible refine Kd.C_alloc ?_ _) | (with_reducible refine Kd.C_drewN ?_ _) | (with_reducible refine Kd.C_drew ?_) | exact HR208_0.out)) x125_6 p209 q209
                                                                                    cases e209
                                                                                    replace p209 := eq_true p209
                                                                                    replace q209 := eq_true q209
                                                                                    go_wp2_with (first | ((with_reducible refine gate_builtin (b := .append) (xs := #[.tmp 152, .tmp 154]) rfl ?_); at_builtin; refine Kd.R_append (Kd.int .i64) (w0 := w) w.heap.size rfl (.tmp 152) (.tmp 154) 29 3 (.int .i64 0) 8 rfl Try.underlying29 info3 rfl (by decide) (by omega) u10 x10_6 x125_6 [.int .i64 x125_6] (fun _ => True) (fun _ => False) rfl rfl ?aP (fun _ hk => hk.elim) ?aF ?aO ?aB ?aS ?aL ?_; (case aP => exact rfl); (case aB => exact (by repeat (first | (with_reducible first | exact HB.out | apply below_alloc | apply pw_below_drewN | apply below_drew1) | exact HB.out))); (case aF => exact (fun _ _ => trivial)); (case aO => exact (by (with_reducible repeat (first | apply Kd.R_alloc | apply Kd.R_drewN | apply Kd.R_drew)); exact HO_10.out)); (case aS => exact (below_size (by repeat (first | (with_reducible first | exact HB.out | apply below_alloc | apply pw_below_drewN | apply below_drew1) | exact HB.out)))); (case aL => have := LMc64.out; omega); intro v211 w65 ho hb hg hat; rw [← Ny210.out] at ho; have n0_ := Aside0.mk (Kd.S_after (ok := (fun k_ => some k_ ≠ (.slice (some ad195) t180.length co40 : Value).ownBlock)) (by (with_reducible repeat (first | apply Kd.S_alloc | apply Kd.S_drewN | apply Kd.S_drew)); exact Kd.S_mono HO_13.out (fun _ hk => ⟨hk.2, hk.1⟩)) hg hat); have n1_ := Aside0.mk (Kd.S_after (ok := (fun k_ => some k_ ≠ (.slice (some ad193) t179.length co39 : Value).ownBlock)) (by (with_reducible repeat (first | apply Kd.S_alloc | apply Kd.S_drewN | apply Kd.S_drew)); exact Kd.S_mono HO_14.out (fun _ hk => ⟨hk.2, hk.1⟩)) hg hat); have n2_ := Aside0.mk (Kd.R_after (ok := (fun k_ => some k_ ≠ (.slice (some ad193) t179.length co39 : Value).ownBlock ∧ some k_ ≠ (.slice (some ad195) t180.length co40 : Value).ownBlock)) (by (with_reducible repeat (first | apply Kd.R_alloc | apply Kd.R_drewN | apply Kd.R_drew)); exact Kd.R_mono HL206_0.out (fun _ hk => ⟨⟨hk.1.2, hk.2⟩, hk.1.1⟩)) hg hat); have n3_ := Aside0.mk (Kd.R_after (ok := (fun k_ => some k_ ≠ (.slice (some ad193) t179.length co39 : Value).ownBlock ∧ some k_ ≠ (.slice (some ad195) t180.length co40 : Value).ownBlock)) (by (with_reducible repeat (first | apply Kd.R_alloc | apply Kd.R_drewN | apply Kd.R_drew)); exact Kd.R_mono HL208_0.out (fun _ hk => ⟨⟨hk.2, hk.1.2⟩, hk.1.1⟩)) hg hat); have n4_ := Aside0.mk (hb); have n5_ := Aside0.mk (ho); clear HO_13; clear HO_14; clear HL206_0; clear HL208_0; clear HB; clear HO_10; have HO_13 := n0_; have HO_14 := n1_; have HL206_0 := n2_; have HL208_0 := n3_; have HB := n4_; have HO212 := n5_; clear n0_ n1_ n2_ n3_ n4_ n5_; clear ho hb hg hat))
                                                                                    repeat (go_quiet (first | ((with_reducible refine gate_builtin (b := .append) (xs := #[.tmp 152, .tmp 154]) rfl ?_); at_builtin; refine Kd.R_append (Kd.int .i64) (w0 := w) w.heap.size rfl (.tmp 152) (.tmp 154) 29 3 (.int .i64 0) 8 rfl Try.underlying29 info3 rfl (by decide) (by omega) u10 x10_6 x125_6 [.int .i64 x125_6] (fun _ => True) (fun _ => False) rfl rfl ?aP (fun _ hk => hk.elim) ?aF ?aO ?aB ?aS ?aL ?_; (case aP => exact rfl); (case aB => exact (by repeat (first | (with_reducible first | exact HB.out | apply below_alloc | apply pw_below_drewN | apply below_drew1) | exact HB.out))); (case aF => exact (fun _ _ => trivial)); (case aO => exact (by (with_reducible repeat (first | apply Kd.R_alloc | apply Kd.R_drewN | apply Kd.R_drew)); exact HO_10.out)); (case aS => exact (below_size (by repeat (first | (with_reducible first | exact HB.out | apply below_alloc | apply pw_below_drewN | apply below_drew1) | exact HB.out)))); (case aL => have := LMc64.out; omega); intro v211 w65 ho hb hg hat; rw [← Ny210.out] at ho; have n0_ := Aside0.mk (Kd.S_after (ok := (fun k_ => some k_ ≠ (.slice (some ad195) t180.length co40 : Value).ownBlock)) (by (with_reducible repeat (first | apply Kd.S_alloc | apply Kd.S_drewN | apply Kd.S_drew)); exact Kd.S_mono HO_13.out (fun _ hk => ⟨hk.2, hk.1⟩)) hg hat); have n1_ := Aside0.mk (Kd.S_after (ok := (fun k_ => some k_ ≠ (.slice (some ad193) t179.length co39 : Value).ownBlock)) (by (with_reducible repeat (first | apply Kd.S_alloc | apply Kd.S_drewN | apply Kd.S_drew)); exact Kd.S_mono HO_14.out (fun _ hk => ⟨hk.2, hk.1⟩)) hg hat); have n2_ := Aside0.mk (Kd.R_after (ok := (fun k_ => some k_ ≠ (.slice (some ad193) t179.length co39 : Value).ownBlock ∧ some k_ ≠ (.slice (some ad195) t180.length co40 : Value).ownBlock)) (by (with_reducible repeat (first | apply Kd.R_alloc | apply Kd.R_drewN | apply Kd.R_drew)); exact Kd.R_mono HL206_0.out (fun _ hk => ⟨⟨hk.1.2, hk.2⟩, hk.1.1⟩)) hg hat); have n3_ := Aside0.mk (Kd.R_after (ok := (fun k_ => some k_ ≠ (.slice (some ad193) t179.length co39 : Value).ownBlock ∧ some k_ ≠ (.slice (some ad195) t180.length co40 : Value).ownBlock)) (by (with_reducible repeat (first | apply Kd.R_alloc | apply Kd.R_drewN | apply Kd.R_drew)); exact Kd.R_mono HL208_0.out (fun _ hk => ⟨⟨hk.2, hk.1.2⟩, hk.1.1⟩)) hg hat); have n4_ := Aside0.mk (hb); have n5_ := Aside0.mk (ho); clear HO_13; clear HO_14; clear HL206_0; clear HL208_0; clear HB; clear HO_10; have HO_13 := n0_; have HO_14 := n1_; have HL206_0 := n2_; have HL208_0 := n3_; have HB := n4_; have HO212 := n5_; clear n0_ n1_ n2_ n3_ n4_ n5_; clear ho hb hg hat)); try go_wp2_with (first | ((with_reducible refine gate_builtin (b := .append) (xs := #[.tmp 152, .tmp 154]) rfl ?_); at_builtin; refine Kd.R_append (Kd.int .i64) (w0 := w) w.heap.size rfl (.tmp 152) (.tmp 154) 29 3 (.int .i64 0) 8 rfl Try.underlying29 info3 rfl (by decide) (by omega) u10 x10_6 x125_6 [.int .i64 x125_6] (fun _ => True) (fun _ => False) rfl rfl ?aP (fun _ hk => hk.elim) ?aF ?aO ?aB ?aS ?aL ?_; (case aP => exact rfl); (case aB => exact (by repeat (first | (with_reducible first | exact HB.out | apply below_alloc | apply pw_below_drewN | apply below_drew1) | exact HB.out))); (case aF => exact (fun _ _ => trivial)); (case aO => exact (by (with_reducible repeat (first | apply Kd.R_alloc | apply Kd.R_drewN | apply Kd.R_drew)); exact HO_10.out)); (case aS => exact (below_size (by repeat (first | (with_reducible first | exact HB.out | apply below_alloc | apply pw_below_drewN | apply below_drew1) | exact HB.out)))); (case aL => have := LMc64.out; omega); intro v211 w65 ho hb hg hat; rw [← Ny210.out] at ho; have n0_ := Aside0.mk (Kd.S_after (ok := (fun k_ => some k_ ≠ (.slice (some ad195) t180.length co40 : Value).ownBlock)) (by (with_reducible repeat (first | apply Kd.S_alloc | apply Kd.S_drewN | apply Kd.S_drew)); exact Kd.S_mono HO_13.out (fun _ hk => ⟨hk.2, hk.1⟩)) hg hat); have n1_ := Aside0.mk (Kd.S_after (ok := (fun k_ => some k_ ≠ (.slice (some ad193) t179.length co39 : Value).ownBlock)) (by (with_reducible repeat (first | apply Kd.S_alloc | apply Kd.S_drewN | apply Kd.S_drew)); exact Kd.S_mono HO_14.out (fun _ hk => ⟨hk.2, hk.1⟩)) hg hat); have n2_ := Aside0.mk (Kd.R_after (ok := (fun k_ => some k_ ≠ (.slice (some ad193) t179.length co39 : Value).ownBlock ∧ some k_ ≠ (.slice (some ad195) t180.length co40 : Value).ownBlock)) (by (with_reducible repeat (first | apply Kd.R_alloc | apply Kd.R_drewN | apply Kd.R_drew)); exact Kd.R_mono HL206_0.out (fun _ hk => ⟨⟨hk.1.2, hk.2⟩, hk.1.1⟩)) hg hat); have n3_ := Aside0.mk (Kd.R_after (ok := (fun k_ => some k_ ≠ (.slice (some ad193) t179.length co39 : Value).ownBlock ∧ some k_ ≠ (.slice (some ad195) t180.length co40 : Value).ownBlock)) (by (with_reducible repeat (first | apply Kd.R_alloc | apply Kd.R_drewN | apply Kd.R_drew)); exact Kd.R_mono HL208_0.out (fun _ hk => ⟨⟨hk.2, hk.1.2⟩, hk.1.1⟩)) hg hat); have n4_ := Aside0.mk (hb); have n5_ := Aside0.mk (ho); clear HO_13; clear HO_14; clear HL206_0; clear HL208_0; clear HB; clear HO_10; have HO_13 := n0_; have HO_14 := n1_; have HL206_0 := n2_; have HL208_0 := n3_; have HB := n4_; have HO212 := n5_; clear n0_ n1_ n2_ n3_ n4_ n5_; clear ho hb hg hat)))
                                                                                    go_roundg k6
                                                                                    case measure => have := HK1.out; have := HJ5.out; have := HJ8.out; have := HJ22.out; have := HK5.out; have := HK6.out; omega
                                                                                    case rel => exact ⟨(y210), (wrap64 (x15_5 + 1)), (by first | rfl | (simp; done) | (simp [*]; done)), H', ⟨by have := HK1.out; have := HJ5.out; have := HJ8.out; have := HJ22.out; have := HK5.out; have := HK6.out; omega⟩, ⟨by (with_reducible repeat (first | apply Kd.R_alloc | apply Kd.R_drewN | apply Kd.R_drew)); exact HO212.out⟩, ⟨by (with_reducible repeat (first | apply Kd.S_alloc | apply Kd.S_drewN | apply Kd.S_drew)); exact Kd.S_mono HO_13.out (fun _ hk => ⟨hk.2, hk.1⟩)⟩, ⟨by (with_reducible repeat (first | apply Kd.S_alloc | apply Kd.S_drewN | apply Kd.S_drew)); exact Kd.S_mono HO_14.out (fun _ hk => ⟨hk.2, hk.1⟩)⟩, ⟨by repeat (first | (with_reducible first | exact HB.out | apply below_alloc | apply pw_below_drewN | apply below_drew1) | exact HB.out)⟩⟩
                                                                                  · rw [if_neg c64] at H
                                                                                    exact absurd H (by simp)
                                                                                · rw [if_neg c63] at H
                                                                                  have c63b0 : ((rd (rd_L1 t179 x15_5) x125_6) == (wrap64 ((rd (rd_L1 t179 (ji44)) (rd x10_5 (ji44))) - (rd (rd_L1 l0 (ji44)) (rd x10_5 (ji44)))))) = false := beq_eq_false_iff_ne.mpr c63
                                                                                  have c63b1 : ((rd (rd_L1 t179 x15_5) x125_6) != (wrap64 ((rd (rd_L1 t179 (ji44)) (rd x10_5 (ji44))) - (rd (rd_L1 l0 (ji44)) (rd x10_5 (ji44)))))) = true := bne_iff_ne.mpr c63
                                                                                  have H' := Aside0.mk H
                                                                                  clear H
                                                                                  have p206 : 0 ≤ (x15_5 : Int) := of_decide_eq_true (by first | (with_reducible assumption) | assumption)
                                                                                  have q206 : x15_5 < (t180.length : Int) := of_decide_eq_true (by first | (with_reducible assumption) | assumption)
                                                                                  obtain ⟨ad206, A206_0, c206_0, e206, hx206_0, hl206_0, hi206_0⟩ := at_L1 (Kd.S_reads' HO_14.out).2.2 x15_5 p206 q206
                                                                                  obtain rfl : ad195 = ad206 := (by injection e206)
                                                                                  obtain ⟨ce206, hce206, hMe206, hcc206⟩ := Kd.S_get HO_14.out [] x15_5 p206 (by first | exact q206 | exact of_decide_eq_true (by first | (with_reducible assumption) | assumption) | (have e_ := (Kd.S_reads' HO_14.out).1; omega))
                                                                                  obtain ⟨ve206_0, rfl, ge206_0⟩ := hMe206
                                                                                  have hv206_0 := hcc206 0 _ rfl
                                                                                  rw [Nat.add_zero, show ((Kd.slice 3 (Kd.int .i64))).sz = 1 from rfl, Nat.mul_one] at hv206_0
                                                                                  replace hv206_0 := Option.some.inj (hv206_0.symm.trans hx206_0)
                                                                                  rw [hv206_0] at ge206_0
                                                                                  have HL206_0 := Aside0.mk (show Kd.R (Kd.int .i64) 3 _ _ _ _ (rd_L1 t180 x15_5) from ge206_0)
                                                                                  clear hv206_0 ge206_0
                                                                                  clear hcc206 hce206
                                                                                  have HR206_0 := Aside0.mk hi206_0
                                                                                  have HC206_0 := Aside0.mk hl206_0
                                                                                  clear hi206_0 hl206_0
                                                                                  replace p206 := eq_true p206
                                                                                  replace q206 := eq_true q206
                                                                                  have p207 : 0 ≤ (x125_6 : Int) := of_decide_eq_true (by first | (with_reducible assumption) | assumption)
                                                                                  have q207 : x125_6 < ((rd_L1 t180 x15_5).length : Int) := of_decide_eq_true (by first | (with_reducible assumption) | assumption)
                                                                                  obtain ⟨ad207, e207, hx207_0⟩ := Kd.at_int (by repeat (first | (with_reducible exact HR206_0.out) | (with_reducible refine Kd.C_alloc ?_ _) | (with_reducible refine Kd.C_drewN ?_ _) | (with_reducible refine Kd.C_drew ?_) | exact HR206_0.out)) x125_6 p207 q207
                                                                                  cases e207
                                                                                  replace p207 := eq_true p207
                                                                                  replace q207 := eq_true q207
                                                                                  have p208 : 0 ≤ (x15_5 : Int) := of_decide_eq_true (by first | (with_reducible assumption) | assumption)
                                                                                  have q208 : x15_5 < (t179.length : Int) := of_decide_eq_true (by first | (with_reducible assumption) | assumption)
                                                                                  obtain ⟨ad208, A208_0, c208_0, e208, hx208_0, hl208_0, hi208_0⟩ := at_L1 (Kd.S_reads' HO_13.out).2.2 x15_5 p208 q208
                                                                                  obtain rfl : ad193 = ad208 := (by injection e208)
                                                                                  obtain ⟨ce208, hce208, hMe208, hcc208⟩ := Kd.S_get HO_13.out [] x15_5 p208 (by first | exact q208 | exact of_decide_eq_true (by first | (with_reducible assumption) | assumption) | (have e_ := (Kd.S_reads' HO_13.out).1; omega))
                                                                                  obtain ⟨ve208_0, rfl, ge208_0⟩ := hMe208
                                                                                  have hv208_0 := hcc208 0 _ rfl
                                                                                  rw [Nat.add_zero, show ((Kd.slice 3 (Kd.int .i64))).sz = 1 from rfl, Nat.mul_one] at hv208_0
                                                                                  replace hv208_0 := Option.some.inj (hv208_0.symm.trans hx208_0)
                                                                                  rw [hv208_0] at ge208_0
                                                                                  have HL208_0 := Aside0.mk (show Kd.R (Kd.int .i64) 3 _ _ _ _ (rd_L1 t179 x15_5) from ge208_0)
                                                                                  clear hv208_0 ge208_0
                                                                                  clear hcc208 hce208
                                                                                  have HR208_0 := Aside0.mk hi208_0
                                                                                  have HC208_0 := Aside0.mk hl208_0
                                                                                  clear hi208_0 hl208_0
                                                                                  replace p208 := eq_true p208
                                                                                  replace q208 := eq_true q208
                                                                                  have p209 : 0 ≤ (x125_6 : Int) := of_decide_eq_true (by first | (with_reducible assumption) | assumption)
                                                                                  have q209 : x125_6 < ((rd_L1 t179 x15_5).length : Int) := of_decide_eq_true (by first | (with_reducible assumption) | assumption)
                                                                                  obtain ⟨ad209, e209, hx209_0⟩ := Kd.at_int (by repeat (first | (with_reducible exact HR208_0.out) | (with_reducible refine Kd.C_alloc ?_ _) | (with_reducible refine Kd.C_drewN ?_ _) | (with_reducible refine Kd.C_drew ?_) | exact HR208_0.out)) x125_6 p209 q209
                                                                                  cases e209
                                                                                  replace p209 := eq_true p209
                                                                                  replace q209 := eq_true q209
                                                                                  go_wp2
                                                                                  repeat (go_quiet (fail); try go_wp2)
                                                                                  go_roundg k6
                                                                                  case measure => have := HK1.out; have := HJ5.out; have := HJ8.out; have := HJ22.out; have := HK5.out; have := HK6.out; omega
                                                                                  case rel => exact ⟨(x10_6), (wrap64 (x125_6 + 1)), (by first | rfl | (simp; done) | (simp [*]; done)), H', ⟨by have := HK1.out; have := HJ5.out; have := HJ8.out; have := HJ22.out; have := HK5.out; have := HK6.out; omega⟩, ⟨by (with_reducible repeat (first | apply Kd.R_alloc | apply Kd.R_drewN | apply Kd.R_drew)); exact HO_10.out⟩, ⟨by (with_reducible repeat (first | apply Kd.S_alloc | apply Kd.S_drewN | apply Kd.S_drew)); exact HO_13.out⟩, ⟨by (with_reducible repeat (first | apply Kd.S_alloc | apply Kd.S_drewN | apply Kd.S_drew)); exact HO_14.out⟩, ⟨by repeat (first | (with_reducible exact HR201_0.out) | (with_reducible refine Kd.C_alloc ?_ _) | (with_reducible refine Kd.C_drewN ?_ _) | (with_reducible refine Kd.C_drew ?_) | exact HR201_0.out)⟩, ⟨by repeat (first | (with_reducible first | exact HB.out | apply below_alloc | apply pw_below_drewN | apply below_drew1) | exact HB.out)⟩⟩
                                                                              · rw [if_neg c62] at H
                                                                                exact absurd H (by simp)
                                                                            · rw [if_neg c61] at H
                                                                              exact absurd H (by simp)
                                                                          · rw [if_neg c60] at H
                                                                            have c60b0 : decide (0 < (rd (rd_L1 t180 x15_5) x125_6)) = false := decide_eq_false c60
                                                                            clear c60
                                                                            have H' := Aside0.mk H
                                                                            clear H
                                                                            have p206 : 0 ≤ (x15_5 : Int) := of_decide_eq_true (by first | (with_reducible assumption) | assumption)
                                                                            have q206 : x15_5 < (t180.length : Int) := of_decide_eq_true (by first | (with_reducible assumption) | assumption)
                                                                            obtain ⟨ad206, A206_0, c206_0, e206, hx206_0, hl206_0, hi206_0⟩ := at_L1 (Kd.S_reads' HO_14.out).2.2 x15_5 p206 q206
                                                                            obtain rfl : ad195 = ad206 := (by injection e206)
                                                                            obtain ⟨ce206, hce206, hMe206, hcc206⟩ := Kd.S_get HO_14.out [] x15_5 p206 (by first | exact q206 | exact of_decide_eq_true (by first | (with_reducible assumption) | assumption) | (have e_ := (Kd.S_reads' HO_14.out).1; omega))
                                                                            obtain ⟨ve206_0, rfl, ge206_0⟩ := hMe206
                                                                            have hv206_0 := hcc206 0 _ rfl
                                                                            rw [Nat.add_zero, show ((Kd.slice 3 (Kd.int .i64))).sz = 1 from rfl, Nat.mul_one] at hv206_0
                                                                            replace hv206_0 := Option.some.inj (hv206_0.symm.trans hx206_0)
                                                                            rw [hv206_0] at ge206_0
                                                                            have HL206_0 := Aside0.mk (show Kd.R (Kd.int .i64) 3 _ _ _ _ (rd_L1 t180 x15_5) from ge206_0)
                                                                            clear hv206_0 ge206_0
                                                                            clear hcc206 hce206
                                                                            have HR206_0 := Aside0.mk hi206_0
                                                                            have HC206_0 := Aside0.mk hl206_0
                                                                            clear hi206_0 hl206_0
                                                                            replace p206 := eq_true p206
                                                                            replace q206 := eq_true q206
                                                                            have p207 : 0 ≤ (x125_6 : Int) := of_decide_eq_true (by first | (with_reducible assumption) | assumption)
                                                                            have q207 : x125_6 < ((rd_L1 t180 x15_5).length : Int) := of_decide_eq_true (by first | (with_reducible assumption) | assumption)
                                                                            obtain ⟨ad207, e207, hx207_0⟩ := Kd.at_int (by repeat (first | (with_reducible exact HR206_0.out) | (with_reducible refine Kd.C_alloc ?_ _) | (with_reducible refine Kd.C_drewN ?_ _) | (with_reducible refine Kd.C_drew ?_) | exact HR206_0.out)) x125_6 p207 q207
                                                                            cases e207
                                                                            replace p207 := eq_true p207
                                                                            replace q207 := eq_true q207
                                                                            go_wp2
                                                                            repeat (go_quiet (fail); try go_wp2)
                                                                            go_roundg k6
                                                                            case measure => have := HK1.out; have := HJ5.out; have := HJ8.out; have := HJ22.out; have := HK5.out; have := HK6.out; omega
                                                                            case rel => exact ⟨(x10_6), (wrap64 (x125_6 + 1)), (by first | rfl | (simp; done) | (simp [*]; done)), H', ⟨by have := HK1.out; have := HJ5.out; have := HJ8.out; have := HJ22.out; have := HK5.out; have := HK6.out; omega⟩, ⟨by (with_reducible repeat (first | apply Kd.R_alloc | apply Kd.R_drewN | apply Kd.R_drew)); exact HO_10.out⟩, ⟨by (with_reducible repeat (first | apply Kd.S_alloc | apply Kd.S_drewN | apply Kd.S_drew)); exact HO_13.out⟩, ⟨by (with_reducible repeat (first | apply Kd.S_alloc | apply Kd.S_drewN | apply Kd.S_drew)); exact HO_14.out⟩, ⟨by repeat (first | (with_reducible exact HR201_0.out) | (with_reducible refine Kd.C_alloc ?_ _) | (with_reducible refine Kd.C_drewN ?_ _) | (with_reducible refine Kd.C_drew ?_) | exact HR201_0.out)⟩, ⟨by repeat (first | (with_reducible first | exact HB.out | apply below_alloc | apply pw_below_drewN | apply below_drew1) | exact HB.out)⟩⟩
                                                                        · rw [if_neg c59] at H
                                                                          exact absurd H (by simp)
                                                                      · rw [if_neg c58] at H
                                                                        exact absurd H (by simp)
                                                                    · rw [if_neg c57] at H
                                                                      exact absurd H (by simp)
                                                                  · rw [if_neg c56] at H
                                                                    exact absurd H (by simp)
                                                              · rw [if_neg c54] at H
                                                                have c54b0 : decide (x125_6 < ((rd_L1 l0 x15_5).length : Int)) = false := decide_eq_false c54
                                                                clear c54
                                                                have H' := Aside0.mk H
                                                                clear H
                                                                go_wp2
                                                                repeat (go_quiet (fail); try go_wp2)
                                                                go_roundg k6
                                                                case measure => have := HK1.out; have := HJ5.out; have := HJ8.out; have := HJ22.out; have := HK5.out; have := HK6.out; omega
                                                                case rel => exact ⟨(x10_6), (wrap64 (x15_5 + 1)), (by first | rfl | (simp; done) | (simp [*]; done)), H', ⟨by have := HK1.out; have := HJ5.out; have := HJ8.out; have := HJ22.out; have := HK5.out; have := HK6.out; omega⟩, ⟨by (with_reducible repeat (first | apply Kd.R_alloc | apply Kd.R_drewN | apply Kd.R_drew)); exact HO_10.out⟩, ⟨by (with_reducible repeat (first | apply Kd.S_alloc | apply Kd.S_drewN | apply Kd.S_drew)); exact HO_13.out⟩, ⟨by (with_reducible repeat (first | apply Kd.S_alloc | apply Kd.S_drewN | apply Kd.S_drew)); exact HO_14.out⟩, ⟨by repeat (first | (with_reducible first | exact HB.out | apply below_alloc | apply pw_below_drewN | apply below_drew1) | exact HB.out)⟩⟩
                                                        · rw [if_neg c52] at H
                                                          exact absurd H (by simp)
                                                      · rw [if_neg c51] at H
                                                        exact absurd H (by simp)
                                                    · rw [if_neg c50] at H
                                                      exact absurd H (by simp)
                                                  · rw [if_neg c49] at H
                                                    exact absurd H (by simp)
                                                · rw [if_neg c48] at H
                                                  exact absurd H (by simp)
                                              · rw [if_neg c47] at H
                                                exact absurd H (by simp)
                                            · rw [if_neg c46] at H
                                              exact absurd H (by simp)
                                          · rw [if_neg c45] at H
                                            exact absurd H (by simp)
                                        · rw [if_neg c43] at H
                                          have c43b0 : decide (x15_5 < (l0.length : Int)) = false := decide_eq_false c43
                                          clear c43
                                          have H' := Aside0.mk H
                                          clear H
                                          go_wp2
                                          repeat (go_quiet (fail); try go_wp2)
                                          go_roundg k5
                                          case measure => have := HK1.out; have := HJ5.out; have := HJ8.out; have := HJ22.out; have := HK5.out; omega
                                          case rel => exact ⟨((rd (rd_L1 t179 0) x23_1)), ((rd (rd_L1 t180 0) x23_1)), (x10_5), (wrap64 (x23_1 + 1)), (by first | rfl | (simp; done) | (simp [*]; done)), (by first | rfl | (simp; done) | (simp [*]; done)), (by first | rfl | (simp; done) | (simp [*]; done)), H', ⟨by have := HK1.out; have := HJ5.out; have := HJ8.out; have := HJ22.out; have := HK5.out; omega⟩, ⟨by (with_reducible repeat (first | apply Kd.R_alloc | apply Kd.R_drewN | apply Kd.R_drew)); exact HO_10.out⟩, ⟨by repeat (first | (with_reducible first | exact HB.out | apply below_alloc | apply pw_below_drewN | apply below_drew1) | exact HB.out)⟩⟩
                                  · rw [if_neg c38] at H
                                    exact absurd H (by simp)
                                · rw [if_neg c37] at H
                                  exact absurd H (by simp)
                              · rw [if_neg c36] at H
                                exact absurd H (by simp)
                            · rw [if_neg c35] at H
                              exact absurd H (by simp)
                          · rw [if_neg c34] at H
                            exact absurd H (by simp)
        · rw [if_neg c4] at H
          have c4b0 : decide (x23_1 < ((rd_L1 l0 0).length : Int)) = false := decide_eq_false c4
          clear c4
          simp only [Option.some.injEq, Prod.mk.injEq] at H
          obtain ⟨rfl, rfl, rfl, rfl⟩ := H
          go_wp2
          repeat (go_quiet (fail); try go_wp2)
          refine bodyPost_ret (results_list (rs := [.tmp 4, .tmp 5, .tmp 6, .tmp 7]) rfl (by simp) (.tmp (.tmp (.tmp (.tmp .nil))))) rfl ?_
          exact ⟨_, by first | rfl | (simp [errW_none, errW_some] <;> rfl) | (simp [*, errW_none, errW_some] <;> rfl), by (with_reducible repeat (first | apply Kd.R_alloc | apply Kd.R_drewN | apply Kd.R_drew)); exact HO_10.out, by repeat (first | (with_reducible first | exact HB.out | apply below_alloc | apply pw_below_drewN | apply below_drew1) | exact HB.out)⟩
  · rw [if_neg c3] at H
    exact absurd H (by simp)

end Go.Proofs.Ytbchfajbobploaa.MQ
