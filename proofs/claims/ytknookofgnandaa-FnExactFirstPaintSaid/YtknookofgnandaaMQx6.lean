-- The machine side, written by this repo's program mp.py; contracts marked as of this repo are this session's own.
import Derived.Test.YtknookofgnandaaMQx0
import Derived.Test.YtknookofgnandaaMQx2
import Derived.Test.YtknookofgnandaaMQx5
namespace Go.Proofs.Ytknookofgnandaa.MQ
open Go.RowKit Go.Proofs.YtknookofgnandaaW.PrintWords Go.Proofs.YtknookofgnandaaW.PrintLast Go.Proofs.YtknookofgnandaaW.PrintMore
attribute [local go_sem] max2_int min2_int max_two min_two max_three min_three max_four min_four   -- for this text's walks alone
set_option linter.unusedVariables false
set_option linter.unusedSimpArgs false

/-! ### impl_bestPaint: function 30 -/
mutual
def impl_bestPaint.l0 : Nat → List (List Int) → Bool → Int → Int → List Int → Int → Int → Option (Int × List Int × Int × Bool)
  | 0, _, _, _, _, _, _, _ => none
  | k + 1, x0, x1, x8, x9, x10, x22, x23 => if x23 < x22 then ((impl_isRing.f (x0.length : Int) x1).bind fun t173 => (if t173 = true then (impl_bestPaint.j1 k x0 x1 x8 x9 x10 x23 x23 x22 x23) else (impl_bestPaint.j1 k x0 x1 x8 x9 x10 x23 (-1) x22 x23))) else (some (x8, x10, x9, decide (x9 > 0)))
def impl_bestPaint.j1 : Nat → List (List Int) → Bool → Int → Int → List Int → Int → Int → Int → Int → Option (Int × List Int × Int × Bool)
  | 0, _, _, _, _, _, _, _, _, _ => none
  | k + 1, x0, x1, x8, x9, x10, x11, x12, x22, x23 => (impl_paintFrom.f k x0 x12).bind fun bt174 => (if 0 < (bt174.2.length : Int) then (if 0 ≤ x11 then (if x11 < ((rd_L1 bt174.2 0).length : Int) then (if (rd (rd_L1 bt174.2 0) x11) = 0 then (impl_bestPaint.j2 k x0 x1 x8 x9 x10 x11 bt174.1 bt174.2 x22 x23 true) else (if x9 > 0 then (if 0 < (bt174.1.length : Int) then (if x11 < ((rd_L1 bt174.1 0).length : Int) then (impl_bestPaint.j2 k x0 x1 x8 x9 x10 x11 bt174.1 bt174.2 x22 x23 (decide ((rd (rd_L1 bt174.1 0) x11) > x8))) else (none)) else (none)) else (impl_bestPaint.j2 k x0 x1 x8 x9 x10 x11 bt174.1 bt174.2 x22 x23 false))) else (none)) else (none)) else (none))
def impl_bestPaint.j2 : Nat → List (List Int) → Bool → Int → Int → List Int → Int → List (List Int) → List (List Int) → Int → Int → Bool → Option (Int × List Int × Int × Bool)
  | 0, _, _, _, _, _, _, _, _, _, _, _ => none
  | k + 1, x0, x1, x8, x9, x10, x11, x13, x14, x22, x23, x57 => if x57 = true then (impl_bestPaint.l0 k x0 x1 x8 x9 x10 x22 (wrap64 (x23 + 1))) else (if x9 > 0 then (if 0 < (x13.length : Int) then (if 0 ≤ x11 then (if x11 < ((rd_L1 x13 0).length : Int) then (impl_bestPaint.j3 k x0 x1 x8 x9 x10 x11 x13 x14 x22 x23 ((rd (rd_L1 x13 0) x11) == x8)) else (none)) else (none)) else (none)) else (impl_bestPaint.j3 k x0 x1 x8 x9 x10 x11 x13 x14 x22 x23 false))
def impl_bestPaint.j3 : Nat → List (List Int) → Bool → Int → Int → List Int → Int → List (List Int) → List (List Int) → Int → Int → Bool → Option (Int × List Int × Int × Bool)
  | 0, _, _, _, _, _, _, _, _, _, _, _ => none
  | k + 1, x0, x1, x8, x9, x10, x11, x13, x14, x22, x23, x69 => if x69 = true then (if 0 < (x14.length : Int) then (if 0 ≤ x11 then (if x11 < ((rd_L1 x14 0).length : Int) then (impl_bestPaint.l0 k x0 x1 x8 (wrap64 (x9 + (rd (rd_L1 x14 0) x11))) x10 x22 (wrap64 (x23 + 1))) else (none)) else (none)) else (none)) else (if 0 < (x13.length : Int) then (if 0 ≤ x11 then (if x11 < ((rd_L1 x13 0).length : Int) then (if 0 < (x14.length : Int) then (if x11 < ((rd_L1 x14 0).length : Int) then (impl_bestPaint.l1 k x0 x1 (rd (rd_L1 x13 0) x11) (rd (rd_L1 x14 0) x11) (([x11] : List Int)) x13 x14 1 x22 x23) else (none)) else (none)) else (none)) else (none)) else (none))
def impl_bestPaint.l1 : Nat → List (List Int) → Bool → Int → Int → List Int → List (List Int) → List (List Int) → Int → Int → Int → Option (Int × List Int × Int × Bool)
  | 0, _, _, _, _, _, _, _, _, _, _ => none
  | k + 1, x0, x1, x8, x9, x10, x13, x14, x15, x22, x23 => if x15 < (x0.length : Int) then (if 0 ≤ (wrap64 (x15 - 1)) then (if (wrap64 (x15 - 1)) < (x10.length : Int) then (if (wrap64 (x15 - 1)) < (x13.length : Int) then (if 0 ≤ (rd x10 (wrap64 (x15 - 1))) then (if (rd x10 (wrap64 (x15 - 1))) < ((rd_L1 x13 (wrap64 (x15 - 1))).length : Int) then (if (wrap64 (x15 - 1)) < (x0.length : Int) then (if (rd x10 (wrap64 (x15 - 1))) < ((rd_L1 x0 (wrap64 (x15 - 1))).length : Int) then (if 0 ≤ x15 then (impl_bestPaint.l2 k x0 x1 x8 x9 x10 x13 x14 x15 (rd x10 (wrap64 (x15 - 1))) (wrap64 ((rd (rd_L1 x13 (wrap64 (x15 - 1))) (rd x10 (wrap64 (x15 - 1)))) - (rd (rd_L1 x0 (wrap64 (x15 - 1))) (rd x10 (wrap64 (x15 - 1)))))) x22 x23 ((rd_L1 x0 x15).length : Int) 0) else (none)) else (none)) else (none)) else (none)) else (none)) else (none)) else (none)) else (none)) else (impl_bestPaint.l0 k x0 x1 x8 x9 x10 x22 (wrap64 (x23 + 1)))
def impl_bestPaint.l2 : Nat → List (List Int) → Bool → Int → Int → List Int → List (List Int) → List (List Int) → Int → Int → Int → Int → Int → Int → Int → Option (Int × List Int × Int × Bool)
  | 0, _, _, _, _, _, _, _, _, _, _, _, _, _, _ => none
  | k + 1, x0, x1, x8, x9, x10, x13, x14, x15, x16, x17, x22, x23, x124, x125 => if x125 < x124 then (if x125 = x16 then (impl_bestPaint.l2 k x0 x1 x8 x9 x10 x13 x14 x15 x16 x17 x22 x23 x124 (wrap64 (x125 + 1))) else (if 0 ≤ x15 then (if x15 < (x14.length : Int) then (if 0 ≤ x125 then (if x125 < ((rd_L1 x14 x15).length : Int) then (if (rd (rd_L1 x14 x15) x125) > 0 then (if x15 < (x13.length : Int) then (if x125 < ((rd_L1 x13 x15).length : Int) then (if (rd (rd_L1 x13 x15) x125) = x17 then (if x10.length < 17592186044416 then (impl_bestPaint.l1 k x0 x1 x8 x9 (x10 ++ [x125]) x13 x14 (wrap64 (x15 + 1)) x22 x23) else (none)) else (impl_bestPaint.l2 k x0 x1 x8 x9 x10 x13 x14 x15 x16 x17 x22 x23 x124 (wrap64 (x125 + 1)))) else (none)) else (none)) else (impl_bestPaint.l2 k x0 x1 x8 x9 x10 x13 x14 x15 x16 x17 x22 x23 x124 (wrap64 (x125 + 1)))) else (none)) else (none)) else (none)) else (none))) else (impl_bestPaint.l1 k x0 x1 x8 x9 x10 x13 x14 (wrap64 (x15 + 1)) x22 x23)
end
def impl_bestPaint.f (k : Nat) (l0 : List (List Int)) (a1 : Bool) : Option (Int × List Int × Int × Bool) := if 0 < (l0.length : Int) then (impl_bestPaint.l0 k l0 a1 0 0 ([] : List Int) ((rd_L1 l0 0).length : Int) 0) else (none)
theorem impl_bestPaint.mono_l : ∀ k, (∀ y0 y1 y2 y3 y4 y5 y6, LeO (impl_bestPaint.l0 k y0 y1 y2 y3 y4 y5 y6) (impl_bestPaint.l0 (k + 1) y0 y1 y2 y3 y4 y5 y6)) ∧ (∀ y0 y1 y2 y3 y4 y5 y6 y7 y8, LeO (impl_bestPaint.j1 k y0 y1 y2 y3 y4 y5 y6 y7 y8) (impl_bestPaint.j1 (k + 1) y0 y1 y2 y3 y4 y5 y6 y7 y8)) ∧ (∀ y0 y1 y2 y3 y4 y5 y6 y7 y8 y9 y10, LeO (impl_bestPaint.j2 k y0 y1 y2 y3 y4 y5 y6 y7 y8 y9 y10) (impl_bestPaint.j2 (k + 1) y0 y1 y2 y3 y4 y5 y6 y7 y8 y9 y10)) ∧ (∀ y0 y1 y2 y3 y4 y5 y6 y7 y8 y9 y10, LeO (impl_bestPaint.j3 k y0 y1 y2 y3 y4 y5 y6 y7 y8 y9 y10) (impl_bestPaint.j3 (k + 1) y0 y1 y2 y3 y4 y5 y6 y7 y8 y9 y10)) ∧ (∀ y0 y1 y2 y3 y4 y5 y6 y7 y8 y9, LeO (impl_bestPaint.l1 k y0 y1 y2 y3 y4 y5 y6 y7 y8 y9) (impl_bestPaint.l1 (k + 1) y0 y1 y2 y3 y4 y5 y6 y7 y8 y9)) ∧ (∀ y0 y1 y2 y3 y4 y5 y6 y7 y8 y9 y10 y11 y12 y13, LeO (impl_bestPaint.l2 k y0 y1 y2 y3 y4 y5 y6 y7 y8 y9 y10 y11 y12 y13) (impl_bestPaint.l2 (k + 1) y0 y1 y2 y3 y4 y5 y6 y7 y8 y9 y10 y11 y12 y13))
  | 0 => ⟨fun _ _ _ _ _ _ _ r h => by simp [impl_bestPaint.l0] at h, fun _ _ _ _ _ _ _ _ _ r h => by simp [impl_bestPaint.j1] at h, fun _ _ _ _ _ _ _ _ _ _ _ r h => by simp [impl_bestPaint.j2] at h, fun _ _ _ _ _ _ _ _ _ _ _ r h => by simp [impl_bestPaint.j3] at h, fun _ _ _ _ _ _ _ _ _ _ r h => by simp [impl_bestPaint.l1] at h, fun _ _ _ _ _ _ _ _ _ _ _ _ _ _ r h => by simp [impl_bestPaint.l2] at h⟩
  | k + 1 => by
    obtain ⟨ih0, ih1, ih2, ih3, ih4, ih5⟩ := impl_bestPaint.mono_l k
    refine ⟨?_, ?_, ?_, ?_, ?_, ?_⟩
    · intro y0 y1 y2 y3 y4 y5 y6
      unfold impl_bestPaint.l0
      repeat' first
      | (with_reducible exact ih0 _ _ _ _ _ _ _)
      | (with_reducible exact ih1 _ _ _ _ _ _ _ _ _)
      | (with_reducible exact ih2 _ _ _ _ _ _ _ _ _ _ _)
      | (with_reducible exact ih3 _ _ _ _ _ _ _ _ _ _ _)
      | (with_reducible exact ih4 _ _ _ _ _ _ _ _ _ _)
      | (with_reducible exact ih5 _ _ _ _ _ _ _ _ _ _ _ _ _ _)
      | (with_reducible exact impl_paintFrom.mono _ _ _)
      | (with_reducible exact LeO.refl _)
      | (with_reducible exact LeO.none _)
      | (with_reducible refine LeO.ite ?_ ?_)
      | (with_reducible refine LeO.bind ?_ (fun _ => ?_))
      | exact ih0 _ _ _ _ _ _ _
      | exact ih1 _ _ _ _ _ _ _ _ _
      | exact ih2 _ _ _ _ _ _ _ _ _ _ _
      | exact ih3 _ _ _ _ _ _ _ _ _ _ _
      | exact ih4 _ _ _ _ _ _ _ _ _ _
      | exact ih5 _ _ _ _ _ _ _ _ _ _ _ _ _ _
      | exact impl_paintFrom.mono _ _ _
      | exact LeO.none _
      | refine LeO.ite ?_ ?_
      | refine LeO.bind ?_ (fun _ => ?_)
    · intro y0 y1 y2 y3 y4 y5 y6 y7 y8
      unfold impl_bestPaint.j1
      repeat' first
      | (with_reducible exact ih0 _ _ _ _ _ _ _)
      | (with_reducible exact ih1 _ _ _ _ _ _ _ _ _)
      | (with_reducible exact ih2 _ _ _ _ _ _ _ _ _ _ _)
      | (with_reducible exact ih3 _ _ _ _ _ _ _ _ _ _ _)
      | (with_reducible exact ih4 _ _ _ _ _ _ _ _ _ _)
      | (with_reducible exact ih5 _ _ _ _ _ _ _ _ _ _ _ _ _ _)
      | (with_reducible exact impl_paintFrom.mono _ _ _)
      | (with_reducible exact LeO.refl _)
      | (with_reducible exact LeO.none _)
      | (with_reducible refine LeO.ite ?_ ?_)
      | (with_reducible refine LeO.bind ?_ (fun _ => ?_))
      | exact ih0 _ _ _ _ _ _ _
      | exact ih1 _ _ _ _ _ _ _ _ _
      | exact ih2 _ _ _ _ _ _ _ _ _ _ _
      | exact ih3 _ _ _ _ _ _ _ _ _ _ _
      | exact ih4 _ _ _ _ _ _ _ _ _ _
      | exact ih5 _ _ _ _ _ _ _ _ _ _ _ _ _ _
      | exact impl_paintFrom.mono _ _ _
      | exact LeO.none _
      | refine LeO.ite ?_ ?_
      | refine LeO.bind ?_ (fun _ => ?_)
    · intro y0 y1 y2 y3 y4 y5 y6 y7 y8 y9 y10
      unfold impl_bestPaint.j2
      repeat' first
      | (with_reducible exact ih0 _ _ _ _ _ _ _)
      | (with_reducible exact ih1 _ _ _ _ _ _ _ _ _)
      | (with_reducible exact ih2 _ _ _ _ _ _ _ _ _ _ _)
      | (with_reducible exact ih3 _ _ _ _ _ _ _ _ _ _ _)
      | (with_reducible exact ih4 _ _ _ _ _ _ _ _ _ _)
      | (with_reducible exact ih5 _ _ _ _ _ _ _ _ _ _ _ _ _ _)
      | (with_reducible exact impl_paintFrom.mono _ _ _)
      | (with_reducible exact LeO.refl _)
      | (with_reducible exact LeO.none _)
      | (with_reducible refine LeO.ite ?_ ?_)
      | (with_reducible refine LeO.bind ?_ (fun _ => ?_))
      | exact ih0 _ _ _ _ _ _ _
      | exact ih1 _ _ _ _ _ _ _ _ _
      | exact ih2 _ _ _ _ _ _ _ _ _ _ _
      | exact ih3 _ _ _ _ _ _ _ _ _ _ _
      | exact ih4 _ _ _ _ _ _ _ _ _ _
      | exact ih5 _ _ _ _ _ _ _ _ _ _ _ _ _ _
      | exact impl_paintFrom.mono _ _ _
      | exact LeO.none _
      | refine LeO.ite ?_ ?_
      | refine LeO.bind ?_ (fun _ => ?_)
    · intro y0 y1 y2 y3 y4 y5 y6 y7 y8 y9 y10
      unfold impl_bestPaint.j3
      repeat' first
      | (with_reducible exact ih0 _ _ _ _ _ _ _)
      | (with_reducible exact ih1 _ _ _ _ _ _ _ _ _)
      | (with_reducible exact ih2 _ _ _ _ _ _ _ _ _ _ _)
      | (with_reducible exact ih3 _ _ _ _ _ _ _ _ _ _ _)
      | (with_reducible exact ih4 _ _ _ _ _ _ _ _ _ _)
      | (with_reducible exact ih5 _ _ _ _ _ _ _ _ _ _ _ _ _ _)
      | (with_reducible exact impl_paintFrom.mono _ _ _)
      | (with_reducible exact LeO.refl _)
      | (with_reducible exact LeO.none _)
      | (with_reducible refine LeO.ite ?_ ?_)
      | (with_reducible refine LeO.bind ?_ (fun _ => ?_))
      | exact ih0 _ _ _ _ _ _ _
      | exact ih1 _ _ _ _ _ _ _ _ _
      | exact ih2 _ _ _ _ _ _ _ _ _ _ _
      | exact ih3 _ _ _ _ _ _ _ _ _ _ _
      | exact ih4 _ _ _ _ _ _ _ _ _ _
      | exact ih5 _ _ _ _ _ _ _ _ _ _ _ _ _ _
      | exact impl_paintFrom.mono _ _ _
      | exact LeO.none _
      | refine LeO.ite ?_ ?_
      | refine LeO.bind ?_ (fun _ => ?_)
    · intro y0 y1 y2 y3 y4 y5 y6 y7 y8 y9
      unfold impl_bestPaint.l1
      repeat' first
      | (with_reducible exact ih0 _ _ _ _ _ _ _)
      | (with_reducible exact ih1 _ _ _ _ _ _ _ _ _)
      | (with_reducible exact ih2 _ _ _ _ _ _ _ _ _ _ _)
      | (with_reducible exact ih3 _ _ _ _ _ _ _ _ _ _ _)
      | (with_reducible exact ih4 _ _ _ _ _ _ _ _ _ _)
      | (with_reducible exact ih5 _ _ _ _ _ _ _ _ _ _ _ _ _ _)
      | (with_reducible exact impl_paintFrom.mono _ _ _)
      | (with_reducible exact LeO.refl _)
      | (with_reducible exact LeO.none _)
      | (with_reducible refine LeO.ite ?_ ?_)
      | (with_reducible refine LeO.bind ?_ (fun _ => ?_))
      | exact ih0 _ _ _ _ _ _ _
      | exact ih1 _ _ _ _ _ _ _ _ _
      | exact ih2 _ _ _ _ _ _ _ _ _ _ _
      | exact ih3 _ _ _ _ _ _ _ _ _ _ _
      | exact ih4 _ _ _ _ _ _ _ _ _ _
      | exact ih5 _ _ _ _ _ _ _ _ _ _ _ _ _ _
      | exact impl_paintFrom.mono _ _ _
      | exact LeO.none _
      | refine LeO.ite ?_ ?_
      | refine LeO.bind ?_ (fun _ => ?_)
    · intro y0 y1 y2 y3 y4 y5 y6 y7 y8 y9 y10 y11 y12 y13
      unfold impl_bestPaint.l2
      repeat' first
      | (with_reducible exact ih0 _ _ _ _ _ _ _)
      | (with_reducible exact ih1 _ _ _ _ _ _ _ _ _)
      | (with_reducible exact ih2 _ _ _ _ _ _ _ _ _ _ _)
      | (with_reducible exact ih3 _ _ _ _ _ _ _ _ _ _ _)
      | (with_reducible exact ih4 _ _ _ _ _ _ _ _ _ _)
      | (with_reducible exact ih5 _ _ _ _ _ _ _ _ _ _ _ _ _ _)
      | (with_reducible exact impl_paintFrom.mono _ _ _)
      | (with_reducible exact LeO.refl _)
      | (with_reducible exact LeO.none _)
      | (with_reducible refine LeO.ite ?_ ?_)
      | (with_reducible refine LeO.bind ?_ (fun _ => ?_))
      | exact ih0 _ _ _ _ _ _ _
      | exact ih1 _ _ _ _ _ _ _ _ _
      | exact ih2 _ _ _ _ _ _ _ _ _ _ _
      | exact ih3 _ _ _ _ _ _ _ _ _ _ _
      | exact ih4 _ _ _ _ _ _ _ _ _ _
      | exact ih5 _ _ _ _ _ _ _ _ _ _ _ _ _ _
      | exact impl_paintFrom.mono _ _ _
      | exact LeO.none _
      | refine LeO.ite ?_ ?_
      | refine LeO.bind ?_ (fun _ => ?_)
theorem impl_bestPaint.mono : ∀ a0 a1 k, LeO (impl_bestPaint.f k a0 a1) (impl_bestPaint.f (k + 1) a0 a1) := by
  intro a0 a1 k
  obtain ⟨ih0, ih1, ih2, ih3, ih4, ih5⟩ := impl_bestPaint.mono_l k
  unfold impl_bestPaint.f
  repeat' first
      | (with_reducible exact ih0 _ _ _ _ _ _ _)
      | (with_reducible exact ih1 _ _ _ _ _ _ _ _ _)
      | (with_reducible exact ih2 _ _ _ _ _ _ _ _ _ _ _)
      | (with_reducible exact ih3 _ _ _ _ _ _ _ _ _ _ _)
      | (with_reducible exact ih4 _ _ _ _ _ _ _ _ _ _)
      | (with_reducible exact ih5 _ _ _ _ _ _ _ _ _ _ _ _ _ _)
      | (with_reducible exact impl_paintFrom.mono _ _ _)
      | (with_reducible exact LeO.refl _)
      | (with_reducible exact LeO.none _)
      | (with_reducible refine LeO.ite ?_ ?_)
      | (with_reducible refine LeO.bind ?_ (fun _ => ?_))
      | exact ih0 _ _ _ _ _ _ _
      | exact ih1 _ _ _ _ _ _ _ _ _
      | exact ih2 _ _ _ _ _ _ _ _ _ _ _
      | exact ih3 _ _ _ _ _ _ _ _ _ _ _
      | exact ih4 _ _ _ _ _ _ _ _ _ _
      | exact ih5 _ _ _ _ _ _ _ _ _ _ _ _ _ _
      | exact impl_paintFrom.mono _ _ _
      | exact LeO.none _
      | refine LeO.ite ?_ ?_
      | refine LeO.bind ?_ (fun _ => ?_)
set_option maxHeartbeats 8000000 in
set_option maxRecDepth 100000 in
theorem impl_bestPaint.calls (k : Nat) (A0 : Option Addr) (c0 : Nat) (l0 : List (List Int)) (a1 : Bool) (r1 : Int) (r2 : List Int) (r3 : Int) (r4 : Bool) (w : World) (hr0 : Kd.C (Kd.slice 3 (Kd.int .i64)) w A0 l0.length l0) (hc0 : l0.length ≤ c0) (h : impl_bestPaint.f k l0 a1 = some (r1, r2, r3, r4)) :
    Calls Try.prog 30 #[.slice A0 l0.length c0, .bool a1] w fun e w' => ∃ v1_ : Value, e = .returned (.tuple #[.int .i64 r1, v1_, .int .i64 r3, .bool r4]) ∧ Kd.R (Kd.int .i64) 3 w' w.heap.size (fun _ => True) v1_ r2 ∧ Below w.heap.size w w' := by
  have HR0 := Aside0.mk hr0
  have HC0 := Aside0.mk hc0
  clear hr0 hc0
  have HB := Aside0.mk (Below.refl w.heap.size w)
  have H : (if 0 < (l0.length : Int) then (impl_bestPaint.l0 k l0 a1 0 0 ([] : List Int) ((rd_L1 l0 0).length : Int) 0) else (none)) = some (r1, r2, r3, r4) := h
  clear h
  by_cases c3 : 0 < (l0.length : Int)
  · rw [if_pos c3] at H
    have c3b0 : decide (0 < (l0.length : Int)) = true := decide_eq_true c3
    have c3b1 : decide (0 < l0.length) = true := decide_eq_true (by omega)
    clear c3
    have H' := Aside0.mk H
    clear H
    have p172 : 0 ≤ (0 : Int) := (by omega)
    have q172 : 0 < (l0.length : Int) := of_decide_eq_true (by first | (with_reducible assumption) | assumption)
    obtain ⟨ad172, A172_0, c172_0, e172, hx172_0, hl172_0, hi172_0⟩ := at_L1 HR0.out 0 p172 q172
    cases e172
    have qi172 : (0 < l0.length) = True := eq_true (by omega)
    (try rw [show ((0 : Int)).toNat = 0 from rfl] at hx172_0)
    (try rw [Addr.add_zero'] at hx172_0)
    have HR172_0 := Aside0.mk hi172_0
    have HC172_0 := Aside0.mk hl172_0
    clear hi172_0 hl172_0
    replace p172 := eq_true p172
    replace q172 := eq_true q172
    go_enter Try.func30, Try.ntmps30
    go_wp2
    repeat (go_quiet (fail); try go_wp2)
    go_loopg [8, 9, 10, 23] k (fun kq v8 v9 v10 v23 w' => ∃ (x8_1 : Int) (x9_1 : Int) (x10_1 : List Int) (x23_1 : Int), v8 = .int .i64 x8_1 ∧ v9 = .int .i64 x9_1 ∧ v23 = .int .i64 x23_1 ∧ Aside0 (impl_bestPaint.l0 kq l0 a1 x8_1 x9_1 x10_1 ((rd_L1 l0 0).length : Int) x23_1 = some (r1, r2, r3, r4)) ∧ Aside0 (kq ≤ k) ∧ Aside0 (Kd.R (Kd.int .i64) 3 w' w.heap.size (fun _ => True) v10 x10_1) ∧ Aside0 (Below w.heap.size w w'))
    case atStart => exact ⟨(0), (0), (([] : List Int)), (0), (by first | rfl | (simp; done) | (simp [*]; done)), (by first | rfl | (simp; done) | (simp [*]; done)), (by first | rfl | (simp; done) | (simp [*]; done)), H', ⟨Nat.le_refl _⟩, ⟨by first | exact Kd.R_nil _ _ _ _ _ | exact Kd.N_nil _ _ _ _ _ | exact Kd.V_nil _ _ _ _ _ | exact Kd.Q_nil _ _ _ _ _ | exact Kd.S_nil _ _ _ _ _⟩, ⟨by repeat (first | (with_reducible first | exact HB.out | apply below_alloc | apply pw_below_drewN | apply below_drew1) | exact HB.out)⟩⟩
    case round =>
      clear H'
      try clear c1
      try clear p1
      try clear q1
      try clear hx1
      try clear qi1
      try clear p2
      try clear c3
      try clear c3b0
      try clear c3b1
      try clear hx172_0
      try clear p172
      try clear q172
      obtain ⟨x8_1, x9_1, x10_1, x23_1, rfl, rfl, rfl, HA, HK1, HO_10, HB⟩ := hrel
      cases gk with
      | zero => exact absurd HA.out (by simp [impl_bestPaint.l0])
      | succ k1 =>
        have H := HA.out
        clear HA
        simp only [impl_bestPaint.l0] at H
        by_cases c4 : x23_1 < ((rd_L1 l0 0).length : Int)
        · rw [if_pos c4] at H
          have c4b0 : decide (x23_1 < ((rd_L1 l0 0).length : Int)) = true := decide_eq_true c4
          clear c4
          replace H := Option.bind_eq_some_iff.mp H
          obtain ⟨t173, A50, H⟩ := H
          replace H : (if t173 = true then (impl_bestPaint.j1 k1 l0 a1 x8_1 x9_1 x10_1 x23_1 x23_1 ((rd_L1 l0 0).length : Int) x23_1) else (impl_bestPaint.j1 k1 l0 a1 x8_1 x9_1 x10_1 x23_1 (-1) ((rd_L1 l0 0).length : Int) x23_1)) = some (r1, r2, r3, r4) := H
          have A5 := Aside0.mk A50
          clear A50
          have HC6 := Aside0.mk H
          clear H
          go_upto_if 29 with (first | (go_at_call 40; (with_reducible refine (impl_isRing.calls (l0.length : Int) a1 t173 _ A5.out).mono ?_); rintro e w' ⟨rfl, ⟨nd, rfl⟩⟩; (try first | exact ⟨rfl, _, World.drewN_drewN _ _ _⟩ | exact ⟨rfl, _, Eq.trans (World.drewN_drewN _ _ _) (congrArg (World.drewN _) (Nat.add_assoc _ _ _))⟩)))
          repeat (go_quiet (first | (go_at_call 40; (with_reducible refine (impl_isRing.calls (l0.length : Int) a1 t173 _ A5.out).mono ?_); rintro e w' ⟨rfl, ⟨nd, rfl⟩⟩; (try first | exact ⟨rfl, _, World.drewN_drewN _ _ _⟩ | exact ⟨rfl, _, Eq.trans (World.drewN_drewN _ _ _) (congrArg (World.drewN _) (Nat.add_assoc _ _ _))⟩))); go_upto_if 29 with (first | (go_at_call 40; (with_reducible refine (impl_isRing.calls (l0.length : Int) a1 t173 _ A5.out).mono ?_); rintro e w' ⟨rfl, ⟨nd, rfl⟩⟩; (try first | exact ⟨rfl, _, World.drewN_drewN _ _ _⟩ | exact ⟨rfl, _, Eq.trans (World.drewN_drewN _ _ _) (congrArg (World.drewN _) (Nat.add_assoc _ _ _))⟩))))
          (try simp only [Act.put, List.setIfInBounds_toArray, List.set_cons_zero, List.set_cons_succ])
          go_cut [12] (fun v12 wc => ∃ (kq : Nat) (x12_5 : Int), v12 = .int .i64 x12_5 ∧ Aside0 (impl_bestPaint.j1 kq l0 a1 x8_1 x9_1 x10_1 x23_1 x12_5 ((rd_L1 l0 0).length : Int) x23_1 = some (r1, r2, r3, r4)) ∧ Aside0 (kq ≤ k1) ∧ Aside0 (Kd.R (Kd.int .i64) 3 wc w.heap.size (fun _ => True) u10 x10_1) ∧ Aside0 (Below w.heap.size w wc))
          case first =>
            have H := HC6.out
            clear HC6
            by_cases c7 : t173 = true
            · subst c7
              have H1 : (impl_bestPaint.j1 k1 l0 a1 x8_1 x9_1 x10_1 x23_1 x23_1 ((rd_L1 l0 0).length : Int) x23_1) = some (r1, r2, r3, r4) := by rw [if_pos rfl] at H; exact H
              clear H
              have H := H1
              clear H1
              have H' := Aside0.mk H
              clear H
              go_wp2
              repeat (go_quiet (fail); try go_wp2)
              go_meet
              case rel => exact ⟨_, (x23_1), (by first | rfl | (simp; done) | (simp [*]; done)), H', ⟨by have := HK1.out; first | omega | exact Nat.le_refl _⟩, ⟨by (with_reducible repeat (first | apply Kd.R_alloc | apply Kd.R_drewN | apply Kd.R_drew)); exact HO_10.out⟩, ⟨by repeat (first | (with_reducible first | exact HB.out | apply below_alloc | apply pw_below_drewN | apply below_drew1) | exact HB.out)⟩⟩
            · replace c7 := Bool.eq_false_iff.mpr c7
              subst c7
              have H1 : (impl_bestPaint.j1 k1 l0 a1 x8_1 x9_1 x10_1 x23_1 (-1) ((rd_L1 l0 0).length : Int) x23_1) = some (r1, r2, r3, r4) := by rw [if_neg (show ¬ (false = true) by decide)] at H; exact H
              clear H
              have H := H1
              clear H1
              have H' := Aside0.mk H
              clear H
              go_wp2
              repeat (go_quiet (fail); try go_wp2)
              go_meet
              case rel => exact ⟨_, ((-1)), (by first | rfl | (simp; done) | (simp [*]; done)), H', ⟨by have := HK1.out; first | omega | exact Nat.le_refl _⟩, ⟨by (with_reducible repeat (first | apply Kd.R_alloc | apply Kd.R_drewN | apply Kd.R_drew)); exact HO_10.out⟩, ⟨by repeat (first | (with_reducible first | exact HB.out | apply below_alloc | apply pw_below_drewN | apply below_drew1) | exact HB.out)⟩⟩
          case rest =>
            clear HC6
            try clear c1
            try clear p1
            try clear q1
            try clear hx1
            try clear qi1
            try clear p2
            try clear c3
            try clear c3b0
            try clear c3b1
            try clear c4
            try clear c4b0
            try clear c7
            try clear hx172_0
            try clear p1
            try clear p172
            try clear p2
            try clear q1
            try clear q172
            obtain ⟨kq, x12_5, rfl, HA, HJ5, HO_10, HB⟩ := hcut
            cases kq with
            | zero => exact absurd HA.out (by simp [impl_bestPaint.j1])
            | succ kj5 =>
              have H := HA.out
              clear HA
              simp only [impl_bestPaint.j1] at H
              replace H := Option.bind_eq_some_iff.mp H
              obtain ⟨⟨t174, t175⟩, A80, H⟩ := H
              replace H : (if 0 < (t175.length : Int) then (if 0 ≤ x23_1 then (if x23_1 < ((rd_L1 t175 0).length : Int) then (if (rd (rd_L1 t175 0) x23_1) = 0 then (impl_bestPaint.j2 kj5 l0 a1 x8_1 x9_1 x10_1 x23_1 t174 t175 ((rd_L1 l0 0).length : Int) x23_1 true) else (if x9_1 > 0 then (if 0 < (t174.length : Int) then (if x23_1 < ((rd_L1 t174 0).length : Int) then (impl_bestPaint.j2 kj5 l0 a1 x8_1 x9_1 x10_1 x23_1 t174 t175 ((rd_L1 l0 0).length : Int) x23_1 (decide ((rd (rd_L1 t174 0) x23_1) > x8_1))) else (none)) else (none)) else (impl_bestPaint.j2 kj5 l0 a1 x8_1 x9_1 x10_1 x23_1 t174 t175 ((rd_L1 l0 0).length : Int) x23_1 false))) else (none)) else (none)) else (none)) = some (r1, r2, r3, r4) := H
              have A8 := Aside0.mk A80
              clear A80
              have HC9 := Aside0.mk H
              clear H
              go_upto_region 10 with (first | (go_at_call 51; (with_reducible refine (impl_paintFrom.calls kj5 _ _ l0 x12_5 t174 t175 _ ?side1 ?side2 A8.out).mono ?_); (case side1 => repeat (first | exact (Kd.C_below HR0.out HB.out) | (with_reducible refine Kd.C_alloc ?_ _) | (with_reducible refine Kd.C_drewN ?_ _) | (with_reducible refine Kd.C_drew ?_))); (case side2 => exact HC0.out); rintro e w10 ⟨v176, v178, rfl, ho0, ho1, hb⟩; have n0_ := Aside0.mk (Kd.R_below (by (with_reducible repeat (first | apply Kd.R_alloc | apply Kd.R_drewN | apply Kd.R_drew)); exact HO_10.out) hb); have n1_ := Aside0.mk (Kd.S_lower (Kd.S_new' ho0 (Kd.R_lt (by (with_reducible repeat (first | apply Kd.R_alloc | apply Kd.R_drewN | apply Kd.R_drew)); exact HO_10.out))) (below_size (by repeat (first | (with_reducible first | exact HB.out | apply below_alloc | apply pw_below_drewN | apply below_drew1) | exact HB.out)))); have n2_ := Aside0.mk (Kd.S_lower (Kd.S_new' ho1 (Kd.R_lt (by (with_reducible repeat (first | apply Kd.R_alloc | apply Kd.R_drewN | apply Kd.R_drew)); exact HO_10.out))) (below_size (by repeat (first | (with_reducible first | exact HB.out | apply below_alloc | apply pw_below_drewN | apply below_drew1) | exact HB.out)))); have n3_ := Aside0.mk (below_step (by repeat (first | (with_reducible first | exact HB.out | apply below_alloc | apply pw_below_drewN | apply below_drew1) | exact HB.out)) hb); clear HO_10; clear HB; have HO_10 := n0_; have HO177 := n1_; have HO179 := n2_; have HB := n3_; clear n0_ n1_ n2_ n3_; (try clear hb); (try clear hb2); (try clear hk); (try clear hi); (try clear ho0); (try clear ho1)))
              repeat (go_quiet (first | (go_at_call 51; (with_reducible refine (impl_paintFrom.calls kj5 _ _ l0 x12_5 t174 t175 _ ?side1 ?side2 A8.out).mono ?_); (case side1 => repeat (first | exact (Kd.C_below HR0.out HB.out) | (with_reducible refine Kd.C_alloc ?_ _) | (with_reducible refine Kd.C_drewN ?_ _) | (with_reducible refine Kd.C_drew ?_))); (case side2 => exact HC0.out); rintro e w10 ⟨v176, v178, rfl, ho0, ho1, hb⟩; have n0_ := Aside0.mk (Kd.R_below (by (with_reducible repeat (first | apply Kd.R_alloc | apply Kd.R_drewN | apply Kd.R_drew)); exact HO_10.out) hb); have n1_ := Aside0.mk (Kd.S_lower (Kd.S_new' ho0 (Kd.R_lt (by (with_reducible repeat (first | apply Kd.R_alloc | apply Kd.R_drewN | apply Kd.R_drew)); exact HO_10.out))) (below_size (by repeat (first | (with_reducible first | exact HB.out | apply below_alloc | apply pw_below_drewN | apply below_drew1) | exact HB.out)))); have n2_ := Aside0.mk (Kd.S_lower (Kd.S_new' ho1 (Kd.R_lt (by (with_reducible repeat (first | apply Kd.R_alloc | apply Kd.R_drewN | apply Kd.R_drew)); exact HO_10.out))) (below_size (by repeat (first | (with_reducible first | exact HB.out | apply below_alloc | apply pw_below_drewN | apply below_drew1) | exact HB.out)))); have n3_ := Aside0.mk (below_step (by repeat (first | (with_reducible first | exact HB.out | apply below_alloc | apply pw_below_drewN | apply below_drew1) | exact HB.out)) hb); clear HO_10; clear HB; have HO_10 := n0_; have HO177 := n1_; have HO179 := n2_; have HB := n3_; clear n0_ n1_ n2_ n3_; (try clear hb); (try clear hb2); (try clear hk); (try clear hi); (try clear ho0); (try clear ho1))); go_upto_region 10 with (first | (go_at_call 51; (with_reducible refine (impl_paintFrom.calls kj5 _ _ l0 x12_5 t174 t175 _ ?side1 ?side2 A8.out).mono ?_); (case side1 => repeat (first | exact (Kd.C_below HR0.out HB.out) | (with_reducible refine Kd.C_alloc ?_ _) | (with_reducible refine Kd.C_drewN ?_ _) | (with_reducible refine Kd.C_drew ?_))); (case side2 => exact HC0.out); rintro e w10 ⟨v176, v178, rfl, ho0, ho1, hb⟩; have n0_ := Aside0.mk (Kd.R_below (by (with_reducible repeat (first | apply Kd.R_alloc | apply Kd.R_drewN | apply Kd.R_drew)); exact HO_10.out) hb); have n1_ := Aside0.mk (Kd.S_lower (Kd.S_new' ho0 (Kd.R_lt (by (with_reducible repeat (first | apply Kd.R_alloc | apply Kd.R_drewN | apply Kd.R_drew)); exact HO_10.out))) (below_size (by repeat (first | (with_reducible first | exact HB.out | apply below_alloc | apply pw_below_drewN | apply below_drew1) | exact HB.out)))); have n2_ := Aside0.mk (Kd.S_lower (Kd.S_new' ho1 (Kd.R_lt (by (with_reducible repeat (first | apply Kd.R_alloc | apply Kd.R_drewN | apply Kd.R_drew)); exact HO_10.out))) (below_size (by repeat (first | (with_reducible first | exact HB.out | apply below_alloc | apply pw_below_drewN | apply below_drew1) | exact HB.out)))); have n3_ := Aside0.mk (below_step (by repeat (first | (with_reducible first | exact HB.out | apply below_alloc | apply pw_below_drewN | apply below_drew1) | exact HB.out)) hb); clear HO_10; clear HB; have HO_10 := n0_; have HO177 := n1_; have HO179 := n2_; have HB := n3_; clear n0_ n1_ n2_ n3_; (try clear hb); (try clear hb2); (try clear hk); (try clear hi); (try clear ho0); (try clear ho1))))
              (try simp only [Act.put, List.setIfInBounds_toArray, List.set_cons_zero, List.set_cons_succ])
              go_cut [57] (fun v57 wc => ∃ (kq : Nat) (x57_8 : Bool), v57 = .bool x57_8 ∧ Aside0 (impl_bestPaint.j2 kq l0 a1 x8_1 x9_1 x10_1 x23_1 t174 t175 ((rd_L1 l0 0).length : Int) x23_1 x57_8 = some (r1, r2, r3, r4)) ∧ Aside0 (kq ≤ kj5) ∧ Aside0 (Kd.R (Kd.int .i64) 3 wc w.heap.size (fun _ => True) u10 x10_1) ∧ Aside0 (Kd.S (Kd.slice 3 (Kd.int .i64)) 24 wc w.heap.size (fun k_ => some k_ ≠ (u10 : Value).ownBlock ∧ some k_ ≠ (v178 : Value).ownBlock) v176 t174) ∧ Aside0 (Kd.S (Kd.slice 3 (Kd.int .i64)) 24 wc w.heap.size (fun k_ => some k_ ≠ (u10 : Value).ownBlock ∧ some k_ ≠ (v176 : Value).ownBlock) v178 t175) ∧ Aside0 (Below w.heap.size w wc))
              case first =>
                have H := HC9.out
                clear HC9
                by_cases c11 : 0 < (t175.length : Int)
                · rw [if_pos c11] at H
                  have c11b0 : decide (0 < (t175.length : Int)) = true := decide_eq_true c11
                  have c11b1 : decide (0 < t175.length) = true := decide_eq_true (by omega)
                  clear c11
                  (first | rw [c11b0] | (simp only [i64_w, i32_w]; rw [c11b0]) | skip)
                  by_cases c12 : 0 ≤ x23_1
                  · rw [if_pos c12] at H
                    have c12b0 : decide (0 ≤ x23_1) = true := decide_eq_true c12
                    clear c12
                    by_cases c13 : x23_1 < ((rd_L1 t175 0).length : Int)
                    · rw [if_pos c13] at H
                      have c13b0 : decide (x23_1 < ((rd_L1 t175 0).length : Int)) = true := decide_eq_true c13
                      clear c13
                      by_cases c14 : (rd (rd_L1 t175 0) x23_1) = 0
                      · rw [if_pos c14] at H
                        have c14b0 : ((rd (rd_L1 t175 0) x23_1) == 0) = true := beq_iff_eq.mpr c14
                        have c14b1 : ((rd (rd_L1 t175 0) x23_1) != 0) = false := bne_eq_false_iff_eq.mpr c14
                        clear c14
                        have H' := Aside0.mk H
                        clear H
                        obtain ⟨Ao15, co15, eo15⟩ := Kd.S_slice HO179.out
                        subst eo15
                        have p180 : 0 ≤ (0 : Int) := (by omega)
                        have q180 : 0 < (t175.length : Int) := of_decide_eq_true (by first | (with_reducible assumption) | assumption)
                        obtain ⟨ad180, A180_0, c180_0, e180, hx180_0, hl180_0, hi180_0⟩ := at_L1 (Kd.S_reads' HO179.out).2.2 0 p180 q180
                        cases e180
                        obtain ⟨ce180, hce180, hMe180, hcc180⟩ := Kd.S_get HO179.out [] 0 p180 (by first | exact q180 | exact of_decide_eq_true (by first | (with_reducible assumption) | assumption) | (have e_ := (Kd.S_reads' HO179.out).1; omega))
                        obtain ⟨ve180_0, rfl, ge180_0⟩ := hMe180
                        have hv180_0 := hcc180 0 _ rfl
                        rw [Nat.add_zero, show ((Kd.slice 3 (Kd.int .i64))).sz = 1 from rfl, Nat.mul_one] at hv180_0
                        replace hv180_0 := Option.some.inj (hv180_0.symm.trans hx180_0)
                        rw [hv180_0] at ge180_0
                        have HL180_0 := Aside0.mk (show Kd.R (Kd.int .i64) 3 _ _ _ _ (rd_L1 t175 0) from ge180_0)
                        clear hv180_0 ge180_0
                        clear hcc180 hce180
                        have qi180 : (0 < t175.length) = True := eq_true (by omega)
                        (try rw [show ((0 : Int)).toNat = 0 from rfl] at hx180_0)
                        (try rw [Addr.add_zero'] at hx180_0)
                        have HR180_0 := Aside0.mk hi180_0
                        have HC180_0 := Aside0.mk hl180_0
                        clear hi180_0 hl180_0
                        replace p180 := eq_true p180
                        replace q180 := eq_true q180
                        have p181 : 0 ≤ (x23_1 : Int) := of_decide_eq_true (by first | (with_reducible assumption) | assumption)
                        have q181 : x23_1 < ((rd_L1 t175 0).length : Int) := of_decide_eq_true (by first | (with_reducible assumption) | assumption)
                        obtain ⟨ad181, e181, hx181_0⟩ := Kd.at_int (by repeat (first | (with_reducible exact HR180_0.out) | (with_reducible refine Kd.C_alloc ?_ _) | (with_reducible refine Kd.C_drewN ?_ _) | (with_reducible refine Kd.C_drew ?_) | exact HR180_0.out)) x23_1 p181 q181
                        cases e181
                        replace p181 := eq_true p181
                        replace q181 := eq_true q181
                        go_wp2
                        repeat (go_quiet (fail); try go_wp2)
                        go_meet
                        case rel => exact ⟨_, (true), (by first | rfl | (simp; done) | (simp [*]; done)), H', ⟨by have := HK1.out; have := HJ5.out; first | omega | exact Nat.le_refl _⟩, ⟨by (with_reducible repeat (first | apply Kd.R_alloc | apply Kd.R_drewN | apply Kd.R_drew)); exact HO_10.out⟩, ⟨by (with_reducible repeat (first | apply Kd.S_alloc | apply Kd.S_drewN | apply Kd.S_drew)); exact Kd.S_mono HO177.out (fun _ hk => ⟨hk.2, hk.1⟩)⟩, ⟨by (with_reducible repeat (first | apply Kd.S_alloc | apply Kd.S_drewN | apply Kd.S_drew)); exact Kd.S_mono HO179.out (fun _ hk => ⟨hk.2, hk.1⟩)⟩, ⟨by repeat (first | (with_reducible first | exact HB.out | apply below_alloc | apply pw_below_drewN | apply below_drew1) | exact HB.out)⟩⟩
                      · rw [if_neg c14] at H
                        have c14b0 : ((rd (rd_L1 t175 0) x23_1) == 0) = false := beq_eq_false_iff_ne.mpr c14
                        have c14b1 : ((rd (rd_L1 t175 0) x23_1) != 0) = true := bne_iff_ne.mpr c14
                        by_cases c16 : x9_1 > 0
                        · rw [if_pos c16] at H
                          have c16b0 : decide (0 < x9_1) = true := decide_eq_true c16
                          clear c16
                          by_cases c17 : 0 < (t174.length : Int)
                          · rw [if_pos c17] at H
                            have c17b0 : decide (0 < (t174.length : Int)) = true := decide_eq_true c17
                            have c17b1 : decide (0 < t174.length) = true := decide_eq_true (by omega)
                            clear c17
                            by_cases c18 : x23_1 < ((rd_L1 t174 0).length : Int)
                            · rw [if_pos c18] at H
                              have c18b0 : decide (x23_1 < ((rd_L1 t174 0).length : Int)) = true := decide_eq_true c18
                              clear c18
                              have H' := Aside0.mk H
                              clear H
                              obtain ⟨Ao19, co19, eo19⟩ := Kd.S_slice HO179.out
                              subst eo19
                              have p180 : 0 ≤ (0 : Int) := (by omega)
                              have q180 : 0 < (t175.length : Int) := of_decide_eq_true (by first | (with_reducible assumption) | assumption)
                              obtain ⟨ad180, A180_0, c180_0, e180, hx180_0, hl180_0, hi180_0⟩ := at_L1 (Kd.S_reads' HO179.out).2.2 0 p180 q180
                              cases e180
                              obtain ⟨ce180, hce180, hMe180, hcc180⟩ := Kd.S_get HO179.out [] 0 p180 (by first | exact q180 | exact of_decide_eq_true (by first | (with_reducible assumption) | assumption) | (have e_ := (Kd.S_reads' HO179.out).1; omega))
                              obtain ⟨ve180_0, rfl, ge180_0⟩ := hMe180
                              have hv180_0 := hcc180 0 _ rfl
                              rw [Nat.add_zero, show ((Kd.slice 3 (Kd.int .i64))).sz = 1 from rfl, Nat.mul_one] at hv180_0
                              replace hv180_0 := Option.some.inj (hv180_0.symm.trans hx180_0)
                              rw [hv180_0] at ge180_0
                              have HL180_0 := Aside0.mk (show Kd.R (Kd.int .i64) 3 _ _ _ _ (rd_L1 t175 0) from ge180_0)
                              clear hv180_0 ge180_0
                              clear hcc180 hce180
                              have qi180 : (0 < t175.length) = True := eq_true (by omega)
                              (try rw [show ((0 : Int)).toNat = 0 from rfl] at hx180_0)
                              (try rw [Addr.add_zero'] at hx180_0)
                              have HR180_0 := Aside0.mk hi180_0
                              have HC180_0 := Aside0.mk hl180_0
                              clear hi180_0 hl180_0
                              replace p180 := eq_true p180
                              replace q180 := eq_true q180
                              have p181 : 0 ≤ (x23_1 : Int) := of_decide_eq_true (by first | (with_reducible assumption) | assumption)
                              have q181 : x23_1 < ((rd_L1 t175 0).length : Int) := of_decide_eq_true (by first | (with_reducible assumption) | assumption)
                              obtain ⟨ad181, e181, hx181_0⟩ := Kd.at_int (by repeat (first | (with_reducible exact HR180_0.out) | (with_reducible refine Kd.C_alloc ?_ _) | (with_reducible refine Kd.C_drewN ?_ _) | (with_reducible refine Kd.C_drew ?_) | exact HR180_0.out)) x23_1 p181 q181
                              cases e181
                              replace p181 := eq_true p181
                              replace q181 := eq_true q181
                              obtain ⟨Ao20, co20, eo20⟩ := Kd.S_slice HO177.out
                              subst eo20
                              have p182 : 0 ≤ (0 : Int) := (by omega)
                              have q182 : 0 < (t174.length : Int) := of_decide_eq_true (by first | (with_reducible assumption) | assumption)
                              obtain ⟨ad182, A182_0, c182_0, e182, hx182_0, hl182_0, hi182_0⟩ := at_L1 (Kd.S_reads' HO177.out).2.2 0 p182 q182
                              cases e182
                              obtain ⟨ce182, hce182, hMe182, hcc182⟩ := Kd.S_get HO177.out [] 0 p182 (by first | exact q182 | exact of_decide_eq_true (by first | (with_reducible assumption) | assumption) | (have e_ := (Kd.S_reads' HO177.out).1; omega))
                              obtain ⟨ve182_0, rfl, ge182_0⟩ := hMe182
                              have hv182_0 := hcc182 0 _ rfl
                              rw [Nat.add_zero, show ((Kd.slice 3 (Kd.int .i64))).sz = 1 from rfl, Nat.mul_one] at hv182_0
                              replace hv182_0 := Option.some.inj (hv182_0.symm.trans hx182_0)
                              rw [hv182_0] at ge182_0
                              have HL182_0 := Aside0.mk (show Kd.R (Kd.int .i64) 3 _ _ _ _ (rd_L1 t174 0) from ge182_0)
                              clear hv182_0 ge182_0
                              clear hcc182 hce182
                              have qi182 : (0 < t174.length) = True := eq_true (by omega)
                              (try rw [show ((0 : Int)).toNat = 0 from rfl] at hx182_0)
                              (try rw [Addr.add_zero'] at hx182_0)
                              have HR182_0 := Aside0.mk hi182_0
                              have HC182_0 := Aside0.mk hl182_0
                              clear hi182_0 hl182_0
                              replace p182 := eq_true p182
                              replace q182 := eq_true q182
                              have p183 : 0 ≤ (x23_1 : Int) := of_decide_eq_true (by first | (with_reducible assumption) | assumption)
                              have q183 : x23_1 < ((rd_L1 t174 0).length : Int) := of_decide_eq_true (by first | (with_reducible assumption) | assumption)
                              obtain ⟨ad183, e183, hx183_0⟩ := Kd.at_int (by repeat (first | (with_reducible exact HR182_0.out) | (with_reducible refine Kd.C_alloc ?_ _) | (with_reducible refine Kd.C_drewN ?_ _) | (with_reducible refine Kd.C_drew ?_) | exact HR182_0.out)) x23_1 p183 q183
                              cases e183
                              replace p183 := eq_true p183
                              replace q183 := eq_true q183
                              go_wp2
                              repeat (go_quiet (fail); try go_wp2)
                              go_meet
                              case rel => exact ⟨_, (decide ((rd (rd_L1 t174 0) x23_1) > x8_1)), (by first | rfl | (simp; done) | (simp [*]; done)), H', ⟨by have := HK1.out; have := HJ5.out; first | omega | exact Nat.le_refl _⟩, ⟨by (with_reducible repeat (first | apply Kd.R_alloc | apply Kd.R_drewN | apply Kd.R_drew)); exact HO_10.out⟩, ⟨by (with_reducible repeat (first | apply Kd.S_alloc | apply Kd.S_drewN | apply Kd.S_drew)); exact Kd.S_mono HO177.out (fun _ hk => ⟨hk.2, hk.1⟩)⟩, ⟨by (with_reducible repeat (first | apply Kd.S_alloc | apply Kd.S_drewN | apply Kd.S_drew)); exact Kd.S_mono HO179.out (fun _ hk => ⟨hk.2, hk.1⟩)⟩, ⟨by repeat (first | (with_reducible first | exact HB.out | apply below_alloc | apply pw_below_drewN | apply below_drew1) | exact HB.out)⟩⟩
                            · rw [if_neg c18] at H
                              exact absurd H (by simp)
                          · rw [if_neg c17] at H
                            exact absurd H (by simp)
                        · rw [if_neg c16] at H
                          have c16b0 : decide (0 < x9_1) = false := decide_eq_false c16
                          clear c16
                          have H' := Aside0.mk H
                          clear H
                          obtain ⟨Ao21, co21, eo21⟩ := Kd.S_slice HO179.out
                          subst eo21
                          have p180 : 0 ≤ (0 : Int) := (by omega)
                          have q180 : 0 < (t175.length : Int) := of_decide_eq_true (by first | (with_reducible assumption) | assumption)
                          obtain ⟨ad180, A180_0, c180_0, e180, hx180_0, hl180_0, hi180_0⟩ := at_L1 (Kd.S_reads' HO179.out).2.2 0 p180 q180
                          cases e180
                          obtain ⟨ce180, hce180, hMe180, hcc180⟩ := Kd.S_get HO179.out [] 0 p180 (by first | exact q180 | exact of_decide_eq_true (by first | (with_reducible assumption) | assumption) | (have e_ := (Kd.S_reads' HO179.out).1; omega))
                          obtain ⟨ve180_0, rfl, ge180_0⟩ := hMe180
                          have hv180_0 := hcc180 0 _ rfl
                          rw [Nat.add_zero, show ((Kd.slice 3 (Kd.int .i64))).sz = 1 from rfl, Nat.mul_one] at hv180_0
                          replace hv180_0 := Option.some.inj (hv180_0.symm.trans hx180_0)
                          rw [hv180_0] at ge180_0
                          have HL180_0 := Aside0.mk (show Kd.R (Kd.int .i64) 3 _ _ _ _ (rd_L1 t175 0) from ge180_0)
                          clear hv180_0 ge180_0
                          clear hcc180 hce180
                          have qi180 : (0 < t175.length) = True := eq_true (by omega)
                          (try rw [show ((0 : Int)).toNat = 0 from rfl] at hx180_0)
                          (try rw [Addr.add_zero'] at hx180_0)
                          have HR180_0 := Aside0.mk hi180_0
                          have HC180_0 := Aside0.mk hl180_0
                          clear hi180_0 hl180_0
                          replace p180 := eq_true p180
                          replace q180 := eq_true q180
                          have p181 : 0 ≤ (x23_1 : Int) := of_decide_eq_true (by first | (with_reducible assumption) | assumption)
                          have q181 : x23_1 < ((rd_L1 t175 0).length : Int) := of_decide_eq_true (by first | (with_reducible assumption) | assumption)
                          obtain ⟨ad181, e181, hx181_0⟩ := Kd.at_int (by repeat (first | (with_reducible exact HR180_0.out) | (with_reducible refine Kd.C_alloc ?_ _) | (with_reducible refine Kd.C_drewN ?_ _) | (with_reducible refine Kd.C_drew ?_) | exact HR180_0.out)) x23_1 p181 q181
                          cases e181
                          replace p181 := eq_true p181
                          replace q181 := eq_true q181
                          go_wp2
                          repeat (go_quiet (fail); try go_wp2)
                          go_meet
                          case rel => exact ⟨_, (false), (by first | rfl | (simp; done) | (simp [*]; done)), H', ⟨by have := HK1.out; have := HJ5.out; first | omega | exact Nat.le_refl _⟩, ⟨by (with_reducible repeat (first | apply Kd.R_alloc | apply Kd.R_drewN | apply Kd.R_drew)); exact HO_10.out⟩, ⟨by (with_reducible repeat (first | apply Kd.S_alloc | apply Kd.S_drewN | apply Kd.S_drew)); exact Kd.S_mono HO177.out (fun _ hk => ⟨hk.2, hk.1⟩)⟩, ⟨by (with_reducible repeat (first | apply Kd.S_alloc | apply Kd.S_drewN | apply Kd.S_drew)); exact Kd.S_mono HO179.out (fun _ hk => ⟨hk.2, hk.1⟩)⟩, ⟨by repeat (first | (with_reducible first | exact HB.out | apply below_alloc | apply pw_below_drewN | apply below_drew1) | exact HB.out)⟩⟩
                    · rw [if_neg c13] at H
                      exact absurd H (by simp)
                  · rw [if_neg c12] at H
                    exact absurd H (by simp)
                · rw [if_neg c11] at H
                  exact absurd H (by simp)
              case rest =>
                clear HC9
                try clear c1
                try clear p1
                try clear q1
                try clear hx1
                try clear qi1
                try clear p2
                try clear c3
                try clear c3b0
                try clear c3b1
                try clear c4
                try clear c4b0
                try clear c7
                try clear c11
                try clear c11b0
                try clear c11b1
                try clear c12
                try clear c12b0
                try clear c13
                try clear c13b0
                try clear c14
                try clear c14b0
                try clear c14b1
                try clear c16
                try clear c16b0
                try clear c17
                try clear c17b0
                try clear c17b1
                try clear p17
                try clear q17
                try clear hx17
                try clear qi17
                try clear c18
                try clear c18b0
                try clear p18
                try clear q18
                try clear hx18
                try clear qi18
                try clear hx172_0
                try clear hx180_0
                try clear hx181_0
                try clear hx182_0
                try clear hx183_0
                try clear p1
                try clear p172
                try clear p180
                try clear p181
                try clear p182
                try clear p183
                try clear p2
                try clear q1
                try clear q172
                try clear q180
                try clear q181
                try clear q182
                try clear q183
                obtain ⟨kq, x57_8, rfl, HA, HJ8, HO_10, HO_13, HO_14, HB⟩ := hcut
                cases kq with
                | zero => exact absurd HA.out (by simp [impl_bestPaint.j2])
                | succ kj8 =>
                  have H := HA.out
                  clear HA
                  simp only [impl_bestPaint.j2] at H
                  by_cases c22 : x57_8 = true
                  · subst c22
                    have H1 : (impl_bestPaint.l0 kj8 l0 a1 x8_1 x9_1 x10_1 ((rd_L1 l0 0).length : Int) (wrap64 (x23_1 + 1))) = some (r1, r2, r3, r4) := by rw [if_pos rfl] at H; exact H
                    clear H
                    have H := H1
                    clear H1
                    have H' := Aside0.mk H
                    clear H
                    go_wp2
                    repeat (go_quiet (fail); try go_wp2)
                    go_roundg kj8
                    case measure => have := HK1.out; have := HJ5.out; have := HJ8.out; omega
                    case rel => exact ⟨(x8_1), (x9_1), (x10_1), (wrap64 (x23_1 + 1)), (by first | rfl | (simp; done) | (simp [*]; done)), (by first | rfl | (simp; done) | (simp [*]; done)), (by first | rfl | (simp; done) | (simp [*]; done)), H', ⟨by have := HK1.out; have := HJ5.out; have := HJ8.out; omega⟩, ⟨by (with_reducible repeat (first | apply Kd.R_alloc | apply Kd.R_drewN | apply Kd.R_drew)); exact HO_10.out⟩, ⟨by repeat (first | (with_reducible first | exact HB.out | apply below_alloc | apply pw_below_drewN | apply below_drew1) | exact HB.out)⟩⟩
                  · replace c22 := Bool.eq_false_iff.mpr c22
                    subst c22
                    have H1 : (if x9_1 > 0 then (if 0 < (t174.length : Int) then (if 0 ≤ x23_1 then (if x23_1 < ((rd_L1 t174 0).length : Int) then (impl_bestPaint.j3 kj8 l0 a1 x8_1 x9_1 x10_1 x23_1 t174 t175 ((rd_L1 l0 0).length : Int) x23_1 ((rd (rd_L1 t174 0) x23_1) == x8_1)) else (none)) else (none)) else (none)) else (impl_bestPaint.j3 kj8 l0 a1 x8_1 x9_1 x10_1 x23_1 t174 t175 ((rd_L1 l0 0).length : Int) x23_1 false)) = some (r1, r2, r3, r4) := by rw [if_neg (show ¬ (false = true) by decide)] at H; exact H
                    clear H
                    have H := H1
                    clear H1
                    have HC23 := Aside0.mk H
                    clear H
                    go_upto_region 11 with (fail)
                    repeat (go_quiet (fail); go_upto_region 11 with (fail))
                    go_cut [69] (fun v69 wc => ∃ (kq : Nat) (x69_22 : Bool), v69 = .bool x69_22 ∧ Aside0 (impl_bestPaint.j3 kq l0 a1 x8_1 x9_1 x10_1 x23_1 t174 t175 ((rd_L1 l0 0).length : Int) x23_1 x69_22 = some (r1, r2, r3, r4)) ∧ Aside0 (kq ≤ kj8) ∧ Aside0 (Kd.R (Kd.int .i64) 3 wc w.heap.size (fun _ => True) u10 x10_1) ∧ Aside0 (Kd.S (Kd.slice 3 (Kd.int .i64)) 24 wc w.heap.size (fun k_ => some k_ ≠ (u10 : Value).ownBlock ∧ some k_ ≠ (v178 : Value).ownBlock) v176 t174) ∧ Aside0 (Kd.S (Kd.slice 3 (Kd.int .i64)) 24 wc w.heap.size (fun k_ => some k_ ≠ (u10 : Value).ownBlock ∧ some k_ ≠ (v176 : Value).ownBlock) v178 t175) ∧ Aside0 (Below w.heap.size w wc))
                    case first =>
                      have H := HC23.out
                      clear HC23
                      by_cases c24 : x9_1 > 0
                      · rw [if_pos c24] at H
                        have c24b0 : decide (0 < x9_1) = true := decide_eq_true c24
                        clear c24
                        (first | rw [c24b0] | (simp only [i64_w, i32_w]; rw [c24b0]) | skip)
                        by_cases c25 : 0 < (t174.length : Int)
                        · rw [if_pos c25] at H
                          have c25b0 : decide (0 < (t174.length : Int)) = true := decide_eq_true c25
                          have c25b1 : decide (0 < t174.length) = true := decide_eq_true (by omega)
                          clear c25
                          by_cases c26 : 0 ≤ x23_1
                          · rw [if_pos c26] at H
                            have c26b0 : decide (0 ≤ x23_1) = true := decide_eq_true c26
                            clear c26
                            by_cases c27 : x23_1 < ((rd_L1 t174 0).length : Int)
                            · rw [if_pos c27] at H
                              have c27b0 : decide (x23_1 < ((rd_L1 t174 0).length : Int)) = true := decide_eq_true c27
                              clear c27
                              have H' := Aside0.mk H
                              clear H
                              obtain ⟨Ao28, co28, eo28⟩ := Kd.S_slice HO_13.out
                              subst eo28
                              have p184 : 0 ≤ (0 : Int) := (by omega)
                              have q184 : 0 < (t174.length : Int) := of_decide_eq_true (by first | (with_reducible assumption) | assumption)
                              obtain ⟨ad184, A184_0, c184_0, e184, hx184_0, hl184_0, hi184_0⟩ := at_L1 (Kd.S_reads' HO_13.out).2.2 0 p184 q184
                              cases e184
                              obtain ⟨ce184, hce184, hMe184, hcc184⟩ := Kd.S_get HO_13.out [] 0 p184 (by first | exact q184 | exact of_decide_eq_true (by first | (with_reducible assumption) | assumption) | (have e_ := (Kd.S_reads' HO_13.out).1; omega))
                              obtain ⟨ve184_0, rfl, ge184_0⟩ := hMe184
                              have hv184_0 := hcc184 0 _ rfl
                              rw [Nat.add_zero, show ((Kd.slice 3 (Kd.int .i64))).sz = 1 from rfl, Nat.mul_one] at hv184_0
                              replace hv184_0 := Option.some.inj (hv184_0.symm.trans hx184_0)
                              rw [hv184_0] at ge184_0
                              have HL184_0 := Aside0.mk (show Kd.R (Kd.int .i64) 3 _ _ _ _ (rd_L1 t174 0) from ge184_0)
                              clear hv184_0 ge184_0
                              clear hcc184 hce184
                              have qi184 : (0 < t174.length) = True := eq_true (by omega)
                              (try rw [show ((0 : Int)).toNat = 0 from rfl] at hx184_0)
                              (try rw [Addr.add_zero'] at hx184_0)
                              have HR184_0 := Aside0.mk hi184_0
                              have HC184_0 := Aside0.mk hl184_0
                              clear hi184_0 hl184_0
                              replace p184 := eq_true p184
                              replace q184 := eq_true q184
                              have p185 : 0 ≤ (x23_1 : Int) := of_decide_eq_true (by first | (with_reducible assumption) | assumption)
                              have q185 : x23_1 < ((rd_L1 t174 0).length : Int) := of_decide_eq_true (by first | (with_reducible assumption) | assumption)
                              obtain ⟨ad185, e185, hx185_0⟩ := Kd.at_int (by repeat (first | (with_reducible exact HR184_0.out) | (with_reducible refine Kd.C_alloc ?_ _) | (with_reducible refine Kd.C_drewN ?_ _) | (with_reducible refine Kd.C_drew ?_) | exact HR184_0.out)) x23_1 p185 q185
                              cases e185
                              replace p185 := eq_true p185
                              replace q185 := eq_true q185
                              go_wp2
                              repeat (go_quiet (fail); try go_wp2)
                              go_meet
                              case rel => exact ⟨_, (((rd (rd_L1 t174 0) x23_1) == x8_1)), (by first | rfl | (simp; done) | (simp [*]; done)), H', ⟨by have := HK1.out; have := HJ5.out; have := HJ8.out; first | omega | exact Nat.le_refl _⟩, ⟨by (with_reducible repeat (first | apply Kd.R_alloc | apply Kd.R_drewN | apply Kd.R_drew)); exact HO_10.out⟩, ⟨by (with_reducible repeat (first | apply Kd.S_alloc | apply Kd.S_drewN | apply Kd.S_drew)); exact HO_13.out⟩, ⟨by (with_reducible repeat (first | apply Kd.S_alloc | apply Kd.S_drewN | apply Kd.S_drew)); exact HO_14.out⟩, ⟨by repeat (first | (with_reducible first | exact HB.out | apply below_alloc | apply pw_below_drewN | apply below_drew1) | exact HB.out)⟩⟩
                            · rw [if_neg c27] at H
                              exact absurd H (by simp)
                          · rw [if_neg c26] at H
                            exact absurd H (by simp)
                        · rw [if_neg c25] at H
                          exact absurd H (by simp)
                      · rw [if_neg c24] at H
                        have c24b0 : decide (0 < x9_1) = false := decide_eq_false c24
                        clear c24
                        (first | rw [c24b0] | (simp only [i64_w, i32_w]; rw [c24b0]) | skip)
                        have H' := Aside0.mk H
                        clear H
                        go_wp2
                        repeat (go_quiet (fail); try go_wp2)
                        go_meet
                        case rel => exact ⟨_, (false), (by first | rfl | (simp; done) | (simp [*]; done)), H', ⟨by have := HK1.out; have := HJ5.out; have := HJ8.out; first | omega | exact Nat.le_refl _⟩, ⟨by (with_reducible repeat (first | apply Kd.R_alloc | apply Kd.R_drewN | apply Kd.R_drew)); exact HO_10.out⟩, ⟨by (with_reducible repeat (first | apply Kd.S_alloc | apply Kd.S_drewN | apply Kd.S_drew)); exact HO_13.out⟩, ⟨by (with_reducible repeat (first | apply Kd.S_alloc | apply Kd.S_drewN | apply Kd.S_drew)); exact HO_14.out⟩, ⟨by repeat (first | (with_reducible first | exact HB.out | apply below_alloc | apply pw_below_drewN | apply below_drew1) | exact HB.out)⟩⟩
                    case rest =>
                      clear HC23
                      try clear c1
                      try clear p1
                      try clear q1
                      try clear hx1
                      try clear qi1
                      try clear c2
                      try clear p2
                      try clear c3
                      try clear c3b0
                      try clear c3b1
                      try clear c4
                      try clear c4b0
                      try clear p6
                      try clear c7
                      try clear c11
                      try clear c11b0
                      try clear c11b1
                      try clear c12
                      try clear c12b0
                      try clear c13
                      try clear c13b0
                      try clear c14
                      try clear c14b0
                      try clear c14b1
                      try clear c16
                      try clear c16b0
                      try clear c17
                      try clear c17b0
                      try clear c17b1
                      try clear p17
                      try clear q17
                      try clear hx17
                      try clear qi17
                      try clear c18
                      try clear c18b0
                      try clear p18
                      try clear q18
                      try clear hx18
                      try clear qi18
                      try clear c22
                      try clear c24
                      try clear c24b0
                      try clear c25
                      try clear c25b0
                      try clear c25b1
                      try clear c26
                      try clear c26b0
                      try clear c27
                      try clear c27b0
                      try clear hx172_0
                      try clear hx180_0
                      try clear hx181_0
                      try clear hx182_0
                      try clear hx183_0
                      try clear hx184_0
                      try clear hx185_0
                      try clear p1
                      try clear p17
                      try clear p172
                      try clear p18
                      try clear p180
                      try clear p181
                      try clear p182
                      try clear p183
                      try clear p184
                      try clear p185
                      try clear p2
                      try clear q1
                      try clear q17
                      try clear q172
                      try clear q18
                      try clear q180
                      try clear q181
                      try clear q182
                      try clear q183
                      try clear q184
                      try clear q185
                      obtain ⟨kq, x69_22, rfl, HA, HJ22, HO_10, HO_13, HO_14, HB⟩ := hcut
                      cases kq with
                      | zero => exact absurd HA.out (by simp [impl_bestPaint.j3])
                      | succ kj22 =>
                        have H := HA.out
                        clear HA
                        simp only [impl_bestPaint.j3] at H
                        by_cases c29 : x69_22 = true
                        · subst c29
                          have H1 : (if 0 < (t175.length : Int) then (if 0 ≤ x23_1 then (if x23_1 < ((rd_L1 t175 0).length : Int) then (impl_bestPaint.l0 kj22 l0 a1 x8_1 (wrap64 (x9_1 + (rd (rd_L1 t175 0) x23_1))) x10_1 ((rd_L1 l0 0).length : Int) (wrap64 (x23_1 + 1))) else (none)) else (none)) else (none)) = some (r1, r2, r3, r4) := by rw [if_pos rfl] at H; exact H
                          clear H
                          have H := H1
                          clear H1
                          by_cases c30 : 0 < (t175.length : Int)
                          · rw [if_pos c30] at H
                            have c30b0 : decide (0 < (t175.length : Int)) = true := decide_eq_true c30
                            have c30b1 : decide (0 < t175.length) = true := decide_eq_true (by omega)
                            clear c30
                            by_cases c31 : 0 ≤ x23_1
                            · rw [if_pos c31] at H
                              have c31b0 : decide (0 ≤ x23_1) = true := decide_eq_true c31
                              clear c31
                              by_cases c32 : x23_1 < ((rd_L1 t175 0).length : Int)
                              · rw [if_pos c32] at H
                                have c32b0 : decide (x23_1 < ((rd_L1 t175 0).length : Int)) = true := decide_eq_true c32
                                clear c32
                                have H' := Aside0.mk H
                                clear H
                                obtain ⟨Ao33, co33, eo33⟩ := Kd.S_slice HO_14.out
                                subst eo33
                                have p186 : 0 ≤ (0 : Int) := (by omega)
                                have q186 : 0 < (t175.length : Int) := of_decide_eq_true (by first | (with_reducible assumption) | assumption)
                                obtain ⟨ad186, A186_0, c186_0, e186, hx186_0, hl186_0, hi186_0⟩ := at_L1 (Kd.S_reads' HO_14.out).2.2 0 p186 q186
                                cases e186
                                obtain ⟨ce186, hce186, hMe186, hcc186⟩ := Kd.S_get HO_14.out [] 0 p186 (by first | exact q186 | exact of_decide_eq_true (by first | (with_reducible assumption) | assumption) | (have e_ := (Kd.S_reads' HO_14.out).1; omega))
                                obtain ⟨ve186_0, rfl, ge186_0⟩ := hMe186
                                have hv186_0 := hcc186 0 _ rfl
                                rw [Nat.add_zero, show ((Kd.slice 3 (Kd.int .i64))).sz = 1 from rfl, Nat.mul_one] at hv186_0
                                replace hv186_0 := Option.some.inj (hv186_0.symm.trans hx186_0)
                                rw [hv186_0] at ge186_0
                                have HL186_0 := Aside0.mk (show Kd.R (Kd.int .i64) 3 _ _ _ _ (rd_L1 t175 0) from ge186_0)
                                clear hv186_0 ge186_0
                                clear hcc186 hce186
                                have qi186 : (0 < t175.length) = True := eq_true (by omega)
                                (try rw [show ((0 : Int)).toNat = 0 from rfl] at hx186_0)
                                (try rw [Addr.add_zero'] at hx186_0)
                                have HR186_0 := Aside0.mk hi186_0
                                have HC186_0 := Aside0.mk hl186_0
                                clear hi186_0 hl186_0
                                replace p186 := eq_true p186
                                replace q186 := eq_true q186
                                have p187 : 0 ≤ (x23_1 : Int) := of_decide_eq_true (by first | (with_reducible assumption) | assumption)
                                have q187 : x23_1 < ((rd_L1 t175 0).length : Int) := of_decide_eq_true (by first | (with_reducible assumption) | assumption)
                                obtain ⟨ad187, e187, hx187_0⟩ := Kd.at_int (by repeat (first | (with_reducible exact HR186_0.out) | (with_reducible refine Kd.C_alloc ?_ _) | (with_reducible refine Kd.C_drewN ?_ _) | (with_reducible refine Kd.C_drew ?_) | exact HR186_0.out)) x23_1 p187 q187
                                cases e187
                                replace p187 := eq_true p187
                                replace q187 := eq_true q187
                                go_wp2
                                repeat (go_quiet (fail); try go_wp2)
                                go_roundg kj22
                                case measure => have := HK1.out; have := HJ5.out; have := HJ8.out; have := HJ22.out; omega
                                case rel => exact ⟨(x8_1), (wrap64 (x9_1 + (rd (rd_L1 t175 0) x23_1))), (x10_1), (wrap64 (x23_1 + 1)), (by first | rfl | (simp; done) | (simp [*]; done)), (by first | rfl | (simp; done) | (simp [*]; done)), (by first | rfl | (simp; done) | (simp [*]; done)), H', ⟨by have := HK1.out; have := HJ5.out; have := HJ8.out; have := HJ22.out; omega⟩, ⟨by (with_reducible repeat (first | apply Kd.R_alloc | apply Kd.R_drewN | apply Kd.R_drew)); exact HO_10.out⟩, ⟨by repeat (first | (with_reducible first | exact HB.out | apply below_alloc | apply pw_below_drewN | apply below_drew1) | exact HB.out)⟩⟩
                              · rw [if_neg c32] at H
                                exact absurd H (by simp)
                            · rw [if_neg c31] at H
                              exact absurd H (by simp)
                          · rw [if_neg c30] at H
                            exact absurd H (by simp)
                        · replace c29 := Bool.eq_false_iff.mpr c29
                          subst c29
                          have H1 : (if 0 < (t174.length : Int) then (if 0 ≤ x23_1 then (if x23_1 < ((rd_L1 t174 0).length : Int) then (if 0 < (t175.length : Int) then (if x23_1 < ((rd_L1 t175 0).length : Int) then (impl_bestPaint.l1 kj22 l0 a1 (rd (rd_L1 t174 0) x23_1) (rd (rd_L1 t175 0) x23_1) (([x23_1] : List Int)) t174 t175 1 ((rd_L1 l0 0).length : Int) x23_1) else (none)) else (none)) else (none)) else (none)) else (none)) = some (r1, r2, r3, r4) := by rw [if_neg (show ¬ (false = true) by decide)] at H; exact H
                          clear H
                          have H := H1
                          clear H1
                          by_cases c34 : 0 < (t174.length : Int)
                          · rw [if_pos c34] at H
                            have c34b0 : decide (0 < (t174.length : Int)) = true := decide_eq_true c34
                            have c34b1 : decide (0 < t174.length) = true := decide_eq_true (by omega)
                            clear c34
                            by_cases c35 : 0 ≤ x23_1
                            · rw [if_pos c35] at H
                              have c35b0 : decide (0 ≤ x23_1) = true := decide_eq_true c35
                              clear c35
                              by_cases c36 : x23_1 < ((rd_L1 t174 0).length : Int)
                              · rw [if_pos c36] at H
                                have c36b0 : decide (x23_1 < ((rd_L1 t174 0).length : Int)) = true := decide_eq_true c36
                                clear c36
                                by_cases c37 : 0 < (t175.length : Int)
                                · rw [if_pos c37] at H
                                  have c37b0 : decide (0 < (t175.length : Int)) = true := decide_eq_true c37
                                  have c37b1 : decide (0 < t175.length) = true := decide_eq_true (by omega)
                                  clear c37
                                  by_cases c38 : x23_1 < ((rd_L1 t175 0).length : Int)
                                  · rw [if_pos c38] at H
                                    have c38b0 : decide (x23_1 < ((rd_L1 t175 0).length : Int)) = true := decide_eq_true c38
                                    clear c38
                                    obtain ⟨y192, hy192⟩ : ∃ y_ : List Int, y_ = (([x23_1] : List Int)) := ⟨_, rfl⟩
                                    replace H : (impl_bestPaint.l1 kj22 l0 a1 (rd (rd_L1 t174 0) x23_1) (rd (rd_L1 t175 0) x23_1) y192 t174 t175 1 ((rd_L1 l0 0).length : Int) x23_1) = some (r1, r2, r3, r4) := by first | (rw [hy192]; with_reducible exact H) | (have H2_ := (Option.bind_some _ _).symm.trans H; rw [hy192]; with_reducible exact H2_) | (have H2_ := (Option.bind_some _ _).symm.trans H; with_reducible exact H2_) | with_reducible exact H | (rw [hy192]; exact H) | exact H
                                    have Ny192 := Aside0.mk hy192
                                    clear hy192
                                    have H' := Aside0.mk H
                                    clear H
                                    obtain ⟨Ao39, co39, eo39⟩ := Kd.S_slice HO_13.out
                                    subst eo39
                                    have p188 : 0 ≤ (0 : Int) := (by omega)
                                    have q188 : 0 < (t174.length : Int) := of_decide_eq_true (by first | (with_reducible assumption) | assumption)
                                    obtain ⟨ad188, A188_0, c188_0, e188, hx188_0, hl188_0, hi188_0⟩ := at_L1 (Kd.S_reads' HO_13.out).2.2 0 p188 q188
                                    cases e188
                                    obtain ⟨ce188, hce188, hMe188, hcc188⟩ := Kd.S_get HO_13.out [] 0 p188 (by first | exact q188 | exact of_decide_eq_true (by first | (with_reducible assumption) | assumption) | (have e_ := (Kd.S_reads' HO_13.out).1; omega))
                                    obtain ⟨ve188_0, rfl, ge188_0⟩ := hMe188
                                    have hv188_0 := hcc188 0 _ rfl
                                    rw [Nat.add_zero, show ((Kd.slice 3 (Kd.int .i64))).sz = 1 from rfl, Nat.mul_one] at hv188_0
                                    replace hv188_0 := Option.some.inj (hv188_0.symm.trans hx188_0)
                                    rw [hv188_0] at ge188_0
                                    have HL188_0 := Aside0.mk (show Kd.R (Kd.int .i64) 3 _ _ _ _ (rd_L1 t174 0) from ge188_0)
                                    clear hv188_0 ge188_0
                                    clear hcc188 hce188
                                    have qi188 : (0 < t174.length) = True := eq_true (by omega)
                                    (try rw [show ((0 : Int)).toNat = 0 from rfl] at hx188_0)
                                    (try rw [Addr.add_zero'] at hx188_0)
                                    have HR188_0 := Aside0.mk hi188_0
                                    have HC188_0 := Aside0.mk hl188_0
                                    clear hi188_0 hl188_0
                                    replace p188 := eq_true p188
                                    replace q188 := eq_true q188
                                    have p189 : 0 ≤ (x23_1 : Int) := of_decide_eq_true (by first | (with_reducible assumption) | assumption)
                                    have q189 : x23_1 < ((rd_L1 t174 0).length : Int) := of_decide_eq_true (by first | (with_reducible assumption) | assumption)
                                    obtain ⟨ad189, e189, hx189_0⟩ := Kd.at_int (by repeat (first | (with_reducible exact HR188_0.out) | (with_reducible refine Kd.C_alloc ?_ _) | (with_reducible refine Kd.C_drewN ?_ _) | (with_reducible refine Kd.C_drew ?_) | exact HR188_0.out)) x23_1 p189 q189
                                    cases e189
                                    replace p189 := eq_true p189
                                    replace q189 := eq_true q189
                                    obtain ⟨Ao40, co40, eo40⟩ := Kd.S_slice HO_14.out
                                    subst eo40
                                    have p190 : 0 ≤ (0 : Int) := (by omega)
                                    have q190 : 0 < (t175.length : Int) := of_decide_eq_true (by first | (with_reducible assumption) | assumption)
                                    obtain ⟨ad190, A190_0, c190_0, e190, hx190_0, hl190_0, hi190_0⟩ := at_L1 (Kd.S_reads' HO_14.out).2.2 0 p190 q190
                                    cases e190
                                    obtain ⟨ce190, hce190, hMe190, hcc190⟩ := Kd.S_get HO_14.out [] 0 p190 (by first | exact q190 | exact of_decide_eq_true (by first | (with_reducible assumption) | assumption) | (have e_ := (Kd.S_reads' HO_14.out).1; omega))
                                    obtain ⟨ve190_0, rfl, ge190_0⟩ := hMe190
                                    have hv190_0 := hcc190 0 _ rfl
                                    rw [Nat.add_zero, show ((Kd.slice 3 (Kd.int .i64))).sz = 1 from rfl, Nat.mul_one] at hv190_0
                                    replace hv190_0 := Option.some.inj (hv190_0.symm.trans hx190_0)
                                    rw [hv190_0] at ge190_0
                                    have HL190_0 := Aside0.mk (show Kd.R (Kd.int .i64) 3 _ _ _ _ (rd_L1 t175 0) from ge190_0)
                                    clear hv190_0 ge190_0
                                    clear hcc190 hce190
                                    have qi190 : (0 < t175.length) = True := eq_true (by omega)
                                    (try rw [show ((0 : Int)).toNat = 0 from rfl] at hx190_0)
                                    (try rw [Addr.add_zero'] at hx190_0)
                                    have HR190_0 := Aside0.mk hi190_0
                                    have HC190_0 := Aside0.mk hl190_0
                                    clear hi190_0 hl190_0
                                    replace p190 := eq_true p190
                                    replace q190 := eq_true q190
                                    have p191 : 0 ≤ (x23_1 : Int) := of_decide_eq_true (by first | (with_reducible assumption) | assumption)
                                    have q191 : x23_1 < ((rd_L1 t175 0).length : Int) := of_decide_eq_true (by first | (with_reducible assumption) | assumption)
                                    obtain ⟨ad191, e191, hx191_0⟩ := Kd.at_int (by repeat (first | (with_reducible exact HR190_0.out) | (with_reducible refine Kd.C_alloc ?_ _) | (with_reducible refine Kd.C_drewN ?_ _) | (with_reducible refine Kd.C_drew ?_) | exact HR190_0.out)) x23_1 p191 q191
                                    cases e191
                                    replace p191 := eq_true p191
                                    replace q191 := eq_true q191
                                    go_wp2_with (first | ((with_reducible refine gate_dst (N := 91) rfl ?_); refine Kd.R_lit (Kd.int .i64) _ 3 ?hg (N := 91) ?hd (xs := ([x23_1] : List Int)) (inner := [.int .i64 x23_1]) (ok := fun _ => True) (okp := fun _ => True) ?hr ?hp (fun _ hk => hk) trivial (Below.refl _ _) (Nat.le_refl _) (by simp) ?_; (case hd => rfl); (case hg => rfl); (case hr => first | (go_simp; done) | (go_simp; rfl)); (case hp => exact (Reps.one (show Kd.M (Kd.int .i64) _ _ _ x23_1 [.int .i64 x23_1] from rfl) (Reps.none _ _))); intro v193 w41 ho42 hb hg_ hnew_; clear hg_ hnew_; (first | rw [← Ny192.out] at ho42 | (simp only [Int.reduceToNat] at ho42; rw [← Ny192.out] at ho42)); have n0_ := Aside0.mk (Kd.R_elder' (by (with_reducible repeat (first | apply Kd.R_alloc | apply Kd.R_drewN | apply Kd.R_drew)); exact HO_10.out) (Kd.R_base ho42) hb); have n1_ := Aside0.mk (Kd.S_elder' (by (with_reducible repeat (first | apply Kd.S_alloc | apply Kd.S_drewN | apply Kd.S_drew)); exact HO_13.out) (Kd.R_base ho42) hb); have n2_ := Aside0.mk (Kd.S_elder' (by (with_reducible repeat (first | apply Kd.S_alloc | apply Kd.S_drewN | apply Kd.S_drew)); exact HO_14.out) (Kd.R_base ho42) hb); have n3_ := Aside0.mk (Kd.R_elder' (by (with_reducible repeat (first | apply Kd.R_alloc | apply Kd.R_drewN | apply Kd.R_drew)); exact HL188_0.out) (Kd.R_base ho42) hb); have n4_ := Aside0.mk (Kd.R_elder' (by (with_reducible repeat (first | apply Kd.R_alloc | apply Kd.R_drewN | apply Kd.R_drew)); exact HL190_0.out) (Kd.R_base ho42) hb); have n5_ := Aside0.mk (Kd.R_lower (Kd.R_new' (Kd.R_new' (Kd.R_new' ho42 (Kd.R_lt (by (with_reducible repeat (first | apply Kd.R_alloc | apply Kd.R_drewN | apply Kd.R_drew)); exact HO_10.out))) (Kd.R_lt (by (with_reducible repeat (first | apply Kd.R_alloc | apply Kd.R_drewN | apply Kd.R_drew)); exact HL188_0.out))) (Kd.R_lt (by (with_reducible repeat (first | apply Kd.R_alloc | apply Kd.R_drewN | apply Kd.R_drew)); exact HL190_0.out))) (below_size (by repeat (first | (with_reducible first | exact HB.out | apply below_alloc | apply pw_below_drewN | apply below_drew1) | exact HB.out)))); have n6_ := Aside0.mk (Kd.C_below (by repeat (first | (with_reducible exact HR188_0.out) | (with_reducible refine Kd.C_alloc ?_ _) | (with_reducible refine Kd.C_drewN ?_ _) | (with_reducible refine Kd.C_drew ?_) | exact HR188_0.out)) hb); have n7_ := Aside0.mk (Kd.C_below (by repeat (first | (with_reducible exact HR190_0.out) | (with_reducible refine Kd.C_alloc ?_ _) | (with_reducible refine Kd.C_drewN ?_ _) | (with_reducible refine Kd.C_drew ?_) | exact HR190_0.out)) hb); have n8_ := Aside0.mk (below_step (by repeat (first | (with_reducible first | exact HB.out | apply below_alloc | apply pw_below_drewN | apply below_drew1) | exact HB.out)) hb); clear HO_10; clear HO_13; clear HO_14; clear HL188_0; clear HL190_0; clear HR188_0; clear HR190_0; clear HB; have HO_10 := n0_; have HO_13 := n1_; have HO_14 := n2_; have HL188_0 := n3_; have HL190_0 := n4_; have HO194 := n5_; have HR188_0 := n6_; have HR190_0 := n7_; have HB := n8_; clear n0_ n1_ n2_ n3_ n4_ n5_ n6_ n7_ n8_; clear hb ho42))
                                    repeat (go_quiet (first | ((with_reducible refine gate_dst (N := 91) rfl ?_); refine Kd.R_lit (Kd.int .i64) _ 3 ?hg (N := 91) ?hd (xs := ([x23_1] : List Int)) (inner := [.int .i64 x23_1]) (ok := fun _ => True) (okp := fun _ => True) ?hr ?hp (fun _ hk => hk) trivial (Below.refl _ _) (Nat.le_refl _) (by simp) ?_; (case hd => rfl); (case hg => rfl); (case hr => first | (go_simp; done) | (go_simp; rfl)); (case hp => exact (Reps.one (show Kd.M (Kd.int .i64) _ _ _ x23_1 [.int .i64 x23_1] from rfl) (Reps.none _ _))); intro v193 w41 ho42 hb hg_ hnew_; clear hg_ hnew_; (first | rw [← Ny192.out] at ho42 | (simp only [Int.reduceToNat] at ho42; rw [← Ny192.out] at ho42)); have n0_ := Aside0.mk (Kd.R_elder' (by (with_reducible repeat (first | apply Kd.R_alloc | apply Kd.R_drewN | apply Kd.R_drew)); exact HO_10.out) (Kd.R_base ho42) hb); have n1_ := Aside0.mk (Kd.S_elder' (by (with_reducible repeat (first | apply Kd.S_alloc | apply Kd.S_drewN | apply Kd.S_drew)); exact HO_13.out) (Kd.R_base ho42) hb); have n2_ := Aside0.mk (Kd.S_elder' (by (with_reducible repeat (first | apply Kd.S_alloc | apply Kd.S_drewN | apply Kd.S_drew)); exact HO_14.out) (Kd.R_base ho42) hb); have n3_ := Aside0.mk (Kd.R_elder' (by (with_reducible repeat (first | apply Kd.R_alloc | apply Kd.R_drewN | apply Kd.R_drew)); exact HL188_0.out) (Kd.R_base ho42) hb); have n4_ := Aside0.mk (Kd.R_elder' (by (with_reducible repeat (first | apply Kd.R_alloc | apply Kd.R_drewN | apply Kd.R_drew)); exact HL190_0.out) (Kd.R_base ho42) hb); have n5_ := Aside0.mk (Kd.R_lower (Kd.R_new' (Kd.R_new' (Kd.R_new' ho42 (Kd.R_lt (by (with_reducible repeat (first | apply Kd.R_alloc | apply Kd.R_drewN | apply Kd.R_drew)); exact HO_10.out))) (Kd.R_lt (by (with_reducible repeat (first | apply Kd.R_alloc | apply Kd.R_drewN | apply Kd.R_drew)); exact HL188_0.out))) (Kd.R_lt (by (with_reducible repeat (first | apply Kd.R_alloc | apply Kd.R_drewN | apply Kd.R_drew)); exact HL190_0.out))) (below_size (by repeat (first | (with_reducible first | exact HB.out | apply below_alloc | apply pw_below_drewN | apply below_drew1) | exact HB.out)))); have n6_ := Aside0.mk (Kd.C_below (by repeat (first | (with_reducible exact HR188_0.out) | (with_reducible refine Kd.C_alloc ?_ _) | (with_reducible refine Kd.C_drewN ?_ _) | (with_reducible refine Kd.C_drew ?_) | exact HR188_0.out)) hb); have n7_ := Aside0.mk (Kd.C_below (by repeat (first | (with_reducible exact HR190_0.out) | (with_reducible refine Kd.C_alloc ?_ _) | (with_reducible refine Kd.C_drewN ?_ _) | (with_reducible refine Kd.C_drew ?_) | exact HR190_0.out)) hb); have n8_ := Aside0.mk (below_step (by repeat (first | (with_reducible first | exact HB.out | apply below_alloc | apply pw_below_drewN | apply below_drew1) | exact HB.out)) hb); clear HO_10; clear HO_13; clear HO_14; clear HL188_0; clear HL190_0; clear HR188_0; clear HR190_0; clear HB; have HO_10 := n0_; have HO_13 := n1_; have HO_14 := n2_; have HL188_0 := n3_; have HL190_0 := n4_; have HO194 := n5_; have HR188_0 := n6_; have HR190_0 := n7_; have HB := n8_; clear n0_ n1_ n2_ n3_ n4_ n5_ n6_ n7_ n8_; clear hb ho42)); try go_wp2_with (first | ((with_reducible refine gate_dst (N := 91) rfl ?_); refine Kd.R_lit (Kd.int .i64) _ 3 ?hg (N := 91) ?hd (xs := ([x23_1] : List Int)) (inner := [.int .i64 x23_1]) (ok := fun _ => True) (okp := fun _ => True) ?hr ?hp (fun _ hk => hk) trivial (Below.refl _ _) (Nat.le_refl _) (by simp) ?_; (case hd => rfl); (case hg => rfl); (case hr => first | (go_simp; done) | (go_simp; rfl)); (case hp => exact (Reps.one (show Kd.M (Kd.int .i64) _ _ _ x23_1 [.int .i64 x23_1] from rfl) (Reps.none _ _))); intro v193 w41 ho42 hb hg_ hnew_; clear hg_ hnew_; (first | rw [← Ny192.out] at ho42 | (simp only [Int.reduceToNat] at ho42; rw [← Ny192.out] at ho42)); have n0_ := Aside0.mk (Kd.R_elder' (by (with_reducible repeat (first | apply Kd.R_alloc | apply Kd.R_drewN | apply Kd.R_drew)); exact HO_10.out) (Kd.R_base ho42) hb); have n1_ := Aside0.mk (Kd.S_elder' (by (with_reducible repeat (first | apply Kd.S_alloc | apply Kd.S_drewN | apply Kd.S_drew)); exact HO_13.out) (Kd.R_base ho42) hb); have n2_ := Aside0.mk (Kd.S_elder' (by (with_reducible repeat (first | apply Kd.S_alloc | apply Kd.S_drewN | apply Kd.S_drew)); exact HO_14.out) (Kd.R_base ho42) hb); have n3_ := Aside0.mk (Kd.R_elder' (by (with_reducible repeat (first | apply Kd.R_alloc | apply Kd.R_drewN | apply Kd.R_drew)); exact HL188_0.out) (Kd.R_base ho42) hb); have n4_ := Aside0.mk (Kd.R_elder' (by (with_reducible repeat (first | apply Kd.R_alloc | apply Kd.R_drewN | apply Kd.R_drew)); exact HL190_0.out) (Kd.R_base ho42) hb); have n5_ := Aside0.mk (Kd.R_lower (Kd.R_new' (Kd.R_new' (Kd.R_new' ho42 (Kd.R_lt (by (with_reducible repeat (first | apply Kd.R_alloc | apply Kd.R_drewN | apply Kd.R_drew)); exact HO_10.out))) (Kd.R_lt (by (with_reducible repeat (first | apply Kd.R_alloc | apply Kd.R_drewN | apply Kd.R_drew)); exact HL188_0.out))) (Kd.R_lt (by (with_reducible repeat (first | apply Kd.R_alloc | apply Kd.R_drewN | apply Kd.R_drew)); exact HL190_0.out))) (below_size (by repeat (first | (with_reducible first | exact HB.out | apply below_alloc | apply pw_below_drewN | apply below_drew1) | exact HB.out)))); have n6_ := Aside0.mk (Kd.C_below (by repeat (first | (with_reducible exact HR188_0.out) | (with_reducible refine Kd.C_alloc ?_ _) | (with_reducible refine Kd.C_drewN ?_ _) | (with_reducible refine Kd.C_drew ?_) | exact HR188_0.out)) hb); have n7_ := Aside0.mk (Kd.C_below (by repeat (first | (with_reducible exact HR190_0.out) | (with_reducible refine Kd.C_alloc ?_ _) | (with_reducible refine Kd.C_drewN ?_ _) | (with_reducible refine Kd.C_drew ?_) | exact HR190_0.out)) hb); have n8_ := Aside0.mk (below_step (by repeat (first | (with_reducible first | exact HB.out | apply below_alloc | apply pw_below_drewN | apply below_drew1) | exact HB.out)) hb); clear HO_10; clear HO_13; clear HO_14; clear HL188_0; clear HL190_0; clear HR188_0; clear HR190_0; clear HB; have HO_10 := n0_; have HO_13 := n1_; have HO_14 := n2_; have HL188_0 := n3_; have HL190_0 := n4_; have HO194 := n5_; have HR188_0 := n6_; have HR190_0 := n7_; have HB := n8_; clear n0_ n1_ n2_ n3_ n4_ n5_ n6_ n7_ n8_; clear hb ho42)))
                                    go_loopg [10, 15] kj22 (fun kq v10 v15 w' => ∃ (x10_5 : List Int) (x15_5 : Int), v15 = .int .i64 x15_5 ∧ Aside0 (impl_bestPaint.l1 kq l0 a1 (rd (rd_L1 t174 0) x23_1) (rd (rd_L1 t175 0) x23_1) x10_5 t174 t175 x15_5 ((rd_L1 l0 0).length : Int) x23_1 = some (r1, r2, r3, r4)) ∧ Aside0 (kq ≤ kj22) ∧ Aside0 (Kd.R (Kd.int .i64) 3 w' w.heap.size (fun _ => True) v10 x10_5) ∧ Aside0 (Kd.S (Kd.slice 3 (Kd.int .i64)) 24 w' w.heap.size (fun k_ => some k_ ≠ (v10 : Value).ownBlock ∧ some k_ ≠ ((.slice (some ad190) t175.length co40) : Value).ownBlock) (.slice (some ad188) t174.length co39) t174) ∧ Aside0 (Kd.S (Kd.slice 3 (Kd.int .i64)) 24 w' w.heap.size (fun k_ => some k_ ≠ (v10 : Value).ownBlock ∧ some k_ ≠ ((.slice (some ad188) t174.length co39) : Value).ownBlock) (.slice (some ad190) t175.length co40) t175) ∧ Aside0 (Below w.heap.size w w'))
                                    case atStart => exact ⟨(y192), (1), (by first | rfl | (simp; done) | (simp [*]; done)), H', ⟨Nat.le_refl _⟩, ⟨by (with_reducible repeat (first | apply Kd.R_alloc | apply Kd.R_drewN | apply Kd.R_drew)); exact Kd.R_mono HO194.out (fun _ hk => trivial)⟩, ⟨by (with_reducible repeat (first | apply Kd.S_alloc | apply Kd.S_drewN | apply Kd.S_drew)); exact Kd.S_mono HO_13.out (fun _ hk => ⟨hk.2, hk.1.2⟩)⟩, ⟨by (with_reducible repeat (first | apply Kd.S_alloc | apply Kd.S_drewN | apply Kd.S_drew)); exact Kd.S_mono HO_14.out (fun _ hk => ⟨hk.2, hk.1.2⟩)⟩, ⟨by repeat (first | (with_reducible first | exact HB.out | apply below_alloc | apply pw_below_drewN | apply below_drew1) | exact HB.out)⟩⟩
                                    case round =>
                                      clear H'
                                      try clear c1
                                      try clear p1
                                      try clear q1
                                      try clear hx1
                                      try clear qi1
                                      try clear c2
                                      try clear p2
                                      try clear c3
                                      try clear c3b0
                                      try clear c3b1
                                      try clear c4
                                      try clear c4b0
                                      try clear p6
                                      try clear c7
                                      try clear c11
                                      try clear c11b0
                                      try clear c11b1
                                      try clear c12
                                      try clear c12b0
                                      try clear c13
                                      try clear c13b0
                                      try clear c14
                                      try clear c14b0
                                      try clear c14b1
                                      try clear c16
                                      try clear c16b0
                                      try clear c17
                                      try clear c17b0
                                      try clear c17b1
                                      try clear p17
                                      try clear q17
                                      try clear hx17
                                      try clear qi17
                                      try clear c18
                                      try clear c18b0
                                      try clear p18
                                      try clear q18
                                      try clear hx18
                                      try clear qi18
                                      try clear c19
                                      try clear p19
                                      try clear q19
                                      try clear hx19
                                      try clear qi19
                                      try clear c22
                                      try clear c24
                                      try clear c24b0
                                      try clear c25
                                      try clear c25b0
                                      try clear c25b1
                                      try clear c26
                                      try clear c26b0
                                      try clear c27
                                      try clear c27b0
                                      try clear c29
                                      try clear c30
                                      try clear c30b0
                                      try clear c30b1
                                      try clear c31
                                      try clear c31b0
                                      try clear c32
                                      try clear c32b0
                                      try clear c34
                                      try clear c34b0
                                      try clear c34b1
                                      try clear c35
                                      try clear c35b0
                                      try clear c36
                                      try clear c36b0
                                      try clear c37
                                      try clear c37b0
                                      try clear c37b1
                                      try clear c38
                                      try clear c38b0
                                      try clear hx172_0
                                      try clear hx180_0
                                      try clear hx181_0
                                      try clear hx182_0
                                      try clear hx183_0
                                      try clear hx184_0
                                      try clear hx185_0
                                      try clear hx186_0
                                      try clear hx187_0
                                      try clear hx188_0
                                      try clear hx189_0
                                      try clear hx190_0
                                      try clear hx191_0
                                      try clear p1
                                      try clear p17
                                      try clear p172
                                      try clear p18
                                      try clear p180
                                      try clear p181
                                      try clear p182
                                      try clear p183
                                      try clear p184
                                      try clear p185
                                      try clear p186
                                      try clear p187
                                      try clear p188
                                      try clear p189
                                      try clear p190
                                      try clear p191
                                      try clear p2
                                      try clear p6
                                      try clear q1
                                      try clear q17
                                      try clear q172
                                      try clear q18
                                      try clear q180
                                      try clear q181
                                      try clear q182
                                      try clear q183
                                      try clear q184
                                      try clear q185
                                      try clear q186
                                      try clear q187
                                      try clear q188
                                      try clear q189
                                      try clear q190
                                      try clear q191
                                      obtain ⟨x10_5, x15_5, rfl, HA, HK5, HO_10, HO_13, HO_14, HB⟩ := hrel
                                      cases gk with
                                      | zero => exact absurd HA.out (by simp [impl_bestPaint.l1])
                                      | succ k5 =>
                                        have H := HA.out
                                        clear HA
                                        simp only [impl_bestPaint.l1] at H
                                        by_cases c43 : x15_5 < (l0.length : Int)
                                        · rw [if_pos c43] at H
                                          have c43b0 : decide (x15_5 < (l0.length : Int)) = true := decide_eq_true c43
                                          clear c43
                                          obtain ⟨ji44, hji44⟩ : ∃ j_ : Int, (wrap64 (x15_5 - 1)) = j_ := ⟨_, rfl⟩
                                          replace H : (if 0 ≤ (ji44) then (if (ji44) < (x10_5.length : Int) then (if (ji44) < (t174.length : Int) then (if 0 ≤ (rd x10_5 (ji44)) then (if (rd x10_5 (ji44)) < ((rd_L1 t174 (ji44)).length : Int) then (if (ji44) < (l0.length : Int) then (if (rd x10_5 (ji44)) < ((rd_L1 l0 (ji44)).length : Int) then (if 0 ≤ x15_5 then (impl_bestPaint.l2 k5 l0 a1 (rd (rd_L1 t174 0) x23_1) (rd (rd_L1 t175 0) x23_1) x10_5 t174 t175 x15_5 (rd x10_5 (ji44)) (wrap64 ((rd (rd_L1 t174 (ji44)) (rd x10_5 (ji44))) - (rd (rd_L1 l0 (ji44)) (rd x10_5 (ji44))))) ((rd_L1 l0 0).length : Int) x23_1 ((rd_L1 l0 x15_5).length : Int) 0) else (none)) else (none)) else (none)) else (none)) else (none)) else (none)) else (none)) else (none)) = some (r1, r2, r3, r4) := by first | (rw [hji44] at H; exact H) | (simp only [hji44] at H ⊢; exact H)
                                          have hji44w : (IntKind.i64.wrap (x15_5 - 1)) = ji44 := (i64_w _).trans hji44
                                          by_cases c45 : 0 ≤ (ji44)
                                          · rw [if_pos c45] at H
                                            have c45b0 : decide (0 ≤ (ji44)) = true := decide_eq_true c45
                                            clear c45
                                            by_cases c46 : (ji44) < (x10_5.length : Int)
                                            · rw [if_pos c46] at H
                                              have c46b0 : decide ((ji44) < (x10_5.length : Int)) = true := decide_eq_true c46
                                              clear c46
                                              by_cases c47 : (ji44) < (t174.length : Int)
                                              · rw [if_pos c47] at H
                                                have c47b0 : decide ((ji44) < (t174.length : Int)) = true := decide_eq_true c47
                                                clear c47
                                                by_cases c48 : 0 ≤ (rd x10_5 (ji44))
                                                · rw [if_pos c48] at H
                                                  have c48b0 : decide (0 ≤ (rd x10_5 (ji44))) = true := decide_eq_true c48
                                                  clear c48
                                                  by_cases c49 : (rd x10_5 (ji44)) < ((rd_L1 t174 (ji44)).length : Int)
                                                  · rw [if_pos c49] at H
                                                    have c49b0 : decide ((rd x10_5 (ji44)) < ((rd_L1 t174 (ji44)).length : Int)) = true := decide_eq_true c49
                                                    clear c49
                                                    by_cases c50 : (ji44) < (l0.length : Int)
                                                    · rw [if_pos c50] at H
                                                      have c50b0 : decide ((ji44) < (l0.length : Int)) = true := decide_eq_true c50
                                                      clear c50
                                                      by_cases c51 : (rd x10_5 (ji44)) < ((rd_L1 l0 (ji44)).length : Int)
                                                      · rw [if_pos c51] at H
                                                        have c51b0 : decide ((rd x10_5 (ji44)) < ((rd_L1 l0 (ji44)).length : Int)) = true := decide_eq_true c51
                                                        clear c51
                                                        by_cases c52 : 0 ≤ x15_5
                                                        · rw [if_pos c52] at H
                                                          have c52b0 : decide (0 ≤ x15_5) = true := decide_eq_true c52
                                                          clear c52
                                                          have H' := Aside0.mk H
                                                          clear H
                                                          obtain ⟨Ao53, co53, eo53⟩ := Kd.R_slice HO_10.out
                                                          subst eo53
                                                          have p195 : 0 ≤ ((ji44) : Int) := of_decide_eq_true (by first | (with_reducible assumption) | assumption)
                                                          have q195 : (ji44) < (x10_5.length : Int) := of_decide_eq_true (by first | (with_reducible assumption) | assumption)
                                                          obtain ⟨ad195, e195, hx195_0⟩ := Kd.at_int (Kd.R_reads' HO_10.out).2.2 (ji44) p195 q195
                                                          cases e195
                                                          replace p195 := eq_true p195
                                                          replace q195 := eq_true q195
                                                          have p196 : 0 ≤ ((ji44) : Int) := of_decide_eq_true (by first | (with_reducible assumption) | assumption)
                                                          have q196 : (ji44) < (t174.length : Int) := of_decide_eq_true (by first | (with_reducible assumption) | assumption)
                                                          obtain ⟨ad196, A196_0, c196_0, e196, hx196_0, hl196_0, hi196_0⟩ := at_L1 (Kd.S_reads' HO_13.out).2.2 (ji44) p196 q196
                                                          obtain rfl : ad188 = ad196 := (by injection e196)
                                                          obtain ⟨ce196, hce196, hMe196, hcc196⟩ := Kd.S_get HO_13.out [] (ji44) p196 (by first | exact q196 | exact of_decide_eq_true (by first | (with_reducible assumption) | assumption) | (have e_ := (Kd.S_reads' HO_13.out).1; omega))
                                                          obtain ⟨ve196_0, rfl, ge196_0⟩ := hMe196
                                                          have hv196_0 := hcc196 0 _ rfl
                                                          rw [Nat.add_zero, show ((Kd.slice 3 (Kd.int .i64))).sz = 1 from rfl, Nat.mul_one] at hv196_0
                                                          replace hv196_0 := Option.some.inj (hv196_0.symm.trans hx196_0)
                                                          rw [hv196_0] at ge196_0
                                                          have HL196_0 := Aside0.mk (show Kd.R (Kd.int .i64) 3 _ _ _ _ (rd_L1 t174 (ji44)) from ge196_0)
                                                          clear hv196_0 ge196_0
                                                          clear hcc196 hce196
                                                          have HR196_0 := Aside0.mk hi196_0
                                                          have HC196_0 := Aside0.mk hl196_0
                                                          clear hi196_0 hl196_0
                                                          replace p196 := eq_true p196
                                                          replace q196 := eq_true q196
                                                          have p197 : 0 ≤ ((rd x10_5 (ji44)) : Int) := of_decide_eq_true (by first | (with_reducible assumption) | assumption)
                                                          have q197 : (rd x10_5 (ji44)) < ((rd_L1 t174 (ji44)).length : Int) := of_decide_eq_true (by first | (with_reducible assumption) | assumption)
                                                          obtain ⟨ad197, e197, hx197_0⟩ := Kd.at_int (by repeat (first | (with_reducible exact HR196_0.out) | (with_reducible refine Kd.C_alloc ?_ _) | (with_reducible refine Kd.C_drewN ?_ _) | (with_reducible refine Kd.C_drew ?_) | exact HR196_0.out)) (rd x10_5 (ji44)) p197 q197
                                                          cases e197
                                                          replace p197 := eq_true p197
                                                          replace q197 := eq_true q197
                                                          have p198 : 0 ≤ ((ji44) : Int) := of_decide_eq_true (by first | (with_reducible assumption) | assumption)
                                                          have q198 : (ji44) < (l0.length : Int) := of_decide_eq_true (by first | (with_reducible assumption) | assumption)
                                                          obtain ⟨ad198, A198_0, c198_0, e198, hx198_0, hl198_0, hi198_0⟩ := at_L1 HR0.out (ji44) p198 q198
                                                          obtain rfl : ad172 = ad198 := (by injection e198)
                                                          replace hx198_0 := (HB.out.cell (World.block_lt_of_cell? w _ hx198_0)).trans hx198_0
                                                          have HR198_0 := Aside0.mk hi198_0
                                                          have HC198_0 := Aside0.mk hl198_0
                                                          clear hi198_0 hl198_0
                                                          replace p198 := eq_true p198
                                                          replace q198 := eq_true q198
                                                          have p199 : 0 ≤ ((rd x10_5 (ji44)) : Int) := of_decide_eq_true (by first | (with_reducible assumption) | assumption)
                                                          have q199 : (rd x10_5 (ji44)) < ((rd_L1 l0 (ji44)).length : Int) := of_decide_eq_true (by first | (with_reducible assumption) | assumption)
                                                          obtain ⟨ad199, e199, hx199_0⟩ := Kd.at_int HR198_0.out (rd x10_5 (ji44)) p199 q199
                                                          cases e199
                                                          replace hx199_0 := (HB.out.cell (World.block_lt_of_cell? w _ hx199_0)).trans hx199_0
                                                          replace p199 := eq_true p199
                                                          replace q199 := eq_true q199
                                                          have p200 : 0 ≤ (x15_5 : Int) := of_decide_eq_true (by first | (with_reducible assumption) | assumption)
                                                          have q200 : x15_5 < (l0.length : Int) := of_decide_eq_true (by first | (with_reducible assumption) | assumption)
                                                          obtain ⟨ad200, A200_0, c200_0, e200, hx200_0, hl200_0, hi200_0⟩ := at_L1 HR0.out x15_5 p200 q200
                                                          obtain rfl : ad172 = ad200 := (by injection e200)
                                                          replace hx200_0 := (HB.out.cell (World.block_lt_of_cell? w _ hx200_0)).trans hx200_0
                                                          have HR200_0 := Aside0.mk hi200_0
                                                          have HC200_0 := Aside0.mk hl200_0
                                                          clear hi200_0 hl200_0
                                                          replace p200 := eq_true p200
                                                          replace q200 := eq_true q200
                                                          go_wp2
                                                          repeat (go_quiet (fail); try go_wp2)
                                                          go_loopg [10, 125] k5 (fun kq v10 v125 w' => ∃ (x10_6 : List Int) (x125_6 : Int), v125 = .int .i64 x125_6 ∧ Aside0 (impl_bestPaint.l2 kq l0 a1 (rd (rd_L1 t174 0) x23_1) (rd (rd_L1 t175 0) x23_1) x10_6 t174 t175 x15_5 (rd x10_5 (ji44)) (wrap64 ((rd (rd_L1 t174 (ji44)) (rd x10_5 (ji44))) - (rd (rd_L1 l0 (ji44)) (rd x10_5 (ji44))))) ((rd_L1 l0 0).length : Int) x23_1 ((rd_L1 l0 x15_5).length : Int) x125_6 = some (r1, r2, r3, r4)) ∧ Aside0 (kq ≤ k5) ∧ Aside0 (Kd.R (Kd.int .i64) 3 w' w.heap.size (fun _ => True) v10 x10_6) ∧ Aside0 (Kd.S (Kd.slice 3 (Kd.int .i64)) 24 w' w.heap.size (fun k_ => some k_ ≠ (v10 : Value).ownBlock ∧ some k_ ≠ ((.slice (some ad190) t175.length co40) : Value).ownBlock) (.slice (some ad188) t174.length co39) t174) ∧ Aside0 (Kd.S (Kd.slice 3 (Kd.int .i64)) 24 w' w.heap.size (fun k_ => some k_ ≠ (v10 : Value).ownBlock ∧ some k_ ≠ ((.slice (some ad188) t174.length co39) : Value).ownBlock) (.slice (some ad190) t175.length co40) t175) ∧ Aside0 (Kd.C (Kd.int .i64) w' (some ad197) (rd_L1 t174 (ji44)).length (rd_L1 t174 (ji44))) ∧ Aside0 (Below w.heap.size w w'))
                                                          case atStart => exact ⟨(x10_5), (0), (by first | rfl | (simp; done) | (simp [*]; done)), H', ⟨Nat.le_refl _⟩, ⟨by (with_reducible repeat (first | apply Kd.R_alloc | apply Kd.R_drewN | apply Kd.R_drew)); exact HO_10.out⟩, ⟨by (with_reducible repeat (first | apply Kd.S_alloc | apply Kd.S_drewN | apply Kd.S_drew)); exact HO_13.out⟩, ⟨by (with_reducible repeat (first | apply Kd.S_alloc | apply Kd.S_drewN | apply Kd.S_drew)); exact HO_14.out⟩, ⟨by repeat (first | (with_reducible exact HR196_0.out) | (with_reducible refine Kd.C_alloc ?_ _) | (with_reducible refine Kd.C_drewN ?_ _) | (with_reducible refine Kd.C_drew ?_) | exact HR196_0.out)⟩, ⟨by repeat (first | (with_reducible first | exact HB.out | apply below_alloc | apply pw_below_drewN | apply below_drew1) | exact HB.out)⟩⟩
                                                          case round =>
                                                            clear H'
                                                            try clear c1
                                                            try clear p1
                                                            try clear q1
                                                            try clear hx1
                                                            try clear qi1
                                                            try clear c2
                                                            try clear p2
                                                            try clear q2
                                                            try clear hx2
                                                            try clear c3
                                                            try clear c3b0
                                                            try clear c3b1
                                                            try clear c4
                                                            try clear c4b0
                                                            try clear c5
                                                            try clear p6
                                                            try clear c7
                                                            try clear c11
                                                            try clear c11b0
                                                            try clear c11b1
                                                            try clear c12
                                                            try clear c12b0
                                                            try clear c13
                                                            try clear c13b0
                                                            try clear c14
                                                            try clear c14b0
                                                            try clear c14b1
                                                            try clear c16
                                                            try clear c16b0
                                                            try clear c17
                                                            try clear c17b0
                                                            try clear c17b1
                                                            try clear p17
                                                            try clear q17
                                                            try clear hx17
                                                            try clear qi17
                                                            try clear c18
                                                            try clear c18b0
                                                            try clear p18
                                                            try clear q18
                                                            try clear hx18
                                                            try clear qi18
                                                            try clear c19
                                                            try clear p19
                                                            try clear q19
                                                            try clear hx19
                                                            try clear qi19
                                                            try clear c20
                                                            try clear p20
                                                            try clear q20
                                                            try clear hx20
                                                            try clear c22
                                                            try clear c24
                                                            try clear c24b0
                                                            try clear c25
                                                            try clear c25b0
                                                            try clear c25b1
                                                            try clear c26
                                                            try clear c26b0
                                                            try clear c27
                                                            try clear c27b0
                                                            try clear c29
                                                            try clear c30
                                                            try clear c30b0
                                                            try clear c30b1
                                                            try clear c31
                                                            try clear c31b0
                                                            try clear c32
                                                            try clear c32b0
                                                            try clear c34
                                                            try clear c34b0
                                                            try clear c34b1
                                                            try clear c35
                                                            try clear c35b0
                                                            try clear c36
                                                            try clear c36b0
                                                            try clear c37
                                                            try clear c37b0
                                                            try clear c37b1
                                                            try clear c38
                                                            try clear c38b0
                                                            try clear c43
                                                            try clear c43b0
                                                            try clear c45
                                                            try clear c45b0
                                                            try clear c46
                                                            try clear c46b0
                                                            try clear c47
                                                            try clear c47b0
                                                            try clear c48
                                                            try clear c48b0
                                                            try clear c49
                                                            try clear c49b0
                                                            try clear c50
                                                            try clear c50b0
                                                            try clear c51
                                                            try clear c51b0
                                                            try clear c52
                                                            try clear c52b0
                                                            try clear hx172_0
                                                            try clear hx180_0
                                                            try clear hx181_0
                                                            try clear hx182_0
                                                            try clear hx183_0
                                                            try clear hx184_0
                                                            try clear hx185_0
                                                            try clear hx186_0
                                                            try clear hx187_0
                                                            try clear hx188_0
                                                            try clear hx189_0
                                                            try clear hx190_0
                                                            try clear hx191_0
                                                            try clear hx195_0
                                                            try clear hx196_0
                                                            try clear hx197_0
                                                            try clear hx198_0
                                                            try clear hx199_0
                                                            try clear hx200_0
                                                            try clear p1
                                                            try clear p17
                                                            try clear p172
                                                            try clear p18
                                                            try clear p180
                                                            try clear p181
                                                            try clear p182
                                                            try clear p183
                                                            try clear p184
                                                            try clear p185
                                                            try clear p186
                                                            try clear p187
                                                            try clear p188
                                                            try clear p189
                                                            try clear p19
                                                            try clear p190
                                                            try clear p191
                                                            try clear p195
                                                            try clear p196
                                                            try clear p197
                                                            try clear p198
                                                            try clear p199
                                                            try clear p2
                                                            try clear p200
                                                            try clear p6
                                                            try clear q1
                                                            try clear q17
                                                            try clear q172
                                                            try clear q18
                                                            try clear q180
                                                            try clear q181
                                                            try clear q182
                                                            try clear q183
                                                            try clear q184
                                                            try clear q185
                                                            try clear q186
                                                            try clear q187
                                                            try clear q188
                                                            try clear q189
                                                            try clear q19
                                                            try clear q190
                                                            try clear q191
                                                            try clear q195
                                                            try clear q196
                                                            try clear q197
                                                            try clear q198
                                                            try clear q199
                                                            try clear q200
                                                            obtain ⟨x10_6, x125_6, rfl, HA, HK6, HO_10, HO_13, HO_14, HR196_0, HB⟩ := hrel
                                                            cases gk with
                                                            | zero => exact absurd HA.out (by simp [impl_bestPaint.l2])
                                                            | succ k6 =>
                                                              have H := HA.out
                                                              clear HA
                                                              simp only [impl_bestPaint.l2] at H
                                                              by_cases c54 : x125_6 < ((rd_L1 l0 x15_5).length : Int)
                                                              · rw [if_pos c54] at H
                                                                have c54b0 : decide (x125_6 < ((rd_L1 l0 x15_5).length : Int)) = true := decide_eq_true c54
                                                                clear c54
                                                                by_cases c55 : x125_6 = (rd x10_5 (ji44))
                                                                · rw [if_pos c55] at H
                                                                  have c55b0 : (x125_6 == (rd x10_5 (ji44))) = true := beq_iff_eq.mpr c55
                                                                  have c55b1 : (x125_6 != (rd x10_5 (ji44))) = false := bne_eq_false_iff_eq.mpr c55
                                                                  clear c55
                                                                  have H' := Aside0.mk H
                                                                  clear H
                                                                  go_wp2
                                                                  repeat (go_quiet (fail); try go_wp2)
                                                                  go_roundg k6
                                                                  case measure => have := HK1.out; have := HJ5.out; have := HJ8.out; have := HJ22.out; have := HK5.out; have := HK6.out; omega
                                                                  case rel => exact ⟨(x10_6), (wrap64 (x125_6 + 1)), (by first | rfl | (simp; done) | (simp [*]; done)), H', ⟨by have := HK1.out; have := HJ5.out; have := HJ8.out; have := HJ22.out; have := HK5.out; have := HK6.out; omega⟩, ⟨by (with_reducible repeat (first | apply Kd.R_alloc | apply Kd.R_drewN | apply Kd.R_drew)); exact HO_10.out⟩, ⟨by (with_reducible repeat (first | apply Kd.S_alloc | apply Kd.S_drewN | apply Kd.S_drew)); exact HO_13.out⟩, ⟨by (with_reducible repeat (first | apply Kd.S_alloc | apply Kd.S_drewN | apply Kd.S_drew)); exact HO_14.out⟩, ⟨by repeat (first | (with_reducible exact HR196_0.out) | (with_reducible refine Kd.C_alloc ?_ _) | (with_reducible refine Kd.C_drewN ?_ _) | (with_reducible refine Kd.C_drew ?_) | exact HR196_0.out)⟩, ⟨by repeat (first | (with_reducible first | exact HB.out | apply below_alloc | apply pw_below_drewN | apply below_drew1) | exact HB.out)⟩⟩
                                                                · rw [if_neg c55] at H
                                                                  have c55b0 : (x125_6 == (rd x10_5 (ji44))) = false := beq_eq_false_iff_ne.mpr c55
                                                                  have c55b1 : (x125_6 != (rd x10_5 (ji44))) = true := bne_iff_ne.mpr c55
                                                                  by_cases c56 : 0 ≤ x15_5
                                                                  · rw [if_pos c56] at H
                                                                    have c56b0 : decide (0 ≤ x15_5) = true := decide_eq_true c56
                                                                    clear c56
                                                                    by_cases c57 : x15_5 < (t175.length : Int)
                                                                    · rw [if_pos c57] at H
                                                                      have c57b0 : decide (x15_5 < (t175.length : Int)) = true := decide_eq_true c57
                                                                      clear c57
                                                                      by_cases c58 : 0 ≤ x125_6
                                                                      · rw [if_pos c58] at H
                                                                        have c58b0 : decide (0 ≤ x125_6) = true := decide_eq_true c58
                                                                        clear c58
                                                                        by_cases c59 : x125_6 < ((rd_L1 t175 x15_5).length : Int)
                                                                        · rw [if_pos c59] at H
                                                                          have c59b0 : decide (x125_6 < ((rd_L1 t175 x15_5).length : Int)) = true := decide_eq_true c59
                                                                          clear c59
                                                                          by_cases c60 : (rd (rd_L1 t175 x15_5) x125_6) > 0
                                                                          · rw [if_pos c60] at H
                                                                            have c60b0 : decide (0 < (rd (rd_L1 t175 x15_5) x125_6)) = true := decide_eq_true c60
                                                                            clear c60
                                                                            by_cases c61 : x15_5 < (t174.length : Int)
                                                                            · rw [if_pos c61] at H
                                                                              have c61b0 : decide (x15_5 < (t174.length : Int)) = true := decide_eq_true c61
                                                                              clear c61
                                                                              by_cases c62 : x125_6 < ((rd_L1 t174 x15_5).length : Int)
                                                                              · rw [if_pos c62] at H
                                                                                have c62b0 : decide (x125_6 < ((rd_L1 t174 x15_5).length : Int)) = true := decide_eq_true c62
                                                                                clear c62
                                                                                by_cases c63 : (rd (rd_L1 t174 x15_5) x125_6) = (wrap64 ((rd (rd_L1 t174 (ji44)) (rd x10_5 (ji44))) - (rd (rd_L1 l0 (ji44)) (rd x10_5 (ji44)))))
                                                                                · rw [if_pos c63] at H
                                                                                  have c63b0 : ((rd (rd_L1 t174 x15_5) x125_6) == (wrap64 ((rd (rd_L1 t174 (ji44)) (rd x10_5 (ji44))) - (rd (rd_L1 l0 (ji44)) (rd x10_5 (ji44)))))) = true := beq_iff_eq.mpr c63
                                                                                  have c63b1 : ((rd (rd_L1 t174 x15_5) x125_6) != (wrap64 ((rd (rd_L1 t174 (ji44)) (rd x10_5 (ji44))) - (rd (rd_L1 l0 (ji44)) (rd x10_5 (ji44)))))) = false := bne_eq_false_iff_eq.mpr c63
                                                                                  clear c63
                                                                                  by_cases c64 : x10_6.length < 17592186044416
                                                                                  · rw [if_pos c64] at H
                                                                                    have LMc64 := Aside0.mk c64
                                                                                    clear c64
                                                                                    obtain ⟨y205, hy205⟩ : ∃ y_ : List Int, y_ = (x10_6 ++ [x125_6]) := ⟨_, rfl⟩
                                                                                    replace H : (impl_bestPaint.l1 k6 l0 a1 (rd (rd_L1 t174 0) x23_1) (rd (rd_L1 t175 0) x23_1) y205 t174 t175 (wrap64 (x15_5 + 1)) ((rd_L1 l0 0).length : Int) x23_1) = some (r1, r2, r3, r4) := by first | (rw [hy205]; with_reducible exact H) | (have H2_ := (Option.bind_some _ _).symm.trans H; rw [hy205]; with_reducible exact H2_) | (have H2_ := (Option.bind_some _ _).symm.trans H; with_reducible exact H2_) | with_reducible exact H | (rw [hy205]; exact H) | exact H
                                                                                    have Ny205 := Aside0.mk hy205
                                                                                    clear hy205
                                                                                    have H' := Aside0.mk H
                                                                                    clear H
                                                                                    have p201 : 0 ≤ (x15_5 : Int) := of_decide_eq_true (by first | (with_reducible assumption) | assumption)
                                                                                    have q201 : x15_5 < (t175.length : Int) := of_decide_eq_true (by first | (with_reducible assumption) | assumption)
                                                                                    obtain ⟨ad201, A201_0, c201_0, e201, hx201_0, hl201_0, hi201_0⟩ := at_L1 (Kd.S_reads' HO_14.out).2.2 x15_5 p201 q201
                                                                                    obtain rfl : ad190 = ad201 := (by injection e201)
                                                                                    obtain ⟨ce201, hce201, hMe201, hcc201⟩ := Kd.S_get HO_14.out [] x15_5 p201 (by first | exact q201 | exact of_decide_eq_true (by first | (with_reducible assumption) | assumption) | (have e_ := (Kd.S_reads' HO_14.out).1; omega))
                                                                                    obtain ⟨ve201_0, rfl, ge201_0⟩ := hMe201
                                                                                    have hv201_0 := hcc201 0 _ rfl
                                                                                    rw [Nat.add_zero, show ((Kd.slice 3 (Kd.int .i64))).sz = 1 from rfl, Nat.mul_one] at hv201_0
                                                                                    replace hv201_0 := Option.some.inj (hv201_0.symm.trans hx201_0)
                                                                                    rw [hv201_0] at ge201_0
                                                                                    have HL201_0 := Aside0.mk (show Kd.R (Kd.int .i64) 3 _ _ _ _ (rd_L1 t175 x15_5) from ge201_0)
                                                                                    clear hv201_0 ge201_0
                                                                                    clear hcc201 hce201
                                                                                    have HR201_0 := Aside0.mk hi201_0
                                                                                    have HC201_0 := Aside0.mk hl201_0
                                                                                    clear hi201_0 hl201_0
                                                                                    replace p201 := eq_true p201
                                                                                    replace q201 := eq_true q201
                                                                                    have p202 : 0 ≤ (x125_6 : Int) := of_decide_eq_true (by first | (with_reducible assumption) | assumption)
                                                                                    have q202 : x125_6 < ((rd_L1 t175 x15_5).length : Int) := of_decide_eq_true (by first | (with_reducible assumption) | assumption)
                                                                                    obtain ⟨ad202, e202, hx202_0⟩ := Kd.at_int (by repeat (first | (with_reducible exact HR201_0.out) | (with_reducible refine Kd.C_alloc ?_ _) | (with_reducible refine Kd.C_drewN ?_ _) | (with_reducible refine Kd.C_drew ?_) | exact HR201_0.out)) x125_6 p202 q202
                                                                                    cases e202
                                                                                    replace p202 := eq_true p202
                                                                                    replace q202 := eq_true q202
                                                                                    have p203 : 0 ≤ (x15_5 : Int) := of_decide_eq_true (by first | (with_reducible assumption) | assumption)
                                                                                    have q203 : x15_5 < (t174.length : Int) := of_decide_eq_true (by first | (with_reducible assumption) | assumption)
                                                                                    obtain ⟨ad203, A203_0, c203_0, e203, hx203_0, hl203_0, hi203_0⟩ := at_L1 (Kd.S_reads' HO_13.out).2.2 x15_5 p203 q203
                                                                                    obtain rfl : ad188 = ad203 := (by injection e203)
                                                                                    obtain ⟨ce203, hce203, hMe203, hcc203⟩ := Kd.S_get HO_13.out [] x15_5 p203 (by first | exact q203 | exact of_decide_eq_true (by first | (with_reducible assumption) | assumption) | (have e_ := (Kd.S_reads' HO_13.out).1; omega))
                                                                                    obtain ⟨ve203_0, rfl, ge203_0⟩ := hMe203
                                                                                    have hv203_0 := hcc203 0 _ rfl
                                                                                    rw [Nat.add_zero, show ((Kd.slice 3 (Kd.int .i64))).sz = 1 from rfl, Nat.mul_one] at hv203_0
                                                                                    replace hv203_0 := Option.some.inj (hv203_0.symm.trans hx203_0)
                                                                                    rw [hv203_0] at ge203_0
                                                                                    have HL203_0 := Aside0.mk (show Kd.R (Kd.int .i64) 3 _ _ _ _ (rd_L1 t174 x15_5) from ge203_0)
                                                                                    clear hv203_0 ge203_0
                                                                                    clear hcc203 hce203
                                                                                    have HR203_0 := Aside0.mk hi203_0
                                                                                    have HC203_0 := Aside0.mk hl203_0
                                                                                    clear hi203_0 hl203_0
                                                                                    replace p203 := eq_true p203
                                                                                    replace q203 := eq_true q203
                                                                                    have p204 : 0 ≤ (x125_6 : Int) := of_decide_eq_true (by first | (with_reducible assumption) | assumption)
                                                                                    have q204 : x125_6 < ((rd_L1 t174 x15_5).length : Int) := of_decide_eq_true (by first | (with_reducible assumption) | assumption)
                                                                                    obtain ⟨ad204, e204, hx204_0⟩ := Kd.at_int (by repeat (first | (with_reducible exact HR203_0.out) | (with_reducible refine Kd.C_alloc ?_ _) | (with_reducible refine Kd.C_drewN ?_ _) | (with_reducible refine Kd.C_drew ?_) | exact HR203_0.out)) x125_6 p204 q204
                                                                                    cases e204
                                                                                    replace p204 := eq_true p204
                                                                                    replace q204 := eq_true q204
                                                                                    go_wp2_with (first | ((with_reducible refine gate_builtin (b := .append) (xs := #[.tmp 152, .tmp 154]) rfl ?_); at_builtin; refine Kd.R_append (Kd.int .i64) (w0 := w) w.heap.size rfl (.tmp 152) (.tmp 154) 24 3 (.int .i64 0) 8 rfl Try.underlying24 info3 rfl (by decide) (by omega) u10 x10_6 x125_6 [.int .i64 x125_6] (fun _ => True) (fun _ => False) rfl rfl ?aP (fun _ hk => hk.elim) ?aF ?aO ?aB ?aS ?aL ?_; (case aP => exact rfl); (case aB => exact (by repeat (first | (with_reducible first | exact HB.out | apply below_alloc | apply pw_below_drewN | apply below_drew1) | exact HB.out))); (case aF => exact (fun _ _ => trivial)); (case aO => exact (by (with_reducible repeat (first | apply Kd.R_alloc | apply Kd.R_drewN | apply Kd.R_drew)); exact HO_10.out)); (case aS => exact (below_size (by repeat (first | (with_reducible first | exact HB.out | apply below_alloc | apply pw_below_drewN | apply below_drew1) | exact HB.out)))); (case aL => have := LMc64.out; omega); intro v206 w65 ho hb hg hat; rw [← Ny205.out] at ho; have n0_ := Aside0.mk (Kd.S_after (ok := (fun k_ => some k_ ≠ (.slice (some ad190) t175.length co40 : Value).ownBlock)) (by (with_reducible repeat (first | apply Kd.S_alloc | apply Kd.S_drewN | apply Kd.S_drew)); exact Kd.S_mono HO_13.out (fun _ hk => ⟨hk.2, hk.1⟩)) hg hat); have n1_ := Aside0.mk (Kd.S_after (ok := (fun k_ => some k_ ≠ (.slice (some ad188) t174.length co39 : Value).ownBlock)) (by (with_reducible repeat (first | apply Kd.S_alloc | apply Kd.S_drewN | apply Kd.S_drew)); exact Kd.S_mono HO_14.out (fun _ hk => ⟨hk.2, hk.1⟩)) hg hat); have n2_ := Aside0.mk (Kd.R_after (ok := (fun k_ => some k_ ≠ (.slice (some ad188) t174.length co39 : Value).ownBlock ∧ some k_ ≠ (.slice (some ad190) t175.length co40 : Value).ownBlock)) (by (with_reducible repeat (first | apply Kd.R_alloc | apply Kd.R_drewN | apply Kd.R_drew)); exact Kd.R_mono HL201_0.out (fun _ hk => ⟨⟨hk.1.2, hk.2⟩, hk.1.1⟩)) hg hat); have n3_ := Aside0.mk (Kd.R_after (ok := (fun k_ => some k_ ≠ (.slice (some ad188) t174.length co39 : Value).ownBlock ∧ some k_ ≠ (.slice (some ad190) t175.length co40 : Value).ownBlock)) (by (with_reducible repeat (first | apply Kd.R_alloc | apply Kd.R_drewN | apply Kd.R_drew)); exact Kd.R_mono HL203_0.out (fun _ hk => ⟨⟨hk.2, hk.1.2⟩, hk.1.1⟩)) hg hat); have n4_ := Aside0.mk (hb); have n5_ := Aside0.mk (ho); clear HO_13; clear HO_14; clear HL201_0; clear HL203_0; clear HB; clear HO_10; have HO_13 := n0_; have HO_14 := n1_; have HL201_0 := n2_; have HL203_0 := n3_; have HB := n4_; have HO207 := n5_; clear n0_ n1_ n2_ n3_ n4_ n5_; clear ho hb hg hat))
                                                                                    repeat (go_quiet (first | ((with_reducible refine gate_builtin (b := .append) (xs := #[.tmp 152, .tmp 154]) rfl ?_); at_builtin; refine Kd.R_append (Kd.int .i64) (w0 := w) w.heap.size rfl (.tmp 152) (.tmp 154) 24 3 (.int .i64 0) 8 rfl Try.underlying24 info3 rfl (by decide) (by omega) u10 x10_6 x125_6 [.int .i64 x125_6] (fun _ => True) (fun _ => False) rfl rfl ?aP (fun _ hk => hk.elim) ?aF ?aO ?aB ?aS ?aL ?_; (case aP => exact rfl); (case aB => exact (by repeat (first | (with_reducible first | exact HB.out | apply below_alloc | apply pw_below_drewN | apply below_drew1) | exact HB.out))); (case aF => exact (fun _ _ => trivial)); (case aO => exact (by (with_reducible repeat (first | apply Kd.R_alloc | apply Kd.R_drewN | apply Kd.R_drew)); exact HO_10.out)); (case aS => exact (below_size (by repeat (first | (with_reducible first | exact HB.out | apply below_alloc | apply pw_below_drewN | apply below_drew1) | exact HB.out)))); (case aL => have := LMc64.out; omega); intro v206 w65 ho hb hg hat; rw [← Ny205.out] at ho; have n0_ := Aside0.mk (Kd.S_after (ok := (fun k_ => some k_ ≠ (.slice (some ad190) t175.length co40 : Value).ownBlock)) (by (with_reducible repeat (first | apply Kd.S_alloc | apply Kd.S_drewN | apply Kd.S_drew)); exact Kd.S_mono HO_13.out (fun _ hk => ⟨hk.2, hk.1⟩)) hg hat); have n1_ := Aside0.mk (Kd.S_after (ok := (fun k_ => some k_ ≠ (.slice (some ad188) t174.length co39 : Value).ownBlock)) (by (with_reducible repeat (first | apply Kd.S_alloc | apply Kd.S_drewN | apply Kd.S_drew)); exact Kd.S_mono HO_14.out (fun _ hk => ⟨hk.2, hk.1⟩)) hg hat); have n2_ := Aside0.mk (Kd.R_after (ok := (fun k_ => some k_ ≠ (.slice (some ad188) t174.length co39 : Value).ownBlock ∧ some k_ ≠ (.slice (some ad190) t175.length co40 : Value).ownBlock)) (by (with_reducible repeat (first | apply Kd.R_alloc | apply Kd.R_drewN | apply Kd.R_drew)); exact Kd.R_mono HL201_0.out (fun _ hk => ⟨⟨hk.1.2, hk.2⟩, hk.1.1⟩)) hg hat); have n3_ := Aside0.mk (Kd.R_after (ok := (fun k_ => some k_ ≠ (.slice (some ad188) t174.length co39 : Value).ownBlock ∧ some k_ ≠ (.slice (some ad190) t175.length co40 : Value).ownBlock)) (by (with_reducible repeat (first | apply Kd.R_alloc | apply Kd.R_drewN | apply Kd.R_drew)); exact Kd.R_mono HL203_0.out (fun _ hk => ⟨⟨hk.2, hk.1.2⟩, hk.1.1⟩)) hg hat); have n4_ := Aside0.mk (hb); have n5_ := Aside0.mk (ho); clear HO_13; clear HO_14; clear HL201_0; clear HL203_0; clear HB; clear HO_10; have HO_13 := n0_; have HO_14 := n1_; have HL201_0 := n2_; have HL203_0 := n3_; have HB := n4_; have HO207 := n5_; clear n0_ n1_ n2_ n3_ n4_ n5_; clear ho hb hg hat)); try go_wp2_with (first | ((with_reducible refine gate_builtin (b := .append) (xs := #[.tmp 152, .tmp 154]) rfl ?_); at_builtin; refine Kd.R_append (Kd.int .i64) (w0 := w) w.heap.size rfl (.tmp 152) (.tmp 154) 24 3 (.int .i64 0) 8 rfl Try.underlying24 info3 rfl (by decide) (by omega) u10 x10_6 x125_6 [.int .i64 x125_6] (fun _ => True) (fun _ => False) rfl rfl ?aP (fun _ hk => hk.elim) ?aF ?aO ?aB ?aS ?aL ?_; (case aP => exact rfl); (case aB => exact (by repeat (first | (with_reducible first | exact HB.out | apply below_alloc | apply pw_below_drewN | apply below_drew1) | exact HB.out))); (case aF => exact (fun _ _ => trivial)); (case aO => exact (by (with_reducible repeat (first | apply Kd.R_alloc | apply Kd.R_drewN | apply Kd.R_drew)); exact HO_10.out)); (case aS => exact (below_size (by repeat (first | (with_reducible first | exact HB.out | apply below_alloc | apply pw_below_drewN | apply below_drew1) | exact HB.out)))); (case aL => have := LMc64.out; omega); intro v206 w65 ho hb hg hat; rw [← Ny205.out] at ho; have n0_ := Aside0.mk (Kd.S_after (ok := (fun k_ => some k_ ≠ (.slice (some ad190) t175.length co40 : Value).ownBlock)) (by (with_reducible repeat (first | apply Kd.S_alloc | apply Kd.S_drewN | apply Kd.S_drew)); exact Kd.S_mono HO_13.out (fun _ hk => ⟨hk.2, hk.1⟩)) hg hat); have n1_ := Aside0.mk (Kd.S_after (ok := (fun k_ => some k_ ≠ (.slice (some ad188) t174.length co39 : Value).ownBlock)) (by (with_reducible repeat (first | apply Kd.S_alloc | apply Kd.S_drewN | apply Kd.S_drew)); exact Kd.S_mono HO_14.out (fun _ hk => ⟨hk.2, hk.1⟩)) hg hat); have n2_ := Aside0.mk (Kd.R_after (ok := (fun k_ => some k_ ≠ (.slice (some ad188) t174.length co39 : Value).ownBlock ∧ some k_ ≠ (.slice (some ad190) t175.length co40 : Value).ownBlock)) (by (with_reducible repeat (first | apply Kd.R_alloc | apply Kd.R_drewN | apply Kd.R_drew)); exact Kd.R_mono HL201_0.out (fun _ hk => ⟨⟨hk.1.2, hk.2⟩, hk.1.1⟩)) hg hat); have n3_ := Aside0.mk (Kd.R_after (ok := (fun k_ => some k_ ≠ (.slice (some ad188) t174.length co39 : Value).ownBlock ∧ some k_ ≠ (.slice (some ad190) t175.length co40 : Value).ownBlock)) (by (with_reducible repeat (first | apply Kd.R_alloc | apply Kd.R_drewN | apply Kd.R_drew)); exact Kd.R_mono HL203_0.out (fun _ hk => ⟨⟨hk.2, hk.1.2⟩, hk.1.1⟩)) hg hat); have n4_ := Aside0.mk (hb); have n5_ := Aside0.mk (ho); clear HO_13; clear HO_14; clear HL201_0; clear HL203_0; clear HB; clear HO_10; have HO_13 := n0_; have HO_14 := n1_; have HL201_0 := n2_; have HL203_0 := n3_; have HB := n4_; have HO207 := n5_; clear n0_ n1_ n2_ n3_ n4_ n5_; clear ho hb hg hat)))
                                                                                    go_roundg k6
                                                                                    case measure => have := HK1.out; have := HJ5.out; have := HJ8.out; have := HJ22.out; have := HK5.out; have := HK6.out; omega
                                                                                    case rel => exact ⟨(y205), (wrap64 (x15_5 + 1)), (by first | rfl | (simp; done) | (simp [*]; done)), H', ⟨by have := HK1.out; have := HJ5.out; have := HJ8.out; have := HJ22.out; have := HK5.out; have := HK6.out; omega⟩, ⟨by (with_reducible repeat (first | apply Kd.R_alloc | apply Kd.R_drewN | apply Kd.R_drew)); exact HO207.out⟩, ⟨by (with_reducible repeat (first | apply Kd.S_alloc | apply Kd.S_drewN | apply Kd.S_drew)); exact Kd.S_mono HO_13.out (fun _ hk => ⟨hk.2, hk.1⟩)⟩, ⟨by (with_reducible repeat (first | apply Kd.S_alloc | apply Kd.S_drewN | apply Kd.S_drew)); exact Kd.S_mono HO_14.out (fun _ hk => ⟨hk.2, hk.1⟩)⟩, ⟨by repeat (first | (with_reducible first | exact HB.out | apply below_alloc | apply pw_below_drewN | apply below_drew1) | exact HB.out)⟩⟩
                                                                                  · rw [if_neg c64] at H
                                                                                    exact absurd H (by simp)
                                                                                · rw [if_neg c63] at H
                                                                                  have c63b0 : ((rd (rd_L1 t174 x15_5) x125_6) == (wrap64 ((rd (rd_L1 t174 (ji44)) (rd x10_5 (ji44))) - (rd (rd_L1 l0 (ji44)) (rd x10_5 (ji44)))))) = false := beq_eq_false_iff_ne.mpr c63
                                                                                  have c63b1 : ((rd (rd_L1 t174 x15_5) x125_6) != (wrap64 ((rd (rd_L1 t174 (ji44)) (rd x10_5 (ji44))) - (rd (rd_L1 l0 (ji44)) (rd x10_5 (ji44)))))) = true := bne_iff_ne.mpr c63
                                                                                  have H' := Aside0.mk H
                                                                                  clear H
                                                                                  have p201 : 0 ≤ (x15_5 : Int) := of_decide_eq_true (by first | (with_reducible assumption) | assumption)
                                                                                  have q201 : x15_5 < (t175.length : Int) := of_decide_eq_true (by first | (with_reducible assumption) | assumption)
                                                                                  obtain ⟨ad201, A201_0, c201_0, e201, hx201_0, hl201_0, hi201_0⟩ := at_L1 (Kd.S_reads' HO_14.out).2.2 x15_5 p201 q201
                                                                                  obtain rfl : ad190 = ad201 := (by injection e201)
                                                                                  obtain ⟨ce201, hce201, hMe201, hcc201⟩ := Kd.S_get HO_14.out [] x15_5 p201 (by first | exact q201 | exact of_decide_eq_true (by first | (with_reducible assumption) | assumption) | (have e_ := (Kd.S_reads' HO_14.out).1; omega))
                                                                                  obtain ⟨ve201_0, rfl, ge201_0⟩ := hMe201
                                                                                  have hv201_0 := hcc201 0 _ rfl
                                                                                  rw [Nat.add_zero, show ((Kd.slice 3 (Kd.int .i64))).sz = 1 from rfl, Nat.mul_one] at hv201_0
                                                                                  replace hv201_0 := Option.some.inj (hv201_0.symm.trans hx201_0)
                                                                                  rw [hv201_0] at ge201_0
                                                                                  have HL201_0 := Aside0.mk (show Kd.R (Kd.int .i64) 3 _ _ _ _ (rd_L1 t175 x15_5) from ge201_0)
                                                                                  clear hv201_0 ge201_0
                                                                                  clear hcc201 hce201
                                                                                  have HR201_0 := Aside0.mk hi201_0
                                                                                  have HC201_0 := Aside0.mk hl201_0
                                                                                  clear hi201_0 hl201_0
                                                                                  replace p201 := eq_true p201
                                                                                  replace q201 := eq_true q201
                                                                                  have p202 : 0 ≤ (x125_6 : Int) := of_decide_eq_true (by first | (with_reducible assumption) | assumption)
                                                                                  have q202 : x125_6 < ((rd_L1 t175 x15_5).length : Int) := of_decide_eq_true (by first | (with_reducible assumption) | assumption)
                                                                                  obtain ⟨ad202, e202, hx202_0⟩ := Kd.at_int (by repeat (first | (with_reducible exact HR201_0.out) | (with_reducible refine Kd.C_alloc ?_ _) | (with_reducible refine Kd.C_drewN ?_ _) | (with_reducible refine Kd.C_drew ?_) | exact HR201_0.out)) x125_6 p202 q202
                                                                                  cases e202
                                                                                  replace p202 := eq_true p202
                                                                                  replace q202 := eq_true q202
                                                                                  have p203 : 0 ≤ (x15_5 : Int) := of_decide_eq_true (by first | (with_reducible assumption) | assumption)
                                                                                  have q203 : x15_5 < (t174.length : Int) := of_decide_eq_true (by first | (with_reducible assumption) | assumption)
                                                                                  obtain ⟨ad203, A203_0, c203_0, e203, hx203_0, hl203_0, hi203_0⟩ := at_L1 (Kd.S_reads' HO_13.out).2.2 x15_5 p203 q203
                                                                                  obtain rfl : ad188 = ad203 := (by injection e203)
                                                                                  obtain ⟨ce203, hce203, hMe203, hcc203⟩ := Kd.S_get HO_13.out [] x15_5 p203 (by first | exact q203 | exact of_decide_eq_true (by first | (with_reducible assumption) | assumption) | (have e_ := (Kd.S_reads' HO_13.out).1; omega))
                                                                                  obtain ⟨ve203_0, rfl, ge203_0⟩ := hMe203
                                                                                  have hv203_0 := hcc203 0 _ rfl
                                                                                  rw [Nat.add_zero, show ((Kd.slice 3 (Kd.int .i64))).sz = 1 from rfl, Nat.mul_one] at hv203_0
                                                                                  replace hv203_0 := Option.some.inj (hv203_0.symm.trans hx203_0)
                                                                                  rw [hv203_0] at ge203_0
                                                                                  have HL203_0 := Aside0.mk (show Kd.R (Kd.int .i64) 3 _ _ _ _ (rd_L1 t174 x15_5) from ge203_0)
                                                                                  clear hv203_0 ge203_0
                                                                                  clear hcc203 hce203
                                                                                  have HR203_0 := Aside0.mk hi203_0
                                                                                  have HC203_0 := Aside0.mk hl203_0
                                                                                  clear hi203_0 hl203_0
                                                                                  replace p203 := eq_true p203
                                                                                  replace q203 := eq_true q203
                                                                                  have p204 : 0 ≤ (x125_6 : Int) := of_decide_eq_true (by first | (with_reducible assumption) | assumption)
                                                                                  have q204 : x125_6 < ((rd_L1 t174 x15_5).length : Int) := of_decide_eq_true (by first | (with_reducible assumption) | assumption)
                                                                                  obtain ⟨ad204, e204, hx204_0⟩ := Kd.at_int (by repeat (first | (with_reducible exact HR203_0.out) | (with_reducible refine Kd.C_alloc ?_ _) | (with_reducible refine Kd.C_drewN ?_ _) | (with_reducible refine Kd.C_drew ?_) | exact HR203_0.out)) x125_6 p204 q204
                                                                                  cases e204
                                                                                  replace p204 := eq_true p204
                                                                                  replace q204 := eq_true q204
                                                                                  go_wp2
                                                                                  repeat (go_quiet (fail); try go_wp2)
                                                                                  go_roundg k6
                                                                                  case measure => have := HK1.out; have := HJ5.out; have := HJ8.out; have := HJ22.out; have := HK5.out; have := HK6.out; omega
                                                                                  case rel => exact ⟨(x10_6), (wrap64 (x125_6 + 1)), (by first | rfl | (simp; done) | (simp [*]; done)), H', ⟨by have := HK1.out; have := HJ5.out; have := HJ8.out; have := HJ22.out; have := HK5.out; have := HK6.out; omega⟩, ⟨by (with_reducible repeat (first | apply Kd.R_alloc | apply Kd.R_drewN | apply Kd.R_drew)); exact HO_10.out⟩, ⟨by (with_reducible repeat (first | apply Kd.S_alloc | apply Kd.S_drewN | apply Kd.S_drew)); exact HO_13.out⟩, ⟨by (with_reducible repeat (first | apply Kd.S_alloc | apply Kd.S_drewN | apply Kd.S_drew)); exact HO_14.out⟩, ⟨by repeat (first | (with_reducible exact HR196_0.out) | (with_reducible refine Kd.C_alloc ?_ _) | (with_reducible refine Kd.C_drewN ?_ _) | (with_reducible refine Kd.C_drew ?_) | exact HR196_0.out)⟩, ⟨by repeat (first | (with_reducible first | exact HB.out | apply below_alloc | apply pw_below_drewN | apply below_drew1) | exact HB.out)⟩⟩
                                                                              · rw [if_neg c62] at H
                                                                                exact absurd H (by simp)
                                                                            · rw [if_neg c61] at H
                                                                              exact absurd H (by simp)
                                                                          · rw [if_neg c60] at H
                                                                            have c60b0 : decide (0 < (rd (rd_L1 t175 x15_5) x125_6)) = false := decide_eq_false c60
                                                                            clear c60
                                                                            have H' := Aside0.mk H
                                                                            clear H
                                                                            have p201 : 0 ≤ (x15_5 : Int) := of_decide_eq_true (by first | (with_reducible assumption) | assumption)
                                                                            have q201 : x15_5 < (t175.length : Int) := of_decide_eq_true (by first | (with_reducible assumption) | assumption)
                                                                            obtain ⟨ad201, A201_0, c201_0, e201, hx201_0, hl201_0, hi201_0⟩ := at_L1 (Kd.S_reads' HO_14.out).2.2 x15_5 p201 q201
                                                                            obtain rfl : ad190 = ad201 := (by injection e201)
                                                                            obtain ⟨ce201, hce201, hMe201, hcc201⟩ := Kd.S_get HO_14.out [] x15_5 p201 (by first | exact q201 | exact of_decide_eq_true (by first | (with_reducible assumption) | assumption) | (have e_ := (Kd.S_reads' HO_14.out).1; omega))
                                                                            obtain ⟨ve201_0, rfl, ge201_0⟩ := hMe201
                                                                            have hv201_0 := hcc201 0 _ rfl
                                                                            rw [Nat.add_zero, show ((Kd.slice 3 (Kd.int .i64))).sz = 1 from rfl, Nat.mul_one] at hv201_0
                                                                            replace hv201_0 := Option.some.inj (hv201_0.symm.trans hx201_0)
                                                                            rw [hv201_0] at ge201_0
                                                                            have HL201_0 := Aside0.mk (show Kd.R (Kd.int .i64) 3 _ _ _ _ (rd_L1 t175 x15_5) from ge201_0)
                                                                            clear hv201_0 ge201_0
                                                                            clear hcc201 hce201
                                                                            have HR201_0 := Aside0.mk hi201_0
                                                                            have HC201_0 := Aside0.mk hl201_0
                                                                            clear hi201_0 hl201_0
                                                                            replace p201 := eq_true p201
                                                                            replace q201 := eq_true q201
                                                                            have p202 : 0 ≤ (x125_6 : Int) := of_decide_eq_true (by first | (with_reducible assumption) | assumption)
                                                                            have q202 : x125_6 < ((rd_L1 t175 x15_5).length : Int) := of_decide_eq_true (by first | (with_reducible assumption) | assumption)
                                                                            obtain ⟨ad202, e202, hx202_0⟩ := Kd.at_int (by repeat (first | (with_reducible exact HR201_0.out) | (with_reducible refine Kd.C_alloc ?_ _) | (with_reducible refine Kd.C_drewN ?_ _) | (with_reducible refine Kd.C_drew ?_) | exact HR201_0.out)) x125_6 p202 q202
                                                                            cases e202
                                                                            replace p202 := eq_true p202
                                                                            replace q202 := eq_true q202
                                                                            go_wp2
                                                                            repeat (go_quiet (fail); try go_wp2)
                                                                            go_roundg k6
                                                                            case measure => have := HK1.out; have := HJ5.out; have := HJ8.out; have := HJ22.out; have := HK5.out; have := HK6.out; omega
                                                                            case rel => exact ⟨(x10_6), (wrap64 (x125_6 + 1)), (by first | rfl | (simp; done) | (simp [*]; done)), H', ⟨by have := HK1.out; have := HJ5.out; have := HJ8.out; have := HJ22.out; have := HK5.out; have := HK6.out; omega⟩, ⟨by (with_reducible repeat (first | apply Kd.R_alloc | apply Kd.R_drewN | apply Kd.R_drew)); exact HO_10.out⟩, ⟨by (with_reducible repeat (first | apply Kd.S_alloc | apply Kd.S_drewN | apply Kd.S_drew)); exact HO_13.out⟩, ⟨by (with_reducible repeat (first | apply Kd.S_alloc | apply Kd.S_drewN | apply Kd.S_drew)); exact HO_14.out⟩, ⟨by repeat (first | (with_reducible exact HR196_0.out) | (with_reducible refine Kd.C_alloc ?_ _) | (with_reducible refine Kd.C_drewN ?_ _) | (with_reducible refine Kd.C_drew ?_) | exact HR196_0.out)⟩, ⟨by repeat (first | (with_reducible first | exact HB.out | apply below_alloc | apply pw_below_drewN | apply below_drew1) | exact HB.out)⟩⟩
                                                                        · rw [if_neg c59] at H
                                                                          exact absurd H (by simp)
                                                                      · rw [if_neg c58] at H
                                                                        exact absurd H (by simp)
                                                                    · rw [if_neg c57] at H
                                                                      exact absurd H (by simp)
                                                                  · rw [if_neg c56] at H
                                                                    exact absurd H (by simp)
                                                              · rw [if_neg c54] at H
                                                                have c54b0 : decide (x125_6 < ((rd_L1 l0 x15_5).length : Int)) = false := decide_eq_false c54
                                                                clear c54
                                                                have H' := Aside0.mk H
                                                                clear H
                                                                go_wp2
                                                                repeat (go_quiet (fail); try go_wp2)
                                                                go_roundg k6
                                                                case measure => have := HK1.out; have := HJ5.out; have := HJ8.out; have := HJ22.out; have := HK5.out; have := HK6.out; omega
                                                                case rel => exact ⟨(x10_6), (wrap64 (x15_5 + 1)), (by first | rfl | (simp; done) | (simp [*]; done)), H', ⟨by have := HK1.out; have := HJ5.out; have := HJ8.out; have := HJ22.out; have := HK5.out; have := HK6.out; omega⟩, ⟨by (with_reducible repeat (first | apply Kd.R_alloc | apply Kd.R_drewN | apply Kd.R_drew)); exact HO_10.out⟩, ⟨by (with_reducible repeat (first | apply Kd.S_alloc | apply Kd.S_drewN | apply Kd.S_drew)); exact HO_13.out⟩, ⟨by (with_reducible repeat (first | apply Kd.S_alloc | apply Kd.S_drewN | apply Kd.S_drew)); exact HO_14.out⟩, ⟨by repeat (first | (with_reducible first | exact HB.out | apply below_alloc | apply pw_below_drewN | apply below_drew1) | exact HB.out)⟩⟩
                                                        · rw [if_neg c52] at H
                                                          exact absurd H (by simp)
                                                      · rw [if_neg c51] at H
                                                        exact absurd H (by simp)
                                                    · rw [if_neg c50] at H
                                                      exact absurd H (by simp)
                                                  · rw [if_neg c49] at H
                                                    exact absurd H (by simp)
                                                · rw [if_neg c48] at H
                                                  exact absurd H (by simp)
                                              · rw [if_neg c47] at H
                                                exact absurd H (by simp)
                                            · rw [if_neg c46] at H
                                              exact absurd H (by simp)
                                          · rw [if_neg c45] at H
                                            exact absurd H (by simp)
                                        · rw [if_neg c43] at H
                                          have c43b0 : decide (x15_5 < (l0.length : Int)) = false := decide_eq_false c43
                                          clear c43
                                          have H' := Aside0.mk H
                                          clear H
                                          go_wp2
                                          repeat (go_quiet (fail); try go_wp2)
                                          go_roundg k5
                                          case measure => have := HK1.out; have := HJ5.out; have := HJ8.out; have := HJ22.out; have := HK5.out; omega
                                          case rel => exact ⟨((rd (rd_L1 t174 0) x23_1)), ((rd (rd_L1 t175 0) x23_1)), (x10_5), (wrap64 (x23_1 + 1)), (by first | rfl | (simp; done) | (simp [*]; done)), (by first | rfl | (simp; done) | (simp [*]; done)), (by first | rfl | (simp; done) | (simp [*]; done)), H', ⟨by have := HK1.out; have := HJ5.out; have := HJ8.out; have := HJ22.out; have := HK5.out; omega⟩, ⟨by (with_reducible repeat (first | apply Kd.R_alloc | apply Kd.R_drewN | apply Kd.R_drew)); exact HO_10.out⟩, ⟨by repeat (first | (with_reducible first | exact HB.out | apply below_alloc | apply pw_below_drewN | apply below_drew1) | exact HB.out)⟩⟩
                                  · rw [if_neg c38] at H
                                    exact absurd H (by simp)
                                · rw [if_neg c37] at H
                                  exact absurd H (by simp)
                              · rw [if_neg c36] at H
                                exact absurd H (by simp)
                            · rw [if_neg c35] at H
                              exact absurd H (by simp)
                          · rw [if_neg c34] at H
                            exact absurd H (by simp)
        · rw [if_neg c4] at H
          have c4b0 : decide (x23_1 < ((rd_L1 l0 0).length : Int)) = false := decide_eq_false c4
          clear c4
          simp only [Option.some.injEq, Prod.mk.injEq] at H
          obtain ⟨rfl, rfl, rfl, rfl⟩ := H
          go_wp2
          repeat (go_quiet (fail); try go_wp2)
          refine bodyPost_ret (results_list (rs := [.tmp 4, .tmp 5, .tmp 6, .tmp 7]) rfl (by simp) (.tmp (.tmp (.tmp (.tmp .nil))))) rfl ?_
          exact ⟨_, by first | rfl | (simp [errW_none, errW_some] <;> rfl) | (simp [*, errW_none, errW_some] <;> rfl), by (with_reducible repeat (first | apply Kd.R_alloc | apply Kd.R_drewN | apply Kd.R_drew)); exact HO_10.out, by repeat (first | (with_reducible first | exact HB.out | apply below_alloc | apply pw_below_drewN | apply below_drew1) | exact HB.out)⟩
  · rw [if_neg c3] at H
    exact absurd H (by simp)

end Go.Proofs.Ytknookofgnandaa.MQ
