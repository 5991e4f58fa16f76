-- The machine side, written by this repo's program mp.py; contracts marked as of this repo are this session's own.
import Derived.Test.YtknookofgnandaaMQx0
import Derived.Test.YtknookofgnandaaMQx1
import Derived.Test.YtknookofgnandaaMQx3
namespace Go.Proofs.Ytknookofgnandaa.MQ
open Go.RowKit Go.Proofs.YtknookofgnandaaW.PrintWords Go.Proofs.YtknookofgnandaaW.PrintLast Go.Proofs.YtknookofgnandaaW.PrintMore
attribute [local go_sem] max2_int min2_int max_two min_two max_three min_three max_four min_four   -- for this text's walks alone
set_option linter.unusedVariables false
set_option linter.unusedSimpArgs false

/-! ### spec_rwBest: function 28 -/
mutual
def spec_rwBest.l0 : Nat → List (List Int) → Bool → Int → Int → List Int → Int → Int → Option (Int × List Int × Int)
  | 0, _, _, _, _, _, _, _ => none
  | k + 1, x0, x7, x8, x9, x10, x23, x24 => if x24 < x23 then ((spec_rwPaint.f k x0 x24 x7).bind fun bt114 => (if 0 < (bt114.1.length : Int) then (if 0 ≤ x24 then (if x24 < ((rd_L1 bt114.1 0).length : Int) then (if (rd (rd_L1 bt114.1 0) x24) = 1000000 then (spec_rwBest.j1 k x0 x7 x8 x9 x10 x24 bt114.1 bt114.2 x23 x24 true) else (spec_rwBest.j1 k x0 x7 x8 x9 x10 x24 bt114.1 bt114.2 x23 x24 (decide ((rd (rd_L1 bt114.1 0) x24) > x8)))) else (none)) else (none)) else (none))) else (some (x8, x10, x9))
def spec_rwBest.j1 : Nat → List (List Int) → Bool → Int → Int → List Int → Int → List (List Int) → List (List Int) → Int → Int → Bool → Option (Int × List Int × Int)
  | 0, _, _, _, _, _, _, _, _, _, _, _ => none
  | k + 1, x0, x7, x8, x9, x10, x11, x12, x13, x23, x24, x50 => if x50 = true then (spec_rwBest.l0 k x0 x7 x8 x9 x10 x23 (wrap64 (x24 + 1))) else (if 0 < (x12.length : Int) then (if 0 ≤ x11 then (if x11 < ((rd_L1 x12 0).length : Int) then (if (rd (rd_L1 x12 0) x11) < x8 then (spec_rwBest.l1 k x0 x7 (rd (rd_L1 x12 0) x11) 0 (([x11] : List Int)) x11 x12 x13 1 x23 x24) else (if 0 < (x13.length : Int) then (if x11 < ((rd_L1 x13 0).length : Int) then (spec_rwBest.l0 k x0 x7 x8 (wrap64 (x9 + (rd (rd_L1 x13 0) x11))) x10 x23 (wrap64 (x24 + 1))) else (none)) else (none))) else (none)) else (none)) else (none))
def spec_rwBest.l1 : Nat → List (List Int) → Bool → Int → Int → List Int → Int → List (List Int) → List (List Int) → Int → Int → Int → Option (Int × List Int × Int)
  | 0, _, _, _, _, _, _, _, _, _, _, _ => none
  | k + 1, x0, x7, x8, x9, x10, x11, x12, x13, x14, x23, x24 => if x14 < (x0.length : Int) then (if 0 < (x0.length : Int) then (spec_rwBest.l2 k x0 x7 x8 x9 x10 x11 x12 x13 x14 x23 x24 ((rd_L1 x0 0).length : Int) 0) else (none)) else (if 0 < (x13.length : Int) then (if 0 ≤ x11 then (if x11 < ((rd_L1 x13 0).length : Int) then (spec_rwBest.l0 k x0 x7 x8 (wrap64 (x9 + (rd (rd_L1 x13 0) x11))) x10 x23 (wrap64 (x24 + 1))) else (none)) else (none)) else (none))
def spec_rwBest.l2 : Nat → List (List Int) → Bool → Int → Int → List Int → Int → List (List Int) → List (List Int) → Int → Int → Int → Int → Int → Option (Int × List Int × Int)
  | 0, _, _, _, _, _, _, _, _, _, _, _, _, _ => none
  | k + 1, x0, x7, x8, x9, x10, x11, x12, x13, x14, x23, x24, x76, x77 => if x77 < x76 then (if 0 ≤ (wrap64 (x14 - 1)) then (if (wrap64 (x14 - 1)) < (x10.length : Int) then (if x77 = (rd x10 (wrap64 (x14 - 1))) then (spec_rwBest.l2 k x0 x7 x8 x9 x10 x11 x12 x13 x14 x23 x24 x76 (wrap64 (x77 + 1))) else (if 0 ≤ x14 then (if x14 < (x12.length : Int) then (if 0 ≤ x77 then (if x77 < ((rd_L1 x12 x14).length : Int) then (if (rd (rd_L1 x12 x14) x77) = 1000000 then (spec_rwBest.l2 k x0 x7 x8 x9 x10 x11 x12 x13 x14 x23 x24 x76 (wrap64 (x77 + 1))) else (if (wrap64 (x14 - 1)) < (x0.length : Int) then (if 0 ≤ (rd x10 (wrap64 (x14 - 1))) then (if (rd x10 (wrap64 (x14 - 1))) < ((rd_L1 x0 (wrap64 (x14 - 1))).length : Int) then (if (wrap64 (x14 - 1)) < (x12.length : Int) then (if (rd x10 (wrap64 (x14 - 1))) < ((rd_L1 x12 (wrap64 (x14 - 1))).length : Int) then (if (wrap64 ((rd (rd_L1 x0 (wrap64 (x14 - 1))) (rd x10 (wrap64 (x14 - 1)))) + (rd (rd_L1 x12 x14) x77))) = (rd (rd_L1 x12 (wrap64 (x14 - 1))) (rd x10 (wrap64 (x14 - 1)))) then (if x10.length < 17592186044416 then (spec_rwBest.l1 k x0 x7 x8 x9 (x10 ++ [x77]) x11 x12 x13 (wrap64 (x14 + 1)) x23 x24) else (none)) else (spec_rwBest.l2 k x0 x7 x8 x9 x10 x11 x12 x13 x14 x23 x24 x76 (wrap64 (x77 + 1)))) else (none)) else (none)) else (none)) else (none)) else (none))) else (none)) else (none)) else (none)) else (none))) else (none)) else (none)) else (spec_rwBest.l1 k x0 x7 x8 x9 x10 x11 x12 x13 (wrap64 (x14 + 1)) x23 x24)
end
def spec_rwBest.f (k : Nat) (l0 : List (List Int)) (a1 : Bool) : Option (Int × List Int × Int) := (spec_rwRing.f (l0.length : Int) a1).bind fun t112 => (if 0 < (l0.length : Int) then (spec_rwBest.l0 k l0 t112 1000000 0 ([] : List Int) ((rd_L1 l0 0).length : Int) 0) else (none))
theorem spec_rwBest.mono_l : ∀ k, (∀ y0 y1 y2 y3 y4 y5 y6, LeO (spec_rwBest.l0 k y0 y1 y2 y3 y4 y5 y6) (spec_rwBest.l0 (k + 1) y0 y1 y2 y3 y4 y5 y6)) ∧ (∀ y0 y1 y2 y3 y4 y5 y6 y7 y8 y9 y10, LeO (spec_rwBest.j1 k y0 y1 y2 y3 y4 y5 y6 y7 y8 y9 y10) (spec_rwBest.j1 (k + 1) y0 y1 y2 y3 y4 y5 y6 y7 y8 y9 y10)) ∧ (∀ y0 y1 y2 y3 y4 y5 y6 y7 y8 y9 y10, LeO (spec_rwBest.l1 k y0 y1 y2 y3 y4 y5 y6 y7 y8 y9 y10) (spec_rwBest.l1 (k + 1) y0 y1 y2 y3 y4 y5 y6 y7 y8 y9 y10)) ∧ (∀ y0 y1 y2 y3 y4 y5 y6 y7 y8 y9 y10 y11 y12, LeO (spec_rwBest.l2 k y0 y1 y2 y3 y4 y5 y6 y7 y8 y9 y10 y11 y12) (spec_rwBest.l2 (k + 1) y0 y1 y2 y3 y4 y5 y6 y7 y8 y9 y10 y11 y12))
  | 0 => ⟨fun _ _ _ _ _ _ _ r h => by simp [spec_rwBest.l0] at h, fun _ _ _ _ _ _ _ _ _ _ _ r h => by simp [spec_rwBest.j1] at h, fun _ _ _ _ _ _ _ _ _ _ _ r h => by simp [spec_rwBest.l1] at h, fun _ _ _ _ _ _ _ _ _ _ _ _ _ r h => by simp [spec_rwBest.l2] at h⟩
  | k + 1 => by
    obtain ⟨ih0, ih1, ih2, ih3⟩ := spec_rwBest.mono_l k
    refine ⟨?_, ?_, ?_, ?_⟩
    · intro y0 y1 y2 y3 y4 y5 y6
      unfold spec_rwBest.l0
      repeat' first
      | (with_reducible exact ih0 _ _ _ _ _ _ _)
      | (with_reducible exact ih1 _ _ _ _ _ _ _ _ _ _ _)
      | (with_reducible exact ih2 _ _ _ _ _ _ _ _ _ _ _)
      | (with_reducible exact ih3 _ _ _ _ _ _ _ _ _ _ _ _ _)
      | (with_reducible exact spec_rwPaint.mono _ _ _ _)
      | (with_reducible exact LeO.refl _)
      | (with_reducible exact LeO.none _)
      | (with_reducible refine LeO.ite ?_ ?_)
      | (with_reducible refine LeO.bind ?_ (fun _ => ?_))
      | exact ih0 _ _ _ _ _ _ _
      | exact ih1 _ _ _ _ _ _ _ _ _ _ _
      | exact ih2 _ _ _ _ _ _ _ _ _ _ _
      | exact ih3 _ _ _ _ _ _ _ _ _ _ _ _ _
      | exact spec_rwPaint.mono _ _ _ _
      | exact LeO.none _
      | refine LeO.ite ?_ ?_
      | refine LeO.bind ?_ (fun _ => ?_)
    · intro y0 y1 y2 y3 y4 y5 y6 y7 y8 y9 y10
      unfold spec_rwBest.j1
      repeat' first
      | (with_reducible exact ih0 _ _ _ _ _ _ _)
      | (with_reducible exact ih1 _ _ _ _ _ _ _ _ _ _ _)
      | (with_reducible exact ih2 _ _ _ _ _ _ _ _ _ _ _)
      | (with_reducible exact ih3 _ _ _ _ _ _ _ _ _ _ _ _ _)
      | (with_reducible exact spec_rwPaint.mono _ _ _ _)
      | (with_reducible exact LeO.refl _)
      | (with_reducible exact LeO.none _)
      | (with_reducible refine LeO.ite ?_ ?_)
      | (with_reducible refine LeO.bind ?_ (fun _ => ?_))
      | exact ih0 _ _ _ _ _ _ _
      | exact ih1 _ _ _ _ _ _ _ _ _ _ _
      | exact ih2 _ _ _ _ _ _ _ _ _ _ _
      | exact ih3 _ _ _ _ _ _ _ _ _ _ _ _ _
      | exact spec_rwPaint.mono _ _ _ _
      | exact LeO.none _
      | refine LeO.ite ?_ ?_
      | refine LeO.bind ?_ (fun _ => ?_)
    · intro y0 y1 y2 y3 y4 y5 y6 y7 y8 y9 y10
      unfold spec_rwBest.l1
      repeat' first
      | (with_reducible exact ih0 _ _ _ _ _ _ _)
      | (with_reducible exact ih1 _ _ _ _ _ _ _ _ _ _ _)
      | (with_reducible exact ih2 _ _ _ _ _ _ _ _ _ _ _)
      | (with_reducible exact ih3 _ _ _ _ _ _ _ _ _ _ _ _ _)
      | (with_reducible exact spec_rwPaint.mono _ _ _ _)
      | (with_reducible exact LeO.refl _)
      | (with_reducible exact LeO.none _)
      | (with_reducible refine LeO.ite ?_ ?_)
      | (with_reducible refine LeO.bind ?_ (fun _ => ?_))
      | exact ih0 _ _ _ _ _ _ _
      | exact ih1 _ _ _ _ _ _ _ _ _ _ _
      | exact ih2 _ _ _ _ _ _ _ _ _ _ _
      | exact ih3 _ _ _ _ _ _ _ _ _ _ _ _ _
      | exact spec_rwPaint.mono _ _ _ _
      | exact LeO.none _
      | refine LeO.ite ?_ ?_
      | refine LeO.bind ?_ (fun _ => ?_)
    · intro y0 y1 y2 y3 y4 y5 y6 y7 y8 y9 y10 y11 y12
      unfold spec_rwBest.l2
      repeat' first
      | (with_reducible exact ih0 _ _ _ _ _ _ _)
      | (with_reducible exact ih1 _ _ _ _ _ _ _ _ _ _ _)
      | (with_reducible exact ih2 _ _ _ _ _ _ _ _ _ _ _)
      | (with_reducible exact ih3 _ _ _ _ _ _ _ _ _ _ _ _ _)
      | (with_reducible exact spec_rwPaint.mono _ _ _ _)
      | (with_reducible exact LeO.refl _)
      | (with_reducible exact LeO.none _)
      | (with_reducible refine LeO.ite ?_ ?_)
      | (with_reducible refine LeO.bind ?_ (fun _ => ?_))
      | exact ih0 _ _ _ _ _ _ _
      | exact ih1 _ _ _ _ _ _ _ _ _ _ _
      | exact ih2 _ _ _ _ _ _ _ _ _ _ _
      | exact ih3 _ _ _ _ _ _ _ _ _ _ _ _ _
      | exact spec_rwPaint.mono _ _ _ _
      | exact LeO.none _
      | refine LeO.ite ?_ ?_
      | refine LeO.bind ?_ (fun _ => ?_)
theorem spec_rwBest.mono : ∀ a0 a1 k, LeO (spec_rwBest.f k a0 a1) (spec_rwBest.f (k + 1) a0 a1) := by
  intro a0 a1 k
  obtain ⟨ih0, ih1, ih2, ih3⟩ := spec_rwBest.mono_l k
  unfold spec_rwBest.f
  repeat' first
      | (with_reducible exact ih0 _ _ _ _ _ _ _)
      | (with_reducible exact ih1 _ _ _ _ _ _ _ _ _ _ _)
      | (with_reducible exact ih2 _ _ _ _ _ _ _ _ _ _ _)
      | (with_reducible exact ih3 _ _ _ _ _ _ _ _ _ _ _ _ _)
      | (with_reducible exact spec_rwPaint.mono _ _ _ _)
      | (with_reducible exact LeO.refl _)
      | (with_reducible exact LeO.none _)
      | (with_reducible refine LeO.ite ?_ ?_)
      | (with_reducible refine LeO.bind ?_ (fun _ => ?_))
      | exact ih0 _ _ _ _ _ _ _
      | exact ih1 _ _ _ _ _ _ _ _ _ _ _
      | exact ih2 _ _ _ _ _ _ _ _ _ _ _
      | exact ih3 _ _ _ _ _ _ _ _ _ _ _ _ _
      | exact spec_rwPaint.mono _ _ _ _
      | exact LeO.none _
      | refine LeO.ite ?_ ?_
      | refine LeO.bind ?_ (fun _ => ?_)
set_option maxHeartbeats 8000000 in
set_option maxRecDepth 100000 in
theorem spec_rwBest.calls (k : Nat) (A0 : Option Addr) (c0 : Nat) (l0 : List (List Int)) (a1 : Bool) (r1 : Int) (r2 : List Int) (r3 : Int) (w : World) (hr0 : Kd.C (Kd.slice 3 (Kd.int .i64)) w A0 l0.length l0) (hc0 : l0.length ≤ c0) (h : spec_rwBest.f k l0 a1 = some (r1, r2, r3)) :
    Calls Try.prog 28 #[.slice A0 l0.length c0, .bool a1] w fun e w' => ∃ v1_ : Value, e = .returned (.tuple #[.int .i64 r1, v1_, .int .i64 r3]) ∧ Kd.R (Kd.int .i64) 3 w' w.heap.size (fun _ => True) v1_ r2 ∧ Below w.heap.size w w' := by
  have HR0 := Aside0.mk hr0
  have HC0 := Aside0.mk hc0
  clear hr0 hc0
  have HB := Aside0.mk (Below.refl w.heap.size w)
  have H : ((spec_rwRing.f (l0.length : Int) a1).bind fun t112 => (if 0 < (l0.length : Int) then (spec_rwBest.l0 k l0 t112 1000000 0 ([] : List Int) ((rd_L1 l0 0).length : Int) 0) else (none))) = some (r1, r2, r3) := h
  clear h
  replace H := Option.bind_eq_some_iff.mp H
  obtain ⟨t112, A30, H⟩ := H
  replace H : (if 0 < (l0.length : Int) then (spec_rwBest.l0 k l0 t112 1000000 0 ([] : List Int) ((rd_L1 l0 0).length : Int) 0) else (none)) = some (r1, r2, r3) := H
  have A3 := Aside0.mk A30
  clear A30
  by_cases c4 : 0 < (l0.length : Int)
  · rw [if_pos c4] at H
    have c4b0 : decide (0 < (l0.length : Int)) = true := decide_eq_true c4
    have c4b1 : decide (0 < l0.length) = true := decide_eq_true (by omega)
    clear c4
    have H' := Aside0.mk H
    clear H
    go_enter Try.func28, Try.ntmps28
    go_wp2_with (first | (go_at_call 45; (with_reducible refine (spec_rwRing.calls (l0.length : Int) a1 t112 _ A3.out).mono ?_); rintro e w' ⟨rfl, ⟨nd, rfl⟩⟩; (try first | exact ⟨rfl, _, World.drewN_drewN _ _ _⟩ | exact ⟨rfl, _, Eq.trans (World.drewN_drewN _ _ _) (congrArg (World.drewN _) (Nat.add_assoc _ _ _))⟩); have p113 : 0 ≤ (0 : Int) := (by omega); have q113 : 0 < (l0.length : Int) := of_decide_eq_true (by first | (with_reducible assumption) | assumption); obtain ⟨ad113, A113_0, c113_0, e113, hx113_0, hl113_0, hi113_0⟩ := at_L1 HR0.out 0 p113 q113; cases e113; have qi113 : (0 < l0.length) = True := eq_true (by omega); (try rw [show ((0 : Int)).toNat = 0 from rfl] at hx113_0); (try rw [Addr.add_zero'] at hx113_0); have HR113_0 := Aside0.mk hi113_0; have HC113_0 := Aside0.mk hl113_0; clear hi113_0 hl113_0; replace p113 := eq_true p113; replace q113 := eq_true q113))
    repeat (go_quiet (first | (go_at_call 45; (with_reducible refine (spec_rwRing.calls (l0.length : Int) a1 t112 _ A3.out).mono ?_); rintro e w' ⟨rfl, ⟨nd, rfl⟩⟩; (try first | exact ⟨rfl, _, World.drewN_drewN _ _ _⟩ | exact ⟨rfl, _, Eq.trans (World.drewN_drewN _ _ _) (congrArg (World.drewN _) (Nat.add_assoc _ _ _))⟩); have p113 : 0 ≤ (0 : Int) := (by omega); have q113 : 0 < (l0.length : Int) := of_decide_eq_true (by first | (with_reducible assumption) | assumption); obtain ⟨ad113, A113_0, c113_0, e113, hx113_0, hl113_0, hi113_0⟩ := at_L1 HR0.out 0 p113 q113; cases e113; have qi113 : (0 < l0.length) = True := eq_true (by omega); (try rw [show ((0 : Int)).toNat = 0 from rfl] at hx113_0); (try rw [Addr.add_zero'] at hx113_0); have HR113_0 := Aside0.mk hi113_0; have HC113_0 := Aside0.mk hl113_0; clear hi113_0 hl113_0; replace p113 := eq_true p113; replace q113 := eq_true q113)); try go_wp2_with (first | (go_at_call 45; (with_reducible refine (spec_rwRing.calls (l0.length : Int) a1 t112 _ A3.out).mono ?_); rintro e w' ⟨rfl, ⟨nd, rfl⟩⟩; (try first | exact ⟨rfl, _, World.drewN_drewN _ _ _⟩ | exact ⟨rfl, _, Eq.trans (World.drewN_drewN _ _ _) (congrArg (World.drewN _) (Nat.add_assoc _ _ _))⟩); have p113 : 0 ≤ (0 : Int) := (by omega); have q113 : 0 < (l0.length : Int) := of_decide_eq_true (by first | (with_reducible assumption) | assumption); obtain ⟨ad113, A113_0, c113_0, e113, hx113_0, hl113_0, hi113_0⟩ := at_L1 HR0.out 0 p113 q113; cases e113; have qi113 : (0 < l0.length) = True := eq_true (by omega); (try rw [show ((0 : Int)).toNat = 0 from rfl] at hx113_0); (try rw [Addr.add_zero'] at hx113_0); have HR113_0 := Aside0.mk hi113_0; have HC113_0 := Aside0.mk hl113_0; clear hi113_0 hl113_0; replace p113 := eq_true p113; replace q113 := eq_true q113)))
    go_loopg [8, 9, 10, 24] k (fun kq v8 v9 v10 v24 w' => ∃ (x8_1 : Int) (x9_1 : Int) (x10_1 : List Int) (x24_1 : Int), v8 = .int .i64 x8_1 ∧ v9 = .int .i64 x9_1 ∧ v24 = .int .i64 x24_1 ∧ Aside0 (spec_rwBest.l0 kq l0 t112 x8_1 x9_1 x10_1 ((rd_L1 l0 0).length : Int) x24_1 = some (r1, r2, r3)) ∧ Aside0 (kq ≤ k) ∧ Aside0 (Kd.R (Kd.int .i64) 3 w' w.heap.size (fun _ => True) v10 x10_1) ∧ Aside0 (Below w.heap.size w w'))
    case atStart => exact ⟨(1000000), (0), (([] : List Int)), (0), (by first | rfl | (simp; done) | (simp [*]; done)), (by first | rfl | (simp; done) | (simp [*]; done)), (by first | rfl | (simp; done) | (simp [*]; done)), H', ⟨Nat.le_refl _⟩, ⟨by first | exact Kd.R_nil _ _ _ _ _ | exact Kd.N_nil _ _ _ _ _ | exact Kd.V_nil _ _ _ _ _ | exact Kd.Q_nil _ _ _ _ _ | exact Kd.S_nil _ _ _ _ _⟩, ⟨by repeat (first | (with_reducible first | exact HB.out | apply below_alloc | apply pw_below_drewN | apply below_drew1) | exact HB.out)⟩⟩
    case round =>
      clear H'
      try clear c1
      try clear p1
      try clear q1
      try clear hx1
      try clear qi1
      try clear c2
      try clear p2
      try clear c4
      try clear c4b0
      try clear c4b1
      try clear hx113_0
      try clear p113
      try clear q113
      obtain ⟨x8_1, x9_1, x10_1, x24_1, rfl, rfl, rfl, HA, HK1, HO_10, HB⟩ := hrel
      cases gk with
      | zero => exact absurd HA.out (by simp [spec_rwBest.l0])
      | succ k1 =>
        have H := HA.out
        clear HA
        simp only [spec_rwBest.l0] at H
        by_cases c5 : x24_1 < ((rd_L1 l0 0).length : Int)
        · rw [if_pos c5] at H
          have c5b0 : decide (x24_1 < ((rd_L1 l0 0).length : Int)) = true := decide_eq_true c5
          clear c5
          replace H := Option.bind_eq_some_iff.mp H
          obtain ⟨⟨t114, t115⟩, A60, H⟩ := H
          replace H : (if 0 < (t114.length : Int) then (if 0 ≤ x24_1 then (if x24_1 < ((rd_L1 t114 0).length : Int) then (if (rd (rd_L1 t114 0) x24_1) = 1000000 then (spec_rwBest.j1 k1 l0 t112 x8_1 x9_1 x10_1 x24_1 t114 t115 ((rd_L1 l0 0).length : Int) x24_1 true) else (spec_rwBest.j1 k1 l0 t112 x8_1 x9_1 x10_1 x24_1 t114 t115 ((rd_L1 l0 0).length : Int) x24_1 (decide ((rd (rd_L1 t114 0) x24_1) > x8_1)))) else (none)) else (none)) else (none)) = some (r1, r2, r3) := H
          have A6 := Aside0.mk A60
          clear A60
          have HC7 := Aside0.mk H
          clear H
          go_upto_region 8 with (first | (go_at_call 46; (with_reducible refine (spec_rwPaint.calls k1 _ _ l0 x24_1 t112 t114 t115 _ ?side1 ?side2 A6.out).mono ?_); (case side1 => repeat (first | exact (Kd.C_below HR0.out HB.out) | (with_reducible refine Kd.C_alloc ?_ _) | (with_reducible refine Kd.C_drewN ?_ _) | (with_reducible refine Kd.C_drew ?_))); (case side2 => exact HC0.out); rintro e w8 ⟨v116, v118, rfl, ho0, ho1, hb⟩; have n0_ := Aside0.mk (Kd.R_below (by (with_reducible repeat (first | apply Kd.R_alloc | apply Kd.R_drewN | apply Kd.R_drew)); exact HO_10.out) hb); have n1_ := Aside0.mk (Kd.S_lower (Kd.S_new' ho0 (Kd.R_lt (by (with_reducible repeat (first | apply Kd.R_alloc | apply Kd.R_drewN | apply Kd.R_drew)); exact HO_10.out))) (below_size (by repeat (first | (with_reducible first | exact HB.out | apply below_alloc | apply pw_below_drewN | apply below_drew1) | exact HB.out)))); have n2_ := Aside0.mk (Kd.S_lower (Kd.S_new' ho1 (Kd.R_lt (by (with_reducible repeat (first | apply Kd.R_alloc | apply Kd.R_drewN | apply Kd.R_drew)); exact HO_10.out))) (below_size (by repeat (first | (with_reducible first | exact HB.out | apply below_alloc | apply pw_below_drewN | apply below_drew1) | exact HB.out)))); have n3_ := Aside0.mk (below_step (by repeat (first | (with_reducible first | exact HB.out | apply below_alloc | apply pw_below_drewN | apply below_drew1) | exact HB.out)) hb); clear HO_10; clear HB; have HO_10 := n0_; have HO117 := n1_; have HO119 := n2_; have HB := n3_; clear n0_ n1_ n2_ n3_; (try clear hb); (try clear hb2); (try clear hk); (try clear hi); (try clear ho0); (try clear ho1)))
          repeat (go_quiet (first | (go_at_call 46; (with_reducible refine (spec_rwPaint.calls k1 _ _ l0 x24_1 t112 t114 t115 _ ?side1 ?side2 A6.out).mono ?_); (case side1 => repeat (first | exact (Kd.C_below HR0.out HB.out) | (with_reducible refine Kd.C_alloc ?_ _) | (with_reducible refine Kd.C_drewN ?_ _) | (with_reducible refine Kd.C_drew ?_))); (case side2 => exact HC0.out); rintro e w8 ⟨v116, v118, rfl, ho0, ho1, hb⟩; have n0_ := Aside0.mk (Kd.R_below (by (with_reducible repeat (first | apply Kd.R_alloc | apply Kd.R_drewN | apply Kd.R_drew)); exact HO_10.out) hb); have n1_ := Aside0.mk (Kd.S_lower (Kd.S_new' ho0 (Kd.R_lt (by (with_reducible repeat (first | apply Kd.R_alloc | apply Kd.R_drewN | apply Kd.R_drew)); exact HO_10.out))) (below_size (by repeat (first | (with_reducible first | exact HB.out | apply below_alloc | apply pw_below_drewN | apply below_drew1) | exact HB.out)))); have n2_ := Aside0.mk (Kd.S_lower (Kd.S_new' ho1 (Kd.R_lt (by (with_reducible repeat (first | apply Kd.R_alloc | apply Kd.R_drewN | apply Kd.R_drew)); exact HO_10.out))) (below_size (by repeat (first | (with_reducible first | exact HB.out | apply below_alloc | apply pw_below_drewN | apply below_drew1) | exact HB.out)))); have n3_ := Aside0.mk (below_step (by repeat (first | (with_reducible first | exact HB.out | apply below_alloc | apply pw_below_drewN | apply below_drew1) | exact HB.out)) hb); clear HO_10; clear HB; have HO_10 := n0_; have HO117 := n1_; have HO119 := n2_; have HB := n3_; clear n0_ n1_ n2_ n3_; (try clear hb); (try clear hb2); (try clear hk); (try clear hi); (try clear ho0); (try clear ho1))); go_upto_region 8 with (first | (go_at_call 46; (with_reducible refine (spec_rwPaint.calls k1 _ _ l0 x24_1 t112 t114 t115 _ ?side1 ?side2 A6.out).mono ?_); (case side1 => repeat (first | exact (Kd.C_below HR0.out HB.out) | (with_reducible refine Kd.C_alloc ?_ _) | (with_reducible refine Kd.C_drewN ?_ _) | (with_reducible refine Kd.C_drew ?_))); (case side2 => exact HC0.out); rintro e w8 ⟨v116, v118, rfl, ho0, ho1, hb⟩; have n0_ := Aside0.mk (Kd.R_below (by (with_reducible repeat (first | apply Kd.R_alloc | apply Kd.R_drewN | apply Kd.R_drew)); exact HO_10.out) hb); have n1_ := Aside0.mk (Kd.S_lower (Kd.S_new' ho0 (Kd.R_lt (by (with_reducible repeat (first | apply Kd.R_alloc | apply Kd.R_drewN | apply Kd.R_drew)); exact HO_10.out))) (below_size (by repeat (first | (with_reducible first | exact HB.out | apply below_alloc | apply pw_below_drewN | apply below_drew1) | exact HB.out)))); have n2_ := Aside0.mk (Kd.S_lower (Kd.S_new' ho1 (Kd.R_lt (by (with_reducible repeat (first | apply Kd.R_alloc | apply Kd.R_drewN | apply Kd.R_drew)); exact HO_10.out))) (below_size (by repeat (first | (with_reducible first | exact HB.out | apply below_alloc | apply pw_below_drewN | apply below_drew1) | exact HB.out)))); have n3_ := Aside0.mk (below_step (by repeat (first | (with_reducible first | exact HB.out | apply below_alloc | apply pw_below_drewN | apply below_drew1) | exact HB.out)) hb); clear HO_10; clear HB; have HO_10 := n0_; have HO117 := n1_; have HO119 := n2_; have HB := n3_; clear n0_ n1_ n2_ n3_; (try clear hb); (try clear hb2); (try clear hk); (try clear hi); (try clear ho0); (try clear ho1))))
          (try simp only [Act.put, List.setIfInBounds_toArray, List.set_cons_zero, List.set_cons_succ])
          go_cut [50] (fun v50 wc => ∃ (kq : Nat) (x50_6 : Bool), v50 = .bool x50_6 ∧ Aside0 (spec_rwBest.j1 kq l0 t112 x8_1 x9_1 x10_1 x24_1 t114 t115 ((rd_L1 l0 0).length : Int) x24_1 x50_6 = some (r1, r2, r3)) ∧ Aside0 (kq ≤ k1) ∧ Aside0 (Kd.R (Kd.int .i64) 3 wc w.heap.size (fun _ => True) u10 x10_1) ∧ Aside0 (Kd.S (Kd.slice 3 (Kd.int .i64)) 24 wc w.heap.size (fun k_ => some k_ ≠ (u10 : Value).ownBlock ∧ some k_ ≠ (v118 : Value).ownBlock) v116 t114) ∧ Aside0 (Kd.S (Kd.slice 3 (Kd.int .i64)) 24 wc w.heap.size (fun k_ => some k_ ≠ (u10 : Value).ownBlock ∧ some k_ ≠ (v116 : Value).ownBlock) v118 t115) ∧ Aside0 (Below w.heap.size w wc))
          case first =>
            have H := HC7.out
            clear HC7
            by_cases c9 : 0 < (t114.length : Int)
            · rw [if_pos c9] at H
              have c9b0 : decide (0 < (t114.length : Int)) = true := decide_eq_true c9
              have c9b1 : decide (0 < t114.length) = true := decide_eq_true (by omega)
              clear c9
              (first | rw [c9b0] | (simp only [i64_w, i32_w]; rw [c9b0]) | skip)
              by_cases c10 : 0 ≤ x24_1
              · rw [if_pos c10] at H
                have c10b0 : decide (0 ≤ x24_1) = true := decide_eq_true c10
                clear c10
                by_cases c11 : x24_1 < ((rd_L1 t114 0).length : Int)
                · rw [if_pos c11] at H
                  have c11b0 : decide (x24_1 < ((rd_L1 t114 0).length : Int)) = true := decide_eq_true c11
                  clear c11
                  by_cases c12 : (rd (rd_L1 t114 0) x24_1) = 1000000
                  · rw [if_pos c12] at H
                    have c12b0 : ((rd (rd_L1 t114 0) x24_1) == 1000000) = true := beq_iff_eq.mpr c12
                    have c12b1 : ((rd (rd_L1 t114 0) x24_1) != 1000000) = false := bne_eq_false_iff_eq.mpr c12
                    clear c12
                    have H' := Aside0.mk H
                    clear H
                    obtain ⟨Ao13, co13, eo13⟩ := Kd.S_slice HO117.out
                    subst eo13
                    have p120 : 0 ≤ (0 : Int) := (by omega)
                    have q120 : 0 < (t114.length : Int) := of_decide_eq_true (by first | (with_reducible assumption) | assumption)
                    obtain ⟨ad120, A120_0, c120_0, e120, hx120_0, hl120_0, hi120_0⟩ := at_L1 (Kd.S_reads' HO117.out).2.2 0 p120 q120
                    cases e120
                    obtain ⟨ce120, hce120, hMe120, hcc120⟩ := Kd.S_get HO117.out [] 0 p120 (by first | exact q120 | exact of_decide_eq_true (by first | (with_reducible assumption) | assumption) | (have e_ := (Kd.S_reads' HO117.out).1; omega))
                    obtain ⟨ve120_0, rfl, ge120_0⟩ := hMe120
                    have hv120_0 := hcc120 0 _ rfl
                    rw [Nat.add_zero, show ((Kd.slice 3 (Kd.int .i64))).sz = 1 from rfl, Nat.mul_one] at hv120_0
                    replace hv120_0 := Option.some.inj (hv120_0.symm.trans hx120_0)
                    rw [hv120_0] at ge120_0
                    have HL120_0 := Aside0.mk (show Kd.R (Kd.int .i64) 3 _ _ _ _ (rd_L1 t114 0) from ge120_0)
                    clear hv120_0 ge120_0
                    clear hcc120 hce120
                    have qi120 : (0 < t114.length) = True := eq_true (by omega)
                    (try rw [show ((0 : Int)).toNat = 0 from rfl] at hx120_0)
                    (try rw [Addr.add_zero'] at hx120_0)
                    have HR120_0 := Aside0.mk hi120_0
                    have HC120_0 := Aside0.mk hl120_0
                    clear hi120_0 hl120_0
                    replace p120 := eq_true p120
                    replace q120 := eq_true q120
                    have p121 : 0 ≤ (x24_1 : Int) := of_decide_eq_true (by first | (with_reducible assumption) | assumption)
                    have q121 : x24_1 < ((rd_L1 t114 0).length : Int) := of_decide_eq_true (by first | (with_reducible assumption) | assumption)
                    obtain ⟨ad121, e121, hx121_0⟩ := Kd.at_int (by repeat (first | (with_reducible exact HR120_0.out) | (with_reducible refine Kd.C_alloc ?_ _) | (with_reducible refine Kd.C_drewN ?_ _) | (with_reducible refine Kd.C_drew ?_) | exact HR120_0.out)) x24_1 p121 q121
                    cases e121
                    replace p121 := eq_true p121
                    replace q121 := eq_true q121
                    go_wp2
                    repeat (go_quiet (fail); try go_wp2)
                    go_meet
                    case rel => exact ⟨_, (true), (by first | rfl | (simp; done) | (simp [*]; done)), H', ⟨by have := HK1.out; first | omega | exact Nat.le_refl _⟩, ⟨by (with_reducible repeat (first | apply Kd.R_alloc | apply Kd.R_drewN | apply Kd.R_drew)); exact HO_10.out⟩, ⟨by (with_reducible repeat (first | apply Kd.S_alloc | apply Kd.S_drewN | apply Kd.S_drew)); exact Kd.S_mono HO117.out (fun _ hk => ⟨hk.2, hk.1⟩)⟩, ⟨by (with_reducible repeat (first | apply Kd.S_alloc | apply Kd.S_drewN | apply Kd.S_drew)); exact Kd.S_mono HO119.out (fun _ hk => ⟨hk.2, hk.1⟩)⟩, ⟨by repeat (first | (with_reducible first | exact HB.out | apply below_alloc | apply pw_below_drewN | apply below_drew1) | exact HB.out)⟩⟩
                  · rw [if_neg c12] at H
                    have c12b0 : ((rd (rd_L1 t114 0) x24_1) == 1000000) = false := beq_eq_false_iff_ne.mpr c12
                    have c12b1 : ((rd (rd_L1 t114 0) x24_1) != 1000000) = true := bne_iff_ne.mpr c12
                    have H' := Aside0.mk H
                    clear H
                    obtain ⟨Ao14, co14, eo14⟩ := Kd.S_slice HO117.out
                    subst eo14
                    have p120 : 0 ≤ (0 : Int) := (by omega)
                    have q120 : 0 < (t114.length : Int) := of_decide_eq_true (by first | (with_reducible assumption) | assumption)
                    obtain ⟨ad120, A120_0, c120_0, e120, hx120_0, hl120_0, hi120_0⟩ := at_L1 (Kd.S_reads' HO117.out).2.2 0 p120 q120
                    cases e120
                    obtain ⟨ce120, hce120, hMe120, hcc120⟩ := Kd.S_get HO117.out [] 0 p120 (by first | exact q120 | exact of_decide_eq_true (by first | (with_reducible assumption) | assumption) | (have e_ := (Kd.S_reads' HO117.out).1; omega))
                    obtain ⟨ve120_0, rfl, ge120_0⟩ := hMe120
                    have hv120_0 := hcc120 0 _ rfl
                    rw [Nat.add_zero, show ((Kd.slice 3 (Kd.int .i64))).sz = 1 from rfl, Nat.mul_one] at hv120_0
                    replace hv120_0 := Option.some.inj (hv120_0.symm.trans hx120_0)
                    rw [hv120_0] at ge120_0
                    have HL120_0 := Aside0.mk (show Kd.R (Kd.int .i64) 3 _ _ _ _ (rd_L1 t114 0) from ge120_0)
                    clear hv120_0 ge120_0
                    clear hcc120 hce120
                    have qi120 : (0 < t114.length) = True := eq_true (by omega)
                    (try rw [show ((0 : Int)).toNat = 0 from rfl] at hx120_0)
                    (try rw [Addr.add_zero'] at hx120_0)
                    have HR120_0 := Aside0.mk hi120_0
                    have HC120_0 := Aside0.mk hl120_0
                    clear hi120_0 hl120_0
                    replace p120 := eq_true p120
                    replace q120 := eq_true q120
                    have p121 : 0 ≤ (x24_1 : Int) := of_decide_eq_true (by first | (with_reducible assumption) | assumption)
                    have q121 : x24_1 < ((rd_L1 t114 0).length : Int) := of_decide_eq_true (by first | (with_reducible assumption) | assumption)
                    obtain ⟨ad121, e121, hx121_0⟩ := Kd.at_int (by repeat (first | (with_reducible exact HR120_0.out) | (with_reducible refine Kd.C_alloc ?_ _) | (with_reducible refine Kd.C_drewN ?_ _) | (with_reducible refine Kd.C_drew ?_) | exact HR120_0.out)) x24_1 p121 q121
                    cases e121
                    replace p121 := eq_true p121
                    replace q121 := eq_true q121
                    have p122 : 0 ≤ (0 : Int) := (by omega)
                    have q122 : 0 < (t114.length : Int) := of_decide_eq_true (by first | (with_reducible assumption) | assumption)
                    obtain ⟨ad122, A122_0, c122_0, e122, hx122_0, hl122_0, hi122_0⟩ := at_L1 (Kd.S_reads' HO117.out).2.2 0 p122 q122
                    obtain rfl : ad120 = ad122 := (by injection e122)
                    obtain ⟨ce122, hce122, hMe122, hcc122⟩ := Kd.S_get HO117.out [] 0 p122 (by first | exact q122 | exact of_decide_eq_true (by first | (with_reducible assumption) | assumption) | (have e_ := (Kd.S_reads' HO117.out).1; omega))
                    obtain ⟨ve122_0, rfl, ge122_0⟩ := hMe122
                    have hv122_0 := hcc122 0 _ rfl
                    rw [Nat.add_zero, show ((Kd.slice 3 (Kd.int .i64))).sz = 1 from rfl, Nat.mul_one] at hv122_0
                    replace hv122_0 := Option.some.inj (hv122_0.symm.trans hx122_0)
                    rw [hv122_0] at ge122_0
                    have HL122_0 := Aside0.mk (show Kd.R (Kd.int .i64) 3 _ _ _ _ (rd_L1 t114 0) from ge122_0)
                    clear hv122_0 ge122_0
                    clear hcc122 hce122
                    have qi122 : (0 < t114.length) = True := eq_true (by omega)
                    (try rw [show ((0 : Int)).toNat = 0 from rfl] at hx122_0)
                    (try rw [Addr.add_zero'] at hx122_0)
                    have HR122_0 := Aside0.mk hi122_0
                    have HC122_0 := Aside0.mk hl122_0
                    clear hi122_0 hl122_0
                    replace p122 := eq_true p122
                    replace q122 := eq_true q122
                    have ea_ := Option.some.inj (hx120_0.symm.trans hx122_0)
                    injection ea_ with ea_ en_ ec_
                    subst ea_
                    subst ec_
                    clear en_
                    have p123 : 0 ≤ (x24_1 : Int) := of_decide_eq_true (by first | (with_reducible assumption) | assumption)
                    have q123 : x24_1 < ((rd_L1 t114 0).length : Int) := of_decide_eq_true (by first | (with_reducible assumption) | assumption)
                    obtain ⟨ad123, e123, hx123_0⟩ := Kd.at_int (by repeat (first | (with_reducible exact HR122_0.out) | (with_reducible refine Kd.C_alloc ?_ _) | (with_reducible refine Kd.C_drewN ?_ _) | (with_reducible refine Kd.C_drew ?_) | exact HR122_0.out)) x24_1 p123 q123
                    cases e123
                    replace p123 := eq_true p123
                    replace q123 := eq_true q123
                    go_wp2
                    repeat (go_quiet (fail); try go_wp2)
                    go_meet
                    case rel => exact ⟨_, (decide ((rd (rd_L1 t114 0) x24_1) > x8_1)), (by first | rfl | (simp; done) | (simp [*]; done)), H', ⟨by have := HK1.out; first | omega | exact Nat.le_refl _⟩, ⟨by (with_reducible repeat (first | apply Kd.R_alloc | apply Kd.R_drewN | apply Kd.R_drew)); exact HO_10.out⟩, ⟨by (with_reducible repeat (first | apply Kd.S_alloc | apply Kd.S_drewN | apply Kd.S_drew)); exact Kd.S_mono HO117.out (fun _ hk => ⟨hk.2, hk.1⟩)⟩, ⟨by (with_reducible repeat (first | apply Kd.S_alloc | apply Kd.S_drewN | apply Kd.S_drew)); exact Kd.S_mono HO119.out (fun _ hk => ⟨hk.2, hk.1⟩)⟩, ⟨by repeat (first | (with_reducible first | exact HB.out | apply below_alloc | apply pw_below_drewN | apply below_drew1) | exact HB.out)⟩⟩
                · rw [if_neg c11] at H
                  exact absurd H (by simp)
              · rw [if_neg c10] at H
                exact absurd H (by simp)
            · rw [if_neg c9] at H
              exact absurd H (by simp)
          case rest =>
            clear HC7
            try clear c1
            try clear p1
            try clear q1
            try clear hx1
            try clear qi1
            try clear c2
            try clear p2
            try clear c4
            try clear c4b0
            try clear c4b1
            try clear c5
            try clear c5b0
            try clear c9
            try clear c9b0
            try clear c9b1
            try clear c10
            try clear c10b0
            try clear c11
            try clear c11b0
            try clear p11
            try clear q11
            try clear hx11
            try clear qi11
            try clear c12
            try clear c12b0
            try clear c12b1
            try clear p12
            try clear q12
            try clear hx12
            try clear qi12
            try clear hx113_0
            try clear hx120_0
            try clear hx121_0
            try clear hx122_0
            try clear hx123_0
            try clear p1
            try clear p113
            try clear p120
            try clear p121
            try clear p122
            try clear p123
            try clear p2
            try clear q1
            try clear q113
            try clear q120
            try clear q121
            try clear q122
            try clear q123
            obtain ⟨kq, x50_6, rfl, HA, HJ6, HO_10, HO_12, HO_13, HB⟩ := hcut
            cases kq with
            | zero => exact absurd HA.out (by simp [spec_rwBest.j1])
            | succ kj6 =>
              have H := HA.out
              clear HA
              simp only [spec_rwBest.j1] at H
              by_cases c15 : x50_6 = true
              · subst c15
                have H1 : (spec_rwBest.l0 kj6 l0 t112 x8_1 x9_1 x10_1 ((rd_L1 l0 0).length : Int) (wrap64 (x24_1 + 1))) = some (r1, r2, r3) := by rw [if_pos rfl] at H; exact H
                clear H
                have H := H1
                clear H1
                have H' := Aside0.mk H
                clear H
                go_wp2
                repeat (go_quiet (fail); try go_wp2)
                go_roundg kj6
                case measure => have := HK1.out; have := HJ6.out; omega
                case rel => exact ⟨(x8_1), (x9_1), (x10_1), (wrap64 (x24_1 + 1)), (by first | rfl | (simp; done) | (simp [*]; done)), (by first | rfl | (simp; done) | (simp [*]; done)), (by first | rfl | (simp; done) | (simp [*]; done)), H', ⟨by have := HK1.out; have := HJ6.out; omega⟩, ⟨by (with_reducible repeat (first | apply Kd.R_alloc | apply Kd.R_drewN | apply Kd.R_drew)); exact HO_10.out⟩, ⟨by repeat (first | (with_reducible first | exact HB.out | apply below_alloc | apply pw_below_drewN | apply below_drew1) | exact HB.out)⟩⟩
              · replace c15 := Bool.eq_false_iff.mpr c15
                subst c15
                have H1 : (if 0 < (t114.length : Int) then (if 0 ≤ x24_1 then (if x24_1 < ((rd_L1 t114 0).length : Int) then (if (rd (rd_L1 t114 0) x24_1) < x8_1 then (spec_rwBest.l1 kj6 l0 t112 (rd (rd_L1 t114 0) x24_1) 0 (([x24_1] : List Int)) x24_1 t114 t115 1 ((rd_L1 l0 0).length : Int) x24_1) else (if 0 < (t115.length : Int) then (if x24_1 < ((rd_L1 t115 0).length : Int) then (spec_rwBest.l0 kj6 l0 t112 x8_1 (wrap64 (x9_1 + (rd (rd_L1 t115 0) x24_1))) x10_1 ((rd_L1 l0 0).length : Int) (wrap64 (x24_1 + 1))) else (none)) else (none))) else (none)) else (none)) else (none)) = some (r1, r2, r3) := by rw [if_neg (show ¬ (false = true) by decide)] at H; exact H
                clear H
                have H := H1
                clear H1
                by_cases c16 : 0 < (t114.length : Int)
                · rw [if_pos c16] at H
                  have c16b0 : decide (0 < (t114.length : Int)) = true := decide_eq_true c16
                  have c16b1 : decide (0 < t114.length) = true := decide_eq_true (by omega)
                  clear c16
                  by_cases c17 : 0 ≤ x24_1
                  · rw [if_pos c17] at H
                    have c17b0 : decide (0 ≤ x24_1) = true := decide_eq_true c17
                    clear c17
                    by_cases c18 : x24_1 < ((rd_L1 t114 0).length : Int)
                    · rw [if_pos c18] at H
                      have c18b0 : decide (x24_1 < ((rd_L1 t114 0).length : Int)) = true := decide_eq_true c18
                      clear c18
                      by_cases c19 : (rd (rd_L1 t114 0) x24_1) < x8_1
                      · rw [if_pos c19] at H
                        have c19b0 : decide ((rd (rd_L1 t114 0) x24_1) < x8_1) = true := decide_eq_true c19
                        clear c19
                        obtain ⟨y128, hy128⟩ : ∃ y_ : List Int, y_ = (([x24_1] : List Int)) := ⟨_, rfl⟩
                        replace H : (spec_rwBest.l1 kj6 l0 t112 (rd (rd_L1 t114 0) x24_1) 0 y128 x24_1 t114 t115 1 ((rd_L1 l0 0).length : Int) x24_1) = some (r1, r2, r3) := by first | (rw [hy128]; with_reducible exact H) | (have H2_ := (Option.bind_some _ _).symm.trans H; rw [hy128]; with_reducible exact H2_) | (have H2_ := (Option.bind_some _ _).symm.trans H; with_reducible exact H2_) | with_reducible exact H | (rw [hy128]; exact H) | exact H
                        have Ny128 := Aside0.mk hy128
                        clear hy128
                        have H' := Aside0.mk H
                        clear H
                        obtain ⟨Ao20, co20, eo20⟩ := Kd.S_slice HO_12.out
                        subst eo20
                        have p124 : 0 ≤ (0 : Int) := (by omega)
                        have q124 : 0 < (t114.length : Int) := of_decide_eq_true (by first | (with_reducible assumption) | assumption)
                        obtain ⟨ad124, A124_0, c124_0, e124, hx124_0, hl124_0, hi124_0⟩ := at_L1 (Kd.S_reads' HO_12.out).2.2 0 p124 q124
                        cases e124
                        obtain ⟨ce124, hce124, hMe124, hcc124⟩ := Kd.S_get HO_12.out [] 0 p124 (by first | exact q124 | exact of_decide_eq_true (by first | (with_reducible assumption) | assumption) | (have e_ := (Kd.S_reads' HO_12.out).1; omega))
                        obtain ⟨ve124_0, rfl, ge124_0⟩ := hMe124
                        have hv124_0 := hcc124 0 _ rfl
                        rw [Nat.add_zero, show ((Kd.slice 3 (Kd.int .i64))).sz = 1 from rfl, Nat.mul_one] at hv124_0
                        replace hv124_0 := Option.some.inj (hv124_0.symm.trans hx124_0)
                        rw [hv124_0] at ge124_0
                        have HL124_0 := Aside0.mk (show Kd.R (Kd.int .i64) 3 _ _ _ _ (rd_L1 t114 0) from ge124_0)
                        clear hv124_0 ge124_0
                        clear hcc124 hce124
                        have qi124 : (0 < t114.length) = True := eq_true (by omega)
                        (try rw [show ((0 : Int)).toNat = 0 from rfl] at hx124_0)
                        (try rw [Addr.add_zero'] at hx124_0)
                        have HR124_0 := Aside0.mk hi124_0
                        have HC124_0 := Aside0.mk hl124_0
                        clear hi124_0 hl124_0
                        replace p124 := eq_true p124
                        replace q124 := eq_true q124
                        have p125 : 0 ≤ (x24_1 : Int) := of_decide_eq_true (by first | (with_reducible assumption) | assumption)
                        have q125 : x24_1 < ((rd_L1 t114 0).length : Int) := of_decide_eq_true (by first | (with_reducible assumption) | assumption)
                        obtain ⟨ad125, e125, hx125_0⟩ := Kd.at_int (by repeat (first | (with_reducible exact HR124_0.out) | (with_reducible refine Kd.C_alloc ?_ _) | (with_reducible refine Kd.C_drewN ?_ _) | (with_reducible refine Kd.C_drew ?_) | exact HR124_0.out)) x24_1 p125 q125
                        cases e125
                        replace p125 := eq_true p125
                        replace q125 := eq_true q125
                        have p126 : 0 ≤ (0 : Int) := (by omega)
                        have q126 : 0 < (t114.length : Int) := of_decide_eq_true (by first | (with_reducible assumption) | assumption)
                        obtain ⟨ad126, A126_0, c126_0, e126, hx126_0, hl126_0, hi126_0⟩ := at_L1 (Kd.S_reads' HO_12.out).2.2 0 p126 q126
                        obtain rfl : ad124 = ad126 := (by injection e126)
                        obtain ⟨ce126, hce126, hMe126, hcc126⟩ := Kd.S_get HO_12.out [] 0 p126 (by first | exact q126 | exact of_decide_eq_true (by first | (with_reducible assumption) | assumption) | (have e_ := (Kd.S_reads' HO_12.out).1; omega))
                        obtain ⟨ve126_0, rfl, ge126_0⟩ := hMe126
                        have hv126_0 := hcc126 0 _ rfl
                        rw [Nat.add_zero, show ((Kd.slice 3 (Kd.int .i64))).sz = 1 from rfl, Nat.mul_one] at hv126_0
                        replace hv126_0 := Option.some.inj (hv126_0.symm.trans hx126_0)
                        rw [hv126_0] at ge126_0
                        have HL126_0 := Aside0.mk (show Kd.R (Kd.int .i64) 3 _ _ _ _ (rd_L1 t114 0) from ge126_0)
                        clear hv126_0 ge126_0
                        clear hcc126 hce126
                        have qi126 : (0 < t114.length) = True := eq_true (by omega)
                        (try rw [show ((0 : Int)).toNat = 0 from rfl] at hx126_0)
                        (try rw [Addr.add_zero'] at hx126_0)
                        have HR126_0 := Aside0.mk hi126_0
                        have HC126_0 := Aside0.mk hl126_0
                        clear hi126_0 hl126_0
                        replace p126 := eq_true p126
                        replace q126 := eq_true q126
                        have ea_ := Option.some.inj (hx124_0.symm.trans hx126_0)
                        injection ea_ with ea_ en_ ec_
                        subst ea_
                        subst ec_
                        clear en_
                        have p127 : 0 ≤ (x24_1 : Int) := of_decide_eq_true (by first | (with_reducible assumption) | assumption)
                        have q127 : x24_1 < ((rd_L1 t114 0).length : Int) := of_decide_eq_true (by first | (with_reducible assumption) | assumption)
                        obtain ⟨ad127, e127, hx127_0⟩ := Kd.at_int (by repeat (first | (with_reducible exact HR126_0.out) | (with_reducible refine Kd.C_alloc ?_ _) | (with_reducible refine Kd.C_drewN ?_ _) | (with_reducible refine Kd.C_drew ?_) | exact HR126_0.out)) x24_1 p127 q127
                        cases e127
                        replace p127 := eq_true p127
                        replace q127 := eq_true q127
                        go_wp2_with (first | ((with_reducible refine gate_dst (N := 66) rfl ?_); refine Kd.R_lit (Kd.int .i64) _ 3 ?hg (N := 66) ?hd (xs := ([x24_1] : List Int)) (inner := [.int .i64 x24_1]) (ok := fun _ => True) (okp := fun _ => True) ?hr ?hp (fun _ hk => hk) trivial (Below.refl _ _) (Nat.le_refl _) (by simp) ?_; (case hd => rfl); (case hg => rfl); (case hr => first | (go_simp; done) | (go_simp; rfl)); (case hp => exact (Reps.one (show Kd.M (Kd.int .i64) _ _ _ x24_1 [.int .i64 x24_1] from rfl) (Reps.none _ _))); intro v129 w21 ho22 hb hg_ hnew_; clear hg_ hnew_; (first | rw [← Ny128.out] at ho22 | (simp only [Int.reduceToNat] at ho22; rw [← Ny128.out] at ho22)); have n0_ := Aside0.mk (Kd.R_elder' (by (with_reducible repeat (first | apply Kd.R_alloc | apply Kd.R_drewN | apply Kd.R_drew)); exact HO_10.out) (Kd.R_base ho22) hb); have n1_ := Aside0.mk (Kd.S_elder' (by (with_reducible repeat (first | apply Kd.S_alloc | apply Kd.S_drewN | apply Kd.S_drew)); exact HO_12.out) (Kd.R_base ho22) hb); have n2_ := Aside0.mk (Kd.S_elder' (by (with_reducible repeat (first | apply Kd.S_alloc | apply Kd.S_drewN | apply Kd.S_drew)); exact HO_13.out) (Kd.R_base ho22) hb); have n3_ := Aside0.mk (Kd.R_elder' (by (with_reducible repeat (first | apply Kd.R_alloc | apply Kd.R_drewN | apply Kd.R_drew)); exact HL124_0.out) (Kd.R_base ho22) hb); have n4_ := Aside0.mk (Kd.R_elder' (by (with_reducible repeat (first | apply Kd.R_alloc | apply Kd.R_drewN | apply Kd.R_drew)); exact HL126_0.out) (Kd.R_base ho22) hb); have n5_ := Aside0.mk (Kd.R_lower (Kd.R_new' (Kd.R_new' (Kd.R_new' ho22 (Kd.R_lt (by (with_reducible repeat (first | apply Kd.R_alloc | apply Kd.R_drewN | apply Kd.R_drew)); exact HO_10.out))) (Kd.R_lt (by (with_reducible repeat (first | apply Kd.R_alloc | apply Kd.R_drewN | apply Kd.R_drew)); exact HL124_0.out))) (Kd.R_lt (by (with_reducible repeat (first | apply Kd.R_alloc | apply Kd.R_drewN | apply Kd.R_drew)); exact HL126_0.out))) (below_size (by repeat (first | (with_reducible first | exact HB.out | apply below_alloc | apply pw_below_drewN | apply below_drew1) | exact HB.out)))); have n6_ := Aside0.mk (Kd.C_below (by repeat (first | (with_reducible exact HR124_0.out) | (with_reducible refine Kd.C_alloc ?_ _) | (with_reducible refine Kd.C_drewN ?_ _) | (with_reducible refine Kd.C_drew ?_) | exact HR124_0.out)) hb); have n7_ := Aside0.mk (Kd.C_below (by repeat (first | (with_reducible exact HR126_0.out) | (with_reducible refine Kd.C_alloc ?_ _) | (with_reducible refine Kd.C_drewN ?_ _) | (with_reducible refine Kd.C_drew ?_) | exact HR126_0.out)) hb); have n8_ := Aside0.mk (below_step (by repeat (first | (with_reducible first | exact HB.out | apply below_alloc | apply pw_below_drewN | apply below_drew1) | exact HB.out)) hb); clear HO_10; clear HO_12; clear HO_13; clear HL124_0; clear HL126_0; clear HR124_0; clear HR126_0; clear HB; have HO_10 := n0_; have HO_12 := n1_; have HO_13 := n2_; have HL124_0 := n3_; have HL126_0 := n4_; have HO130 := n5_; have HR124_0 := n6_; have HR126_0 := n7_; have HB := n8_; clear n0_ n1_ n2_ n3_ n4_ n5_ n6_ n7_ n8_; clear hb ho22))
                        repeat (go_quiet (first | ((with_reducible refine gate_dst (N := 66) rfl ?_); refine Kd.R_lit (Kd.int .i64) _ 3 ?hg (N := 66) ?hd (xs := ([x24_1] : List Int)) (inner := [.int .i64 x24_1]) (ok := fun _ => True) (okp := fun _ => True) ?hr ?hp (fun _ hk => hk) trivial (Below.refl _ _) (Nat.le_refl _) (by simp) ?_; (case hd => rfl); (case hg => rfl); (case hr => first | (go_simp; done) | (go_simp; rfl)); (case hp => exact (Reps.one (show Kd.M (Kd.int .i64) _ _ _ x24_1 [.int .i64 x24_1] from rfl) (Reps.none _ _))); intro v129 w21 ho22 hb hg_ hnew_; clear hg_ hnew_; (first | rw [← Ny128.out] at ho22 | (simp only [Int.reduceToNat] at ho22; rw [← Ny128.out] at ho22)); have n0_ := Aside0.mk (Kd.R_elder' (by (with_reducible repeat (first | apply Kd.R_alloc | apply Kd.R_drewN | apply Kd.R_drew)); exact HO_10.out) (Kd.R_base ho22) hb); have n1_ := Aside0.mk (Kd.S_elder' (by (with_reducible repeat (first | apply Kd.S_alloc | apply Kd.S_drewN | apply Kd.S_drew)); exact HO_12.out) (Kd.R_base ho22) hb); have n2_ := Aside0.mk (Kd.S_elder' (by (with_reducible repeat (first | apply Kd.S_alloc | apply Kd.S_drewN | apply Kd.S_drew)); exact HO_13.out) (Kd.R_base ho22) hb); have n3_ := Aside0.mk (Kd.R_elder' (by (with_reducible repeat (first | apply Kd.R_alloc | apply Kd.R_drewN | apply Kd.R_drew)); exact HL124_0.out) (Kd.R_base ho22) hb); have n4_ := Aside0.mk (Kd.R_elder' (by (with_reducible repeat (first | apply Kd.R_alloc | apply Kd.R_drewN | apply Kd.R_drew)); exact HL126_0.out) (Kd.R_base ho22) hb); have n5_ := Aside0.mk (Kd.R_lower (Kd.R_new' (Kd.R_new' (Kd.R_new' ho22 (Kd.R_lt (by (with_reducible repeat (first | apply Kd.R_alloc | apply Kd.R_drewN | apply Kd.R_drew)); exact HO_10.out))) (Kd.R_lt (by (with_reducible repeat (first | apply Kd.R_alloc | apply Kd.R_drewN | apply Kd.R_drew)); exact HL124_0.out))) (Kd.R_lt (by (with_reducible repeat (first | apply Kd.R_alloc | apply Kd.R_drewN | apply Kd.R_drew)); exact HL126_0.out))) (below_size (by repeat (first | (with_reducible first | exact HB.out | apply below_alloc | apply pw_below_drewN | apply below_drew1) | exact HB.out)))); have n6_ := Aside0.mk (Kd.C_below (by repeat (first | (with_reducible exact HR124_0.out) | (with_reducible refine Kd.C_alloc ?_ _) | (with_reducible refine Kd.C_drewN ?_ _) | (with_reducible refine Kd.C_drew ?_) | exact HR124_0.out)) hb); have n7_ := Aside0.mk (Kd.C_below (by repeat (first | (with_reducible exact HR126_0.out) | (with_reducible refine Kd.C_alloc ?_ _) | (with_reducible refine Kd.C_drewN ?_ _) | (with_reducible refine Kd.C_drew ?_) | exact HR126_0.out)) hb); have n8_ := Aside0.mk (below_step (by repeat (first | (with_reducible first | exact HB.out | apply below_alloc | apply pw_below_drewN | apply below_drew1) | exact HB.out)) hb); clear HO_10; clear HO_12; clear HO_13; clear HL124_0; clear HL126_0; clear HR124_0; clear HR126_0; clear HB; have HO_10 := n0_; have HO_12 := n1_; have HO_13 := n2_; have HL124_0 := n3_; have HL126_0 := n4_; have HO130 := n5_; have HR124_0 := n6_; have HR126_0 := n7_; have HB := n8_; clear n0_ n1_ n2_ n3_ n4_ n5_ n6_ n7_ n8_; clear hb ho22)); try go_wp2_with (first | ((with_reducible refine gate_dst (N := 66) rfl ?_); refine Kd.R_lit (Kd.int .i64) _ 3 ?hg (N := 66) ?hd (xs := ([x24_1] : List Int)) (inner := [.int .i64 x24_1]) (ok := fun _ => True) (okp := fun _ => True) ?hr ?hp (fun _ hk => hk) trivial (Below.refl _ _) (Nat.le_refl _) (by simp) ?_; (case hd => rfl); (case hg => rfl); (case hr => first | (go_simp; done) | (go_simp; rfl)); (case hp => exact (Reps.one (show Kd.M (Kd.int .i64) _ _ _ x24_1 [.int .i64 x24_1] from rfl) (Reps.none _ _))); intro v129 w21 ho22 hb hg_ hnew_; clear hg_ hnew_; (first | rw [← Ny128.out] at ho22 | (simp only [Int.reduceToNat] at ho22; rw [← Ny128.out] at ho22)); have n0_ := Aside0.mk (Kd.R_elder' (by (with_reducible repeat (first | apply Kd.R_alloc | apply Kd.R_drewN | apply Kd.R_drew)); exact HO_10.out) (Kd.R_base ho22) hb); have n1_ := Aside0.mk (Kd.S_elder' (by (with_reducible repeat (first | apply Kd.S_alloc | apply Kd.S_drewN | apply Kd.S_drew)); exact HO_12.out) (Kd.R_base ho22) hb); have n2_ := Aside0.mk (Kd.S_elder' (by (with_reducible repeat (first | apply Kd.S_alloc | apply Kd.S_drewN | apply Kd.S_drew)); exact HO_13.out) (Kd.R_base ho22) hb); have n3_ := Aside0.mk (Kd.R_elder' (by (with_reducible repeat (first | apply Kd.R_alloc | apply Kd.R_drewN | apply Kd.R_drew)); exact HL124_0.out) (Kd.R_base ho22) hb); have n4_ := Aside0.mk (Kd.R_elder' (by (with_reducible repeat (first | apply Kd.R_alloc | apply Kd.R_drewN | apply Kd.R_drew)); exact HL126_0.out) (Kd.R_base ho22) hb); have n5_ := Aside0.mk (Kd.R_lower (Kd.R_new' (Kd.R_new' (Kd.R_new' ho22 (Kd.R_lt (by (with_reducible repeat (first | apply Kd.R_alloc | apply Kd.R_drewN | apply Kd.R_drew)); exact HO_10.out))) (Kd.R_lt (by (with_reducible repeat (first | apply Kd.R_alloc | apply Kd.R_drewN | apply Kd.R_drew)); exact HL124_0.out))) (Kd.R_lt (by (with_reducible repeat (first | apply Kd.R_alloc | apply Kd.R_drewN | apply Kd.R_drew)); exact HL126_0.out))) (below_size (by repeat (first | (with_reducible first | exact HB.out | apply below_alloc | apply pw_below_drewN | apply below_drew1) | exact HB.out)))); have n6_ := Aside0.mk (Kd.C_below (by repeat (first | (with_reducible exact HR124_0.out) | (with_reducible refine Kd.C_alloc ?_ _) | (with_reducible refine Kd.C_drewN ?_ _) | (with_reducible refine Kd.C_drew ?_) | exact HR124_0.out)) hb); have n7_ := Aside0.mk (Kd.C_below (by repeat (first | (with_reducible exact HR126_0.out) | (with_reducible refine Kd.C_alloc ?_ _) | (with_reducible refine Kd.C_drewN ?_ _) | (with_reducible refine Kd.C_drew ?_) | exact HR126_0.out)) hb); have n8_ := Aside0.mk (below_step (by repeat (first | (with_reducible first | exact HB.out | apply below_alloc | apply pw_below_drewN | apply below_drew1) | exact HB.out)) hb); clear HO_10; clear HO_12; clear HO_13; clear HL124_0; clear HL126_0; clear HR124_0; clear HR126_0; clear HB; have HO_10 := n0_; have HO_12 := n1_; have HO_13 := n2_; have HL124_0 := n3_; have HL126_0 := n4_; have HO130 := n5_; have HR124_0 := n6_; have HR126_0 := n7_; have HB := n8_; clear n0_ n1_ n2_ n3_ n4_ n5_ n6_ n7_ n8_; clear hb ho22)))
                        go_loopg [10, 14] kj6 (fun kq v10 v14 w' => ∃ (x10_3 : List Int) (x14_3 : Int), v14 = .int .i64 x14_3 ∧ Aside0 (spec_rwBest.l1 kq l0 t112 (rd (rd_L1 t114 0) x24_1) 0 x10_3 x24_1 t114 t115 x14_3 ((rd_L1 l0 0).length : Int) x24_1 = some (r1, r2, r3)) ∧ Aside0 (kq ≤ kj6) ∧ Aside0 (Kd.R (Kd.int .i64) 3 w' w.heap.size (fun _ => True) v10 x10_3) ∧ Aside0 (Kd.S (Kd.slice 3 (Kd.int .i64)) 24 w' w.heap.size (fun k_ => some k_ ≠ (v10 : Value).ownBlock ∧ some k_ ≠ (v118 : Value).ownBlock) (.slice (some ad124) t114.length co20) t114) ∧ Aside0 (Kd.S (Kd.slice 3 (Kd.int .i64)) 24 w' w.heap.size (fun k_ => some k_ ≠ (v10 : Value).ownBlock ∧ some k_ ≠ ((.slice (some ad124) t114.length co20) : Value).ownBlock) v118 t115) ∧ Aside0 (Below w.heap.size w w'))
                        case atStart => exact ⟨(y128), (1), (by first | rfl | (simp; done) | (simp [*]; done)), H', ⟨Nat.le_refl _⟩, ⟨by (with_reducible repeat (first | apply Kd.R_alloc | apply Kd.R_drewN | apply Kd.R_drew)); exact Kd.R_mono HO130.out (fun _ hk => trivial)⟩, ⟨by (with_reducible repeat (first | apply Kd.S_alloc | apply Kd.S_drewN | apply Kd.S_drew)); exact Kd.S_mono HO_12.out (fun _ hk => ⟨hk.2, hk.1.2⟩)⟩, ⟨by (with_reducible repeat (first | apply Kd.S_alloc | apply Kd.S_drewN | apply Kd.S_drew)); exact Kd.S_mono HO_13.out (fun _ hk => ⟨hk.2, hk.1.2⟩)⟩, ⟨by repeat (first | (with_reducible first | exact HB.out | apply below_alloc | apply pw_below_drewN | apply below_drew1) | exact HB.out)⟩⟩
                        case round =>
                          clear H'
                          try clear c1
                          try clear p1
                          try clear q1
                          try clear hx1
                          try clear qi1
                          try clear c2
                          try clear p2
                          try clear c4
                          try clear c4b0
                          try clear c4b1
                          try clear c5
                          try clear c5b0
                          try clear p6
                          try clear c9
                          try clear c9b0
                          try clear c9b1
                          try clear c10
                          try clear c10b0
                          try clear c11
                          try clear c11b0
                          try clear p11
                          try clear q11
                          try clear hx11
                          try clear qi11
                          try clear c12
                          try clear c12b0
                          try clear c12b1
                          try clear p12
                          try clear q12
                          try clear hx12
                          try clear qi12
                          try clear c15
                          try clear c16
                          try clear c16b0
                          try clear c16b1
                          try clear c17
                          try clear c17b0
                          try clear c18
                          try clear c18b0
                          try clear c19
                          try clear c19b0
                          try clear hx113_0
                          try clear hx120_0
                          try clear hx121_0
                          try clear hx122_0
                          try clear hx123_0
                          try clear hx124_0
                          try clear hx125_0
                          try clear hx126_0
                          try clear hx127_0
                          try clear p1
                          try clear p11
                          try clear p113
                          try clear p12
                          try clear p120
                          try clear p121
                          try clear p122
                          try clear p123
                          try clear p124
                          try clear p125
                          try clear p126
                          try clear p127
                          try clear p2
                          try clear q1
                          try clear q11
                          try clear q113
                          try clear q12
                          try clear q120
                          try clear q121
                          try clear q122
                          try clear q123
                          try clear q124
                          try clear q125
                          try clear q126
                          try clear q127
                          obtain ⟨x10_3, x14_3, rfl, HA, HK3, HO_10, HO_12, HO_13, HB⟩ := hrel
                          cases gk with
                          | zero => exact absurd HA.out (by simp [spec_rwBest.l1])
                          | succ k3 =>
                            have H := HA.out
                            clear HA
                            simp only [spec_rwBest.l1] at H
                            by_cases c23 : x14_3 < (l0.length : Int)
                            · rw [if_pos c23] at H
                              have c23b0 : decide (x14_3 < (l0.length : Int)) = true := decide_eq_true c23
                              clear c23
                              by_cases c24 : 0 < (l0.length : Int)
                              · rw [if_pos c24] at H
                                have c24b0 : decide (0 < (l0.length : Int)) = true := decide_eq_true c24
                                have c24b1 : decide (0 < l0.length) = true := decide_eq_true (by omega)
                                clear c24
                                have H' := Aside0.mk H
                                clear H
                                have p133 : 0 ≤ (0 : Int) := (by omega)
                                have q133 : 0 < (l0.length : Int) := of_decide_eq_true (by first | (with_reducible assumption) | assumption)
                                obtain ⟨ad133, A133_0, c133_0, e133, hx133_0, hl133_0, hi133_0⟩ := at_L1 HR0.out 0 p133 q133
                                obtain rfl : ad113 = ad133 := (by injection e133)
                                have qi133 : (0 < l0.length) = True := eq_true (by omega)
                                (try rw [show ((0 : Int)).toNat = 0 from rfl] at hx133_0)
                                (try rw [Addr.add_zero'] at hx133_0)
                                replace hx133_0 := (HB.out.cell (World.block_lt_of_cell? w _ hx133_0)).trans hx133_0
                                have HR133_0 := Aside0.mk hi133_0
                                have HC133_0 := Aside0.mk hl133_0
                                clear hi133_0 hl133_0
                                replace p133 := eq_true p133
                                replace q133 := eq_true q133
                                go_wp2
                                repeat (go_quiet (fail); try go_wp2)
                                go_loopg [10, 77] k3 (fun kq v10 v77 w' => ∃ (x10_4 : List Int) (x77_4 : Int), v77 = .int .i64 x77_4 ∧ Aside0 (spec_rwBest.l2 kq l0 t112 (rd (rd_L1 t114 0) x24_1) 0 x10_4 x24_1 t114 t115 x14_3 ((rd_L1 l0 0).length : Int) x24_1 ((rd_L1 l0 0).length : Int) x77_4 = some (r1, r2, r3)) ∧ Aside0 (kq ≤ k3) ∧ Aside0 (Kd.R (Kd.int .i64) 3 w' w.heap.size (fun _ => True) v10 x10_4) ∧ Aside0 (Kd.S (Kd.slice 3 (Kd.int .i64)) 24 w' w.heap.size (fun k_ => some k_ ≠ (v10 : Value).ownBlock ∧ some k_ ≠ (v118 : Value).ownBlock) (.slice (some ad124) t114.length co20) t114) ∧ Aside0 (Kd.S (Kd.slice 3 (Kd.int .i64)) 24 w' w.heap.size (fun k_ => some k_ ≠ (v10 : Value).ownBlock ∧ some k_ ≠ ((.slice (some ad124) t114.length co20) : Value).ownBlock) v118 t115) ∧ Aside0 (Below w.heap.size w w'))
                                case atStart => exact ⟨(x10_3), (0), (by first | rfl | (simp; done) | (simp [*]; done)), H', ⟨Nat.le_refl _⟩, ⟨by (with_reducible repeat (first | apply Kd.R_alloc | apply Kd.R_drewN | apply Kd.R_drew)); exact HO_10.out⟩, ⟨by (with_reducible repeat (first | apply Kd.S_alloc | apply Kd.S_drewN | apply Kd.S_drew)); exact HO_12.out⟩, ⟨by (with_reducible repeat (first | apply Kd.S_alloc | apply Kd.S_drewN | apply Kd.S_drew)); exact HO_13.out⟩, ⟨by repeat (first | (with_reducible first | exact HB.out | apply below_alloc | apply pw_below_drewN | apply below_drew1) | exact HB.out)⟩⟩
                                case round =>
                                  clear H'
                                  try clear c1
                                  try clear p1
                                  try clear q1
                                  try clear hx1
                                  try clear qi1
                                  try clear c2
                                  try clear p2
                                  try clear c4
                                  try clear c4b0
                                  try clear c4b1
                                  try clear c5
                                  try clear c5b0
                                  try clear p6
                                  try clear c9
                                  try clear c9b0
                                  try clear c9b1
                                  try clear c10
                                  try clear c10b0
                                  try clear c11
                                  try clear c11b0
                                  try clear p11
                                  try clear q11
                                  try clear hx11
                                  try clear qi11
                                  try clear c12
                                  try clear c12b0
                                  try clear c12b1
                                  try clear p12
                                  try clear q12
                                  try clear hx12
                                  try clear qi12
                                  try clear c13
                                  try clear p13
                                  try clear q13
                                  try clear hx13
                                  try clear qi13
                                  try clear c15
                                  try clear c16
                                  try clear c16b0
                                  try clear c16b1
                                  try clear c17
                                  try clear c17b0
                                  try clear c18
                                  try clear c18b0
                                  try clear c19
                                  try clear c19b0
                                  try clear c23
                                  try clear c23b0
                                  try clear c24
                                  try clear c24b0
                                  try clear c24b1
                                  try clear hx113_0
                                  try clear hx120_0
                                  try clear hx121_0
                                  try clear hx122_0
                                  try clear hx123_0
                                  try clear hx124_0
                                  try clear hx125_0
                                  try clear hx126_0
                                  try clear hx127_0
                                  try clear hx133_0
                                  try clear p1
                                  try clear p11
                                  try clear p113
                                  try clear p12
                                  try clear p120
                                  try clear p121
                                  try clear p122
                                  try clear p123
                                  try clear p124
                                  try clear p125
                                  try clear p126
                                  try clear p127
                                  try clear p133
                                  try clear p2
                                  try clear p6
                                  try clear q1
                                  try clear q11
                                  try clear q113
                                  try clear q12
                                  try clear q120
                                  try clear q121
                                  try clear q122
                                  try clear q123
                                  try clear q124
                                  try clear q125
                                  try clear q126
                                  try clear q127
                                  try clear q133
                                  obtain ⟨x10_4, x77_4, rfl, HA, HK4, HO_10, HO_12, HO_13, HB⟩ := hrel
                                  cases gk with
                                  | zero => exact absurd HA.out (by simp [spec_rwBest.l2])
                                  | succ k4 =>
                                    have H := HA.out
                                    clear HA
                                    simp only [spec_rwBest.l2] at H
                                    by_cases c25 : x77_4 < ((rd_L1 l0 0).length : Int)
                                    · rw [if_pos c25] at H
                                      have c25b0 : decide (x77_4 < ((rd_L1 l0 0).length : Int)) = true := decide_eq_true c25
                                      clear c25
                                      obtain ⟨ji26, hji26⟩ : ∃ j_ : Int, (wrap64 (x14_3 - 1)) = j_ := ⟨_, rfl⟩
                                      replace H : (if 0 ≤ (ji26) then (if (ji26) < (x10_4.length : Int) then (if x77_4 = (rd x10_4 (ji26)) then (spec_rwBest.l2 k4 l0 t112 (rd (rd_L1 t114 0) x24_1) 0 x10_4 x24_1 t114 t115 x14_3 ((rd_L1 l0 0).length : Int) x24_1 ((rd_L1 l0 0).length : Int) (wrap64 (x77_4 + 1))) else (if 0 ≤ x14_3 then (if x14_3 < (t114.length : Int) then (if 0 ≤ x77_4 then (if x77_4 < ((rd_L1 t114 x14_3).length : Int) then (if (rd (rd_L1 t114 x14_3) x77_4) = 1000000 then (spec_rwBest.l2 k4 l0 t112 (rd (rd_L1 t114 0) x24_1) 0 x10_4 x24_1 t114 t115 x14_3 ((rd_L1 l0 0).length : Int) x24_1 ((rd_L1 l0 0).length : Int) (wrap64 (x77_4 + 1))) else (if (ji26) < (l0.length : Int) then (if 0 ≤ (rd x10_4 (ji26)) then (if (rd x10_4 (ji26)) < ((rd_L1 l0 (ji26)).length : Int) then (if (ji26) < (t114.length : Int) then (if (rd x10_4 (ji26)) < ((rd_L1 t114 (ji26)).length : Int) then (if (wrap64 ((rd (rd_L1 l0 (ji26)) (rd x10_4 (ji26))) + (rd (rd_L1 t114 x14_3) x77_4))) = (rd (rd_L1 t114 (ji26)) (rd x10_4 (ji26))) then (if x10_4.length < 17592186044416 then (spec_rwBest.l1 k4 l0 t112 (rd (rd_L1 t114 0) x24_1) 0 (x10_4 ++ [x77_4]) x24_1 t114 t115 (wrap64 (x14_3 + 1)) ((rd_L1 l0 0).length : Int) x24_1) else (none)) else (spec_rwBest.l2 k4 l0 t112 (rd (rd_L1 t114 0) x24_1) 0 x10_4 x24_1 t114 t115 x14_3 ((rd_L1 l0 0).length : Int) x24_1 ((rd_L1 l0 0).length : Int) (wrap64 (x77_4 + 1)))) else (none)) else (none)) else (none)) else (none)) else (none))) else (none)) else (none)) else (none)) else (none))) else (none)) else (none)) = some (r1, r2, r3) := by first | (rw [hji26] at H; exact H) | (simp only [hji26] at H ⊢; exact H)
                                      have hji26w : (IntKind.i64.wrap (x14_3 - 1)) = ji26 := (i64_w _).trans hji26
                                      by_cases c27 : 0 ≤ (ji26)
                                      · rw [if_pos c27] at H
                                        have c27b0 : decide (0 ≤ (ji26)) = true := decide_eq_true c27
                                        clear c27
                                        by_cases c28 : (ji26) < (x10_4.length : Int)
                                        · rw [if_pos c28] at H
                                          have c28b0 : decide ((ji26) < (x10_4.length : Int)) = true := decide_eq_true c28
                                          clear c28
                                          by_cases c29 : x77_4 = (rd x10_4 (ji26))
                                          · rw [if_pos c29] at H
                                            have c29b0 : (x77_4 == (rd x10_4 (ji26))) = true := beq_iff_eq.mpr c29
                                            have c29b1 : (x77_4 != (rd x10_4 (ji26))) = false := bne_eq_false_iff_eq.mpr c29
                                            clear c29
                                            have H' := Aside0.mk H
                                            clear H
                                            obtain ⟨Ao30, co30, eo30⟩ := Kd.R_slice HO_10.out
                                            subst eo30
                                            have p134 : 0 ≤ ((ji26) : Int) := of_decide_eq_true (by first | (with_reducible assumption) | assumption)
                                            have q134 : (ji26) < (x10_4.length : Int) := of_decide_eq_true (by first | (with_reducible assumption) | assumption)
                                            obtain ⟨ad134, e134, hx134_0⟩ := Kd.at_int (Kd.R_reads' HO_10.out).2.2 (ji26) p134 q134
                                            cases e134
                                            replace p134 := eq_true p134
                                            replace q134 := eq_true q134
                                            go_wp2
                                            repeat (go_quiet (fail); try go_wp2)
                                            go_roundg k4
                                            case measure => have := HK1.out; have := HJ6.out; have := HK3.out; have := HK4.out; omega
                                            case rel => exact ⟨(x10_4), (wrap64 (x77_4 + 1)), (by first | rfl | (simp; done) | (simp [*]; done)), H', ⟨by have := HK1.out; have := HJ6.out; have := HK3.out; have := HK4.out; omega⟩, ⟨by (with_reducible repeat (first | apply Kd.R_alloc | apply Kd.R_drewN | apply Kd.R_drew)); exact HO_10.out⟩, ⟨by (with_reducible repeat (first | apply Kd.S_alloc | apply Kd.S_drewN | apply Kd.S_drew)); exact HO_12.out⟩, ⟨by (with_reducible repeat (first | apply Kd.S_alloc | apply Kd.S_drewN | apply Kd.S_drew)); exact HO_13.out⟩, ⟨by repeat (first | (with_reducible first | exact HB.out | apply below_alloc | apply pw_below_drewN | apply below_drew1) | exact HB.out)⟩⟩
                                          · rw [if_neg c29] at H
                                            have c29b0 : (x77_4 == (rd x10_4 (ji26))) = false := beq_eq_false_iff_ne.mpr c29
                                            have c29b1 : (x77_4 != (rd x10_4 (ji26))) = true := bne_iff_ne.mpr c29
                                            by_cases c31 : 0 ≤ x14_3
                                            · rw [if_pos c31] at H
                                              have c31b0 : decide (0 ≤ x14_3) = true := decide_eq_true c31
                                              clear c31
                                              by_cases c32 : x14_3 < (t114.length : Int)
                                              · rw [if_pos c32] at H
                                                have c32b0 : decide (x14_3 < (t114.length : Int)) = true := decide_eq_true c32
                                                clear c32
                                                by_cases c33 : 0 ≤ x77_4
                                                · rw [if_pos c33] at H
                                                  have c33b0 : decide (0 ≤ x77_4) = true := decide_eq_true c33
                                                  clear c33
                                                  by_cases c34 : x77_4 < ((rd_L1 t114 x14_3).length : Int)
                                                  · rw [if_pos c34] at H
                                                    have c34b0 : decide (x77_4 < ((rd_L1 t114 x14_3).length : Int)) = true := decide_eq_true c34
                                                    clear c34
                                                    by_cases c35 : (rd (rd_L1 t114 x14_3) x77_4) = 1000000
                                                    · rw [if_pos c35] at H
                                                      have c35b0 : ((rd (rd_L1 t114 x14_3) x77_4) == 1000000) = true := beq_iff_eq.mpr c35
                                                      have c35b1 : ((rd (rd_L1 t114 x14_3) x77_4) != 1000000) = false := bne_eq_false_iff_eq.mpr c35
                                                      clear c35
                                                      have H' := Aside0.mk H
                                                      clear H
                                                      obtain ⟨Ao36, co36, eo36⟩ := Kd.R_slice HO_10.out
                                                      subst eo36
                                                      have p134 : 0 ≤ ((ji26) : Int) := of_decide_eq_true (by first | (with_reducible assumption) | assumption)
                                                      have q134 : (ji26) < (x10_4.length : Int) := of_decide_eq_true (by first | (with_reducible assumption) | assumption)
                                                      obtain ⟨ad134, e134, hx134_0⟩ := Kd.at_int (Kd.R_reads' HO_10.out).2.2 (ji26) p134 q134
                                                      cases e134
                                                      replace p134 := eq_true p134
                                                      replace q134 := eq_true q134
                                                      have p135 : 0 ≤ (x14_3 : Int) := of_decide_eq_true (by first | (with_reducible assumption) | assumption)
                                                      have q135 : x14_3 < (t114.length : Int) := of_decide_eq_true (by first | (with_reducible assumption) | assumption)
                                                      obtain ⟨ad135, A135_0, c135_0, e135, hx135_0, hl135_0, hi135_0⟩ := at_L1 (Kd.S_reads' HO_12.out).2.2 x14_3 p135 q135
                                                      obtain rfl : ad124 = ad135 := (by injection e135)
                                                      obtain ⟨ce135, hce135, hMe135, hcc135⟩ := Kd.S_get HO_12.out [] x14_3 p135 (by first | exact q135 | exact of_decide_eq_true (by first | (with_reducible assumption) | assumption) | (have e_ := (Kd.S_reads' HO_12.out).1; omega))
                                                      obtain ⟨ve135_0, rfl, ge135_0⟩ := hMe135
                                                      have hv135_0 := hcc135 0 _ rfl
                                                      rw [Nat.add_zero, show ((Kd.slice 3 (Kd.int .i64))).sz = 1 from rfl, Nat.mul_one] at hv135_0
                                                      replace hv135_0 := Option.some.inj (hv135_0.symm.trans hx135_0)
                                                      rw [hv135_0] at ge135_0
                                                      have HL135_0 := Aside0.mk (show Kd.R (Kd.int .i64) 3 _ _ _ _ (rd_L1 t114 x14_3) from ge135_0)
                                                      clear hv135_0 ge135_0
                                                      clear hcc135 hce135
                                                      have HR135_0 := Aside0.mk hi135_0
                                                      have HC135_0 := Aside0.mk hl135_0
                                                      clear hi135_0 hl135_0
                                                      replace p135 := eq_true p135
                                                      replace q135 := eq_true q135
                                                      have p136 : 0 ≤ (x77_4 : Int) := of_decide_eq_true (by first | (with_reducible assumption) | assumption)
                                                      have q136 : x77_4 < ((rd_L1 t114 x14_3).length : Int) := of_decide_eq_true (by first | (with_reducible assumption) | assumption)
                                                      obtain ⟨ad136, e136, hx136_0⟩ := Kd.at_int (by repeat (first | (with_reducible exact HR135_0.out) | (with_reducible refine Kd.C_alloc ?_ _) | (with_reducible refine Kd.C_drewN ?_ _) | (with_reducible refine Kd.C_drew ?_) | exact HR135_0.out)) x77_4 p136 q136
                                                      cases e136
                                                      replace p136 := eq_true p136
                                                      replace q136 := eq_true q136
                                                      go_wp2
                                                      repeat (go_quiet (fail); try go_wp2)
                                                      go_roundg k4
                                                      case measure => have := HK1.out; have := HJ6.out; have := HK3.out; have := HK4.out; omega
                                                      case rel => exact ⟨(x10_4), (wrap64 (x77_4 + 1)), (by first | rfl | (simp; done) | (simp [*]; done)), H', ⟨by have := HK1.out; have := HJ6.out; have := HK3.out; have := HK4.out; omega⟩, ⟨by (with_reducible repeat (first | apply Kd.R_alloc | apply Kd.R_drewN | apply Kd.R_drew)); exact HO_10.out⟩, ⟨by (with_reducible repeat (first | apply Kd.S_alloc | apply Kd.S_drewN | apply Kd.S_drew)); exact HO_12.out⟩, ⟨by (with_reducible repeat (first | apply Kd.S_alloc | apply Kd.S_drewN | apply Kd.S_drew)); exact HO_13.out⟩, ⟨by repeat (first | (with_reducible first | exact HB.out | apply below_alloc | apply pw_below_drewN | apply below_drew1) | exact HB.out)⟩⟩
                                                    · rw [if_neg c35] at H
                                                      have c35b0 : ((rd (rd_L1 t114 x14_3) x77_4) == 1000000) = false := beq_eq_false_iff_ne.mpr c35
                                                      have c35b1 : ((rd (rd_L1 t114 x14_3) x77_4) != 1000000) = true := bne_iff_ne.mpr c35
                                                      by_cases c37 : (ji26) < (l0.length : Int)
                                                      · rw [if_pos c37] at H
                                                        have c37b0 : decide ((ji26) < (l0.length : Int)) = true := decide_eq_true c37
                                                        clear c37
                                                        by_cases c38 : 0 ≤ (rd x10_4 (ji26))
                                                        · rw [if_pos c38] at H
                                                          have c38b0 : decide (0 ≤ (rd x10_4 (ji26))) = true := decide_eq_true c38
                                                          clear c38
                                                          by_cases c39 : (rd x10_4 (ji26)) < ((rd_L1 l0 (ji26)).length : Int)
                                                          · rw [if_pos c39] at H
                                                            have c39b0 : decide ((rd x10_4 (ji26)) < ((rd_L1 l0 (ji26)).length : Int)) = true := decide_eq_true c39
                                                            clear c39
                                                            by_cases c40 : (ji26) < (t114.length : Int)
                                                            · rw [if_pos c40] at H
                                                              have c40b0 : decide ((ji26) < (t114.length : Int)) = true := decide_eq_true c40
                                                              clear c40
                                                              by_cases c41 : (rd x10_4 (ji26)) < ((rd_L1 t114 (ji26)).length : Int)
                                                              · rw [if_pos c41] at H
                                                                have c41b0 : decide ((rd x10_4 (ji26)) < ((rd_L1 t114 (ji26)).length : Int)) = true := decide_eq_true c41
                                                                clear c41
                                                                by_cases c42 : (wrap64 ((rd (rd_L1 l0 (ji26)) (rd x10_4 (ji26))) + (rd (rd_L1 t114 x14_3) x77_4))) = (rd (rd_L1 t114 (ji26)) (rd x10_4 (ji26)))
                                                                · rw [if_pos c42] at H
                                                                  have c42b0 : ((wrap64 ((rd (rd_L1 l0 (ji26)) (rd x10_4 (ji26))) + (rd (rd_L1 t114 x14_3) x77_4))) == (rd (rd_L1 t114 (ji26)) (rd x10_4 (ji26)))) = true := beq_iff_eq.mpr c42
                                                                  have c42b1 : ((wrap64 ((rd (rd_L1 l0 (ji26)) (rd x10_4 (ji26))) + (rd (rd_L1 t114 x14_3) x77_4))) != (rd (rd_L1 t114 (ji26)) (rd x10_4 (ji26)))) = false := bne_eq_false_iff_eq.mpr c42
                                                                  clear c42
                                                                  by_cases c43 : x10_4.length < 17592186044416
                                                                  · rw [if_pos c43] at H
                                                                    have LMc43 := Aside0.mk c43
                                                                    clear c43
                                                                    obtain ⟨y145, hy145⟩ : ∃ y_ : List Int, y_ = (x10_4 ++ [x77_4]) := ⟨_, rfl⟩
                                                                    replace H : (spec_rwBest.l1 k4 l0 t112 (rd (rd_L1 t114 0) x24_1) 0 y145 x24_1 t114 t115 (wrap64 (x14_3 + 1)) ((rd_L1 l0 0).length : Int) x24_1) = some (r1, r2, r3) := by first | (rw [hy145]; with_reducible exact H) | (have H2_ := (Option.bind_some _ _).symm.trans H; rw [hy145]; with_reducible exact H2_) | (have H2_ := (Option.bind_some _ _).symm.trans H; with_reducible exact H2_) | with_reducible exact H | (rw [hy145]; exact H) | exact H
                                                                    have Ny145 := Aside0.mk hy145
                                                                    clear hy145
                                                                    have H' := Aside0.mk H
                                                                    clear H
                                                                    obtain ⟨Ao44, co44, eo44⟩ := Kd.R_slice HO_10.out
                                                                    subst eo44
                                                                    have p134 : 0 ≤ ((ji26) : Int) := of_decide_eq_true (by first | (with_reducible assumption) | assumption)
                                                                    have q134 : (ji26) < (x10_4.length : Int) := of_decide_eq_true (by first | (with_reducible assumption) | assumption)
                                                                    obtain ⟨ad134, e134, hx134_0⟩ := Kd.at_int (Kd.R_reads' HO_10.out).2.2 (ji26) p134 q134
                                                                    cases e134
                                                                    replace p134 := eq_true p134
                                                                    replace q134 := eq_true q134
                                                                    have p135 : 0 ≤ (x14_3 : Int) := of_decide_eq_true (by first | (with_reducible assumption) | assumption)
                                                                    have q135 : x14_3 < (t114.length : Int) := of_decide_eq_true (by first | (with_reducible assumption) | assumption)
                                                                    obtain ⟨ad135, A135_0, c135_0, e135, hx135_0, hl135_0, hi135_0⟩ := at_L1 (Kd.S_reads' HO_12.out).2.2 x14_3 p135 q135
                                                                    obtain rfl : ad124 = ad135 := (by injection e135)
                                                                    obtain ⟨ce135, hce135, hMe135, hcc135⟩ := Kd.S_get HO_12.out [] x14_3 p135 (by first | exact q135 | exact of_decide_eq_true (by first | (with_reducible assumption) | assumption) | (have e_ := (Kd.S_reads' HO_12.out).1; omega))
                                                                    obtain ⟨ve135_0, rfl, ge135_0⟩ := hMe135
                                                                    have hv135_0 := hcc135 0 _ rfl
                                                                    rw [Nat.add_zero, show ((Kd.slice 3 (Kd.int .i64))).sz = 1 from rfl, Nat.mul_one] at hv135_0
                                                                    replace hv135_0 := Option.some.inj (hv135_0.symm.trans hx135_0)
                                                                    rw [hv135_0] at ge135_0
                                                                    have HL135_0 := Aside0.mk (show Kd.R (Kd.int .i64) 3 _ _ _ _ (rd_L1 t114 x14_3) from ge135_0)
                                                                    clear hv135_0 ge135_0
                                                                    clear hcc135 hce135
                                                                    have HR135_0 := Aside0.mk hi135_0
                                                                    have HC135_0 := Aside0.mk hl135_0
                                                                    clear hi135_0 hl135_0
                                                                    replace p135 := eq_true p135
                                                                    replace q135 := eq_true q135
                                                                    have p136 : 0 ≤ (x77_4 : Int) := of_decide_eq_true (by first | (with_reducible assumption) | assumption)
                                                                    have q136 : x77_4 < ((rd_L1 t114 x14_3).length : Int) := of_decide_eq_true (by first | (with_reducible assumption) | assumption)
                                                                    obtain ⟨ad136, e136, hx136_0⟩ := Kd.at_int (by repeat (first | (with_reducible exact HR135_0.out) | (with_reducible refine Kd.C_alloc ?_ _) | (with_reducible refine Kd.C_drewN ?_ _) | (with_reducible refine Kd.C_drew ?_) | exact HR135_0.out)) x77_4 p136 q136
                                                                    cases e136
                                                                    replace p136 := eq_true p136
                                                                    replace q136 := eq_true q136
                                                                    have p137 : 0 ≤ ((ji26) : Int) := of_decide_eq_true (by first | (with_reducible assumption) | assumption)
                                                                    have q137 : (ji26) < (l0.length : Int) := of_decide_eq_true (by first | (with_reducible assumption) | assumption)
                                                                    obtain ⟨ad137, A137_0, c137_0, e137, hx137_0, hl137_0, hi137_0⟩ := at_L1 HR0.out (ji26) p137 q137
                                                                    obtain rfl : ad113 = ad137 := (by injection e137)
                                                                    replace hx137_0 := (HB.out.cell (World.block_lt_of_cell? w _ hx137_0)).trans hx137_0
                                                                    have HR137_0 := Aside0.mk hi137_0
                                                                    have HC137_0 := Aside0.mk hl137_0
                                                                    clear hi137_0 hl137_0
                                                                    replace p137 := eq_true p137
                                                                    replace q137 := eq_true q137
                                                                    have p138 : 0 ≤ ((ji26) : Int) := of_decide_eq_true (by first | (with_reducible assumption) | assumption)
                                                                    have q138 : (ji26) < (x10_4.length : Int) := of_decide_eq_true (by first | (with_reducible assumption) | assumption)
                                                                    obtain ⟨ad138, e138, hx138_0⟩ := Kd.at_int (Kd.R_reads' HO_10.out).2.2 (ji26) p138 q138
                                                                    obtain rfl : ad134 = ad138 := (by injection e138)
                                                                    replace p138 := eq_true p138
                                                                    replace q138 := eq_true q138
                                                                    have p139 : 0 ≤ ((rd x10_4 (ji26)) : Int) := of_decide_eq_true (by first | (with_reducible assumption) | assumption)
                                                                    have q139 : (rd x10_4 (ji26)) < ((rd_L1 l0 (ji26)).length : Int) := of_decide_eq_true (by first | (with_reducible assumption) | assumption)
                                                                    obtain ⟨ad139, e139, hx139_0⟩ := Kd.at_int HR137_0.out (rd x10_4 (ji26)) p139 q139
                                                                    cases e139
                                                                    replace hx139_0 := (HB.out.cell (World.block_lt_of_cell? w _ hx139_0)).trans hx139_0
                                                                    replace p139 := eq_true p139
                                                                    replace q139 := eq_true q139
                                                                    have p140 : 0 ≤ (x14_3 : Int) := of_decide_eq_true (by first | (with_reducible assumption) | assumption)
                                                                    have q140 : x14_3 < (t114.length : Int) := of_decide_eq_true (by first | (with_reducible assumption) | assumption)
                                                                    obtain ⟨ad140, A140_0, c140_0, e140, hx140_0, hl140_0, hi140_0⟩ := at_L1 (Kd.S_reads' HO_12.out).2.2 x14_3 p140 q140
                                                                    obtain rfl : ad124 = ad140 := (by injection e140)
                                                                    obtain ⟨ce140, hce140, hMe140, hcc140⟩ := Kd.S_get HO_12.out [] x14_3 p140 (by first | exact q140 | exact of_decide_eq_true (by first | (with_reducible assumption) | assumption) | (have e_ := (Kd.S_reads' HO_12.out).1; omega))
                                                                    obtain ⟨ve140_0, rfl, ge140_0⟩ := hMe140
                                                                    have hv140_0 := hcc140 0 _ rfl
                                                                    rw [Nat.add_zero, show ((Kd.slice 3 (Kd.int .i64))).sz = 1 from rfl, Nat.mul_one] at hv140_0
                                                                    replace hv140_0 := Option.some.inj (hv140_0.symm.trans hx140_0)
                                                                    rw [hv140_0] at ge140_0
                                                                    have HL140_0 := Aside0.mk (show Kd.R (Kd.int .i64) 3 _ _ _ _ (rd_L1 t114 x14_3) from ge140_0)
                                                                    clear hv140_0 ge140_0
                                                                    clear hcc140 hce140
                                                                    have HR140_0 := Aside0.mk hi140_0
                                                                    have HC140_0 := Aside0.mk hl140_0
                                                                    clear hi140_0 hl140_0
                                                                    replace p140 := eq_true p140
                                                                    replace q140 := eq_true q140
                                                                    have ea_ := Option.some.inj (hx135_0.symm.trans hx140_0)
                                                                    injection ea_ with ea_ en_ ec_
                                                                    subst ea_
                                                                    subst ec_
                                                                    clear en_
                                                                    have p141 : 0 ≤ (x77_4 : Int) := of_decide_eq_true (by first | (with_reducible assumption) | assumption)
                                                                    have q141 : x77_4 < ((rd_L1 t114 x14_3).length : Int) := of_decide_eq_true (by first | (with_reducible assumption) | assumption)
                                                                    obtain ⟨ad141, e141, hx141_0⟩ := Kd.at_int (by repeat (first | (with_reducible exact HR140_0.out) | (with_reducible refine Kd.C_alloc ?_ _) | (with_reducible refine Kd.C_drewN ?_ _) | (with_reducible refine Kd.C_drew ?_) | exact HR140_0.out)) x77_4 p141 q141
                                                                    cases e141
                                                                    replace p141 := eq_true p141
                                                                    replace q141 := eq_true q141
                                                                    have p142 : 0 ≤ ((ji26) : Int) := of_decide_eq_true (by first | (with_reducible assumption) | assumption)
                                                                    have q142 : (ji26) < (t114.length : Int) := of_decide_eq_true (by first | (with_reducible assumption) | assumption)
                                                                    obtain ⟨ad142, A142_0, c142_0, e142, hx142_0, hl142_0, hi142_0⟩ := at_L1 (Kd.S_reads' HO_12.out).2.2 (ji26) p142 q142
                                                                    obtain rfl : ad124 = ad142 := (by injection e142)
                                                                    obtain ⟨ce142, hce142, hMe142, hcc142⟩ := Kd.S_get HO_12.out [] (ji26) p142 (by first | exact q142 | exact of_decide_eq_true (by first | (with_reducible assumption) | assumption) | (have e_ := (Kd.S_reads' HO_12.out).1; omega))
                                                                    obtain ⟨ve142_0, rfl, ge142_0⟩ := hMe142
                                                                    have hv142_0 := hcc142 0 _ rfl
                                                                    rw [Nat.add_zero, show ((Kd.slice 3 (Kd.int .i64))).sz = 1 from rfl, Nat.mul_one] at hv142_0
                                                                    replace hv142_0 := Option.some.inj (hv142_0.symm.trans hx142_0)
                                                                    rw [hv142_0] at ge142_0
                                                                    have HL142_0 := Aside0.mk (show Kd.R (Kd.int .i64) 3 _ _ _ _ (rd_L1 t114 (ji26)) from ge142_0)
                                                                    clear hv142_0 ge142_0
                                                                    clear hcc142 hce142
                                                                    have HR142_0 := Aside0.mk hi142_0
                                                                    have HC142_0 := Aside0.mk hl142_0
                                                                    clear hi142_0 hl142_0
                                                                    replace p142 := eq_true p142
                                                                    replace q142 := eq_true q142
                                                                    have p143 : 0 ≤ ((ji26) : Int) := of_decide_eq_true (by first | (with_reducible assumption) | assumption)
                                                                    have q143 : (ji26) < (x10_4.length : Int) := of_decide_eq_true (by first | (with_reducible assumption) | assumption)
                                                                    obtain ⟨ad143, e143, hx143_0⟩ := Kd.at_int (Kd.R_reads' HO_10.out).2.2 (ji26) p143 q143
                                                                    obtain rfl : ad134 = ad143 := (by injection e143)
                                                                    replace p143 := eq_true p143
                                                                    replace q143 := eq_true q143
                                                                    have p144 : 0 ≤ ((rd x10_4 (ji26)) : Int) := of_decide_eq_true (by first | (with_reducible assumption) | assumption)
                                                                    have q144 : (rd x10_4 (ji26)) < ((rd_L1 t114 (ji26)).length : Int) := of_decide_eq_true (by first | (with_reducible assumption) | assumption)
                                                                    obtain ⟨ad144, e144, hx144_0⟩ := Kd.at_int (by repeat (first | (with_reducible exact HR142_0.out) | (with_reducible refine Kd.C_alloc ?_ _) | (with_reducible refine Kd.C_drewN ?_ _) | (with_reducible refine Kd.C_drew ?_) | exact HR142_0.out)) (rd x10_4 (ji26)) p144 q144
                                                                    cases e144
                                                                    replace p144 := eq_true p144
                                                                    replace q144 := eq_true q144
                                                                    go_wp2_with (first | ((with_reducible refine gate_builtin (b := .append) (xs := #[.tmp 132, .tmp 134]) rfl ?_); at_builtin; refine Kd.R_append (Kd.int .i64) (w0 := w) w.heap.size rfl (.tmp 132) (.tmp 134) 24 3 (.int .i64 0) 8 rfl Try.underlying24 info3 rfl (by decide) (by omega) (.slice (some ad134) x10_4.length co44) x10_4 x77_4 [.int .i64 x77_4] (fun _ => True) (fun _ => False) rfl rfl ?aP (fun _ hk => hk.elim) ?aF ?aO ?aB ?aS ?aL ?_; (case aP => exact rfl); (case aB => exact (by repeat (first | (with_reducible first | exact HB.out | apply below_alloc | apply pw_below_drewN | apply below_drew1) | exact HB.out))); (case aF => exact (fun _ _ => trivial)); (case aO => exact (by (with_reducible repeat (first | apply Kd.R_alloc | apply Kd.R_drewN | apply Kd.R_drew)); exact HO_10.out)); (case aS => exact (below_size (by repeat (first | (with_reducible first | exact HB.out | apply below_alloc | apply pw_below_drewN | apply below_drew1) | exact HB.out)))); (case aL => have := LMc43.out; omega); intro v146 w45 ho hb hg hat; rw [← Ny145.out] at ho; have n0_ := Aside0.mk (Kd.S_after (ok := (fun k_ => some k_ ≠ (v118 : Value).ownBlock)) (by (with_reducible repeat (first | apply Kd.S_alloc | apply Kd.S_drewN | apply Kd.S_drew)); exact Kd.S_mono HO_12.out (fun _ hk => ⟨hk.2, hk.1⟩)) hg hat); have n1_ := Aside0.mk (Kd.S_after (ok := (fun k_ => some k_ ≠ (.slice (some ad124) t114.length co20 : Value).ownBlock)) (by (with_reducible repeat (first | apply Kd.S_alloc | apply Kd.S_drewN | apply Kd.S_drew)); exact Kd.S_mono HO_13.out (fun _ hk => ⟨hk.2, hk.1⟩)) hg hat); have n2_ := Aside0.mk (Kd.R_after (ok := (fun k_ => some k_ ≠ (.slice (some ad124) t114.length co20 : Value).ownBlock ∧ some k_ ≠ (v118 : Value).ownBlock)) (by (with_reducible repeat (first | apply Kd.R_alloc | apply Kd.R_drewN | apply Kd.R_drew)); exact Kd.R_mono HL135_0.out (fun _ hk => ⟨⟨hk.2, hk.1.2⟩, hk.1.1⟩)) hg hat); have n3_ := Aside0.mk (Kd.R_after (ok := (fun k_ => some k_ ≠ (.slice (some ad124) t114.length co20 : Value).ownBlock ∧ some k_ ≠ (v118 : Value).ownBlock)) (by (with_reducible repeat (first | apply Kd.R_alloc | apply Kd.R_drewN | apply Kd.R_drew)); exact Kd.R_mono HL140_0.out (fun _ hk => ⟨⟨hk.2, hk.1.2⟩, hk.1.1⟩)) hg hat); have n4_ := Aside0.mk (Kd.R_after (ok := (fun k_ => some k_ ≠ (.slice (some ad124) t114.length co20 : Value).ownBlock ∧ some k_ ≠ (v118 : Value).ownBlock)) (by (with_reducible repeat (first | apply Kd.R_alloc | apply Kd.R_drewN | apply Kd.R_drew)); exact Kd.R_mono HL142_0.out (fun _ hk => ⟨⟨hk.2, hk.1.2⟩, hk.1.1⟩)) hg hat); have n5_ := Aside0.mk (hb); have n6_ := Aside0.mk (ho); clear HO_12; clear HO_13; clear HL135_0; clear HL140_0; clear HL142_0; clear HB; clear HO_10; have HO_12 := n0_; have HO_13 := n1_; have HL135_0 := n2_; have HL140_0 := n3_; have HL142_0 := n4_; have HB := n5_; have HO147 := n6_; clear n0_ n1_ n2_ n3_ n4_ n5_ n6_; clear ho hb hg hat))
                                                                    repeat (go_quiet (first | ((with_reducible refine gate_builtin (b := .append) (xs := #[.tmp 132, .tmp 134]) rfl ?_); at_builtin; refine Kd.R_append (Kd.int .i64) (w0 := w) w.heap.size rfl (.tmp 132) (.tmp 134) 24 3 (.int .i64 0) 8 rfl Try.underlying24 info3 rfl (by decide) (by omega) (.slice (some ad134) x10_4.length co44) x10_4 x77_4 [.int .i64 x77_4] (fun _ => True) (fun _ => False) rfl rfl ?aP (fun _ hk => hk.elim) ?aF ?aO ?aB ?aS ?aL ?_; (case aP => exact rfl); (case aB => exact (by repeat (first | (with_reducible first | exact HB.out | apply below_alloc | apply pw_below_drewN | apply below_drew1) | exact HB.out))); (case aF => exact (fun _ _ => trivial)); (case aO => exact (by (with_reducible repeat (first | apply Kd.R_alloc | apply Kd.R_drewN | apply Kd.R_drew)); exact HO_10.out)); (case aS => exact (below_size (by repeat (first | (with_reducible first | exact HB.out | apply below_alloc | apply pw_below_drewN | apply below_drew1) | exact HB.out)))); (case aL => have := LMc43.out; omega); intro v146 w45 ho hb hg hat; rw [← Ny145.out] at ho; have n0_ := Aside0.mk (Kd.S_after (ok := (fun k_ => some k_ ≠ (v118 : Value).ownBlock)) (by (with_reducible repeat (first | apply Kd.S_alloc | apply Kd.S_drewN | apply Kd.S_drew)); exact Kd.S_mono HO_12.out (fun _ hk => ⟨hk.2, hk.1⟩)) hg hat); have n1_ := Aside0.mk (Kd.S_after (ok := (fun k_ => some k_ ≠ (.slice (some ad124) t114.length co20 : Value).ownBlock)) (by (with_reducible repeat (first | apply Kd.S_alloc | apply Kd.S_drewN | apply Kd.S_drew)); exact Kd.S_mono HO_13.out (fun _ hk => ⟨hk.2, hk.1⟩)) hg hat); have n2_ := Aside0.mk (Kd.R_after (ok := (fun k_ => some k_ ≠ (.slice (some ad124) t114.length co20 : Value).ownBlock ∧ some k_ ≠ (v118 : Value).ownBlock)) (by (with_reducible repeat (first | apply Kd.R_alloc | apply Kd.R_drewN | apply Kd.R_drew)); exact Kd.R_mono HL135_0.out (fun _ hk => ⟨⟨hk.2, hk.1.2⟩, hk.1.1⟩)) hg hat); have n3_ := Aside0.mk (Kd.R_after (ok := (fun k_ => some k_ ≠ (.slice (some ad124) t114.length co20 : Value).ownBlock ∧ some k_ ≠ (v118 : Value).ownBlock)) (by (with_reducible repeat (first | apply Kd.R_alloc | apply Kd.R_drewN | apply Kd.R_drew)); exact Kd.R_mono HL140_0.out (fun _ hk => ⟨⟨hk.2, hk.1.2⟩, hk.1.1⟩)) hg hat); have n4_ := Aside0.mk (Kd.R_after (ok := (fun k_ => some k_ ≠ (.slice (some ad124) t114.length co20 : Value).ownBlock ∧ some k_ ≠ (v118 : Value).ownBlock)) (by (with_reducible repeat (first | apply Kd.R_alloc | apply Kd.R_drewN | apply Kd.R_drew)); exact Kd.R_mono HL142_0.out (fun _ hk => ⟨⟨hk.2, hk.1.2⟩, hk.1.1⟩)) hg hat); have n5_ := Aside0.mk (hb); have n6_ := Aside0.mk (ho); clear HO_12; clear HO_13; clear HL135_0; clear HL140_0; clear HL142_0; clear HB; clear HO_10; have HO_12 := n0_; have HO_13 := n1_; have HL135_0 := n2_; have HL140_0 := n3_; have HL142_0 := n4_; have HB := n5_; have HO147 := n6_; clear n0_ n1_ n2_ n3_ n4_ n5_ n6_; clear ho hb hg hat)); try go_wp2_with (first | ((with_reducible refine gate_builtin (b := .append) (xs := #[.tmp 132, .tmp 134]) rfl ?_); at_builtin; refine Kd.R_append (Kd.int .i64) (w0 := w) w.heap.size rfl (.tmp 132) (.tmp 134) 24 3 (.int .i64 0) 8 rfl Try.underlying24 info3 rfl (by decide) (by omega) (.slice (some ad134) x10_4.length co44) x10_4 x77_4 [.int .i64 x77_4] (fun _ => True) (fun _ => False) rfl rfl ?aP (fun _ hk => hk.elim) ?aF ?aO ?aB ?aS ?aL ?_; (case aP => exact rfl); (case aB => exact (by repeat (first | (with_reducible first | exact HB.out | apply below_alloc | apply pw_below_drewN | apply below_drew1) | exact HB.out))); (case aF => exact (fun _ _ => trivial)); (case aO => exact (by (with_reducible repeat (first | apply Kd.R_alloc | apply Kd.R_drewN | apply Kd.R_drew)); exact HO_10.out)); (case aS => exact (below_size (by repeat (first | (with_reducible first | exact HB.out | apply below_alloc | apply pw_below_drewN | apply below_drew1) | exact HB.out)))); (case aL => have := LMc43.out; omega); intro v146 w45 ho hb hg hat; rw [← Ny145.out] at ho; have n0_ := Aside0.mk (Kd.S_after (ok := (fun k_ => some k_ ≠ (v118 : Value).ownBlock)) (by (with_reducible repeat (first | apply Kd.S_alloc | apply Kd.S_drewN | apply Kd.S_drew)); exact Kd.S_mono HO_12.out (fun _ hk => ⟨hk.2, hk.1⟩)) hg hat); have n1_ := Aside0.mk (Kd.S_after (ok := (fun k_ => some k_ ≠ (.slice (some ad124) t114.length co20 : Value).ownBlock)) (by (with_reducible repeat (first | apply Kd.S_alloc | apply Kd.S_drewN | apply Kd.S_drew)); exact Kd.S_mono HO_13.out (fun _ hk => ⟨hk.2, hk.1⟩)) hg hat); have n2_ := Aside0.mk (Kd.R_after (ok := (fun k_ => some k_ ≠ (.slice (some ad124) t114.length co20 : Value).ownBlock ∧ some k_ ≠ (v118 : Value).ownBlock)) (by (with_reducible repeat (first | apply Kd.R_alloc | apply Kd.R_drewN | apply Kd.R_drew)); exact Kd.R_mono HL135_0.out (fun _ hk => ⟨⟨hk.2, hk.1.2⟩, hk.1.1⟩)) hg hat); have n3_ := Aside0.mk (Kd.R_after (ok := (fun k_ => some k_ ≠ (.slice (some ad124) t114.length co20 : Value).ownBlock ∧ some k_ ≠ (v118 : Value).ownBlock)) (by (with_reducible repeat (first | apply Kd.R_alloc | apply Kd.R_drewN | apply Kd.R_drew)); exact Kd.R_mono HL140_0.out (fun _ hk => ⟨⟨hk.2, hk.1.2⟩, hk.1.1⟩)) hg hat); have n4_ := Aside0.mk (Kd.R_after (ok := (fun k_ => some k_ ≠ (.slice (some ad124) t114.length co20 : Value).ownBlock ∧ some k_ ≠ (v118 : Value).ownBlock)) (by (with_reducible repeat (first | apply Kd.R_alloc | apply Kd.R_drewN | apply Kd.R_drew)); exact Kd.R_mono HL142_0.out (fun _ hk => ⟨⟨hk.2, hk.1.2⟩, hk.1.1⟩)) hg hat); have n5_ := Aside0.mk (hb); have n6_ := Aside0.mk (ho); clear HO_12; clear HO_13; clear HL135_0; clear HL140_0; clear HL142_0; clear HB; clear HO_10; have HO_12 := n0_; have HO_13 := n1_; have HL135_0 := n2_; have HL140_0 := n3_; have HL142_0 := n4_; have HB := n5_; have HO147 := n6_; clear n0_ n1_ n2_ n3_ n4_ n5_ n6_; clear ho hb hg hat)))
                                                                    go_roundg k4
                                                                    case measure => have := HK1.out; have := HJ6.out; have := HK3.out; have := HK4.out; omega
                                                                    case rel => exact ⟨(y145), (wrap64 (x14_3 + 1)), (by first | rfl | (simp; done) | (simp [*]; done)), H', ⟨by have := HK1.out; have := HJ6.out; have := HK3.out; have := HK4.out; omega⟩, ⟨by (with_reducible repeat (first | apply Kd.R_alloc | apply Kd.R_drewN | apply Kd.R_drew)); exact HO147.out⟩, ⟨by (with_reducible repeat (first | apply Kd.S_alloc | apply Kd.S_drewN | apply Kd.S_drew)); exact Kd.S_mono HO_12.out (fun _ hk => ⟨hk.2, hk.1⟩)⟩, ⟨by (with_reducible repeat (first | apply Kd.S_alloc | apply Kd.S_drewN | apply Kd.S_drew)); exact Kd.S_mono HO_13.out (fun _ hk => ⟨hk.2, hk.1⟩)⟩, ⟨by repeat (first | (with_reducible first | exact HB.out | apply below_alloc | apply pw_below_drewN | apply below_drew1) | exact HB.out)⟩⟩
                                                                  · rw [if_neg c43] at H
                                                                    exact absurd H (by simp)
                                                                · rw [if_neg c42] at H
                                                                  have c42b0 : ((wrap64 ((rd (rd_L1 l0 (ji26)) (rd x10_4 (ji26))) + (rd (rd_L1 t114 x14_3) x77_4))) == (rd (rd_L1 t114 (ji26)) (rd x10_4 (ji26)))) = false := beq_eq_false_iff_ne.mpr c42
                                                                  have c42b1 : ((wrap64 ((rd (rd_L1 l0 (ji26)) (rd x10_4 (ji26))) + (rd (rd_L1 t114 x14_3) x77_4))) != (rd (rd_L1 t114 (ji26)) (rd x10_4 (ji26)))) = true := bne_iff_ne.mpr c42
                                                                  have H' := Aside0.mk H
                                                                  clear H
                                                                  obtain ⟨Ao46, co46, eo46⟩ := Kd.R_slice HO_10.out
                                                                  subst eo46
                                                                  have p134 : 0 ≤ ((ji26) : Int) := of_decide_eq_true (by first | (with_reducible assumption) | assumption)
                                                                  have q134 : (ji26) < (x10_4.length : Int) := of_decide_eq_true (by first | (with_reducible assumption) | assumption)
                                                                  obtain ⟨ad134, e134, hx134_0⟩ := Kd.at_int (Kd.R_reads' HO_10.out).2.2 (ji26) p134 q134
                                                                  cases e134
                                                                  replace p134 := eq_true p134
                                                                  replace q134 := eq_true q134
                                                                  have p135 : 0 ≤ (x14_3 : Int) := of_decide_eq_true (by first | (with_reducible assumption) | assumption)
                                                                  have q135 : x14_3 < (t114.length : Int) := of_decide_eq_true (by first | (with_reducible assumption) | assumption)
                                                                  obtain ⟨ad135, A135_0, c135_0, e135, hx135_0, hl135_0, hi135_0⟩ := at_L1 (Kd.S_reads' HO_12.out).2.2 x14_3 p135 q135
                                                                  obtain rfl : ad124 = ad135 := (by injection e135)
                                                                  obtain ⟨ce135, hce135, hMe135, hcc135⟩ := Kd.S_get HO_12.out [] x14_3 p135 (by first | exact q135 | exact of_decide_eq_true (by first | (with_reducible assumption) | assumption) | (have e_ := (Kd.S_reads' HO_12.out).1; omega))
                                                                  obtain ⟨ve135_0, rfl, ge135_0⟩ := hMe135
                                                                  have hv135_0 := hcc135 0 _ rfl
                                                                  rw [Nat.add_zero, show ((Kd.slice 3 (Kd.int .i64))).sz = 1 from rfl, Nat.mul_one] at hv135_0
                                                                  replace hv135_0 := Option.some.inj (hv135_0.symm.trans hx135_0)
                                                                  rw [hv135_0] at ge135_0
                                                                  have HL135_0 := Aside0.mk (show Kd.R (Kd.int .i64) 3 _ _ _ _ (rd_L1 t114 x14_3) from ge135_0)
                                                                  clear hv135_0 ge135_0
                                                                  clear hcc135 hce135
                                                                  have HR135_0 := Aside0.mk hi135_0
                                                                  have HC135_0 := Aside0.mk hl135_0
                                                                  clear hi135_0 hl135_0
                                                                  replace p135 := eq_true p135
                                                                  replace q135 := eq_true q135
                                                                  have p136 : 0 ≤ (x77_4 : Int) := of_decide_eq_true (by first | (with_reducible assumption) | assumption)
                                                                  have q136 : x77_4 < ((rd_L1 t114 x14_3).length : Int) := of_decide_eq_true (by first | (with_reducible assumption) | assumption)
                                                                  obtain ⟨ad136, e136, hx136_0⟩ := Kd.at_int (by repeat (first | (with_reducible exact HR135_0.out) | (with_reducible refine Kd.C_alloc ?_ _) | (with_reducible refine Kd.C_drewN ?_ _) | (with_reducible refine Kd.C_drew ?_) | exact HR135_0.out)) x77_4 p136 q136
                                                                  cases e136
                                                                  replace p136 := eq_true p136
                                                                  replace q136 := eq_true q136
                                                                  have p137 : 0 ≤ ((ji26) : Int) := of_decide_eq_true (by first | (with_reducible assumption) | assumption)
                                                                  have q137 : (ji26) < (l0.length : Int) := of_decide_eq_true (by first | (with_reducible assumption) | assumption)
                                                                  obtain ⟨ad137, A137_0, c137_0, e137, hx137_0, hl137_0, hi137_0⟩ := at_L1 HR0.out (ji26) p137 q137
                                                                  obtain rfl : ad113 = ad137 := (by injection e137)
                                                                  replace hx137_0 := (HB.out.cell (World.block_lt_of_cell? w _ hx137_0)).trans hx137_0
                                                                  have HR137_0 := Aside0.mk hi137_0
                                                                  have HC137_0 := Aside0.mk hl137_0
                                                                  clear hi137_0 hl137_0
                                                                  replace p137 := eq_true p137
                                                                  replace q137 := eq_true q137
                                                                  have p138 : 0 ≤ ((ji26) : Int) := of_decide_eq_true (by first | (with_reducible assumption) | assumption)
                                                                  have q138 : (ji26) < (x10_4.length : Int) := of_decide_eq_true (by first | (with_reducible assumption) | assumption)
                                                                  obtain ⟨ad138, e138, hx138_0⟩ := Kd.at_int (Kd.R_reads' HO_10.out).2.2 (ji26) p138 q138
                                                                  obtain rfl : ad134 = ad138 := (by injection e138)
                                                                  replace p138 := eq_true p138
                                                                  replace q138 := eq_true q138
                                                                  have p139 : 0 ≤ ((rd x10_4 (ji26)) : Int) := of_decide_eq_true (by first | (with_reducible assumption) | assumption)
                                                                  have q139 : (rd x10_4 (ji26)) < ((rd_L1 l0 (ji26)).length : Int) := of_decide_eq_true (by first | (with_reducible assumption) | assumption)
                                                                  obtain ⟨ad139, e139, hx139_0⟩ := Kd.at_int HR137_0.out (rd x10_4 (ji26)) p139 q139
                                                                  cases e139
                                                                  replace hx139_0 := (HB.out.cell (World.block_lt_of_cell? w _ hx139_0)).trans hx139_0
                                                                  replace p139 := eq_true p139
                                                                  replace q139 := eq_true q139
                                                                  have p140 : 0 ≤ (x14_3 : Int) := of_decide_eq_true (by first | (with_reducible assumption) | assumption)
                                                                  have q140 : x14_3 < (t114.length : Int) := of_decide_eq_true (by first | (with_reducible assumption) | assumption)
                                                                  obtain ⟨ad140, A140_0, c140_0, e140, hx140_0, hl140_0, hi140_0⟩ := at_L1 (Kd.S_reads' HO_12.out).2.2 x14_3 p140 q140
                                                                  obtain rfl : ad124 = ad140 := (by injection e140)
                                                                  obtain ⟨ce140, hce140, hMe140, hcc140⟩ := Kd.S_get HO_12.out [] x14_3 p140 (by first | exact q140 | exact of_decide_eq_true (by first | (with_reducible assumption) | assumption) | (have e_ := (Kd.S_reads' HO_12.out).1; omega))
                                                                  obtain ⟨ve140_0, rfl, ge140_0⟩ := hMe140
                                                                  have hv140_0 := hcc140 0 _ rfl
                                                                  rw [Nat.add_zero, show ((Kd.slice 3 (Kd.int .i64))).sz = 1 from rfl, Nat.mul_one] at hv140_0
                                                                  replace hv140_0 := Option.some.inj (hv140_0.symm.trans hx140_0)
                                                                  rw [hv140_0] at ge140_0
                                                                  have HL140_0 := Aside0.mk (show Kd.R (Kd.int .i64) 3 _ _ _ _ (rd_L1 t114 x14_3) from ge140_0)
                                                                  clear hv140_0 ge140_0
                                                                  clear hcc140 hce140
                                                                  have HR140_0 := Aside0.mk hi140_0
                                                                  have HC140_0 := Aside0.mk hl140_0
                                                                  clear hi140_0 hl140_0
                                                                  replace p140 := eq_true p140
                                                                  replace q140 := eq_true q140
                                                                  have ea_ := Option.some.inj (hx135_0.symm.trans hx140_0)
                                                                  injection ea_ with ea_ en_ ec_
                                                                  subst ea_
                                                                  subst ec_
                                                                  clear en_
                                                                  have p141 : 0 ≤ (x77_4 : Int) := of_decide_eq_true (by first | (with_reducible assumption) | assumption)
                                                                  have q141 : x77_4 < ((rd_L1 t114 x14_3).length : Int) := of_decide_eq_true (by first | (with_reducible assumption) | assumption)
                                                                  obtain ⟨ad141, e141, hx141_0⟩ := Kd.at_int (by repeat (first | (with_reducible exact HR140_0.out) | (with_reducible refine Kd.C_alloc ?_ _) | (with_reducible refine Kd.C_drewN ?_ _) | (with_reducible refine Kd.C_drew ?_) | exact HR140_0.out)) x77_4 p141 q141
                                                                  cases e141
                                                                  replace p141 := eq_true p141
                                                                  replace q141 := eq_true q141
                                                                  have p142 : 0 ≤ ((ji26) : Int) := of_decide_eq_true (by first | (with_reducible assumption) | assumption)
                                                                  have q142 : (ji26) < (t114.length : Int) := of_decide_eq_true (by first | (with_reducible assumption) | assumption)
                                                                  obtain ⟨ad142, A142_0, c142_0, e142, hx142_0, hl142_0, hi142_0⟩ := at_L1 (Kd.S_reads' HO_12.out).2.2 (ji26) p142 q142
                                                                  obtain rfl : ad124 = ad142 := (by injection e142)
                                                                  obtain ⟨ce142, hce142, hMe142, hcc142⟩ := Kd.S_get HO_12.out [] (ji26) p142 (by first | exact q142 | exact of_decide_eq_true (by first | (with_reducible assumption) | assumption) | (have e_ := (Kd.S_reads' HO_12.out).1; omega))
                                                                  obtain ⟨ve142_0, rfl, ge142_0⟩ := hMe142
                                                                  have hv142_0 := hcc142 0 _ rfl
                                                                  rw [Nat.add_zero, show ((Kd.slice 3 (Kd.int .i64))).sz = 1 from rfl, Nat.mul_one] at hv142_0
                                                                  replace hv142_0 := Option.some.inj (hv142_0.symm.trans hx142_0)
                                                                  rw [hv142_0] at ge142_0
                                                                  have HL142_0 := Aside0.mk (show Kd.R (Kd.int .i64) 3 _ _ _ _ (rd_L1 t114 (ji26)) from ge142_0)
                                                                  clear hv142_0 ge142_0
                                                                  clear hcc142 hce142
                                                                  have HR142_0 := Aside0.mk hi142_0
                                                                  have HC142_0 := Aside0.mk hl142_0
                                                                  clear hi142_0 hl142_0
                                                                  replace p142 := eq_true p142
                                                                  replace q142 := eq_true q142
                                                                  have p143 : 0 ≤ ((ji26) : Int) := of_decide_eq_true (by first | (with_reducible assumption) | assumption)
                                                                  have q143 : (ji26) < (x10_4.length : Int) := of_decide_eq_true (by first | (with_reducible assumption) | assumption)
                                                                  obtain ⟨ad143, e143, hx143_0⟩ := Kd.at_int (Kd.R_reads' HO_10.out).2.2 (ji26) p143 q143
                                                                  obtain rfl : ad134 = ad143 := (by injection e143)
                                                                  replace p143 := eq_true p143
                                                                  replace q143 := eq_true q143
                                                                  have p144 : 0 ≤ ((rd x10_4 (ji26)) : Int) := of_decide_eq_true (by first | (with_reducible assumption) | assumption)
                                                                  have q144 : (rd x10_4 (ji26)) < ((rd_L1 t114 (ji26)).length : Int) := of_decide_eq_true (by first | (with_reducible assumption) | assumption)
                                                                  obtain ⟨ad144, e144, hx144_0⟩ := Kd.at_int (by repeat (first | (with_reducible exact HR142_0.out) | (with_reducible refine Kd.C_alloc ?_ _) | (with_reducible refine Kd.C_drewN ?_ _) | (with_reducible refine Kd.C_drew ?_) | exact HR142_0.out)) (rd x10_4 (ji26)) p144 q144
                                                                  cases e144
                                                                  replace p144 := eq_true p144
                                                                  replace q144 := eq_true q144
                                                                  go_wp2
                                                                  repeat (go_quiet (fail); try go_wp2)
                                                                  go_roundg k4
                                                                  case measure => have := HK1.out; have := HJ6.out; have := HK3.out; have := HK4.out; omega
                                                                  case rel => exact ⟨(x10_4), (wrap64 (x77_4 + 1)), (by first | rfl | (simp; done) | (simp [*]; done)), H', ⟨by have := HK1.out; have := HJ6.out; have := HK3.out; have := HK4.out; omega⟩, ⟨by (with_reducible repeat (first | apply Kd.R_alloc | apply Kd.R_drewN | apply Kd.R_drew)); exact HO_10.out⟩, ⟨by (with_reducible repeat (first | apply Kd.S_alloc | apply Kd.S_drewN | apply Kd.S_drew)); exact HO_12.out⟩, ⟨by (with_reducible repeat (first | apply Kd.S_alloc | apply Kd.S_drewN | apply Kd.S_drew)); exact HO_13.out⟩, ⟨by repeat (first | (with_reducible first | exact HB.out | apply below_alloc | apply pw_below_drewN | apply below_drew1) | exact HB.out)⟩⟩
                                                              · rw [if_neg c41] at H
                                                                exact absurd H (by simp)
                                                            · rw [if_neg c40] at H
                                                              exact absurd H (by simp)
                                                          · rw [if_neg c39] at H
                                                            exact absurd H (by simp)
                                                        · rw [if_neg c38] at H
                                                          exact absurd H (by simp)
                                                      · rw [if_neg c37] at H
                                                        exact absurd H (by simp)
                                                  · rw [if_neg c34] at H
                                                    exact absurd H (by simp)
                                                · rw [if_neg c33] at H
                                                  exact absurd H (by simp)
                                              · rw [if_neg c32] at H
                                                exact absurd H (by simp)
                                            · rw [if_neg c31] at H
                                              exact absurd H (by simp)
                                        · rw [if_neg c28] at H
                                          exact absurd H (by simp)
                                      · rw [if_neg c27] at H
                                        exact absurd H (by simp)
                                    · rw [if_neg c25] at H
                                      have c25b0 : decide (x77_4 < ((rd_L1 l0 0).length : Int)) = false := decide_eq_false c25
                                      clear c25
                                      have H' := Aside0.mk H
                                      clear H
                                      go_wp2
                                      repeat (go_quiet (fail); try go_wp2)
                                      go_roundg k4
                                      case measure => have := HK1.out; have := HJ6.out; have := HK3.out; have := HK4.out; omega
                                      case rel => exact ⟨(x10_4), (wrap64 (x14_3 + 1)), (by first | rfl | (simp; done) | (simp [*]; done)), H', ⟨by have := HK1.out; have := HJ6.out; have := HK3.out; have := HK4.out; omega⟩, ⟨by (with_reducible repeat (first | apply Kd.R_alloc | apply Kd.R_drewN | apply Kd.R_drew)); exact HO_10.out⟩, ⟨by (with_reducible repeat (first | apply Kd.S_alloc | apply Kd.S_drewN | apply Kd.S_drew)); exact HO_12.out⟩, ⟨by (with_reducible repeat (first | apply Kd.S_alloc | apply Kd.S_drewN | apply Kd.S_drew)); exact HO_13.out⟩, ⟨by repeat (first | (with_reducible first | exact HB.out | apply below_alloc | apply pw_below_drewN | apply below_drew1) | exact HB.out)⟩⟩
                              · rw [if_neg c24] at H
                                exact absurd H (by simp)
                            · rw [if_neg c23] at H
                              have c23b0 : decide (x14_3 < (l0.length : Int)) = false := decide_eq_false c23
                              clear c23
                              by_cases c47 : 0 < (t115.length : Int)
                              · rw [if_pos c47] at H
                                have c47b0 : decide (0 < (t115.length : Int)) = true := decide_eq_true c47
                                have c47b1 : decide (0 < t115.length) = true := decide_eq_true (by omega)
                                clear c47
                                by_cases c48 : 0 ≤ x24_1
                                · rw [if_pos c48] at H
                                  have c48b0 : decide (0 ≤ x24_1) = true := decide_eq_true c48
                                  clear c48
                                  by_cases c49 : x24_1 < ((rd_L1 t115 0).length : Int)
                                  · rw [if_pos c49] at H
                                    have c49b0 : decide (x24_1 < ((rd_L1 t115 0).length : Int)) = true := decide_eq_true c49
                                    clear c49
                                    have H' := Aside0.mk H
                                    clear H
                                    obtain ⟨Ao50, co50, eo50⟩ := Kd.S_slice HO_13.out
                                    subst eo50
                                    have p131 : 0 ≤ (0 : Int) := (by omega)
                                    have q131 : 0 < (t115.length : Int) := of_decide_eq_true (by first | (with_reducible assumption) | assumption)
                                    obtain ⟨ad131, A131_0, c131_0, e131, hx131_0, hl131_0, hi131_0⟩ := at_L1 (Kd.S_reads' HO_13.out).2.2 0 p131 q131
                                    cases e131
                                    obtain ⟨ce131, hce131, hMe131, hcc131⟩ := Kd.S_get HO_13.out [] 0 p131 (by first | exact q131 | exact of_decide_eq_true (by first | (with_reducible assumption) | assumption) | (have e_ := (Kd.S_reads' HO_13.out).1; omega))
                                    obtain ⟨ve131_0, rfl, ge131_0⟩ := hMe131
                                    have hv131_0 := hcc131 0 _ rfl
                                    rw [Nat.add_zero, show ((Kd.slice 3 (Kd.int .i64))).sz = 1 from rfl, Nat.mul_one] at hv131_0
                                    replace hv131_0 := Option.some.inj (hv131_0.symm.trans hx131_0)
                                    rw [hv131_0] at ge131_0
                                    have HL131_0 := Aside0.mk (show Kd.R (Kd.int .i64) 3 _ _ _ _ (rd_L1 t115 0) from ge131_0)
                                    clear hv131_0 ge131_0
                                    clear hcc131 hce131
                                    have qi131 : (0 < t115.length) = True := eq_true (by omega)
                                    (try rw [show ((0 : Int)).toNat = 0 from rfl] at hx131_0)
                                    (try rw [Addr.add_zero'] at hx131_0)
                                    have HR131_0 := Aside0.mk hi131_0
                                    have HC131_0 := Aside0.mk hl131_0
                                    clear hi131_0 hl131_0
                                    replace p131 := eq_true p131
                                    replace q131 := eq_true q131
                                    have p132 : 0 ≤ (x24_1 : Int) := of_decide_eq_true (by first | (with_reducible assumption) | assumption)
                                    have q132 : x24_1 < ((rd_L1 t115 0).length : Int) := of_decide_eq_true (by first | (with_reducible assumption) | assumption)
                                    obtain ⟨ad132, e132, hx132_0⟩ := Kd.at_int (by repeat (first | (with_reducible exact HR131_0.out) | (with_reducible refine Kd.C_alloc ?_ _) | (with_reducible refine Kd.C_drewN ?_ _) | (with_reducible refine Kd.C_drew ?_) | exact HR131_0.out)) x24_1 p132 q132
                                    cases e132
                                    replace p132 := eq_true p132
                                    replace q132 := eq_true q132
                                    go_wp2
                                    repeat (go_quiet (fail); try go_wp2)
                                    go_roundg k3
                                    case measure => have := HK1.out; have := HJ6.out; have := HK3.out; omega
                                    case rel => exact ⟨((rd (rd_L1 t114 0) x24_1)), (wrap64 (0 + (rd (rd_L1 t115 0) x24_1))), (x10_3), (wrap64 (x24_1 + 1)), (by first | rfl | (simp; done) | (simp [*]; done)), (by first | rfl | (simp; done) | (simp [*]; done)), (by first | rfl | (simp; done) | (simp [*]; done)), H', ⟨by have := HK1.out; have := HJ6.out; have := HK3.out; omega⟩, ⟨by (with_reducible repeat (first | apply Kd.R_alloc | apply Kd.R_drewN | apply Kd.R_drew)); exact HO_10.out⟩, ⟨by repeat (first | (with_reducible first | exact HB.out | apply below_alloc | apply pw_below_drewN | apply below_drew1) | exact HB.out)⟩⟩
                                  · rw [if_neg c49] at H
                                    exact absurd H (by simp)
                                · rw [if_neg c48] at H
                                  exact absurd H (by simp)
                              · rw [if_neg c47] at H
                                exact absurd H (by simp)
                      · rw [if_neg c19] at H
                        have c19b0 : decide ((rd (rd_L1 t114 0) x24_1) < x8_1) = false := decide_eq_false c19
                        clear c19
                        by_cases c51 : 0 < (t115.length : Int)
                        · rw [if_pos c51] at H
                          have c51b0 : decide (0 < (t115.length : Int)) = true := decide_eq_true c51
                          have c51b1 : decide (0 < t115.length) = true := decide_eq_true (by omega)
                          clear c51
                          by_cases c52 : x24_1 < ((rd_L1 t115 0).length : Int)
                          · rw [if_pos c52] at H
                            have c52b0 : decide (x24_1 < ((rd_L1 t115 0).length : Int)) = true := decide_eq_true c52
                            clear c52
                            have H' := Aside0.mk H
                            clear H
                            obtain ⟨Ao53, co53, eo53⟩ := Kd.S_slice HO_12.out
                            subst eo53
                            have p124 : 0 ≤ (0 : Int) := (by omega)
                            have q124 : 0 < (t114.length : Int) := of_decide_eq_true (by first | (with_reducible assumption) | assumption)
                            obtain ⟨ad124, A124_0, c124_0, e124, hx124_0, hl124_0, hi124_0⟩ := at_L1 (Kd.S_reads' HO_12.out).2.2 0 p124 q124
                            cases e124
                            obtain ⟨ce124, hce124, hMe124, hcc124⟩ := Kd.S_get HO_12.out [] 0 p124 (by first | exact q124 | exact of_decide_eq_true (by first | (with_reducible assumption) | assumption) | (have e_ := (Kd.S_reads' HO_12.out).1; omega))
                            obtain ⟨ve124_0, rfl, ge124_0⟩ := hMe124
                            have hv124_0 := hcc124 0 _ rfl
                            rw [Nat.add_zero, show ((Kd.slice 3 (Kd.int .i64))).sz = 1 from rfl, Nat.mul_one] at hv124_0
                            replace hv124_0 := Option.some.inj (hv124_0.symm.trans hx124_0)
                            rw [hv124_0] at ge124_0
                            have HL124_0 := Aside0.mk (show Kd.R (Kd.int .i64) 3 _ _ _ _ (rd_L1 t114 0) from ge124_0)
                            clear hv124_0 ge124_0
                            clear hcc124 hce124
                            have qi124 : (0 < t114.length) = True := eq_true (by omega)
                            (try rw [show ((0 : Int)).toNat = 0 from rfl] at hx124_0)
                            (try rw [Addr.add_zero'] at hx124_0)
                            have HR124_0 := Aside0.mk hi124_0
                            have HC124_0 := Aside0.mk hl124_0
                            clear hi124_0 hl124_0
                            replace p124 := eq_true p124
                            replace q124 := eq_true q124
                            have p125 : 0 ≤ (x24_1 : Int) := of_decide_eq_true (by first | (with_reducible assumption) | assumption)
                            have q125 : x24_1 < ((rd_L1 t114 0).length : Int) := of_decide_eq_true (by first | (with_reducible assumption) | assumption)
                            obtain ⟨ad125, e125, hx125_0⟩ := Kd.at_int (by repeat (first | (with_reducible exact HR124_0.out) | (with_reducible refine Kd.C_alloc ?_ _) | (with_reducible refine Kd.C_drewN ?_ _) | (with_reducible refine Kd.C_drew ?_) | exact HR124_0.out)) x24_1 p125 q125
                            cases e125
                            replace p125 := eq_true p125
                            replace q125 := eq_true q125
                            obtain ⟨Ao54, co54, eo54⟩ := Kd.S_slice HO_13.out
                            subst eo54
                            have p148 : 0 ≤ (0 : Int) := (by omega)
                            have q148 : 0 < (t115.length : Int) := of_decide_eq_true (by first | (with_reducible assumption) | assumption)
                            obtain ⟨ad148, A148_0, c148_0, e148, hx148_0, hl148_0, hi148_0⟩ := at_L1 (Kd.S_reads' HO_13.out).2.2 0 p148 q148
                            cases e148
                            obtain ⟨ce148, hce148, hMe148, hcc148⟩ := Kd.S_get HO_13.out [] 0 p148 (by first | exact q148 | exact of_decide_eq_true (by first | (with_reducible assumption) | assumption) | (have e_ := (Kd.S_reads' HO_13.out).1; omega))
                            obtain ⟨ve148_0, rfl, ge148_0⟩ := hMe148
                            have hv148_0 := hcc148 0 _ rfl
                            rw [Nat.add_zero, show ((Kd.slice 3 (Kd.int .i64))).sz = 1 from rfl, Nat.mul_one] at hv148_0
                            replace hv148_0 := Option.some.inj (hv148_0.symm.trans hx148_0)
                            rw [hv148_0] at ge148_0
                            have HL148_0 := Aside0.mk (show Kd.R (Kd.int .i64) 3 _ _ _ _ (rd_L1 t115 0) from ge148_0)
                            clear hv148_0 ge148_0
                            clear hcc148 hce148
                            have qi148 : (0 < t115.length) = True := eq_true (by omega)
                            (try rw [show ((0 : Int)).toNat = 0 from rfl] at hx148_0)
                            (try rw [Addr.add_zero'] at hx148_0)
                            have HR148_0 := Aside0.mk hi148_0
                            have HC148_0 := Aside0.mk hl148_0
                            clear hi148_0 hl148_0
                            replace p148 := eq_true p148
                            replace q148 := eq_true q148
                            have p149 : 0 ≤ (x24_1 : Int) := of_decide_eq_true (by first | (with_reducible assumption) | assumption)
                            have q149 : x24_1 < ((rd_L1 t115 0).length : Int) := of_decide_eq_true (by first | (with_reducible assumption) | assumption)
                            obtain ⟨ad149, e149, hx149_0⟩ := Kd.at_int (by repeat (first | (with_reducible exact HR148_0.out) | (with_reducible refine Kd.C_alloc ?_ _) | (with_reducible refine Kd.C_drewN ?_ _) | (with_reducible refine Kd.C_drew ?_) | exact HR148_0.out)) x24_1 p149 q149
                            cases e149
                            replace p149 := eq_true p149
                            replace q149 := eq_true q149
                            go_wp2
                            repeat (go_quiet (fail); try go_wp2)
                            go_roundg kj6
                            case measure => have := HK1.out; have := HJ6.out; omega
                            case rel => exact ⟨(x8_1), (wrap64 (x9_1 + (rd (rd_L1 t115 0) x24_1))), (x10_1), (wrap64 (x24_1 + 1)), (by first | rfl | (simp; done) | (simp [*]; done)), (by first | rfl | (simp; done) | (simp [*]; done)), (by first | rfl | (simp; done) | (simp [*]; done)), H', ⟨by have := HK1.out; have := HJ6.out; omega⟩, ⟨by (with_reducible repeat (first | apply Kd.R_alloc | apply Kd.R_drewN | apply Kd.R_drew)); exact HO_10.out⟩, ⟨by repeat (first | (with_reducible first | exact HB.out | apply below_alloc | apply pw_below_drewN | apply below_drew1) | exact HB.out)⟩⟩
                          · rw [if_neg c52] at H
                            exact absurd H (by simp)
                        · rw [if_neg c51] at H
                          exact absurd H (by simp)
                    · rw [if_neg c18] at H
                      exact absurd H (by simp)
                  · rw [if_neg c17] at H
                    exact absurd H (by simp)
                · rw [if_neg c16] at H
                  exact absurd H (by simp)
        · rw [if_neg c5] at H
          have c5b0 : decide (x24_1 < ((rd_L1 l0 0).length : Int)) = false := decide_eq_false c5
          clear c5
          simp only [Option.some.injEq, Prod.mk.injEq] at H
          obtain ⟨rfl, rfl, rfl⟩ := H
          go_wp2
          repeat (go_quiet (fail); try go_wp2)
          go_ret3
          exact ⟨_, by first | rfl | (simp [errW_none, errW_some] <;> rfl) | (simp [*, errW_none, errW_some] <;> rfl), by (with_reducible repeat (first | apply Kd.R_alloc | apply Kd.R_drewN | apply Kd.R_drew)); exact HO_10.out, by repeat (first | (with_reducible first | exact HB.out | apply below_alloc | apply pw_below_drewN | apply below_drew1) | exact HB.out)⟩
  · rw [if_neg c4] at H
    exact absurd H (by simp)

end Go.Proofs.Ytknookofgnandaa.MQ
