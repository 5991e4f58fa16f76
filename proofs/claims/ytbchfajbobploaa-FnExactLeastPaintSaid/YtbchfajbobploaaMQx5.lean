-- The machine side, written by this repo's program mp.py; contracts marked as of this repo are this session's own.
import Derived.Test.YtbchfajbobploaaMQx0
import Derived.Test.YtbchfajbobploaaMQx2
import Derived.Test.YtbchfajbobploaaMQx4
namespace Go.Proofs.Ytbchfajbobploaa.MQ
open Go.RowKit Go.Proofs.YtbchfajbobploaaW.PrintWords Go.Proofs.YtbchfajbobploaaW.PrintLast Go.Proofs.YtbchfajbobploaaW.PrintMore
attribute [local go_sem] max2_int min2_int max_two min_two max_three min_three max_four min_four   -- for this text's walks alone
set_option linter.unusedVariables false
set_option linter.unusedSimpArgs false

/-! ### spec_rwBest: function 72 -/
mutual
def spec_rwBest.l0 : Nat → List (List Int) → Bool → Int → Int → List Int → Int → Int → Option (Int × List Int × Int)
  | 0, _, _, _, _, _, _, _ => none
  | k + 1, x0, x7, x8, x9, x10, x23, x24 => if x24 < x23 then ((spec_rwPaint.f k x0 x24 x7).bind fun bt132 => (if 0 < (bt132.1.length : Int) then (if 0 ≤ x24 then (if x24 < ((rd_L1 bt132.1 0).length : Int) then (if (rd (rd_L1 bt132.1 0) x24) = 1000000 then (spec_rwBest.j1 k x0 x7 x8 x9 x10 x24 bt132.1 bt132.2 x23 x24 true) else (spec_rwBest.j1 k x0 x7 x8 x9 x10 x24 bt132.1 bt132.2 x23 x24 (decide ((rd (rd_L1 bt132.1 0) x24) > x8)))) else (none)) else (none)) else (none))) else (some (x8, x10, x9))
def spec_rwBest.j1 : Nat → List (List Int) → Bool → Int → Int → List Int → Int → List (List Int) → List (List Int) → Int → Int → Bool → Option (Int × List Int × Int)
  | 0, _, _, _, _, _, _, _, _, _, _, _ => none
  | k + 1, x0, x7, x8, x9, x10, x11, x12, x13, x23, x24, x50 => if x50 = true then (spec_rwBest.l0 k x0 x7 x8 x9 x10 x23 (wrap64 (x24 + 1))) else (if 0 < (x12.length : Int) then (if 0 ≤ x11 then (if x11 < ((rd_L1 x12 0).length : Int) then (if (rd (rd_L1 x12 0) x11) < x8 then (spec_rwBest.l1 k x0 x7 (rd (rd_L1 x12 0) x11) 0 (([x11] : List Int)) x11 x12 x13 1 x23 x24) else (if 0 < (x13.length : Int) then (if x11 < ((rd_L1 x13 0).length : Int) then (spec_rwBest.l0 k x0 x7 x8 (wrap64 (x9 + (rd (rd_L1 x13 0) x11))) x10 x23 (wrap64 (x24 + 1))) else (none)) else (none))) else (none)) else (none)) else (none))
def spec_rwBest.l1 : Nat → List (List Int) → Bool → Int → Int → List Int → Int → List (List Int) → List (List Int) → Int → Int → Int → Option (Int × List Int × Int)
  | 0, _, _, _, _, _, _, _, _, _, _, _ => none
  | k + 1, x0, x7, x8, x9, x10, x11, x12, x13, x14, x23, x24 => if x14 < (x0.length : Int) then (if 0 < (x0.length : Int) then (spec_rwBest.l2 k x0 x7 x8 x9 x10 x11 x12 x13 x14 x23 x24 ((rd_L1 x0 0).length : Int) 0) else (none)) else (if 0 < (x13.length : Int) then (if 0 ≤ x11 then (if x11 < ((rd_L1 x13 0).length : Int) then (spec_rwBest.l0 k x0 x7 x8 (wrap64 (x9 + (rd (rd_L1 x13 0) x11))) x10 x23 (wrap64 (x24 + 1))) else (none)) else (none)) else (none))
def spec_rwBest.l2 : Nat → List (List Int) → Bool → Int → Int → List Int → Int → List (List Int) → List (List Int) → Int → Int → Int → Int → Int → Option (Int × List Int × Int)
  | 0, _, _, _, _, _, _, _, _, _, _, _, _, _ => none
  | k + 1, x0, x7, x8, x9, x10, x11, x12, x13, x14, x23, x24, x76, x77 => if x77 < x76 then (if 0 ≤ (wrap64 (x14 - 1)) then (if (wrap64 (x14 - 1)) < (x10.length : Int) then (if x77 = (rd x10 (wrap64 (x14 - 1))) then (spec_rwBest.l2 k x0 x7 x8 x9 x10 x11 x12 x13 x14 x23 x24 x76 (wrap64 (x77 + 1))) else (if 0 ≤ x14 then (if x14 < (x12.length : Int) then (if 0 ≤ x77 then (if x77 < ((rd_L1 x12 x14).length : Int) then (if (rd (rd_L1 x12 x14) x77) = 1000000 then (spec_rwBest.l2 k x0 x7 x8 x9 x10 x11 x12 x13 x14 x23 x24 x76 (wrap64 (x77 + 1))) else (if (wrap64 (x14 - 1)) < (x0.length : Int) then (if 0 ≤ (rd x10 (wrap64 (x14 - 1))) then (if (rd x10 (wrap64 (x14 - 1))) < ((rd_L1 x0 (wrap64 (x14 - 1))).length : Int) then (if (wrap64 (x14 - 1)) < (x12.length : Int) then (if (rd x10 (wrap64 (x14 - 1))) < ((rd_L1 x12 (wrap64 (x14 - 1))).length : Int) then (if (wrap64 ((rd (rd_L1 x0 (wrap64 (x14 - 1))) (rd x10 (wrap64 (x14 - 1)))) + (rd (rd_L1 x12 x14) x77))) = (rd (rd_L1 x12 (wrap64 (x14 - 1))) (rd x10 (wrap64 (x14 - 1)))) then (if x10.length < 17592186044416 then (spec_rwBest.l1 k x0 x7 x8 x9 (x10 ++ [x77]) x11 x12 x13 (wrap64 (x14 + 1)) x23 x24) else (none)) else (spec_rwBest.l2 k x0 x7 x8 x9 x10 x11 x12 x13 x14 x23 x24 x76 (wrap64 (x77 + 1)))) else (none)) else (none)) else (none)) else (none)) else (none))) else (none)) else (none)) else (none)) else (none))) else (none)) else (none)) else (spec_rwBest.l1 k x0 x7 x8 x9 x10 x11 x12 x13 (wrap64 (x14 + 1)) x23 x24)
end
def spec_rwBest.f (k : Nat) (l0 : List (List Int)) (a1 : Bool) : Option (Int × List Int × Int) := (spec_rwRing.f (l0.length : Int) a1).bind fun t130 => (if 0 < (l0.length : Int) then (spec_rwBest.l0 k l0 t130 1000000 0 ([] : List Int) ((rd_L1 l0 0).length : Int) 0) else (none))
theorem spec_rwBest.mono_l : ∀ k, (∀ y0 y1 y2 y3 y4 y5 y6, LeO (spec_rwBest.l0 k y0 y1 y2 y3 y4 y5 y6) (spec_rwBest.l0 (k + 1) y0 y1 y2 y3 y4 y5 y6)) ∧ (∀ y0 y1 y2 y3 y4 y5 y6 y7 y8 y9 y10, LeO (spec_rwBest.j1 k y0 y1 y2 y3 y4 y5 y6 y7 y8 y9 y10) (spec_rwBest.j1 (k + 1) y0 y1 y2 y3 y4 y5 y6 y7 y8 y9 y10)) ∧ (∀ y0 y1 y2 y3 y4 y5 y6 y7 y8 y9 y10, LeO (spec_rwBest.l1 k y0 y1 y2 y3 y4 y5 y6 y7 y8 y9 y10) (spec_rwBest.l1 (k + 1) y0 y1 y2 y3 y4 y5 y6 y7 y8 y9 y10)) ∧ (∀ y0 y1 y2 y3 y4 y5 y6 y7 y8 y9 y10 y11 y12, LeO (spec_rwBest.l2 k y0 y1 y2 y3 y4 y5 y6 y7 y8 y9 y10 y11 y12) (spec_rwBest.l2 (k + 1) y0 y1 y2 y3 y4 y5 y6 y7 y8 y9 y10 y11 y12))
  | 0 => ⟨fun _ _ _ _ _ _ _ r h => by simp [spec_rwBest.l0] at h, fun _ _ _ _ _ _ _ _ _ _ _ r h => by simp [spec_rwBest.j1] at h, fun _ _ _ _ _ _ _ _ _ _ _ r h => by simp [spec_rwBest.l1] at h, fun _ _ _ _ _ _ _ _ _ _ _ _ _ r h => by simp [spec_rwBest.l2] at h⟩
  | k + 1 => by
    obtain ⟨ih0, ih1, ih2, ih3⟩ := spec_rwBest.mono_l k
    refine ⟨?_, ?_, ?_, ?_⟩
    · intro y0 y1 y2 y3 y4 y5 y6
      unfold spec_rwBest.l0
      repeat' first
      | (with_reducible exact ih0 _ _ _ _ _ _ _)
      | (with_reducible exact ih1 _ _ _ _ _ _ _ _ _ _ _)
      | (with_reducible exact ih2 _ _ _ _ _ _ _ _ _ _ _)
      | (with_reducible exact ih3 _ _ _ _ _ _ _ _ _ _ _ _ _)
      | (with_reducible exact spec_rwPaint.mono _ _ _ _)
      | (with_reducible exact LeO.refl _)
      | (with_reducible exact LeO.none _)
      | (with_reducible refine LeO.ite ?_ ?_)
      | (with_reducible refine LeO.bind ?_ (fun _ => ?_))
      | exact ih0 _ _ _ _ _ _ _
      | exact ih1 _ _ _ _ _ _ _ _ _ _ _
      | exact ih2 _ _ _ _ _ _ _ _ _ _ _
      | exact ih3 _ _ _ _ _ _ _ _ _ _ _ _ _
      | exact spec_rwPaint.mono _ _ _ _
      | exact LeO.none _
      | refine LeO.ite ?_ ?_
      | refine LeO.bind ?_ (fun _ => ?_)
    · intro y0 y1 y2 y3 y4 y5 y6 y7 y8 y9 y10
      unfold spec_rwBest.j1
      repeat' first
      | (with_reducible exact ih0 _ _ _ _ _ _ _)
      | (with_reducible exact ih1 _ _ _ _ _ _ _ _ _ _ _)
      | (with_reducible exact ih2 _ _ _ _ _ _ _ _ _ _ _)
      | (with_reducible exact ih3 _ _ _ _ _ _ _ _ _ _ _ _ _)
      | (with_reducible exact spec_rwPaint.mono _ _ _ _)
      | (with_reducible exact LeO.refl _)
      | (with_reducible exact LeO.none _)
      | (with_reducible refine LeO.ite ?_ ?_)
      | (with_reducible refine LeO.bind ?_ (fun _ => ?_))
      | exact ih0 _ _ _ _ _ _ _
      | exact ih1 _ _ _ _ _ _ _ _ _ _ _
      | exact ih2 _ _ _ _ _ _ _ _ _ _ _
      | exact ih3 _ _ _ _ _ _ _ _ _ _ _ _ _
      | exact spec_rwPaint.mono _ _ _ _
      | exact LeO.none _
      | refine LeO.ite ?_ ?_
      | refine LeO.bind ?_ (fun _ => ?_)
    · intro y0 y1 y2 y3 y4 y5 y6 y7 y8 y9 y10
      unfold spec_rwBest.l1
      repeat' first
      | (with_reducible exact ih0 _ _ _ _ _ _ _)
      | (with_reducible exact ih1 _ _ _ _ _ _ _ _ _ _ _)
      | (with_reducible exact ih2 _ _ _ _ _ _ _ _ _ _ _)
      | (with_reducible exact ih3 _ _ _ _ _ _ _ _ _ _ _ _ _)
      | (with_reducible exact spec_rwPaint.mono _ _ _ _)
      | (with_reducible exact LeO.refl _)
      | (with_reducible exact LeO.none _)
      | (with_reducible refine LeO.ite ?_ ?_)
      | (with_reducible refine LeO.bind ?_ (fun _ => ?_))
      | exact ih0 _ _ _ _ _ _ _
      | exact ih1 _ _ _ _ _ _ _ _ _ _ _
      | exact ih2 _ _ _ _ _ _ _ _ _ _ _
      | exact ih3 _ _ _ _ _ _ _ _ _ _ _ _ _
      | exact spec_rwPaint.mono _ _ _ _
      | exact LeO.none _
      | refine LeO.ite ?_ ?_
      | refine LeO.bind ?_ (fun _ => ?_)
    · intro y0 y1 y2 y3 y4 y5 y6 y7 y8 y9 y10 y11 y12
      unfold spec_rwBest.l2
      repeat' first
      | (with_reducible exact ih0 _ _ _ _ _ _ _)
      | (with_reducible exact ih1 _ _ _ _ _ _ _ _ _ _ _)
      | (with_reducible exact ih2 _ _ _ _ _ _ _ _ _ _ _)
      | (with_reducible exact ih3 _ _ _ _ _ _ _ _ _ _ _ _ _)
      | (with_reducible exact spec_rwPaint.mono _ _ _ _)
      | (with_reducible exact LeO.refl _)
      | (with_reducible exact LeO.none _)
      | (with_reducible refine LeO.ite ?_ ?_)
      | (with_reducible refine LeO.bind ?_ (fun _ => ?_))
      | exact ih0 _ _ _ _ _ _ _
      | exact ih1 _ _ _ _ _ _ _ _ _ _ _
      | exact ih2 _ _ _ _ _ _ _ _ _ _ _
      | exact ih3 _ _ _ _ _ _ _ _ _ _ _ _ _
      | exact spec_rwPaint.mono _ _ _ _
      | exact LeO.none _
      | refine LeO.ite ?_ ?_
      | refine LeO.bind ?_ (fun _ => ?_)
theorem spec_rwBest.mono : ∀ a0 a1 k, LeO (spec_rwBest.f k a0 a1) (spec_rwBest.f (k + 1) a0 a1) := by
  intro a0 a1 k
  obtain ⟨ih0, ih1, ih2, ih3⟩ := spec_rwBest.mono_l k
  unfold spec_rwBest.f
  repeat' first
      | (with_reducible exact ih0 _ _ _ _ _ _ _)
      | (with_reducible exact ih1 _ _ _ _ _ _ _ _ _ _ _)
      | (with_reducible exact ih2 _ _ _ _ _ _ _ _ _ _ _)
      | (with_reducible exact ih3 _ _ _ _ _ _ _ _ _ _ _ _ _)
      | (with_reducible exact spec_rwPaint.mono _ _ _ _)
      | (with_reducible exact LeO.refl _)
      | (with_reducible exact LeO.none _)
      | (with_reducible refine LeO.ite ?_ ?_)
      | (with_reducible refine LeO.bind ?_ (fun _ => ?_))
      | exact ih0 _ _ _ _ _ _ _
      | exact ih1 _ _ _ _ _ _ _ _ _ _ _
      | exact ih2 _ _ _ _ _ _ _ _ _ _ _
      | exact ih3 _ _ _ _ _ _ _ _ _ _ _ _ _
      | exact spec_rwPaint.mono _ _ _ _
      | exact LeO.none _
      | refine LeO.ite ?_ ?_
      | refine LeO.bind ?_ (fun _ => ?_)
set_option maxHeartbeats 8000000 in
set_option maxRecDepth 100000 in
theorem spec_rwBest.calls (k : Nat) (A0 : Option Addr) (c0 : Nat) (l0 : List (List Int)) (a1 : Bool) (r1 : Int) (r2 : List Int) (r3 : Int) (w : World) (hr0 : Kd.C (Kd.slice 3 (Kd.int .i64)) w A0 l0.length l0) (hc0 : l0.length ≤ c0) (h : spec_rwBest.f k l0 a1 = some (r1, r2, r3)) :
    Calls Try.prog 72 #[.slice A0 l0.length c0, .bool a1] w fun e w' => ∃ v1_ : Value, e = .returned (.tuple #[.int .i64 r1, v1_, .int .i64 r3]) ∧ Kd.R (Kd.int .i64) 3 w' w.heap.size (fun _ => True) v1_ r2 ∧ Below w.heap.size w w' := by
  have HR0 := Aside0.mk hr0
  have HC0 := Aside0.mk hc0
  clear hr0 hc0
  have HB := Aside0.mk (Below.refl w.heap.size w)
  have H : ((spec_rwRing.f (l0.length : Int) a1).bind fun t130 => (if 0 < (l0.length : Int) then (spec_rwBest.l0 k l0 t130 1000000 0 ([] : List Int) ((rd_L1 l0 0).length : Int) 0) else (none))) = some (r1, r2, r3) := h
  clear h
  replace H := Option.bind_eq_some_iff.mp H
  obtain ⟨t130, A30, H⟩ := H
  replace H : (if 0 < (l0.length : Int) then (spec_rwBest.l0 k l0 t130 1000000 0 ([] : List Int) ((rd_L1 l0 0).length : Int) 0) else (none)) = some (r1, r2, r3) := H
  have A3 := Aside0.mk A30
  clear A30
  by_cases c4 : 0 < (l0.length : Int)
  · rw [if_pos c4] at H
    have c4b0 : decide (0 < (l0.length : Int)) = true := decide_eq_true c4
    have c4b1 : decide (0 < l0.length) = true := decide_eq_true (by omega)
    clear c4
    have H' := Aside0.mk H
    clear H
    go_enter Try.func72, Try.ntmps72
    go_wp2_with (first | (go_at_call 55; (with_reducible refine (spec_rwRing.calls (l0.length : Int) a1 t130 _ A3.out).mono ?_); rintro e w' ⟨rfl, ⟨nd, rfl⟩⟩; (try first | exact ⟨rfl, _, World.drewN_drewN _ _ _⟩ | exact ⟨rfl, _, Eq.trans (World.drewN_drewN _ _ _) (congrArg (World.drewN _) (Nat.add_assoc _ _ _))⟩); have p131 : 0 ≤ (0 : Int) := (by omega); have q131 : 0 < (l0.length : Int) := of_decide_eq_true (by first | (with_reducible assumption) | assumption); obtain ⟨ad131, A131_0, c131_0, e131, hx131_0, hl131_0, hi131_0⟩ := at_L1 HR0.out 0 p131 q131; cases e131; have qi131 : (0 < l0.length) = True := eq_true (by omega); (try rw [show ((0 : Int)).toNat = 0 from rfl] at hx131_0); (try rw [Addr.add_zero'] at hx131_0); have HR131_0 := Aside0.mk hi131_0; have HC131_0 := Aside0.mk hl131_0; clear hi131_0 hl131_0; replace p131 := eq_true p131; replace q131 := eq_true q131))
    repeat (go_quiet (first | (go_at_call 55; (with_reducible refine (spec_rwRing.calls (l0.length : Int) a1 t130 _ A3.out).mono ?_); rintro e w' ⟨rfl, ⟨nd, rfl⟩⟩; (try first | exact ⟨rfl, _, World.drewN_drewN _ _ _⟩ | exact ⟨rfl, _, Eq.trans (World.drewN_drewN _ _ _) (congrArg (World.drewN _) (Nat.add_assoc _ _ _))⟩); have p131 : 0 ≤ (0 : Int) := (by omega); have q131 : 0 < (l0.length : Int) := of_decide_eq_true (by first | (with_reducible assumption) | assumption); obtain ⟨ad131, A131_0, c131_0, e131, hx131_0, hl131_0, hi131_0⟩ := at_L1 HR0.out 0 p131 q131; cases e131; have qi131 : (0 < l0.length) = True := eq_true (by omega); (try rw [show ((0 : Int)).toNat = 0 from rfl] at hx131_0); (try rw [Addr.add_zero'] at hx131_0); have HR131_0 := Aside0.mk hi131_0; have HC131_0 := Aside0.mk hl131_0; clear hi131_0 hl131_0; replace p131 := eq_true p131; replace q131 := eq_true q131)); try go_wp2_with (first | (go_at_call 55; (with_reducible refine (spec_rwRing.calls (l0.length : Int) a1 t130 _ A3.out).mono ?_); rintro e w' ⟨rfl, ⟨nd, rfl⟩⟩; (try first | exact ⟨rfl, _, World.drewN_drewN _ _ _⟩ | exact ⟨rfl, _, Eq.trans (World.drewN_drewN _ _ _) (congrArg (World.drewN _) (Nat.add_assoc _ _ _))⟩); have p131 : 0 ≤ (0 : Int) := (by omega); have q131 : 0 < (l0.length : Int) := of_decide_eq_true (by first | (with_reducible assumption) | assumption); obtain ⟨ad131, A131_0, c131_0, e131, hx131_0, hl131_0, hi131_0⟩ := at_L1 HR0.out 0 p131 q131; cases e131; have qi131 : (0 < l0.length) = True := eq_true (by omega); (try rw [show ((0 : Int)).toNat = 0 from rfl] at hx131_0); (try rw [Addr.add_zero'] at hx131_0); have HR131_0 := Aside0.mk hi131_0; have HC131_0 := Aside0.mk hl131_0; clear hi131_0 hl131_0; replace p131 := eq_true p131; replace q131 := eq_true q131)))
    go_loopg [8, 9, 10, 24] k (fun kq v8 v9 v10 v24 w' => ∃ (x8_1 : Int) (x9_1 : Int) (x10_1 : List Int) (x24_1 : Int), v8 = .int .i64 x8_1 ∧ v9 = .int .i64 x9_1 ∧ v24 = .int .i64 x24_1 ∧ Aside0 (spec_rwBest.l0 kq l0 t130 x8_1 x9_1 x10_1 ((rd_L1 l0 0).length : Int) x24_1 = some (r1, r2, r3)) ∧ Aside0 (kq ≤ k) ∧ Aside0 (Kd.R (Kd.int .i64) 3 w' w.heap.size (fun _ => True) v10 x10_1) ∧ Aside0 (Below w.heap.size w w'))
    case atStart => exact ⟨(1000000), (0), (([] : List Int)), (0), (by first | rfl | (simp; done) | (simp [*]; done)), (by first | rfl | (simp; done) | (simp [*]; done)), (by first | rfl | (simp; done) | (simp [*]; done)), H', ⟨Nat.le_refl _⟩, ⟨by first | exact Kd.R_nil _ _ _ _ _ | exact Kd.N_nil _ _ _ _ _ | exact Kd.V_nil _ _ _ _ _ | exact Kd.Q_nil _ _ _ _ _ | exact Kd.S_nil _ _ _ _ _⟩, ⟨by repeat (first | (with_reducible first | exact HB.out | apply below_alloc | apply pw_below_drewN | apply below_drew1) | exact HB.out)⟩⟩
    case round =>
      clear H'
      try clear c1
      try clear p1
      try clear q1
      try clear hx1
      try clear qi1
      try clear p2
      try clear c4
      try clear c4b0
      try clear c4b1
      try clear hx131_0
      try clear p131
      try clear q131
      obtain ⟨x8_1, x9_1, x10_1, x24_1, rfl, rfl, rfl, HA, HK1, HO_10, HB⟩ := hrel
      cases gk with
      | zero => exact absurd HA.out (by simp [spec_rwBest.l0])
      | succ k1 =>
        have H := HA.out
        clear HA
        simp only [spec_rwBest.l0] at H
        by_cases c5 : x24_1 < ((rd_L1 l0 0).length : Int)
        · rw [if_pos c5] at H
          have c5b0 : decide (x24_1 < ((rd_L1 l0 0).length : Int)) = true := decide_eq_true c5
          clear c5
          replace H := Option.bind_eq_some_iff.mp H
          obtain ⟨⟨t132, t133⟩, A60, H⟩ := H
          replace H : (if 0 < (t132.length : Int) then (if 0 ≤ x24_1 then (if x24_1 < ((rd_L1 t132 0).length : Int) then (if (rd (rd_L1 t132 0) x24_1) = 1000000 then (spec_rwBest.j1 k1 l0 t130 x8_1 x9_1 x10_1 x24_1 t132 t133 ((rd_L1 l0 0).length : Int) x24_1 true) else (spec_rwBest.j1 k1 l0 t130 x8_1 x9_1 x10_1 x24_1 t132 t133 ((rd_L1 l0 0).length : Int) x24_1 (decide ((rd (rd_L1 t132 0) x24_1) > x8_1)))) else (none)) else (none)) else (none)) = some (r1, r2, r3) := H
          have A6 := Aside0.mk A60
          clear A60
          have HC7 := Aside0.mk H
          clear H
          go_upto_region 8 with (first | (go_at_call 80; (with_reducible refine (spec_rwPaint.calls k1 _ _ l0 x24_1 t130 t132 t133 _ ?side1 ?side2 A6.out).mono ?_); (case side1 => repeat (first | exact (Kd.C_below HR0.out HB.out) | (with_reducible refine Kd.C_alloc ?_ _) | (with_reducible refine Kd.C_drewN ?_ _) | (with_reducible refine Kd.C_drew ?_))); (case side2 => exact HC0.out); rintro e w8 ⟨v134, v136, rfl, ho0, ho1, hb⟩; have n0_ := Aside0.mk (Kd.R_below (by (with_reducible repeat (first | apply Kd.R_alloc | apply Kd.R_drewN | apply Kd.R_drew)); exact HO_10.out) hb); have n1_ := Aside0.mk (Kd.S_lower (Kd.S_new' ho0 (Kd.R_lt (by (with_reducible repeat (first | apply Kd.R_alloc | apply Kd.R_drewN | apply Kd.R_drew)); exact HO_10.out))) (below_size (by repeat (first | (with_reducible first | exact HB.out | apply below_alloc | apply pw_below_drewN | apply below_drew1) | exact HB.out)))); have n2_ := Aside0.mk (Kd.S_lower (Kd.S_new' ho1 (Kd.R_lt (by (with_reducible repeat (first | apply Kd.R_alloc | apply Kd.R_drewN | apply Kd.R_drew)); exact HO_10.out))) (below_size (by repeat (first | (with_reducible first | exact HB.out | apply below_alloc | apply pw_below_drewN | apply below_drew1) | exact HB.out)))); have n3_ := Aside0.mk (below_step (by repeat (first | (with_reducible first | exact HB.out | apply below_alloc | apply pw_below_drewN | apply below_drew1) | exact HB.out)) hb); clear HO_10; clear HB; have HO_10 := n0_; have HO135 := n1_; have HO137 := n2_; have HB := n3_; clear n0_ n1_ n2_ n3_; (try clear hb); (try clear hb2); (try clear hk); (try clear hi); (try clear ho0); (try clear ho1)))
          repeat (go_quiet (first | (go_at_call 80; (with_reducible refine (spec_rwPaint.calls k1 _ _ l0 x24_1 t130 t132 t133 _ ?side1 ?side2 A6.out).mono ?_); (case side1 => repeat (first | exact (Kd.C_below HR0.out HB.out) | (with_reducible refine Kd.C_alloc ?_ _) | (with_reducible refine Kd.C_drewN ?_ _) | (with_reducible refine Kd.C_drew ?_))); (case side2 => exact HC0.out); rintro e w8 ⟨v134, v136, rfl, ho0, ho1, hb⟩; have n0_ := Aside0.mk (Kd.R_below (by (with_reducible repeat (first | apply Kd.R_alloc | apply Kd.R_drewN | apply Kd.R_drew)); exact HO_10.out) hb); have n1_ := Aside0.mk (Kd.S_lower (Kd.S_new' ho0 (Kd.R_lt (by (with_reducible repeat (first | apply Kd.R_alloc | apply Kd.R_drewN | apply Kd.R_drew)); exact HO_10.out))) (below_size (by repeat (first | (with_reducible first | exact HB.out | apply below_alloc | apply pw_below_drewN | apply below_drew1) | exact HB.out)))); have n2_ := Aside0.mk (Kd.S_lower (Kd.S_new' ho1 (Kd.R_lt (by (with_reducible repeat (first | apply Kd.R_alloc | apply Kd.R_drewN | apply Kd.R_drew)); exact HO_10.out))) (below_size (by repeat (first | (with_reducible first | exact HB.out | apply below_alloc | apply pw_below_drewN | apply below_drew1) | exact HB.out)))); have n3_ := Aside0.mk (below_step (by repeat (first | (with_reducible first | exact HB.out | apply below_alloc | apply pw_below_drewN | apply below_drew1) | exact HB.out)) hb); clear HO_10; clear HB; have HO_10 := n0_; have HO135 := n1_; have HO137 := n2_; have HB := n3_; clear n0_ n1_ n2_ n3_; (try clear hb); (try clear hb2); (try clear hk); (try clear hi); (try clear ho0); (try clear ho1))); go_upto_region 8 with (first | (go_at_call 80; (with_reducible refine (spec_rwPaint.calls k1 _ _ l0 x24_1 t130 t132 t133 _ ?side1 ?side2 A6.out).mono ?_); (case side1 => repeat (first | exact (Kd.C_below HR0.out HB.out) | (with_reducible refine Kd.C_alloc ?_ _) | (with_reducible refine Kd.C_drewN ?_ _) | (with_reducible refine Kd.C_drew ?_))); (case side2 => exact HC0.out); rintro e w8 ⟨v134, v136, rfl, ho0, ho1, hb⟩; have n0_ := Aside0.mk (Kd.R_below (by (with_reducible repeat (first | apply Kd.R_alloc | apply Kd.R_drewN | apply Kd.R_drew)); exact HO_10.out) hb); have n1_ := Aside0.mk (Kd.S_lower (Kd.S_new' ho0 (Kd.R_lt (by (with_reducible repeat (first | apply Kd.R_alloc | apply Kd.R_drewN | apply Kd.R_drew)); exact HO_10.out))) (below_size (by repeat (first | (with_reducible first | exact HB.out | apply below_alloc | apply pw_below_drewN | apply below_drew1) | exact HB.out)))); have n2_ := Aside0.mk (Kd.S_lower (Kd.S_new' ho1 (Kd.R_lt (by (with_reducible repeat (first | apply Kd.R_alloc | apply Kd.R_drewN | apply Kd.R_drew)); exact HO_10.out))) (below_size (by repeat (first | (with_reducible first | exact HB.out | apply below_alloc | apply pw_below_drewN | apply below_drew1) | exact HB.out)))); have n3_ := Aside0.mk (below_step (by repeat (first | (with_reducible first | exact HB.out | apply below_alloc | apply pw_below_drewN | apply below_drew1) | exact HB.out)) hb); clear HO_10; clear HB; have HO_10 := n0_; have HO135 := n1_; have HO137 := n2_; have HB := n3_; clear n0_ n1_ n2_ n3_; (try clear hb); (try clear hb2); (try clear hk); (try clear hi); (try clear ho0); (try clear ho1))))
          (try simp only [Act.put, List.setIfInBounds_toArray, List.set_cons_zero, List.set_cons_succ])
          go_cut [50] (fun v50 wc => ∃ (kq : Nat) (x50_6 : Bool), v50 = .bool x50_6 ∧ Aside0 (spec_rwBest.j1 kq l0 t130 x8_1 x9_1 x10_1 x24_1 t132 t133 ((rd_L1 l0 0).length : Int) x24_1 x50_6 = some (r1, r2, r3)) ∧ Aside0 (kq ≤ k1) ∧ Aside0 (Kd.R (Kd.int .i64) 3 wc w.heap.size (fun _ => True) u10 x10_1) ∧ Aside0 (Kd.S (Kd.slice 3 (Kd.int .i64)) 29 wc w.heap.size (fun k_ => some k_ ≠ (u10 : Value).ownBlock ∧ some k_ ≠ (v136 : Value).ownBlock) v134 t132) ∧ Aside0 (Kd.S (Kd.slice 3 (Kd.int .i64)) 29 wc w.heap.size (fun k_ => some k_ ≠ (u10 : Value).ownBlock ∧ some k_ ≠ (v134 : Value).ownBlock) v136 t133) ∧ Aside0 (Below w.heap.size w wc))
          case first =>
            have H := HC7.out
            clear HC7
            by_cases c9 : 0 < (t132.length : Int)
            · rw [if_pos c9] at H
              have c9b0 : decide (0 < (t132.length : Int)) = true := decide_eq_true c9
              have c9b1 : decide (0 < t132.length) = true := decide_eq_true (by omega)
              clear c9
              (first | rw [c9b0] | (simp only [i64_w, i32_w]; rw [c9b0]) | skip)
              by_cases c10 : 0 ≤ x24_1
              · rw [if_pos c10] at H
                have c10b0 : decide (0 ≤ x24_1) = true := decide_eq_true c10
                clear c10
                by_cases c11 : x24_1 < ((rd_L1 t132 0).length : Int)
                · rw [if_pos c11] at H
                  have c11b0 : decide (x24_1 < ((rd_L1 t132 0).length : Int)) = true := decide_eq_true c11
                  clear c11
                  by_cases c12 : (rd (rd_L1 t132 0) x24_1) = 1000000
                  · rw [if_pos c12] at H
                    have c12b0 : ((rd (rd_L1 t132 0) x24_1) == 1000000) = true := beq_iff_eq.mpr c12
                    have c12b1 : ((rd (rd_L1 t132 0) x24_1) != 1000000) = false := bne_eq_false_iff_eq.mpr c12
                    clear c12
                    have H' := Aside0.mk H
                    clear H
                    obtain ⟨Ao13, co13, eo13⟩ := Kd.S_slice HO135.out
                    subst eo13
                    have p138 : 0 ≤ (0 : Int) := (by omega)
                    have q138 : 0 < (t132.length : Int) := of_decide_eq_true (by first | (with_reducible assumption) | assumption)
                    obtain ⟨ad138, A138_0, c138_0, e138, hx138_0, hl138_0, hi138_0⟩ := at_L1 (Kd.S_reads' HO135.out).2.2 0 p138 q138
                    cases e138
                    obtain ⟨ce138, hce138, hMe138, hcc138⟩ := Kd.S_get HO135.out [] 0 p138 (by first | exact q138 | exact of_decide_eq_true (by first | (with_reducible assumption) | assumption) | (have e_ := (Kd.S_reads' HO135.out).1; omega))
                    obtain ⟨ve138_0, rfl, ge138_0⟩ := hMe138
                    have hv138_0 := hcc138 0 _ rfl
                    rw [Nat.add_zero, show ((Kd.slice 3 (Kd.int .i64))).sz = 1 from rfl, Nat.mul_one] at hv138_0
                    replace hv138_0 := Option.some.inj (hv138_0.symm.trans hx138_0)
                    rw [hv138_0] at ge138_0
                    have HL138_0 := Aside0.mk (show Kd.R (Kd.int .i64) 3 _ _ _ _ (rd_L1 t132 0) from ge138_0)
                    clear hv138_0 ge138_0
                    clear hcc138 hce138
                    have qi138 : (0 < t132.length) = True := eq_true (by omega)
                    (try rw [show ((0 : Int)).toNat = 0 from rfl] at hx138_0)
                    (try rw [Addr.add_zero'] at hx138_0)
                    have HR138_0 := Aside0.mk hi138_0
                    have HC138_0 := Aside0.mk hl138_0
                    clear hi138_0 hl138_0
                    replace p138 := eq_true p138
                    replace q138 := eq_true q138
                    have p139 : 0 ≤ (x24_1 : Int) := of_decide_eq_true (by first | (with_reducible assumption) | assumption)
                    have q139 : x24_1 < ((rd_L1 t132 0).length : Int) := of_decide_eq_true (by first | (with_reducible assumption) | assumption)
                    obtain ⟨ad139, e139, hx139_0⟩ := Kd.at_int (by repeat (first | (with_reducible exact HR138_0.out) | (with_reducible refine Kd.C_alloc ?_ _) | (with_reducible refine Kd.C_drewN ?_ _) | (with_reducible refine Kd.C_drew ?_) | exact HR138_0.out)) x24_1 p139 q139
                    cases e139
                    replace p139 := eq_true p139
                    replace q139 := eq_true q139
                    go_wp2
                    repeat (go_quiet (fail); try go_wp2)
                    go_meet
                    case rel => exact ⟨_, (true), (by first | rfl | (simp; done) | (simp [*]; done)), H', ⟨by have := HK1.out; first | omega | exact Nat.le_refl _⟩, ⟨by (with_reducible repeat (first | apply Kd.R_alloc | apply Kd.R_drewN | apply Kd.R_drew)); exact HO_10.out⟩, ⟨by (with_reducible repeat (first | apply Kd.S_alloc | apply Kd.S_drewN | apply Kd.S_drew)); exact Kd.S_mono HO135.out (fun _ hk => ⟨hk.2, hk.1⟩)⟩, ⟨by (with_reducible repeat (first | apply Kd.S_alloc | apply Kd.S_drewN | apply Kd.S_drew)); exact Kd.S_mono HO137.out (fun _ hk => ⟨hk.2, hk.1⟩)⟩, ⟨by repeat (first | (with_reducible first | exact HB.out | apply below_alloc | apply pw_below_drewN | apply below_drew1) | exact HB.out)⟩⟩
                  · rw [if_neg c12] at H
                    have c12b0 : ((rd (rd_L1 t132 0) x24_1) == 1000000) = false := beq_eq_false_iff_ne.mpr c12
                    have c12b1 : ((rd (rd_L1 t132 0) x24_1) != 1000000) = true := bne_iff_ne.mpr c12
                    have H' := Aside0.mk H
                    clear H
                    obtain ⟨Ao14, co14, eo14⟩ := Kd.S_slice HO135.out
                    subst eo14
                    have p138 : 0 ≤ (0 : Int) := (by omega)
                    have q138 : 0 < (t132.length : Int) := of_decide_eq_true (by first | (with_reducible assumption) | assumption)
                    obtain ⟨ad138, A138_0, c138_0, e138, hx138_0, hl138_0, hi138_0⟩ := at_L1 (Kd.S_reads' HO135.out).2.2 0 p138 q138
                    cases e138
                    obtain ⟨ce138, hce138, hMe138, hcc138⟩ := Kd.S_get HO135.out [] 0 p138 (by first | exact q138 | exact of_decide_eq_true (by first | (with_reducible assumption) | assumption) | (have e_ := (Kd.S_reads' HO135.out).1; omega))
                    obtain ⟨ve138_0, rfl, ge138_0⟩ := hMe138
                    have hv138_0 := hcc138 0 _ rfl
                    rw [Nat.add_zero, show ((Kd.slice 3 (Kd.int .i64))).sz = 1 from rfl, Nat.mul_one] at hv138_0
                    replace hv138_0 := Option.some.inj (hv138_0.symm.trans hx138_0)
                    rw [hv138_0] at ge138_0
                    have HL138_0 := Aside0.mk (show Kd.R (Kd.int .i64) 3 _ _ _ _ (rd_L1 t132 0) from ge138_0)
                    clear hv138_0 ge138_0
                    clear hcc138 hce138
                    have qi138 : (0 < t132.length) = True := eq_true (by omega)
                    (try rw [show ((0 : Int)).toNat = 0 from rfl] at hx138_0)
                    (try rw [Addr.add_zero'] at hx138_0)
                    have HR138_0 := Aside0.mk hi138_0
                    have HC138_0 := Aside0.mk hl138_0
                    clear hi138_0 hl138_0
                    replace p138 := eq_true p138
                    replace q138 := eq_true q138
                    have p139 : 0 ≤ (x24_1 : Int) := of_decide_eq_true (by first | (with_reducible assumption) | assumption)
                    have q139 : x24_1 < ((rd_L1 t132 0).length : Int) := of_decide_eq_true (by first | (with_reducible assumption) | assumption)
                    obtain ⟨ad139, e139, hx139_0⟩ := Kd.at_int (by repeat (first | (with_reducible exact HR138_0.out) | (with_reducible refine Kd.C_alloc ?_ _) | (with_reducible refine Kd.C_drewN ?_ _) | (with_reducible refine Kd.C_drew ?_) | exact HR138_0.out)) x24_1 p139 q139
                    cases e139
                    replace p139 := eq_true p139
                    replace q139 := eq_true q139
                    have p140 : 0 ≤ (0 : Int) := (by omega)
                    have q140 : 0 < (t132.length : Int) := of_decide_eq_true (by first | (with_reducible assumption) | assumption)
                    obtain ⟨ad140, A140_0, c140_0, e140, hx140_0, hl140_0, hi140_0⟩ := at_L1 (Kd.S_reads' HO135.out).2.2 0 p140 q140
                    obtain rfl : ad138 = ad140 := (by injection e140)
                    obtain ⟨ce140, hce140, hMe140, hcc140⟩ := Kd.S_get HO135.out [] 0 p140 (by first | exact q140 | exact of_decide_eq_true (by first | (with_reducible assumption) | assumption) | (have e_ := (Kd.S_reads' HO135.out).1; omega))
                    obtain ⟨ve140_0, rfl, ge140_0⟩ := hMe140
                    have hv140_0 := hcc140 0 _ rfl
                    rw [Nat.add_zero, show ((Kd.slice 3 (Kd.int .i64))).sz = 1 from rfl, Nat.mul_one] at hv140_0
                    replace hv140_0 := Option.some.inj (hv140_0.symm.trans hx140_0)
                    rw [hv140_0] at ge140_0
                    have HL140_0 := Aside0.mk (show Kd.R (Kd.int .i64) 3 _ _ _ _ (rd_L1 t132 0) from ge140_0)
                    clear hv140_0 ge140_0
                    clear hcc140 hce140
                    have qi140 : (0 < t132.length) = True := eq_true (by omega)
                    (try rw [show ((0 : Int)).toNat = 0 from rfl] at hx140_0)
                    (try rw [Addr.add_zero'] at hx140_0)
                    have HR140_0 := Aside0.mk hi140_0
                    have HC140_0 := Aside0.mk hl140_0
                    clear hi140_0 hl140_0
                    replace p140 := eq_true p140
                    replace q140 := eq_true q140
                    have ea_ := Option.some.inj (hx138_0.symm.trans hx140_0)
                    injection ea_ with ea_ en_ ec_
                    subst ea_
                    subst ec_
                    clear en_
                    have p141 : 0 ≤ (x24_1 : Int) := of_decide_eq_true (by first | (with_reducible assumption) | assumption)
                    have q141 : x24_1 < ((rd_L1 t132 0).length : Int) := of_decide_eq_true (by first | (with_reducible assumption) | assumption)
                    obtain ⟨ad141, e141, hx141_0⟩ := Kd.at_int (by repeat (first | (with_reducible exact HR140_0.out) | (with_reducible refine Kd.C_alloc ?_ _) | (with_reducible refine Kd.C_drewN ?_ _) | (with_reducible refine Kd.C_drew ?_) | exact HR140_0.out)) x24_1 p141 q141
                    cases e141
                    replace p141 := eq_true p141
                    replace q141 := eq_true q141
                    go_wp2
                    repeat (go_quiet (fail); try go_wp2)
                    go_meet
                    case rel => exact ⟨_, (decide ((rd (rd_L1 t132 0) x24_1) > x8_1)), (by first | rfl | (simp; done) | (simp [*]; done)), H', ⟨by have := HK1.out; first | omega | exact Nat.le_refl _⟩, ⟨by (with_reducible repeat (first | apply Kd.R_alloc | apply Kd.R_drewN | apply Kd.R_drew)); exact HO_10.out⟩, ⟨by (with_reducible repeat (first | apply Kd.S_alloc | apply Kd.S_drewN | apply Kd.S_drew)); exact Kd.S_mono HO135.out (fun _ hk => ⟨hk.2, hk.1⟩)⟩, ⟨by (with_reducible repeat (first | apply Kd.S_alloc | apply Kd.S_drewN | apply Kd.S_drew)); exact Kd.S_mono HO137.out (fun _ hk => ⟨hk.2, hk.1⟩)⟩, ⟨by repeat (first | (with_reducible first | exact HB.out | apply below_alloc | apply pw_below_drewN | apply below_drew1) | exact HB.out)⟩⟩
                · rw [if_neg c11] at H
                  exact absurd H (by simp)
              · rw [if_neg c10] at H
                exact absurd H (by simp)
            · rw [if_neg c9] at H
              exact absurd H (by simp)
          case rest =>
            clear HC7
            try clear c1
            try clear p1
            try clear q1
            try clear hx1
            try clear qi1
            try clear p2
            try clear c4
            try clear c4b0
            try clear c4b1
            try clear c5
            try clear c5b0
            try clear c7
            try clear c9
            try clear c9b0
            try clear c9b1
            try clear c10
            try clear c10b0
            try clear c11
            try clear c11b0
            try clear c12
            try clear c12b0
            try clear c12b1
            try clear c13
            try clear p13
            try clear q13
            try clear hx13
            try clear qi13
            try clear c14
            try clear p14
            try clear q14
            try clear hx14
            try clear qi14
            try clear hx131_0
            try clear hx138_0
            try clear hx139_0
            try clear hx140_0
            try clear hx141_0
            try clear p1
            try clear p131
            try clear p138
            try clear p139
            try clear p140
            try clear p141
            try clear p2
            try clear q1
            try clear q131
            try clear q138
            try clear q139
            try clear q140
            try clear q141
            obtain ⟨kq, x50_6, rfl, HA, HJ6, HO_10, HO_12, HO_13, HB⟩ := hcut
            cases kq with
            | zero => exact absurd HA.out (by simp [spec_rwBest.j1])
            | succ kj6 =>
              have H := HA.out
              clear HA
              simp only [spec_rwBest.j1] at H
              by_cases c15 : x50_6 = true
              · subst c15
                have H1 : (spec_rwBest.l0 kj6 l0 t130 x8_1 x9_1 x10_1 ((rd_L1 l0 0).length : Int) (wrap64 (x24_1 + 1))) = some (r1, r2, r3) := by rw [if_pos rfl] at H; exact H
                clear H
                have H := H1
                clear H1
                have H' := Aside0.mk H
                clear H
                go_wp2
                repeat (go_quiet (fail); try go_wp2)
                go_roundg kj6
                case measure => have := HK1.out; have := HJ6.out; omega
                case rel => exact ⟨(x8_1), (x9_1), (x10_1), (wrap64 (x24_1 + 1)), (by first | rfl | (simp; done) | (simp [*]; done)), (by first | rfl | (simp; done) | (simp [*]; done)), (by first | rfl | (simp; done) | (simp [*]; done)), H', ⟨by have := HK1.out; have := HJ6.out; omega⟩, ⟨by (with_reducible repeat (first | apply Kd.R_alloc | apply Kd.R_drewN | apply Kd.R_drew)); exact HO_10.out⟩, ⟨by repeat (first | (with_reducible first | exact HB.out | apply below_alloc | apply pw_below_drewN | apply below_drew1) | exact HB.out)⟩⟩
              · replace c15 := Bool.eq_false_iff.mpr c15
                subst c15
                have H1 : (if 0 < (t132.length : Int) then (if 0 ≤ x24_1 then (if x24_1 < ((rd_L1 t132 0).length : Int) then (if (rd (rd_L1 t132 0) x24_1) < x8_1 then (spec_rwBest.l1 kj6 l0 t130 (rd (rd_L1 t132 0) x24_1) 0 (([x24_1] : List Int)) x24_1 t132 t133 1 ((rd_L1 l0 0).length : Int) x24_1) else (if 0 < (t133.length : Int) then (if x24_1 < ((rd_L1 t133 0).length : Int) then (spec_rwBest.l0 kj6 l0 t130 x8_1 (wrap64 (x9_1 + (rd (rd_L1 t133 0) x24_1))) x10_1 ((rd_L1 l0 0).length : Int) (wrap64 (x24_1 + 1))) else (none)) else (none))) else (none)) else (none)) else (none)) = some (r1, r2, r3) := by rw [if_neg (show ¬ (false = true) by decide)] at H; exact H
                clear H
                have H := H1
                clear H1
                by_cases c16 : 0 < (t132.length : Int)
                · rw [if_pos c16] at H
                  have c16b0 : decide (0 < (t132.length : Int)) = true := decide_eq_true c16
                  have c16b1 : decide (0 < t132.length) = true := decide_eq_true (by omega)
                  clear c16
                  by_cases c17 : 0 ≤ x24_1
                  · rw [if_pos c17] at H
                    have c17b0 : decide (0 ≤ x24_1) = true := decide_eq_true c17
                    clear c17
                    by_cases c18 : x24_1 < ((rd_L1 t132 0).length : Int)
                    · rw [if_pos c18] at H
                      have c18b0 : decide (x24_1 < ((rd_L1 t132 0).length : Int)) = true := decide_eq_true c18
                      clear c18
                      by_cases c19 : (rd (rd_L1 t132 0) x24_1) < x8_1
                      · rw [if_pos c19] at H
                        have c19b0 : decide ((rd (rd_L1 t132 0) x24_1) < x8_1) = true := decide_eq_true c19
                        clear c19
                        obtain ⟨y146, hy146⟩ : ∃ y_ : List Int, y_ = (([x24_1] : List Int)) := ⟨_, rfl⟩
                        replace H : (spec_rwBest.l1 kj6 l0 t130 (rd (rd_L1 t132 0) x24_1) 0 y146 x24_1 t132 t133 1 ((rd_L1 l0 0).length : Int) x24_1) = some (r1, r2, r3) := by first | (rw [hy146]; with_reducible exact H) | (have H2_ := (Option.bind_some _ _).symm.trans H; rw [hy146]; with_reducible exact H2_) | (have H2_ := (Option.bind_some _ _).symm.trans H; with_reducible exact H2_) | with_reducible exact H | (rw [hy146]; exact H) | exact H
                        have Ny146 := Aside0.mk hy146
                        clear hy146
                        have H' := Aside0.mk H
                        clear H
                        obtain ⟨Ao20, co20, eo20⟩ := Kd.S_slice HO_12.out
                        subst eo20
                        have p142 : 0 ≤ (0 : Int) := (by omega)
                        have q142 : 0 < (t132.length : Int) := of_decide_eq_true (by first | (with_reducible assumption) | assumption)
                        obtain ⟨ad142, A142_0, c142_0, e142, hx142_0, hl142_0, hi142_0⟩ := at_L1 (Kd.S_reads' HO_12.out).2.2 0 p142 q142
                        cases e142
                        obtain ⟨ce142, hce142, hMe142, hcc142⟩ := Kd.S_get HO_12.out [] 0 p142 (by first | exact q142 | exact of_decide_eq_true (by first | (with_reducible assumption) | assumption) | (have e_ := (Kd.S_reads' HO_12.out).1; omega))
                        obtain ⟨ve142_0, rfl, ge142_0⟩ := hMe142
                        have hv142_0 := hcc142 0 _ rfl
                        rw [Nat.add_zero, show ((Kd.slice 3 (Kd.int .i64))).sz = 1 from rfl, Nat.mul_one] at hv142_0
                        replace hv142_0 := Option.some.inj (hv142_0.symm.trans hx142_0)
                        rw [hv142_0] at ge142_0
                        have HL142_0 := Aside0.mk (show Kd.R (Kd.int .i64) 3 _ _ _ _ (rd_L1 t132 0) from ge142_0)
                        clear hv142_0 ge142_0
                        clear hcc142 hce142
                        have qi142 : (0 < t132.length) = True := eq_true (by omega)
                        (try rw [show ((0 : Int)).toNat = 0 from rfl] at hx142_0)
                        (try rw [Addr.add_zero'] at hx142_0)
                        have HR142_0 := Aside0.mk hi142_0
                        have HC142_0 := Aside0.mk hl142_0
                        clear hi142_0 hl142_0
                        replace p142 := eq_true p142
                        replace q142 := eq_true q142
                        have p143 : 0 ≤ (x24_1 : Int) := of_decide_eq_true (by first | (with_reducible assumption) | assumption)
                        have q143 : x24_1 < ((rd_L1 t132 0).length : Int) := of_decide_eq_true (by first | (with_reducible assumption) | assumption)
                        obtain ⟨ad143, e143, hx143_0⟩ := Kd.at_int (by repeat (first | (with_reducible exact HR142_0.out) | (with_reducible refine Kd.C_alloc ?_ _) | (with_reducible refine Kd.C_drewN ?_ _) | (with_reducible refine Kd.C_drew ?_) | exact HR142_0.out)) x24_1 p143 q143
                        cases e143
                        replace p143 := eq_true p143
                        replace q143 := eq_true q143
                        have p144 : 0 ≤ (0 : Int) := (by omega)
                        have q144 : 0 < (t132.length : Int) := of_decide_eq_true (by first | (with_reducible assumption) | assumption)
                        obtain ⟨ad144, A144_0, c144_0, e144, hx144_0, hl144_0, hi144_0⟩ := at_L1 (Kd.S_reads' HO_12.out).2.2 0 p144 q144
                        obtain rfl : ad142 = ad144 := (by injection e144)
                        obtain ⟨ce144, hce144, hMe144, hcc144⟩ := Kd.S_get HO_12.out [] 0 p144 (by first | exact q144 | exact of_decide_eq_true (by first | (with_reducible assumption) | assumption) | (have e_ := (Kd.S_reads' HO_12.out).1; omega))
                        obtain ⟨ve144_0, rfl, ge144_0⟩ := hMe144
                        have hv144_0 := hcc144 0 _ rfl
                        rw [Nat.add_zero, show ((Kd.slice 3 (Kd.int .i64))).sz = 1 from rfl, Nat.mul_one] at hv144_0
                        replace hv144_0 := Option.some.inj (hv144_0.symm.trans hx144_0)
                        rw [hv144_0] at ge144_0
                        have HL144_0 := Aside0.mk (show Kd.R (Kd.int .i64) 3 _ _ _ _ (rd_L1 t132 0) from ge144_0)
                        clear hv144_0 ge144_0
                        clear hcc144 hce144
                        have qi144 : (0 < t132.length) = True := eq_true (by omega)
                        (try rw [show ((0 : Int)).toNat = 0 from rfl] at hx144_0)
                        (try rw [Addr.add_zero'] at hx144_0)
                        have HR144_0 := Aside0.mk hi144_0
                        have HC144_0 := Aside0.mk hl144_0
                        clear hi144_0 hl144_0
                        replace p144 := eq_true p144
                        replace q144 := eq_true q144
                        have ea_ := Option.some.inj (hx142_0.symm.trans hx144_0)
                        injection ea_ with ea_ en_ ec_
                        subst ea_
                        subst ec_
                        clear en_
                        have p145 : 0 ≤ (x24_1 : Int) := of_decide_eq_true (by first | (with_reducible assumption) | assumption)
                        have q145 : x24_1 < ((rd_L1 t132 0).length : Int) := of_decide_eq_true (by first | (with_reducible assumption) | assumption)
                        obtain ⟨ad145, e145, hx145_0⟩ := Kd.at_int (by repeat (first | (with_reducible exact HR144_0.out) | (with_reducible refine Kd.C_alloc ?_ _) | (with_reducible refine Kd.C_drewN ?_ _) | (with_reducible refine Kd.C_drew ?_) | exact HR144_0.out)) x24_1 p145 q145
                        cases e145
                        replace p145 := eq_true p145
                        replace q145 := eq_true q145
                        go_wp2_with (first | ((with_reducible refine gate_dst (N := 66) rfl ?_); refine Kd.R_lit (Kd.int .i64) _ 3 ?hg (N := 66) ?hd (xs := ([x24_1] : List Int)) (inner := [.int .i64 x24_1]) (ok := fun _ => True) (okp := fun _ => True) ?hr ?hp (fun _ hk => hk) trivial (Below.refl _ _) (Nat.le_refl _) (by simp) ?_; (case hd => rfl); (case hg => rfl); (case hr => first | (go_simp; done) | (go_simp; rfl)); (case hp => exact (Reps.one (show Kd.M (Kd.int .i64) _ _ _ x24_1 [.int .i64 x24_1] from rfl) (Reps.none _ _))); intro v147 w21 ho22 hb hg_ hnew_; clear hg_ hnew_; (first | rw [← Ny146.out] at ho22 | (simp only [Int.reduceToNat] at ho22; rw [← Ny146.out] at ho22)); have n0_ := Aside0.mk (Kd.R_elder' (by (with_reducible repeat (first | apply Kd.R_alloc | apply Kd.R_drewN | apply Kd.R_drew)); exact HO_10.out) (Kd.R_base ho22) hb); have n1_ := Aside0.mk (Kd.S_elder' (by (with_reducible repeat (first | apply Kd.S_alloc | apply Kd.S_drewN | apply Kd.S_drew)); exact HO_12.out) (Kd.R_base ho22) hb); have n2_ := Aside0.mk (Kd.S_elder' (by (with_reducible repeat (first | apply Kd.S_alloc | apply Kd.S_drewN | apply Kd.S_drew)); exact HO_13.out) (Kd.R_base ho22) hb); have n3_ := Aside0.mk (Kd.R_elder' (by (with_reducible repeat (first | apply Kd.R_alloc | apply Kd.R_drewN | apply Kd.R_drew)); exact HL142_0.out) (Kd.R_base ho22) hb); have n4_ := Aside0.mk (Kd.R_elder' (by (with_reducible repeat (first | apply Kd.R_alloc | apply Kd.R_drewN | apply Kd.R_drew)); exact HL144_0.out) (Kd.R_base ho22) hb); have n5_ := Aside0.mk (Kd.R_lower (Kd.R_new' (Kd.R_new' (Kd.R_new' ho22 (Kd.R_lt (by (with_reducible repeat (first | apply Kd.R_alloc | apply Kd.R_drewN | apply Kd.R_drew)); exact HO_10.out))) (Kd.R_lt (by (with_reducible repeat (first | apply Kd.R_alloc | apply Kd.R_drewN | apply Kd.R_drew)); exact HL142_0.out))) (Kd.R_lt (by (with_reducible repeat (first | apply Kd.R_alloc | apply Kd.R_drewN | apply Kd.R_drew)); exact HL144_0.out))) (below_size (by repeat (first | (with_reducible first | exact HB.out | apply below_alloc | apply pw_below_drewN | apply below_drew1) | exact HB.out)))); have n6_ := Aside0.mk (Kd.C_below (by repeat (first | (with_reducible exact HR142_0.out) | (with_reducible refine Kd.C_alloc ?_ _) | (with_reducible refine Kd.C_drewN ?_ _) | (with_reducible refine Kd.C_drew ?_) | exact HR142_0.out)) hb); have n7_ := Aside0.mk (Kd.C_below (by repeat (first | (with_reducible exact HR144_0.out) | (with_reducible refine Kd.C_alloc ?_ _) | (with_reducible refine Kd.C_drewN ?_ _) | (with_reducible refine Kd.C_drew ?_) | exact HR144_0.out)) hb); have n8_ := Aside0.mk (below_step (by repeat (first | (with_reducible first | exact HB.out | apply below_alloc | apply pw_below_drewN | apply below_drew1) | exact HB.out)) hb); clear HO_10; clear HO_12; clear HO_13; clear HL142_0; clear HL144_0; clear HR142_0; clear HR144_0; clear HB; have HO_10 := n0_; have HO_12 := n1_; have HO_13 := n2_; have HL142_0 := n3_; have HL144_0 := n4_; have HO148 := n5_; have HR142_0 := n6_; have HR144_0 := n7_; have HB := n8_; clear n0_ n1_ n2_ n3_ n4_ n5_ n6_ n7_ n8_; clear hb ho22))
                        repeat (go_quiet (first | ((with_reducible refine gate_dst (N := 66) rfl ?_); refine Kd.R_lit (Kd.int .i64) _ 3 ?hg (N := 66) ?hd (xs := ([x24_1] : List Int)) (inner := [.int .i64 x24_1]) (ok := fun _ => True) (okp := fun _ => True) ?hr ?hp (fun _ hk => hk) trivial (Below.refl _ _) (Nat.le_refl _) (by simp) ?_; (case hd => rfl); (case hg => rfl); (case hr => first | (go_simp; done) | (go_simp; rfl)); (case hp => exact (Reps.one (show Kd.M (Kd.int .i64) _ _ _ x24_1 [.int .i64 x24_1] from rfl) (Reps.none _ _))); intro v147 w21 ho22 hb hg_ hnew_; clear hg_ hnew_; (first | rw [← Ny146.out] at ho22 | (simp only [Int.reduceToNat] at ho22; rw [← Ny146.out] at ho22)); have n0_ := Aside0.mk (Kd.R_elder' (by (with_reducible repeat (first | apply Kd.R_alloc | apply Kd.R_drewN | apply Kd.R_drew)); exact HO_10.out) (Kd.R_base ho22) hb); have n1_ := Aside0.mk (Kd.S_elder' (by (with_reducible repeat (first | apply Kd.S_alloc | apply Kd.S_drewN | apply Kd.S_drew)); exact HO_12.out) (Kd.R_base ho22) hb); have n2_ := Aside0.mk (Kd.S_elder' (by (with_reducible repeat (first | apply Kd.S_alloc | apply Kd.S_drewN | apply Kd.S_drew)); exact HO_13.out) (Kd.R_base ho22) hb); have n3_ := Aside0.mk (Kd.R_elder' (by (with_reducible repeat (first | apply Kd.R_alloc | apply Kd.R_drewN | apply Kd.R_drew)); exact HL142_0.out) (Kd.R_base ho22) hb); have n4_ := Aside0.mk (Kd.R_elder' (by (with_reducible repeat (first | apply Kd.R_alloc | apply Kd.R_drewN | apply Kd.R_drew)); exact HL144_0.out) (Kd.R_base ho22) hb); have n5_ := Aside0.mk (Kd.R_lower (Kd.R_new' (Kd.R_new' (Kd.R_new' ho22 (Kd.R_lt (by (with_reducible repeat (first | apply Kd.R_alloc | apply Kd.R_drewN | apply Kd.R_drew)); exact HO_10.out))) (Kd.R_lt (by (with_reducible repeat (first | apply Kd.R_alloc | apply Kd.R_drewN | apply Kd.R_drew)); exact HL142_0.out))) (Kd.R_lt (by (with_reducible repeat (first | apply Kd.R_alloc | apply Kd.R_drewN | apply Kd.R_drew)); exact HL144_0.out))) (below_size (by repeat (first | (with_reducible first | exact HB.out | apply below_alloc | apply pw_below_drewN | apply below_drew1) | exact HB.out)))); have n6_ := Aside0.mk (Kd.C_below (by repeat (first | (with_reducible exact HR142_0.out) | (with_reducible refine Kd.C_alloc ?_ _) | (with_reducible refine Kd.C_drewN ?_ _) | (with_reducible refine Kd.C_drew ?_) | exact HR142_0.out)) hb); have n7_ := Aside0.mk (Kd.C_below (by repeat (first | (with_reducible exact HR144_0.out) | (with_reducible refine Kd.C_alloc ?_ _) | (with_reducible refine Kd.C_drewN ?_ _) | (with_reducible refine Kd.C_drew ?_) | exact HR144_0.out)) hb); have n8_ := Aside0.mk (below_step (by repeat (first | (with_reducible first | exact HB.out | apply below_alloc | apply pw_below_drewN | apply below_drew1) | exact HB.out)) hb); clear HO_10; clear HO_12; clear HO_13; clear HL142_0; clear HL144_0; clear HR142_0; clear HR144_0; clear HB; have HO_10 := n0_; have HO_12 := n1_; have HO_13 := n2_; have HL142_0 := n3_; have HL144_0 := n4_; have HO148 := n5_; have HR142_0 := n6_; have HR144_0 := n7_; have HB := n8_; clear n0_ n1_ n2_ n3_ n4_ n5_ n6_ n7_ n8_; clear hb ho22)); try go_wp2_with (first | ((with_reducible refine gate_dst (N := 66) rfl ?_); refine Kd.R_lit (Kd.int .i64) _ 3 ?hg (N := 66) ?hd (xs := ([x24_1] : List Int)) (inner := [.int .i64 x24_1]) (ok := fun _ => True) (okp := fun _ => True) ?hr ?hp (fun _ hk => hk) trivial (Below.refl _ _) (Nat.le_refl _) (by simp) ?_; (case hd => rfl); (case hg => rfl); (case hr => first | (go_simp; done) | (go_simp; rfl)); (case hp => exact (Reps.one (show Kd.M (Kd.int .i64) _ _ _ x24_1 [.int .i64 x24_1] from rfl) (Reps.none _ _))); intro v147 w21 ho22 hb hg_ hnew_; clear hg_ hnew_; (first | rw [← Ny146.out] at ho22 | (simp only [Int.reduceToNat] at ho22; rw [← Ny146.out] at ho22)); have n0_ := Aside0.mk (Kd.R_elder' (by (with_reducible repeat (first | apply Kd.R_alloc | apply Kd.R_drewN | apply Kd.R_drew)); exact HO_10.out) (Kd.R_base ho22) hb); have n1_ := Aside0.mk (Kd.S_elder' (by (with_reducible repeat (first | apply Kd.S_alloc | apply Kd.S_drewN | apply Kd.S_drew)); exact HO_12.out) (Kd.R_base ho22) hb); have n2_ := Aside0.mk (Kd.S_elder' (by (with_reducible repeat (first | apply Kd.S_alloc | apply Kd.S_drewN | apply Kd.S_drew)); exact HO_13.out) (Kd.R_base ho22) hb); have n3_ := Aside0.mk (Kd.R_elder' (by (with_reducible repeat (first | apply Kd.R_alloc | apply Kd.R_drewN | apply Kd.R_drew)); exact HL142_0.out) (Kd.R_base ho22) hb); have n4_ := Aside0.mk (Kd.R_elder' (by (with_reducible repeat (first | apply Kd.R_alloc | apply Kd.R_drewN | apply Kd.R_drew)); exact HL144_0.out) (Kd.R_base ho22) hb); have n5_ := Aside0.mk (Kd.R_lower (Kd.R_new' (Kd.R_new' (Kd.R_new' ho22 (Kd.R_lt (by (with_reducible repeat (first | apply Kd.R_alloc | apply Kd.R_drewN | apply Kd.R_drew)); exact HO_10.out))) (Kd.R_lt (by (with_reducible repeat (first | apply Kd.R_alloc | apply Kd.R_drewN | apply Kd.R_drew)); exact HL142_0.out))) (Kd.R_lt (by (with_reducible repeat (first | apply Kd.R_alloc | apply Kd.R_drewN | apply Kd.R_drew)); exact HL144_0.out))) (below_size (by repeat (first | (with_reducible first | exact HB.out | apply below_alloc | apply pw_below_drewN | apply below_drew1) | exact HB.out)))); have n6_ := Aside0.mk (Kd.C_below (by repeat (first | (with_reducible exact HR142_0.out) | (with_reducible refine Kd.C_alloc ?_ _) | (with_reducible refine Kd.C_drewN ?_ _) | (with_reducible refine Kd.C_drew ?_) | exact HR142_0.out)) hb); have n7_ := Aside0.mk (Kd.C_below (by repeat (first | (with_reducible exact HR144_0.out) | (with_reducible refine Kd.C_alloc ?_ _) | (with_reducible refine Kd.C_drewN ?_ _) | (with_reducible refine Kd.C_drew ?_) | exact HR144_0.out)) hb); have n8_ := Aside0.mk (below_step (by repeat (first | (with_reducible first | exact HB.out | apply below_alloc | apply pw_below_drewN | apply below_drew1) | exact HB.out)) hb); clear HO_10; clear HO_12; clear HO_13; clear HL142_0; clear HL144_0; clear HR142_0; clear HR144_0; clear HB; have HO_10 := n0_; have HO_12 := n1_; have HO_13 := n2_; have HL142_0 := n3_; have HL144_0 := n4_; have HO148 := n5_; have HR142_0 := n6_; have HR144_0 := n7_; have HB := n8_; clear n0_ n1_ n2_ n3_ n4_ n5_ n6_ n7_ n8_; clear hb ho22)))
                        go_loopg [10, 14] kj6 (fun kq v10 v14 w' => ∃ (x10_3 : List Int) (x14_3 : Int), v14 = .int .i64 x14_3 ∧ Aside0 (spec_rwBest.l1 kq l0 t130 (rd (rd_L1 t132 0) x24_1) 0 x10_3 x24_1 t132 t133 x14_3 ((rd_L1 l0 0).length : Int) x24_1 = some (r1, r2, r3)) ∧ Aside0 (kq ≤ kj6) ∧ Aside0 (Kd.R (Kd.int .i64) 3 w' w.heap.size (fun _ => True) v10 x10_3) ∧ Aside0 (Kd.S (Kd.slice 3 (Kd.int .i64)) 29 w' w.heap.size (fun k_ => some k_ ≠ (v10 : Value).ownBlock ∧ some k_ ≠ (v136 : Value).ownBlock) (.slice (some ad142) t132.length co20) t132) ∧ Aside0 (Kd.S (Kd.slice 3 (Kd.int .i64)) 29 w' w.heap.size (fun k_ => some k_ ≠ (v10 : Value).ownBlock ∧ some k_ ≠ ((.slice (some ad142) t132.length co20) : Value).ownBlock) v136 t133) ∧ Aside0 (Below w.heap.size w w'))
                        case atStart => exact ⟨(y146), (1), (by first | rfl | (simp; done) | (simp [*]; done)), H', ⟨Nat.le_refl _⟩, ⟨by (with_reducible repeat (first | apply Kd.R_alloc | apply Kd.R_drewN | apply Kd.R_drew)); exact Kd.R_mono HO148.out (fun _ hk => trivial)⟩, ⟨by (with_reducible repeat (first | apply Kd.S_alloc | apply Kd.S_drewN | apply Kd.S_drew)); exact Kd.S_mono HO_12.out (fun _ hk => ⟨hk.2, hk.1.2⟩)⟩, ⟨by (with_reducible repeat (first | apply Kd.S_alloc | apply Kd.S_drewN | apply Kd.S_drew)); exact Kd.S_mono HO_13.out (fun _ hk => ⟨hk.2, hk.1.2⟩)⟩, ⟨by repeat (first | (with_reducible first | exact HB.out | apply below_alloc | apply pw_below_drewN | apply below_drew1) | exact HB.out)⟩⟩
                        case round =>
                          clear H'
                          try clear c1
                          try clear p1
                          try clear q1
                          try clear hx1
                          try clear qi1
                          try clear p2
                          try clear c4
                          try clear c4b0
                          try clear c4b1
                          try clear c5
                          try clear c5b0
                          try clear p6
                          try clear c7
                          try clear c9
                          try clear c9b0
                          try clear c9b1
                          try clear c10
                          try clear c10b0
                          try clear c11
                          try clear c11b0
                          try clear c12
                          try clear c12b0
                          try clear c12b1
                          try clear c13
                          try clear p13
                          try clear q13
                          try clear hx13
                          try clear qi13
                          try clear c14
                          try clear p14
                          try clear q14
                          try clear hx14
                          try clear qi14
                          try clear c15
                          try clear c16
                          try clear c16b0
                          try clear c16b1
                          try clear c17
                          try clear c17b0
                          try clear c18
                          try clear c18b0
                          try clear c19
                          try clear c19b0
                          try clear hx131_0
                          try clear hx138_0
                          try clear hx139_0
                          try clear hx140_0
                          try clear hx141_0
                          try clear hx142_0
                          try clear hx143_0
                          try clear hx144_0
                          try clear hx145_0
                          try clear p1
                          try clear p13
                          try clear p131
                          try clear p138
                          try clear p139
                          try clear p14
                          try clear p140
                          try clear p141
                          try clear p142
                          try clear p143
                          try clear p144
                          try clear p145
                          try clear p2
                          try clear q1
                          try clear q13
                          try clear q131
                          try clear q138
                          try clear q139
                          try clear q14
                          try clear q140
                          try clear q141
                          try clear q142
                          try clear q143
                          try clear q144
                          try clear q145
                          obtain ⟨x10_3, x14_3, rfl, HA, HK3, HO_10, HO_12, HO_13, HB⟩ := hrel
                          cases gk with
                          | zero => exact absurd HA.out (by simp [spec_rwBest.l1])
                          | succ k3 =>
                            have H := HA.out
                            clear HA
                            simp only [spec_rwBest.l1] at H
                            by_cases c23 : x14_3 < (l0.length : Int)
                            · rw [if_pos c23] at H
                              have c23b0 : decide (x14_3 < (l0.length : Int)) = true := decide_eq_true c23
                              clear c23
                              by_cases c24 : 0 < (l0.length : Int)
                              · rw [if_pos c24] at H
                                have c24b0 : decide (0 < (l0.length : Int)) = true := decide_eq_true c24
                                have c24b1 : decide (0 < l0.length) = true := decide_eq_true (by omega)
                                clear c24
                                have H' := Aside0.mk H
                                clear H
                                have p151 : 0 ≤ (0 : Int) := (by omega)
                                have q151 : 0 < (l0.length : Int) := of_decide_eq_true (by first | (with_reducible assumption) | assumption)
                                obtain ⟨ad151, A151_0, c151_0, e151, hx151_0, hl151_0, hi151_0⟩ := at_L1 HR0.out 0 p151 q151
                                obtain rfl : ad131 = ad151 := (by injection e151)
                                have qi151 : (0 < l0.length) = True := eq_true (by omega)
                                (try rw [show ((0 : Int)).toNat = 0 from rfl] at hx151_0)
                                (try rw [Addr.add_zero'] at hx151_0)
                                replace hx151_0 := (HB.out.cell (World.block_lt_of_cell? w _ hx151_0)).trans hx151_0
                                have HR151_0 := Aside0.mk hi151_0
                                have HC151_0 := Aside0.mk hl151_0
                                clear hi151_0 hl151_0
                                replace p151 := eq_true p151
                                replace q151 := eq_true q151
                                go_wp2
                                repeat (go_quiet (fail); try go_wp2)
                                go_loopg [10, 77] k3 (fun kq v10 v77 w' => ∃ (x10_4 : List Int) (x77_4 : Int), v77 = .int .i64 x77_4 ∧ Aside0 (spec_rwBest.l2 kq l0 t130 (rd (rd_L1 t132 0) x24_1) 0 x10_4 x24_1 t132 t133 x14_3 ((rd_L1 l0 0).length : Int) x24_1 ((rd_L1 l0 0).length : Int) x77_4 = some (r1, r2, r3)) ∧ Aside0 (kq ≤ k3) ∧ Aside0 (Kd.R (Kd.int .i64) 3 w' w.heap.size (fun _ => True) v10 x10_4) ∧ Aside0 (Kd.S (Kd.slice 3 (Kd.int .i64)) 29 w' w.heap.size (fun k_ => some k_ ≠ (v10 : Value).ownBlock ∧ some k_ ≠ (v136 : Value).ownBlock) (.slice (some ad142) t132.length co20) t132) ∧ Aside0 (Kd.S (Kd.slice 3 (Kd.int .i64)) 29 w' w.heap.size (fun k_ => some k_ ≠ (v10 : Value).ownBlock ∧ some k_ ≠ ((.slice (some ad142) t132.length co20) : Value).ownBlock) v136 t133) ∧ Aside0 (Below w.heap.size w w'))
                                case atStart => exact ⟨(x10_3), (0), (by first | rfl | (simp; done) | (simp [*]; done)), H', ⟨Nat.le_refl _⟩, ⟨by (with_reducible repeat (first | apply Kd.R_alloc | apply Kd.R_drewN | apply Kd.R_drew)); exact HO_10.out⟩, ⟨by (with_reducible repeat (first | apply Kd.S_alloc | apply Kd.S_drewN | apply Kd.S_drew)); exact HO_12.out⟩, ⟨by (with_reducible repeat (first | apply Kd.S_alloc | apply Kd.S_drewN | apply Kd.S_drew)); exact HO_13.out⟩, ⟨by repeat (first | (with_reducible first | exact HB.out | apply below_alloc | apply pw_below_drewN | apply below_drew1) | exact HB.out)⟩⟩
                                case round =>
                                  clear H'
                                  try clear c1
                                  try clear p1
                                  try clear q1
                                  try clear hx1
                                  try clear qi1
                                  try clear c2
                                  try clear p2
                                  try clear c4
                                  try clear c4b0
                                  try clear c4b1
                                  try clear c5
                                  try clear c5b0
                                  try clear p6
                                  try clear c7
                                  try clear c9
                                  try clear c9b0
                                  try clear c9b1
                                  try clear c10
                                  try clear c10b0
                                  try clear c11
                                  try clear c11b0
                                  try clear c12
                                  try clear c12b0
                                  try clear c12b1
                                  try clear c13
                                  try clear p13
                                  try clear q13
                                  try clear hx13
                                  try clear qi13
                                  try clear c14
                                  try clear p14
                                  try clear q14
                                  try clear hx14
                                  try clear qi14
                                  try clear c15
                                  try clear p15
                                  try clear q15
                                  try clear hx15
                                  try clear qi15
                                  try clear c16
                                  try clear c16b0
                                  try clear c16b1
                                  try clear c17
                                  try clear c17b0
                                  try clear c18
                                  try clear c18b0
                                  try clear c19
                                  try clear c19b0
                                  try clear c23
                                  try clear c23b0
                                  try clear c24
                                  try clear c24b0
                                  try clear c24b1
                                  try clear hx131_0
                                  try clear hx138_0
                                  try clear hx139_0
                                  try clear hx140_0
                                  try clear hx141_0
                                  try clear hx142_0
                                  try clear hx143_0
                                  try clear hx144_0
                                  try clear hx145_0
                                  try clear hx151_0
                                  try clear p1
                                  try clear p13
                                  try clear p131
                                  try clear p138
                                  try clear p139
                                  try clear p14
                                  try clear p140
                                  try clear p141
                                  try clear p142
                                  try clear p143
                                  try clear p144
                                  try clear p145
                                  try clear p151
                                  try clear p2
                                  try clear p6
                                  try clear q1
                                  try clear q13
                                  try clear q131
                                  try clear q138
                                  try clear q139
                                  try clear q14
                                  try clear q140
                                  try clear q141
                                  try clear q142
                                  try clear q143
                                  try clear q144
                                  try clear q145
                                  try clear q151
                                  obtain ⟨x10_4, x77_4, rfl, HA, HK4, HO_10, HO_12, HO_13, HB⟩ := hrel
                                  cases gk with
                                  | zero => exact absurd HA.out (by simp [spec_rwBest.l2])
                                  | succ k4 =>
                                    have H := HA.out
                                    clear HA
                                    simp only [spec_rwBest.l2] at H
                                    by_cases c25 : x77_4 < ((rd_L1 l0 0).length : Int)
                                    · rw [if_pos c25] at H
                                      have c25b0 : decide (x77_4 < ((rd_L1 l0 0).length : Int)) = true := decide_eq_true c25
                                      clear c25
                                      obtain ⟨ji26, hji26⟩ : ∃ j_ : Int, (wrap64 (x14_3 - 1)) = j_ := ⟨_, rfl⟩
                                      replace H : (if 0 ≤ (ji26) then (if (ji26) < (x10_4.length : Int) then (if x77_4 = (rd x10_4 (ji26)) then (spec_rwBest.l2 k4 l0 t130 (rd (rd_L1 t132 0) x24_1) 0 x10_4 x24_1 t132 t133 x14_3 ((rd_L1 l0 0).length : Int) x24_1 ((rd_L1 l0 0).length : Int) (wrap64 (x77_4 + 1))) else (if 0 ≤ x14_3 then (if x14_3 < (t132.length : Int) then (if 0 ≤ x77_4 then (if x77_4 < ((rd_L1 t132 x14_3).length : Int) then (if (rd (rd_L1 t132 x14_3) x77_4) = 1000000 then (spec_rwBest.l2 k4 l0 t130 (rd (rd_L1 t132 0) x24_1) 0 x10_4 x24_1 t132 t133 x14_3 ((rd_L1 l0 0).length : Int) x24_1 ((rd_L1 l0 0).length : Int) (wrap64 (x77_4 + 1))) else (if (ji26) < (l0.length : Int) then (if 0 ≤ (rd x10_4 (ji26)) then (if (rd x10_4 (ji26)) < ((rd_L1 l0 (ji26)).length : Int) then (if (ji26) < (t132.length : Int) then (if (rd x10_4 (ji26)) < ((rd_L1 t132 (ji26)).length : Int) then (if (wrap64 ((rd (rd_L1 l0 (ji26)) (rd x10_4 (ji26))) + (rd (rd_L1 t132 x14_3) x77_4))) = (rd (rd_L1 t132 (ji26)) (rd x10_4 (ji26))) then (if x10_4.length < 17592186044416 then (spec_rwBest.l1 k4 l0 t130 (rd (rd_L1 t132 0) x24_1) 0 (x10_4 ++ [x77_4]) x24_1 t132 t133 (wrap64 (x14_3 + 1)) ((rd_L1 l0 0).length : Int) x24_1) else (none)) else (spec_rwBest.l2 k4 l0 t130 (rd (rd_L1 t132 0) x24_1) 0 x10_4 x24_1 t132 t133 x14_3 ((rd_L1 l0 0).length : Int) x24_1 ((rd_L1 l0 0).length : Int) (wrap64 (x77_4 + 1)))) else (none)) else (none)) else (none)) else (none)) else (none))) else (none)) else (none)) else (none)) else (none))) else (none)) else (none)) = some (r1, r2, r3) := by first | (rw [hji26] at H; exact H) | (simp only [hji26] at H ⊢; exact H)
                                      have hji26w : (IntKind.i64.wrap (x14_3 - 1)) = ji26 := (i64_w _).trans hji26
                                      by_cases c27 : 0 ≤ (ji26)
                                      · rw [if_pos c27] at H
                                        have c27b0 : decide (0 ≤ (ji26)) = true := decide_eq_true c27
                                        clear c27
                                        by_cases c28 : (ji26) < (x10_4.length : Int)
                                        · rw [if_pos c28] at H
                                          have c28b0 : decide ((ji26) < (x10_4.length : Int)) = true := decide_eq_true c28
                                          clear c28
                                          by_cases c29 : x77_4 = (rd x10_4 (ji26))
                                          · rw [if_pos c29] at H
                                            have c29b0 : (x77_4 == (rd x10_4 (ji26))) = true := beq_iff_eq.mpr c29
                                            have c29b1 : (x77_4 != (rd x10_4 (ji26))) = false := bne_eq_false_iff_eq.mpr c29
                                            clear c29
                                            have H' := Aside0.mk H
                                            clear H
                                            obtain ⟨Ao30, co30, eo30⟩ := Kd.R_slice HO_10.out
                                            subst eo30
                                            have p152 : 0 ≤ ((ji26) : Int) := of_decide_eq_true (by first | (with_reducible assumption) | assumption)
                                            have q152 : (ji26) < (x10_4.length : Int) := of_decide_eq_true (by first | (with_reducible assumption) | assumption)
                                            obtain ⟨ad152, e152, hx152_0⟩ := Kd.at_int (Kd.R_reads' HO_10.out).2.2 (ji26) p152 q152
                                            cases e152
                                            replace p152 := eq_true p152
                                            replace q152 := eq_true q152
                                            go_wp2
                                            repeat (go_quiet (fail); try go_wp2)
                                            go_roundg k4
                                            case measure => have := HK1.out; have := HJ6.out; have := HK3.out; have := HK4.out; omega
                                            case rel => exact ⟨(x10_4), (wrap64 (x77_4 + 1)), (by first | rfl | (simp; done) | (simp [*]; done)), H', ⟨by have := HK1.out; have := HJ6.out; have := HK3.out; have := HK4.out; omega⟩, ⟨by (with_reducible repeat (first | apply Kd.R_alloc | apply Kd.R_drewN | apply Kd.R_drew)); exact HO_10.out⟩, ⟨by (with_reducible repeat (first | apply Kd.S_alloc | apply Kd.S_drewN | apply Kd.S_drew)); exact HO_12.out⟩, ⟨by (with_reducible repeat (first | apply Kd.S_alloc | apply Kd.S_drewN | apply Kd.S_drew)); exact HO_13.out⟩, ⟨by repeat (first | (with_reducible first | exact HB.out | apply below_alloc | apply pw_below_drewN | apply below_drew1) | exact HB.out)⟩⟩
                                          · rw [if_neg c29] at H
                                            have c29b0 : (x77_4 == (rd x10_4 (ji26))) = false := beq_eq_false_iff_ne.mpr c29
                                            have c29b1 : (x77_4 != (rd x10_4 (ji26))) = true := bne_iff_ne.mpr c29
                                            by_cases c31 : 0 ≤ x14_3
                                            · rw [if_pos c31] at H
                                              have c31b0 : decide (0 ≤ x14_3) = true := decide_eq_true c31
                                              clear c31
                                              by_cases c32 : x14_3 < (t132.length : Int)
                                              · rw [if_pos c32] at H
                                                have c32b0 : decide (x14_3 < (t132.length : Int)) = true := decide_eq_true c32
                                                clear c32
                                                by_cases c33 : 0 ≤ x77_4
                                                · rw [if_pos c33] at H
                                                  have c33b0 : decide (0 ≤ x77_4) = true := decide_eq_true c33
                                                  clear c33
                                                  by_cases c34 : x77_4 < ((rd_L1 t132 x14_3).length : Int)
                                                  · rw [if_pos c34] at H
                                                    have c34b0 : decide (x77_4 < ((rd_L1 t132 x14_3).length : Int)) = true := decide_eq_true c34
                                                    clear c34
                                                    by_cases c35 : (rd (rd_L1 t132 x14_3) x77_4) = 1000000
                                                    · rw [if_pos c35] at H
                                                      have c35b0 : ((rd (rd_L1 t132 x14_3) x77_4) == 1000000) = true := beq_iff_eq.mpr c35
                                                      have c35b1 : ((rd (rd_L1 t132 x14_3) x77_4) != 1000000) = false := bne_eq_false_iff_eq.mpr c35
                                                      clear c35
                                                      have H' := Aside0.mk H
                                                      clear H
                                                      obtain ⟨Ao36, co36, eo36⟩ := Kd.R_slice HO_10.out
                                                      subst eo36
                                                      have p152 : 0 ≤ ((ji26) : Int) := of_decide_eq_true (by first | (with_reducible assumption) | assumption)
                                                      have q152 : (ji26) < (x10_4.length : Int) := of_decide_eq_true (by first | (with_reducible assumption) | assumption)
                                                      obtain ⟨ad152, e152, hx152_0⟩ := Kd.at_int (Kd.R_reads' HO_10.out).2.2 (ji26) p152 q152
                                                      cases e152
                                                      replace p152 := eq_true p152
                                                      replace q152 := eq_true q152
                                                      have p153 : 0 ≤ (x14_3 : Int) := of_decide_eq_true (by first | (with_reducible assumption) | assumption)
                                                      have q153 : x14_3 < (t132.length : Int) := of_decide_eq_true (by first | (with_reducible assumption) | assumption)
                                                      obtain ⟨ad153, A153_0, c153_0, e153, hx153_0, hl153_0, hi153_0⟩ := at_L1 (Kd.S_reads' HO_12.out).2.2 x14_3 p153 q153
                                                      obtain rfl : ad142 = ad153 := (by injection e153)
                                                      obtain ⟨ce153, hce153, hMe153, hcc153⟩ := Kd.S_get HO_12.out [] x14_3 p153 (by first | exact q153 | exact of_decide_eq_true (by first | (with_reducible assumption) | assumption) | (have e_ := (Kd.S_reads' HO_12.out).1; omega))
                                                      obtain ⟨ve153_0, rfl, ge153_0⟩ := hMe153
                                                      have hv153_0 := hcc153 0 _ rfl
                                                      rw [Nat.add_zero, show ((Kd.slice 3 (Kd.int .i64))).sz = 1 from rfl, Nat.mul_one] at hv153_0
                                                      replace hv153_0 := Option.some.inj (hv153_0.symm.trans hx153_0)
                                                      rw [hv153_0] at ge153_0
                                                      have HL153_0 := Aside0.mk (show Kd.R (Kd.int .i64) 3 _ _ _ _ (rd_L1 t132 x14_3) from ge153_0)
                                                      clear hv153_0 ge153_0
                                                      clear hcc153 hce153
                                                      have HR153_0 := Aside0.mk hi153_0
                                                      have HC153_0 := Aside0.mk hl153_0
                                                      clear hi153_0 hl153_0
                                                      replace p153 := eq_true p153
                                                      replace q153 := eq_true q153
                                                      have p154 : 0 ≤ (x77_4 : Int) := of_decide_eq_true (by first | (with_reducible assumption) | assumption)
                                                      have q154 : x77_4 < ((rd_L1 t132 x14_3).length : Int) := of_decide_eq_true (by first | (with_reducible assumption) | assumption)
                                                      obtain ⟨ad154, e154, hx154_0⟩ := Kd.at_int (by repeat (first | (with_reducible exact HR153_0.out) | (with_reducible refine Kd.C_alloc ?_ _) | (with_reducible refine Kd.C_drewN ?_ _) | (with_reducible refine Kd.C_drew ?_) | exact HR153_0.out)) x77_4 p154 q154
                                                      cases e154
                                                      replace p154 := eq_true p154
                                                      replace q154 := eq_true q154
                                                      go_wp2
                                                      repeat (go_quiet (fail); try go_wp2)
                                                      go_roundg k4
                                                      case measure => have := HK1.out; have := HJ6.out; have := HK3.out; have := HK4.out; omega
                                                      case rel => exact ⟨(x10_4), (wrap64 (x77_4 + 1)), (by first | rfl | (simp; done) | (simp [*]; done)), H', ⟨by have := HK1.out; have := HJ6.out; have := HK3.out; have := HK4.out; omega⟩, ⟨by (with_reducible repeat (first | apply Kd.R_alloc | apply Kd.R_drewN | apply Kd.R_drew)); exact HO_10.out⟩, ⟨by (with_reducible repeat (first | apply Kd.S_alloc | apply Kd.S_drewN | apply Kd.S_drew)); exact HO_12.out⟩, ⟨by (with_reducible repeat (first | apply Kd.S_alloc | apply Kd.S_drewN | apply Kd.S_drew)); exact HO_13.out⟩, ⟨by repeat (first | (with_reducible first | exact HB.out | apply below_alloc | apply pw_below_drewN | apply below_drew1) | exact HB.out)⟩⟩
                                                    · rw [if_neg c35] at H
                                                      have c35b0 : ((rd (rd_L1 t132 x14_3) x77_4) == 1000000) = false := beq_eq_false_iff_ne.mpr c35
                                                      have c35b1 : ((rd (rd_L1 t132 x14_3) x77_4) != 1000000) = true := bne_iff_ne.mpr c35
                                                      by_cases c37 : (ji26) < (l0.length : Int)
                                                      · rw [if_pos c37] at H
                                                        have c37b0 : decide ((ji26) < (l0.length : Int)) = true := decide_eq_true c37
                                                        clear c37
                                                        by_cases c38 : 0 ≤ (rd x10_4 (ji26))
                                                        · rw [if_pos c38] at H
                                                          have c38b0 : decide (0 ≤ (rd x10_4 (ji26))) = true := decide_eq_true c38
                                                          clear c38
                                                          by_cases c39 : (rd x10_4 (ji26)) < ((rd_L1 l0 (ji26)).length : Int)
                                                          · rw [if_pos c39] at H
                                                            have c39b0 : decide ((rd x10_4 (ji26)) < ((rd_L1 l0 (ji26)).length : Int)) = true := decide_eq_true c39
                                                            clear c39
                                                            by_cases c40 : (ji26) < (t132.length : Int)
                                                            · rw [if_pos c40] at H
                                                              have c40b0 : decide ((ji26) < (t132.length : Int)) = true := decide_eq_true c40
                                                              clear c40
                                                              by_cases c41 : (rd x10_4 (ji26)) < ((rd_L1 t132 (ji26)).length : Int)
                                                              · rw [if_pos c41] at H
                                                                have c41b0 : decide ((rd x10_4 (ji26)) < ((rd_L1 t132 (ji26)).length : Int)) = true := decide_eq_true c41
                                                                clear c41
                                                                by_cases c42 : (wrap64 ((rd (rd_L1 l0 (ji26)) (rd x10_4 (ji26))) + (rd (rd_L1 t132 x14_3) x77_4))) = (rd (rd_L1 t132 (ji26)) (rd x10_4 (ji26)))
                                                                · rw [if_pos c42] at H
                                                                  have c42b0 : ((wrap64 ((rd (rd_L1 l0 (ji26)) (rd x10_4 (ji26))) + (rd (rd_L1 t132 x14_3) x77_4))) == (rd (rd_L1 t132 (ji26)) (rd x10_4 (ji26)))) = true := beq_iff_eq.mpr c42
                                                                  have c42b1 : ((wrap64 ((rd (rd_L1 l0 (ji26)) (rd x10_4 (ji26))) + (rd (rd_L1 t132 x14_3) x77_4))) != (rd (rd_L1 t132 (ji26)) (rd x10_4 (ji26)))) = false := bne_eq_false_iff_eq.mpr c42
                                                                  clear c42
                                                                  by_cases c43 : x10_4.length < 17592186044416
                                                                  · rw [if_pos c43] at H
                                                                    have LMc43 := Aside0.mk c43
                                                                    clear c43
                                                                    obtain ⟨y163, hy163⟩ : ∃ y_ : List Int, y_ = (x10_4 ++ [x77_4]) := ⟨_, rfl⟩
                                                                    replace H : (spec_rwBest.l1 k4 l0 t130 (rd (rd_L1 t132 0) x24_1) 0 y163 x24_1 t132 t133 (wrap64 (x14_3 + 1)) ((rd_L1 l0 0).length : Int) x24_1) = some (r1, r2, r3) := by first | (rw [hy163]; with_reducible exact H) | (have H2_ := (Option.bind_some _ _).symm.trans H; rw [hy163]; with_reducible exact H2_) | (have H2_ := (Option.bind_some _ _).symm.trans H; with_reducible exact H2_) | with_reducible exact H | (rw [hy163]; exact H) | exact H
                                                                    have Ny163 := Aside0.mk hy163
                                                                    clear hy163
                                                                    have H' := Aside0.mk H
                                                                    clear H
                                                                    obtain ⟨Ao44, co44, eo44⟩ := Kd.R_slice HO_10.out
                                                                    subst eo44
                                                                    have p152 : 0 ≤ ((ji26) : Int) := of_decide_eq_true (by first | (with_reducible assumption) | assumption)
                                                                    have q152 : (ji26) < (x10_4.length : Int) := of_decide_eq_true (by first | (with_reducible assumption) | assumption)
                                                                    obtain ⟨ad152, e152, hx152_0⟩ := Kd.at_int (Kd.R_reads' HO_10.out).2.2 (ji26) p152 q152
                                                                    cases e152
                                                                    replace p152 := eq_true p152
                                                                    replace q152 := eq_true q152
                                                                    have p153 : 0 ≤ (x14_3 : Int) := of_decide_eq_true (by first | (with_reducible assumption) | assumption)
                                                                    have q153 : x14_3 < (t132.length : Int) := of_decide_eq_true (by first | (with_reducible assumption) | assumption)
                                                                    obtain ⟨ad153, A153_0, c153_0, e153, hx153_0, hl153_0, hi153_0⟩ := at_L1 (Kd.S_reads' HO_12.out).2.2 x14_3 p153 q153
                                                                    obtain rfl : ad142 = ad153 := (by injection e153)
                                                                    obtain ⟨ce153, hce153, hMe153, hcc153⟩ := Kd.S_get HO_12.out [] x14_3 p153 (by first | exact q153 | exact of_decide_eq_true (by first | (with_reducible assumption) | assumption) | (have e_ := (Kd.S_reads' HO_12.out).1; omega))
                                                                    obtain ⟨ve153_0, rfl, ge153_0⟩ := hMe153
                                                                    have hv153_0 := hcc153 0 _ rfl
                                                                    rw [Nat.add_zero, show ((Kd.slice 3 (Kd.int .i64))).sz = 1 from rfl, Nat.mul_one] at hv153_0
                                                                    replace hv153_0 := Option.some.inj (hv153_0.symm.trans hx153_0)
                                                                    rw [hv153_0] at ge153_0
                                                                    have HL153_0 := Aside0.mk (show Kd.R (Kd.int .i64) 3 _ _ _ _ (rd_L1 t132 x14_3) from ge153_0)
                                                                    clear hv153_0 ge153_0
                                                                    clear hcc153 hce153
                                                                    have HR153_0 := Aside0.mk hi153_0
                                                                    have HC153_0 := Aside0.mk hl153_0
                                                                    clear hi153_0 hl153_0
                                                                    replace p153 := eq_true p153
                                                                    replace q153 := eq_true q153
                                                                    have p154 : 0 ≤ (x77_4 : Int) := of_decide_eq_true (by first | (with_reducible assumption) | assumption)
                                                                    have q154 : x77_4 < ((rd_L1 t132 x14_3).length : Int) := of_decide_eq_true (by first | (with_reducible assumption) | assumption)
                                                                    obtain ⟨ad154, e154, hx154_0⟩ := Kd.at_int (by repeat (first | (with_reducible exact HR153_0.out) | (with_reducible refine Kd.C_alloc ?_ _) | (with_reducible refine Kd.C_drewN ?_ _) | (with_reducible refine Kd.C_drew ?_) | exact HR153_0.out)) x77_4 p154 q154
                                                                    cases e154
                                                                    replace p154 := eq_true p154
                                                                    replace q154 := eq_true q154
                                                                    have p155 : 0 ≤ ((ji26) : Int) := of_decide_eq_true (by first | (with_reducible assumption) | assumption)
                                                                    have q155 : (ji26) < (l0.length : Int) := of_decide_eq_true (by first | (with_reducible assumption) | assumption)
                                                                    obtain ⟨ad155, A155_0, c155_0, e155, hx155_0, hl155_0, hi155_0⟩ := at_L1 HR0.out (ji26) p155 q155
                                                                    obtain rfl : ad131 = ad155 := (by injection e155)
                                                                    replace hx155_0 := (HB.out.cell (World.block_lt_of_cell? w _ hx155_0)).trans hx155_0
                                                                    have HR155_0 := Aside0.mk hi155_0
                                                                    have HC155_0 := Aside0.mk hl155_0
                                                                    clear hi155_0 hl155_0
                                                                    replace p155 := eq_true p155
                                                                    replace q155 := eq_true q155
                                                                    have p156 : 0 ≤ ((ji26) : Int) := of_decide_eq_true (by first | (with_reducible assumption) | assumption)
                                                                    have q156 : (ji26) < (x10_4.length : Int) := of_decide_eq_true (by first | (with_reducible assumption) | assumption)
                                                                    obtain ⟨ad156, e156, hx156_0⟩ := Kd.at_int (Kd.R_reads' HO_10.out).2.2 (ji26) p156 q156
                                                                    obtain rfl : ad152 = ad156 := (by injection e156)
                                                                    replace p156 := eq_true p156
                                                                    replace q156 := eq_true q156
                                                                    have p157 : 0 ≤ ((rd x10_4 (ji26)) : Int) := of_decide_eq_true (by first | (with_reducible assumption) | assumption)
                                                                    have q157 : (rd x10_4 (ji26)) < ((rd_L1 l0 (ji26)).length : Int) := of_decide_eq_true (by first | (with_reducible assumption) | assumption)
                                                                    obtain ⟨ad157, e157, hx157_0⟩ := Kd.at_int HR155_0.out (rd x10_4 (ji26)) p157 q157
                                                                    cases e157
                                                                    replace hx157_0 := (HB.out.cell (World.block_lt_of_cell? w _ hx157_0)).trans hx157_0
                                                                    replace p157 := eq_true p157
                                                                    replace q157 := eq_true q157
                                                                    have p158 : 0 ≤ (x14_3 : Int) := of_decide_eq_true (by first | (with_reducible assumption) | assumption)
                                                                    have q158 : x14_3 < (t132.length : Int) := of_decide_eq_true (by first | (with_reducible assumption) | assumption)
                                                                    obtain ⟨ad158, A158_0, c158_0, e158, hx158_0, hl158_0, hi158_0⟩ := at_L1 (Kd.S_reads' HO_12.out).2.2 x14_3 p158 q158
                                                                    obtain rfl : ad142 = ad158 := (by injection e158)
                                                                    obtain ⟨ce158, hce158, hMe158, hcc158⟩ := Kd.S_get HO_12.out [] x14_3 p158 (by first | exact q158 | exact of_decide_eq_true (by first | (with_reducible assumption) | assumption) | (have e_ := (Kd.S_reads' HO_12.out).1; omega))
                                                                    obtain ⟨ve158_0, rfl, ge158_0⟩ := hMe158
                                                                    have hv158_0 := hcc158 0 _ rfl
                                                                    rw [Nat.add_zero, show ((Kd.slice 3 (Kd.int .i64))).sz = 1 from rfl, Nat.mul_one] at hv158_0
                                                                    replace hv158_0 := Option.some.inj (hv158_0.symm.trans hx158_0)
                                                                    rw [hv158_0] at ge158_0
                                                                    have HL158_0 := Aside0.mk (show Kd.R (Kd.int .i64) 3 _ _ _ _ (rd_L1 t132 x14_3) from ge158_0)
                                                                    clear hv158_0 ge158_0
                                                                    clear hcc158 hce158
                                                                    have HR158_0 := Aside0.mk hi158_0
                                                                    have HC158_0 := Aside0.mk hl158_0
                                                                    clear hi158_0 hl158_0
                                                                    replace p158 := eq_true p158
                                                                    replace q158 := eq_true q158
                                                                    have ea_ := Option.some.inj (hx153_0.symm.trans hx158_0)
                                                                    injection ea_ with ea_ en_ ec_
                                                                    subst ea_
                                                                    subst ec_
                                                                    clear en_
                                                                    have p159 : 0 ≤ (x77_4 : Int) := of_decide_eq_true (by first | (with_reducible assumption) | assumption)
                                                                    have q159 : x77_4 < ((rd_L1 t132 x14_3).length : Int) := of_decide_eq_true (by first | (with_reducible assumption) | assumption)
                                                                    obtain ⟨ad159, e159, hx159_0⟩ := Kd.at_int (by repeat (first | (with_reducible exact HR158_0.out) | (with_reducible refine Kd.C_alloc ?_ _) | (with_reducible refine Kd.C_drewN ?_ _) | (with_reducible refine Kd.C_drew ?_) | exact HR158_0.out)) x77_4 p159 q159
                                                                    cases e159
                                                                    replace p159 := eq_true p159
                                                                    replace q159 := eq_true q159
                                                                    have p160 : 0 ≤ ((ji26) : Int) := of_decide_eq_true (by first | (with_reducible assumption) | assumption)
                                                                    have q160 : (ji26) < (t132.length : Int) := of_decide_eq_true (by first | (with_reducible assumption) | assumption)
                                                                    obtain ⟨ad160, A160_0, c160_0, e160, hx160_0, hl160_0, hi160_0⟩ := at_L1 (Kd.S_reads' HO_12.out).2.2 (ji26) p160 q160
                                                                    obtain rfl : ad142 = ad160 := (by injection e160)
                                                                    obtain ⟨ce160, hce160, hMe160, hcc160⟩ := Kd.S_get HO_12.out [] (ji26) p160 (by first | exact q160 | exact of_decide_eq_true (by first | (with_reducible assumption) | assumption) | (have e_ := (Kd.S_reads' HO_12.out).1; omega))
                                                                    obtain ⟨ve160_0, rfl, ge160_0⟩ := hMe160
                                                                    have hv160_0 := hcc160 0 _ rfl
                                                                    rw [Nat.add_zero, show ((Kd.slice 3 (Kd.int .i64))).sz = 1 from rfl, Nat.mul_one] at hv160_0
                                                                    replace hv160_0 := Option.some.inj (hv160_0.symm.trans hx160_0)
                                                                    rw [hv160_0] at ge160_0
                                                                    have HL160_0 := Aside0.mk (show Kd.R (Kd.int .i64) 3 _ _ _ _ (rd_L1 t132 (ji26)) from ge160_0)
                                                                    clear hv160_0 ge160_0
                                                                    clear hcc160 hce160
                                                                    have HR160_0 := Aside0.mk hi160_0
                                                                    have HC160_0 := Aside0.mk hl160_0
                                                                    clear hi160_0 hl160_0
                                                                    replace p160 := eq_true p160
                                                                    replace q160 := eq_true q160
                                                                    have p161 : 0 ≤ ((ji26) : Int) := of_decide_eq_true (by first | (with_reducible assumption) | assumption)
                                                                    have q161 : (ji26) < (x10_4.length : Int) := of_decide_eq_true (by first | (with_reducible assumption) | assumption)
                                                                    obtain ⟨ad161, e161, hx161_0⟩ := Kd.at_int (Kd.R_reads' HO_10.out).2.2 (ji26) p161 q161
                                                                    obtain rfl : ad152 = ad161 := (by injection e161)
                                                                    replace p161 := eq_true p161
                                                                    replace q161 := eq_true q161
                                                                    have p162 : 0 ≤ ((rd x10_4 (ji26)) : Int) := of_decide_eq_true (by first | (with_reducible assumption) | assumption)
                                                                    have q162 : (rd x10_4 (ji26)) < ((rd_L1 t132 (ji26)).length : Int) := of_decide_eq_true (by first | (with_reducible assumption) | assumption)
                                                                    obtain ⟨ad162, e162, hx162_0⟩ := Kd.at_int (by repeat (first | (with_reducible exact HR160_0.out) | (with_reducible refine Kd.C_alloc ?_ _) | (with_reducible refine Kd.C_drewN ?_ _) | (with_reducible refine Kd.C_drew ?_) | exact HR160_0.out)) (rd x10_4 (ji26)) p162 q162
                                                                    cases e162
                                                                    replace p162 := eq_true p162
                                                                    replace q162 := eq_true q162
                                                                    go_wp2_with (first | ((with_reducible refine gate_builtin (b := .append) (xs := #[.tmp 132, .tmp 134]) rfl ?_); at_builtin; refine Kd.R_append (Kd.int .i64) (w0 := w) w.heap.size rfl (.tmp 132) (.tmp 134) 29 3 (.int .i64 0) 8 rfl Try.underlying29 info3 rfl (by decide) (by omega) (.slice (some ad152) x10_4.length co44) x10_4 x77_4 [.int .i64 x77_4] (fun _ => True) (fun _ => False) rfl rfl ?aP (fun _ hk => hk.elim) ?aF ?aO ?aB ?aS ?aL ?_; (case aP => exact rfl); (case aB => exact (by repeat (first | (with_reducible first | exact HB.out | apply below_alloc | apply pw_below_drewN | apply below_drew1) | exact HB.out))); (case aF => exact (fun _ _ => trivial)); (case aO => exact (by (with_reducible repeat (first | apply Kd.R_alloc | apply Kd.R_drewN | apply Kd.R_drew)); exact HO_10.out)); (case aS => exact (below_size (by repeat (first | (with_reducible first | exact HB.out | apply below_alloc | apply pw_below_drewN | apply below_drew1) | exact HB.out)))); (case aL => have := LMc43.out; omega); intro v164 w45 ho hb hg hat; rw [← Ny163.out] at ho; have n0_ := Aside0.mk (Kd.S_after (ok := (fun k_ => some k_ ≠ (v136 : Value).ownBlock)) (by (with_reducible repeat (first | apply Kd.S_alloc | apply Kd.S_drewN | apply Kd.S_drew)); exact Kd.S_mono HO_12.out (fun _ hk => ⟨hk.2, hk.1⟩)) hg hat); have n1_ := Aside0.mk (Kd.S_after (ok := (fun k_ => some k_ ≠ (.slice (some ad142) t132.length co20 : Value).ownBlock)) (by (with_reducible repeat (first | apply Kd.S_alloc | apply Kd.S_drewN | apply Kd.S_drew)); exact Kd.S_mono HO_13.out (fun _ hk => ⟨hk.2, hk.1⟩)) hg hat); have n2_ := Aside0.mk (Kd.R_after (ok := (fun k_ => some k_ ≠ (.slice (some ad142) t132.length co20 : Value).ownBlock ∧ some k_ ≠ (v136 : Value).ownBlock)) (by (with_reducible repeat (first | apply Kd.R_alloc | apply Kd.R_drewN | apply Kd.R_drew)); exact Kd.R_mono HL153_0.out (fun _ hk => ⟨⟨hk.2, hk.1.2⟩, hk.1.1⟩)) hg hat); have n3_ := Aside0.mk (Kd.R_after (ok := (fun k_ => some k_ ≠ (.slice (some ad142) t132.length co20 : Value).ownBlock ∧ some k_ ≠ (v136 : Value).ownBlock)) (by (with_reducible repeat (first | apply Kd.R_alloc | apply Kd.R_drewN | apply Kd.R_drew)); exact Kd.R_mono HL158_0.out (fun _ hk => ⟨⟨hk.2, hk.1.2⟩, hk.1.1⟩)) hg hat); have n4_ := Aside0.mk (Kd.R_after (ok := (fun k_ => some k_ ≠ (.slice (some ad142) t132.length co20 : Value).ownBlock ∧ some k_ ≠ (v136 : Value).ownBlock)) (by (with_reducible repeat (first | apply Kd.R_alloc | apply Kd.R_drewN | apply Kd.R_drew)); exact Kd.R_mono HL160_0.out (fun _ hk => ⟨⟨hk.2, hk.1.2⟩, hk.1.1⟩)) hg hat); have n5_ := Aside0.mk (hb); have n6_ := Aside0.mk (ho); clear HO_12; clear HO_13; clear HL153_0; clear HL158_0; clear HL160_0; clear HB; clear HO_10; have HO_12 := n0_; have HO_13 := n1_; have HL153_0 := n2_; have HL158_0 := n3_; have HL160_0 := n4_; have HB := n5_; have HO165 := n6_; clear n0_ n1_ n2_ n3_ n4_ n5_ n6_; clear ho hb hg hat))
                                                                    repeat (go_quiet (first | ((with_reducible refine gate_builtin (b := .append) (xs := #[.tmp 132, .tmp 134]) rfl ?_); at_builtin; refine Kd.R_append (Kd.int .i64) (w0 := w) w.heap.size rfl (.tmp 132) (.tmp 134) 29 3 (.int .i64 0) 8 rfl Try.underlying29 info3 rfl (by decide) (by omega) (.slice (some ad152) x10_4.length co44) x10_4 x77_4 [.int .i64 x77_4] (fun _ => True) (fun _ => False) rfl rfl ?aP (fun _ hk => hk.elim) ?aF ?aO ?aB ?aS ?aL ?_; (case aP => exact rfl); (case aB => exact (by repeat (first | (with_reducible first | exact HB.out | apply below_alloc | apply pw_below_drewN | apply below_drew1) | exact HB.out))); (case aF => exact (fun _ _ => trivial)); (case aO => exact (by (with_reducible repeat (first | apply Kd.R_alloc | apply Kd.R_drewN | apply Kd.R_drew)); exact HO_10.out)); (case aS => exact (below_size (by repeat (first | (with_reducible first | exact HB.out | apply below_alloc | apply pw_below_drewN | apply below_drew1) | exact HB.out)))); (case aL => have := LMc43.out; omega); intro v164 w45 ho hb hg hat; rw [← Ny163.out] at ho; have n0_ := Aside0.mk (Kd.S_after (ok := (fun k_ => some k_ ≠ (v136 : Value).ownBlock)) (by (with_reducible repeat (first | apply Kd.S_alloc | apply Kd.S_drewN | apply Kd.S_drew)); exact Kd.S_mono HO_12.out (fun _ hk => ⟨hk.2, hk.1⟩)) hg hat); have n1_ := Aside0.mk (Kd.S_after (ok := (fun k_ => some k_ ≠ (.slice (some ad142) t132.length co20 : Value).ownBlock)) (by (with_reducible repeat (first | apply Kd.S_alloc | apply Kd.S_drewN | apply Kd.S_drew)); exact Kd.S_mono HO_13.out (fun _ hk => ⟨hk.2, hk.1⟩)) hg hat); have n2_ := Aside0.mk (Kd.R_after (ok := (fun k_ => some k_ ≠ (.slice (some ad142) t132.length co20 : Value).ownBlock ∧ some k_ ≠ (v136 : Value).ownBlock)) (by (with_reducible repeat (first | apply Kd.R_alloc | apply Kd.R_drewN | apply Kd.R_drew)); exact Kd.R_mono HL153_0.out (fun _ hk => ⟨⟨hk.2, hk.1.2⟩, hk.1.1⟩)) hg hat); have n3_ := Aside0.mk (Kd.R_after (ok := (fun k_ => some k_ ≠ (.slice (some ad142) t132.length co20 : Value).ownBlock ∧ some k_ ≠ (v136 : Value).ownBlock)) (by (with_reducible repeat (first | apply Kd.R_alloc | apply Kd.R_drewN | apply Kd.R_drew)); exact Kd.R_mono HL158_0.out (fun _ hk => ⟨⟨hk.2, hk.1.2⟩, hk.1.1⟩)) hg hat); have n4_ := Aside0.mk (Kd.R_after (ok := (fun k_ => some k_ ≠ (.slice (some ad142) t132.length co20 : Value).ownBlock ∧ some k_ ≠ (v136 : Value).ownBlock)) (by (with_reducible repeat (first | apply Kd.R_alloc | apply Kd.R_drewN | apply Kd.R_drew)); exact Kd.R_mono HL160_0.out (fun _ hk => ⟨⟨hk.2, hk.1.2⟩, hk.1.1⟩)) hg hat); have n5_ := Aside0.mk (hb); have n6_ := Aside0.mk (ho); clear HO_12; clear HO_13; clear HL153_0; clear HL158_0; clear HL160_0; clear HB; clear HO_10; have HO_12 := n0_; have HO_13 := n1_; have HL153_0 := n2_; have HL158_0 := n3_; have HL160_0 := n4_; have HB := n5_; have HO165 := n6_; clear n0_ n1_ n2_ n3_ n4_ n5_ n6_; clear ho hb hg hat)); try go_wp2_with (first | ((with_reducible refine gate_builtin (b := .append) (xs := #[.tmp 132, .tmp 134]) rfl ?_); at_builtin; refine Kd.R_append (Kd.int .i64) (w0 := w) w.heap.size rfl (.tmp 132) (.tmp 134) 29 3 (.int .i64 0) 8 rfl Try.underlying29 info3 rfl (by decide) (by omega) (.slice (some ad152) x10_4.length co44) x10_4 x77_4 [.int .i64 x77_4] (fun _ => True) (fun _ => False) rfl rfl ?aP (fun _ hk => hk.elim) ?aF ?aO ?aB ?aS ?aL ?_; (case aP => exact rfl); (case aB => exact (by repeat (first | (with_reducible first | exact HB.out | apply below_alloc | apply pw_below_drewN | apply below_drew1) | exact HB.out))); (case aF => exact (fun _ _ => trivial)); (case aO => exact (by (with_reducible repeat (first | apply Kd.R_alloc | apply Kd.R_drewN | apply Kd.R_drew)); exact HO_10.out)); (case aS => exact (below_size (by repeat (first | (with_reducible first | exact HB.out | apply below_alloc | apply pw_below_drewN | apply below_drew1) | exact HB.out)))); (case aL => have := LMc43.out; omega); intro v164 w45 ho hb hg hat; rw [← Ny163.out] at ho; have n0_ := Aside0.mk (Kd.S_after (ok := (fun k_ => some k_ ≠ (v136 : Value).ownBlock)) (by (with_reducible repeat (first | apply Kd.S_alloc | apply Kd.S_drewN | apply Kd.S_drew)); exact Kd.S_mono HO_12.out (fun _ hk => ⟨hk.2, hk.1⟩)) hg hat); have n1_ := Aside0.mk (Kd.S_after (ok := (fun k_ => some k_ ≠ (.slice (some ad142) t132.length co20 : Value).ownBlock)) (by (with_reducible repeat (first | apply Kd.S_alloc | apply Kd.S_drewN | apply Kd.S_drew)); exact Kd.S_mono HO_13.out (fun _ hk => ⟨hk.2, hk.1⟩)) hg hat); have n2_ := Aside0.mk (Kd.R_after (ok := (fun k_ => some k_ ≠ (.slice (some ad142) t132.length co20 : Value).ownBlock ∧ some k_ ≠ (v136 : Value).ownBlock)) (by (with_reducible repeat (first | apply Kd.R_alloc | apply Kd.R_drewN | apply Kd.R_drew)); exact Kd.R_mono HL153_0.out (fun _ hk => ⟨⟨hk.2, hk.1.2⟩, hk.1.1⟩)) hg hat); have n3_ := Aside0.mk (Kd.R_after (ok := (fun k_ => some k_ ≠ (.slice (some ad142) t132.length co20 : Value).ownBlock ∧ some k_ ≠ (v136 : Value).ownBlock)) (by (with_reducible repeat (first | apply Kd.R_alloc | apply Kd.R_drewN | apply Kd.R_drew)); exact Kd.R_mono HL158_0.out (fun _ hk => ⟨⟨hk.2, hk.1.2⟩, hk.1.1⟩)) hg hat); have n4_ := Aside0.mk (Kd.R_after (ok := (fun k_ => some k_ ≠ (.slice (some ad142) t132.length co20 : Value).ownBlock ∧ some k_ ≠ (v136 : Value).ownBlock)) (by (with_reducible repeat (first | apply Kd.R_alloc | apply Kd.R_drewN | apply Kd.R_drew)); exact Kd.R_mono HL160_0.out (fun _ hk => ⟨⟨hk.2, hk.1.2⟩, hk.1.1⟩)) hg hat); have n5_ := Aside0.mk (hb); have n6_ := Aside0.mk (ho); clear HO_12; clear HO_13; clear HL153_0; clear HL158_0; clear HL160_0; clear HB; clear HO_10; have HO_12 := n0_; have HO_13 := n1_; have HL153_0 := n2_; have HL158_0 := n3_; have HL160_0 := n4_; have HB := n5_; have HO165 := n6_; clear n0_ n1_ n2_ n3_ n4_ n5_ n6_; clear ho hb hg hat)))
                                                                    go_roundg k4
                                                                    case measure => have := HK1.out; have := HJ6.out; have := HK3.out; have := HK4.out; omega
                                                                    case rel => exact ⟨(y163), (wrap64 (x14_3 + 1)), (by first | rfl | (simp; done) | (simp [*]; done)), H', ⟨by have := HK1.out; have := HJ6.out; have := HK3.out; have := HK4.out; omega⟩, ⟨by (with_reducible repeat (first | apply Kd.R_alloc | apply Kd.R_drewN | apply Kd.R_drew)); exact HO165.out⟩, ⟨by (with_reducible repeat (first | apply Kd.S_alloc | apply Kd.S_drewN | apply Kd.S_drew)); exact Kd.S_mono HO_12.out (fun _ hk => ⟨hk.2, hk.1⟩)⟩, ⟨by (with_reducible repeat (first | apply Kd.S_alloc | apply Kd.S_drewN | apply Kd.S_drew)); exact Kd.S_mono HO_13.out (fun _ hk => ⟨hk.2, hk.1⟩)⟩, ⟨by repeat (first | (with_reducible first | exact HB.out | apply below_alloc | apply pw_below_drewN | apply below_drew1) | exact HB.out)⟩⟩
                                                                  · rw [if_neg c43] at H
                                                                    exact absurd H (by simp)
                                                                · rw [if_neg c42] at H
                                                                  have c42b0 : ((wrap64 ((rd (rd_L1 l0 (ji26)) (rd x10_4 (ji26))) + (rd (rd_L1 t132 x14_3) x77_4))) == (rd (rd_L1 t132 (ji26)) (rd x10_4 (ji26)))) = false := beq_eq_false_iff_ne.mpr c42
                                                                  have c42b1 : ((wrap64 ((rd (rd_L1 l0 (ji26)) (rd x10_4 (ji26))) + (rd (rd_L1 t132 x14_3) x77_4))) != (rd (rd_L1 t132 (ji26)) (rd x10_4 (ji26)))) = true := bne_iff_ne.mpr c42
                                                                  have H' := Aside0.mk H
                                                                  clear H
                                                                  obtain ⟨Ao46, co46, eo46⟩ := Kd.R_slice HO_10.out
                                                                  subst eo46
                                                                  have p152 : 0 ≤ ((ji26) : Int) := of_decide_eq_true (by first | (with_reducible assumption) | assumption)
                                                                  have q152 : (ji26) < (x10_4.length : Int) := of_decide_eq_true (by first | (with_reducible assumption) | assumption)
                                                                  obtain ⟨ad152, e152, hx152_0⟩ := Kd.at_int (Kd.R_reads' HO_10.out).2.2 (ji26) p152 q152
                                                                  cases e152
                                                                  replace p152 := eq_true p152
                                                                  replace q152 := eq_true q152
                                                                  have p153 : 0 ≤ (x14_3 : Int) := of_decide_eq_true (by first | (with_reducible assumption) | assumption)
                                                                  have q153 : x14_3 < (t132.length : Int) := of_decide_eq_true (by first | (with_reducible assumption) | assumption)
                                                                  obtain ⟨ad153, A153_0, c153_0, e153, hx153_0, hl153_0, hi153_0⟩ := at_L1 (Kd.S_reads' HO_12.out).2.2 x14_3 p153 q153
                                                                  obtain rfl : ad142 = ad153 := (by injection e153)
                                                                  obtain ⟨ce153, hce153, hMe153, hcc153⟩ := Kd.S_get HO_12.out [] x14_3 p153 (by first | exact q153 | exact of_decide_eq_true (by first | (with_reducible assumption) | assumption) | (have e_ := (Kd.S_reads' HO_12.out).1; omega))
                                                                  obtain ⟨ve153_0, rfl, ge153_0⟩ := hMe153
                                                                  have hv153_0 := hcc153 0 _ rfl
                                                                  rw [Nat.add_zero, show ((Kd.slice 3 (Kd.int .i64))).sz = 1 from rfl, Nat.mul_one] at hv153_0
                                                                  replace hv153_0 := Option.some.inj (hv153_0.symm.trans hx153_0)
                                                                  rw [hv153_0] at ge153_0
                                                                  have HL153_0 := Aside0.mk (show Kd.R (Kd.int .i64) 3 _ _ _ _ (rd_L1 t132 x14_3) from ge153_0)
                                                                  clear hv153_0 ge153_0
                                                                  clear hcc153 hce153
                                                                  have HR153_0 := Aside0.mk hi153_0
                                                                  have HC153_0 := Aside0.mk hl153_0
                                                                  clear hi153_0 hl153_0
                                                                  replace p153 := eq_true p153
                                                                  replace q153 := eq_true q153
                                                                  have p154 : 0 ≤ (x77_4 : Int) := of_decide_eq_true (by first | (with_reducible assumption) | assumption)
                                                                  have q154 : x77_4 < ((rd_L1 t132 x14_3).length : Int) := of_decide_eq_true (by first | (with_reducible assumption) | assumption)
                                                                  obtain ⟨ad154, e154, hx154_0⟩ := Kd.at_int (by repeat (first | (with_reducible exact HR153_0.out) | (with_reducible refine Kd.C_alloc ?_ _) | (with_reducible refine Kd.C_drewN ?_ _) | (with_reducible refine Kd.C_drew ?_) | exact HR153_0.out)) x77_4 p154 q154
                                                                  cases e154
                                                                  replace p154 := eq_true p154
                                                                  replace q154 := eq_true q154
                                                                  have p155 : 0 ≤ ((ji26) : Int) := of_decide_eq_true (by first | (with_reducible assumption) | assumption)
                                                                  have q155 : (ji26) < (l0.length : Int) := of_decide_eq_true (by first | (with_reducible assumption) | assumption)
                                                                  obtain ⟨ad155, A155_0, c155_0, e155, hx155_0, hl155_0, hi155_0⟩ := at_L1 HR0.out (ji26) p155 q155
                                                                  obtain rfl : ad131 = ad155 := (by injection e155)
                                                                  replace hx155_0 := (HB.out.cell (World.block_lt_of_cell? w _ hx155_0)).trans hx155_0
                                                                  have HR155_0 := Aside0.mk hi155_0
                                                                  have HC155_0 := Aside0.mk hl155_0
                                                                  clear hi155_0 hl155_0
                                                                  replace p155 := eq_true p155
                                                                  replace q155 := eq_true q155
                                                                  have p156 : 0 ≤ ((ji26) : Int) := of_decide_eq_true (by first | (with_reducible assumption) | assumption)
                                                                  have q156 : (ji26) < (x10_4.length : Int) := of_decide_eq_true (by first | (with_reducible assumption) | assumption)
                                                                  obtain ⟨ad156, e156, hx156_0⟩ := Kd.at_int (Kd.R_reads' HO_10.out).2.2 (ji26) p156 q156
                                                                  obtain rfl : ad152 = ad156 := (by injection e156)
                                                                  replace p156 := eq_true p156
                                                                  replace q156 := eq_true q156
                                                                  have p157 : 0 ≤ ((rd x10_4 (ji26)) : Int) := of_decide_eq_true (by first | (with_reducible assumption) | assumption)
                                                                  have q157 : (rd x10_4 (ji26)) < ((rd_L1 l0 (ji26)).length : Int) := of_decide_eq_true (by first | (with_reducible assumption) | assumption)
                                                                  obtain ⟨ad157, e157, hx157_0⟩ := Kd.at_int HR155_0.out (rd x10_4 (ji26)) p157 q157
                                                                  cases e157
                                                                  replace hx157_0 := (HB.out.cell (World.block_lt_of_cell? w _ hx157_0)).trans hx157_0
                                                                  replace p157 := eq_true p157
                                                                  replace q157 := eq_true q157
                                                                  have p158 : 0 ≤ (x14_3 : Int) := of_decide_eq_true (by first | (with_reducible assumption) | assumption)
                                                                  have q158 : x14_3 < (t132.length : Int) := of_decide_eq_true (by first | (with_reducible assumption) | assumption)
                                                                  obtain ⟨ad158, A158_0, c158_0, e158, hx158_0, hl158_0, hi158_0⟩ := at_L1 (Kd.S_reads' HO_12.out).2.2 x14_3 p158 q158
                                                                  obtain rfl : ad142 = ad158 := (by injection e158)
                                                                  obtain ⟨ce158, hce158, hMe158, hcc158⟩ := Kd.S_get HO_12.out [] x14_3 p158 (by first | exact q158 | exact of_decide_eq_true (by first | (with_reducible assumption) | assumption) | (have e_ := (Kd.S_reads' HO_12.out).1; omega))
                                                                  obtain ⟨ve158_0, rfl, ge158_0⟩ := hMe158
                                                                  have hv158_0 := hcc158 0 _ rfl
                                                                  rw [Nat.add_zero, show ((Kd.slice 3 (Kd.int .i64))).sz = 1 from rfl, Nat.mul_one] at hv158_0
                                                                  replace hv158_0 := Option.some.inj (hv158_0.symm.trans hx158_0)
                                                                  rw [hv158_0] at ge158_0
                                                                  have HL158_0 := Aside0.mk (show Kd.R (Kd.int .i64) 3 _ _ _ _ (rd_L1 t132 x14_3) from ge158_0)
                                                                  clear hv158_0 ge158_0
                                                                  clear hcc158 hce158
                                                                  have HR158_0 := Aside0.mk hi158_0
                                                                  have HC158_0 := Aside0.mk hl158_0
                                                                  clear hi158_0 hl158_0
                                                                  replace p158 := eq_true p158
                                                                  replace q158 := eq_true q158
                                                                  have ea_ := Option.some.inj (hx153_0.symm.trans hx158_0)
                                                                  injection ea_ with ea_ en_ ec_
                                                                  subst ea_
                                                                  subst ec_
                                                                  clear en_
                                                                  have p159 : 0 ≤ (x77_4 : Int) := of_decide_eq_true (by first | (with_reducible assumption) | assumption)
                                                                  have q159 : x77_4 < ((rd_L1 t132 x14_3).length : Int) := of_decide_eq_true (by first | (with_reducible assumption) | assumption)
                                                                  obtain ⟨ad159, e159, hx159_0⟩ := Kd.at_int (by repeat (first | (with_reducible exact HR158_0.out) | (with_reducible refine Kd.C_alloc ?_ _) | (with_reducible refine Kd.C_drewN ?_ _) | (with_reducible refine Kd.C_drew ?_) | exact HR158_0.out)) x77_4 p159 q159
                                                                  cases e159
                                                                  replace p159 := eq_true p159
                                                                  replace q159 := eq_true q159
                                                                  have p160 : 0 ≤ ((ji26) : Int) := of_decide_eq_true (by first | (with_reducible assumption) | assumption)
                                                                  have q160 : (ji26) < (t132.length : Int) := of_decide_eq_true (by first | (with_reducible assumption) | assumption)
                                                                  obtain ⟨ad160, A160_0, c160_0, e160, hx160_0, hl160_0, hi160_0⟩ := at_L1 (Kd.S_reads' HO_12.out).2.2 (ji26) p160 q160
                                                                  obtain rfl : ad142 = ad160 := (by injection e160)
                                                                  obtain ⟨ce160, hce160, hMe160, hcc160⟩ := Kd.S_get HO_12.out [] (ji26) p160 (by first | exact q160 | exact of_decide_eq_true (by first | (with_reducible assumption) | assumption) | (have e_ := (Kd.S_reads' HO_12.out).1; omega))
                                                                  obtain ⟨ve160_0, rfl, ge160_0⟩ := hMe160
                                                                  have hv160_0 := hcc160 0 _ rfl
                                                                  rw [Nat.add_zero, show ((Kd.slice 3 (Kd.int .i64))).sz = 1 from rfl, Nat.mul_one] at hv160_0
                                                                  replace hv160_0 := Option.some.inj (hv160_0.symm.trans hx160_0)
                                                                  rw [hv160_0] at ge160_0
                                                                  have HL160_0 := Aside0.mk (show Kd.R (Kd.int .i64) 3 _ _ _ _ (rd_L1 t132 (ji26)) from ge160_0)
                                                                  clear hv160_0 ge160_0
                                                                  clear hcc160 hce160
                                                                  have HR160_0 := Aside0.mk hi160_0
                                                                  have HC160_0 := Aside0.mk hl160_0
                                                                  clear hi160_0 hl160_0
                                                                  replace p160 := eq_true p160
                                                                  replace q160 := eq_true q160
                                                                  have p161 : 0 ≤ ((ji26) : Int) := of_decide_eq_true (by first | (with_reducible assumption) | assumption)
                                                                  have q161 : (ji26) < (x10_4.length : Int) := of_decide_eq_true (by first | (with_reducible assumption) | assumption)
                                                                  obtain ⟨ad161, e161, hx161_0⟩ := Kd.at_int (Kd.R_reads' HO_10.out).2.2 (ji26) p161 q161
                                                                  obtain rfl : ad152 = ad161 := (by injection e161)
                                                                  replace p161 := eq_true p161
                                                                  replace q161 := eq_true q161
                                                                  have p162 : 0 ≤ ((rd x10_4 (ji26)) : Int) := of_decide_eq_true (by first | (with_reducible assumption) | assumption)
                                                                  have q162 : (rd x10_4 (ji26)) < ((rd_L1 t132 (ji26)).length : Int) := of_decide_eq_true (by first | (with_reducible assumption) | assumption)
                                                                  obtain ⟨ad162, e162, hx162_0⟩ := Kd.at_int (by repeat (first | (with_reducible exact HR160_0.out) | (with_reducible refine Kd.C_alloc ?_ _) | (with_reducible refine Kd.C_drewN ?_ _) | (with_reducible refine Kd.C_drew ?_) | exact HR160_0.out)) (rd x10_4 (ji26)) p162 q162
                                                                  cases e162
                                                                  replace p162 := eq_true p162
                                                                  replace q162 := eq_true q162
                                                                  go_wp2
                                                                  repeat (go_quiet (fail); try go_wp2)
                                                                  go_roundg k4
                                                                  case measure => have := HK1.out; have := HJ6.out; have := HK3.out; have := HK4.out; omega
                                                                  case rel => exact ⟨(x10_4), (wrap64 (x77_4 + 1)), (by first | rfl | (simp; done) | (simp [*]; done)), H', ⟨by have := HK1.out; have := HJ6.out; have := HK3.out; have := HK4.out; omega⟩, ⟨by (with_reducible repeat (first | apply Kd.R_alloc | apply Kd.R_drewN | apply Kd.R_drew)); exact HO_10.out⟩, ⟨by (with_reducible repeat (first | apply Kd.S_alloc | apply Kd.S_drewN | apply Kd.S_drew)); exact HO_12.out⟩, ⟨by (with_reducible repeat (first | apply Kd.S_alloc | apply Kd.S_drewN | apply Kd.S_drew)); exact HO_13.out⟩, ⟨by repeat (first | (with_reducible first | exact HB.out | apply below_alloc | apply pw_below_drewN | apply below_drew1) | exact HB.out)⟩⟩
                                                              · rw [if_neg c41] at H
                                                                exact absurd H (by simp)
                                                            · rw [if_neg c40] at H
                                                              exact absurd H (by simp)
                                                          · rw [if_neg c39] at H
                                                            exact absurd H (by simp)
                                                        · rw [if_neg c38] at H
                                                          exact absurd H (by simp)
                                                      · rw [if_neg c37] at H
                                                        exact absurd H (by simp)
                                                  · rw [if_neg c34] at H
                                                    exact absurd H (by simp)
                                                · rw [if_neg c33] at H
                                                  exact absurd H (by simp)
                                              · rw [if_neg c32] at H
                                                exact absurd H (by simp)
                                            · rw [if_neg c31] at H
                                              exact absurd H (by simp)
                                        · rw [if_neg c28] at H
                                          exact absurd H (by simp)
                                      · rw [if_neg c27] at H
                                        exact absurd H (by simp)
                                    · rw [if_neg c25] at H
                                      have c25b0 : decide (x77_4 < ((rd_L1 l0 0).length : Int)) = false := decide_eq_false c25
                                      clear c25
                                      have H' := Aside0.mk H
                                      clear H
                                      go_wp2
                                      repeat (go_quiet (fail); try go_wp2)
                                      go_roundg k4
                                      case measure => have := HK1.out; have := HJ6.out; have := HK3.out; have := HK4.out; omega
                                      case rel => exact ⟨(x10_4), (wrap64 (x14_3 + 1)), (by first | rfl | (simp; done) | (simp [*]; done)), H', ⟨by have := HK1.out; have := HJ6.out; have := HK3.out; have := HK4.out; omega⟩, ⟨by (with_reducible repeat (first | apply Kd.R_alloc | apply Kd.R_drewN | apply Kd.R_drew)); exact HO_10.out⟩, ⟨by (with_reducible repeat (first | apply Kd.S_alloc | apply Kd.S_drewN | apply Kd.S_drew)); exact HO_12.out⟩, ⟨by (with_reducible repeat (first | apply Kd.S_alloc | apply Kd.S_drewN | apply Kd.S_drew)); exact HO_13.out⟩, ⟨by repeat (first | (with_reducible first | exact HB.out | apply below_alloc | apply pw_below_drewN | apply below_drew1) | exact HB.out)⟩⟩
                              · rw [if_neg c24] at H
                                exact absurd H (by simp)
                            · rw [if_neg c23] at H
                              have c23b0 : decide (x14_3 < (l0.length : Int)) = false := decide_eq_false c23
                              clear c23
                              by_cases c47 : 0 < (t133.length : Int)
                              · rw [if_pos c47] at H
                                have c47b0 : decide (0 < (t133.length : Int)) = true := decide_eq_true c47
                                have c47b1 : decide (0 < t133.length) = true := decide_eq_true (by omega)
                                clear c47
                                by_cases c48 : 0 ≤ x24_1
                                · rw [if_pos c48] at H
                                  have c48b0 : decide (0 ≤ x24_1) = true := decide_eq_true c48
                                  clear c48
                                  by_cases c49 : x24_1 < ((rd_L1 t133 0).length : Int)
                                  · rw [if_pos c49] at H
                                    have c49b0 : decide (x24_1 < ((rd_L1 t133 0).length : Int)) = true := decide_eq_true c49
                                    clear c49
                                    have H' := Aside0.mk H
                                    clear H
                                    obtain ⟨Ao50, co50, eo50⟩ := Kd.S_slice HO_13.out
                                    subst eo50
                                    have p149 : 0 ≤ (0 : Int) := (by omega)
                                    have q149 : 0 < (t133.length : Int) := of_decide_eq_true (by first | (with_reducible assumption) | assumption)
                                    obtain ⟨ad149, A149_0, c149_0, e149, hx149_0, hl149_0, hi149_0⟩ := at_L1 (Kd.S_reads' HO_13.out).2.2 0 p149 q149
                                    cases e149
                                    obtain ⟨ce149, hce149, hMe149, hcc149⟩ := Kd.S_get HO_13.out [] 0 p149 (by first | exact q149 | exact of_decide_eq_true (by first | (with_reducible assumption) | assumption) | (have e_ := (Kd.S_reads' HO_13.out).1; omega))
                                    obtain ⟨ve149_0, rfl, ge149_0⟩ := hMe149
                                    have hv149_0 := hcc149 0 _ rfl
                                    rw [Nat.add_zero, show ((Kd.slice 3 (Kd.int .i64))).sz = 1 from rfl, Nat.mul_one] at hv149_0
                                    replace hv149_0 := Option.some.inj (hv149_0.symm.trans hx149_0)
                                    rw [hv149_0] at ge149_0
                                    have HL149_0 := Aside0.mk (show Kd.R (Kd.int .i64) 3 _ _ _ _ (rd_L1 t133 0) from ge149_0)
                                    clear hv149_0 ge149_0
                                    clear hcc149 hce149
                                    have qi149 : (0 < t133.length) = True := eq_true (by omega)
                                    (try rw [show ((0 : Int)).toNat = 0 from rfl] at hx149_0)
                                    (try rw [Addr.add_zero'] at hx149_0)
                                    have HR149_0 := Aside0.mk hi149_0
                                    have HC149_0 := Aside0.mk hl149_0
                                    clear hi149_0 hl149_0
                                    replace p149 := eq_true p149
                                    replace q149 := eq_true q149
                                    have p150 : 0 ≤ (x24_1 : Int) := of_decide_eq_true (by first | (with_reducible assumption) | assumption)
                                    have q150 : x24_1 < ((rd_L1 t133 0).length : Int) := of_decide_eq_true (by first | (with_reducible assumption) | assumption)
                                    obtain ⟨ad150, e150, hx150_0⟩ := Kd.at_int (by repeat (first | (with_reducible exact HR149_0.out) | (with_reducible refine Kd.C_alloc ?_ _) | (with_reducible refine Kd.C_drewN ?_ _) | (with_reducible refine Kd.C_drew ?_) | exact HR149_0.out)) x24_1 p150 q150
                                    cases e150
                                    replace p150 := eq_true p150
                                    replace q150 := eq_true q150
                                    go_wp2
                                    repeat (go_quiet (fail); try go_wp2)
                                    go_roundg k3
                                    case measure => have := HK1.out; have := HJ6.out; have := HK3.out; omega
                                    case rel => exact ⟨((rd (rd_L1 t132 0) x24_1)), (wrap64 (0 + (rd (rd_L1 t133 0) x24_1))), (x10_3), (wrap64 (x24_1 + 1)), (by first | rfl | (simp; done) | (simp [*]; done)), (by first | rfl | (simp; done) | (simp [*]; done)), (by first | rfl | (simp; done) | (simp [*]; done)), H', ⟨by have := HK1.out; have := HJ6.out; have := HK3.out; omega⟩, ⟨by (with_reducible repeat (first | apply Kd.R_alloc | apply Kd.R_drewN | apply Kd.R_drew)); exact HO_10.out⟩, ⟨by repeat (first | (with_reducible first | exact HB.out | apply below_alloc | apply pw_below_drewN | apply below_drew1) | exact HB.out)⟩⟩
                                  · rw [if_neg c49] at H
                                    exact absurd H (by simp)
                                · rw [if_neg c48] at H
                                  exact absurd H (by simp)
                              · rw [if_neg c47] at H
                                exact absurd H (by simp)
                      · rw [if_neg c19] at H
                        have c19b0 : decide ((rd (rd_L1 t132 0) x24_1) < x8_1) = false := decide_eq_false c19
                        clear c19
                        by_cases c51 : 0 < (t133.length : Int)
                        · rw [if_pos c51] at H
                          have c51b0 : decide (0 < (t133.length : Int)) = true := decide_eq_true c51
                          have c51b1 : decide (0 < t133.length) = true := decide_eq_true (by omega)
                          clear c51
                          by_cases c52 : x24_1 < ((rd_L1 t133 0).length : Int)
                          · rw [if_pos c52] at H
                            have c52b0 : decide (x24_1 < ((rd_L1 t133 0).length : Int)) = true := decide_eq_true c52
                            clear c52
                            have H' := Aside0.mk H
                            clear H
                            obtain ⟨Ao53, co53, eo53⟩ := Kd.S_slice HO_12.out
                            subst eo53
                            have p142 : 0 ≤ (0 : Int) := (by omega)
                            have q142 : 0 < (t132.length : Int) := of_decide_eq_true (by first | (with_reducible assumption) | assumption)
                            obtain ⟨ad142, A142_0, c142_0, e142, hx142_0, hl142_0, hi142_0⟩ := at_L1 (Kd.S_reads' HO_12.out).2.2 0 p142 q142
                            cases e142
                            obtain ⟨ce142, hce142, hMe142, hcc142⟩ := Kd.S_get HO_12.out [] 0 p142 (by first | exact q142 | exact of_decide_eq_true (by first | (with_reducible assumption) | assumption) | (have e_ := (Kd.S_reads' HO_12.out).1; omega))
                            obtain ⟨ve142_0, rfl, ge142_0⟩ := hMe142
                            have hv142_0 := hcc142 0 _ rfl
                            rw [Nat.add_zero, show ((Kd.slice 3 (Kd.int .i64))).sz = 1 from rfl, Nat.mul_one] at hv142_0
                            replace hv142_0 := Option.some.inj (hv142_0.symm.trans hx142_0)
                            rw [hv142_0] at ge142_0
                            have HL142_0 := Aside0.mk (show Kd.R (Kd.int .i64) 3 _ _ _ _ (rd_L1 t132 0) from ge142_0)
                            clear hv142_0 ge142_0
                            clear hcc142 hce142
                            have qi142 : (0 < t132.length) = True := eq_true (by omega)
                            (try rw [show ((0 : Int)).toNat = 0 from rfl] at hx142_0)
                            (try rw [Addr.add_zero'] at hx142_0)
                            have HR142_0 := Aside0.mk hi142_0
                            have HC142_0 := Aside0.mk hl142_0
                            clear hi142_0 hl142_0
                            replace p142 := eq_true p142
                            replace q142 := eq_true q142
                            have p143 : 0 ≤ (x24_1 : Int) := of_decide_eq_true (by first | (with_reducible assumption) | assumption)
                            have q143 : x24_1 < ((rd_L1 t132 0).length : Int) := of_decide_eq_true (by first | (with_reducible assumption) | assumption)
                            obtain ⟨ad143, e143, hx143_0⟩ := Kd.at_int (by repeat (first | (with_reducible exact HR142_0.out) | (with_reducible refine Kd.C_alloc ?_ _) | (with_reducible refine Kd.C_drewN ?_ _) | (with_reducible refine Kd.C_drew ?_) | exact HR142_0.out)) x24_1 p143 q143
                            cases e143
                            replace p143 := eq_true p143
                            replace q143 := eq_true q143
                            obtain ⟨Ao54, co54, eo54⟩ := Kd.S_slice HO_13.out
                            subst eo54
                            have p166 : 0 ≤ (0 : Int) := (by omega)
                            have q166 : 0 < (t133.length : Int) := of_decide_eq_true (by first | (with_reducible assumption) | assumption)
                            obtain ⟨ad166, A166_0, c166_0, e166, hx166_0, hl166_0, hi166_0⟩ := at_L1 (Kd.S_reads' HO_13.out).2.2 0 p166 q166
                            cases e166
                            obtain ⟨ce166, hce166, hMe166, hcc166⟩ := Kd.S_get HO_13.out [] 0 p166 (by first | exact q166 | exact of_decide_eq_true (by first | (with_reducible assumption) | assumption) | (have e_ := (Kd.S_reads' HO_13.out).1; omega))
                            obtain ⟨ve166_0, rfl, ge166_0⟩ := hMe166
                            have hv166_0 := hcc166 0 _ rfl
                            rw [Nat.add_zero, show ((Kd.slice 3 (Kd.int .i64))).sz = 1 from rfl, Nat.mul_one] at hv166_0
                            replace hv166_0 := Option.some.inj (hv166_0.symm.trans hx166_0)
                            rw [hv166_0] at ge166_0
                            have HL166_0 := Aside0.mk (show Kd.R (Kd.int .i64) 3 _ _ _ _ (rd_L1 t133 0) from ge166_0)
                            clear hv166_0 ge166_0
                            clear hcc166 hce166
                            have qi166 : (0 < t133.length) = True := eq_true (by omega)
                            (try rw [show ((0 : Int)).toNat = 0 from rfl] at hx166_0)
                            (try rw [Addr.add_zero'] at hx166_0)
                            have HR166_0 := Aside0.mk hi166_0
                            have HC166_0 := Aside0.mk hl166_0
                            clear hi166_0 hl166_0
                            replace p166 := eq_true p166
                            replace q166 := eq_true q166
                            have p167 : 0 ≤ (x24_1 : Int) := of_decide_eq_true (by first | (with_reducible assumption) | assumption)
                            have q167 : x24_1 < ((rd_L1 t133 0).length : Int) := of_decide_eq_true (by first | (with_reducible assumption) | assumption)
                            obtain ⟨ad167, e167, hx167_0⟩ := Kd.at_int (by repeat (first | (with_reducible exact HR166_0.out) | (with_reducible refine Kd.C_alloc ?_ _) | (with_reducible refine Kd.C_drewN ?_ _) | (with_reducible refine Kd.C_drew ?_) | exact HR166_0.out)) x24_1 p167 q167
                            cases e167
                            replace p167 := eq_true p167
                            replace q167 := eq_true q167
                            go_wp2
                            repeat (go_quiet (fail); try go_wp2)
                            go_roundg kj6
                            case measure => have := HK1.out; have := HJ6.out; omega
                            case rel => exact ⟨(x8_1), (wrap64 (x9_1 + (rd (rd_L1 t133 0) x24_1))), (x10_1), (wrap64 (x24_1 + 1)), (by first | rfl | (simp; done) | (simp [*]; done)), (by first | rfl | (simp; done) | (simp [*]; done)), (by first | rfl | (simp; done) | (simp [*]; done)), H', ⟨by have := HK1.out; have := HJ6.out; omega⟩, ⟨by (with_reducible repeat (first | apply Kd.R_alloc | apply Kd.R_drewN | apply Kd.R_drew)); exact HO_10.out⟩, ⟨by repeat (first | (with_reducible first | exact HB.out | apply below_alloc | apply pw_below_drewN | apply below_drew1) | exact HB.out)⟩⟩
                          · rw [if_neg c52] at H
                            exact absurd H (by simp)
                        · rw [if_neg c51] at H
                          exact absurd H (by simp)
                    · rw [if_neg c18] at H
                      exact absurd H (by simp)
                  · rw [if_neg c17] at H
                    exact absurd H (by simp)
                · rw [if_neg c16] at H
                  exact absurd H (by simp)
        · rw [if_neg c5] at H
          have c5b0 : decide (x24_1 < ((rd_L1 l0 0).length : Int)) = false := decide_eq_false c5
          clear c5
          simp only [Option.some.injEq, Prod.mk.injEq] at H
          obtain ⟨rfl, rfl, rfl⟩ := H
          go_wp2
          repeat (go_quiet (fail); try go_wp2)
          go_ret3
          exact ⟨_, by first | rfl | (simp [errW_none, errW_some] <;> rfl) | (simp [*, errW_none, errW_some] <;> rfl), by (with_reducible repeat (first | apply Kd.R_alloc | apply Kd.R_drewN | apply Kd.R_drew)); exact HO_10.out, by repeat (first | (with_reducible first | exact HB.out | apply below_alloc | apply pw_below_drewN | apply below_drew1) | exact HB.out)⟩
  · rw [if_neg c4] at H
    exact absurd H (by simp)

end Go.Proofs.Ytbchfajbobploaa.MQ
