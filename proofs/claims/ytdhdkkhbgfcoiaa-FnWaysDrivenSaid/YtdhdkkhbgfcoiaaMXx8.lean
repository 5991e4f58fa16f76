-- The machine side, written by this repo's program mp.py; contracts marked as of this repo are this session's own.
import Derived.Test.YtdhdkkhbgfcoiaaMXx0
import Derived.Test.YtdhdkkhbgfcoiaaMXx7
namespace Go.Proofs.Ytdhdkkhbgfcoiaa.MX
open Go.RowKit Go.Proofs.YtdhdkkhbgfcoiaaW.PrintWords Go.Proofs.YtdhdkkhbgfcoiaaW.PrintLast Go.Proofs.YtdhdkkhbgfcoiaaW.PrintMore
attribute [local go_sem] max2_int min2_int max_two min_two max_three min_three max_four min_four   -- for this text's walks alone
set_option maxHeartbeats 8000000
set_option maxRecDepth 100000
set_option linter.unusedVariables false
set_option linter.unusedSimpArgs false
mutual
def spec_owStep.j0 : Nat → Int → Int → Int → Int → Int → Bool → ByteArray → ByteArray → Option (Int × Int × Bool)
 | 0, _, _, _, _, _, _, _, _ => none
 | k + 1, x1, x2, x3, x11, x12, x15, x274000, x274001 => if x15 = true then ((spec_l1In.f (wrap64 (x11 + 1)) 0 (wrap64 ((x274001.size : Int) - 1))).bind fun t274 => (if t274 = true then ((spec_l1In.f x12 0 (wrap64 ((x274000.size : Int) - 1))).bind fun t275 => (some (wrap64 (x11 + 1), x12, t275))) else (some (wrap64 (x11 + 1), x12, false)))) else (if 0 ≤ x2 then (if x2 < (x274000.size : Int) then (if x3 = (bt x274000 x2) then ((spec_l1In.f (wrap64 (x11 - 1)) 0 (wrap64 ((x274001.size : Int) - 1))).bind fun t276 => (if t276 = true then ((spec_l1In.f x12 0 (wrap64 ((x274000.size : Int) - 1))).bind fun t277 => (some (wrap64 (x11 - 1), x12, t277))) else (some (wrap64 (x11 - 1), x12, false)))) else (if 0 ≤ x1 then (if x1 < (x274001.size : Int) then (if x3 = (bt x274001 x1) then (spec_owStep.j1 k x1 x3 x11 x12 (x3 == 110) x274000 x274001) else (spec_owStep.j1 k x1 x3 x11 x12 false x274000 x274001)) else (none)) else (none))) else (none)) else (none))
def spec_owStep.j1 : Nat → Int → Int → Int → Int → Bool → ByteArray → ByteArray → Option (Int × Int × Bool)
 | 0, _, _, _, _, _, _, _ => none
 | k + 1, x1, x3, x11, x12, x37, x274000, x274001 => if x37 = true then ((spec_l1In.f x11 0 (wrap64 ((x274001.size : Int) - 1))).bind fun t278 => (if t278 = true then ((spec_l1In.f (wrap64 (x12 + 1)) 0 (wrap64 ((x274000.size : Int) - 1))).bind fun t279 => (some (x11, wrap64 (x12 + 1), t279))) else (some (x11, wrap64 (x12 + 1), false)))) else (if 0 ≤ x1 then (if x1 < (x274001.size : Int) then (if x3 = (bt x274001 x1) then ((spec_l1In.f x11 0 (wrap64 ((x274001.size : Int) - 1))).bind fun t280 => (if t280 = true then ((spec_l1In.f (wrap64 (x12 - 1)) 0 (wrap64 ((x274000.size : Int) - 1))).bind fun t281 => (some (x11, wrap64 (x12 - 1), t281))) else (some (x11, wrap64 (x12 - 1), false)))) else (some (0, 0, false))) else (none)) else (none))
end
def spec_owStep.f (k : Nat) (a0_0 : ByteArray) (a0_1 : ByteArray) (a1 : Int) (a2 : Int) (a3 : Int) : Option (Int × Int × Bool) := if 0 ≤ a2 then (if a2 < (a0_0.size : Int) then (if a3 = (bt a0_0 a2) then (spec_owStep.j0 k a1 a2 a3 a1 a2 (a3 == 101) a0_0 a0_1) else (spec_owStep.j0 k a1 a2 a3 a1 a2 false a0_0 a0_1)) else (none)) else (none)
theorem spec_owStep.calls (k : Nat) (a0_0 : ByteArray) (a0_1 : ByteArray) (a1 : Int) (a2 : Int) (a3 : Int) (r1 : Int) (r2 : Int) (r3 : Bool) (w : World) (h : spec_owStep.f k a0_0 a0_1 a1 a2 a3 = some (r1, r2, r3)) :
  Calls Try.prog 37 #[.agg #[.string a0_0, .string a0_1], .int .i64 a1, .int .i64 a2, .int .u8 a3] w fun e w' => e = .returned (.tuple #[.int .i64 r1, .int .i64 r2, .bool r3]) ∧ Below w.heap.size w w' := by
 have hu25 := Try.underlying25
 have HB := am (Below.refl w.heap.size w)
 unfold spec_owStep.f at h
 have H := h
 clear h
 have HC5 := am H
 clear H
 go_enter Try.func37, Try.ntmps37
 go_upto_region 3 with ((with_reducible refine gate_dst (N := 4) rfl ?_); (try (refine gate_guard (by rfl) ?_; dsimp only)); refine bx_ 4 (#[.string a0_0, .string a0_1]) 25 ?_; intro gb273 hg w6 hbox hb; have BK273 := am (hbox); have GW273 := am ((by rw [hg]; exact (below_size HB.out) : w.heap.size ≤ gb273)); have GE273 := am ((by rw [hg]; exact (below_size HB.out) : w.heap.size ≤ gb273)); replace HB := am (below_step HB.out hb); clear hb hbox hg)
 go_cut [15] (fun v15 wc => ∃ (kq : Nat) (x15_4 : Bool), v15 = .bool x15_4 ∧ Aside0 (spec_owStep.j0 kq a1 a2 a3 a1 a2 x15_4 a0_0 a0_1 = some (r1, r2, r3)) ∧ Aside0 (kq ≤ k) ∧ Aside0 (wc.heap[gb273]? = some (.cells #[.string a0_0, .string a0_1] 25 (0, 0))) ∧ Aside0 (Below w.heap.size w wc))
 case first =>
  have H := HC5.out
  clear HC5
  by_cases c7 : 0 ≤ a2
  ·rw [if_pos c7] at H
   have c7b0 : decide (0 ≤ a2) = true := decide_eq_true c7
   clear c7
   (skip)
   by_cases c8 : a2 < (a0_0.size : Int)
   ·rw [if_pos c8] at H
    have c8b0 : decide (a2 < (a0_0.size : Int)) = true := decide_eq_true c8
    clear c8
    by_cases c10 : a3 = (bt a0_0 a2)
    ·rw [if_pos c10] at H
     have c10b0 : (a3 == (bt a0_0 a2)) = true := beq_iff_eq.mpr c10
     have c10b1 : (a3 != (bt a0_0 a2)) = false := bne_eq_false_iff_eq.mpr c10
     clear c10
     have H' := am H
     clear H
     have hcz11_0 := cz0_ BK273
     have hcz11_1 := cz1_ BK273
     have hfz11_0 := blk_frozen BK273.out 0
     have hfz11_1 := blk_frozen BK273.out 1
     have p9 : 0 ≤ (a2 : Int) := of_decide_eq_true (by with_reducible assumption)
     have q9 : a2 < (a0_0.size : Int) := of_decide_eq_true (by with_reducible assumption)
     have hx9 := bt_at a0_0 a2
     replace p9 := eq_true p9
     replace q9 := eq_true q9
     go_wp2
     go_meet
     case rel => exact ⟨_, ((a3 == 101)), (by rfl), H', ⟨by omega⟩, ⟨by (with_reducible skip); exact BK273.out⟩, ⟨by exact HB.out⟩⟩
    ·rw [if_neg c10] at H
     have c10b0 : (a3 == (bt a0_0 a2)) = false := beq_eq_false_iff_ne.mpr c10
     have c10b1 : (a3 != (bt a0_0 a2)) = true := bne_iff_ne.mpr c10
     have H' := am H
     clear H
     have hcz12_0 := cz0_ BK273
     have hcz12_1 := cz1_ BK273
     have hfz12_0 := blk_frozen BK273.out 0
     have hfz12_1 := blk_frozen BK273.out 1
     have p9 : 0 ≤ (a2 : Int) := of_decide_eq_true (by with_reducible assumption)
     have q9 : a2 < (a0_0.size : Int) := of_decide_eq_true (by with_reducible assumption)
     have hx9 := bt_at a0_0 a2
     replace p9 := eq_true p9
     replace q9 := eq_true q9
     go_wp2
     go_meet
     case rel => exact ⟨_, (false), (by rfl), H', ⟨by omega⟩, ⟨by (with_reducible skip); exact BK273.out⟩, ⟨by exact HB.out⟩⟩
   ·rw [if_neg c8] at H
    exact absurd H (by simp)
  ·rw [if_neg c7] at H
   exact absurd H (by simp)
 case rest =>
  clear HC5
  obtain ⟨kq, x15_4, rfl, HA, HJ4, BK273, HB⟩ := hcut
  cases kq with
  | zero => exact absurd HA.out (by simp [spec_owStep.j0])
  | succ kj4 =>
   have H := HA.out
   clear HA
   simp only [spec_owStep.j0] at H
   by_cases c13 : x15_4 = true
   ·subst c13
    rw [if_pos rfl] at H
    obtain ⟨t274, A14, H⟩ := bnd_ H
    try dsimp only at H
    by_cases c15 : t274 = true
    ·subst c15
     rw [if_pos rfl] at H
     obtain ⟨t275, A16, H⟩ := bnd_ H
     try dsimp only at H
     simp only [Option.some.injEq, Prod.mk.injEq] at H
     obtain ⟨rfl, rfl, rfl⟩ := H
     have hcz17_0 := cz0_ BK273
     have hcz17_1 := cz1_ BK273
     have hfz17_0 := blk_frozen BK273.out 0
     have hfz17_1 := blk_frozen BK273.out 1
     go_wp2_with (first | ((with_reducible refine gate_callee (f := 62) rfl ?_); refine gl_ 66 Try.func62 #[.int .i64 (wrap64 (a1 + 1)), .int .i64 0, .int .i64 (wrap64 ((a0_1.size : Int) - 1))] ?_; (with_reducible refine (spec_l1In.calls (wrap64 (a1 + 1)) 0 (wrap64 ((a0_1.size : Int) - 1)) true _ A14.out).mono ?_); rintro e w' ⟨rfl, ⟨nd, rfl⟩⟩; refine ⟨_, rfl, ?_⟩) | (go_at_call 62; (with_reducible refine (spec_l1In.calls a2 0 (wrap64 ((a0_0.size : Int) - 1)) t275 _ A16.out).mono ?_); rintro e w' ⟨rfl, ⟨nd, rfl⟩⟩))
     go_ret3
     exact ⟨by rfl, by repeat (with_reducible first | exact HB.out | apply pw_below_drewN)⟩
    ·replace c15 := Bool.eq_false_iff.mpr c15
     subst c15
     rw [if_neg (show ¬ (false = true) by decide)] at H
     simp only [Option.some.injEq, Prod.mk.injEq] at H
     obtain ⟨rfl, rfl, rfl⟩ := H
     have hcz18_0 := cz0_ BK273
     have hcz18_1 := cz1_ BK273
     have hfz18_0 := blk_frozen BK273.out 0
     have hfz18_1 := blk_frozen BK273.out 1
     go_wp2_with ((with_reducible refine gate_callee (f := 62) rfl ?_); refine gl_ 66 Try.func62 #[.int .i64 (wrap64 (a1 + 1)), .int .i64 0, .int .i64 (wrap64 ((a0_1.size : Int) - 1))] ?_; (with_reducible refine (spec_l1In.calls (wrap64 (a1 + 1)) 0 (wrap64 ((a0_1.size : Int) - 1)) false _ A14.out).mono ?_); rintro e w' ⟨rfl, ⟨nd, rfl⟩⟩; refine ⟨_, rfl, ?_⟩)
     go_ret3
     exact ⟨by rfl, by repeat (with_reducible first | exact HB.out | apply pw_below_drewN)⟩
   ·replace c13 := Bool.eq_false_iff.mpr c13
    subst c13
    rw [if_neg (show ¬ (false = true) by decide)] at H
    by_cases c19 : 0 ≤ a2
    ·rw [if_pos c19] at H
     have c19b0 : decide (0 ≤ a2) = true := decide_eq_true c19
     clear c19
     by_cases c20 : a2 < (a0_0.size : Int)
     ·rw [if_pos c20] at H
      have c20b0 : decide (a2 < (a0_0.size : Int)) = true := decide_eq_true c20
      clear c20
      by_cases c22 : a3 = (bt a0_0 a2)
      ·rw [if_pos c22] at H
       have c22b0 : (a3 == (bt a0_0 a2)) = true := beq_iff_eq.mpr c22
       have c22b1 : (a3 != (bt a0_0 a2)) = false := bne_eq_false_iff_eq.mpr c22
       clear c22
       obtain ⟨t276, A23, H⟩ := bnd_ H
       try dsimp only at H
       by_cases c24 : t276 = true
       ·subst c24
        rw [if_pos rfl] at H
        obtain ⟨t277, A25, H⟩ := bnd_ H
        try dsimp only at H
        simp only [Option.some.injEq, Prod.mk.injEq] at H
        obtain ⟨rfl, rfl, rfl⟩ := H
        have hcz26_0 := cz0_ BK273
        have hcz26_1 := cz1_ BK273
        have hfz26_0 := blk_frozen BK273.out 0
        have hfz26_1 := blk_frozen BK273.out 1
        have p21 : 0 ≤ (a2 : Int) := of_decide_eq_true (by with_reducible assumption)
        have q21 : a2 < (a0_0.size : Int) := of_decide_eq_true (by with_reducible assumption)
        have hx21 := bt_at a0_0 a2
        replace p21 := eq_true p21
        replace q21 := eq_true q21
        go_wp2_with (first | ((with_reducible refine gate_callee (f := 62) rfl ?_); refine gl_ 66 Try.func62 #[.int .i64 (wrap64 (a1 - 1)), .int .i64 0, .int .i64 (wrap64 ((a0_1.size : Int) - 1))] ?_; (with_reducible refine (spec_l1In.calls (wrap64 (a1 - 1)) 0 (wrap64 ((a0_1.size : Int) - 1)) true _ A23.out).mono ?_); rintro e w' ⟨rfl, ⟨nd, rfl⟩⟩; refine ⟨_, rfl, ?_⟩) | (go_at_call 62; (with_reducible refine (spec_l1In.calls a2 0 (wrap64 ((a0_0.size : Int) - 1)) t277 _ A25.out).mono ?_); rintro e w' ⟨rfl, ⟨nd, rfl⟩⟩))
        go_ret3
        exact ⟨by rfl, by repeat (with_reducible first | exact HB.out | apply pw_below_drewN)⟩
       ·replace c24 := Bool.eq_false_iff.mpr c24
        subst c24
        rw [if_neg (show ¬ (false = true) by decide)] at H
        simp only [Option.some.injEq, Prod.mk.injEq] at H
        obtain ⟨rfl, rfl, rfl⟩ := H
        have hcz27_0 := cz0_ BK273
        have hcz27_1 := cz1_ BK273
        have hfz27_0 := blk_frozen BK273.out 0
        have hfz27_1 := blk_frozen BK273.out 1
        have p21 : 0 ≤ (a2 : Int) := of_decide_eq_true (by with_reducible assumption)
        have q21 : a2 < (a0_0.size : Int) := of_decide_eq_true (by with_reducible assumption)
        have hx21 := bt_at a0_0 a2
        replace p21 := eq_true p21
        replace q21 := eq_true q21
        go_wp2_with ((with_reducible refine gate_callee (f := 62) rfl ?_); refine gl_ 66 Try.func62 #[.int .i64 (wrap64 (a1 - 1)), .int .i64 0, .int .i64 (wrap64 ((a0_1.size : Int) - 1))] ?_; (with_reducible refine (spec_l1In.calls (wrap64 (a1 - 1)) 0 (wrap64 ((a0_1.size : Int) - 1)) false _ A23.out).mono ?_); rintro e w' ⟨rfl, ⟨nd, rfl⟩⟩; refine ⟨_, rfl, ?_⟩)
        go_ret3
        exact ⟨by rfl, by repeat (with_reducible first | exact HB.out | apply pw_below_drewN)⟩
      ·rw [if_neg c22] at H
       have c22b0 : (a3 == (bt a0_0 a2)) = false := beq_eq_false_iff_ne.mpr c22
       have c22b1 : (a3 != (bt a0_0 a2)) = true := bne_iff_ne.mpr c22
       have HC28 := am H
       clear H
       have hcz29_0 := cz0_ BK273
       have hcz29_1 := cz1_ BK273
       have hfz29_0 := blk_frozen BK273.out 0
       have hfz29_1 := blk_frozen BK273.out 1
       have p21 : 0 ≤ (a2 : Int) := of_decide_eq_true (by with_reducible assumption)
       have q21 : a2 < (a0_0.size : Int) := of_decide_eq_true (by with_reducible assumption)
       have hx21 := bt_at a0_0 a2
       replace p21 := eq_true p21
       replace q21 := eq_true q21
       go_upto_region 7 with (fail)
       go_cut [37] (fun v37 wc => ∃ (kq : Nat) (x37_27 : Bool), v37 = .bool x37_27 ∧ Aside0 (spec_owStep.j1 kq a1 a3 a1 a2 x37_27 a0_0 a0_1 = some (r1, r2, r3)) ∧ Aside0 (kq ≤ kj4) ∧ Aside0 (wc.heap[gb273]? = some (.cells #[.string a0_0, .string a0_1] 25 (0, 0))) ∧ Aside0 (Below w.heap.size w wc))
       case first =>
        have H := HC28.out
        clear HC28
        by_cases c30 : 0 ≤ a1
        ·rw [if_pos c30] at H
         have c30b0 : decide (0 ≤ a1) = true := decide_eq_true c30
         clear c30
         (skip)
         by_cases c31 : a1 < (a0_1.size : Int)
         ·rw [if_pos c31] at H
          have c31b0 : decide (a1 < (a0_1.size : Int)) = true := decide_eq_true c31
          clear c31
          by_cases c33 : a3 = (bt a0_1 a1)
          ·rw [if_pos c33] at H
           have c33b0 : (a3 == (bt a0_1 a1)) = true := beq_iff_eq.mpr c33
           have c33b1 : (a3 != (bt a0_1 a1)) = false := bne_eq_false_iff_eq.mpr c33
           clear c33
           have H' := am H
           clear H
           have hcz34_0 := cz0_ BK273
           have hcz34_1 := cz1_ BK273
           have hfz34_0 := blk_frozen BK273.out 0
           have hfz34_1 := blk_frozen BK273.out 1
           have p32 : 0 ≤ (a1 : Int) := of_decide_eq_true (by with_reducible assumption)
           have q32 : a1 < (a0_1.size : Int) := of_decide_eq_true (by with_reducible assumption)
           have hx32 := bt_at a0_1 a1
           replace p32 := eq_true p32
           replace q32 := eq_true q32
           go_wp2
           go_meet
           case rel => exact ⟨_, ((a3 == 110)), (by rfl), H', ⟨by have := HJ4.out; first | omega⟩, ⟨by (with_reducible skip); exact BK273.out⟩, ⟨by exact HB.out⟩⟩
          ·rw [if_neg c33] at H
           have c33b0 : (a3 == (bt a0_1 a1)) = false := beq_eq_false_iff_ne.mpr c33
           have c33b1 : (a3 != (bt a0_1 a1)) = true := bne_iff_ne.mpr c33
           have H' := am H
           clear H
           have hcz35_0 := cz0_ BK273
           have hcz35_1 := cz1_ BK273
           have hfz35_0 := blk_frozen BK273.out 0
           have hfz35_1 := blk_frozen BK273.out 1
           have p32 : 0 ≤ (a1 : Int) := of_decide_eq_true (by with_reducible assumption)
           have q32 : a1 < (a0_1.size : Int) := of_decide_eq_true (by with_reducible assumption)
           have hx32 := bt_at a0_1 a1
           replace p32 := eq_true p32
           replace q32 := eq_true q32
           go_wp2
           go_meet
           case rel => exact ⟨_, (false), (by rfl), H', ⟨by have := HJ4.out; first | omega⟩, ⟨by (with_reducible skip); exact BK273.out⟩, ⟨by exact HB.out⟩⟩
         ·rw [if_neg c31] at H
          exact absurd H (by simp)
        ·rw [if_neg c30] at H
         exact absurd H (by simp)
       case rest =>
        clear HC28
        try clear c19b0
        try clear c20b0
        try clear p21
        try clear q21
        try clear hx21
        try clear c22
        try clear c22b0
        try clear c22b1
        try clear hcz29_0
        try clear hcz29_1
        try clear hfz29_0
        try clear hfz29_1
        obtain ⟨kq, x37_27, rfl, HA, HJ27, BK273, HB⟩ := hcut
        cases kq with
        | zero => exact absurd HA.out (by simp [spec_owStep.j1])
        | succ kj27 =>
         have H := HA.out
         clear HA
         simp only [spec_owStep.j1] at H
         by_cases c36 : x37_27 = true
         ·subst c36
          rw [if_pos rfl] at H
          obtain ⟨t278, A37, H⟩ := bnd_ H
          try dsimp only at H
          by_cases c38 : t278 = true
          ·subst c38
           rw [if_pos rfl] at H
           obtain ⟨t279, A39, H⟩ := bnd_ H
           try dsimp only at H
           simp only [Option.some.injEq, Prod.mk.injEq] at H
           obtain ⟨rfl, rfl, rfl⟩ := H
           have hcz40_0 := cz0_ BK273
           have hcz40_1 := cz1_ BK273
           have hfz40_0 := blk_frozen BK273.out 0
           have hfz40_1 := blk_frozen BK273.out 1
           go_wp2_with (first | ((with_reducible refine gate_callee (f := 62) rfl ?_); refine gl_ 66 Try.func62 #[.int .i64 a1, .int .i64 0, .int .i64 (wrap64 ((a0_1.size : Int) - 1))] ?_; (with_reducible refine (spec_l1In.calls a1 0 (wrap64 ((a0_1.size : Int) - 1)) true _ A37.out).mono ?_); rintro e w' ⟨rfl, ⟨nd, rfl⟩⟩; refine ⟨_, rfl, ?_⟩) | (go_at_call 62; (with_reducible refine (spec_l1In.calls (wrap64 (a2 + 1)) 0 (wrap64 ((a0_0.size : Int) - 1)) t279 _ A39.out).mono ?_); rintro e w' ⟨rfl, ⟨nd, rfl⟩⟩))
           go_ret3
           exact ⟨by rfl, by repeat (with_reducible first | exact HB.out | apply pw_below_drewN)⟩
          ·replace c38 := Bool.eq_false_iff.mpr c38
           subst c38
           rw [if_neg (show ¬ (false = true) by decide)] at H
           simp only [Option.some.injEq, Prod.mk.injEq] at H
           obtain ⟨rfl, rfl, rfl⟩ := H
           have hcz41_0 := cz0_ BK273
           have hcz41_1 := cz1_ BK273
           have hfz41_0 := blk_frozen BK273.out 0
           have hfz41_1 := blk_frozen BK273.out 1
           go_wp2_with ((with_reducible refine gate_callee (f := 62) rfl ?_); refine gl_ 66 Try.func62 #[.int .i64 a1, .int .i64 0, .int .i64 (wrap64 ((a0_1.size : Int) - 1))] ?_; (with_reducible refine (spec_l1In.calls a1 0 (wrap64 ((a0_1.size : Int) - 1)) false _ A37.out).mono ?_); rintro e w' ⟨rfl, ⟨nd, rfl⟩⟩; refine ⟨_, rfl, ?_⟩)
           go_ret3
           exact ⟨by rfl, by repeat (with_reducible first | exact HB.out | apply pw_below_drewN)⟩
         ·replace c36 := Bool.eq_false_iff.mpr c36
          subst c36
          rw [if_neg (show ¬ (false = true) by decide)] at H
          by_cases c42 : 0 ≤ a1
          ·rw [if_pos c42] at H
           have c42b0 : decide (0 ≤ a1) = true := decide_eq_true c42
           clear c42
           by_cases c43 : a1 < (a0_1.size : Int)
           ·rw [if_pos c43] at H
            have c43b0 : decide (a1 < (a0_1.size : Int)) = true := decide_eq_true c43
            clear c43
            by_cases c45 : a3 = (bt a0_1 a1)
            ·rw [if_pos c45] at H
             have c45b0 : (a3 == (bt a0_1 a1)) = true := beq_iff_eq.mpr c45
             have c45b1 : (a3 != (bt a0_1 a1)) = false := bne_eq_false_iff_eq.mpr c45
             clear c45
             obtain ⟨t280, A46, H⟩ := bnd_ H
             try dsimp only at H
             by_cases c47 : t280 = true
             ·subst c47
              rw [if_pos rfl] at H
              obtain ⟨t281, A48, H⟩ := bnd_ H
              try dsimp only at H
              simp only [Option.some.injEq, Prod.mk.injEq] at H
              obtain ⟨rfl, rfl, rfl⟩ := H
              have hcz49_0 := cz0_ BK273
              have hcz49_1 := cz1_ BK273
              have hfz49_0 := blk_frozen BK273.out 0
              have hfz49_1 := blk_frozen BK273.out 1
              have p44 : 0 ≤ (a1 : Int) := of_decide_eq_true (by with_reducible assumption)
              have q44 : a1 < (a0_1.size : Int) := of_decide_eq_true (by with_reducible assumption)
              have hx44 := bt_at a0_1 a1
              replace p44 := eq_true p44
              replace q44 := eq_true q44
              go_wp2_with (first | ((with_reducible refine gate_callee (f := 62) rfl ?_); refine gl_ 66 Try.func62 #[.int .i64 a1, .int .i64 0, .int .i64 (wrap64 ((a0_1.size : Int) - 1))] ?_; (with_reducible refine (spec_l1In.calls a1 0 (wrap64 ((a0_1.size : Int) - 1)) true _ A46.out).mono ?_); rintro e w' ⟨rfl, ⟨nd, rfl⟩⟩; refine ⟨_, rfl, ?_⟩) | (go_at_call 62; (with_reducible refine (spec_l1In.calls (wrap64 (a2 - 1)) 0 (wrap64 ((a0_0.size : Int) - 1)) t281 _ A48.out).mono ?_); rintro e w' ⟨rfl, ⟨nd, rfl⟩⟩))
              go_ret3
              exact ⟨by rfl, by repeat (with_reducible first | exact HB.out | apply pw_below_drewN)⟩
             ·replace c47 := Bool.eq_false_iff.mpr c47
              subst c47
              rw [if_neg (show ¬ (false = true) by decide)] at H
              simp only [Option.some.injEq, Prod.mk.injEq] at H
              obtain ⟨rfl, rfl, rfl⟩ := H
              have hcz50_0 := cz0_ BK273
              have hcz50_1 := cz1_ BK273
              have hfz50_0 := blk_frozen BK273.out 0
              have hfz50_1 := blk_frozen BK273.out 1
              have p44 : 0 ≤ (a1 : Int) := of_decide_eq_true (by with_reducible assumption)
              have q44 : a1 < (a0_1.size : Int) := of_decide_eq_true (by with_reducible assumption)
              have hx44 := bt_at a0_1 a1
              replace p44 := eq_true p44
              replace q44 := eq_true q44
              go_wp2_with ((with_reducible refine gate_callee (f := 62) rfl ?_); refine gl_ 66 Try.func62 #[.int .i64 a1, .int .i64 0, .int .i64 (wrap64 ((a0_1.size : Int) - 1))] ?_; (with_reducible refine (spec_l1In.calls a1 0 (wrap64 ((a0_1.size : Int) - 1)) false _ A46.out).mono ?_); rintro e w' ⟨rfl, ⟨nd, rfl⟩⟩; refine ⟨_, rfl, ?_⟩)
              go_ret3
              exact ⟨by rfl, by repeat (with_reducible first | exact HB.out | apply pw_below_drewN)⟩
            ·rw [if_neg c45] at H
             have c45b0 : (a3 == (bt a0_1 a1)) = false := beq_eq_false_iff_ne.mpr c45
             have c45b1 : (a3 != (bt a0_1 a1)) = true := bne_iff_ne.mpr c45
             simp only [Option.some.injEq, Prod.mk.injEq] at H
             obtain ⟨rfl, rfl, rfl⟩ := H
             have hcz51_0 := cz0_ BK273
             have hcz51_1 := cz1_ BK273
             have hfz51_0 := blk_frozen BK273.out 0
             have hfz51_1 := blk_frozen BK273.out 1
             have p44 : 0 ≤ (a1 : Int) := of_decide_eq_true (by with_reducible assumption)
             have q44 : a1 < (a0_1.size : Int) := of_decide_eq_true (by with_reducible assumption)
             have hx44 := bt_at a0_1 a1
             replace p44 := eq_true p44
             replace q44 := eq_true q44
             go_wp2
             go_ret3
             exact ⟨by rfl, by exact HB.out⟩
           ·rw [if_neg c43] at H
            exact absurd H (by simp)
          ·rw [if_neg c42] at H
           exact absurd H (by simp)
     ·rw [if_neg c20] at H
      exact absurd H (by simp)
    ·rw [if_neg c19] at H
     exact absurd H (by simp)
end Go.Proofs.Ytdhdkkhbgfcoiaa.MX
