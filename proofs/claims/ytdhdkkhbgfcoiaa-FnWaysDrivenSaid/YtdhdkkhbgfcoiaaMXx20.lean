-- The machine side, written by this repo's program mp.py; contracts marked as of this repo are this session's own.
import Derived.Test.YtdhdkkhbgfcoiaaMXx0
import Derived.Test.YtdhdkkhbgfcoiaaMXx7
import Derived.Test.YtdhdkkhbgfcoiaaMXx8
namespace Go.Proofs.Ytdhdkkhbgfcoiaa.MX
open Go.RowKit Go.Proofs.YtdhdkkhbgfcoiaaW.PrintWords Go.Proofs.YtdhdkkhbgfcoiaaW.PrintLast Go.Proofs.YtdhdkkhbgfcoiaaW.PrintMore
attribute [local go_sem] max2_int min2_int max_two min_two max_three min_three max_four min_four   -- for this text's walks alone
set_option maxHeartbeats 8000000
set_option maxRecDepth 100000
set_option linter.unusedVariables false
set_option linter.unusedSimpArgs false
mutual
def spec_DriveWord.j0 : Nat → List Int → ByteArray → Bool → ByteArray → ByteArray → Option (List Int × Bool)
 | 0, _, _, _, _, _ => none
 | k + 1, x1, x2, x27, x396000, x396001 => if x27 = true then (some (([] : List Int), false)) else (if 0 < (x1.length : Int) then (if 1 < (x1.length : Int) then (spec_DriveWord.l0 k x2 (rd x1 0) (rd x1 1) 0 x396000 x396001) else (none)) else (none))
def spec_DriveWord.l0 : Nat → ByteArray → Int → Int → Int → ByteArray → ByteArray → Option (List Int × Bool)
 | 0, _, _, _, _, _, _ => none
 | k + 1, x2, x8, x9, x10, x396000, x396001 => if x10 < (x2.size : Int) then (if 0 ≤ x10 then ((spec_owStep.f k x396000 x396001 x8 x9 (bt x2 x10)).bind fun bt400 => (if bt400.2.2 = true then (spec_DriveWord.l0 k x2 bt400.1 bt400.2.1 (wrap64 (x10 + 1)) x396000 x396001) else (some (([] : List Int), false)))) else (none)) else (some ((([x8, x9] : List Int)), true))
end
def spec_DriveWord.f (k : Nat) (a0_0 : ByteArray) (a0_1 : ByteArray) (l1 : List Int) (a2 : ByteArray) : Option (List Int × Bool) := (spec_owGood.f k a0_0 a0_1).bind fun t396 => (if t396 = true then ((spec_owCorner.f a0_0 a0_1 l1).bind fun t397 => (if t397 = true then (spec_DriveWord.j0 k l1 a2 (decide ((a2.size : Int) > 100)) a0_0 a0_1) else (spec_DriveWord.j0 k l1 a2 true a0_0 a0_1))) else (spec_DriveWord.j0 k l1 a2 true a0_0 a0_1))
def spec_DriveWord.T3 : Bool × List (List Nat × List Nat) := (true, [([], []), ([0], [0]), ([1], [1]), ([], []), ([3], [3]), ([4], [4]), ([2, 0, 1, 2], [2]), ([5, 6, 0, 1, 2, 3, 4, 5, 6], [5])])
def spec_DriveWord.B3 : List Nat := [0, 1, 3, 0, 8, 24, 7, 127]
theorem spec_DriveWord.tab3 : rtab .any (opsOf Try.f23 3) = spec_DriveWord.T3 := by kernel_rfl
theorem spec_DriveWord.bits3 : waitsOk spec_DriveWord.T3.2 spec_DriveWord.B3 = true := by kernel_rfl
def spec_DriveWord.T7 : Bool × List (List Nat × List Nat) := (true, [([], []), ([], []), ([], []), ([], []), ([], []), ([3, 4], [3, 4]), ([0, 1, 2, 5], [0, 1, 2, 5]), ([6], [6]), ([7], [7]), ([7], [7]), ([7], [7]), ([8, 6, 0, 1, 2, 3, 4, 5, 6, 7, 8], [8]), ([9, 11, 0, 1, 2, 3, 4, 5, 6, 7, 8, 9, 11], [9]), ([10, 12, 0, 1, 2, 3, 4, 5, 6, 7, 8, 9, 10, 11, 12], [10])])
def spec_DriveWord.B7 : List Nat := [0, 0, 0, 0, 0, 24, 63, 127, 255, 255, 255, 511, 3071, 8191]
theorem spec_DriveWord.tab7 : rtab .any (opsOf Try.f23 7) = spec_DriveWord.T7 := by kernel_rfl
theorem spec_DriveWord.bits7 : waitsOk spec_DriveWord.T7.2 spec_DriveWord.B7 = true := by kernel_rfl
theorem spec_DriveWord.calls (k : Nat) (a0_0 : ByteArray) (a0_1 : ByteArray) (A1 : Option Addr) (c1 : Nat) (l1 : List Int) (a2 : ByteArray) (r1 : List Int) (r2 : Bool) (w : World) (hr1 : Kd.C (Kd.int .i64) w A1 l1.length l1) (hc1 : l1.length ≤ c1) (h : spec_DriveWord.f k a0_0 a0_1 l1 a2 = some (r1, r2)) :
  Calls Try.prog 23 #[.agg #[.string a0_0, .string a0_1], .slice A1 l1.length c1, .string a2] w fun e w' => ∃ v0_ : Value, e = .returned (.tuple #[v0_, .bool r2]) ∧ Kd.R (Kd.int .i64) 3 w' w.heap.size (fun _ => True) v0_ r1 ∧ Below w.heap.size w w' := by
 have hu25 := Try.underlying25
 have HR1 := am hr1
 have HC1 := am hc1
 clear hr1 hc1
 have HB := am (Below.refl w.heap.size w)
 unfold spec_DriveWord.f at h
 have H := h
 clear h
 have HC4 := am H
 clear H
 go_enter Try.func23, Try.ntmps23
 go_upto_region 1 with ((with_reducible refine gate_dst (N := 3) rfl ?_); (try (refine gate_guard (by rfl) ?_; dsimp only)); refine bx_ 3 (#[.string a0_0, .string a0_1]) 25 ?_; intro gb395 hg w5 hbox hb; have BK395 := am (hbox); have GW395 := am ((by rw [hg]; exact (below_size HB.out) : w.heap.size ≤ gb395)); have GE395 := am ((by rw [hg]; exact (below_size HB.out) : w.heap.size ≤ gb395)); replace HB := am (below_step HB.out hb); clear hb hbox hg)
 go_cut [27] (fun v27 wc => ∃ (kq : Nat) (x27_3 : Bool), v27 = .bool x27_3 ∧ Aside0 (spec_DriveWord.j0 kq l1 a2 x27_3 a0_0 a0_1 = some (r1, r2)) ∧ Aside0 (kq ≤ k) ∧ Aside0 (wc.heap[gb395]? = some (.cells #[.string a0_0, .string a0_1] 25 (0, 0))) ∧ Aside0 (Below w.heap.size w wc))
 case first =>
  have H := HC4.out
  clear HC4
  obtain ⟨t396, A6, H⟩ := bnd_ H
  try dsimp only at H
  by_cases c7 : t396 = true
  ·subst c7
   rw [if_pos rfl] at H
   obtain ⟨t397, A8, H⟩ := bnd_ H
   try dsimp only at H
   by_cases c9 : t397 = true
   ·subst c9
    rw [if_pos rfl] at H
    have H' := am H
    clear H
    have hcz10_0 := cz0_ BK395
    have hcz10_1 := cz1_ BK395
    have hfz10_0 := blk_frozen BK395.out 0
    have hfz10_1 := blk_frozen BK395.out 1
    go_wp2_with (first | ((with_reducible refine gate_callee (f := 49) rfl ?_); refine gl_ 15 Try.func49 #[.agg #[.string a0_0, .string a0_1]] ?_; (with_reducible refine (spec_owGood.calls k a0_0 a0_1 true _ A6.out).mono ?_); rintro e w11 ⟨rfl, hb⟩; refine ⟨_, rfl, ?_⟩; replace BK395 := am (blk_below BK395.out hb); replace HB := am (below_step HB.out hb); (try clear hb); have hcz12_0 := cz0_ BK395; have hcz12_1 := cz1_ BK395; have hfz12_0 := blk_frozen BK395.out 0; have hfz12_1 := blk_frozen BK395.out 1) | (go_at_call 50; (with_reducible refine (spec_owCorner.calls a0_0 a0_1 _ _ l1 true _ ((Kd.C_below HR1.out HB.out)) ?side2 A8.out).mono ?_); (case side2 => exact HC1.out); rintro e w13 ⟨rfl, hb⟩; replace BK395 := am (blk_below BK395.out hb); replace HB := am (below_step HB.out hb); (try clear hb)))
    go_meet
    case rel => exact ⟨_, (decide ((a2.size : Int) > 100)), (by rfl), H', ⟨by omega⟩, ⟨by (with_reducible skip); exact BK395.out⟩, ⟨by exact HB.out⟩⟩
   ·replace c9 := Bool.eq_false_iff.mpr c9
    subst c9
    rw [if_neg (show ¬ (false = true) by decide)] at H
    have H' := am H
    clear H
    have hcz14_0 := cz0_ BK395
    have hcz14_1 := cz1_ BK395
    have hfz14_0 := blk_frozen BK395.out 0
    have hfz14_1 := blk_frozen BK395.out 1
    go_wp2_with (first | ((with_reducible refine gate_callee (f := 49) rfl ?_); refine gl_ 15 Try.func49 #[.agg #[.string a0_0, .string a0_1]] ?_; (with_reducible refine (spec_owGood.calls k a0_0 a0_1 true _ A6.out).mono ?_); rintro e w15 ⟨rfl, hb⟩; refine ⟨_, rfl, ?_⟩; replace BK395 := am (blk_below BK395.out hb); replace HB := am (below_step HB.out hb); (try clear hb); have hcz16_0 := cz0_ BK395; have hcz16_1 := cz1_ BK395; have hfz16_0 := blk_frozen BK395.out 0; have hfz16_1 := blk_frozen BK395.out 1) | (go_at_call 50; (with_reducible refine (spec_owCorner.calls a0_0 a0_1 _ _ l1 false _ ((Kd.C_below HR1.out HB.out)) ?side2 A8.out).mono ?_); (case side2 => exact HC1.out); rintro e w17 ⟨rfl, hb⟩; replace BK395 := am (blk_below BK395.out hb); replace HB := am (below_step HB.out hb); (try clear hb)))
    go_meet
    case rel => exact ⟨_, (true), (by rfl), H', ⟨by omega⟩, ⟨by (with_reducible skip); exact BK395.out⟩, ⟨by exact HB.out⟩⟩
  ·replace c7 := Bool.eq_false_iff.mpr c7
   subst c7
   rw [if_neg (show ¬ (false = true) by decide)] at H
   have H' := am H
   clear H
   have hcz18_0 := cz0_ BK395
   have hcz18_1 := cz1_ BK395
   have hfz18_0 := blk_frozen BK395.out 0
   have hfz18_1 := blk_frozen BK395.out 1
   go_wp2_with ((with_reducible refine gate_callee (f := 49) rfl ?_); refine gl_ 15 Try.func49 #[.agg #[.string a0_0, .string a0_1]] ?_; (with_reducible refine (spec_owGood.calls k a0_0 a0_1 false _ A6.out).mono ?_); rintro e w19 ⟨rfl, hb⟩; refine ⟨_, rfl, ?_⟩; replace BK395 := am (blk_below BK395.out hb); replace HB := am (below_step HB.out hb); (try clear hb))
   go_meet
   case rel => exact ⟨_, (true), (by rfl), H', ⟨by omega⟩, ⟨by (with_reducible skip); exact BK395.out⟩, ⟨by exact HB.out⟩⟩
 case rest =>
  clear HC4
  obtain ⟨kq, x27_3, rfl, HA, HJ3, BK395, HB⟩ := hcut
  cases kq with
  | zero => exact absurd HA.out (by simp [spec_DriveWord.j0])
  | succ kj3 =>
   have H := HA.out
   clear HA
   simp only [spec_DriveWord.j0] at H
   by_cases c20 : x27_3 = true
   ·subst c20
    rw [if_pos rfl] at H
    simp only [Option.some.injEq, Prod.mk.injEq] at H
    obtain ⟨rfl, rfl⟩ := H
    go_wp2
    go_ret2
    exact ⟨_, by first | rfl, by exact Kd.R_nil _ _ _ _ _, by exact HB.out⟩
   ·replace c20 := Bool.eq_false_iff.mpr c20
    subst c20
    rw [if_neg (show ¬ (false = true) by decide)] at H
    by_cases c21 : 0 < (l1.length : Int)
    ·rw [if_pos c21] at H
     have c21b0 : decide (0 < (l1.length : Int)) = true := decide_eq_true c21
     have c21b1 : decide (0 < l1.length) = true := decide_eq_true (by omega)
     clear c21
     by_cases c22 : 1 < (l1.length : Int)
     ·rw [if_pos c22] at H
      have c22b0 : decide (1 < (l1.length : Int)) = true := decide_eq_true c22
      have c22b1 : decide (1 < l1.length) = true := decide_eq_true (by omega)
      clear c22
      have H' := am H
      clear H
      try go_wp2
      replace BK395 := am (blk_drew BK395.out)
      replace HB := am (below_drew1 HB.out)
      have p398 : 0 ≤ (0 : Int) := (by omega)
      have q398 : 0 < (l1.length : Int) := of_decide_eq_true (by with_reducible assumption)
      obtain ⟨ad398, e398, hx398_0⟩ := Kd.at_int HR1.out 0 p398 q398
      have hw398_0 := hx398_0
      (try rw [show ((0 : Int)).toNat = 0 from rfl] at hw398_0)
      (try rw [Addr.add_zero'] at hw398_0)
      cases e398
      have qi398 : (0 < l1.length) = True := eq_true (by omega)
      (try rw [show ((0 : Int)).toNat = 0 from rfl] at hx398_0)
      (try rw [Addr.add_zero'] at hx398_0)
      replace hx398_0 := (HB.out.cell (World.block_lt_of_cell? w _ hx398_0)).trans hx398_0
      replace p398 := eq_true p398
      replace q398 := eq_true q398
      have p399 : 0 ≤ (1 : Int) := (by omega)
      have q399 : 1 < (l1.length : Int) := of_decide_eq_true (by with_reducible assumption)
      obtain ⟨ad399, e399, hx399_0⟩ := Kd.at_int HR1.out 1 p399 q399
      have hw399_0 := hx399_0
      (try rw [show ((1 : Int)).toNat = 1 from rfl] at hw399_0)
      (try simp only [Nat.reduceMul, Nat.reduceEqDiff, Go.Addr.add, ↓reduceIte] at hw399_0)
      obtain rfl : ad398 = ad399 := (by injection e399)
      (try simp only [show (1 : Int).toNat = 1 from rfl, Nat.reduceMul, Nat.reduceEqDiff, Go.Addr.add, ↓reduceIte] at hx399_0)
      have qi399 : (1 < l1.length) = True := eq_true (by omega)
      replace hx399_0 := (HB.out.cell (World.block_lt_of_cell? w _ hx399_0)).trans hx399_0
      replace p399 := eq_true p399
      replace q399 := eq_true q399
      refine start_ (n := 8) (S := fun w' => w'.cell? ad398 = some (.int .i64 (rd l1 0)) ∧ w'.cell? ⟨ad398.block, ad398.off + 1, none⟩ = some (.int .i64 (rd l1 1))) (ds := []) #[false, false, false, false, false, false, false, false] (by kernel_rfl) rfl rfl ⟨((HB.out.cell (World.block_lt_of_cell? w _ hw398_0)).trans hw398_0), ((HB.out.cell (World.block_lt_of_cell? w _ hw399_0)).trans hw399_0)⟩ (fun hHeld => ?_); refine with_tabW spec_DriveWord.tab3 spec_DriveWord.bits3 (fun HT_ HW_ => ?_)
      generalize wc.drew = w23 at BK395 HB hx398_0 hx399_0 hHeld ⊢
      refine pu_ 0 28 (fl_ 8 1) HT_ ?_
      refine pu_ 1 29 (fl_ 8 3) HT_ ?_
      refine pu_ 3 31 (fl_ 8 11) HT_ ?_
      refine pu_ 4 32 (fl_ 8 27) HT_ ?_
      refine tk_ 2 30 (fl_ 8 31) HT_ HW_ hHeld ?_ (hy := by rintro w' ⟨s0, s1⟩; go_simp; with_reducible rfl)
      refine pu_ 6 8 (fl_ 8 95) HT_ ?_
      refine tk_ 5 33 (fl_ 8 127) HT_ HW_ hHeld ?_ (hy := by rintro w' ⟨s0, s1⟩; go_simp; with_reducible rfl)
      refine pu_ 7 9 (fl_ 8 255) HT_ ?_
      refine done_ (done_of HT_.out (by kernel_rfl)) ?_
      try go_wp2
      go_loopg [8, 9, 10] kj3 (fun kq v8 v9 v10 w' => ∃ (x8_2 : Int) (x9_2 : Int) (x10_2 : Int), v8 = .int .i64 x8_2 ∧ v9 = .int .i64 x9_2 ∧ v10 = .int .i64 x10_2 ∧ Aside0 (spec_DriveWord.l0 kq a2 x8_2 x9_2 x10_2 a0_0 a0_1 = some (r1, r2)) ∧ Aside0 (kq ≤ kj3) ∧ Aside0 (w'.heap[gb395]? = some (.cells #[.string a0_0, .string a0_1] 25 (0, 0))) ∧ Aside0 (Below w.heap.size w w'))
      case atStart => exact ⟨(rd l1 0), (rd l1 1), (0), (by rfl), (by rfl), (by rfl), H', ⟨Nat.le_refl _⟩, ⟨by (with_reducible skip); exact BK395.out⟩, ⟨by exact HB.out⟩⟩
      case round =>
       clear H'
       try clear c21b0
       try clear c21b1
       try clear c22b0
       try clear c22b1
       try clear hx398_0
       try clear hx399_0
       try clear p398
       try clear p399
       try clear q398
       try clear q399
       obtain ⟨x8_2, x9_2, x10_2, rfl, rfl, rfl, HA, HK2, BK395, HB⟩ := hrel
       cases gk with
       | zero => exact absurd HA.out (by simp [spec_DriveWord.l0])
       | succ k2 =>
        have H := HA.out
        clear HA
        simp only [spec_DriveWord.l0] at H
        by_cases c24 : x10_2 < (a2.size : Int)
        ·rw [if_pos c24] at H
         have c24b0 : decide (x10_2 < (a2.size : Int)) = true := decide_eq_true c24
         clear c24
         by_cases c25 : 0 ≤ x10_2
         ·rw [if_pos c25] at H
          have c25b0 : decide (0 ≤ x10_2) = true := decide_eq_true c25
          clear c25
          obtain ⟨⟨t400, t401, t402⟩, A27, H⟩ := bnd_ H
          try dsimp only at H
          by_cases c28 : t402 = true
          ·subst c28
           rw [if_pos rfl] at H
           have H' := am H
           clear H
           try go_wp2
           replace BK395 := am (blk_drew BK395.out)
           replace HB := am (below_drew1 HB.out)
           have p26 : 0 ≤ (x10_2 : Int) := of_decide_eq_true (by with_reducible assumption)
           have q26 : x10_2 < (a2.size : Int) := of_decide_eq_true (by with_reducible assumption)
           have hx26 := bt_at a2 x10_2
           replace p26 := eq_true p26
           replace q26 := eq_true q26
           refine start_ (n := 14) (S := fun w' => w'.cell? ⟨gb395, 0, none⟩ = some (.string a0_0) ∧ w'.cell? ⟨gb395, 1, none⟩ = some (.string a0_1)) (ds := []) #[false, false, false, false, false, false, false, false, false, false, false, false, false, false] (by kernel_rfl) rfl rfl ⟨(blk_cell BK395.out 0).trans rfl, (blk_cell BK395.out 1).trans rfl⟩ (fun hHeld => ?_); refine with_tabW spec_DriveWord.tab7 spec_DriveWord.bits7 (fun HT_ HW_ => ?_)
           generalize wr.drew = w29 at BK395 HB hHeld ⊢
           refine pu_ 1 42 (fl_ 14 2) HT_ ?_
           refine pu_ 2 43 (fl_ 14 6) HT_ ?_
           refine pu_ 3 44 (fl_ 14 14) HT_ ?_
           refine pu_ 4 45 (fl_ 14 30) HT_ ?_
           refine tk_ 0 41 (fl_ 14 31) HT_ HW_ hHeld ?_ (hy := by rintro w' ⟨s0, s1⟩; go_simp; with_reducible rfl)
           refine tk_ 5 46 (fl_ 14 63) HT_ HW_ hHeld ?_ (hy := by rintro w' ⟨s0, s1⟩; go_simp; with_reducible rfl)
           refine on_ 6 47 (fl_ 14 127) HT_ fun K hK => ?_
           refine gs_ Try.func37 #[.agg #[.string a0_0, .string a0_1], .int .i64 x8_2, .int .i64 x9_2, .int .u8 (bt a2 x10_2)] ?_
           with_reducible refine (spec_owStep.calls k2 a0_0 a0_1 x8_2 x9_2 (bt a2 x10_2) t400 t401 true _ A27.out).mono ?_
           rintro e w30 ⟨rfl, hb⟩
           refine ⟨_, rfl, ?_⟩
           replace BK395 := am (blk_below BK395.out hb)
           replace HB := am (below_step HB.out hb)
           (try clear hb)
           refine hK.out _ _ ⟨(blk_cell BK395.out 0).trans rfl, (blk_cell BK395.out 1).trans rfl⟩ (fun hHeld => ?_)
           clear hK K
           refine nm_ 47 ?_
           refine pu_ 7 40 (fl_ 14 255) HT_ ?_
           refine pu_ 8 48 (fl_ 14 511) HT_ ?_
           refine pu_ 9 49 (fl_ 14 1023) HT_ ?_
           refine pu_ 10 50 (fl_ 14 2047) HT_ ?_
           refine pu_ 11 11 (fl_ 14 4095) HT_ ?_
           refine pu_ 12 12 (fl_ 14 8191) HT_ ?_
           refine pu_ 13 13 (fl_ 14 16383) HT_ ?_
           refine done_ (done_of HT_.out (by kernel_rfl)) ?_
           try go_wp2
           go_roundg k2
           case measure => have := HJ3.out; have := HK2.out; omega
           case rel => exact ⟨(t400), (t401), (wrap64 (x10_2 + 1)), (by rfl), (by rfl), (by rfl), H', ⟨by have := HJ3.out; have := HK2.out; omega⟩, ⟨by (with_reducible skip); exact BK395.out⟩, ⟨by exact HB.out⟩⟩
          ·replace c28 := Bool.eq_false_iff.mpr c28
           subst c28
           rw [if_neg (show ¬ (false = true) by decide)] at H
           simp only [Option.some.injEq, Prod.mk.injEq] at H
           obtain ⟨rfl, rfl⟩ := H
           try go_wp2
           replace BK395 := am (blk_drew BK395.out)
           replace HB := am (below_drew1 HB.out)
           have p26 : 0 ≤ (x10_2 : Int) := of_decide_eq_true (by with_reducible assumption)
           have q26 : x10_2 < (a2.size : Int) := of_decide_eq_true (by with_reducible assumption)
           have hx26 := bt_at a2 x10_2
           replace p26 := eq_true p26
           replace q26 := eq_true q26
           refine start_ (n := 14) (S := fun w' => w'.cell? ⟨gb395, 0, none⟩ = some (.string a0_0) ∧ w'.cell? ⟨gb395, 1, none⟩ = some (.string a0_1)) (ds := []) #[false, false, false, false, false, false, false, false, false, false, false, false, false, false] (by kernel_rfl) rfl rfl ⟨(blk_cell BK395.out 0).trans rfl, (blk_cell BK395.out 1).trans rfl⟩ (fun hHeld => ?_); refine with_tabW spec_DriveWord.tab7 spec_DriveWord.bits7 (fun HT_ HW_ => ?_)
           generalize wr.drew = w31 at BK395 HB hHeld ⊢
           refine pu_ 1 42 (fl_ 14 2) HT_ ?_
           refine pu_ 2 43 (fl_ 14 6) HT_ ?_
           refine pu_ 3 44 (fl_ 14 14) HT_ ?_
           refine pu_ 4 45 (fl_ 14 30) HT_ ?_
           refine tk_ 0 41 (fl_ 14 31) HT_ HW_ hHeld ?_ (hy := by rintro w' ⟨s0, s1⟩; go_simp; with_reducible rfl)
           refine tk_ 5 46 (fl_ 14 63) HT_ HW_ hHeld ?_ (hy := by rintro w' ⟨s0, s1⟩; go_simp; with_reducible rfl)
           refine on_ 6 47 (fl_ 14 127) HT_ fun K hK => ?_
           refine gs_ Try.func37 #[.agg #[.string a0_0, .string a0_1], .int .i64 x8_2, .int .i64 x9_2, .int .u8 (bt a2 x10_2)] ?_
           with_reducible refine (spec_owStep.calls k2 a0_0 a0_1 x8_2 x9_2 (bt a2 x10_2) t400 t401 false _ A27.out).mono ?_
           rintro e w32 ⟨rfl, hb⟩
           refine ⟨_, rfl, ?_⟩
           replace BK395 := am (blk_below BK395.out hb)
           replace HB := am (below_step HB.out hb)
           (try clear hb)
           refine hK.out _ _ ⟨(blk_cell BK395.out 0).trans rfl, (blk_cell BK395.out 1).trans rfl⟩ (fun hHeld => ?_)
           clear hK K
           refine nm_ 47 ?_
           refine pu_ 7 40 (fl_ 14 255) HT_ ?_
           refine pu_ 8 48 (fl_ 14 511) HT_ ?_
           refine pu_ 9 49 (fl_ 14 1023) HT_ ?_
           refine pu_ 10 50 (fl_ 14 2047) HT_ ?_
           refine pu_ 11 11 (fl_ 14 4095) HT_ ?_
           refine pu_ 12 12 (fl_ 14 8191) HT_ ?_
           refine pu_ 13 13 (fl_ 14 16383) HT_ ?_
           refine done_ (done_of HT_.out (by kernel_rfl)) ?_
           try go_wp2
           go_ret2
           exact ⟨_, by first | rfl, by exact Kd.R_nil _ _ _ _ _, by exact HB.out⟩
         ·rw [if_neg c25] at H
          exact absurd H (by simp)
        ·rw [if_neg c24] at H
         have c24b0 : decide (x10_2 < (a2.size : Int)) = false := decide_eq_false c24
         clear c24
         obtain ⟨y403, hy403⟩ : ∃ y_ : List Int, y_ = (([x8_2, x9_2] : List Int)) := ⟨_, rfl⟩
         rw [← hy403] at H
         have Ny403 := am hy403
         clear hy403
         simp only [Option.some.injEq, Prod.mk.injEq] at H
         obtain ⟨rfl, rfl⟩ := H
         go_wp2_with ((with_reducible refine gate_dst (N := 57) rfl ?_); (try (refine gate_guard (by rfl) ?_; dsimp only)); refine Kd.R_lit (Kd.int .i64) _ 3 ?hg (N := 57) ?hd (xs := ([x8_2, x9_2] : List Int)) (inner := [.int .i64 x8_2, .int .i64 x9_2]) (ok := fun _ => True) (okp := fun _ => True) ?hr ?hp (fun _ hk => hk) trivial (Below.refl _ _) (Nat.le_refl _) (by simp) ?_; (case hd => rfl); (case hg => rfl); (case hr => go_simp; done); (case hp => exact (Reps.one (show Kd.M (Kd.int .i64) _ _ _ x8_2 [.int .i64 x8_2] from rfl) (Reps.one (show Kd.M (Kd.int .i64) _ _ _ x9_2 [.int .i64 x9_2] from rfl) (Reps.none _ _)))); intro v404 w33 ho34 hb hg_ hnew_; clear hg_ hnew_; (rw [← Ny403.out] at ho34); have HO405 := am (Kd.R_lower ho34 (below_size HB.out)); replace BK395 := am (blk_below BK395.out hb); replace HB := am (below_step HB.out hb); clear hb ho34)
         go_ret2
         exact ⟨_, by rfl, by (with_reducible skip); exact HO405.out, by exact HB.out⟩
     ·rw [if_neg c22] at H
      exact absurd H (by simp)
    ·rw [if_neg c21] at H
     exact absurd H (by simp)
end Go.Proofs.Ytdhdkkhbgfcoiaa.MX
