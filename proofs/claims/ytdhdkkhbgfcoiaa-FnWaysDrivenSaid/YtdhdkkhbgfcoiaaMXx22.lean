-- The machine side, written by this repo's program mp.py; contracts marked as of this repo are this session's own.
import Derived.Test.YtdhdkkhbgfcoiaaMXx0
import Derived.Test.YtdhdkkhbgfcoiaaMXx21
namespace Go.Proofs.Ytdhdkkhbgfcoiaa.MX
open Go.RowKit Go.Proofs.YtdhdkkhbgfcoiaaW.PrintWords Go.Proofs.YtdhdkkhbgfcoiaaW.PrintLast Go.Proofs.YtdhdkkhbgfcoiaaW.PrintMore
attribute [local go_sem] max2_int min2_int max_two min_two max_three min_three max_four min_four   -- for this text's walks alone
set_option maxHeartbeats 8000000
set_option maxRecDepth 100000
set_option linter.unusedVariables false
set_option linter.unusedSimpArgs false
def spec_owWay.f (a0 : Int) : Option (Int) := if a0 = 101 then some 0 else (if a0 = 110 then some 1 else (if a0 = 119 then some 2 else (if a0 = 115 then some 3 else some (-1))))
def spec_owWay.Nb (a0 : Int) (k : Nat) : Prop := (0 < k → a0 ≠ 101) ∧ (1 < k → a0 ≠ 110) ∧ (2 < k → a0 ≠ 119) ∧ (3 < k → a0 ≠ 115)
theorem spec_owWay.at0 {a0 r : Int} (h : spec_owWay.f a0 = some r) (c : a0 = 101) : r = 0 := by subst c; simpa [spec_owWay.f] using h.symm
theorem spec_owWay.at1 {a0 r : Int} (h : spec_owWay.f a0 = some r) (c : a0 = 110) : r = 1 := by subst c; simpa [spec_owWay.f] using h.symm
theorem spec_owWay.at2 {a0 r : Int} (h : spec_owWay.f a0 = some r) (c : a0 = 119) : r = 2 := by subst c; simpa [spec_owWay.f] using h.symm
theorem spec_owWay.at3 {a0 r : Int} (h : spec_owWay.f a0 = some r) (c : a0 = 115) : r = 3 := by subst c; simpa [spec_owWay.f] using h.symm
theorem spec_owWay.at4 {a0 r : Int} (h : spec_owWay.f a0 = some r) (c : spec_owWay.Nb a0 4) : r = -1 := by
 obtain ⟨c1, c2, c3, c4⟩ := c
 unfold spec_owWay.f at h
 rw [if_neg (c1 (by omega)), if_neg (c2 (by omega)), if_neg (c3 (by omega)), if_neg (c4 (by omega))] at h
 exact (Option.some.inj h).symm
theorem spec_owWay.calls (a0 : Int) (r : Int) (w : World) (h : spec_owWay.f a0 = some r) :
  Calls Try.prog 55 #[.int .u8 a0] w fun e w' => e = .returned (.int .i64 r) ∧ Below w.heap.size w w' := by
 have H := am h
 clear h
 have kc := fun (w : World) (C : Array Value) (n c : Nat) => Go.Lib.run_convert_bytes_const (P := Try.prog) w 22 5 C n c Try.underlying22 Try.underlying5
 have f0 : (w.alloc (Obj.cells #[Value.int IntKind.u8 101, Value.int IntKind.u8 110, Value.int IntKind.u8 119, Value.int IntKind.u8 115] 5 (4, 5))).cell? ⟨w.heap.size, 0, none⟩ = some (.int .u8 101) := by rw [World.cell?_alloc_mark]; rfl
 have f1 : (w.alloc (Obj.cells #[Value.int IntKind.u8 101, Value.int IntKind.u8 110, Value.int IntKind.u8 119, Value.int IntKind.u8 115] 5 (4, 5))).cell? ⟨w.heap.size, 1, none⟩ = some (.int .u8 110) := by rw [World.cell?_alloc_mark]; rfl
 have f2 : (w.alloc (Obj.cells #[Value.int IntKind.u8 101, Value.int IntKind.u8 110, Value.int IntKind.u8 119, Value.int IntKind.u8 115] 5 (4, 5))).cell? ⟨w.heap.size, 2, none⟩ = some (.int .u8 119) := by rw [World.cell?_alloc_mark]; rfl
 have f3 : (w.alloc (Obj.cells #[Value.int IntKind.u8 101, Value.int IntKind.u8 110, Value.int IntKind.u8 119, Value.int IntKind.u8 115] 5 (4, 5))).cell? ⟨w.heap.size, 3, none⟩ = some (.int .u8 115) := by rw [World.cell?_alloc_mark]; rfl
 go_enter Try.func55, Try.ntmps55
 go_wp2
 go_loop [8] (fun i => ∃ k : Nat, k ≤ 4 ∧ i = .int .i64 k ∧ Aside0 (spec_owWay.Nb a0 k)) (fun i => 4 - (intOf i).toNat)
 case atStart => exact ⟨0, by omega, rfl, ⟨by unfold spec_owWay.Nb; omega⟩⟩
 case round =>
  obtain ⟨k, hk, rfl, hN⟩ := hrel
  clear kc
  have bel := (Below.refl w.heap.size w).alloc (Nat.le_refl _) (Obj.cells #[Value.int IntKind.u8 101, Value.int IntKind.u8 110, Value.int IntKind.u8 119, Value.int IntKind.u8 115] 5 (4, 5))
  have B := am bel
  clear bel
  rcases (show k = 0 ∨ k = 1 ∨ k = 2 ∨ k = 3 ∨ k = 4 by omega) with rfl | rfl | rfl | rfl | rfl
  ·by_cases c : a0 = 101
   ·have R := am (spec_owWay.at0 H.out c)
    have cb : (a0 == 101) = true := beq_iff_eq.2 c
    clear c hk
    go_wp2
    go_ret
    exact ⟨by rw [R.out]; rfl, B.out⟩
   ·have N := am (show spec_owWay.Nb a0 1 from ⟨fun _ => c, fun h => by omega, fun h => by omega, fun h => by omega⟩)
    have cb : (a0 == 101) = false := beq_eq_false_iff_ne.2 c
    clear c hk
    go_wp2
    go_round
    case rel => exact ⟨1, by omega, rfl, N⟩
    case measure => simp [intOf]
  ·by_cases c : a0 = 110
   ·have R := am (spec_owWay.at1 H.out c)
    have cb : (a0 == 110) = true := beq_iff_eq.2 c
    clear c hk
    go_wp2
    go_ret
    exact ⟨by rw [R.out]; rfl, B.out⟩
   ·have N := am (show spec_owWay.Nb a0 2 from ⟨fun _ => hN.out.1 (by omega), fun _ => c, fun h => by omega, fun h => by omega⟩)
    have cb : (a0 == 110) = false := beq_eq_false_iff_ne.2 c
    clear c hk
    go_wp2
    go_round
    case rel => exact ⟨2, by omega, rfl, N⟩
    case measure => simp [intOf]
  ·by_cases c : a0 = 119
   ·have R := am (spec_owWay.at2 H.out c)
    have cb : (a0 == 119) = true := beq_iff_eq.2 c
    clear c hk
    go_wp2
    go_ret
    exact ⟨by rw [R.out]; rfl, B.out⟩
   ·have N := am (show spec_owWay.Nb a0 3 from ⟨fun _ => hN.out.1 (by omega), fun _ => hN.out.2.1 (by omega), fun _ => c, fun h => by omega⟩)
    have cb : (a0 == 119) = false := beq_eq_false_iff_ne.2 c
    clear c hk
    go_wp2
    go_round
    case rel => exact ⟨3, by omega, rfl, N⟩
    case measure => simp [intOf]
  ·by_cases c : a0 = 115
   ·have R := am (spec_owWay.at3 H.out c)
    have cb : (a0 == 115) = true := beq_iff_eq.2 c
    clear c hk
    go_wp2
    go_ret
    exact ⟨by rw [R.out]; rfl, B.out⟩
   ·have N := am (show spec_owWay.Nb a0 4 from ⟨fun _ => hN.out.1 (by omega), fun _ => hN.out.2.1 (by omega), fun _ => hN.out.2.2.1 (by omega), fun _ => c⟩)
    have cb : (a0 == 115) = false := beq_eq_false_iff_ne.2 c
    clear c hk
    go_wp2
    go_round
    case rel => exact ⟨4, by omega, rfl, N⟩
    case measure => simp [intOf]
  ·have R := am (spec_owWay.at4 H.out hN.out)
   clear hk
   go_wp2
   go_ret
   exact ⟨by rw [R.out]; rfl, B.out⟩
def spec_TurnsOfWord.l0 : Nat → ByteArray → Int → Int → Int → Option (Int × Int × Bool)
 | 0, _, _, _, _ => none
 | k + 1, x0, x5, x6, x7 => if x7 < (x0.size : Int) then (if 0 ≤ x7 then ((spec_owSign.f (bt x0 x7)).bind fun t442 => (if t442 = true then (if x7 = 0 then (spec_TurnsOfWord.l0 k x0 x5 x6 (wrap64 (x7 + 1))) else ((spec_owWay.f (bt x0 x7)).bind fun t443 => (if 0 ≤ (wrap64 (x7 - 1)) then (if (wrap64 (x7 - 1)) < (x0.size : Int) then ((spec_owWay.f (bt x0 (wrap64 (x7 - 1)))).bind fun t444 => (if (Int.tmod (wrap64 ((wrap64 (4 + t443)) - t444)) 4) = 1 then (spec_TurnsOfWord.l0 k x0 (wrap64 (x5 + 1)) x6 (wrap64 (x7 + 1))) else (if (Int.tmod (wrap64 ((wrap64 (4 + t443)) - t444)) 4) = 2 then (some (0, 0, false)) else (if (Int.tmod (wrap64 ((wrap64 (4 + t443)) - t444)) 4) = 3 then (spec_TurnsOfWord.l0 k x0 x5 (wrap64 (x6 + 1)) (wrap64 (x7 + 1))) else (spec_TurnsOfWord.l0 k x0 x5 x6 (wrap64 (x7 + 1))))))) else (none)) else (none)))) else (some (0, 0, false)))) else (none)) else (some (x5, x6, true))
def spec_TurnsOfWord.f (k : Nat) (a0 : ByteArray) : Option (Int × Int × Bool) := if (a0.size : Int) > 100 then (some (0, 0, false)) else (spec_TurnsOfWord.l0 k a0 0 0 0)
def spec_TurnsOfWord.T10 : Bool × List (List Nat × List Nat) := (true, [([], []), ([], []), ([0, 1], [0, 1]), ([2], [2]), ([3], [3]), ([], []), ([], []), ([6], [6]), ([5, 7], [5, 7]), ([8, 3], [8]), ([4, 9], [4, 9]), ([10], [10])])
def spec_TurnsOfWord.B10 : List Nat := [0, 0, 3, 7, 15, 0, 0, 64, 224, 495, 1023, 2047]
theorem spec_TurnsOfWord.tab10 : rtab .any (opsOf Try.f27 10) = spec_TurnsOfWord.T10 := by kernel_rfl
theorem spec_TurnsOfWord.bits10 : waitsOk spec_TurnsOfWord.T10.2 spec_TurnsOfWord.B10 = true := by kernel_rfl
theorem spec_TurnsOfWord.calls (k : Nat) (a0 : ByteArray) (r1 : Int) (r2 : Int) (r3 : Bool) (w : World) (h : spec_TurnsOfWord.f k a0 = some (r1, r2, r3)) :
  Calls Try.prog 27 #[.string a0] w fun e w' => e = .returned (.tuple #[.int .i64 r1, .int .i64 r2, .bool r3]) ∧ Below w.heap.size w w' := by
 have HB := am (Below.refl w.heap.size w)
 unfold spec_TurnsOfWord.f at h
 have H := h
 clear h
 by_cases c2 : (a0.size : Int) > 100
 ·rw [if_pos c2] at H
  have c2b0 : decide (100 < (a0.size : Int)) = true := decide_eq_true c2
  have c2b1 : decide (100 < a0.size) = true := decide_eq_true (by omega)
  clear c2
  simp only [Option.some.injEq, Prod.mk.injEq] at H
  obtain ⟨rfl, rfl, rfl⟩ := H
  go_enter Try.func27, Try.ntmps27
  go_wp2
  go_ret3
  exact ⟨by rfl, by exact HB.out⟩
 ·rw [if_neg c2] at H
  have c2b0 : decide (100 < (a0.size : Int)) = false := decide_eq_false c2
  have c2b1 : decide (100 < a0.size) = false := decide_eq_false (by omega)
  clear c2
  have H' := am H
  clear H
  go_enter Try.func27, Try.ntmps27
  go_wp2
  go_loopg [5, 6, 7] k (fun kq v5 v6 v7 w' => ∃ (x5_1 : Int) (x6_1 : Int) (x7_1 : Int), v5 = .int .i64 x5_1 ∧ v6 = .int .i64 x6_1 ∧ v7 = .int .i64 x7_1 ∧ Aside0 (spec_TurnsOfWord.l0 kq a0 x5_1 x6_1 x7_1 = some (r1, r2, r3)) ∧ Aside0 (kq ≤ k) ∧ Aside0 (Below w.heap.size w w'))
  case atStart => exact ⟨(0), (0), (0), (by rfl), (by rfl), (by rfl), H', ⟨Nat.le_refl _⟩, ⟨by exact HB.out⟩⟩
  case round =>
   clear H'
   try clear c2b0
   try clear c2b1
   obtain ⟨x5_1, x6_1, x7_1, rfl, rfl, rfl, HA, HK1, HB⟩ := hrel
   cases gk with
   | zero => exact absurd HA.out (by simp [spec_TurnsOfWord.l0])
   | succ k1 =>
    have H := HA.out
    clear HA
    simp only [spec_TurnsOfWord.l0] at H
    by_cases c3 : x7_1 < (a0.size : Int)
    ·rw [if_pos c3] at H
     have c3b0 : decide (x7_1 < (a0.size : Int)) = true := decide_eq_true c3
     clear c3
     by_cases c4 : 0 ≤ x7_1
     ·rw [if_pos c4] at H
      have c4b0 : decide (0 ≤ x7_1) = true := decide_eq_true c4
      clear c4
      obtain ⟨t442, A6, H⟩ := bnd_ H
      try dsimp only at H
      by_cases c7 : t442 = true
      ·subst c7
       rw [if_pos rfl] at H
       by_cases c8 : x7_1 = 0
       ·rw [if_pos c8] at H
        have c8b0 : (x7_1 == 0) = true := beq_iff_eq.mpr c8
        have c8b1 : (x7_1 != 0) = false := bne_eq_false_iff_eq.mpr c8
        clear c8
        have H' := am H
        clear H
        have p5 : 0 ≤ (x7_1 : Int) := of_decide_eq_true (by with_reducible assumption)
        have q5 : x7_1 < (a0.size : Int) := of_decide_eq_true (by with_reducible assumption)
        have hx5 := bt_at a0 x7_1
        replace p5 := eq_true p5
        replace q5 := eq_true q5
        go_wp2_with ((with_reducible refine gate_callee (f := 54) rfl ?_); refine gl_ 20 Try.func54 #[.int .u8 (bt a0 x7_1)] ?_; (with_reducible refine (spec_owSign.calls (bt a0 x7_1) true _ A6.out).mono ?_); rintro e w' ⟨rfl, ⟨nd, rfl⟩⟩; refine ⟨_, rfl, ?_⟩)
        go_roundg k1
        case measure => have := HK1.out; omega
        case rel => exact ⟨(x5_1), (x6_1), (wrap64 (x7_1 + 1)), (by rfl), (by rfl), (by rfl), H', ⟨by have := HK1.out; omega⟩, ⟨by repeat (with_reducible first | exact HB.out | apply pw_below_drewN)⟩⟩
       ·rw [if_neg c8] at H
        have c8b0 : (x7_1 == 0) = false := beq_eq_false_iff_ne.mpr c8
        have c8b1 : (x7_1 != 0) = true := bne_iff_ne.mpr c8
        obtain ⟨t443, A10, H⟩ := bnd_ H
        try dsimp only at H
        obtain ⟨ji11, hji11⟩ : ∃ j_ : Int, (wrap64 (x7_1 - 1)) = j_ := ⟨_, rfl⟩
        replace H : (if 0 ≤ (ji11) then (if (ji11) < (a0.size : Int) then ((spec_owWay.f (bt a0 (ji11))).bind fun t444 => (if (Int.tmod (wrap64 ((wrap64 (4 + t443)) - t444)) 4) = 1 then (spec_TurnsOfWord.l0 k1 a0 (wrap64 (x5_1 + 1)) x6_1 (wrap64 (x7_1 + 1))) else (if (Int.tmod (wrap64 ((wrap64 (4 + t443)) - t444)) 4) = 2 then (some (0, 0, false)) else (if (Int.tmod (wrap64 ((wrap64 (4 + t443)) - t444)) 4) = 3 then (spec_TurnsOfWord.l0 k1 a0 x5_1 (wrap64 (x6_1 + 1)) (wrap64 (x7_1 + 1))) else (spec_TurnsOfWord.l0 k1 a0 x5_1 x6_1 (wrap64 (x7_1 + 1))))))) else (none)) else (none)) = some (r1, r2, r3) := by first | (rw [hji11] at H; exact H)
        have hji11w : (IntKind.i64.wrap (x7_1 - 1)) = ji11 := (i64_w _).trans hji11
        by_cases c12 : 0 ≤ (ji11)
        ·rw [if_pos c12] at H
         have c12b0 : decide (0 ≤ (ji11)) = true := decide_eq_true c12
         clear c12
         by_cases c13 : (ji11) < (a0.size : Int)
         ·rw [if_pos c13] at H
          have c13b0 : decide ((ji11) < (a0.size : Int)) = true := decide_eq_true c13
          clear c13
          obtain ⟨t444, A15, H⟩ := bnd_ H
          try dsimp only at H
          by_cases c16 : (Int.tmod (wrap64 ((wrap64 (4 + t443)) - t444)) 4) = 1
          ·rw [if_pos c16] at H
           have c16b0 : ((Int.tmod (wrap64 ((wrap64 (4 + t443)) - t444)) 4) == 1) = true := beq_iff_eq.mpr c16
           have c16b1 : ((Int.tmod (wrap64 ((wrap64 (4 + t443)) - t444)) 4) != 1) = false := bne_eq_false_iff_eq.mpr c16
           clear c16
           have H' := am H
           clear H
           have p5 : 0 ≤ (x7_1 : Int) := of_decide_eq_true (by with_reducible assumption)
           have q5 : x7_1 < (a0.size : Int) := of_decide_eq_true (by with_reducible assumption)
           have hx5 := bt_at a0 x7_1
           replace p5 := eq_true p5
           replace q5 := eq_true q5
           try go_wp2_with ((with_reducible refine gate_callee (f := 54) rfl ?_); refine gl_ 20 Try.func54 #[.int .u8 (bt a0 x7_1)] ?_; (with_reducible refine (spec_owSign.calls (bt a0 x7_1) true _ A6.out).mono ?_); rintro e w' ⟨rfl, ⟨nd, rfl⟩⟩; refine ⟨_, rfl, ?_⟩)
           (try (rw [drewN_self wr]; generalize hq_ : World.drewN wr _ = wr; have n0_ : Aside0 (Below w.heap.size w wr) := ⟨by rw [← hq_]; exact (by repeat (with_reducible first | exact HB.out | apply pw_below_drewN))⟩; clear HB hq_; have HB := n0_; clear n0_))
           replace HB := am (below_drew1 HB.out)
           have p9 : 0 ≤ (x7_1 : Int) := of_decide_eq_true (by with_reducible assumption)
           have q9 : x7_1 < (a0.size : Int) := of_decide_eq_true (by with_reducible assumption)
           have hx9 := bt_at a0 x7_1
           replace p9 := eq_true p9
           replace q9 := eq_true q9
           have p14 : 0 ≤ ((ji11) : Int) := of_decide_eq_true (by with_reducible assumption)
           have q14 : (ji11) < (a0.size : Int) := of_decide_eq_true (by with_reducible assumption)
           have hx14 := bt_at a0 (ji11)
           replace p14 := eq_true p14
           replace q14 := eq_true q14
           refine start_ (n := 12) (S := fun w' => True) (ds := []) #[false, false, false, false, false, false, false, false, false, false, false, false] (by kernel_rfl) rfl rfl trivial (fun hHeld => ?_); refine with_tabW spec_TurnsOfWord.tab10 spec_TurnsOfWord.bits10 (fun HT_ HW_ => ?_)
           generalize wr.drew = w17 at HB hHeld ⊢
           refine pu_ 0 24 (fl_ 12 1) HT_ ?_
           refine pu_ 1 25 (fl_ 12 3) HT_ ?_
           refine pu_ 5 29 (fl_ 12 35) HT_ ?_
           refine pu_ 6 30 (fl_ 12 99) HT_ ?_
           refine pu_ 7 31 (fl_ 12 227) HT_ ?_
           refine take_ (i := 2) (N := some 26) (v := ?_) (a' := ?_) #[true, true, true, false, false, true, true, true, false, false, false, false] rfl rfl (take_ofW HT_.out HW_.out (by kernel_rfl)) (fun _ _ _ h => h) (Or.inl ⟨by rfl, ?_⟩) hHeld ?_ ?_
           rotate_left
           ·intro w' _
            go_simp
            with_reducible rfl
           rotate_left
           ·simp only [Act.put, List.setIfInBounds_toArray, List.set_cons_zero, List.set_cons_succ, i64_w, i32_w]
            rfl
           refine take_ (i := 8) (N := some 32) (v := ?_) (a' := ?_) #[true, true, true, false, false, true, true, true, true, false, false, false] rfl rfl (take_ofW HT_.out HW_.out (by kernel_rfl)) (fun _ _ _ h => h) (Or.inl ⟨by rfl, ?_⟩) hHeld ?_ ?_
           rotate_left
           ·intro w' _
            go_simp
            with_reducible rfl
           rotate_left
           ·simp only [Act.put, List.setIfInBounds_toArray, List.set_cons_zero, List.set_cons_succ, i64_w, i32_w]
            rfl
           refine on_ 3 27 (fl_ 12 495) HT_ fun K hK => ?_
           refine gs_ Try.func55 #[.int .u8 (bt a0 x7_1)] ?_
           with_reducible refine (spec_owWay.calls (bt a0 x7_1) t443 _ A10.out).mono ?_
           rintro e w18 ⟨rfl, hb⟩
           refine ⟨_, rfl, ?_⟩
           replace HB := am (below_step HB.out hb)
           (try clear hb)
           refine hK.out _ _ trivial (fun hHeld => ?_)
           clear hK K
           refine nm_ 27 ?_
           refine pu_ 4 28 (fl_ 12 511) HT_ ?_
           refine on_ 9 33 (fl_ 12 1023) HT_ fun K hK => ?_
           refine gs_ Try.func55 #[.int .u8 (bt a0 (ji11))] ?_
           with_reducible refine (spec_owWay.calls (bt a0 (ji11)) t444 _ A15.out).mono ?_
           rintro e w19 ⟨rfl, hb⟩
           refine ⟨_, rfl, ?_⟩
           replace HB := am (below_step HB.out hb)
           (try clear hb)
           refine hK.out _ _ trivial (fun hHeld => ?_)
           clear hK K
           refine nm_ 33 ?_
           refine pu_ 10 34 (fl_ 12 2047) HT_ ?_
           refine pu_ 11 35 (fl_ 12 4095) HT_ ?_
           refine done_ (done_of HT_.out (by kernel_rfl)) ?_
           try go_wp2
           go_roundg k1
           case measure => have := HK1.out; omega
           case rel => exact ⟨(wrap64 (x5_1 + 1)), (x6_1), (wrap64 (x7_1 + 1)), (by rfl), (by rfl), (by rfl), H', ⟨by have := HK1.out; omega⟩, ⟨by exact HB.out⟩⟩
          ·rw [if_neg c16] at H
           have c16b0 : ((Int.tmod (wrap64 ((wrap64 (4 + t443)) - t444)) 4) == 1) = false := beq_eq_false_iff_ne.mpr c16
           have c16b1 : ((Int.tmod (wrap64 ((wrap64 (4 + t443)) - t444)) 4) != 1) = true := bne_iff_ne.mpr c16
           by_cases c20 : (Int.tmod (wrap64 ((wrap64 (4 + t443)) - t444)) 4) = 2
           ·rw [if_pos c20] at H
            have c20b0 : ((Int.tmod (wrap64 ((wrap64 (4 + t443)) - t444)) 4) == 2) = true := beq_iff_eq.mpr c20
            have c20b1 : ((Int.tmod (wrap64 ((wrap64 (4 + t443)) - t444)) 4) != 2) = false := bne_eq_false_iff_eq.mpr c20
            clear c20
            simp only [Option.some.injEq, Prod.mk.injEq] at H
            obtain ⟨rfl, rfl, rfl⟩ := H
            have p5 : 0 ≤ (x7_1 : Int) := of_decide_eq_true (by with_reducible assumption)
            have q5 : x7_1 < (a0.size : Int) := of_decide_eq_true (by with_reducible assumption)
            have hx5 := bt_at a0 x7_1
            replace p5 := eq_true p5
            replace q5 := eq_true q5
            try go_wp2_with ((with_reducible refine gate_callee (f := 54) rfl ?_); refine gl_ 20 Try.func54 #[.int .u8 (bt a0 x7_1)] ?_; (with_reducible refine (spec_owSign.calls (bt a0 x7_1) true _ A6.out).mono ?_); rintro e w' ⟨rfl, ⟨nd, rfl⟩⟩; refine ⟨_, rfl, ?_⟩)
            (try (rw [drewN_self wr]; generalize hq_ : World.drewN wr _ = wr; have n0_ : Aside0 (Below w.heap.size w wr) := ⟨by rw [← hq_]; exact (by repeat (with_reducible first | exact HB.out | apply pw_below_drewN))⟩; clear HB hq_; have HB := n0_; clear n0_))
            replace HB := am (below_drew1 HB.out)
            have p9 : 0 ≤ (x7_1 : Int) := of_decide_eq_true (by with_reducible assumption)
            have q9 : x7_1 < (a0.size : Int) := of_decide_eq_true (by with_reducible assumption)
            have hx9 := bt_at a0 x7_1
            replace p9 := eq_true p9
            replace q9 := eq_true q9
            have p14 : 0 ≤ ((ji11) : Int) := of_decide_eq_true (by with_reducible assumption)
            have q14 : (ji11) < (a0.size : Int) := of_decide_eq_true (by with_reducible assumption)
            have hx14 := bt_at a0 (ji11)
            replace p14 := eq_true p14
            replace q14 := eq_true q14
            refine start_ (n := 12) (S := fun w' => True) (ds := []) #[false, false, false, false, false, false, false, false, false, false, false, false] (by kernel_rfl) rfl rfl trivial (fun hHeld => ?_); refine with_tabW spec_TurnsOfWord.tab10 spec_TurnsOfWord.bits10 (fun HT_ HW_ => ?_)
            generalize wr.drew = w21 at HB hHeld ⊢
            refine pu_ 0 24 (fl_ 12 1) HT_ ?_
            refine pu_ 1 25 (fl_ 12 3) HT_ ?_
            refine pu_ 5 29 (fl_ 12 35) HT_ ?_
            refine pu_ 6 30 (fl_ 12 99) HT_ ?_
            refine pu_ 7 31 (fl_ 12 227) HT_ ?_
            refine take_ (i := 2) (N := some 26) (v := ?_) (a' := ?_) #[true, true, true, false, false, true, true, true, false, false, false, false] rfl rfl (take_ofW HT_.out HW_.out (by kernel_rfl)) (fun _ _ _ h => h) (Or.inl ⟨by rfl, ?_⟩) hHeld ?_ ?_
            rotate_left
            ·intro w' _
             go_simp
             with_reducible rfl
            rotate_left
            ·simp only [Act.put, List.setIfInBounds_toArray, List.set_cons_zero, List.set_cons_succ, i64_w, i32_w]
             rfl
            refine take_ (i := 8) (N := some 32) (v := ?_) (a' := ?_) #[true, true, true, false, false, true, true, true, true, false, false, false] rfl rfl (take_ofW HT_.out HW_.out (by kernel_rfl)) (fun _ _ _ h => h) (Or.inl ⟨by rfl, ?_⟩) hHeld ?_ ?_
            rotate_left
            ·intro w' _
             go_simp
             with_reducible rfl
            rotate_left
            ·simp only [Act.put, List.setIfInBounds_toArray, List.set_cons_zero, List.set_cons_succ, i64_w, i32_w]
             rfl
            refine on_ 3 27 (fl_ 12 495) HT_ fun K hK => ?_
            refine gs_ Try.func55 #[.int .u8 (bt a0 x7_1)] ?_
            with_reducible refine (spec_owWay.calls (bt a0 x7_1) t443 _ A10.out).mono ?_
            rintro e w22 ⟨rfl, hb⟩
            refine ⟨_, rfl, ?_⟩
            replace HB := am (below_step HB.out hb)
            (try clear hb)
            refine hK.out _ _ trivial (fun hHeld => ?_)
            clear hK K
            refine nm_ 27 ?_
            refine pu_ 4 28 (fl_ 12 511) HT_ ?_
            refine on_ 9 33 (fl_ 12 1023) HT_ fun K hK => ?_
            refine gs_ Try.func55 #[.int .u8 (bt a0 (ji11))] ?_
            with_reducible refine (spec_owWay.calls (bt a0 (ji11)) t444 _ A15.out).mono ?_
            rintro e w23 ⟨rfl, hb⟩
            refine ⟨_, rfl, ?_⟩
            replace HB := am (below_step HB.out hb)
            (try clear hb)
            refine hK.out _ _ trivial (fun hHeld => ?_)
            clear hK K
            refine nm_ 33 ?_
            refine pu_ 10 34 (fl_ 12 2047) HT_ ?_
            refine pu_ 11 35 (fl_ 12 4095) HT_ ?_
            refine done_ (done_of HT_.out (by kernel_rfl)) ?_
            try go_wp2
            go_ret3
            exact ⟨by rfl, by exact HB.out⟩
           ·rw [if_neg c20] at H
            have c20b0 : ((Int.tmod (wrap64 ((wrap64 (4 + t443)) - t444)) 4) == 2) = false := beq_eq_false_iff_ne.mpr c20
            have c20b1 : ((Int.tmod (wrap64 ((wrap64 (4 + t443)) - t444)) 4) != 2) = true := bne_iff_ne.mpr c20
            by_cases c24 : (Int.tmod (wrap64 ((wrap64 (4 + t443)) - t444)) 4) = 3
            ·rw [if_pos c24] at H
             have c24b0 : ((Int.tmod (wrap64 ((wrap64 (4 + t443)) - t444)) 4) == 3) = true := beq_iff_eq.mpr c24
             have c24b1 : ((Int.tmod (wrap64 ((wrap64 (4 + t443)) - t444)) 4) != 3) = false := bne_eq_false_iff_eq.mpr c24
             clear c24
             have H' := am H
             clear H
             have p5 : 0 ≤ (x7_1 : Int) := of_decide_eq_true (by with_reducible assumption)
             have q5 : x7_1 < (a0.size : Int) := of_decide_eq_true (by with_reducible assumption)
             have hx5 := bt_at a0 x7_1
             replace p5 := eq_true p5
             replace q5 := eq_true q5
             try go_wp2_with ((with_reducible refine gate_callee (f := 54) rfl ?_); refine gl_ 20 Try.func54 #[.int .u8 (bt a0 x7_1)] ?_; (with_reducible refine (spec_owSign.calls (bt a0 x7_1) true _ A6.out).mono ?_); rintro e w' ⟨rfl, ⟨nd, rfl⟩⟩; refine ⟨_, rfl, ?_⟩)
             (try (rw [drewN_self wr]; generalize hq_ : World.drewN wr _ = wr; have n0_ : Aside0 (Below w.heap.size w wr) := ⟨by rw [← hq_]; exact (by repeat (with_reducible first | exact HB.out | apply pw_below_drewN))⟩; clear HB hq_; have HB := n0_; clear n0_))
             replace HB := am (below_drew1 HB.out)
             have p9 : 0 ≤ (x7_1 : Int) := of_decide_eq_true (by with_reducible assumption)
             have q9 : x7_1 < (a0.size : Int) := of_decide_eq_true (by with_reducible assumption)
             have hx9 := bt_at a0 x7_1
             replace p9 := eq_true p9
             replace q9 := eq_true q9
             have p14 : 0 ≤ ((ji11) : Int) := of_decide_eq_true (by with_reducible assumption)
             have q14 : (ji11) < (a0.size : Int) := of_decide_eq_true (by with_reducible assumption)
             have hx14 := bt_at a0 (ji11)
             replace p14 := eq_true p14
             replace q14 := eq_true q14
             refine start_ (n := 12) (S := fun w' => True) (ds := []) #[false, false, false, false, false, false, false, false, false, false, false, false] (by kernel_rfl) rfl rfl trivial (fun hHeld => ?_); refine with_tabW spec_TurnsOfWord.tab10 spec_TurnsOfWord.bits10 (fun HT_ HW_ => ?_)
             generalize wr.drew = w25 at HB hHeld ⊢
             refine pu_ 0 24 (fl_ 12 1) HT_ ?_
             refine pu_ 1 25 (fl_ 12 3) HT_ ?_
             refine pu_ 5 29 (fl_ 12 35) HT_ ?_
             refine pu_ 6 30 (fl_ 12 99) HT_ ?_
             refine pu_ 7 31 (fl_ 12 227) HT_ ?_
             refine take_ (i := 2) (N := some 26) (v := ?_) (a' := ?_) #[true, true, true, false, false, true, true, true, false, false, false, false] rfl rfl (take_ofW HT_.out HW_.out (by kernel_rfl)) (fun _ _ _ h => h) (Or.inl ⟨by rfl, ?_⟩) hHeld ?_ ?_
             rotate_left
             ·intro w' _
              go_simp
              with_reducible rfl
             rotate_left
             ·simp only [Act.put, List.setIfInBounds_toArray, List.set_cons_zero, List.set_cons_succ, i64_w, i32_w]
              rfl
             refine take_ (i := 8) (N := some 32) (v := ?_) (a' := ?_) #[true, true, true, false, false, true, true, true, true, false, false, false] rfl rfl (take_ofW HT_.out HW_.out (by kernel_rfl)) (fun _ _ _ h => h) (Or.inl ⟨by rfl, ?_⟩) hHeld ?_ ?_
             rotate_left
             ·intro w' _
              go_simp
              with_reducible rfl
             rotate_left
             ·simp only [Act.put, List.setIfInBounds_toArray, List.set_cons_zero, List.set_cons_succ, i64_w, i32_w]
              rfl
             refine on_ 3 27 (fl_ 12 495) HT_ fun K hK => ?_
             refine gs_ Try.func55 #[.int .u8 (bt a0 x7_1)] ?_
             with_reducible refine (spec_owWay.calls (bt a0 x7_1) t443 _ A10.out).mono ?_
             rintro e w26 ⟨rfl, hb⟩
             refine ⟨_, rfl, ?_⟩
             replace HB := am (below_step HB.out hb)
             (try clear hb)
             refine hK.out _ _ trivial (fun hHeld => ?_)
             clear hK K
             refine nm_ 27 ?_
             refine pu_ 4 28 (fl_ 12 511) HT_ ?_
             refine on_ 9 33 (fl_ 12 1023) HT_ fun K hK => ?_
             refine gs_ Try.func55 #[.int .u8 (bt a0 (ji11))] ?_
             with_reducible refine (spec_owWay.calls (bt a0 (ji11)) t444 _ A15.out).mono ?_
             rintro e w27 ⟨rfl, hb⟩
             refine ⟨_, rfl, ?_⟩
             replace HB := am (below_step HB.out hb)
             (try clear hb)
             refine hK.out _ _ trivial (fun hHeld => ?_)
             clear hK K
             refine nm_ 33 ?_
             refine pu_ 10 34 (fl_ 12 2047) HT_ ?_
             refine pu_ 11 35 (fl_ 12 4095) HT_ ?_
             refine done_ (done_of HT_.out (by kernel_rfl)) ?_
             try go_wp2
             go_roundg k1
             case measure => have := HK1.out; omega
             case rel => exact ⟨(x5_1), (wrap64 (x6_1 + 1)), (wrap64 (x7_1 + 1)), (by rfl), (by rfl), (by rfl), H', ⟨by have := HK1.out; omega⟩, ⟨by exact HB.out⟩⟩
            ·rw [if_neg c24] at H
             have c24b0 : ((Int.tmod (wrap64 ((wrap64 (4 + t443)) - t444)) 4) == 3) = false := beq_eq_false_iff_ne.mpr c24
             have c24b1 : ((Int.tmod (wrap64 ((wrap64 (4 + t443)) - t444)) 4) != 3) = true := bne_iff_ne.mpr c24
             have H' := am H
             clear H
             have p5 : 0 ≤ (x7_1 : Int) := of_decide_eq_true (by with_reducible assumption)
             have q5 : x7_1 < (a0.size : Int) := of_decide_eq_true (by with_reducible assumption)
             have hx5 := bt_at a0 x7_1
             replace p5 := eq_true p5
             replace q5 := eq_true q5
             try go_wp2_with ((with_reducible refine gate_callee (f := 54) rfl ?_); refine gl_ 20 Try.func54 #[.int .u8 (bt a0 x7_1)] ?_; (with_reducible refine (spec_owSign.calls (bt a0 x7_1) true _ A6.out).mono ?_); rintro e w' ⟨rfl, ⟨nd, rfl⟩⟩; refine ⟨_, rfl, ?_⟩)
             (try (rw [drewN_self wr]; generalize hq_ : World.drewN wr _ = wr; have n0_ : Aside0 (Below w.heap.size w wr) := ⟨by rw [← hq_]; exact (by repeat (with_reducible first | exact HB.out | apply pw_below_drewN))⟩; clear HB hq_; have HB := n0_; clear n0_))
             replace HB := am (below_drew1 HB.out)
             have p9 : 0 ≤ (x7_1 : Int) := of_decide_eq_true (by with_reducible assumption)
             have q9 : x7_1 < (a0.size : Int) := of_decide_eq_true (by with_reducible assumption)
             have hx9 := bt_at a0 x7_1
             replace p9 := eq_true p9
             replace q9 := eq_true q9
             have p14 : 0 ≤ ((ji11) : Int) := of_decide_eq_true (by with_reducible assumption)
             have q14 : (ji11) < (a0.size : Int) := of_decide_eq_true (by with_reducible assumption)
             have hx14 := bt_at a0 (ji11)
             replace p14 := eq_true p14
             replace q14 := eq_true q14
             refine start_ (n := 12) (S := fun w' => True) (ds := []) #[false, false, false, false, false, false, false, false, false, false, false, false] (by kernel_rfl) rfl rfl trivial (fun hHeld => ?_); refine with_tabW spec_TurnsOfWord.tab10 spec_TurnsOfWord.bits10 (fun HT_ HW_ => ?_)
             generalize wr.drew = w28 at HB hHeld ⊢
             refine pu_ 0 24 (fl_ 12 1) HT_ ?_
             refine pu_ 1 25 (fl_ 12 3) HT_ ?_
             refine pu_ 5 29 (fl_ 12 35) HT_ ?_
             refine pu_ 6 30 (fl_ 12 99) HT_ ?_
             refine pu_ 7 31 (fl_ 12 227) HT_ ?_
             refine take_ (i := 2) (N := some 26) (v := ?_) (a' := ?_) #[true, true, true, false, false, true, true, true, false, false, false, false] rfl rfl (take_ofW HT_.out HW_.out (by kernel_rfl)) (fun _ _ _ h => h) (Or.inl ⟨by rfl, ?_⟩) hHeld ?_ ?_
             rotate_left
             ·intro w' _
              go_simp
              with_reducible rfl
             rotate_left
             ·simp only [Act.put, List.setIfInBounds_toArray, List.set_cons_zero, List.set_cons_succ, i64_w, i32_w]
              rfl
             refine take_ (i := 8) (N := some 32) (v := ?_) (a' := ?_) #[true, true, true, false, false, true, true, true, true, false, false, false] rfl rfl (take_ofW HT_.out HW_.out (by kernel_rfl)) (fun _ _ _ h => h) (Or.inl ⟨by rfl, ?_⟩) hHeld ?_ ?_
             rotate_left
             ·intro w' _
              go_simp
              with_reducible rfl
             rotate_left
             ·simp only [Act.put, List.setIfInBounds_toArray, List.set_cons_zero, List.set_cons_succ, i64_w, i32_w]
              rfl
             refine on_ 3 27 (fl_ 12 495) HT_ fun K hK => ?_
             refine gs_ Try.func55 #[.int .u8 (bt a0 x7_1)] ?_
             with_reducible refine (spec_owWay.calls (bt a0 x7_1) t443 _ A10.out).mono ?_
             rintro e w29 ⟨rfl, hb⟩
             refine ⟨_, rfl, ?_⟩
             replace HB := am (below_step HB.out hb)
             (try clear hb)
             refine hK.out _ _ trivial (fun hHeld => ?_)
             clear hK K
             refine nm_ 27 ?_
             refine pu_ 4 28 (fl_ 12 511) HT_ ?_
             refine on_ 9 33 (fl_ 12 1023) HT_ fun K hK => ?_
             refine gs_ Try.func55 #[.int .u8 (bt a0 (ji11))] ?_
             with_reducible refine (spec_owWay.calls (bt a0 (ji11)) t444 _ A15.out).mono ?_
             rintro e w30 ⟨rfl, hb⟩
             refine ⟨_, rfl, ?_⟩
             replace HB := am (below_step HB.out hb)
             (try clear hb)
             refine hK.out _ _ trivial (fun hHeld => ?_)
             clear hK K
             refine nm_ 33 ?_
             refine pu_ 10 34 (fl_ 12 2047) HT_ ?_
             refine pu_ 11 35 (fl_ 12 4095) HT_ ?_
             refine done_ (done_of HT_.out (by kernel_rfl)) ?_
             try go_wp2
             go_roundg k1
             case measure => have := HK1.out; omega
             case rel => exact ⟨(x5_1), (x6_1), (wrap64 (x7_1 + 1)), (by rfl), (by rfl), (by rfl), H', ⟨by have := HK1.out; omega⟩, ⟨by exact HB.out⟩⟩
         ·rw [if_neg c13] at H
          exact absurd H (by simp)
        ·rw [if_neg c12] at H
         exact absurd H (by simp)
      ·replace c7 := Bool.eq_false_iff.mpr c7
       subst c7
       rw [if_neg (show ¬ (false = true) by decide)] at H
       simp only [Option.some.injEq, Prod.mk.injEq] at H
       obtain ⟨rfl, rfl, rfl⟩ := H
       have p5 : 0 ≤ (x7_1 : Int) := of_decide_eq_true (by with_reducible assumption)
       have q5 : x7_1 < (a0.size : Int) := of_decide_eq_true (by with_reducible assumption)
       have hx5 := bt_at a0 x7_1
       replace p5 := eq_true p5
       replace q5 := eq_true q5
       go_wp2_with ((with_reducible refine gate_callee (f := 54) rfl ?_); refine gl_ 20 Try.func54 #[.int .u8 (bt a0 x7_1)] ?_; (with_reducible refine (spec_owSign.calls (bt a0 x7_1) false _ A6.out).mono ?_); rintro e w' ⟨rfl, ⟨nd, rfl⟩⟩; refine ⟨_, rfl, ?_⟩)
       go_ret3
       exact ⟨by rfl, by repeat (with_reducible first | exact HB.out | apply pw_below_drewN)⟩
     ·rw [if_neg c4] at H
      exact absurd H (by simp)
    ·rw [if_neg c3] at H
     have c3b0 : decide (x7_1 < (a0.size : Int)) = false := decide_eq_false c3
     clear c3
     simp only [Option.some.injEq, Prod.mk.injEq] at H
     obtain ⟨rfl, rfl, rfl⟩ := H
     go_wp2
     go_ret3
     exact ⟨by rfl, by exact HB.out⟩
end Go.Proofs.Ytdhdkkhbgfcoiaa.MX
