-- The machine side, written by this repo's program mp.py; contracts marked as of this repo are this session's own.
import Derived.Test.YtdhdkkhbgfcoiaaMXx0
import Derived.Test.YtdhdkkhbgfcoiaaMXx1
namespace Go.Proofs.Ytdhdkkhbgfcoiaa.MX
open Go.RowKit Go.Proofs.YtdhdkkhbgfcoiaaW.PrintWords Go.Proofs.YtdhdkkhbgfcoiaaW.PrintLast Go.Proofs.YtdhdkkhbgfcoiaaW.PrintMore
attribute [local go_sem] max2_int min2_int max_two min_two max_three min_three max_four min_four   -- for this text's walks alone
set_option maxHeartbeats 8000000
set_option maxRecDepth 100000
set_option linter.unusedVariables false
set_option linter.unusedSimpArgs false
mutual
def spec_l1Cur_spoilt.l0 : Nat → ByteArray → ByteArray → Int → List Int → Int → Int → Option (ByteArray × Int × Int)
 | 0, _, _, _, _, _, _ => none
 | k + 1, x1, x2, x7, x1000, x1001, x1002 => if x7 > 0 then (spec_l1Cur_spoilt.j1 k x1 x2 x7 (decide ((x1.size : Int) > 0)) x1000 x1001 x1002) else (spec_l1Cur_spoilt.j1 k x1 x2 x7 false x1000 x1001 x1002)
def spec_l1Cur_spoilt.j1 : Nat → ByteArray → ByteArray → Int → Bool → List Int → Int → Int → Option (ByteArray × Int × Int)
 | 0, _, _, _, _, _, _, _ => none
 | k + 1, x1, x2, x7, x19, x1000, x1001, x1002 => if x19 = true then ((spec_l1Cur_pick.f x1000 x1001 x1002 (x1.size : Int)).bind fun bt328 => ((spec_l1Cur_pick.f x1000 bt328.2.1 bt328.2.2 (x2.size : Int)).bind fun bt331 => (if 0 ≤ bt331.1 then (if bt331.1 < (x2.size : Int) then ((some (([bt x2 bt331.1] : List Int) : List Int)).bind fun y334 => ((spec_l1Cur_pick.f x1000 bt331.2.1 bt331.2.2 3).bind fun bt337 => (if bt337.1 = 0 then (if 0 ≤ bt328.1 then (if bt328.1 ≤ (x1.size : Int) then (if (x1.extract 0 (bt328.1 : Int).toNat).size + (strOfNums y334).size ≤ 9223372036854775807 then (if ((x1.extract 0 (bt328.1 : Int).toNat) ++ (strOfNums y334)).size + (x1.extract (bt328.1 : Int).toNat x1.size).size ≤ 9223372036854775807 then (spec_l1Cur_spoilt.l0 k (((x1.extract 0 (bt328.1 : Int).toNat) ++ (strOfNums y334)) ++ (x1.extract (bt328.1 : Int).toNat x1.size)) x2 (wrap64 (x7 - 1)) x1000 bt337.2.1 bt337.2.2) else (none)) else (none)) else (none)) else (none)) else (if bt337.1 = 1 then (if 0 ≤ bt328.1 then (if bt328.1 ≤ (x1.size : Int) then (if (x1.extract 0 (bt328.1 : Int).toNat).size + (strOfNums y334).size ≤ 9223372036854775807 then (if 0 ≤ (wrap64 (bt328.1 + 1)) then (if (wrap64 (bt328.1 + 1)) ≤ (x1.size : Int) then (if ((x1.extract 0 (bt328.1 : Int).toNat) ++ (strOfNums y334)).size + (x1.extract ((wrap64 (bt328.1 + 1)) : Int).toNat x1.size).size ≤ 9223372036854775807 then (spec_l1Cur_spoilt.l0 k (((x1.extract 0 (bt328.1 : Int).toNat) ++ (strOfNums y334)) ++ (x1.extract ((wrap64 (bt328.1 + 1)) : Int).toNat x1.size)) x2 (wrap64 (x7 - 1)) x1000 bt337.2.1 bt337.2.2) else (none)) else (none)) else (none)) else (none)) else (none)) else (none)) else (if 0 ≤ bt328.1 then (if bt328.1 ≤ (x1.size : Int) then (if 0 ≤ (wrap64 (bt328.1 + 1)) then (if (wrap64 (bt328.1 + 1)) ≤ (x1.size : Int) then (if (x1.extract 0 (bt328.1 : Int).toNat).size + (x1.extract ((wrap64 (bt328.1 + 1)) : Int).toNat x1.size).size ≤ 9223372036854775807 then (spec_l1Cur_spoilt.l0 k ((x1.extract 0 (bt328.1 : Int).toNat) ++ (x1.extract ((wrap64 (bt328.1 + 1)) : Int).toNat x1.size)) x2 (wrap64 (x7 - 1)) x1000 bt337.2.1 bt337.2.2) else (none)) else (none)) else (none)) else (none)) else (none)))))) else (none)) else (none)))) else (some (x1, x1001, x1002))
end
def spec_l1Cur_spoilt.f (k : Nat) (s0_0 : List Int) (s0_1 : Int) (s0_2 : Int) (a1 : ByteArray) (a2 : ByteArray) : Option (ByteArray × Int × Int) := (spec_l1Cur_pick.f s0_0 s0_1 s0_2 2).bind fun bt325 => (spec_l1Cur_spoilt.l0 k a1 a2 (wrap64 (1 + bt325.1)) s0_0 bt325.2.1 bt325.2.2)
theorem spec_l1Cur_spoilt.calls (k : Nat) (g : Nat) (s0_0 : List Int) (s0_1 : Int) (s0_2 : Int) (a1 : ByteArray) (a2 : ByteArray) (r1 : ByteArray) (r2 : Int) (r3 : Int) (w0 w : World) (hI : IsS71 w0 w g s0_0 s0_1 s0_2) (hB : Below w0.heap.size w0 w) (h : spec_l1Cur_spoilt.f k s0_0 s0_1 s0_2 a1 a2 = some (r1, r2, r3)) :
  Calls Try.prog 71 #[.pointer (some ⟨g, 0, none⟩), .string a1, .string a2] w fun e w' => e = .returned (.string r1) ∧ IsS71 w0 w' g s0_0 r2 r3 ∧ Below w0.heap.size w0 w' ∧ KeepBut w w' g none := by
 have HI0 := am hI
 have HK := am (KeepBut.refl w g none)
 have HL := am hB.size
 clear hI
 have HW0 := am hB.size
 have HB := am hB
 clear hB
 unfold spec_l1Cur_spoilt.f at h
 have H := h
 clear h
 obtain ⟨⟨t325, t326, t327⟩, A4, H⟩ := bnd_ H
 try dsimp only at H
 have H' := am H
 clear H
 go_enter Try.func71, Try.ntmps71
 go_wp2_with (go_at_call 52; (with_reducible refine (spec_l1Cur_pick.calls g s0_0 s0_1 s0_2 2 t325 t326 t327 w0 _ (HI0.out) ?side2 A4.out).mono ?_); (case side2 => repeat (with_reducible first | exact HB.out)); rintro e w5 ⟨rfl, hi, hb, hk⟩; replace HK := am (KeepBut.trans HK.out hk (.inl rfl)); replace HB := am (hb); replace HI0 := am (hi); (try clear hb); (try clear hk); (try clear hi))
 go_loopg [1, 7] k (fun kq v1 v7 w' => ∃ (x1_1 : ByteArray) (x7_1 : Int) (x1001_1 : Int) (x1002_1 : Int), v1 = .string x1_1 ∧ v7 = .int .i64 x7_1 ∧ Aside0 (spec_l1Cur_spoilt.l0 kq x1_1 a2 x7_1 s0_0 x1001_1 x1002_1 = some (r1, r2, r3)) ∧ Aside0 (kq ≤ k) ∧ Aside0 (IsS71 w0 w' g s0_0 x1001_1 x1002_1) ∧ Aside0 (KeepBut w w' g none) ∧ Aside0 (Below w0.heap.size w0 w'))
 case atStart => exact ⟨(a1), (wrap64 (1 + t325)), (t326), (t327), (by rfl), (by rfl), H', ⟨Nat.le_refl _⟩, ⟨by exact HI0.out⟩, ⟨by exact HK.out⟩, ⟨by exact HB.out⟩⟩
 case round =>
  clear H'
  obtain ⟨x1_1, x7_1, x1001_1, x1002_1, rfl, rfl, HA, HK1, HI0, HK, HB⟩ := hrel
  cases gk with
  | zero => exact absurd HA.out (by simp [spec_l1Cur_spoilt.l0])
  | succ k1 =>
   have H := HA.out
   clear HA
   simp only [spec_l1Cur_spoilt.l0] at H
   have HC6 := am H
   clear H
   go_upto_region 2 with (fail)
   go_cut [19] (fun v19 wc => ∃ (kq : Nat) (x19_5 : Bool), v19 = .bool x19_5 ∧ Aside0 (spec_l1Cur_spoilt.j1 kq x1_1 a2 x7_1 x19_5 s0_0 x1001_1 x1002_1 = some (r1, r2, r3)) ∧ Aside0 (kq ≤ k1) ∧ Aside0 (IsS71 w0 wc g s0_0 x1001_1 x1002_1) ∧ Aside0 (KeepBut w wc g none) ∧ Aside0 (Below w0.heap.size w0 wc))
   case first =>
    have H := HC6.out
    clear HC6
    by_cases c7 : x7_1 > 0
    ·rw [if_pos c7] at H
     have c7b0 : decide (0 < x7_1) = true := decide_eq_true c7
     clear c7
     (skip)
     have H' := am H
     clear H
     go_wp2
     go_meet
     case rel => exact ⟨_, (decide ((x1_1.size : Int) > 0)), (by simp; done), H', ⟨by have := HK1.out; first | omega⟩, ⟨by exact HI0.out⟩, ⟨by exact HK.out⟩, ⟨by exact HB.out⟩⟩
    ·rw [if_neg c7] at H
     have c7b0 : decide (0 < x7_1) = false := decide_eq_false c7
     clear c7
     (skip)
     have H' := am H
     clear H
     go_wp2
     go_meet
     case rel => exact ⟨_, (false), (by rfl), H', ⟨by have := HK1.out; first | omega⟩, ⟨by exact HI0.out⟩, ⟨by exact HK.out⟩, ⟨by exact HB.out⟩⟩
   case rest =>
    clear HC6
    obtain ⟨kq, x19_5, rfl, HA, HJ5, HI0, HK, HB⟩ := hcut
    cases kq with
    | zero => exact absurd HA.out (by simp [spec_l1Cur_spoilt.j1])
    | succ kj5 =>
     have H := HA.out
     clear HA
     simp only [spec_l1Cur_spoilt.j1] at H
     by_cases c8 : x19_5 = true
     ·subst c8
      rw [if_pos rfl] at H
      obtain ⟨⟨t328, t329, t330⟩, A9, H⟩ := bnd_ H
      try dsimp only at H
      obtain ⟨⟨t331, t332, t333⟩, A10, H⟩ := bnd_ H
      try dsimp only at H
      by_cases c11 : 0 ≤ t331
      ·rw [if_pos c11] at H
       have c11b0 : decide (0 ≤ t331) = true := decide_eq_true c11
       clear c11
       by_cases c12 : t331 < (a2.size : Int)
       ·rw [if_pos c12] at H
        have c12b0 : decide (t331 < (a2.size : Int)) = true := decide_eq_true c12
        clear c12
        obtain ⟨y334, hy334⟩ : ∃ y_ : List Int, y_ = (([bt a2 t331] : List Int)) := ⟨_, rfl⟩
        replace H : ((spec_l1Cur_pick.f s0_0 t332 t333 3).bind fun bt337 => (if bt337.1 = 0 then (if 0 ≤ t328 then (if t328 ≤ (x1_1.size : Int) then (if (x1_1.extract 0 (t328 : Int).toNat).size + (strOfNums y334).size ≤ 9223372036854775807 then (if ((x1_1.extract 0 (t328 : Int).toNat) ++ (strOfNums y334)).size + (x1_1.extract (t328 : Int).toNat x1_1.size).size ≤ 9223372036854775807 then (spec_l1Cur_spoilt.l0 kj5 (((x1_1.extract 0 (t328 : Int).toNat) ++ (strOfNums y334)) ++ (x1_1.extract (t328 : Int).toNat x1_1.size)) a2 (wrap64 (x7_1 - 1)) s0_0 bt337.2.1 bt337.2.2) else (none)) else (none)) else (none)) else (none)) else (if bt337.1 = 1 then (if 0 ≤ t328 then (if t328 ≤ (x1_1.size : Int) then (if (x1_1.extract 0 (t328 : Int).toNat).size + (strOfNums y334).size ≤ 9223372036854775807 then (if 0 ≤ (wrap64 (t328 + 1)) then (if (wrap64 (t328 + 1)) ≤ (x1_1.size : Int) then (if ((x1_1.extract 0 (t328 : Int).toNat) ++ (strOfNums y334)).size + (x1_1.extract ((wrap64 (t328 + 1)) : Int).toNat x1_1.size).size ≤ 9223372036854775807 then (spec_l1Cur_spoilt.l0 kj5 (((x1_1.extract 0 (t328 : Int).toNat) ++ (strOfNums y334)) ++ (x1_1.extract ((wrap64 (t328 + 1)) : Int).toNat x1_1.size)) a2 (wrap64 (x7_1 - 1)) s0_0 bt337.2.1 bt337.2.2) else (none)) else (none)) else (none)) else (none)) else (none)) else (none)) else (if 0 ≤ t328 then (if t328 ≤ (x1_1.size : Int) then (if 0 ≤ (wrap64 (t328 + 1)) then (if (wrap64 (t328 + 1)) ≤ (x1_1.size : Int) then (if (x1_1.extract 0 (t328 : Int).toNat).size + (x1_1.extract ((wrap64 (t328 + 1)) : Int).toNat x1_1.size).size ≤ 9223372036854775807 then (spec_l1Cur_spoilt.l0 kj5 ((x1_1.extract 0 (t328 : Int).toNat) ++ (x1_1.extract ((wrap64 (t328 + 1)) : Int).toNat x1_1.size)) a2 (wrap64 (x7_1 - 1)) s0_0 bt337.2.1 bt337.2.2) else (none)) else (none)) else (none)) else (none)) else (none))))) = some (r1, r2, r3) := by first | (have H2_ := (Option.bind_some _ _).symm.trans H; rw [hy334]; with_reducible exact H2_)
        have Ny334 := am hy334
        clear hy334
        obtain ⟨⟨t337, t338, t339⟩, A14, H⟩ := bnd_ H
        try dsimp only at H
        by_cases c15 : t337 = 0
        ·rw [if_pos c15] at H
         have c15b0 : (t337 == 0) = true := beq_iff_eq.mpr c15
         have c15b1 : (t337 != 0) = false := bne_eq_false_iff_eq.mpr c15
         clear c15
         by_cases c16 : 0 ≤ t328
         ·rw [if_pos c16] at H
          have c16b0 := eq_true c16
          have c16b1 : decide (0 ≤ t328) = true := decide_eq_true c16
          clear c16
          by_cases c17 : t328 ≤ (x1_1.size : Int)
          ·rw [if_pos c17] at H
           have c17b0 := eq_true c17
           have c17b1 : decide (t328 ≤ (x1_1.size : Int)) = true := decide_eq_true c17
           clear c17
           by_cases c18 : (x1_1.extract 0 (t328 : Int).toNat).size + (strOfNums y334).size ≤ 9223372036854775807
           ·rw [if_pos c18] at H
            have c18b0 := eq_true c18
            have c18b1 : decide ((x1_1.extract 0 (t328 : Int).toNat).size + (strOfNums y334).size ≤ 9223372036854775807) = true := decide_eq_true c18
            try have c18b2 : (9223372036854775807 < (x1_1.extract 0 (t328 : Int).toNat).size + (strOfNums y334).size) = False := eq_false (Nat.not_lt.2 c18)
            have c19b0 := eq_true (of_decide_eq_true (by with_reducible assumption) : 0 ≤ t328)
            have c20b0 := eq_true (of_decide_eq_true (by with_reducible assumption) : t328 ≤ (x1_1.size : Int))
            by_cases c21 : ((x1_1.extract 0 (t328 : Int).toNat) ++ (strOfNums y334)).size + (x1_1.extract (t328 : Int).toNat x1_1.size).size ≤ 9223372036854775807
            ·rw [if_pos c21] at H
             have c21b0 := eq_true c21
             have c21b1 : decide (((x1_1.extract 0 (t328 : Int).toNat) ++ (strOfNums y334)).size + (x1_1.extract (t328 : Int).toNat x1_1.size).size ≤ 9223372036854775807) = true := decide_eq_true c21
             try have c21b2 : (9223372036854775807 < ((x1_1.extract 0 (t328 : Int).toNat) ++ (strOfNums y334)).size + (x1_1.extract (t328 : Int).toNat x1_1.size).size) = False := eq_false (Nat.not_lt.2 c21)
             have H' := am H
             clear H
             go_wp2_with (first | (go_at_call 52; (with_reducible refine (spec_l1Cur_pick.calls g s0_0 x1001_1 x1002_1 (x1_1.size : Int) t328 t329 t330 w0 _ (HI0.out) ?side2 A9.out).mono ?_); (case side2 => repeat (with_reducible first | exact HB.out)); rintro e w22 ⟨rfl, hi, hb, hk⟩; replace HK := am (KeepBut.trans HK.out hk (.inl rfl)); replace HB := am (hb); replace HI0 := am (hi); (try clear hb); (try clear hk); (try clear hi)) | (go_at_call 52; (with_reducible refine (spec_l1Cur_pick.calls g s0_0 t329 t330 (a2.size : Int) t331 t332 t333 w0 _ (HI0.out) ?side2 A10.out).mono ?_); (case side2 => repeat (with_reducible first | exact HB.out)); rintro e w23 ⟨rfl, hi, hb, hk⟩; replace HK := am (KeepBut.trans HK.out hk (.inl rfl)); replace HB := am (hb); replace HI0 := am (hi); (try clear hb); (try clear hk); (try clear hi); have p13 : 0 ≤ (t331 : Int) := of_decide_eq_true (by with_reducible assumption); have q13 : t331 < (a2.size : Int) := of_decide_eq_true (by with_reducible assumption); have hx13 := bt_at a2 t331; replace p13 := eq_true p13; replace q13 := eq_true q13) | ((with_reducible refine gate_dst (N := 32) rfl ?_); (try (refine gate_guard (by rfl) ?_; dsimp only)); refine Kd.R_lit (Kd.int .u8) _ 5 ?hg (N := 32) ?hd (xs := ([bt a2 t331] : List Int)) (inner := [.int .u8 (bt a2 t331)]) (ok := fun _ => True) (okp := fun _ => True) ?hr ?hp (fun _ hk => hk) trivial (Below.refl _ _) (Nat.le_refl _) (by simp) ?_; (case hd => rfl); (case hg => rfl); (case hr => go_simp; done); (case hp => exact (Reps.one (show Kd.M (Kd.int .u8) _ _ _ (bt a2 t331) [.int .u8 (bt a2 t331)] from rfl) (Reps.none _ _))); intro v335 w24 ho25 hb hg_ hnew_; clear hg_ hnew_; (rw [← Ny334.out] at ho25); have HO336 := am (Kd.R_lower ho25 (keep_size (w := w) (g := g) (row := none) HK.out)); replace HI0 := am (IsS71.below HI0.out hb); replace HK := am (KeepBut.trans HK.out (KeepBut.of_below hb g none) (.inl rfl)); replace HB := am (below_step HB.out hb); clear hb ho25; have hcv26 := own_string (P := Try.prog) Try.underlying22 Try.underlying5 Try.underlying9 (Kd.own_of_R HO336.out)) | (go_at_call 52; (with_reducible refine (spec_l1Cur_pick.calls g s0_0 t332 t333 3 t337 t338 t339 w0 _ (HI0.out) ?side2 A14.out).mono ?_); (case side2 => repeat (with_reducible first | exact HB.out)); rintro e w27 ⟨rfl, hi, hb, hk⟩; replace HO336 := am (Kd.R_mono (Kd.R_keep (IsS71.apart (show IsS71 w0 _ g s0_0 t332 t333 from by exact HI0.out) HO336.out (by decide)) hk (fun _ h => h.2)) (fun _ h => h.1)); replace HK := am (KeepBut.trans HK.out hk (.inl rfl)); replace HB := am (hb); replace HI0 := am (hi); (try clear hb); (try clear hk); (try clear hi)))
             repeat (go_quiet (fail); try go_wp2_with (fail))
             go_roundg kj5
             case measure => have := HK1.out; have := HJ5.out; omega
             case rel => exact ⟨(((x1_1.extract 0 (t328 : Int).toNat) ++ (strOfNums y334)) ++ (x1_1.extract (t328 : Int).toNat x1_1.size)), (wrap64 (x7_1 - 1)), (t338), (t339), (by rfl), (by rfl), H', ⟨by have := HK1.out; have := HJ5.out; omega⟩, ⟨by repeat (with_reducible first | exact HI0.out | apply IsS71.drewN)⟩, ⟨by repeat (with_reducible first | exact HK.out | apply keep_drewN)⟩, ⟨by repeat (with_reducible first | exact HB.out | apply pw_below_drewN)⟩⟩
            ·rw [if_neg c21] at H
             exact absurd H (by simp)
           ·rw [if_neg c18] at H
            exact absurd H (by simp)
          ·rw [if_neg c17] at H
           exact absurd H (by simp)
         ·rw [if_neg c16] at H
          exact absurd H (by simp)
        ·rw [if_neg c15] at H
         have c15b0 : (t337 == 0) = false := beq_eq_false_iff_ne.mpr c15
         have c15b1 : (t337 != 0) = true := bne_iff_ne.mpr c15
         by_cases c28 : t337 = 1
         ·rw [if_pos c28] at H
          have c28b0 : (t337 == 1) = true := beq_iff_eq.mpr c28
          have c28b1 : (t337 != 1) = false := bne_eq_false_iff_eq.mpr c28
          clear c28
          by_cases c29 : 0 ≤ t328
          ·rw [if_pos c29] at H
           have c29b0 := eq_true c29
           have c29b1 : decide (0 ≤ t328) = true := decide_eq_true c29
           clear c29
           by_cases c30 : t328 ≤ (x1_1.size : Int)
           ·rw [if_pos c30] at H
            have c30b0 := eq_true c30
            have c30b1 : decide (t328 ≤ (x1_1.size : Int)) = true := decide_eq_true c30
            clear c30
            by_cases c31 : (x1_1.extract 0 (t328 : Int).toNat).size + (strOfNums y334).size ≤ 9223372036854775807
            ·rw [if_pos c31] at H
             have c31b0 := eq_true c31
             have c31b1 : decide ((x1_1.extract 0 (t328 : Int).toNat).size + (strOfNums y334).size ≤ 9223372036854775807) = true := decide_eq_true c31
             try have c31b2 : (9223372036854775807 < (x1_1.extract 0 (t328 : Int).toNat).size + (strOfNums y334).size) = False := eq_false (Nat.not_lt.2 c31)
             obtain ⟨ji32, hji32⟩ : ∃ j_ : Int, (wrap64 (t328 + 1)) = j_ := ⟨_, rfl⟩
             replace H : (if 0 ≤ (ji32) then (if (ji32) ≤ (x1_1.size : Int) then (if ((x1_1.extract 0 (t328 : Int).toNat) ++ (strOfNums y334)).size + (x1_1.extract ((ji32) : Int).toNat x1_1.size).size ≤ 9223372036854775807 then (spec_l1Cur_spoilt.l0 kj5 (((x1_1.extract 0 (t328 : Int).toNat) ++ (strOfNums y334)) ++ (x1_1.extract ((ji32) : Int).toNat x1_1.size)) a2 (wrap64 (x7_1 - 1)) s0_0 t338 t339) else (none)) else (none)) else (none)) = some (r1, r2, r3) := by first | (rw [hji32] at H; exact H)
             have hji32w : (IntKind.i64.wrap (t328 + 1)) = ji32 := (i64_w _).trans hji32
             by_cases c33 : 0 ≤ (ji32)
             ·rw [if_pos c33] at H
              have c33b0 := eq_true c33
              have c33b1 : decide (0 ≤ (ji32)) = true := decide_eq_true c33
              clear c33
              by_cases c34 : (ji32) ≤ (x1_1.size : Int)
              ·rw [if_pos c34] at H
               have c34b0 := eq_true c34
               have c34b1 : decide ((ji32) ≤ (x1_1.size : Int)) = true := decide_eq_true c34
               clear c34
               by_cases c35 : ((x1_1.extract 0 (t328 : Int).toNat) ++ (strOfNums y334)).size + (x1_1.extract ((ji32) : Int).toNat x1_1.size).size ≤ 9223372036854775807
               ·rw [if_pos c35] at H
                have c35b0 := eq_true c35
                have c35b1 : decide (((x1_1.extract 0 (t328 : Int).toNat) ++ (strOfNums y334)).size + (x1_1.extract ((ji32) : Int).toNat x1_1.size).size ≤ 9223372036854775807) = true := decide_eq_true c35
                try have c35b2 : (9223372036854775807 < ((x1_1.extract 0 (t328 : Int).toNat) ++ (strOfNums y334)).size + (x1_1.extract ((ji32) : Int).toNat x1_1.size).size) = False := eq_false (Nat.not_lt.2 c35)
                have H' := am H
                clear H
                go_wp2_with (first | (go_at_call 52; (with_reducible refine (spec_l1Cur_pick.calls g s0_0 x1001_1 x1002_1 (x1_1.size : Int) t328 t329 t330 w0 _ (HI0.out) ?side2 A9.out).mono ?_); (case side2 => repeat (with_reducible first | exact HB.out)); rintro e w36 ⟨rfl, hi, hb, hk⟩; replace HK := am (KeepBut.trans HK.out hk (.inl rfl)); replace HB := am (hb); replace HI0 := am (hi); (try clear hb); (try clear hk); (try clear hi)) | (go_at_call 52; (with_reducible refine (spec_l1Cur_pick.calls g s0_0 t329 t330 (a2.size : Int) t331 t332 t333 w0 _ (HI0.out) ?side2 A10.out).mono ?_); (case side2 => repeat (with_reducible first | exact HB.out)); rintro e w37 ⟨rfl, hi, hb, hk⟩; replace HK := am (KeepBut.trans HK.out hk (.inl rfl)); replace HB := am (hb); replace HI0 := am (hi); (try clear hb); (try clear hk); (try clear hi); have p13 : 0 ≤ (t331 : Int) := of_decide_eq_true (by with_reducible assumption); have q13 : t331 < (a2.size : Int) := of_decide_eq_true (by with_reducible assumption); have hx13 := bt_at a2 t331; replace p13 := eq_true p13; replace q13 := eq_true q13) | ((with_reducible refine gate_dst (N := 32) rfl ?_); (try (refine gate_guard (by rfl) ?_; dsimp only)); refine Kd.R_lit (Kd.int .u8) _ 5 ?hg (N := 32) ?hd (xs := ([bt a2 t331] : List Int)) (inner := [.int .u8 (bt a2 t331)]) (ok := fun _ => True) (okp := fun _ => True) ?hr ?hp (fun _ hk => hk) trivial (Below.refl _ _) (Nat.le_refl _) (by simp) ?_; (case hd => rfl); (case hg => rfl); (case hr => go_simp; done); (case hp => exact (Reps.one (show Kd.M (Kd.int .u8) _ _ _ (bt a2 t331) [.int .u8 (bt a2 t331)] from rfl) (Reps.none _ _))); intro v335 w38 ho39 hb hg_ hnew_; clear hg_ hnew_; (rw [← Ny334.out] at ho39); have HO336 := am (Kd.R_lower ho39 (keep_size (w := w) (g := g) (row := none) HK.out)); replace HI0 := am (IsS71.below HI0.out hb); replace HK := am (KeepBut.trans HK.out (KeepBut.of_below hb g none) (.inl rfl)); replace HB := am (below_step HB.out hb); clear hb ho39; have hcv40 := own_string (P := Try.prog) Try.underlying22 Try.underlying5 Try.underlying9 (Kd.own_of_R HO336.out)) | (go_at_call 52; (with_reducible refine (spec_l1Cur_pick.calls g s0_0 t332 t333 3 t337 t338 t339 w0 _ (HI0.out) ?side2 A14.out).mono ?_); (case side2 => repeat (with_reducible first | exact HB.out)); rintro e w41 ⟨rfl, hi, hb, hk⟩; replace HO336 := am (Kd.R_mono (Kd.R_keep (IsS71.apart (show IsS71 w0 _ g s0_0 t332 t333 from by exact HI0.out) HO336.out (by decide)) hk (fun _ h => h.2)) (fun _ h => h.1)); replace HK := am (KeepBut.trans HK.out hk (.inl rfl)); replace HB := am (hb); replace HI0 := am (hi); (try clear hb); (try clear hk); (try clear hi)))
                repeat (go_quiet (fail); try go_wp2_with (fail))
                go_roundg kj5
                case measure => have := HK1.out; have := HJ5.out; omega
                case rel => exact ⟨(((x1_1.extract 0 (t328 : Int).toNat) ++ (strOfNums y334)) ++ (x1_1.extract ((ji32) : Int).toNat x1_1.size)), (wrap64 (x7_1 - 1)), (t338), (t339), (by rfl), (by rfl), H', ⟨by have := HK1.out; have := HJ5.out; omega⟩, ⟨by repeat (with_reducible first | exact HI0.out | apply IsS71.drewN)⟩, ⟨by repeat (with_reducible first | exact HK.out | apply keep_drewN)⟩, ⟨by repeat (with_reducible first | exact HB.out | apply pw_below_drewN)⟩⟩
               ·rw [if_neg c35] at H
                exact absurd H (by simp)
              ·rw [if_neg c34] at H
               exact absurd H (by simp)
             ·rw [if_neg c33] at H
              exact absurd H (by simp)
            ·rw [if_neg c31] at H
             exact absurd H (by simp)
           ·rw [if_neg c30] at H
            exact absurd H (by simp)
          ·rw [if_neg c29] at H
           exact absurd H (by simp)
         ·rw [if_neg c28] at H
          have c28b0 : (t337 == 1) = false := beq_eq_false_iff_ne.mpr c28
          have c28b1 : (t337 != 1) = true := bne_iff_ne.mpr c28
          by_cases c42 : 0 ≤ t328
          ·rw [if_pos c42] at H
           have c42b0 := eq_true c42
           have c42b1 : decide (0 ≤ t328) = true := decide_eq_true c42
           clear c42
           by_cases c43 : t328 ≤ (x1_1.size : Int)
           ·rw [if_pos c43] at H
            have c43b0 := eq_true c43
            have c43b1 : decide (t328 ≤ (x1_1.size : Int)) = true := decide_eq_true c43
            clear c43
            obtain ⟨ji44, hji44⟩ : ∃ j_ : Int, (wrap64 (t328 + 1)) = j_ := ⟨_, rfl⟩
            replace H : (if 0 ≤ (ji44) then (if (ji44) ≤ (x1_1.size : Int) then (if (x1_1.extract 0 (t328 : Int).toNat).size + (x1_1.extract ((ji44) : Int).toNat x1_1.size).size ≤ 9223372036854775807 then (spec_l1Cur_spoilt.l0 kj5 ((x1_1.extract 0 (t328 : Int).toNat) ++ (x1_1.extract ((ji44) : Int).toNat x1_1.size)) a2 (wrap64 (x7_1 - 1)) s0_0 t338 t339) else (none)) else (none)) else (none)) = some (r1, r2, r3) := by first | (rw [hji44] at H; exact H)
            have hji44w : (IntKind.i64.wrap (t328 + 1)) = ji44 := (i64_w _).trans hji44
            by_cases c45 : 0 ≤ (ji44)
            ·rw [if_pos c45] at H
             have c45b0 := eq_true c45
             have c45b1 : decide (0 ≤ (ji44)) = true := decide_eq_true c45
             clear c45
             by_cases c46 : (ji44) ≤ (x1_1.size : Int)
             ·rw [if_pos c46] at H
              have c46b0 := eq_true c46
              have c46b1 : decide ((ji44) ≤ (x1_1.size : Int)) = true := decide_eq_true c46
              clear c46
              by_cases c47 : (x1_1.extract 0 (t328 : Int).toNat).size + (x1_1.extract ((ji44) : Int).toNat x1_1.size).size ≤ 9223372036854775807
              ·rw [if_pos c47] at H
               have c47b0 := eq_true c47
               have c47b1 : decide ((x1_1.extract 0 (t328 : Int).toNat).size + (x1_1.extract ((ji44) : Int).toNat x1_1.size).size ≤ 9223372036854775807) = true := decide_eq_true c47
               try have c47b2 : (9223372036854775807 < (x1_1.extract 0 (t328 : Int).toNat).size + (x1_1.extract ((ji44) : Int).toNat x1_1.size).size) = False := eq_false (Nat.not_lt.2 c47)
               have H' := am H
               clear H
               go_wp2_with (first | (go_at_call 52; (with_reducible refine (spec_l1Cur_pick.calls g s0_0 x1001_1 x1002_1 (x1_1.size : Int) t328 t329 t330 w0 _ (HI0.out) ?side2 A9.out).mono ?_); (case side2 => repeat (with_reducible first | exact HB.out)); rintro e w48 ⟨rfl, hi, hb, hk⟩; replace HK := am (KeepBut.trans HK.out hk (.inl rfl)); replace HB := am (hb); replace HI0 := am (hi); (try clear hb); (try clear hk); (try clear hi)) | (go_at_call 52; (with_reducible refine (spec_l1Cur_pick.calls g s0_0 t329 t330 (a2.size : Int) t331 t332 t333 w0 _ (HI0.out) ?side2 A10.out).mono ?_); (case side2 => repeat (with_reducible first | exact HB.out)); rintro e w49 ⟨rfl, hi, hb, hk⟩; replace HK := am (KeepBut.trans HK.out hk (.inl rfl)); replace HB := am (hb); replace HI0 := am (hi); (try clear hb); (try clear hk); (try clear hi); have p13 : 0 ≤ (t331 : Int) := of_decide_eq_true (by with_reducible assumption); have q13 : t331 < (a2.size : Int) := of_decide_eq_true (by with_reducible assumption); have hx13 := bt_at a2 t331; replace p13 := eq_true p13; replace q13 := eq_true q13) | ((with_reducible refine gate_dst (N := 32) rfl ?_); (try (refine gate_guard (by rfl) ?_; dsimp only)); refine Kd.R_lit (Kd.int .u8) _ 5 ?hg (N := 32) ?hd (xs := ([bt a2 t331] : List Int)) (inner := [.int .u8 (bt a2 t331)]) (ok := fun _ => True) (okp := fun _ => True) ?hr ?hp (fun _ hk => hk) trivial (Below.refl _ _) (Nat.le_refl _) (by simp) ?_; (case hd => rfl); (case hg => rfl); (case hr => go_simp; done); (case hp => exact (Reps.one (show Kd.M (Kd.int .u8) _ _ _ (bt a2 t331) [.int .u8 (bt a2 t331)] from rfl) (Reps.none _ _))); intro v335 w50 ho51 hb hg_ hnew_; clear hg_ hnew_; (rw [← Ny334.out] at ho51); have HO336 := am (Kd.R_lower ho51 (keep_size (w := w) (g := g) (row := none) HK.out)); replace HI0 := am (IsS71.below HI0.out hb); replace HK := am (KeepBut.trans HK.out (KeepBut.of_below hb g none) (.inl rfl)); replace HB := am (below_step HB.out hb); clear hb ho51; have hcv52 := own_string (P := Try.prog) Try.underlying22 Try.underlying5 Try.underlying9 (Kd.own_of_R HO336.out)) | (go_at_call 52; (with_reducible refine (spec_l1Cur_pick.calls g s0_0 t332 t333 3 t337 t338 t339 w0 _ (HI0.out) ?side2 A14.out).mono ?_); (case side2 => repeat (with_reducible first | exact HB.out)); rintro e w53 ⟨rfl, hi, hb, hk⟩; replace HO336 := am (Kd.R_mono (Kd.R_keep (IsS71.apart (show IsS71 w0 _ g s0_0 t332 t333 from by exact HI0.out) HO336.out (by decide)) hk (fun _ h => h.2)) (fun _ h => h.1)); replace HK := am (KeepBut.trans HK.out hk (.inl rfl)); replace HB := am (hb); replace HI0 := am (hi); (try clear hb); (try clear hk); (try clear hi)))
               repeat (go_quiet (fail); try go_wp2_with (fail))
               go_roundg kj5
               case measure => have := HK1.out; have := HJ5.out; omega
               case rel => exact ⟨((x1_1.extract 0 (t328 : Int).toNat) ++ (x1_1.extract ((ji44) : Int).toNat x1_1.size)), (wrap64 (x7_1 - 1)), (t338), (t339), (by rfl), (by rfl), H', ⟨by have := HK1.out; have := HJ5.out; omega⟩, ⟨by repeat (with_reducible first | exact HI0.out | apply IsS71.drewN)⟩, ⟨by repeat (with_reducible first | exact HK.out | apply keep_drewN)⟩, ⟨by repeat (with_reducible first | exact HB.out | apply pw_below_drewN)⟩⟩
              ·rw [if_neg c47] at H
               exact absurd H (by simp)
             ·rw [if_neg c46] at H
              exact absurd H (by simp)
            ·rw [if_neg c45] at H
             exact absurd H (by simp)
           ·rw [if_neg c43] at H
            exact absurd H (by simp)
          ·rw [if_neg c42] at H
           exact absurd H (by simp)
       ·rw [if_neg c12] at H
        exact absurd H (by simp)
      ·rw [if_neg c11] at H
       exact absurd H (by simp)
     ·replace c8 := Bool.eq_false_iff.mpr c8
      subst c8
      rw [if_neg (show ¬ (false = true) by decide)] at H
      simp only [Option.some.injEq, Prod.mk.injEq] at H
      obtain ⟨rfl, rfl, rfl⟩ := H
      go_wp2
      go_ret
      exact ⟨by rfl, by exact HI0.out, by exact HB.out, by exact HK.out⟩
def spec_l1Cur_way.l0 : Nat → ByteArray → Int → List Int → Int → Int → Option (ByteArray × Int × Int)
 | 0, _, _, _, _, _ => none
 | k + 1, x3, x4, x1000, x1001, x1002 => if x4 > 0 then ((spec_l1Cur_of.f x1000 x1001 x1002 (([(⟨#[101]⟩ : ByteArray), (⟨#[110]⟩ : ByteArray), (⟨#[115]⟩ : ByteArray), (⟨#[119]⟩ : ByteArray)] : List ByteArray))).bind fun bt346 => (if x3.size + bt346.1.size ≤ 9223372036854775807 then (spec_l1Cur_way.l0 k (x3 ++ bt346.1) (wrap64 (x4 - 1)) x1000 bt346.2.1 bt346.2.2) else (none))) else ((spec_l1Cur_one.f x1000 x1001 x1002 10).bind fun bt349 => (if bt349.1 = true then ((spec_l1Cur_spoilt.f k x1000 bt349.2.1 bt349.2.2 x3 (⟨#[101, 110, 115, 120]⟩ : ByteArray)).bind fun bt352 => (some (bt352.1, bt352.2.1, bt352.2.2))) else (some (x3, bt349.2.1, bt349.2.2))))
def spec_l1Cur_way.f (k : Nat) (s0_0 : List Int) (s0_1 : Int) (s0_2 : Int) : Option (ByteArray × Int × Int) := (spec_l1Cur_pick.f s0_0 s0_1 s0_2 9).bind fun bt340 => (spec_l1Cur_way.l0 k (⟨#[]⟩ : ByteArray) bt340.1 s0_0 bt340.2.1 bt340.2.2)
theorem spec_l1Cur_way.calls (k : Nat) (g : Nat) (s0_0 : List Int) (s0_1 : Int) (s0_2 : Int) (r1 : ByteArray) (r2 : Int) (r3 : Int) (w0 w : World) (hI : IsS71 w0 w g s0_0 s0_1 s0_2) (hB : Below w0.heap.size w0 w) (h : spec_l1Cur_way.f k s0_0 s0_1 s0_2 = some (r1, r2, r3)) :
  Calls Try.prog 51 #[.pointer (some ⟨g, 0, none⟩)] w fun e w' => e = .returned (.string r1) ∧ IsS71 w0 w' g s0_0 r2 r3 ∧ Below w0.heap.size w0 w' ∧ KeepBut w w' g none := by
 have HI0 := am hI
 have HK := am (KeepBut.refl w g none)
 have HL := am hB.size
 clear hI
 have HW0 := am hB.size
 have HB := am hB
 clear hB
 unfold spec_l1Cur_way.f at h
 have H := h
 clear h
 obtain ⟨⟨t340, t341, t342⟩, A2, H⟩ := bnd_ H
 try dsimp only at H
 have H' := am H
 clear H
 go_enter Try.func51, Try.ntmps51
 go_wp2_with ((with_reducible refine gate_callee (f := 52) rfl ?_); refine gl_ 6 Try.func52 #[.pointer (some ⟨g, 0, none⟩), .int .i64 9] ?_; (with_reducible refine (spec_l1Cur_pick.calls g s0_0 s0_1 s0_2 9 t340 t341 t342 w0 _ (HI0.out) ?side2 A2.out).mono ?_); (case side2 => repeat (with_reducible first | exact HB.out)); rintro e w3 ⟨rfl, hi, hb, hk⟩; refine ⟨_, rfl, ?_⟩; replace HK := am (KeepBut.trans HK.out hk (.inl rfl)); replace HB := am (hb); replace HI0 := am (hi); (try clear hb); (try clear hk); (try clear hi))
 go_loopg [3, 4] k (fun kq v3 v4 w' => ∃ (x3_1 : ByteArray) (x4_1 : Int) (x1001_1 : Int) (x1002_1 : Int), v3 = .string x3_1 ∧ v4 = .int .i64 x4_1 ∧ Aside0 (spec_l1Cur_way.l0 kq x3_1 x4_1 s0_0 x1001_1 x1002_1 = some (r1, r2, r3)) ∧ Aside0 (kq ≤ k) ∧ Aside0 (IsS71 w0 w' g s0_0 x1001_1 x1002_1) ∧ Aside0 (KeepBut w w' g none) ∧ Aside0 (Below w0.heap.size w0 w'))
 case atStart => exact ⟨((⟨#[]⟩ : ByteArray)), (t340), (t341), (t342), (by rfl), (by rfl), H', ⟨Nat.le_refl _⟩, ⟨by exact HI0.out⟩, ⟨by exact HK.out⟩, ⟨by exact HB.out⟩⟩
 case round =>
  clear H'
  obtain ⟨x3_1, x4_1, x1001_1, x1002_1, rfl, rfl, HA, HK1, HI0, HK, HB⟩ := hrel
  cases gk with
  | zero => exact absurd HA.out (by simp [spec_l1Cur_way.l0])
  | succ k1 =>
   have H := HA.out
   clear HA
   simp only [spec_l1Cur_way.l0] at H
   by_cases c4 : x4_1 > 0
   ·rw [if_pos c4] at H
    have c4b0 : decide (0 < x4_1) = true := decide_eq_true c4
    clear c4
    obtain ⟨y343, hy343⟩ : ∃ y_ : List ByteArray, y_ = (([(⟨#[101]⟩ : ByteArray), (⟨#[110]⟩ : ByteArray), (⟨#[115]⟩ : ByteArray), (⟨#[119]⟩ : ByteArray)] : List ByteArray)) := ⟨_, rfl⟩
    rw [← hy343] at H
    have Ny343 := am hy343
    clear hy343
    obtain ⟨⟨t346, t347, t348⟩, A5, H⟩ := bnd_ H
    try dsimp only at H
    by_cases c6 : x3_1.size + t346.size ≤ 9223372036854775807
    ·rw [if_pos c6] at H
     have c6b0 := eq_true c6
     have c6b1 : decide (x3_1.size + t346.size ≤ 9223372036854775807) = true := decide_eq_true c6
     try have c6b2 : (9223372036854775807 < x3_1.size + t346.size) = False := eq_false (Nat.not_lt.2 c6)
     have H' := am H
     clear H
     go_wp2_with (first | ((with_reducible refine gate_dst (N := 13) rfl ?_); refine Kd.R_lit Kd.string _ 9 ?hg (N := 13) ?hd (xs := ([(⟨#[101]⟩ : ByteArray), (⟨#[110]⟩ : ByteArray), (⟨#[115]⟩ : ByteArray), (⟨#[119]⟩ : ByteArray)] : List ByteArray)) (inner := [.string (⟨#[101]⟩ : ByteArray), .string (⟨#[110]⟩ : ByteArray), .string (⟨#[115]⟩ : ByteArray), .string (⟨#[119]⟩ : ByteArray)]) (ok := fun _ => True) (okp := fun _ => True) ?hr ?hp (fun _ hk => hk) trivial (Below.refl _ _) (Nat.le_refl _) (by simp) ?_; (case hd => rfl); (case hg => rfl); (case hr => go_simp; done); (case hp => exact (Reps.one (show Kd.M Kd.string _ _ _ (⟨#[101]⟩ : ByteArray) [.string (⟨#[101]⟩ : ByteArray)] from rfl) (Reps.one (show Kd.M Kd.string _ _ _ (⟨#[110]⟩ : ByteArray) [.string (⟨#[110]⟩ : ByteArray)] from rfl) (Reps.one (show Kd.M Kd.string _ _ _ (⟨#[115]⟩ : ByteArray) [.string (⟨#[115]⟩ : ByteArray)] from rfl) (Reps.one (show Kd.M Kd.string _ _ _ (⟨#[119]⟩ : ByteArray) [.string (⟨#[119]⟩ : ByteArray)] from rfl) (Reps.none _ _)))))); intro v344 w7 ho8 hb hg_ hnew_; clear hg_ hnew_; (rw [← Ny343.out] at ho8); have HO345 := am (Kd.R_lower ho8 (keep_size (w := w) (g := g) (row := none) HK.out)); replace HI0 := am (IsS71.below HI0.out hb); replace HK := am (KeepBut.trans HK.out (KeepBut.of_below hb g none) (.inl rfl)); replace HB := am (below_step HB.out hb); clear hb ho8; obtain ⟨Ao9, co9, eo9⟩ := Kd.R_slice HO345.out; subst eo9) | ((with_reducible refine gate_callee (f := 53) rfl ?_); refine gl_ 14 Try.func53 #[.pointer (some ⟨g, 0, none⟩), .slice Ao9 y343.length co9] ?_; (with_reducible refine (spec_l1Cur_of.calls g s0_0 x1001_1 x1002_1 _ _ y343 t346 t347 t348 w0 _ (HI0.out) ?side2 ?side3 ?side4 ?side5 A5.out).mono ?_); (case side2 => repeat (with_reducible first | exact HB.out)); (case side3 => repeat (exact (Kd.R_reads' HO345.out).2.2)); (case side4 => exact (Kd.R_reads' HO345.out).2.1); (case side5 => exact far_slice (IsS71.own_ne HI0.out HO345.out (by decide))); rintro e w10 ⟨rfl, hi, hb, hk⟩; refine ⟨_, rfl, ?_⟩; replace HO345 := am (Kd.R_mono (Kd.R_keep (IsS71.apart (show IsS71 w0 _ g s0_0 x1001_1 x1002_1 from by exact HI0.out) HO345.out (by decide)) hk (fun _ h => h.2)) (fun _ h => h.1)); replace HK := am (KeepBut.trans HK.out hk (.inl rfl)); replace HB := am (hb); replace HI0 := am (hi); (try clear hb); (try clear hk); (try clear hi)))
     go_roundg k1
     case measure => have := HK1.out; omega
     case rel => exact ⟨(x3_1 ++ t346), (wrap64 (x4_1 - 1)), (t347), (t348), (by rfl), (by rfl), H', ⟨by have := HK1.out; omega⟩, ⟨by exact HI0.out⟩, ⟨by exact HK.out⟩, ⟨by exact HB.out⟩⟩
    ·rw [if_neg c6] at H
     exact absurd H (by simp)
   ·rw [if_neg c4] at H
    have c4b0 : decide (0 < x4_1) = false := decide_eq_false c4
    clear c4
    obtain ⟨⟨t349, t350, t351⟩, A11, H⟩ := bnd_ H
    try dsimp only at H
    by_cases c12 : t349 = true
    ·subst c12
     rw [if_pos rfl] at H
     obtain ⟨⟨t352, t353, t354⟩, A13, H⟩ := bnd_ H
     try dsimp only at H
     simp only [Option.some.injEq, Prod.mk.injEq] at H
     obtain ⟨rfl, rfl, rfl⟩ := H
     go_wp2_with (first | ((with_reducible refine gate_callee (f := 48) rfl ?_); refine gl_ 17 Try.func48 #[.pointer (some ⟨g, 0, none⟩), .int .i64 10] ?_; (with_reducible refine (spec_l1Cur_one.calls g s0_0 x1001_1 x1002_1 10 true t350 t351 w0 _ (HI0.out) ?side2 A11.out).mono ?_); (case side2 => repeat (with_reducible first | exact HB.out)); rintro e w14 ⟨rfl, hi, hb, hk⟩; refine ⟨_, rfl, ?_⟩; replace HK := am (KeepBut.trans HK.out hk (.inl rfl)); replace HB := am (hb); replace HI0 := am (hi); (try clear hb); (try clear hk); (try clear hi)) | ((with_reducible refine gate_callee (f := 71) rfl ?_); refine gl_ 20 Try.func71 #[.pointer (some ⟨g, 0, none⟩), .string x3_1, .string (⟨#[101, 110, 115, 120]⟩ : ByteArray)] ?_; (with_reducible refine (spec_l1Cur_spoilt.calls k1 g s0_0 t350 t351 x3_1 (⟨#[101, 110, 115, 120]⟩ : ByteArray) t352 t353 t354 w0 _ (HI0.out) ?side2 A13.out).mono ?_); (case side2 => repeat (with_reducible first | exact HB.out)); rintro e w15 ⟨rfl, hi, hb, hk⟩; refine ⟨_, rfl, ?_⟩; replace HK := am (KeepBut.trans HK.out hk (.inl rfl)); replace HB := am (hb); replace HI0 := am (hi); (try clear hb); (try clear hk); (try clear hi)))
     go_ret
     exact ⟨by rfl, by exact HI0.out, by exact HB.out, by exact HK.out⟩
    ·replace c12 := Bool.eq_false_iff.mpr c12
     subst c12
     rw [if_neg (show ¬ (false = true) by decide)] at H
     simp only [Option.some.injEq, Prod.mk.injEq] at H
     obtain ⟨rfl, rfl, rfl⟩ := H
     go_wp2_with ((with_reducible refine gate_callee (f := 48) rfl ?_); refine gl_ 17 Try.func48 #[.pointer (some ⟨g, 0, none⟩), .int .i64 10] ?_; (with_reducible refine (spec_l1Cur_one.calls g s0_0 x1001_1 x1002_1 10 false t350 t351 w0 _ (HI0.out) ?side2 A11.out).mono ?_); (case side2 => repeat (with_reducible first | exact HB.out)); rintro e w16 ⟨rfl, hi, hb, hk⟩; refine ⟨_, rfl, ?_⟩; replace HK := am (KeepBut.trans HK.out hk (.inl rfl)); replace HB := am (hb); replace HI0 := am (hi); (try clear hb); (try clear hk); (try clear hi))
     go_ret
     exact ⟨by rfl, by exact HI0.out, by exact HB.out, by exact HK.out⟩
end Go.Proofs.Ytdhdkkhbgfcoiaa.MX
