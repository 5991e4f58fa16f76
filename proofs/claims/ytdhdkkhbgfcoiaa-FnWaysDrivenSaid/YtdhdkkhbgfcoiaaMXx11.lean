-- The machine side, written by this repo's program mp.py; contracts marked as of this repo are this session's own.
import Derived.Test.YtdhdkkhbgfcoiaaMXx0
import Derived.Test.YtdhdkkhbgfcoiaaMXx4
import Derived.Test.YtdhdkkhbgfcoiaaMXx5
import Derived.Test.YtdhdkkhbgfcoiaaMXx6
import Derived.Test.YtdhdkkhbgfcoiaaMXx7
import Derived.Test.YtdhdkkhbgfcoiaaMXx10
namespace Go.Proofs.Ytdhdkkhbgfcoiaa.MX
open Go.RowKit Go.Proofs.YtdhdkkhbgfcoiaaW.PrintWords Go.Proofs.YtdhdkkhbgfcoiaaW.PrintLast Go.Proofs.YtdhdkkhbgfcoiaaW.PrintMore
attribute [local go_sem] max2_int min2_int max_two min_two max_three min_three max_four min_four   -- for this text's walks alone
set_option maxHeartbeats 16000000
set_option maxRecDepth 100000
set_option linter.unusedVariables false
set_option linter.unusedSimpArgs false
theorem impl_DriveDistance.more_ {P : Program} {md : Region.Mode} {ops : Array Oper} {Q : Exit → Act → World → Prop} {S S' : World → Prop} (hSS : ∀ w, S' w → S w) : ∀ (fuel : Nat) (l : Array Bool) (a : Act) (w : World), S' w → wpAnyLast P md ops Q S' [] fuel l a w → wpAnyLast P md ops Q S [] fuel l a w
 | 0, _, _, _, _, h => h
 | fuel + 1, _, _, _, hw, h => ⟨h.1, fun i hi => wpOp_mono (fun a' w' h' => ⟨fun _ _ => hSS _ (h'.1 (by simp) hw), impl_DriveDistance.more_ hSS fuel _ a' w' (h'.1 (by simp) hw) h'.2⟩) (h.2 i hi)⟩
theorem impl_DriveDistance.two {w : World} {A : Option Addr} {l : List Int} (hl : l.length = 2) (hr : Kd.C (Kd.int .i64) w A l.length l) : ∃ ad, A = some ad ∧ w.cell? ad = some (.int .i64 (rd l 0)) ∧ w.cell? { block := ad.block, off := ad.off + 1 } = some (.int .i64 (rd l 1)) := by
 obtain ⟨ad0, hA, hx0⟩ := Kd.at_int hr 0 (by omega) (by omega)
 obtain ⟨ad1, hA1, hx1⟩ := Kd.at_int hr 1 (by omega) (by omega)
 subst hA
 obtain rfl : ad0 = ad1 := by injection hA1
 rw [show (0 : Int).toNat = 0 from rfl, Addr.add_zero'] at hx0
 simp only [show (1 : Int).toNat = 1 from rfl, Nat.reduceMul, Nat.reduceEqDiff, Go.Addr.add, ↓reduceIte] at hx1
 exact ⟨ad0, rfl, hx0, hx1⟩
def impl_DriveDistance.T3 : Bool × List (List Nat × List Nat) := (true, [([], []), ([], []), ([0, 1], [0, 1]), ([], []), ([3], [3]), ([4], [4]), ([2, 5], [2, 5]), ([6], [6]), ([], []), ([8], [8]), ([9], [9]), ([7, 10], [7, 10]), ([11], [11]), ([12, 2, 0, 1, 2, 3, 4, 5, 6, 7, 8, 9, 10, 11, 12], [12])])
def impl_DriveDistance.B3 : List Nat := [0, 0, 3, 0, 8, 24, 63, 127, 0, 256, 768, 2047, 4095, 8191]
theorem impl_DriveDistance.tab3 : rtab .any (opsOf Try.f8 3) = impl_DriveDistance.T3 := by kernel_rfl
theorem impl_DriveDistance.bits3 : waitsOk impl_DriveDistance.T3.2 impl_DriveDistance.B3 = true := by kernel_rfl
def impl_DriveDistance.Q (rows : List (List Int)) (l : List Int) : Prop := (l.length = 2 ∧ rows.length ≤ 1048576) ∧ (0 ≤ rd l 0 ∧ rd l 0 < rows.length) ∧ 0 ≤ rd l 1 ∧ rd l 1 < (rows.getD (rd l 0).toNat []).length
instance (rows : List (List Int)) (l : List Int) : Decidable (impl_DriveDistance.Q rows l) := by unfold impl_DriveDistance.Q; infer_instance
def impl_DriveDistance.val (rows : List (List Int)) (l : List Int) : Int := rd (rows.getD (rd l 0).toNat []) (rd l 1)
theorem impl_DriveDistance.at_ {w : World} {B : Nat} {v : Value} {rows : List (List Int)} {l : List Int} (h : Kd.S (Kd.slice 3 (Kd.int .i64)) 26 w B (fun _ => True) v rows) (x y : Nat) (hq : impl_DriveDistance.Q rows l) (hx : rd l 0 = x) (hy : rd l 1 = y) :
  ∃ g c g2 c2 n2, v = .slice (some ⟨g, 0, none⟩) rows.length c ∧ w.cell? ⟨g, x, none⟩ = some (.slice (some ⟨g2, 0, none⟩) n2 c2) ∧ w.cell? ⟨g2, y, none⟩ = some (.int .i64 (impl_DriveDistance.val rows l)) ∧ x < rows.length ∧ y < n2 := by
 obtain ⟨-, ⟨x0, x1⟩, y0, y1⟩ := hq
 have hv : impl_DriveDistance.val rows l = rd (rows.getD x []) (y : Int) := by unfold impl_DriveDistance.val; rw [hx, hy, Int.toNat_natCast]
 rw [hx] at x0 x1 y1
 rw [hy, Int.toNat_natCast] at y1
 have hR := Kd.S_R h
 obtain ⟨g, c, rfl, -⟩ := Kd.R_form hR (by omega)
 obtain ⟨cs, hcl, ⟨vr, rfl, hRr⟩, hcc⟩ := Kd.R_getA hR [] (x : Int) (by omega) (by omega)
 rw [Int.toNat_natCast] at hRr hcc
 obtain ⟨g2, c2, rfl, -⟩ := Kd.R_form hRr (by omega)
 obtain ⟨ad, hA, hcell⟩ := Kd.at_int (Kd.R_reads' hRr).2.2 (y : Int) (by omega) (by omega)
 injection hA with hA
 subst hA
 have h0 := hcc 0 _ rfl
 rw [Addr.add_lit] at h0
 rw [Int.toNat_natCast, Addr.add_lit, Nat.zero_add] at hcell
 rw [hv]
 exact ⟨g, c, g2, c2, (rows.getD x []).length, rfl, by simpa [Kd.slice] using h0, hcell, by omega, by omega⟩
def impl_DriveDistance.f (k : Nat) (s t : ByteArray) (l1 l2 : List Int) : Option (Int × Bool) := (impl_areDriven.f k s t [l1, l2]).bind fun b => if b = true then ((impl_drivesTo.f k s t l2).bind fun rows => if impl_DriveDistance.Q rows l1 then some (mx 0 (impl_DriveDistance.val rows l1), decide (impl_DriveDistance.val rows l1 ≥ 0)) else none) else some (0, false)
theorem impl_DriveDistance.calls (k : Nat) (a0_0 : ByteArray) (a0_1 : ByteArray) (A1 : Option Addr) (c1 : Nat) (l1 : List Int) (A2 : Option Addr) (c2 : Nat) (l2 : List Int) (r1 : Int) (r2 : Bool) (w : World) (hr1 : Kd.C (Kd.int .i64) w A1 l1.length l1) (hc1 : l1.length ≤ c1) (hr2 : Kd.C (Kd.int .i64) w A2 l2.length l2) (hc2 : l2.length ≤ c2) (h : impl_DriveDistance.f k a0_0 a0_1 l1 l2 = some (r1, r2)) :
  Calls Try.prog 8 #[.agg #[.string a0_0, .string a0_1], .slice A1 l1.length c1, .slice A2 l2.length c2] w fun e w' => e = .returned (.tuple #[.int .i64 r1, .bool r2]) ∧ Below w.heap.size w w' := by
 unfold impl_DriveDistance.f at h
 obtain ⟨b, hb, h⟩ := Option.bind_eq_some_iff.1 h
 have HBo := am hb
 clear hb
 obtain ⟨wb, hwb⟩ : ∃ wb : World, w.alloc (.cells #[.string a0_0, .string a0_1] 25) = wb := ⟨_, rfl⟩
 have HBX := am (show wb.heap[w.heap.size]? = some (.cells #[.string a0_0, .string a0_1] 25 (0, 0)) by rw [← hwb]; exact heap_alloc_new _ _)
 have HB := am (show Below w.heap.size w wb by rw [← hwb]; exact below_alloc (Below.refl _ _) _)
 have hp0 : wb.cell? ⟨w.heap.size, 0, none⟩ = some (.string a0_0) := (blk_cell HBX.out 0).trans rfl
 have hp1 : wb.cell? ⟨w.heap.size, 1, none⟩ = some (.string a0_1) := (blk_cell HBX.out 1).trans rfl
 obtain ⟨wl, hwl⟩ : ∃ wl : World, wb.alloc (.cells #[.slice A1 l1.length c1, .slice A2 l2.length c2] 26) = wl := ⟨_, rfl⟩
 have HBl := am (show Below wb.heap.size wb wl by rw [← hwl]; exact below_alloc (Below.refl _ _) _)
 obtain ⟨gl, hgl⟩ : ∃ gl, gl = wb.heap.size := ⟨_, rfl⟩
 have HLX := am (show wl.heap[gl]? = some (.cells #[.slice A1 l1.length c1, .slice A2 l2.length c2] 26 (0, 0)) by rw [← hwl, hgl]; exact heap_alloc_new _ _)
 have HBw := am (below_then HB.out HB.out.size HBl.out)
 have HR1 := am (Kd.C_below hr1 HBw.out)
 have HR2 := am (Kd.C_below hr2 HBw.out)
 have HC1 := am hc1
 have HC2 := am hc2
 have HL := am (impl_areDriven.lit2 ((blk_cell HLX.out 0).trans rfl) ((blk_cell HLX.out 1).trans rfl) hc1 hc2 HR1.out HR2.out)
 rw [hgl] at HL
 have HBXl := am ((HBl.out.block _ (Array.getElem?_eq_some_iff.1 HBX.out).1).trans HBX.out)
 clear hr1 hr2 hc1 hc2 HBl HLX hgl
 cases b with
 | false =>
  rw [if_neg (by simp)] at h
  simp only [Option.some.injEq, Prod.mk.injEq] at h
  obtain ⟨rfl, rfl⟩ := h
  go_enter Try.func8, Try.ntmps8
  go_wp2_with (go_at_call 29; refine (impl_areDriven.calls k a0_0 a0_1 _ 2 [l1, l2] false _ HL.out (by simp) HBo.out).mono ?_; rintro e w1 ⟨rfl, hb1⟩; have HB1 := am (below_then HBw.out HBw.out.size hb1); clear hb1)
  go_ret2
  exact ⟨rfl, HB1.out⟩
 | true =>
  rw [if_pos rfl] at h
  obtain ⟨rows, hD, h⟩ := Option.bind_eq_some_iff.1 h
  by_cases q : impl_DriveDistance.Q rows l1
  case neg => rw [if_neg q] at h; cases h
  rw [if_pos q] at h
  simp only [Option.some.injEq, Prod.mk.injEq] at h
  obtain ⟨rfl, rfl⟩ := h
  have HD := am hD
  have HQ := am q
  obtain ⟨x, hx⟩ := Int.eq_ofNat_of_zero_le q.2.1.1
  obtain ⟨y, hy⟩ := Int.eq_ofNat_of_zero_le q.2.2.1
  have HX := am hx
  have HY := am hy
  obtain ⟨ad, rfl, hx0, hx1⟩ := impl_DriveDistance.two q.1.1 HR1.out
  rw [hx] at hx0
  rw [hy] at hx1
  have HX0 := am hx0
  have HX1 := am hx1
  have hl := q.1.1
  clear hD q hx hy hx0 hx1
  rw [hl] at hwl ⊢
  clear hl
  go_enter Try.func8, Try.ntmps8
  go_wp2_with (go_at_call 29; refine (impl_areDriven.calls k a0_0 a0_1 _ 2 [l1, l2] true _ HL.out (by simp) HBo.out).mono ?_; rintro e w1 ⟨rfl, hb1⟩; have HB1 := am (below_then HBw.out HBw.out.size hb1); have HBX1 := am ((hb1.block _ (Array.getElem?_eq_some_iff.1 HBXl.out).1).trans HBXl.out); have HR21 := am (Kd.C_below HR2.out hb1); have HX01 := am (pw_cell_below hb1 HX0.out); have HX11 := am (pw_cell_below hb1 HX1.out); clear hb1)
  clear hwb hwl hp0 hp1
  have HBd := am (below_drew1 HB1.out)
  have HR2d := am (Kd.C_drew HR21.out)
  have hb0 : w1.drew.cell? ⟨w.heap.size, 0, none⟩ = some (.string a0_0) := (blk_cell (blk_drew HBX1.out) 0).trans rfl
  have hb1 : w1.drew.cell? ⟨w.heap.size, 1, none⟩ = some (.string a0_1) := (blk_cell (blk_drew HBX1.out) 1).trans rfl
  have hq0 : w1.drew.cell? ad = some (.int .i64 x) := HX01.out
  have hq1 : w1.drew.cell? { block := ad.block, off := ad.off + 1 } = some (.int .i64 y) := HX11.out
  refine start_ (n := 14) (S := fun w' => w'.cell? ⟨w.heap.size, 0, none⟩ = some (.string a0_0) ∧ w'.cell? ⟨w.heap.size, 1, none⟩ = some (.string a0_1) ∧ w'.cell? ad = some (.int .i64 x) ∧ w'.cell? { block := ad.block, off := ad.off + 1 } = some (.int .i64 y)) (ds := []) #[false, false, false, false, false, false, false, false, false, false, false, false, false, false] (by kernel_rfl) rfl rfl ⟨hb0, hb1, hq0, hq1⟩ (fun hHeld => ?_); refine with_tabW impl_DriveDistance.tab3 impl_DriveDistance.bits3 (fun HT_ HW_ => ?_)
  generalize w1.drew = w2 at HBd HR2d hb0 hb1 hq0 hq1 hHeld ⊢
  refine tk_ 0 15 (fl_ 14 1) HT_ HW_ hHeld ?_ (hy := by rintro w' ⟨s0, s1, s2, s3⟩; go_simp; with_reducible rfl)
  refine pu_ 1 16 (fl_ 14 3) HT_ ?_
  refine pu_ 3 18 (fl_ 14 11) HT_ ?_
  refine pu_ 4 19 (fl_ 14 27) HT_ ?_
  refine tk_ 5 20 (fl_ 14 59) HT_ HW_ hHeld ?_ (hy := by rintro w' ⟨s0, s1, s2, s3⟩; go_simp; with_reducible rfl)
  refine pu_ 8 23 (fl_ 14 315) HT_ ?_
  refine pu_ 9 24 (fl_ 14 827) HT_ ?_
  refine tk_ 10 25 (fl_ 14 1851) HT_ HW_ hHeld ?_ (hy := by rintro w' ⟨s0, s1, s2, s3⟩; go_simp; with_reducible rfl)
  refine on_ 2 17 (fl_ 14 1855) HT_ fun K hK => ?_
  refine gs_ Try.func30 #[.agg #[.string a0_0, .string a0_1], .slice A2 l2.length c2] ?_
  with_reducible refine (impl_drivesTo.calls k a0_0 a0_1 A2 c2 l2 rows _ HR2d.out HC2.out HD.out).mono ?_
  rintro e w3 ⟨v0, rfl, hS, hb3⟩
  refine ⟨_, rfl, ?_⟩
  have HB3 := am (below_then HBd.out HBd.out.size hb3)
  have hc0 := pw_cell_below hb3 hb0
  have hc1 := pw_cell_below hb3 hb1
  have hc2 := pw_cell_below hb3 hq0
  have hc3 := pw_cell_below hb3 hq1
  obtain ⟨g3, c3, g4, c4, n4, rfl, hv0, hv1, hxl, hyl⟩ := impl_DriveDistance.at_ hS x y HQ.out HX.out HY.out
  clear hS hb3
  refine hK.out _ _ ⟨hc0, hc1, hc2, hc3⟩ (fun hHeld => ?_)
  clear hK K
  refine nm_ 17 ?_
  refine impl_DriveDistance.more_ (S' := fun w' => w'.cell? ⟨w.heap.size, 0, none⟩ = some (.string a0_0) ∧ w'.cell? ⟨w.heap.size, 1, none⟩ = some (.string a0_1) ∧ w'.cell? ad = some (.int .i64 x) ∧ w'.cell? { block := ad.block, off := ad.off + 1 } = some (.int .i64 y) ∧ w'.cell? ⟨g3, x, none⟩ = some (.slice (some ⟨g4, 0, none⟩) n4 c4) ∧ w'.cell? ⟨g4, y, none⟩ = some (.int .i64 (impl_DriveDistance.val rows l1))) (fun _ h => ⟨h.1, h.2.1, h.2.2.1, h.2.2.2.1⟩) _ _ _ _ ⟨hc0, hc1, hc2, hc3, hv0, hv1⟩ ?_
  have hHeld := (show (fun w' => w'.cell? ⟨w.heap.size, 0, none⟩ = some (.string a0_0) ∧ w'.cell? ⟨w.heap.size, 1, none⟩ = some (.string a0_1) ∧ w'.cell? ad = some (.int .i64 x) ∧ w'.cell? { block := ad.block, off := ad.off + 1 } = some (.int .i64 y) ∧ w'.cell? ⟨g3, x, none⟩ = some (.slice (some ⟨g4, 0, none⟩) n4 c4) ∧ w'.cell? ⟨g4, y, none⟩ = some (.int .i64 (impl_DriveDistance.val rows l1))) w3 from ⟨hc0, hc1, hc2, hc3, hv0, hv1⟩)
  refine pu_ 6 21 (fl_ 14 1919) HT_ ?_
  refine tk_ 7 22 (fl_ 14 2047) HT_ HW_ hHeld ?_ (hy := by rintro w' ⟨s0, s1, s2, s3, s4, s5⟩; go_simp; with_reducible rfl)
  refine pu_ 11 26 (fl_ 14 4095) HT_ ?_
  refine tk_ 12 27 (fl_ 14 8191) HT_ HW_ hHeld ?_ (hy := by rintro w' ⟨s0, s1, s2, s3, s4, s5⟩; go_simp; with_reducible rfl)
  refine pu_ 13 8 (fl_ 14 16383) HT_ ?_
  refine done_ (done_of HT_.out (by kernel_rfl)) ?_
  by_cases p : 0 < impl_DriveDistance.val rows l1
  ·have em : mx 0 (impl_DriveDistance.val rows l1) = impl_DriveDistance.val rows l1 := by unfold mx; rw [if_pos p]
   go_wp2
   go_ret2
   exact ⟨by rfl, HB3.out⟩
  ·have em : mx 0 (impl_DriveDistance.val rows l1) = 0 := by unfold mx; rw [if_neg p]
   go_wp2
   go_ret2
   exact ⟨by rfl, HB3.out⟩
def spec_DriveDistance.f (k : Nat) (a0_0 : ByteArray) (a0_1 : ByteArray) (l1 : List Int) (l2 : List Int) : Option (Int × Bool) := (spec_owAsked.f k a0_0 a0_1 l1 l2).bind fun t286 => (if t286 = true then ((spec_owDistance.f k a0_0 a0_1 l1 l2).bind fun t287 => (if t287 < 0 then (some (0, false)) else ((spec_owDistance.f k a0_0 a0_1 l1 l2).bind fun t288 => (some (t288, true))))) else (some (0, false)))
theorem spec_DriveDistance.calls (k : Nat) (a0_0 : ByteArray) (a0_1 : ByteArray) (A1 : Option Addr) (c1 : Nat) (l1 : List Int) (A2 : Option Addr) (c2 : Nat) (l2 : List Int) (r1 : Int) (r2 : Bool) (w : World) (hr1 : Kd.C (Kd.int .i64) w A1 l1.length l1) (hc1 : l1.length ≤ c1) (hr2 : Kd.C (Kd.int .i64) w A2 l2.length l2) (hc2 : l2.length ≤ c2) (h : spec_DriveDistance.f k a0_0 a0_1 l1 l2 = some (r1, r2)) :
  Calls Try.prog 9 #[.agg #[.string a0_0, .string a0_1], .slice A1 l1.length c1, .slice A2 l2.length c2] w fun e w' => e = .returned (.tuple #[.int .i64 r1, .bool r2]) ∧ Below w.heap.size w w' := by
 have hu25 := Try.underlying25
 have HR1 := am hr1
 have HC1 := am hc1
 clear hr1 hc1
 have HR2 := am hr2
 have HC2 := am hc2
 clear hr2 hc2
 have HB := am (Below.refl w.heap.size w)
 unfold spec_DriveDistance.f at h
 have H := h
 clear h
 obtain ⟨t286, A4, H⟩ := bnd_ H
 try dsimp only at H
 by_cases c5 : t286 = true
 ·subst c5
  rw [if_pos rfl] at H
  obtain ⟨t287, A6, H⟩ := bnd_ H
  try dsimp only at H
  by_cases c7 : t287 < 0
  ·rw [if_pos c7] at H
   have c7b0 : decide (t287 < 0) = true := decide_eq_true c7
   clear c7
   simp only [Option.some.injEq, Prod.mk.injEq] at H
   obtain ⟨rfl, rfl⟩ := H
   go_enter Try.func9, Try.ntmps9
   go_wp2_with (first | ((with_reducible refine gate_dst (N := 3) rfl ?_); refine bx_ 3 (#[.string a0_0, .string a0_1]) 25 ?_; intro gb285 hg w8 hbox hb; have BK285 := am (hbox); have GW285 := am ((by rw [hg]; exact (below_size HB.out) : w.heap.size ≤ gb285)); have GE285 := am ((by rw [hg]; exact (below_size HB.out) : w.heap.size ≤ gb285)); replace HB := am (below_step HB.out hb); clear hb hbox hg; have hcz9_0 := cz0_ BK285; have hcz9_1 := cz1_ BK285; have hfz9_0 := blk_frozen BK285.out 0; have hfz9_1 := blk_frozen BK285.out 1) | ((with_reducible refine gate_callee (f := 33) rfl ?_); refine gl_ 11 Try.func33 #[.agg #[.string a0_0, .string a0_1], .slice A1 l1.length c1, .slice A2 l2.length c2] ?_; (with_reducible refine (spec_owAsked.calls k a0_0 a0_1 _ _ l1 _ _ l2 true _ ((Kd.C_below HR1.out HB.out)) ?side2 ?side3 ?side4 A4.out).mono ?_); (case side2 => exact HC1.out); (case side3 => repeat (exact (Kd.C_below HR2.out HB.out))); (case side4 => exact HC2.out); rintro e w10 ⟨rfl, hb⟩; refine ⟨_, rfl, ?_⟩; replace BK285 := am (blk_below BK285.out hb); replace HB := am (below_step HB.out hb); (try clear hb); have hcz11_0 := cz0_ BK285; have hcz11_1 := cz1_ BK285; have hfz11_0 := blk_frozen BK285.out 0; have hfz11_1 := blk_frozen BK285.out 1) | (go_at_call 34; (with_reducible refine (spec_owDistance.calls k a0_0 a0_1 _ _ l1 _ _ l2 t287 _ ((Kd.C_below HR1.out HB.out)) ?side2 ?side3 ?side4 A6.out).mono ?_); (case side2 => exact HC1.out); (case side3 => repeat (exact (Kd.C_below HR2.out HB.out))); (case side4 => exact HC2.out); rintro e w12 ⟨rfl, hb⟩; replace BK285 := am (blk_below BK285.out hb); replace HB := am (below_step HB.out hb); (try clear hb)))
   go_ret2
   exact ⟨by rfl, by exact HB.out⟩
  ·rw [if_neg c7] at H
   have c7b0 : decide (t287 < 0) = false := decide_eq_false c7
   clear c7
   obtain ⟨t288, A13, H⟩ := bnd_ H
   try dsimp only at H
   simp only [Option.some.injEq, Prod.mk.injEq] at H
   obtain ⟨rfl, rfl⟩ := H
   go_enter Try.func9, Try.ntmps9
   go_wp2_with (first | ((with_reducible refine gate_dst (N := 3) rfl ?_); refine bx_ 3 (#[.string a0_0, .string a0_1]) 25 ?_; intro gb285 hg w14 hbox hb; have BK285 := am (hbox); have GW285 := am ((by rw [hg]; exact (below_size HB.out) : w.heap.size ≤ gb285)); have GE285 := am ((by rw [hg]; exact (below_size HB.out) : w.heap.size ≤ gb285)); replace HB := am (below_step HB.out hb); clear hb hbox hg; have hcz15_0 := cz0_ BK285; have hcz15_1 := cz1_ BK285; have hfz15_0 := blk_frozen BK285.out 0; have hfz15_1 := blk_frozen BK285.out 1) | ((with_reducible refine gate_callee (f := 33) rfl ?_); refine gl_ 11 Try.func33 #[.agg #[.string a0_0, .string a0_1], .slice A1 l1.length c1, .slice A2 l2.length c2] ?_; (with_reducible refine (spec_owAsked.calls k a0_0 a0_1 _ _ l1 _ _ l2 true _ ((Kd.C_below HR1.out HB.out)) ?side2 ?side3 ?side4 A4.out).mono ?_); (case side2 => exact HC1.out); (case side3 => repeat (exact (Kd.C_below HR2.out HB.out))); (case side4 => exact HC2.out); rintro e w16 ⟨rfl, hb⟩; refine ⟨_, rfl, ?_⟩; replace BK285 := am (blk_below BK285.out hb); replace HB := am (below_step HB.out hb); (try clear hb); have hcz17_0 := cz0_ BK285; have hcz17_1 := cz1_ BK285; have hfz17_0 := blk_frozen BK285.out 0; have hfz17_1 := blk_frozen BK285.out 1) | (go_at_call 34; (with_reducible refine (spec_owDistance.calls k a0_0 a0_1 _ _ l1 _ _ l2 t287 _ ((Kd.C_below HR1.out HB.out)) ?side2 ?side3 ?side4 A6.out).mono ?_); (case side2 => exact HC1.out); (case side3 => repeat (exact (Kd.C_below HR2.out HB.out))); (case side4 => exact HC2.out); rintro e w18 ⟨rfl, hb⟩; replace BK285 := am (blk_below BK285.out hb); replace HB := am (below_step HB.out hb); (try clear hb); have hcz19_0 := cz0_ BK285; have hcz19_1 := cz1_ BK285; have hfz19_0 := blk_frozen BK285.out 0; have hfz19_1 := blk_frozen BK285.out 1) | ((with_reducible refine gate_callee (f := 34) rfl ?_); refine gl_ 23 Try.func34 #[.agg #[.string a0_0, .string a0_1], .slice A1 l1.length c1, .slice A2 l2.length c2] ?_; (with_reducible refine (spec_owDistance.calls k a0_0 a0_1 _ _ l1 _ _ l2 t288 _ ((Kd.C_below HR1.out HB.out)) ?side2 ?side3 ?side4 A13.out).mono ?_); (case side2 => exact HC1.out); (case side3 => repeat (exact (Kd.C_below HR2.out HB.out))); (case side4 => exact HC2.out); rintro e w20 ⟨rfl, hb⟩; refine ⟨_, rfl, ?_⟩; replace BK285 := am (blk_below BK285.out hb); replace HB := am (below_step HB.out hb); (try clear hb)))
   go_ret2
   exact ⟨by rfl, by exact HB.out⟩
 ·replace c5 := Bool.eq_false_iff.mpr c5
  subst c5
  rw [if_neg (show ¬ (false = true) by decide)] at H
  simp only [Option.some.injEq, Prod.mk.injEq] at H
  obtain ⟨rfl, rfl⟩ := H
  go_enter Try.func9, Try.ntmps9
  go_wp2_with (first | ((with_reducible refine gate_dst (N := 3) rfl ?_); refine bx_ 3 (#[.string a0_0, .string a0_1]) 25 ?_; intro gb285 hg w21 hbox hb; have BK285 := am (hbox); have GW285 := am ((by rw [hg]; exact (below_size HB.out) : w.heap.size ≤ gb285)); have GE285 := am ((by rw [hg]; exact (below_size HB.out) : w.heap.size ≤ gb285)); replace HB := am (below_step HB.out hb); clear hb hbox hg; have hcz22_0 := cz0_ BK285; have hcz22_1 := cz1_ BK285; have hfz22_0 := blk_frozen BK285.out 0; have hfz22_1 := blk_frozen BK285.out 1) | ((with_reducible refine gate_callee (f := 33) rfl ?_); refine gl_ 11 Try.func33 #[.agg #[.string a0_0, .string a0_1], .slice A1 l1.length c1, .slice A2 l2.length c2] ?_; (with_reducible refine (spec_owAsked.calls k a0_0 a0_1 _ _ l1 _ _ l2 false _ ((Kd.C_below HR1.out HB.out)) ?side2 ?side3 ?side4 A4.out).mono ?_); (case side2 => exact HC1.out); (case side3 => repeat (exact (Kd.C_below HR2.out HB.out))); (case side4 => exact HC2.out); rintro e w23 ⟨rfl, hb⟩; refine ⟨_, rfl, ?_⟩; replace BK285 := am (blk_below BK285.out hb); replace HB := am (below_step HB.out hb); (try clear hb)))
  go_ret2
  exact ⟨by rfl, by exact HB.out⟩
def impl_countWays.iter {σ : Type} (f : Nat → σ → σ) : Nat → Nat → σ → σ
 | 0, _, c => c
 | r + 1, i, c => impl_countWays.iter f r (i + 1) (f i c)
theorem impl_countWays.iter_step {σ : Type} (f : Nat → σ → σ) (n i : Nat) (h : i < n) (c : σ) : impl_countWays.iter f (n - i) i c = impl_countWays.iter f (n - (i + 1)) (i + 1) (f i c) := by
 rw [show n - i = (n - (i + 1)) + 1 by omega]
 rfl
theorem impl_countWays.iter_end {σ : Type} (f : Nat → σ → σ) (n : Nat) (c : σ) : impl_countWays.iter f (n - n) n c = c := by rw [Nat.sub_self]; rfl
def impl_countWays.upd (c : Nat × Nat → Int) (p : Nat × Nat) (v : Int) : Nat × Nat → Int := fun q => if q = p then v else c q
def impl_countWays.sgF (rows : List (List Int)) (s t : ByteArray) (d x y m : Nat) (c : Nat × Nat → Int) : Nat × Nat → Int := if 0 < d ∧ impl_firstWay.nr rows s t x y m = true then impl_countWays.upd c (x, y) (wrap64 (c (x, y) + c (((x : Int) + impl_driveIn.dx m).toNat, ((y : Int) + impl_driveIn.dy m).toNat))) else c
def impl_countWays.cellF (rows : List (List Int)) (s t : ByteArray) (d x y : Nat) (c : Nat × Nat → Int) : Nat × Nat → Int := if impl_firstWay.dv rows x y = (d : Int) then impl_countWays.iter (impl_countWays.sgF rows s t d x y) 4 0 (if d = 0 then impl_countWays.upd c (x, y) 1 else c) else c
def impl_countWays.rowF (rows : List (List Int)) (s t : ByteArray) (d x : Nat) (c : Nat × Nat → Int) : Nat × Nat → Int := impl_countWays.iter (impl_countWays.cellF rows s t d x) s.size 0 c
def impl_countWays.levF (rows : List (List Int)) (s t : ByteArray) (d : Nat) (c : Nat × Nat → Int) : Nat × Nat → Int := impl_countWays.iter (impl_countWays.rowF rows s t d) t.size 0 c
def impl_countWays.total (rows : List (List Int)) (s t : ByteArray) (D : Nat) : Nat × Nat → Int := impl_countWays.iter (impl_countWays.levF rows s t) (D + 1) 0 (fun _ => 0)
theorem impl_countWays.grid_upd {w : World} {g : Nat} {bl : Nat → Nat} {W H : Nat} {c : Nat × Nat → Int} (h : impl_distancesBy.Grid w g bl W H (fun x y => c (x, y))) (x y : Nat) (hx : x < W) (hy : y < H) (v : Int) : impl_distancesBy.Grid (w.setCell ⟨bl x, y, none⟩ (.int .i64 v)) g bl W H (fun a b => impl_countWays.upd c (x, y) v (a, b)) :=
 (h.set x y hx hy v).ext (fun a b _ _ => by simp [impl_countWays.upd, Prod.ext_iff])
theorem impl_countWays.litI {w : World} {g : Nat} {x y : Int} (h0 : w.cell? ⟨g, 0, none⟩ = some (.int .i64 x)) (h1 : w.cell? ⟨g, 1, none⟩ = some (.int .i64 y)) : Kd.C (Kd.int .i64) w (some ⟨g, 0, none⟩) 2 [x, y] := by
  refine ⟨rfl, by omega, fun _ => ⟨_, rfl, fun j p hp => ?_⟩⟩
  match j with
  | 0 =>
    obtain rfl : x = p := by simpa using hp
    refine ⟨[.int .i64 x], rfl, rfl, fun i u hu => ?_⟩
    match i with
    | 0 => obtain rfl : Value.int .i64 x = u := by simpa using hu
           exact h0
    | i + 1 => simp at hu
  | 1 =>
    obtain rfl : y = p := by simpa using hp
    refine ⟨[.int .i64 y], rfl, rfl, fun i u hu => ?_⟩
    match i with
    | 0 => obtain rfl : Value.int .i64 y = u := by simpa using hu
           exact h1
    | i + 1 => simp at hu
  | j + 2 => simp at hp
theorem impl_countWays.grid_other {w w' : World} {g : Nat} {bl : Nat → Nat} {W H : Nat} {d : Nat → Nat → Int} (h : impl_distancesBy.Grid w g bl W H d) (it : Nat) (hg : g ≠ it) (hb : ∀ x, x < W → bl x ≠ it) (ho : ∀ k, k ≠ it → w'.heap[k]? = w.heap[k]?) : impl_distancesBy.Grid w' g bl W H d := by
 obtain ⟨⟨cur, g1, g2, g3⟩, gr, inj⟩ := h
 refine ⟨⟨cur, by rw [ho g hg]; exact g1, g2, g3⟩, fun a ha => ?_, inj⟩
 obtain ⟨c, h1, h2, h3⟩ := gr a ha
 exact ⟨c, by rw [ho _ (hb a ha)]; exact h1, h2, h3⟩
theorem impl_countWays.ipos {w : World} {k : Nat} {s : ByteArray} {p : Nat} (h : w.heap[k]? = some (.stringIter s p)) : w.iterPos k = p := by simp [World.iterPos, h]
theorem impl_countWays.walk (s t : ByteArray) (hS : impl_driveIn.Sized s t) (p : Nat) (rows : List (List Int)) (hR : impl_firstWay.Rect rows t.size s.size) (b o : Nat) (bl ol cp : Nat → Nat) (c0 : Nat) (A : Option Addr) (c : Nat) (ax ay : Nat) (w : World) (hG : impl_firstWay.RG w b o bl ol cp rows t.size s.size) (hr : Kd.C (Kd.int .i64) w A 2 [(ax : Int), (ay : Int)]) (hc : 2 ≤ c) (hax : ax < t.size) (hay : ay < s.size) (hp : w.heap[p]? = some (.cells #[.string s, .string t] 25 (0, 0))) (D : Nat) (hD : impl_firstWay.dv rows ax ay = (D : Int)) :
  Calls Try.prog 38 #[.slice (some ⟨b, o, none⟩) t.size c0, .slice A 2 c, .func (.func 60) #[] #[.pointer (some ⟨p, 0, none⟩)]] w fun e w' => e = .returned (.int .i64 (impl_countWays.total rows s t D (ax, ay))) ∧ Below w.heap.size w w' := by
 obtain ⟨⟨t1, t8⟩, s1, s8⟩ := hS
 have HS := am (show impl_driveIn.Sized s t from ⟨⟨t1, t8⟩, s1, s8⟩)
 have hD64 : D ≤ 64 := by have := (impl_firstWay.small hR ax ay hax hay).2; omega
 have HR := am hR
 have HG := am hG
 have HP := am hp
 have HPL := am (Array.getElem?_eq_some_iff.1 hp).1
 have HD := am hD
 have HC := am hc
 obtain ⟨ad, hA, hx0⟩ := Kd.at_int hr 0 (by omega) (by omega)
 obtain ⟨ad1, hA1, hx1⟩ := Kd.at_int hr 1 (by omega) (by omega)
 subst hA
 obtain rfl : ad = ad1 := by injection hA1
 rw [show (0 : Int).toNat = 0 from rfl, Addr.add_zero', show rd [(ax : Int), (ay : Int)] 0 = (ax : Int) from rfl] at hx0
 rw [show rd [(ax : Int), (ay : Int)] 1 = (ay : Int) from rfl] at hx1
 simp only [show (1 : Int).toNat = 1 from rfl, Nat.reduceMul, Nat.reduceEqDiff, Go.Addr.add, ↓reduceIte] at hx1
 have X0 := am hx0
 have X1 := am hx1
 have hg0 := (hG 0 (by omega)).1
 rw [Nat.add_zero] at hg0
 have HGr := am (impl_distancesBy.grid t.size s.size ⟨t1, t8⟩ ⟨s1, s8⟩ 0 w)
 clear hR hG hp hr hx0 hx1 hA1 hc hD
 have HT0 := am (show impl_countWays.iter (impl_countWays.levF rows s t) (D + 1 - 0) 0 (fun _ => 0) = impl_countWays.total rows s t D from rfl)
 obtain ⟨C, hCt⟩ : ∃ C, C = impl_countWays.total rows s t D := ⟨_, rfl⟩
 rw [← hCt] at HT0 ⊢
 clear hCt
 go_enter Try.func38, Try.ntmps38
 go_wp2_with (go_at_call 63; refine HGr.out.mono ?_; rintro e w1 ⟨g, gl, rfl, hG1, hb, hB⟩; have HG1 := am hG1; have Hb := am hb; have HB1 := am hB; clear hG1 hB hb)
 clear hg0 HGr
 have HXs := am (show ∀ W : World, Below w.heap.size w W → W.cell? ad = some (.int .i64 ax) ∧ W.cell? { block := ad.block, off := ad.off + 1 } = some (.int .i64 ay) from fun W hW => ⟨(hW.cell (World.block_lt_of_cell? _ _ X0.out)).trans X0.out, (hW.cell (World.block_lt_of_cell? _ _ X1.out)).trans X1.out⟩)
 have HRs := am (show ∀ W : World, Below w.heap.size w W → impl_firstWay.RG W b o bl ol cp rows t.size s.size from fun W hW u hu => ⟨(hW.cell (World.block_lt_of_cell? _ _ (HG.out u hu).1)).trans (HG.out u hu).1, fun v hv => (hW.cell (World.block_lt_of_cell? _ _ ((HG.out u hu).2 v hv))).trans ((HG.out u hu).2 v hv)⟩)
 clear X0 X1
 go_loopw [8] (fun dv wr => ∃ (d : Nat) (k : Nat × Nat → Int), dv = .int .i64 d ∧ d ≤ D + 1 ∧ Aside0 (impl_distancesBy.Grid wr g gl t.size s.size (fun x y => k (x, y))) ∧ Aside0 (Below w.heap.size w wr) ∧ Aside0 (impl_countWays.iter (impl_countWays.levF rows s t) (D + 1 - d) d k = C)) (fun dv _ => D + 2 - (intOf dv).toNat)
 case atStart => exact ⟨0, fun _ => 0, rfl, Nat.zero_le _, HG1, HB1, HT0⟩
 case round =>
  clear HG1 HB1 HT0
  obtain ⟨d, k, rfl, hd, HG1, HB1, HI⟩ := hrel
  obtain ⟨hx0, hx1⟩ := HXs.out _ HB1.out
  have hg1 := (HRs.out _ HB1.out ax hax).1
  have hg2 := (HRs.out _ HB1.out ax hax).2 ay hay
  rw [HD.out] at hg2
  by_cases hdD : d ≤ D
  ·have hdb : decide ((d : Int) ≤ (D : Int)) = true := decide_eq_true (by omega)
   have HI2 := am (show impl_countWays.iter (impl_countWays.levF rows s t) (D + 1 - (d + 1)) (d + 1) (impl_countWays.levF rows s t d k) = C by rw [← impl_countWays.iter_step _ _ _ (by omega)]; exact HI.out)
   have HDd := am hdD
   clear HI
   go_wp2
   go_quiet (fail)
   go_wp2
   clear hx0 hx1 hg1 hg2
   obtain ⟨CL, hCL⟩ : ∃ CL, CL = impl_countWays.levF rows s t d k := ⟨_, rfl⟩
   have HJ := am (show impl_countWays.iter (impl_countWays.rowF rows s t d) (t.size - 0) 0 k = CL by rw [hCL]; rfl)
   rw [← hCL] at HI2
   have HG2 := am (HG1.out.below (pw_below_drewN (Below.refl _ _) nq))
   have HB2 := am (pw_below_drewN HB1.out nq)
   clear hCL HG1 HB1
   go_loopw [40] (fun xv wr => ∃ (x : Nat) (k : Nat × Nat → Int), xv = .int .i64 x ∧ x ≤ t.size ∧ Aside0 (impl_distancesBy.Grid wr g gl t.size s.size (fun x y => k (x, y))) ∧ Aside0 (Below w.heap.size w wr) ∧ Aside0 (impl_countWays.iter (impl_countWays.rowF rows s t d) (t.size - x) x k = CL)) (fun xv _ => t.size - (intOf xv).toNat)
   case atStart => exact ⟨0, k, rfl, Nat.zero_le _, HG2, HB2, HJ⟩
   case round =>
    clear HG2 HB2 HJ
    obtain ⟨x, k, rfl, hx, HG1, HB1, HJ⟩ := hrel
    by_cases hxt : x < t.size
    ·have HJ2 := am (show impl_countWays.iter (impl_countWays.rowF rows s t d) (t.size - (x + 1)) (x + 1) (impl_countWays.rowF rows s t d x k) = CL by rw [← impl_countWays.iter_step _ _ _ hxt]; exact HJ.out)
     have hg1 := (HRs.out _ HB1.out x hxt).1
     obtain ⟨CR, hCR⟩ : ∃ CR, CR = impl_countWays.rowF rows s t d x k := ⟨_, rfl⟩
     have HK := am (show impl_countWays.iter (impl_countWays.cellF rows s t d x) (s.size - 0) 0 k = CR by rw [hCR]; rfl)
     rw [← hCR] at HJ2
     have HXT := am hxt
     clear hCR HJ
     go_wp2
     clear hg1
     go_loopw [47] (fun yv wr => ∃ (y : Nat) (k : Nat × Nat → Int), yv = .int .i64 y ∧ y ≤ s.size ∧ Aside0 (impl_distancesBy.Grid wr g gl t.size s.size (fun x y => k (x, y))) ∧ Aside0 (Below w.heap.size w wr) ∧ Aside0 (impl_countWays.iter (impl_countWays.cellF rows s t d x) (s.size - y) y k = CR)) (fun yv _ => s.size - (intOf yv).toNat)
     case atStart => exact ⟨0, k, rfl, Nat.zero_le _, HG1, HB1, HK⟩
     case round =>
      clear HG1 HB1 HK
      obtain ⟨y, k, rfl, hy, HG1, HB1, HK⟩ := hrel
      by_cases hys : y < s.size
      ·have HK2 := am (show impl_countWays.iter (impl_countWays.cellF rows s t d x) (s.size - (y + 1)) (y + 1) (impl_countWays.cellF rows s t d x y k) = CR by rw [← impl_countWays.iter_step _ _ _ hys]; exact HK.out)
       have hg2 := (HRs.out _ HB1.out x HXT.out).2 y hys
       obtain ⟨ov, hov⟩ : ∃ ov, ov = impl_firstWay.dv rows x y := ⟨_, rfl⟩
       rw [← hov] at hg2
       have HYS := am hys
       clear HK
       by_cases hod : ov = (d : Int)
       ·have hob : (ov != (d : Int)) = false := bne_eq_false_iff_eq.2 hod
        have hcf : impl_countWays.cellF rows s t d x y k = impl_countWays.iter (impl_countWays.sgF rows s t d x y) 4 0 (if d = 0 then impl_countWays.upd k (x, y) 1 else k) := by
         unfold impl_countWays.cellF
         rw [if_pos (by rw [← hov]; exact hod)]
        rw [hcf] at HK2
        clear hcf hov
        by_cases hd0 : d = 0
        ·have hdz : ((d : Int) == 0) = true := by rw [hd0]; rfl
         have hgz : decide (0 < (d : Int)) = false := decide_eq_false (by omega)
         have hcl : impl_countWays.iter (impl_countWays.sgF rows s t d x y) 4 0 (if d = 0 then impl_countWays.upd k (x, y) 1 else k) = impl_countWays.upd k (x, y) 1 := by
          rw [if_pos hd0]
          simp [impl_countWays.iter, impl_countWays.sgF, hd0]
         rw [hcl] at HK2
         have hrow := HG1.out.row x HXT.out
         have hcel := HG1.out.cell x y HXT.out hys
         have hfre := HG1.out.free x y HXT.out
         have HLT := am HG1.out.lt
         have HG2 := am (impl_countWays.grid_upd HG1.out x y HXT.out hys 1)
         have HB2 := am (HB1.out.setCell (p := ⟨gl x, y, none⟩) (Hb.out.2 x HXT.out) (.int .i64 1))
         have HG3 := am (HG2.out.below (w' := (wr.setCell ⟨gl x, y, none⟩ (.int .i64 1)).iter ⟨#[101, 110, 115, 119]⟩ 0) (below_alloc (Below.refl _ _) _))
         have HB3 := am (show Below w.heap.size w ((wr.setCell ⟨gl x, y, none⟩ (.int .i64 1)).iter ⟨#[101, 110, 115, 119]⟩ 0) from below_then HB2.out HB2.out.size (below_alloc (Below.refl _ _) _))
         have HIT0 := World.iter_heap (wr.setCell ⟨gl x, y, none⟩ (.int .i64 1)) ⟨#[101, 110, 115, 119]⟩ 0
         obtain ⟨it, hit⟩ : ∃ it, it = wr.heap.size := ⟨_, rfl⟩
         have HLE := am (show w.heap.size ≤ it by rw [hit]; exact HB1.out.size)
         have HOT := am (show g ≠ it ∧ ∀ x, x < t.size → gl x ≠ it from ⟨by have := HLT.out.1; omega, fun x hx => by have := HLT.out.2 x hx; omega⟩)
         rw [show (wr.setCell ⟨gl x, y, none⟩ (.int .i64 1)).heap.size = it by rw [hit]; simp] at HIT0
         clear hcl hd0 HG1 HG2 HB2 HLT
         go_wp2
         rw [← hit]
         clear hit hrow hcel hfre hg2 HB1
         go_loopw [] (fun wi => ∃ j : Nat, j ≤ 4 ∧ wi.heap[it]? = some (.stringIter ⟨#[101, 110, 115, 119]⟩ j) ∧ Aside0 (impl_distancesBy.Grid wi g gl t.size s.size (fun a b => impl_countWays.upd k (x, y) 1 (a, b))) ∧ Aside0 (Below w.heap.size w wi)) (fun wi => 4 - wi.iterPos it)
         case atStart => exact ⟨0, by omega, HIT0, HG3, HB3⟩
         case round =>
          clear HIT0 HG3 HB3
          obtain ⟨j, hj, hit, HG, HB⟩ := hrel
          by_cases hj4 : j < 4
          ·have hnx : ∀ ty, (Instr.next (.pointer (some ⟨it, 0, none⟩)) true ty).run Try.prog wr = _ := fun ty => Go.Lib.run_next_any_at wr it ⟨#[101, 110, 115, 119]⟩ j ty hit hj4
           have hit1 := am (Go.Lib.iterAt_heap wr it ⟨#[101, 110, 115, 119]⟩ j (j + 1) hit)
           have HIT := am hit
           have HG1 := am (impl_countWays.grid_other (w' := wr.iterAt it ⟨#[101, 110, 115, 119]⟩ (j + 1)) HG.out it HOT.out.1 HOT.out.2 (fun k hk => Go.Lib.iterAt_other _ _ _ _ _ hk))
           have HB1 := am (Go.Lib.below_iterAt HB.out HLE.out ⟨#[101, 110, 115, 119]⟩ (j + 1))
           have HIL := am (show it < (wr.iterAt it ⟨#[101, 110, 115, 119]⟩ (j + 1)).heap.size from (Array.getElem?_eq_some_iff.1 hit1.out).1)
           rw [impl_firstWay.wid j hj4] at hnx
           clear hit HG HB
           go_wp2
           go_roundw
           case rel => exact ⟨j + 1, by omega, (below_alloc (Below.refl _ _) _).block _ HIL.out |>.trans hit1.out, ⟨HG1.out.below (below_alloc (Below.refl _ _) _)⟩, ⟨below_then HB1.out HB1.out.size (below_alloc (Below.refl _ _) _)⟩⟩
           case measure => rw [impl_countWays.ipos (((below_alloc (Below.refl _ _) _).block _ HIL.out).trans hit1.out), impl_countWays.ipos HIT.out]; omega
          ·obtain rfl : j = 4 := by omega
           have hnx : ∀ ty, (Instr.next (.pointer (some ⟨it, 0, none⟩)) true ty).run Try.prog wr = _ := fun ty => Go.Lib.run_next_end_at wr it ⟨#[101, 110, 115, 119]⟩ 4 ty hit (by decide)
           go_wp2
           go_roundw
           case rel => exact ⟨y + 1, _, by go_num, by have := HYS.out; omega, HG, HB, HK2⟩
           case measure => have := HYS.out; simp [intOf]; omega
        ·have hdz : ((d : Int) == 0) = false := beq_eq_false_iff_ne.2 (by omega)
         have hgz : decide (0 < (d : Int)) = true := decide_eq_true (by omega)
         have HD0 := am (show 0 < d by omega)
         rw [if_neg hd0] at HK2
         obtain ⟨CS, hCS⟩ : ∃ CS, CS = impl_countWays.iter (impl_countWays.sgF rows s t d x y) 4 0 k := ⟨_, rfl⟩
         rw [← hCS] at HK2
         have HS0 := am (show impl_countWays.iter (impl_countWays.sgF rows s t d x y) (4 - 0) 0 k = CS from hCS.symm)
         have HLT := am HG1.out.lt
         have HG3 := am (HG1.out.below (w' := wr.iter ⟨#[101, 110, 115, 119]⟩ 0) (below_alloc (Below.refl _ _) _))
         have HB3 := am (show Below w.heap.size w (wr.iter ⟨#[101, 110, 115, 119]⟩ 0) from below_then HB1.out HB1.out.size (below_alloc (Below.refl _ _) _))
         have HIT0 := World.iter_heap wr ⟨#[101, 110, 115, 119]⟩ 0
         obtain ⟨it, hit⟩ : ∃ it, it = wr.heap.size := ⟨_, rfl⟩
         have HLE := am (show w.heap.size ≤ it by rw [hit]; exact HB1.out.size)
         have HOT := am (show g ≠ it ∧ ∀ x, x < t.size → gl x ≠ it from ⟨by have := HLT.out.1; omega, fun x hx => by have := HLT.out.2 x hx; omega⟩)
         rw [← hit] at HIT0
         clear hCS hd0 HG1 HLT
         go_wp2
         rw [← hit]
         clear hit hg2 HB1
         go_loopw [] (fun wi => ∃ (j : Nat) (c : Nat × Nat → Int), j ≤ 4 ∧ wi.heap[it]? = some (.stringIter ⟨#[101, 110, 115, 119]⟩ j) ∧ Aside0 (impl_distancesBy.Grid wi g gl t.size s.size (fun a b => c (a, b))) ∧ Aside0 (Below w.heap.size w wi) ∧ Aside0 (impl_countWays.iter (impl_countWays.sgF rows s t d x y) (4 - j) j c = CS)) (fun wi => 4 - wi.iterPos it)
         case atStart => exact ⟨0, k, by omega, HIT0, HG3, HB3, HS0⟩
         case round =>
          clear HIT0 HG3 HB3 HS0
          obtain ⟨j, cc, hj, hit, HG, HB, HI⟩ := hrel
          by_cases hj4 : j < 4
          ·have hnx : ∀ ty, (Instr.next (.pointer (some ⟨it, 0, none⟩)) true ty).run Try.prog wr = _ := fun ty => Go.Lib.run_next_any_at wr it ⟨#[101, 110, 115, 119]⟩ j ty hit hj4
           have hit1 := am (Go.Lib.iterAt_heap wr it ⟨#[101, 110, 115, 119]⟩ j (j + 1) hit)
           have HIT := am hit
           have HG1 := am (impl_countWays.grid_other (w' := wr.iterAt it ⟨#[101, 110, 115, 119]⟩ (j + 1)) HG.out it HOT.out.1 HOT.out.2 (fun k hk => Go.Lib.iterAt_other _ _ _ _ _ hk))
           have HB1 := am (Go.Lib.below_iterAt HB.out HLE.out ⟨#[101, 110, 115, 119]⟩ (j + 1))
           have HIL := am (show it < (wr.iterAt it ⟨#[101, 110, 115, 119]⟩ (j + 1)).heap.size from (Array.getElem?_eq_some_iff.1 hit1.out).1)
           rw [impl_firstWay.wid j hj4] at hnx
           have HI2 := am (show impl_countWays.iter (impl_countWays.sgF rows s t d x y) (4 - (j + 1)) (j + 1) (impl_countWays.sgF rows s t d x y j cc) = CS by rw [← impl_countWays.iter_step _ _ _ hj4]; exact HI.out)
           have HN := am (show ∀ (g2 : Nat) (W : World), Below w.heap.size w W → Kd.C (Kd.int .i64) W (some ⟨g2, 0, none⟩) 2 [(x : Int), (y : Int)] → Calls Try.prog 58 #[.slice (some ⟨b, o, none⟩) t.size c0, .slice (some ⟨g2, 0, none⟩) 2 2, .int .i64 j, .func (.func 60) #[] #[.pointer (some ⟨p, 0, none⟩)]] W (fun e w' => e = .returned (.bool (impl_firstWay.nr rows s t x y j)) ∧ Below W.heap.size W w') from fun g2 W hW hC => impl_firstWay.nearer s t HS.out p rows HR.out b o bl ol cp c0 _ 2 x y j (by omega) W (HRs.out W hW) hC (Nat.le_refl _) HXT.out HYS.out ((hW.block p HPL.out).trans HP.out))
           clear hit HG HB HI
           have hd1 := HD0.out
           cases hnr : impl_firstWay.nr rows s t x y j with
           | false =>
            have hsg : impl_countWays.sgF rows s t d x y j cc = cc := by
             unfold impl_countWays.sgF
             rw [if_neg (by rw [hnr]; simp)]
            rw [hsg] at HI2
            rw [hnr] at HN
            clear hsg hnr
            go_wp2_with (go_at_call 58; refine (HN.out _ _ (below_then HB1.out HB1.out.size (below_alloc (Below.refl _ _) _)) (impl_countWays.litI ((blk_cell (heap_alloc_new _ _) 0).trans rfl) ((blk_cell (heap_alloc_new _ _) 1).trans rfl))).mono ?_; rintro e w3 ⟨rfl, hb3⟩; have hit3 := am (((below_then (below_alloc (Below.refl _ _) _) (below_alloc (Below.refl _ _) _).size hb3).block _ HIL.out).trans hit1.out); have HG3 := am (HG1.out.below (below_then (below_alloc (Below.refl _ _) _) (below_alloc (Below.refl _ _) _).size hb3)); have HB3 := am (below_then HB1.out HB1.out.size (below_then (below_alloc (Below.refl _ _) _) (below_alloc (Below.refl _ _) _).size hb3)); clear hb3)
            go_roundw
            case rel => exact ⟨j + 1, cc, by omega, hit3.out, HG3, HB3, HI2⟩
            case measure => rw [impl_countWays.ipos hit3.out, impl_countWays.ipos HIT.out]; omega
           | true =>
            have hsg : impl_countWays.sgF rows s t d x y j cc = impl_countWays.upd cc (x, y) (wrap64 (cc (x, y) + cc (((x : Int) + impl_driveIn.dx j).toNat, ((y : Int) + impl_driveIn.dy j).toNat))) := by
             unfold impl_countWays.sgF
             rw [if_pos ⟨HD0.out, hnr⟩]
            rw [hsg] at HI2
            rw [hnr] at HN
            have hnr2 := hnr
            unfold impl_firstWay.nr at hnr2
            rw [Bool.and_eq_true, decide_eq_true_eq] at hnr2
            have hat := impl_firstWay.can_at hnr2.1
            have HMv := am (impl_driveIn.moved x y j (by omega) (by have := HXT.out; omega) (by have := HYS.out; omega))
            obtain ⟨u, hu⟩ := Int.eq_ofNat_of_zero_le hat.1.1
            obtain ⟨v, hv⟩ := Int.eq_ofNat_of_zero_le hat.2.1
            rw [hu, hv] at HMv hat HI2
            rw [Int.toNat_natCast, Int.toNat_natCast] at HI2
            have hut : u < t.size := by have := hat.1.2; omega
            have hvs : v < s.size := by have := hat.2.2; omega
            obtain ⟨ca, hca⟩ : ∃ ca, ca = cc (x, y) := ⟨_, rfl⟩
            obtain ⟨cb, hcb⟩ : ∃ cb, cb = cc (u, v) := ⟨_, rfl⟩
            rw [← hca, ← hcb] at HI2
            have ew : IntKind.i64.wrap (ca + cb) = wrap64 (ca + cb) := i64_w _
            have HCA := am hca
            have HCB := am hcb
            clear hsg hnr hnr2 hat hu hv hca hcb
            go_wp2_with (first | (go_at_call 58; have hl0 := am (impl_countWays.litI (w := (wr.iterAt it ⟨#[101, 110, 115, 119]⟩ (j + 1)).alloc (.cells #[.int .i64 (x : Int), .int .i64 (y : Int)] 3)) ((blk_cell (heap_alloc_new _ _) 0).trans rfl) ((blk_cell (heap_alloc_new _ _) 1).trans rfl)); refine (HN.out _ _ (below_then HB1.out HB1.out.size (below_alloc (Below.refl _ _) _)) hl0.out).mono ?_; rintro e w3 ⟨rfl, hb3⟩; have hC3 := am (Kd.C_below hl0.out hb3); have hit3 := am (((below_then (below_alloc (Below.refl _ _) _) (below_alloc (Below.refl _ _) _).size hb3).block _ HIL.out).trans hit1.out); have HG3 := am (HG1.out.below (below_then (below_alloc (Below.refl _ _) _) (below_alloc (Below.refl _ _) _).size hb3)); have HB3 := am (below_then HB1.out HB1.out.size (below_then (below_alloc (Below.refl _ _) _) (below_alloc (Below.refl _ _) _).size hb3)); have HIL3 := am (Array.getElem?_eq_some_iff.1 hit3.out).1; clear hb3 hl0) | (go_at_call 59; refine (impl_moved.calls _ _ [(x : Int), (y : Int)] (j : Int) _ _ hC3.out (Nat.le_refl _) HMv.out).mono ?_; rintro e w6 ⟨v6, rfl, hR6, hb6⟩; obtain ⟨A6, c6, e6⟩ := Kd.R_slice hR6; rw [show ([(u : Int), (v : Int)] : List Int).length = 2 from rfl] at e6; subst e6; have hC6 := (Kd.R_reads' hR6).2.2; rw [show ([(u : Int), (v : Int)] : List Int).length = 2 from rfl] at hC6; obtain ⟨ad2, hA2, hu0⟩ := Kd.at_int hC6 0 (by omega) (by omega); obtain ⟨ad3, hA3, hu1⟩ := Kd.at_int hC6 1 (by omega) (by omega); subst hA2; obtain rfl : ad2 = ad3 := (by injection hA3); rw [show (0 : Int).toNat = 0 from rfl, Addr.add_zero', show rd [(u : Int), (v : Int)] 0 = (u : Int) from rfl] at hu0; rw [show rd [(u : Int), (v : Int)] 1 = (v : Int) from rfl] at hu1; simp only [show (1 : Int).toNat = 1 from rfl, Nat.reduceMul, Nat.reduceEqDiff, Go.Addr.add, ↓reduceIte] at hu1; have HU0 := am hu0; have HU1 := am hu1; have HB6 := am (below_then HB3.out HB3.out.size hb6); have HG6 := am (HG3.out.below hb6); have hit6 := am ((hb6.block _ HIL3.out).trans hit3.out); clear hb6 hR6 hC6 hA3 hu0 hu1))
            refine wp_region_still_tail 20 (by kernel_rfl) (by kernel_rfl) ?_
            simp only [List.take_succ_cons, List.take_zero, List.drop_succ_cons, List.drop_zero]
            obtain ⟨w7, hw7⟩ : ∃ w7 : World, w6.drew = w7 := ⟨_, rfl⟩
            have hbd : Below w6.heap.size w6 w7 := by rw [← hw7]; exact below_drew1 (Below.refl _ _)
            have HB7 := am (below_then HB6.out HB6.out.size hbd)
            have HG7 := am (HG6.out.below hbd)
            have hit7 := am (show w7.heap[it]? = some (.stringIter ⟨#[101, 110, 115, 119]⟩ (j + 1)) by rw [← hw7]; exact hit6.out)
            have hu0 := (hbd.cell (World.block_lt_of_cell? _ _ HU0.out)).trans HU0.out
            have hu1 := (hbd.cell (World.block_lt_of_cell? _ _ HU1.out)).trans HU1.out
            have hrowa := HG7.out.row x HXT.out
            have hrowb := HG7.out.row u hut
            have hcela : w7.cell? ⟨gl x, y, none⟩ = some (.int .i64 ca) := by rw [HCA.out]; exact HG7.out.cell x y HXT.out HYS.out
            have hcelb : w7.cell? ⟨gl u, v, none⟩ = some (.int .i64 cb) := by rw [HCB.out]; exact HG7.out.cell u v hut hvs
            have hfrea := HG7.out.free x y HXT.out
            have HG8 := am (impl_countWays.grid_upd HG7.out x y HXT.out HYS.out (wrap64 (ca + cb)))
            have HB8 := am (HB7.out.setCell (p := ⟨gl x, y, none⟩) (Hb.out.2 x HXT.out) (.int .i64 (wrap64 (ca + cb))))
            have hit8 := am ((Below.heap_setCell w7 ⟨gl x, y, none⟩ (.int .i64 (wrap64 (ca + cb))) it (fun e => HOT.out.2 x HXT.out e.symm)).trans hit7.out)
            change wpStill _ _ w6.drew _ _ _
            rw [hw7]
            have HW7 := am hw7
            clear hw7 hbd
            repeat still_step
            refine wpStill_nil ?_
            change wpList _ _ _ _ _ w6.drew
            rw [HW7.out]
            clear HB7 HG7 hit7 hu0 hu1 hrowa hrowb hcelb
            go_wp2
            go_roundw
            case rel => exact ⟨j + 1, _, by omega, hit8.out, HG8, HB8, HI2⟩
            case measure => rw [impl_countWays.ipos hit8.out, impl_countWays.ipos HIT.out]; omega
          ·obtain rfl : j = 4 := by omega
           have hnx : ∀ ty, (Instr.next (.pointer (some ⟨it, 0, none⟩)) true ty).run Try.prog wr = _ := fun ty => Go.Lib.run_next_end_at wr it ⟨#[101, 110, 115, 119]⟩ 4 ty hit (by decide)
           have HE := am (show cc = CS from HI.out)
           go_wp2
           go_roundw
           case rel => exact ⟨y + 1, cc, by go_num, by have := HYS.out; omega, HG, HB, ⟨by rw [HE.out]; exact HK2.out⟩⟩
           case measure => have := HYS.out; simp [intOf]; omega
       ·have hob : (ov != (d : Int)) = true := bne_iff_ne.2 hod
        have hcf : impl_countWays.cellF rows s t d x y k = k := by
         unfold impl_countWays.cellF
         rw [if_neg (by rw [← hov]; exact hod)]
        rw [hcf] at HK2
        clear hcf hov hod
        go_wp2
        go_roundw
        case rel => exact ⟨y + 1, k, by go_num, by omega, HG1, HB1, HK2⟩
        case measure => simp [intOf]; omega
      ·obtain rfl : y = s.size := by omega
       clear hys
       have HE := am (show k = CR by have z := HK.out; rw [impl_countWays.iter_end] at z; exact z)
       go_wp2
       go_roundw
       case rel => exact ⟨x + 1, k, by go_num, by have := HXT.out; omega, HG1, HB1, ⟨by rw [HE.out]; exact HJ2.out⟩⟩
       case measure => have := HXT.out; simp [intOf]; omega
    ·obtain rfl : x = t.size := by omega
     clear hxt
     have HE := am (show k = CL by have z := HJ.out; rw [impl_countWays.iter_end] at z; exact z)
     go_wp2
     go_roundw
     case rel => exact ⟨d + 1, k, by go_num, by have := HDd.out; omega, HG1, HB1, ⟨by rw [HE.out]; exact HI2.out⟩⟩
     case measure => have := HDd.out; simp [intOf]; omega
  ·obtain rfl : d = D + 1 := by omega
   have hdb : decide (((D + 1 : Nat) : Int) ≤ (D : Int)) = false := decide_eq_false (by omega)
   have HE := am (show k = C by have z := HI.out; rw [impl_countWays.iter_end] at z; exact z)
   have hc1 := HG1.out.row ax hax
   have hc2 : wr.cell? ⟨gl ax, ay, none⟩ = some (.int .i64 (C (ax, ay))) := by rw [← HE.out]; exact HG1.out.cell ax ay hax hay
   clear hdD hd
   go_wp2
   go_quiet (fail)
   go_wp2
   go_quiet (fail)
   go_wp2
   go_ret
   exact ⟨rfl, pw_below_drewN (pw_below_drewN HB1.out _) _⟩
def impl_countWays.f : Nat → List (List Int) → List Int → ByteArray × ByteArray → Option Int
 | 0, _, _, _ => none
 | _ + 1, l0, l1, a2 => if ((impl_firstWay.Rect l0 a2.2.size a2.1.size ∧ impl_driveIn.Sized a2.1 a2.2) ∧ l1.length = 2 ∧ impl_driveIn.At a2.1 a2.2 (rd l1 0) (rd l1 1)) ∧ 0 ≤ impl_firstWay.dv l0 (rd l1 0) (rd l1 1) then some (impl_countWays.total l0 a2.1 a2.2 (impl_firstWay.dv l0 (rd l1 0) (rd l1 1)).toNat ((rd l1 0).toNat, (rd l1 1).toNat)) else none
theorem impl_countWays.calls (k : Nat) (A0 : Option Addr) (c0 : Nat) (l0 : List (List Int)) (A1 : Option Addr) (c1 : Nat) (l1 : List Int) (a2 : ByteArray × ByteArray) (r : Int) (w : World) (hr0 : Kd.C (Kd.slice 3 (Kd.int .i64)) w A0 l0.length l0) (hc0 : l0.length ≤ c0) (hr1 : Kd.C (Kd.int .i64) w A1 l1.length l1) (hc1 : l1.length ≤ c1) (h : impl_countWays.f k l0 l1 a2 = some r) (p : Nat) (hp : w.heap[p]? = some (.cells #[.string a2.1, .string a2.2] 25 (0, 0))) :
  Calls Try.prog 38 #[.slice A0 l0.length c0, .slice A1 l1.length c1, .func (.func 60) #[] #[.pointer (some ⟨p, 0, none⟩)]] w fun e w' => e = .returned (.int .i64 r) ∧ Below w.heap.size w w' := by
 cases k with
 | zero => cases h
 | succ k =>
  simp only [impl_countWays.f] at h
  by_cases cc : ((impl_firstWay.Rect l0 a2.2.size a2.1.size ∧ impl_driveIn.Sized a2.1 a2.2) ∧ l1.length = 2 ∧ impl_driveIn.At a2.1 a2.2 (rd l1 0) (rd l1 1)) ∧ 0 ≤ impl_firstWay.dv l0 (rd l1 0) (rd l1 1)
  ·rw [if_pos cc] at h
   obtain ⟨⟨⟨hR, hS⟩, hl, ⟨x0, x1⟩, y0, y1⟩, hd⟩ := cc
   obtain rfl := Option.some.inj h
   obtain ⟨b, o, bl, ol, cp, rfl, hG⟩ := impl_firstWay.rg hr0 hR (by omega) (by omega)
   obtain ⟨x, hx⟩ := Int.eq_ofNat_of_zero_le x0
   obtain ⟨y, hy⟩ := Int.eq_ofNat_of_zero_le y0
   obtain ⟨D, hD⟩ := Int.eq_ofNat_of_zero_le hd
   have e : l1 = [(x : Int), (y : Int)] := by
    match l1, hl with
    | [u, v], _ =>
     have hu : u = (x : Int) := hx
     have hv : v = (y : Int) := hy
     rw [hu, hv]
   rw [hD, hx, hy, Int.toNat_natCast, Int.toNat_natCast, Int.toNat_natCast]
   rw [hx, hy] at hD
   rw [hl] at hr1 hc1 ⊢
   rw [hR.1]
   exact impl_countWays.walk a2.1 a2.2 hS p l0 hR b o bl ol cp c0 A1 c1 x y w hG (by rw [← e]; exact hr1) hc1 (by omega) (by omega) hp D hD
  ·rw [if_neg cc] at h
   cases h
def impl_CountDrives.f (k : Nat) (a0_0 : ByteArray) (a0_1 : ByteArray) (l1 : List Int) (l2 : List Int) : Option (Int × Bool) := (impl_areDriven.f k a0_0 a0_1 (([l1, l2] : List (List Int)))).bind fun t293 => (if t293 = true then ((impl_drivesTo.f k a0_0 a0_1 l2).bind fun t294 => (if 0 < (l1.length : Int) then (if 0 ≤ (rd l1 0) then (if (rd l1 0) < (t294.length : Int) then (if 1 < (l1.length : Int) then (if 0 ≤ (rd l1 1) then (if (rd l1 1) < ((rd_L3 t294 (rd l1 0)).length : Int) then (if (rd (rd_L3 t294 (rd l1 0)) (rd l1 1)) < 0 then (some (0, false)) else ((impl_driveIn.f a0_0 a0_1).bind fun t301 => ((impl_countWays.f k t294 l1 t301).bind fun t302 => (some (t302, true))))) else (none)) else (none)) else (none)) else (none)) else (none)) else (none))) else (some (0, false)))
theorem impl_CountDrives.calls (k : Nat) (a0_0 : ByteArray) (a0_1 : ByteArray) (P1_ : Nat → Prop) (A1 : Option Addr) (c1 : Nat) (l1 : List Int) (P2_ : Nat → Prop) (A2 : Option Addr) (c2 : Nat) (l2 : List Int) (r1 : Int) (r2 : Bool) (w : World) (hs1 : Kd.V (Kd.int .i64) 3 w w.heap.size (fun k_ => P1_ k_) (.slice A1 l1.length c1) l1) (hs2 : Kd.V (Kd.int .i64) 3 w w.heap.size (fun k_ => P2_ k_) (.slice A2 l2.length c2) l2) (h : impl_CountDrives.f k a0_0 a0_1 l1 l2 = some (r1, r2)) :
  Calls Try.prog 10 #[.agg #[.string a0_0, .string a0_1], .slice A1 l1.length c1, .slice A2 l2.length c2] w fun e w' => e = .returned (.tuple #[.int .i64 r1, .bool r2]) ∧ Below w.heap.size w w' := by
 have hu25 := Try.underlying25
 have HO1 := am (show Kd.V (Kd.int .i64) 3 w w.heap.size (fun k_ => ((P1_ k_ ∨ P2_ k_) ∨ w.heap.size ≤ k_)) (.slice A1 l1.length c1) l1 from Kd.V_mono hs1 (fun k_ hk => .inl (.inl hk)))
 have HO2 := am (show Kd.V (Kd.int .i64) 3 w w.heap.size (fun k_ => ((P1_ k_ ∨ P2_ k_) ∨ w.heap.size ≤ k_)) (.slice A2 l2.length c2) l2 from Kd.V_mono hs2 (fun k_ hk => .inl (.inr hk)))
 have HB := am (Below.refl w.heap.size w)
 unfold impl_CountDrives.f at h
 have H := h
 clear h
 obtain ⟨y290, hy290⟩ : ∃ y_ : List (List Int), y_ = (([l1, l2] : List (List Int))) := ⟨_, rfl⟩
 rw [← hy290] at H
 have Ny290 := am hy290
 clear hy290
 obtain ⟨t293, A4, H⟩ := bnd_ H
 try dsimp only at H
 by_cases c5 : t293 = true
 ·subst c5
  rw [if_pos rfl] at H
  obtain ⟨t294, A6, H⟩ := bnd_ H
  try dsimp only at H
  by_cases c7 : 0 < (l1.length : Int)
  ·rw [if_pos c7] at H
   have c7b0 : decide (0 < (l1.length : Int)) = true := decide_eq_true c7
   have c7b1 : decide (0 < l1.length) = true := decide_eq_true (by omega)
   clear c7
   by_cases c8 : 0 ≤ (rd l1 0)
   ·rw [if_pos c8] at H
    have c8b0 : decide (0 ≤ (rd l1 0)) = true := decide_eq_true c8
    clear c8
    by_cases c9 : (rd l1 0) < (t294.length : Int)
    ·rw [if_pos c9] at H
     have c9b0 : decide ((rd l1 0) < (t294.length : Int)) = true := decide_eq_true c9
     clear c9
     by_cases c10 : 1 < (l1.length : Int)
     ·rw [if_pos c10] at H
      have c10b0 : decide (1 < (l1.length : Int)) = true := decide_eq_true c10
      have c10b1 : decide (1 < l1.length) = true := decide_eq_true (by omega)
      clear c10
      by_cases c11 : 0 ≤ (rd l1 1)
      ·rw [if_pos c11] at H
       have c11b0 : decide (0 ≤ (rd l1 1)) = true := decide_eq_true c11
       clear c11
       by_cases c12 : (rd l1 1) < ((rd_L3 t294 (rd l1 0)).length : Int)
       ·rw [if_pos c12] at H
        have c12b0 : decide ((rd l1 1) < ((rd_L3 t294 (rd l1 0)).length : Int)) = true := decide_eq_true c12
        clear c12
        by_cases c13 : (rd (rd_L3 t294 (rd l1 0)) (rd l1 1)) < 0
        ·rw [if_pos c13] at H
         have c13b0 : decide ((rd (rd_L3 t294 (rd l1 0)) (rd l1 1)) < 0) = true := decide_eq_true c13
         clear c13
         simp only [Option.some.injEq, Prod.mk.injEq] at H
         obtain ⟨rfl, rfl⟩ := H
         go_enter Try.func10, Try.ntmps10
         go_wp2_with (first | ((with_reducible refine gate_dst (N := 3) rfl ?_); refine bx_ 3 (#[.string a0_0, .string a0_1]) 25 ?_; intro gb289 hg w14 hbox hb; replace HO1 := am (Kd.V_below (Kd.V_elderB HO1.out gb289 (Nat.le_of_eq hg.symm)) hb); replace HO2 := am (Kd.V_below (Kd.V_elderB HO2.out gb289 (Nat.le_of_eq hg.symm)) hb); have BK289 := am (hbox); have GW289 := am ((by rw [hg]; exact (below_size HB.out) : w.heap.size ≤ gb289)); have GE289 := am ((by rw [hg]; exact (below_size HB.out) : w.heap.size ≤ gb289)); replace HB := am (below_step HB.out hb); clear hb hbox hg; have hcz15_0 := cz0_ BK289; have hcz15_1 := cz1_ BK289; have hfz15_0 := blk_frozen BK289.out 0; have hfz15_1 := blk_frozen BK289.out 1) | ((with_reducible refine gate_dst (N := 12) rfl ?_); refine Kd.N_lit (Kd.slice 3 (Kd.int .i64)) _ 26 ?hg (N' := 12) ?hd (xs := ([l1, l2] : List (List Int))) (inner := [.slice A1 l1.length c1, .slice A2 l2.length c2]) (ok := (fun k_ => ((P1_ k_ ∨ P2_ k_) ∨ w.heap.size ≤ k_) ∧ k_ ≠ gb289)) (okp := (fun k_ => ((P1_ k_ ∨ P2_ k_) ∨ w.heap.size ≤ k_) ∧ k_ ≠ gb289)) ?hr ?hp (fun _ hk => hk) ((show ∀ k_, w14.heap.size ≤ k_ → (fun k_ => ((P1_ k_ ∨ P2_ k_) ∨ w.heap.size ≤ k_) ∧ k_ ≠ gb289) k_ from fun k_ hk => ⟨(.inr (Nat.le_trans (below_size HB.out) hk)), Kd.freshB (g := gb289) (o := .cells #[.string a0_0, .string a0_1] 25 (0, 0)) BK289.out k_ hk⟩) _ (Nat.le_refl _)) (Below.refl _ _) (Nat.le_refl _) (by simp) ?_; (case hd => rfl); (case hg => rfl); (case hr => go_simp; done); (case hp => exact (Reps.one (show Kd.FK (Kd.slice 3 (Kd.int .i64)) _ _ l1 [.slice A1 l1.length c1] from (Kd.FK_slice_mk (Kd.V_reads' (Kd.V_mono (ok' := (fun k_ => ((P1_ k_ ∨ P2_ k_) ∨ w.heap.size ≤ k_) ∧ k_ ≠ gb289)) (HO1.out) (fun k_ hk => ⟨hk.1, hk.2⟩))).2.1 (Kd.V_F (Kd.V_mono (ok' := (fun k_ => ((P1_ k_ ∨ P2_ k_) ∨ w.heap.size ≤ k_) ∧ k_ ≠ gb289)) (HO1.out) (fun k_ hk => ⟨hk.1, hk.2⟩))))) (Reps.one (show Kd.FK (Kd.slice 3 (Kd.int .i64)) _ _ l2 [.slice A2 l2.length c2] from (Kd.FK_slice_mk (Kd.V_reads' (Kd.V_mono (ok' := (fun k_ => ((P1_ k_ ∨ P2_ k_) ∨ w.heap.size ≤ k_) ∧ k_ ≠ gb289)) (HO2.out) (fun k_ hk => ⟨hk.1, hk.2⟩))).2.1 (Kd.V_F (Kd.V_mono (ok' := (fun k_ => ((P1_ k_ ∨ P2_ k_) ∨ w.heap.size ≤ k_) ∧ k_ ≠ gb289)) (HO2.out) (fun k_ hk => ⟨hk.1, hk.2⟩))))) (Reps.none _ _)))); intro v291 w16 ho17 hb hg_ hnew_; clear hg_ hnew_; (rw [← Ny290.out] at ho17); replace HO1 := am (Kd.V_elder' HO1.out (Kd.N_base ho17) hb); replace HO2 := am (Kd.V_elder' HO2.out (Kd.N_base ho17) hb); have HO292 := am (Kd.N_lower ho17 (below_size HB.out)); replace BK289 := am (blk_below BK289.out hb); replace HB := am (below_step HB.out hb); clear hb ho17; obtain ⟨Ao18, co18, eo18⟩ := Kd.N_slice HO292.out; subst eo18) | (go_at_call 29; (with_reducible refine (impl_areDriven.calls k a0_0 a0_1 _ _ y290 true _ ((Kd.N_reads' HO292.out).2.2) ?side2 A4.out).mono ?_); (case side2 => exact (Kd.N_reads' HO292.out).2.1); rintro e w19 ⟨rfl, hb⟩; replace HO1 := am (Kd.V_below HO1.out hb); replace HO2 := am (Kd.V_below HO2.out hb); replace HO292 := am (Kd.N_below HO292.out hb); replace BK289 := am (blk_below BK289.out hb); replace HB := am (below_step HB.out hb); (try clear hb); have hcz20_0 := cz0_ BK289; have hcz20_1 := cz1_ BK289; have hfz20_0 := blk_frozen BK289.out 0; have hfz20_1 := blk_frozen BK289.out 1) | (go_at_call 30; (with_reducible refine (impl_drivesTo.calls k a0_0 a0_1 _ _ l2 t294 _ ((Kd.V_reads' HO2.out).2.2) ?side2 A6.out).mono ?_); (case side2 => exact (Kd.V_reads' HO2.out).2.1); rintro e w21 ⟨v295, rfl, ho0, hb⟩; replace HO1 := am (Kd.V_elder' HO1.out (by exact Kd.N_base (Kd.S_N ho0)) hb); replace HO2 := am (Kd.V_elder' HO2.out (by exact Kd.N_base (Kd.S_N ho0)) hb); have HO296 := am (Kd.N_lower (Kd.N_mono (ok' := fun k_ => ((P1_ k_ ∨ P2_ k_) ∨ w.heap.size ≤ k_) ∧ some k_ ≠ (.slice Ao18 y290.length co18 : Value).ownBlock ∧ k_ ≠ gb289) (Kd.S_N (Kd.S_bound ho0)) (fun k_ hk_ => ⟨(.inr (Nat.le_trans (below_size HB.out) hk_.2.1)), (Kd.fresh' (Kd.N_lt HO292.out) k_ hk_.2.1), (Kd.freshB (g := gb289) (o := .cells #[.string a0_0, .string a0_1] 25 (0, 0)) BK289.out k_ hk_.2.1)⟩)) (below_size HB.out)); replace HO292 := am (Kd.N_elder' HO292.out (by exact Kd.N_base (Kd.S_N ho0)) hb); replace BK289 := am (blk_below BK289.out hb); replace HB := am (below_step HB.out hb); (try clear hb); (try clear ho0); have p297 : 0 ≤ (0 : Int) := (by omega); have q297 : 0 < (l1.length : Int) := of_decide_eq_true (by with_reducible assumption); obtain ⟨ad297, e297, hx297_0⟩ := Kd.at_int (Kd.V_reads' HO1.out).2.2 0 p297 q297; cases e297; have qi297 : (0 < l1.length) = True := eq_true (by omega); (try rw [show ((0 : Int)).toNat = 0 from rfl] at hx297_0); (try rw [Addr.add_zero'] at hx297_0); replace p297 := eq_true p297; replace q297 := eq_true q297; obtain ⟨Ao22, co22, eo22⟩ := Kd.N_slice HO296.out; subst eo22; have p298 : 0 ≤ ((rd l1 0) : Int) := of_decide_eq_true (by with_reducible assumption); have q298 : (rd l1 0) < (t294.length : Int) := of_decide_eq_true (by with_reducible assumption); obtain ⟨ad298, A298_0, c298_0, e298, hx298_0, hl298_0, hi298_0⟩ := at_L3 (Kd.N_reads' HO296.out).2.2 (rd l1 0) p298 q298; cases e298; obtain ⟨ce298, hce298, hMe298, hcc298⟩ := Kd.N_get HO296.out [] (rd l1 0) p298 q298; obtain ⟨ua298_0, uc298_0, rfl, ul298_0, ge298_0⟩ := Kd.FK_slice_open hMe298; have hv298_0 := hcc298 0 _ rfl; rw [Nat.add_zero, show ((Kd.slice 3 (Kd.int .i64))).sz = 1 from rfl, Nat.mul_one] at hv298_0; replace hv298_0 := Option.some.inj (hv298_0.symm.trans hx298_0); injection hv298_0 with hva_ hvn_ hvc_; rw [hva_] at ge298_0; rw [hvc_] at ul298_0; have HL298_0 := am (show Kd.V (Kd.int .i64) 3 _ w.heap.size _ _ (rd_L3 t294 (rd l1 0)) from Kd.V_mk ul298_0 ge298_0); clear hva_ hvn_ hvc_ ge298_0 ul298_0 hcc298 hce298; have HR298_0 := am hi298_0; have HC298_0 := am hl298_0; clear hi298_0 hl298_0; replace p298 := eq_true p298; replace q298 := eq_true q298; have p299 : 0 ≤ (1 : Int) := (by omega); have q299 : 1 < (l1.length : Int) := of_decide_eq_true (by with_reducible assumption); obtain ⟨ad299, e299, hx299_0⟩ := Kd.at_int (Kd.V_reads' HO1.out).2.2 1 p299 q299; obtain rfl : ad297 = ad299 := (by injection e299); (try simp only [show (1 : Int).toNat = 1 from rfl, Nat.reduceMul, Nat.reduceEqDiff, Go.Addr.add, ↓reduceIte] at hx299_0); have qi299 : (1 < l1.length) = True := eq_true (by omega); replace p299 := eq_true p299; replace q299 := eq_true q299; have p300 : 0 ≤ ((rd l1 1) : Int) := of_decide_eq_true (by with_reducible assumption); have q300 : (rd l1 1) < ((rd_L3 t294 (rd l1 0)).length : Int) := of_decide_eq_true (by with_reducible assumption); obtain ⟨ad300, e300, hx300_0⟩ := Kd.at_int (by repeat (with_reducible exact HR298_0.out)) (rd l1 1) p300 q300; cases e300; replace p300 := eq_true p300; replace q300 := eq_true q300))
         repeat (go_quiet (fail); try go_wp2_with (fail))
         go_ret2
         exact ⟨by rfl, by repeat (with_reducible first | exact HB.out | apply pw_below_drewN)⟩
        ·rw [if_neg c13] at H
         have c13b0 : decide ((rd (rd_L3 t294 (rd l1 0)) (rd l1 1)) < 0) = false := decide_eq_false c13
         clear c13
         obtain ⟨t301, A23, H⟩ := bnd_ H
         try dsimp only at H
         obtain ⟨t302, A24, H⟩ := bnd_ H
         try dsimp only at H
         simp only [Option.some.injEq, Prod.mk.injEq] at H
         obtain ⟨rfl, rfl⟩ := H
         go_enter Try.func10, Try.ntmps10
         go_wp2_with (first | ((with_reducible refine gate_dst (N := 3) rfl ?_); refine bx_ 3 (#[.string a0_0, .string a0_1]) 25 ?_; intro gb289 hg w25 hbox hb; replace HO1 := am (Kd.V_below (Kd.V_elderB HO1.out gb289 (Nat.le_of_eq hg.symm)) hb); replace HO2 := am (Kd.V_below (Kd.V_elderB HO2.out gb289 (Nat.le_of_eq hg.symm)) hb); have BK289 := am (hbox); have GW289 := am ((by rw [hg]; exact (below_size HB.out) : w.heap.size ≤ gb289)); have GE289 := am ((by rw [hg]; exact (below_size HB.out) : w.heap.size ≤ gb289)); replace HB := am (below_step HB.out hb); clear hb hbox hg; have hcz26_0 := cz0_ BK289; have hcz26_1 := cz1_ BK289; have hfz26_0 := blk_frozen BK289.out 0; have hfz26_1 := blk_frozen BK289.out 1) | ((with_reducible refine gate_dst (N := 12) rfl ?_); refine Kd.N_lit (Kd.slice 3 (Kd.int .i64)) _ 26 ?hg (N' := 12) ?hd (xs := ([l1, l2] : List (List Int))) (inner := [.slice A1 l1.length c1, .slice A2 l2.length c2]) (ok := (fun k_ => ((P1_ k_ ∨ P2_ k_) ∨ w.heap.size ≤ k_) ∧ k_ ≠ gb289)) (okp := (fun k_ => ((P1_ k_ ∨ P2_ k_) ∨ w.heap.size ≤ k_) ∧ k_ ≠ gb289)) ?hr ?hp (fun _ hk => hk) ((show ∀ k_, w25.heap.size ≤ k_ → (fun k_ => ((P1_ k_ ∨ P2_ k_) ∨ w.heap.size ≤ k_) ∧ k_ ≠ gb289) k_ from fun k_ hk => ⟨(.inr (Nat.le_trans (below_size HB.out) hk)), Kd.freshB (g := gb289) (o := .cells #[.string a0_0, .string a0_1] 25 (0, 0)) BK289.out k_ hk⟩) _ (Nat.le_refl _)) (Below.refl _ _) (Nat.le_refl _) (by simp) ?_; (case hd => rfl); (case hg => rfl); (case hr => go_simp; done); (case hp => exact (Reps.one (show Kd.FK (Kd.slice 3 (Kd.int .i64)) _ _ l1 [.slice A1 l1.length c1] from (Kd.FK_slice_mk (Kd.V_reads' (Kd.V_mono (ok' := (fun k_ => ((P1_ k_ ∨ P2_ k_) ∨ w.heap.size ≤ k_) ∧ k_ ≠ gb289)) (HO1.out) (fun k_ hk => ⟨hk.1, hk.2⟩))).2.1 (Kd.V_F (Kd.V_mono (ok' := (fun k_ => ((P1_ k_ ∨ P2_ k_) ∨ w.heap.size ≤ k_) ∧ k_ ≠ gb289)) (HO1.out) (fun k_ hk => ⟨hk.1, hk.2⟩))))) (Reps.one (show Kd.FK (Kd.slice 3 (Kd.int .i64)) _ _ l2 [.slice A2 l2.length c2] from (Kd.FK_slice_mk (Kd.V_reads' (Kd.V_mono (ok' := (fun k_ => ((P1_ k_ ∨ P2_ k_) ∨ w.heap.size ≤ k_) ∧ k_ ≠ gb289)) (HO2.out) (fun k_ hk => ⟨hk.1, hk.2⟩))).2.1 (Kd.V_F (Kd.V_mono (ok' := (fun k_ => ((P1_ k_ ∨ P2_ k_) ∨ w.heap.size ≤ k_) ∧ k_ ≠ gb289)) (HO2.out) (fun k_ hk => ⟨hk.1, hk.2⟩))))) (Reps.none _ _)))); intro v291 w27 ho28 hb hg_ hnew_; clear hg_ hnew_; (rw [← Ny290.out] at ho28); replace HO1 := am (Kd.V_elder' HO1.out (Kd.N_base ho28) hb); replace HO2 := am (Kd.V_elder' HO2.out (Kd.N_base ho28) hb); have HO292 := am (Kd.N_lower ho28 (below_size HB.out)); replace BK289 := am (blk_below BK289.out hb); replace HB := am (below_step HB.out hb); clear hb ho28; obtain ⟨Ao29, co29, eo29⟩ := Kd.N_slice HO292.out; subst eo29) | (go_at_call 29; (with_reducible refine (impl_areDriven.calls k a0_0 a0_1 _ _ y290 true _ ((Kd.N_reads' HO292.out).2.2) ?side2 A4.out).mono ?_); (case side2 => exact (Kd.N_reads' HO292.out).2.1); rintro e w30 ⟨rfl, hb⟩; replace HO1 := am (Kd.V_below HO1.out hb); replace HO2 := am (Kd.V_below HO2.out hb); replace HO292 := am (Kd.N_below HO292.out hb); replace BK289 := am (blk_below BK289.out hb); replace HB := am (below_step HB.out hb); (try clear hb); have hcz31_0 := cz0_ BK289; have hcz31_1 := cz1_ BK289; have hfz31_0 := blk_frozen BK289.out 0; have hfz31_1 := blk_frozen BK289.out 1) | (go_at_call 30; (with_reducible refine (impl_drivesTo.calls k a0_0 a0_1 _ _ l2 t294 _ ((Kd.V_reads' HO2.out).2.2) ?side2 A6.out).mono ?_); (case side2 => exact (Kd.V_reads' HO2.out).2.1); rintro e w32 ⟨v295, rfl, ho0, hb⟩; replace HO1 := am (Kd.V_elder' HO1.out (by exact Kd.N_base (Kd.S_N ho0)) hb); replace HO2 := am (Kd.V_elder' HO2.out (by exact Kd.N_base (Kd.S_N ho0)) hb); have HO296 := am (Kd.N_lower (Kd.N_mono (ok' := fun k_ => ((P1_ k_ ∨ P2_ k_) ∨ w.heap.size ≤ k_) ∧ some k_ ≠ (.slice Ao29 y290.length co29 : Value).ownBlock ∧ k_ ≠ gb289) (Kd.S_N (Kd.S_bound ho0)) (fun k_ hk_ => ⟨(.inr (Nat.le_trans (below_size HB.out) hk_.2.1)), (Kd.fresh' (Kd.N_lt HO292.out) k_ hk_.2.1), (Kd.freshB (g := gb289) (o := .cells #[.string a0_0, .string a0_1] 25 (0, 0)) BK289.out k_ hk_.2.1)⟩)) (below_size HB.out)); replace HO292 := am (Kd.N_elder' HO292.out (by exact Kd.N_base (Kd.S_N ho0)) hb); replace BK289 := am (blk_below BK289.out hb); replace HB := am (below_step HB.out hb); (try clear hb); (try clear ho0); have p297 : 0 ≤ (0 : Int) := (by omega); have q297 : 0 < (l1.length : Int) := of_decide_eq_true (by with_reducible assumption); obtain ⟨ad297, e297, hx297_0⟩ := Kd.at_int (Kd.V_reads' HO1.out).2.2 0 p297 q297; cases e297; have qi297 : (0 < l1.length) = True := eq_true (by omega); (try rw [show ((0 : Int)).toNat = 0 from rfl] at hx297_0); (try rw [Addr.add_zero'] at hx297_0); replace p297 := eq_true p297; replace q297 := eq_true q297; obtain ⟨Ao33, co33, eo33⟩ := Kd.N_slice HO296.out; subst eo33; have p298 : 0 ≤ ((rd l1 0) : Int) := of_decide_eq_true (by with_reducible assumption); have q298 : (rd l1 0) < (t294.length : Int) := of_decide_eq_true (by with_reducible assumption); obtain ⟨ad298, A298_0, c298_0, e298, hx298_0, hl298_0, hi298_0⟩ := at_L3 (Kd.N_reads' HO296.out).2.2 (rd l1 0) p298 q298; cases e298; obtain ⟨ce298, hce298, hMe298, hcc298⟩ := Kd.N_get HO296.out [] (rd l1 0) p298 q298; obtain ⟨ua298_0, uc298_0, rfl, ul298_0, ge298_0⟩ := Kd.FK_slice_open hMe298; have hv298_0 := hcc298 0 _ rfl; rw [Nat.add_zero, show ((Kd.slice 3 (Kd.int .i64))).sz = 1 from rfl, Nat.mul_one] at hv298_0; replace hv298_0 := Option.some.inj (hv298_0.symm.trans hx298_0); injection hv298_0 with hva_ hvn_ hvc_; rw [hva_] at ge298_0; rw [hvc_] at ul298_0; have HL298_0 := am (show Kd.V (Kd.int .i64) 3 _ w.heap.size _ _ (rd_L3 t294 (rd l1 0)) from Kd.V_mk ul298_0 ge298_0); clear hva_ hvn_ hvc_ ge298_0 ul298_0 hcc298 hce298; have HR298_0 := am hi298_0; have HC298_0 := am hl298_0; clear hi298_0 hl298_0; replace p298 := eq_true p298; replace q298 := eq_true q298; have p299 : 0 ≤ (1 : Int) := (by omega); have q299 : 1 < (l1.length : Int) := of_decide_eq_true (by with_reducible assumption); obtain ⟨ad299, e299, hx299_0⟩ := Kd.at_int (Kd.V_reads' HO1.out).2.2 1 p299 q299; obtain rfl : ad297 = ad299 := (by injection e299); (try simp only [show (1 : Int).toNat = 1 from rfl, Nat.reduceMul, Nat.reduceEqDiff, Go.Addr.add, ↓reduceIte] at hx299_0); have qi299 : (1 < l1.length) = True := eq_true (by omega); replace p299 := eq_true p299; replace q299 := eq_true q299; have p300 : 0 ≤ ((rd l1 1) : Int) := of_decide_eq_true (by with_reducible assumption); have q300 : (rd l1 1) < ((rd_L3 t294 (rd l1 0)).length : Int) := of_decide_eq_true (by with_reducible assumption); obtain ⟨ad300, e300, hx300_0⟩ := Kd.at_int (by repeat (with_reducible exact HR298_0.out)) (rd l1 1) p300 q300; cases e300; replace p300 := eq_true p300; replace q300 := eq_true q300; have hcz34_0 := cz0_ BK289; have hcz34_1 := cz1_ BK289; have hfz34_0 := blk_frozen BK289.out 0; have hfz34_1 := blk_frozen BK289.out 1))
         repeat (go_quiet (fail); try go_wp2_with (first | (go_at_call 32; (with_reducible refine (impl_driveIn.calls a0_0 a0_1 t301 _ A23.out).mono ?_); rintro e w35 ⟨p301, rfl, HP301, hb⟩; replace HO1 := am (Kd.V_below (by (with_reducible repeat (apply Kd.V_drewN)); exact HO1.out) hb); replace HO2 := am (Kd.V_below (by (with_reducible repeat (apply Kd.V_drewN)); exact HO2.out) hb); replace HO292 := am (Kd.N_below (by (with_reducible repeat (apply Kd.N_drewN)); exact HO292.out) hb); replace HO296 := am (Kd.N_below (by (with_reducible repeat (apply Kd.N_drewN)); exact HO296.out) hb); replace HL298_0 := am (Kd.V_below (by (with_reducible repeat (apply Kd.V_drewN)); exact HL298_0.out) hb); replace BK289 := am (blk_below (by (with_reducible repeat (refine blk_drewN ?_ _)); exact BK289.out) hb); replace HR298_0 := am (Kd.C_below (by repeat (exact HR298_0.out)) hb); replace HB := am (below_step (by repeat (with_reducible first | exact HB.out | apply pw_below_drewN)) hb); (try clear hb)) | (go_at_call 38; (with_reducible refine (impl_countWays.calls k _ _ t294 _ _ l1 t301 t302 _ ((Kd.N_reads' HO296.out).2.2) ?side2 ?side3 ?side4 A24.out _ HP301).mono ?_); (case side2 => exact (Kd.N_reads' HO296.out).2.1); (case side3 => repeat (exact (Kd.V_reads' HO1.out).2.2)); (case side4 => exact (Kd.V_reads' HO1.out).2.1); rintro e w36 ⟨rfl, hb⟩; replace HO1 := am (Kd.V_below HO1.out hb); replace HO2 := am (Kd.V_below HO2.out hb); replace HO292 := am (Kd.N_below HO292.out hb); replace HO296 := am (Kd.N_below HO296.out hb); replace HL298_0 := am (Kd.V_below HL298_0.out hb); replace BK289 := am (blk_below BK289.out hb); replace HR298_0 := am (Kd.C_below (by repeat (with_reducible exact HR298_0.out)) hb); replace HB := am (below_step HB.out hb); (try clear hb))))
         go_ret2
         exact ⟨by rfl, by exact HB.out⟩
       ·rw [if_neg c12] at H
        exact absurd H (by simp)
      ·rw [if_neg c11] at H
       exact absurd H (by simp)
     ·rw [if_neg c10] at H
      exact absurd H (by simp)
    ·rw [if_neg c9] at H
     exact absurd H (by simp)
   ·rw [if_neg c8] at H
    exact absurd H (by simp)
  ·rw [if_neg c7] at H
   exact absurd H (by simp)
 ·replace c5 := Bool.eq_false_iff.mpr c5
  subst c5
  rw [if_neg (show ¬ (false = true) by decide)] at H
  simp only [Option.some.injEq, Prod.mk.injEq] at H
  obtain ⟨rfl, rfl⟩ := H
  go_enter Try.func10, Try.ntmps10
  go_wp2_with (first | ((with_reducible refine gate_dst (N := 3) rfl ?_); refine bx_ 3 (#[.string a0_0, .string a0_1]) 25 ?_; intro gb289 hg w37 hbox hb; replace HO1 := am (Kd.V_below (Kd.V_elderB HO1.out gb289 (Nat.le_of_eq hg.symm)) hb); replace HO2 := am (Kd.V_below (Kd.V_elderB HO2.out gb289 (Nat.le_of_eq hg.symm)) hb); have BK289 := am (hbox); have GW289 := am ((by rw [hg]; exact (below_size HB.out) : w.heap.size ≤ gb289)); have GE289 := am ((by rw [hg]; exact (below_size HB.out) : w.heap.size ≤ gb289)); replace HB := am (below_step HB.out hb); clear hb hbox hg; have hcz38_0 := cz0_ BK289; have hcz38_1 := cz1_ BK289; have hfz38_0 := blk_frozen BK289.out 0; have hfz38_1 := blk_frozen BK289.out 1) | ((with_reducible refine gate_dst (N := 12) rfl ?_); refine Kd.N_lit (Kd.slice 3 (Kd.int .i64)) _ 26 ?hg (N' := 12) ?hd (xs := ([l1, l2] : List (List Int))) (inner := [.slice A1 l1.length c1, .slice A2 l2.length c2]) (ok := (fun k_ => ((P1_ k_ ∨ P2_ k_) ∨ w.heap.size ≤ k_) ∧ k_ ≠ gb289)) (okp := (fun k_ => ((P1_ k_ ∨ P2_ k_) ∨ w.heap.size ≤ k_) ∧ k_ ≠ gb289)) ?hr ?hp (fun _ hk => hk) ((show ∀ k_, w37.heap.size ≤ k_ → (fun k_ => ((P1_ k_ ∨ P2_ k_) ∨ w.heap.size ≤ k_) ∧ k_ ≠ gb289) k_ from fun k_ hk => ⟨(.inr (Nat.le_trans (below_size HB.out) hk)), Kd.freshB (g := gb289) (o := .cells #[.string a0_0, .string a0_1] 25 (0, 0)) BK289.out k_ hk⟩) _ (Nat.le_refl _)) (Below.refl _ _) (Nat.le_refl _) (by simp) ?_; (case hd => rfl); (case hg => rfl); (case hr => go_simp; done); (case hp => exact (Reps.one (show Kd.FK (Kd.slice 3 (Kd.int .i64)) _ _ l1 [.slice A1 l1.length c1] from (Kd.FK_slice_mk (Kd.V_reads' (Kd.V_mono (ok' := (fun k_ => ((P1_ k_ ∨ P2_ k_) ∨ w.heap.size ≤ k_) ∧ k_ ≠ gb289)) (HO1.out) (fun k_ hk => ⟨hk.1, hk.2⟩))).2.1 (Kd.V_F (Kd.V_mono (ok' := (fun k_ => ((P1_ k_ ∨ P2_ k_) ∨ w.heap.size ≤ k_) ∧ k_ ≠ gb289)) (HO1.out) (fun k_ hk => ⟨hk.1, hk.2⟩))))) (Reps.one (show Kd.FK (Kd.slice 3 (Kd.int .i64)) _ _ l2 [.slice A2 l2.length c2] from (Kd.FK_slice_mk (Kd.V_reads' (Kd.V_mono (ok' := (fun k_ => ((P1_ k_ ∨ P2_ k_) ∨ w.heap.size ≤ k_) ∧ k_ ≠ gb289)) (HO2.out) (fun k_ hk => ⟨hk.1, hk.2⟩))).2.1 (Kd.V_F (Kd.V_mono (ok' := (fun k_ => ((P1_ k_ ∨ P2_ k_) ∨ w.heap.size ≤ k_) ∧ k_ ≠ gb289)) (HO2.out) (fun k_ hk => ⟨hk.1, hk.2⟩))))) (Reps.none _ _)))); intro v291 w39 ho40 hb hg_ hnew_; clear hg_ hnew_; (rw [← Ny290.out] at ho40); replace HO1 := am (Kd.V_elder' HO1.out (Kd.N_base ho40) hb); replace HO2 := am (Kd.V_elder' HO2.out (Kd.N_base ho40) hb); have HO292 := am (Kd.N_lower ho40 (below_size HB.out)); replace BK289 := am (blk_below BK289.out hb); replace HB := am (below_step HB.out hb); clear hb ho40; obtain ⟨Ao41, co41, eo41⟩ := Kd.N_slice HO292.out; subst eo41) | (go_at_call 29; (with_reducible refine (impl_areDriven.calls k a0_0 a0_1 _ _ y290 false _ ((Kd.N_reads' HO292.out).2.2) ?side2 A4.out).mono ?_); (case side2 => exact (Kd.N_reads' HO292.out).2.1); rintro e w42 ⟨rfl, hb⟩; replace HO1 := am (Kd.V_below HO1.out hb); replace HO2 := am (Kd.V_below HO2.out hb); replace HO292 := am (Kd.N_below HO292.out hb); replace BK289 := am (blk_below BK289.out hb); replace HB := am (below_step HB.out hb); (try clear hb)))
  go_ret2
  exact ⟨by rfl, by exact HB.out⟩
end Go.Proofs.Ytdhdkkhbgfcoiaa.MX
