-- The machine side, written by this repo's program mp.py; contracts marked as of this repo are this session's own.
import Derived.Test.YtdhdkkhbgfcoiaaMXx0
import Derived.Test.YtdhdkkhbgfcoiaaMXx5
import Derived.Test.YtdhdkkhbgfcoiaaMXx7
import Derived.Test.YtdhdkkhbgfcoiaaMXx8
import Derived.Test.YtdhdkkhbgfcoiaaMXx9
import Derived.Test.YtdhdkkhbgfcoiaaMXx10
import Derived.Test.YtdhdkkhbgfcoiaaMXx11
namespace Go.Proofs.Ytdhdkkhbgfcoiaa.MX
open Go.RowKit Go.Proofs.YtdhdkkhbgfcoiaaW.PrintWords Go.Proofs.YtdhdkkhbgfcoiaaW.PrintLast Go.Proofs.YtdhdkkhbgfcoiaaW.PrintMore
attribute [local go_sem] max2_int min2_int max_two min_two max_three min_three max_four min_four   -- for this text's walks alone
set_option maxHeartbeats 16000000
set_option maxRecDepth 100000
set_option linter.unusedVariables false
set_option linter.unusedSimpArgs false
def spec_CountDrives.upd (c : Nat → Int) (p : Nat) (v : Int) : Nat → Int := fun q => if q = p then v else c q
def spec_CountDrives.sgF (far : List Int) (s t : ByteArray) (n q m : Nat) (c : Nat → Int) : Nat → Int := if spec_FirstDrive.ok far s t ((n : Int) - 1) ((q / s.size : Nat) : Int) ((q % s.size : Nat) : Int) m = true then spec_CountDrives.upd c q (wrap64 (c q + c ((((q / s.size : Nat) : Int) + impl_driveIn.dx m) * s.size + (((q % s.size : Nat) : Int) + impl_driveIn.dy m)).toNat)) else c
def spec_CountDrives.cellF (far : List Int) (s t : ByteArray) (n q : Nat) (c : Nat → Int) : Nat → Int := if rd far (q : Int) = (n : Int) then impl_countWays.iter (spec_CountDrives.sgF far s t n q) 4 0 c else c
def spec_CountDrives.levF (far : List Int) (s t : ByteArray) (n : Nat) (c : Nat → Int) : Nat → Int := impl_countWays.iter (spec_CountDrives.cellF far s t n) (t.size * s.size) 0 c
def spec_CountDrives.total (far : List Int) (s t : ByteArray) (D b a : Nat) : Int := impl_countWays.iter (spec_CountDrives.levF far s t) D 1 (spec_CountDrives.upd (fun _ => 0) b 1) a
theorem spec_CountDrives.zeros {w : World} {W : World} (n : Nat) (h : w = W.alloc (.cells (madeCells #[Value.int .i64 0] n) 3)) : spec_owFar.Fa w W.heap.size n n (fun _ => 0) := by
 rw [h]
 refine ⟨_, heap_alloc_new _ _, by rw [size_madeCells], fun j hj => ?_⟩
 rw [← Array.getElem?_toList, toList_madeCells_one]
 simp [hj]
theorem spec_CountDrives.fa_upd {w : World} {g n : Nat} {c : Nat → Int} (h : spec_owFar.Fa w g n n c) (j : Nat) (hj : j < n) (v : Int) : spec_owFar.Fa (w.setCell ⟨g, j, none⟩ (.int .i64 v)) g n n (spec_CountDrives.upd c j v) := by
 have z := h.set j hj v
 rw [if_neg (by omega)] at z
 exact z
def spec_CountDrives.f (k : Nat) (s t : ByteArray) (l1 l2 : List Int) : Option (Int × Bool) := (spec_owAsked.f k s t l1 l2).bind fun b => if b = true then ((spec_owDistance.f k s t l1 l2).bind fun D => if D < 0 then some (0, false) else (spec_owBack.f k s t).bind fun bt => (spec_owFar.f k bt.1 bt.2 l2).bind fun far => if (((spec_owFar.Signs s t ∧ l1.length = 2) ∧ impl_driveIn.At s t (rd l1 0) (rd l1 1)) ∧ (l2.length = 2 ∧ impl_driveIn.At s t (rd l2 0) (rd l2 1))) ∧ far.length = t.size * s.size ∧ D ≤ 64 then some (spec_CountDrives.total far s t D.toNat ((rd l2 0).toNat * s.size + (rd l2 1).toNat) ((rd l1 0).toNat * s.size + (rd l1 1).toNat), true) else none) else some (0, false)
theorem spec_CountDrives.tab17 : rtab .any (opsOf Try.f11 17) = spec_owFar.T17 := by kernel_rfl
theorem spec_CountDrives.calls (k : Nat) (a0_0 : ByteArray) (a0_1 : ByteArray) (A1 : Option Addr) (c1 : Nat) (l1 : List Int) (A2 : Option Addr) (c2 : Nat) (l2 : List Int) (r1 : Int) (r2 : Bool) (w : World) (hr1 : Kd.C (Kd.int .i64) w A1 l1.length l1) (hc1 : l1.length ≤ c1) (hr2 : Kd.C (Kd.int .i64) w A2 l2.length l2) (hc2 : l2.length ≤ c2) (h : spec_CountDrives.f k a0_0 a0_1 l1 l2 = some (r1, r2)) :
  Calls Try.prog 11 #[.agg #[.string a0_0, .string a0_1], .slice A1 l1.length c1, .slice A2 l2.length c2] w fun e w' => e = .returned (.tuple #[.int .i64 r1, .bool r2]) ∧ Below w.heap.size w w' := by
 unfold spec_CountDrives.f at h
 obtain ⟨b, hb, h⟩ := Option.bind_eq_some_iff.1 h
 obtain ⟨wb, hwb⟩ : ∃ wb : World, w.alloc (.cells #[.string a0_0, .string a0_1] 25) = wb := ⟨_, rfl⟩
 have HBX := am (show wb.heap[w.heap.size]? = some (.cells #[.string a0_0, .string a0_1] 25 (0, 0)) by rw [← hwb]; exact heap_alloc_new _ _)
 have HB := am (show Below w.heap.size w wb by rw [← hwb]; exact below_alloc (Below.refl _ _) _)
 have HR1 := am (Kd.C_below hr1 HB.out)
 have HR2 := am (Kd.C_below hr2 HB.out)
 have hp0 : wb.cell? ⟨w.heap.size, 0, none⟩ = some (.string a0_0) := (blk_cell HBX.out 0).trans rfl
 have hp1 : wb.cell? ⟨w.heap.size, 1, none⟩ = some (.string a0_1) := (blk_cell HBX.out 1).trans rfl
 have HAs := am (fun (W : World) (h1 : Kd.C (Kd.int .i64) W A1 l1.length l1) (h2 : Kd.C (Kd.int .i64) W A2 l2.length l2) => spec_owAsked.calls k a0_0 a0_1 A1 c1 l1 A2 c2 l2 b W h1 hc1 h2 hc2 hb)
 clear hr1 hr2
 cases b with
 | false =>
  rw [if_neg (by simp)] at h
  simp only [Option.some.injEq, Prod.mk.injEq] at h
  obtain ⟨rfl, rfl⟩ := h
  go_enter Try.func11, Try.ntmps11
  go_wp2_with (go_at_call 33; refine (HAs.out _ HR1.out HR2.out).mono ?_; rintro e w1 ⟨rfl, hb1⟩; have HB1 := am (below_then HB.out HB.out.size hb1); clear hb1)
  go_ret2
  exact ⟨rfl, HB1.out⟩
 | true =>
  rw [if_pos rfl] at h
  obtain ⟨D, hD, h⟩ := Option.bind_eq_some_iff.1 h
  have HDs := am (fun (W : World) (h1 : Kd.C (Kd.int .i64) W A1 l1.length l1) (h2 : Kd.C (Kd.int .i64) W A2 l2.length l2) => spec_owDistance.calls k a0_0 a0_1 A1 c1 l1 A2 c2 l2 D W h1 hc1 h2 hc2 hD)
  by_cases q : D < 0
  ·rw [if_pos q] at h
   simp only [Option.some.injEq, Prod.mk.injEq] at h
   obtain ⟨rfl, rfl⟩ := h
   have qb : decide (D < 0) = true := decide_eq_true q
   clear hD q
   go_enter Try.func11, Try.ntmps11
   go_wp2_with (first | (go_at_call 33; refine (HAs.out _ HR1.out HR2.out).mono ?_; rintro e w1 ⟨rfl, hb1⟩; have HB1 := am (below_then HB.out HB.out.size hb1); have HR11 := am (Kd.C_below HR1.out hb1); have HR21 := am (Kd.C_below HR2.out hb1); have hp0 := pw_cell_below hb1 hp0; have hp1 := pw_cell_below hb1 hp1; clear hb1) | (go_at_call 34; refine (HDs.out _ HR11.out HR21.out).mono ?_; rintro e w2 ⟨rfl, hb2⟩; have HB2 := am (below_then HB1.out HB1.out.size hb2); clear hb2))
   go_ret2
   exact ⟨rfl, HB2.out⟩
  ·rw [if_neg q] at h
   obtain ⟨bt, hbt, h⟩ := Option.bind_eq_some_iff.1 h
   obtain ⟨far, hfar, h⟩ := Option.bind_eq_some_iff.1 h
   by_cases c : (((spec_owFar.Signs a0_0 a0_1 ∧ l1.length = 2) ∧ impl_driveIn.At a0_0 a0_1 (rd l1 0) (rd l1 1)) ∧ (l2.length = 2 ∧ impl_driveIn.At a0_0 a0_1 (rd l2 0) (rd l2 1))) ∧ far.length = a0_1.size * a0_0.size ∧ D ≤ 64
   case neg => rw [if_neg c] at h; cases h
   rw [if_pos c] at h
   simp only [Option.some.injEq, Prod.mk.injEq] at h
   obtain ⟨hTot, hr2'⟩ := h
   subst hr2'
   obtain ⟨⟨⟨⟨hG, hl⟩, ⟨x0, x1⟩, y0, y1⟩, hl2, ⟨u0, u1⟩, v0, v1⟩, hfl, hD64⟩ := c
   have qb : decide (D < 0) = false := decide_eq_false q
   have HG := am hG
   obtain ⟨t1, t8, s1, s8⟩ : 1 ≤ a0_1.size ∧ a0_1.size ≤ 8 ∧ 1 ≤ a0_0.size ∧ a0_0.size ≤ 8 := ⟨hG.1.1.1, hG.1.1.2, hG.1.2.1, hG.1.2.2⟩
   obtain ⟨nD, hnD⟩ := Int.eq_ofNat_of_zero_le (show 0 ≤ D by omega)
   subst hnD
   rw [Int.toNat_natCast] at hTot
   obtain ⟨ad, rfl, hx0, hx1⟩ := spec_owDistance.two hl HR1.out
   obtain ⟨bd, rfl, hy0, hy1⟩ := spec_owDistance.two hl2 HR2.out
   obtain ⟨x, hx⟩ := Int.eq_ofNat_of_zero_le x0
   obtain ⟨y, hy⟩ := Int.eq_ofNat_of_zero_le y0
   obtain ⟨bx, hbx⟩ := Int.eq_ofNat_of_zero_le u0
   obtain ⟨bY, hbY⟩ := Int.eq_ofNat_of_zero_le v0
   rw [hx] at hx0 x1 hTot
   rw [hy] at hx1 y1 hTot
   rw [hbx] at hy0 u1 hTot
   rw [hbY] at hy1 v1 hTot
   simp only [Int.toNat_natCast] at hTot
   have hxt : x < a0_1.size := by omega
   have hys : y < a0_0.size := by omega
   have hbxt : bx < a0_1.size := by omega
   have hbYs : bY < a0_0.size := by omega
   obtain ⟨N, hN⟩ : ∃ N, far.length = N := ⟨_, rfl⟩
   have hNe : a0_1.size * a0_0.size = N := by rw [← hN, hfl]
   have hN0 : 0 < N := by rw [← hNe]; exact Nat.mul_pos (by omega) (by omega)
   have hN64 : N ≤ 64 := by rw [← hNe]; exact Nat.le_trans (Nat.mul_le_mul t8 s8) (by decide)
   obtain ⟨ca, hca⟩ : ∃ ca, ca = x * a0_0.size + y := ⟨_, rfl⟩
   obtain ⟨cb, hcb⟩ : ∃ cb, cb = bx * a0_0.size + bY := ⟨_, rfl⟩
   rw [← hca, ← hcb] at hTot
   have hcaN : ca < N := by rw [hca, ← hNe]; exact spec_owFar.cd_lt _ _ _ _ hxt hys
   have hcbN : cb < N := by rw [hcb, ← hNe]; exact spec_owFar.cd_lt _ _ _ _ hbxt hbYs
   obtain ⟨ma, hma⟩ : ∃ ma, ma = x * a0_0.size := ⟨_, rfl⟩
   obtain ⟨mb, hmb⟩ : ∃ mb, mb = bx * a0_0.size := ⟨_, rfl⟩
   have e1 : IntKind.i64.wrap ((x : Int) * (a0_0.size : Int)) = (ma : Int) := by rw [i64_w, ← Int.natCast_mul, ← hma, Go.Proofs.Ytdhdkkhbgfcoiaa.Lib.w64] <;> omega
   have e2 : IntKind.i64.wrap ((ma : Int) + (y : Int)) = (ca : Int) := by rw [i64_w, Go.Proofs.Ytdhdkkhbgfcoiaa.Lib.w64] <;> omega
   have e3 : IntKind.i64.wrap ((bx : Int) * (a0_0.size : Int)) = (mb : Int) := by rw [i64_w, ← Int.natCast_mul, ← hmb, Go.Proofs.Ytdhdkkhbgfcoiaa.Lib.w64] <;> omega
   have e4 : IntKind.i64.wrap ((mb : Int) + (bY : Int)) = (cb : Int) := by rw [i64_w, Go.Proofs.Ytdhdkkhbgfcoiaa.Lib.w64] <;> omega
   have HEa := am (And.intro e1 e2)
   have HEb := am (And.intro e3 e4)
   have HNe := am hNe
   have HX0 := am hx0
   have HX1 := am hx1
   have HY0 := am hy0
   have HY1 := am hy1
   obtain ⟨C, hC⟩ : ∃ C, C = impl_countWays.iter (spec_CountDrives.levF far a0_0 a0_1) nD 1 (spec_CountDrives.upd (fun _ => 0) cb 1) := ⟨_, rfl⟩
   have HT0 := am (show impl_countWays.iter (spec_CountDrives.levF far a0_0 a0_1) (nD + 1 - 1) 1 (spec_CountDrives.upd (fun _ => 0) cb 1) = C by rw [hC]; rfl)
   have HR := am (show C ca = r1 by rw [hC]; exact hTot)
   have HBs := am (fun (W : World) => spec_owBack.calls k a0_0 a0_1 bt.1 bt.2 W hbt)
   have HFs := am (fun (W : World) (h2 : Kd.C (Kd.int .i64) W (some bd) l2.length l2) => spec_owFar.calls k bt.1 bt.2 (some bd) c2 l2 far W h2 hc2 hfar)
   obtain ⟨i0, hi, hz0, hz1, hz2⟩ := info_parts (show (Try.prog.info? 3).map (fun i => (i.zero, i.size, i.bytes)) = some (some (.int .i64 0), 1, 8) from by kernel_rfl)
   have hmk := fun W : World => run_makeSlice (P := Try.prog) (w := W) 26 3 i0 (.int .i64 0) Try.underlying26 hi hz0 .i64 .i64 (N : Int) (N : Int) (by omega) (Int.le_refl _) (by rw [hz1]; omega) (by rw [hz2]; omega) (by omega)
   simp only [Int.toNat_natCast, hz1, Nat.mul_one] at hmk
   rw [hl] at HAs HDs HR1 ⊢
   rw [hl2] at HAs HDs HFs HR2 ⊢
   clear hD q hbt hfar hl hl2 hG hfl hx hy hbx hbY x0 y0 u0 v0 hx0 hx1 hy0 hy1 x1 y1 u1 v1 hb hTot hC hca hcb hma hmb e1 e2 e3 e4 hNe hi hz0 hz1 hz2
   go_enter Try.func11, Try.ntmps11
   go_wp2_with (first | (go_at_call 33; refine (HAs.out _ HR1.out HR2.out).mono ?_; rintro e w1 ⟨rfl, hb1⟩; have HBX1 := am ((hb1.block _ (Array.getElem?_eq_some_iff.1 HBX.out).1).trans HBX.out); have HB1 := am (below_then HB.out HB.out.size hb1); have HR11 := am (Kd.C_below HR1.out hb1); have HR21 := am (Kd.C_below HR2.out hb1); have HX01 := am (pw_cell_below hb1 HX0.out); have HY01 := am (pw_cell_below hb1 HY0.out); have HX11 := am (pw_cell_below hb1 HX1.out); have HY11 := am (pw_cell_below hb1 HY1.out); have hp0 := pw_cell_below hb1 hp0; have hp1 := pw_cell_below hb1 hp1; clear hb1) | (go_at_call 34; refine (HDs.out _ HR11.out HR21.out).mono ?_; rintro e w2 ⟨rfl, hb2⟩; have HBX2 := am ((hb2.block _ (Array.getElem?_eq_some_iff.1 HBX1.out).1).trans HBX1.out); have HB2 := am (below_then HB1.out HB1.out.size hb2); have HR12 := am (Kd.C_below HR11.out hb2); have HR22 := am (Kd.C_below HR21.out hb2); have HX02 := am (pw_cell_below hb2 HX01.out); have HY02 := am (pw_cell_below hb2 HY01.out); have HX12 := am (pw_cell_below hb2 HX11.out); have HY12 := am (pw_cell_below hb2 HY11.out); have hp0 := pw_cell_below hb2 hp0; have hp1 := pw_cell_below hb2 hp1; clear hb2 HBX1 HB1 HR11 HR21 HX01 HX11) | (go_at_call 36; refine (HBs.out _).mono ?_; rintro e w3 ⟨rfl, hb3⟩; have HBX3 := am ((hb3.block _ (Array.getElem?_eq_some_iff.1 HBX2.out).1).trans HBX2.out); have HB3 := am (below_then HB2.out HB2.out.size hb3); have HR13 := am (Kd.C_below HR12.out hb3); have HR23 := am (Kd.C_below HR22.out hb3); have HX03 := am (pw_cell_below hb3 HX02.out); have HY03 := am (pw_cell_below hb3 HY02.out); have HX13 := am (pw_cell_below hb3 HX12.out); have HY13 := am (pw_cell_below hb3 HY12.out); have hp0 := pw_cell_below hb3 hp0; have hp1 := pw_cell_below hb3 hp1; clear hb3) | (go_at_call 35; refine (HFs.out _ HR23.out).mono ?_; rintro e w4 ⟨v4, rfl, hR4, hb4⟩; have HBX4 := am ((hb4.block _ (Array.getElem?_eq_some_iff.1 HBX3.out).1).trans HBX3.out); have HB4 := am (below_then HB3.out HB3.out.size hb4); have HR14 := am (Kd.C_below HR13.out hb4); have HR24 := am (Kd.C_below HR23.out hb4); have HX04 := am (pw_cell_below hb4 HX03.out); have HX14 := am (pw_cell_below hb4 HX13.out); have HY04 := am (pw_cell_below hb4 HY03.out); have HY14 := am (pw_cell_below hb4 HY13.out); obtain ⟨A4, c4, e4⟩ := Kd.R_slice hR4; subst e4; obtain ⟨ad4, hA4, -⟩ := Kd.at_int (Kd.R_reads' hR4).2.2 0 (by omega) (by omega); subst hA4; obtain ⟨gf, rfl⟩ := Kd.R_head hR4; have HFC := am (fun j hj => spec_FirstDrive.cells hR4 j hj); rw [hN] at HFC ⊢; clear hb4 hR4 hp0 hp1))
   clear hmk qb
   clear hwb
   obtain ⟨w5, hw5⟩ : ∃ w5 : World, w5 = w4.alloc (.cells (madeCells #[Value.int .i64 0] N) 3) := ⟨_, rfl⟩
   rw [← hw5]
   have HFa := am (spec_CountDrives.zeros N hw5)
   have HB5 := am (show Below w4.heap.size w4 w5 by rw [hw5]; exact below_alloc (Below.refl _ _) _)
   clear hw5
   obtain ⟨g, hg⟩ : ∃ g, g = w4.heap.size := ⟨_, rfl⟩
   rw [← hg] at HFa ⊢
   have HGB := am (show w4.heap.size ≤ g by omega)
   clear hg
   have HSt := am (show ∀ W : World, Below w4.heap.size w4 W → (W.cell? ad = some (.int .i64 x) ∧ W.cell? { block := ad.block, off := ad.off + 1 } = some (.int .i64 y)) ∧ (W.cell? bd = some (.int .i64 bx) ∧ W.cell? { block := bd.block, off := bd.off + 1 } = some (.int .i64 bY)) ∧ (W.cell? ⟨w.heap.size, 0, none⟩ = some (.string a0_0) ∧ W.cell? ⟨w.heap.size, 1, none⟩ = some (.string a0_1)) from fun W hW => ⟨⟨pw_cell_below hW HX04.out, pw_cell_below hW HX14.out⟩, ⟨pw_cell_below hW HY04.out, pw_cell_below hW HY14.out⟩, (blk_cell ((hW.block _ (Array.getElem?_eq_some_iff.1 HBX4.out).1).trans HBX4.out) 0).trans rfl, (blk_cell ((hW.block _ (Array.getElem?_eq_some_iff.1 HBX4.out).1).trans HBX4.out) 1).trans rfl⟩)
   have HFr := am (show ∀ W : World, Below w4.heap.size w4 W → ∀ j, j < N → W.cell? ⟨gf, j, none⟩ = some (.int .i64 (rd far (j : Int))) from fun W hW j hj => pw_cell_below hW (HFC.out j hj))
   have HDw := am (show ∀ W : World, Below w4.heap.size w4 W → Calls Try.prog 34 _ W _ from fun W hW => HDs.out W (Kd.C_below HR14.out hW) (Kd.C_below HR24.out hW))
   clear HX04 HX14 HY04 HY14 HFC HDs HR14 HR24 HBX4
   refine wp_region_still_tail 11 (by kernel_rfl) (by kernel_rfl) ?_
   simp only [List.take_succ_cons, List.take_zero, List.drop_succ_cons, List.drop_zero]
   obtain ⟨w6, hw6⟩ : ∃ w6 : World, w5.drew = w6 := ⟨_, rfl⟩
   have HB6 := am (show Below w4.heap.size w4 w6 by rw [← hw6]; exact below_drew1 HB5.out)
   have HF6 := am (show spec_owFar.Fa w6 g N N (fun _ => 0) by rw [← hw6]; exact HFa.out.below (below_drew1 (Below.refl _ _)))
   have hq2 := (HSt.out _ HB6.out).2.1.1
   have hq3 := (HSt.out _ HB6.out).2.1.2
   have hcel := HF6.out.cell cb hcbN
   have hfre := HF6.out.free cb
   obtain ⟨e3, e4⟩ := HEb.out
   change wpStill _ _ w5.drew _ _ _
   rw [hw6]
   have HW6 := am hw6
   clear hw6
   repeat still_step
   refine wpStill_nil ?_
   change wpList _ _ _ _ _ w5.drew
   rw [HW6.out]
   have HF7 := am (spec_CountDrives.fa_upd HF6.out cb hcbN 1)
   have HB7 := am (HB6.out.setCell (p := ⟨g, cb, none⟩) HGB.out (.int .i64 1))
   go_wp2
   clear hq2 hq3 hcel hfre e3 e4 HF6 HB6 HFa HB5 HW6
   go_loopw [11] (fun nv wr => ∃ (n : Nat) (c : Nat → Int), nv = .int .i64 n ∧ 1 ≤ n ∧ n ≤ nD + 1 ∧ Aside0 (spec_owFar.Fa wr g N N c) ∧ Aside0 (Below w4.heap.size w4 wr) ∧ Aside0 (impl_countWays.iter (spec_CountDrives.levF far a0_0 a0_1) (nD + 1 - n) n c = C)) (fun nv _ => nD + 2 - (intOf nv).toNat)
   case atStart => exact ⟨1, _, rfl, by omega, by omega, HF7, HB7, HT0⟩
   case round =>
    clear HF7 HB7 HT0
    obtain ⟨n, c, rfl, hn1, hnD, HF, HB, HI⟩ := hrel
    obtain ⟨-, -, hp0, hp1⟩ := HSt.out _ HB.out
    by_cases hnd : n ≤ nD
    ·have hdb : decide ((n : Int) ≤ (nD : Int)) = true := decide_eq_true (by omega)
     have HI2 := am (show impl_countWays.iter (spec_CountDrives.levF far a0_0 a0_1) (nD + 1 - (n + 1)) (n + 1) (spec_CountDrives.levF far a0_0 a0_1 n c) = C by rw [← impl_countWays.iter_step _ _ _ (by omega)]; exact HI.out)
     have HnD := am hnd
     obtain ⟨CL, hCL⟩ : ∃ CL, CL = spec_CountDrives.levF far a0_0 a0_1 n c := ⟨_, rfl⟩
     have HJ := am (show impl_countWays.iter (spec_CountDrives.cellF far a0_0 a0_1 n) (N - 0) 0 c = CL by rw [hCL]; unfold spec_CountDrives.levF; rw [HNe.out]; rfl)
     rw [← hCL] at HI2
     clear HI hCL
     go_wp2_with (go_at_call 34; refine (HDw.out _ HB.out).mono ?_; rintro e w8 ⟨rfl, hb8⟩; have HB8 := am (below_then HB.out HB.out.size hb8); have HF8 := am (HF.out.below hb8); clear hb8)
     clear hp0 hp1
     go_loopw [63] (fun av wr => ∃ (q : Nat) (c : Nat → Int), av = .int .i64 q ∧ q ≤ N ∧ Aside0 (spec_owFar.Fa wr g N N c) ∧ Aside0 (Below w4.heap.size w4 wr) ∧ Aside0 (impl_countWays.iter (spec_CountDrives.cellF far a0_0 a0_1 n) (N - q) q c = CL)) (fun av _ => N - (intOf av).toNat)
     case atStart => exact ⟨0, c, rfl, by omega, HF8, HB8, HJ⟩
     case round =>
      clear HF HB HJ HF8 HB8
      obtain ⟨q, c, rfl, hq, HF, HB, HJ⟩ := hrel
      by_cases hqN : q < N
      ·have HJ2 := am (show impl_countWays.iter (spec_CountDrives.cellF far a0_0 a0_1 n) (N - (q + 1)) (q + 1) (spec_CountDrives.cellF far a0_0 a0_1 n q c) = CL by rw [← impl_countWays.iter_step _ _ _ hqN]; exact HJ.out)
       have hfq := HFr.out _ HB.out q hqN
       have HQN := am hqN
       clear HJ
       obtain ⟨fq, hfqe⟩ : ∃ fq, fq = rd far (q : Int) := ⟨_, rfl⟩
       rw [← hfqe] at hfq
       by_cases hqn : fq = (n : Int)
       ·have hqb : (fq != (n : Int)) = false := bne_eq_false_iff_eq.2 hqn
        obtain ⟨CS, hCS⟩ : ∃ CS, CS = impl_countWays.iter (spec_CountDrives.sgF far a0_0 a0_1 n q) 4 0 c := ⟨_, rfl⟩
        have HS0 := am (show impl_countWays.iter (spec_CountDrives.sgF far a0_0 a0_1 n q) (4 - 0) 0 c = CS from hCS.symm)
        have hcf : spec_CountDrives.cellF far a0_0 a0_1 n q c = CS := by
         unfold spec_CountDrives.cellF
         rw [if_pos (by rw [← hfqe]; exact hqn), hCS]
        rw [hcf] at HJ2
        have kc := fun (w : World) (C : Array Value) (n c : Nat) => Go.Lib.run_convert_bytes_const (P := Try.prog) w 22 5 C n c Try.underlying22 Try.underlying5
        clear hcf hCS hfqe hqn
        go_wp2
        clear kc hfq
        obtain ⟨wo, rfl⟩ : ∃ wo, wo = wr := ⟨wr, rfl⟩
        have HBa := am (below_then HB.out HB.out.size (below_alloc (Below.refl wo.heap.size wo) (Obj.cells #[.int .u8 101, .int .u8 110, .int .u8 115, .int .u8 119] 5 (4, 5))))
        have HFa := am (HF.out.below (below_alloc (Below.refl wo.heap.size wo) (Obj.cells #[.int .u8 101, .int .u8 110, .int .u8 115, .int .u8 119] 5 (4, 5))))
        have HY := am (show (wo.alloc (Obj.cells #[.int .u8 101, .int .u8 110, .int .u8 115, .int .u8 119] 5 (4, 5))).heap[wo.heap.size]? = some (.cells #[.int .u8 101, .int .u8 110, .int .u8 115, .int .u8 119] 5 (4, 5)) from heap_alloc_new _ _)
        have HGw := am (show g ≠ wo.heap.size from by have := HF.out.lt; omega)
        clear HB HF
        obtain ⟨qx, hqx⟩ : ∃ qx, qx = q / a0_0.size := ⟨_, rfl⟩
        obtain ⟨qy, hqy⟩ : ∃ qy, qy = q % a0_0.size := ⟨_, rfl⟩
        have hqxt : qx < a0_1.size := by rw [hqx]; exact (Nat.div_lt_iff_lt_mul (by omega)).2 (by rw [HNe.out]; exact hqN)
        have hqys : qy < a0_0.size := by rw [hqy]; exact Nat.mod_lt _ (by omega)
        have ED := am (show wrap64 ((q : Int) / (a0_0.size : Int)) = (qx : Int) by
         rw [← Int.natCast_ediv, ← hqx, Go.Proofs.Ytdhdkkhbgfcoiaa.Lib.w64] <;> omega)
        have EM := am (show Int.tmod (q : Int) (a0_0.size : Int) = (qy : Int) by
         rw [← Int.ofNat_tmod, ← hqy])
        have HQX := am (And.intro hqx hqy)
        have HQT := am (And.intro hqxt hqys)
        clear hqx hqy hqxt hqys
        go_loopw [74] (fun jv wr => ∃ (j : Nat) (c : Nat → Int), jv = .int .i64 j ∧ j ≤ 4 ∧ Aside0 (spec_owFar.Fa wr g N N c) ∧ Aside0 (Below w4.heap.size w4 wr) ∧ Aside0 (wr.heap[wo.heap.size]? = some (.cells #[.int .u8 101, .int .u8 110, .int .u8 115, .int .u8 119] 5 (4, 5))) ∧ Aside0 (impl_countWays.iter (spec_CountDrives.sgF far a0_0 a0_1 n q) (4 - j) j c = CS)) (fun jv _ => 4 - (intOf jv).toNat)
        case atStart => exact ⟨0, c, rfl, by omega, HFa, HBa, HY, HS0⟩
        case round =>
         clear HFa HBa HY HS0
         obtain ⟨j, c, rfl, hj, HF, HB, HY, HS⟩ := hrel
         by_cases hj4 : j < 4
         ·have hsg : wr.cell? ⟨wo.heap.size, j, none⟩ = some (.int .u8 (impl_driveIn.sg j)) := by
           have cm : j = 0 ∨ j = 1 ∨ j = 2 ∨ j = 3 := by omega
           simp only [World.cell?, HY.out]
           rcases cm with rfl | rfl | rfl | rfl <;> rfl
          have HS2 := am (show impl_countWays.iter (spec_CountDrives.sgF far a0_0 a0_1 n q) (4 - (j + 1)) (j + 1) (spec_CountDrives.sgF far a0_0 a0_1 n q j c) = CS by rw [← impl_countWays.iter_step _ _ _ hj4]; exact HS.out)
          obtain ⟨ko, u, v, HO, hmv⟩ := spec_owFar.one a0_0 a0_1 HG.out qx qy j (by omega) HQT.out.1 HQT.out.2
          replace HO := am HO
          have hz : ((a0_0.size : Int) == 0) = false := beq_eq_false_iff_ne.2 (by omega)
          have hz2 : ¬ a0_0 = ByteArray.empty := fun e => by rw [e] at s1; simp at s1
          obtain ⟨hp0, hp1⟩ := (HSt.out _ HB.out).2.2
          clear HS
          cases hcan : impl_driveIn.can a0_0 a0_1 qx qy j with
          | false =>
           have hsF : spec_CountDrives.sgF far a0_0 a0_1 n q j c = c := by
            unfold spec_CountDrives.sgF spec_FirstDrive.ok
            rw [← HQX.out.1, ← HQX.out.2, hcan]
            simp
           rw [hsF] at HS2
           rw [hcan] at HO
           clear hcan hmv hsF
           go_wp2
           have HFn := am (show spec_owFar.Fa wr.drew g N N c from HF.out.below (below_drew1 (Below.refl _ _)))
           have HBn := am (below_drew1 HB.out)
           have HYn := am (show wr.drew.heap[wo.heap.size]? = some (.cells #[.int .u8 101, .int .u8 110, .int .u8 115, .int .u8 119] 5 (4, 5)) from HY.out)
           have hq0 := (HSt.out _ HBn.out).2.2.1
           have hq1 := (HSt.out _ HBn.out).2.2.2
           clear hsg hp0 hp1 HF HB HY
           refine start_ (n := 16) (S := fun w' => w'.cell? ⟨w.heap.size, 0, none⟩ = some (.string a0_0) ∧ w'.cell? ⟨w.heap.size, 1, none⟩ = some (.string a0_1)) (ds := []) #[false, false, false, false, false, false, false, false, false, false, false, false, false, false, false, false] (by kernel_rfl) rfl rfl ⟨hq0, hq1⟩ (fun hHeld => ?_); refine with_tabW spec_CountDrives.tab17 spec_owFar.bits17 (fun HT_ HW_ => ?_)
           generalize wr.drew = wn at HFn HBn HYn hq0 hq1 hHeld ⊢
           clear hq0 hq1
           refine pu_ 1 80 (fl_ 16 2) HT_ ?_
           refine pu_ 2 81 (fl_ 16 6) HT_ ?_
           refine pu_ 3 82 (fl_ 16 14) HT_ ?_
           refine pu_ 4 83 (fl_ 16 30) HT_ ?_
           refine pu_ 5 84 (fl_ 16 62) HT_ ?_
           refine pu_ 6 85 (fl_ 16 126) HT_ ?_
           refine pu_ 7 86 (fl_ 16 254) HT_ ?_
           refine tk_ 0 79 (fl_ 16 255) HT_ HW_ hHeld ?_ (hy := by rintro w' ⟨s0, s1⟩; go_simp; with_reducible rfl)
           refine on_ 8 87 (fl_ 16 511) HT_ fun K hK => ?_
           refine gs_ Try.func37 #[.agg #[.string a0_0, .string a0_1], .int .i64 (wrap64 ((q : Int) / (a0_0.size : Int))), .int .i64 (Int.tmod (q : Int) (a0_0.size : Int)), .int .u8 (impl_driveIn.sg j)] ?_
           rw [ED.out, EM.out]
           with_reducible refine (spec_owStep.calls ko a0_0 a0_1 (qx : Int) (qy : Int) (impl_driveIn.sg j) u v false _ HO.out).mono ?_
           rintro e w9 ⟨rfl, hb9⟩
           refine ⟨_, rfl, ?_⟩
           have HF4 := am (HFn.out.below hb9)
           have HB4' := am (below_then HBn.out HBn.out.size hb9)
           have HY4 := am ((hb9.block _ (Array.getElem?_eq_some_iff.1 HYn.out).1).trans HYn.out)
           have hq4 := (HSt.out _ HB4'.out).2.2
           clear hb9
           refine hK.out _ _ ⟨hq4.1, hq4.2⟩ (fun hHeld => ?_)
           clear hK K
           refine nm_ 87 ?_
           refine pu_ 9 78 (fl_ 16 1023) HT_ ?_
           refine pu_ 10 88 (fl_ 16 2047) HT_ ?_
           refine pu_ 11 89 (fl_ 16 4095) HT_ ?_
           refine pu_ 12 90 (fl_ 16 8191) HT_ ?_
           refine pu_ 13 16 (fl_ 16 16383) HT_ ?_
           refine pu_ 14 17 (fl_ 16 32767) HT_ ?_
           refine pu_ 15 18 (fl_ 16 65535) HT_ ?_
           refine done_ (done_of HT_.out (by kernel_rfl)) ?_
           go_wp2
           go_roundw
           case rel => exact ⟨j + 1, c, by go_num, by omega, HF4, HB4', HY4, HS2⟩
           case measure => simp [intOf]; omega
          | true =>
           obtain ⟨hu, hv⟩ := hmv hcan
           have hat := hcan
           unfold impl_driveIn.can at hat
           rw [Bool.and_eq_true, decide_eq_true_eq, ← hu, ← hv] at hat
           obtain ⟨ux, rfl⟩ := Int.eq_ofNat_of_zero_le hat.1.1.1
           obtain ⟨vy, rfl⟩ := Int.eq_ofNat_of_zero_le hat.1.2.1
           have hux : ux < a0_1.size := by have := hat.1.1.2; omega
           have hvy : vy < a0_0.size := by have := hat.1.2.2; omega
           obtain ⟨nx, hnx⟩ : ∃ nx, nx = ux * a0_0.size + vy := ⟨_, rfl⟩
           have hnxl : nx < N := by rw [hnx, ← HNe.out]; exact spec_owFar.cd_lt _ _ _ _ hux hvy
           obtain ⟨m2, hm2⟩ : ∃ m2, m2 = ux * a0_0.size := ⟨_, rfl⟩
           have hm2n : m2 ≤ nx := by omega
           have e3 : IntKind.i64.wrap ((ux : Int) * (a0_0.size : Int)) = (m2 : Int) := by rw [i64_w, ← Int.natCast_mul, ← hm2, Go.Proofs.Ytdhdkkhbgfcoiaa.Lib.w64] <;> omega
           have e4 : IntKind.i64.wrap ((m2 : Int) + (vy : Int)) = (nx : Int) := by rw [i64_w, Go.Proofs.Ytdhdkkhbgfcoiaa.Lib.w64] <;> omega
           have e5 : IntKind.i64.wrap ((n : Int) - 1) = (n : Int) - 1 := by rw [i64_w]; unfold wrap64; omega
           obtain ⟨fv, hfv⟩ : ∃ fv, fv = rd far (nx : Int) := ⟨_, rfl⟩
           have hok : spec_FirstDrive.ok far a0_0 a0_1 ((n : Int) - 1) ((q / a0_0.size : Nat) : Int) ((q % a0_0.size : Nat) : Int) j = decide (fv = (n : Int) - 1) := by
            unfold spec_FirstDrive.ok
            rw [← HQX.out.1, ← HQX.out.2, hcan, Bool.true_and, ← hu, ← hv, hfv, hnx, Int.natCast_add, Int.natCast_mul]
           have hsF : spec_CountDrives.sgF far a0_0 a0_1 n q j c = if fv = (n : Int) - 1 then spec_CountDrives.upd c q (wrap64 (c q + c nx)) else c := by
            unfold spec_CountDrives.sgF
            rw [hok, ← HQX.out.1, ← HQX.out.2, ← hu, ← hv, ← Int.natCast_mul, ← Int.natCast_add, ← hnx, Int.toNat_natCast]
            simp only [decide_eq_true_eq]
           rw [hsF] at HS2
           rw [hcan] at HO
           have HE34 := am (And.intro e3 e4)
           have HFV := am hfv
           have HNX := am hnxl
           clear hcan hmv hsF hok hat hux hvy hnx hm2 hfv hu hv e3 e4 hnxl
           go_wp2
           have HFn := am (show spec_owFar.Fa wr.drew g N N c from HF.out.below (below_drew1 (Below.refl _ _)))
           have HBn := am (below_drew1 HB.out)
           have HYn := am (show wr.drew.heap[wo.heap.size]? = some (.cells #[.int .u8 101, .int .u8 110, .int .u8 115, .int .u8 119] 5 (4, 5)) from HY.out)
           have hq0 := (HSt.out _ HBn.out).2.2.1
           have hq1 := (HSt.out _ HBn.out).2.2.2
           clear hsg hp0 hp1 HF HB HY
           refine start_ (n := 16) (S := fun w' => w'.cell? ⟨w.heap.size, 0, none⟩ = some (.string a0_0) ∧ w'.cell? ⟨w.heap.size, 1, none⟩ = some (.string a0_1)) (ds := []) #[false, false, false, false, false, false, false, false, false, false, false, false, false, false, false, false] (by kernel_rfl) rfl rfl ⟨hq0, hq1⟩ (fun hHeld => ?_); refine with_tabW spec_CountDrives.tab17 spec_owFar.bits17 (fun HT_ HW_ => ?_)
           generalize wr.drew = wn at HFn HBn HYn hq0 hq1 hHeld ⊢
           clear hq0 hq1
           refine pu_ 1 80 (fl_ 16 2) HT_ ?_
           refine pu_ 2 81 (fl_ 16 6) HT_ ?_
           refine pu_ 3 82 (fl_ 16 14) HT_ ?_
           refine pu_ 4 83 (fl_ 16 30) HT_ ?_
           refine pu_ 5 84 (fl_ 16 62) HT_ ?_
           refine pu_ 6 85 (fl_ 16 126) HT_ ?_
           refine pu_ 7 86 (fl_ 16 254) HT_ ?_
           refine tk_ 0 79 (fl_ 16 255) HT_ HW_ hHeld ?_ (hy := by rintro w' ⟨s0, s1⟩; go_simp; with_reducible rfl)
           refine on_ 8 87 (fl_ 16 511) HT_ fun K hK => ?_
           refine gs_ Try.func37 #[.agg #[.string a0_0, .string a0_1], .int .i64 (wrap64 ((q : Int) / (a0_0.size : Int))), .int .i64 (Int.tmod (q : Int) (a0_0.size : Int)), .int .u8 (impl_driveIn.sg j)] ?_
           rw [ED.out, EM.out]
           with_reducible refine (spec_owStep.calls ko a0_0 a0_1 (qx : Int) (qy : Int) (impl_driveIn.sg j) (ux : Int) (vy : Int) true _ HO.out).mono ?_
           rintro e w9 ⟨rfl, hb9⟩
           refine ⟨_, rfl, ?_⟩
           have HF4 := am (HFn.out.below hb9)
           have HB4' := am (below_then HBn.out HBn.out.size hb9)
           have HY4 := am ((hb9.block _ (Array.getElem?_eq_some_iff.1 HYn.out).1).trans HYn.out)
           have hq4 := (HSt.out _ HB4'.out).2.2
           clear hb9
           refine hK.out _ _ ⟨hq4.1, hq4.2⟩ (fun hHeld => ?_)
           clear hK K
           refine nm_ 87 ?_
           refine pu_ 9 78 (fl_ 16 1023) HT_ ?_
           refine pu_ 10 88 (fl_ 16 2047) HT_ ?_
           refine pu_ 11 89 (fl_ 16 4095) HT_ ?_
           refine pu_ 12 90 (fl_ 16 8191) HT_ ?_
           refine pu_ 13 16 (fl_ 16 16383) HT_ ?_
           refine pu_ 14 17 (fl_ 16 32767) HT_ ?_
           refine pu_ 15 18 (fl_ 16 65535) HT_ ?_
           refine done_ (done_of HT_.out (by kernel_rfl)) ?_
           have hfx := HFr.out _ HB4'.out nx HNX.out
           rw [← HFV.out] at hfx
           obtain ⟨e3, e4⟩ := HE34.out
           have hnxl := HNX.out
           by_cases qe : fv = (n : Int) - 1
           ·have qb : (fv == (n : Int) - 1) = true := beq_iff_eq.2 qe
            rw [if_pos qe] at HS2
            clear qe
            go_wp2
            refine wp_region_still_tail 10 (by kernel_rfl) (by kernel_rfl) ?_
            simp only [List.take_succ_cons, List.take_zero, List.drop_succ_cons, List.drop_zero]
            obtain ⟨w7, hw7⟩ : ∃ w7 : World, w9.drew = w7 := ⟨_, rfl⟩
            have hbd : Below w9.heap.size w9 w7 := by rw [← hw7]; exact below_drew1 (Below.refl _ _)
            have HB7 := am (below_then HB4'.out HB4'.out.size hbd)
            have HF7 := am (HF4.out.below hbd)
            have HY7 := am ((hbd.block _ (Array.getElem?_eq_some_iff.1 HY4.out).1).trans HY4.out)
            obtain ⟨va, hva⟩ : ∃ va, va = c q := ⟨_, rfl⟩
            obtain ⟨vb, hvb⟩ : ∃ vb, vb = c nx := ⟨_, rfl⟩
            have hcela : w7.cell? ⟨g, q, none⟩ = some (.int .i64 va) := by rw [hva]; exact HF7.out.cell q HQN.out
            have hcelb : w7.cell? ⟨g, nx, none⟩ = some (.int .i64 vb) := by rw [hvb]; exact HF7.out.cell nx hnxl
            have hfrea := HF7.out.free q
            rw [← hva, ← hvb] at HS2
            have ew : IntKind.i64.wrap (va + vb) = wrap64 (va + vb) := i64_w _
            have HF8 := am (spec_CountDrives.fa_upd HF7.out q HQN.out (wrap64 (va + vb)))
            have HB8 := am (HB7.out.setCell (p := ⟨g, q, none⟩) HGB.out (.int .i64 (wrap64 (va + vb))))
            have HY8 := am ((Below.heap_setCell w7 ⟨g, q, none⟩ (.int .i64 (wrap64 (va + vb))) wo.heap.size (fun e => HGw.out e.symm)).trans HY7.out)
            change wpStill _ _ w9.drew _ _ _
            rw [hw7]
            have HW7 := am hw7
            clear hw7 hbd hva hvb hfx e3 e4
            repeat still_step
            refine wpStill_nil ?_
            change wpList _ _ _ _ _ w9.drew
            rw [HW7.out]
            clear HB7 HF7 HY7 hcelb
            go_wp2
            go_roundw
            case rel => exact ⟨j + 1, _, by go_num, by omega, HF8, HB8, HY8, HS2⟩
            case measure => simp [intOf]; omega
           ·have qb : (fv == (n : Int) - 1) = false := beq_eq_false_iff_ne.2 qe
            rw [if_neg qe] at HS2
            clear qe
            go_wp2
            go_roundw
            case rel => exact ⟨j + 1, c, by go_num, by omega, HF4, HB4', HY4, HS2⟩
            case measure => simp [intOf]; omega
         ·obtain rfl : j = 4 := by omega
          have HE := am (show c = CS from HS.out)
          clear hj4
          go_wp2
          go_roundw
          case rel => exact ⟨q + 1, c, by go_num, by have := HQN.out; omega, HF, HB, ⟨by rw [HE.out]; exact HJ2.out⟩⟩
          case measure => have := HQN.out; simp [intOf]; omega
       ·have hqb : (fq != (n : Int)) = true := bne_iff_ne.2 hqn
        have hcf : spec_CountDrives.cellF far a0_0 a0_1 n q c = c := by
         unfold spec_CountDrives.cellF
         rw [if_neg (by rw [← hfqe]; exact hqn)]
        rw [hcf] at HJ2
        clear hcf hfqe hqn
        go_wp2
        go_roundw
        case rel => exact ⟨q + 1, c, by go_num, by omega, HF, HB, HJ2⟩
        case measure => simp [intOf]; omega
      ·obtain rfl : q = N := by omega
       have HE := am (show c = CL by have z := HJ.out; rw [impl_countWays.iter_end] at z; exact z)
       clear hqN
       go_wp2
       go_roundw
       case rel => exact ⟨n + 1, c, by go_num, by omega, by have := HnD.out; omega, HF, HB, ⟨by rw [HE.out]; exact HI2.out⟩⟩
       case measure => have := HnD.out; simp [intOf]; omega
    ·obtain rfl : n = nD + 1 := by omega
     have hdb : decide (((nD + 1 : Nat) : Int) ≤ (nD : Int)) = false := decide_eq_false (by omega)
     have HE := am (show c = C by have z := HI.out; rw [impl_countWays.iter_end] at z; exact z)
     clear hnd hnD hn1
     go_wp2_with (go_at_call 34; refine (HDw.out _ HB.out).mono ?_; rintro e w8 ⟨rfl, hb8⟩; have HB8 := am (below_then HB.out HB.out.size hb8); have HF8 := am (HF.out.below hb8); have hx0 := (HSt.out _ HB8.out).1.1; have hx1 := (HSt.out _ HB8.out).1.2; have hcel := HF8.out.cell ca hcaN; have e1 := HEa.out.1; have e2 := HEa.out.2; clear hb8)
     go_quiet (fail)
     go_wp2
     go_ret2
     exact ⟨by rw [← HR.out, ← HE.out]; rfl, below_then HB4.out HB4.out.size (pw_below_drewN HB8.out _)⟩
end Go.Proofs.Ytdhdkkhbgfcoiaa.MX
