-- The machine side, written by this repo's program mp.py; contracts marked as of this repo are this session's own.
import Derived.Test.YtopbmiedlpkmjaaMKx0
import Derived.Test.YtopbmiedlpkmjaaMKx2
import Derived.Test.YtopbmiedlpkmjaaMKx3
import Derived.Test.YtopbmiedlpkmjaaMKx4
import Derived.Test.YtopbmiedlpkmjaaMKx6
import Derived.Test.YtopbmiedlpkmjaaMKx7
import Derived.Test.YtopbmiedlpkmjaaMKx8
import Derived.Test.YtopbmiedlpkmjaaMKx9
namespace Go.Proofs.Ytopbmiedlpkmjaa.MK
open Go.RowKit Go.Proofs.YtopbmiedlpkmjaaW.PrintWords Go.Proofs.YtopbmiedlpkmjaaW.PrintLast Go.Proofs.YtopbmiedlpkmjaaW.PrintMore
attribute [local go_sem] max2_int min2_int max_two min_two max_three min_three max_four min_four   -- for this text's walks alone
set_option linter.unusedVariables false
set_option linter.unusedSimpArgs false

/-! ### spec_CountDrives: function 37 (a contract of this repo) -/
def spec_CountDrives.upd (c : Nat → Int) (p : Nat) (v : Int) : Nat → Int := fun q => if q = p then v else c q
/-- One sign at one corner. -/
def spec_CountDrives.sgF (far : List Int) (s t : ByteArray) (n q m : Nat) (c : Nat → Int) : Nat → Int := if spec_FirstDrive.ok far s t ((n : Int) - 1) ((q / s.size : Nat) : Int) ((q % s.size : Nat) : Int) m = true then spec_CountDrives.upd c q (wrap64 (c q + c ((((q / s.size : Nat) : Int) + impl_driveIn.dx m) * s.size + (((q % s.size : Nat) : Int) + impl_driveIn.dy m)).toNat)) else c
def spec_CountDrives.cellF (far : List Int) (s t : ByteArray) (n q : Nat) (c : Nat → Int) : Nat → Int := if rd far (q : Int) = (n : Int) then impl_countWays.iter (spec_CountDrives.sgF far s t n q) 4 0 c else c
def spec_CountDrives.levF (far : List Int) (s t : ByteArray) (n : Nat) (c : Nat → Int) : Nat → Int := impl_countWays.iter (spec_CountDrives.cellF far s t n) (t.size * s.size) 0 c
def spec_CountDrives.total (far : List Int) (s t : ByteArray) (D b a : Nat) : Int := impl_countWays.iter (spec_CountDrives.levF far s t) D 1 (spec_CountDrives.upd (fun _ => 0) b 1) a
theorem spec_CountDrives.zeros {w : World} {W : World} (n : Nat) (h : w = W.alloc (.cells (madeCells #[Value.int .i64 0] n) 3)) : spec_owFar.Fa w W.heap.size n n (fun _ => 0) := by
  rw [h]
  refine ⟨_, heap_alloc_new _ _, by rw [size_madeCells], fun j hj => ?_⟩
  rw [← Array.getElem?_toList, toList_madeCells_one]
  simp [hj]
theorem spec_CountDrives.fa_upd {w : World} {g n : Nat} {c : Nat → Int} (h : spec_owFar.Fa w g n n c) (j : Nat) (hj : j < n) (v : Int) : spec_owFar.Fa (w.setCell ⟨g, j, none⟩ (.int .i64 v)) g n n (spec_CountDrives.upd c j v) := by
  have z := h.set j hj v
  rw [if_neg (by omega)] at z
  exact z
def spec_CountDrives.f (k : Nat) (s t : ByteArray) (l1 l2 : List Int) : Option (Int × Bool) := (spec_owAsked.f k s t l1 l2).bind fun b => if b = true then ((spec_owDistance.f k s t l1 l2).bind fun D => if D < 0 then some (0, false) else (spec_owBack.f k s t).bind fun bt => (spec_owFar.f k bt.1 bt.2 l2).bind fun far => if (((spec_owFar.Signs s t ∧ l1.length = 2) ∧ impl_driveIn.At s t (rd l1 0) (rd l1 1)) ∧ (l2.length = 2 ∧ impl_driveIn.At s t (rd l2 0) (rd l2 1))) ∧ far.length = t.size * s.size ∧ D ≤ 64 then some (spec_CountDrives.total far s t D.toNat ((rd l2 0).toNat * s.size + (rd l2 1).toNat) ((rd l1 0).toNat * s.size + (rd l1 1).toNat), true) else none) else some (0, false)
theorem spec_CountDrives.mono : ∀ a0_0 a0_1 a1 a2 k, LeO (spec_CountDrives.f k a0_0 a0_1 a1 a2) (spec_CountDrives.f (k + 1) a0_0 a0_1 a1 a2) := fun a0_0 a0_1 a1 a2 k => by
  unfold spec_CountDrives.f
  refine LeO.bind (spec_owAsked.mono _ _ _ _ k) (fun b => ?_)
  split
  · refine LeO.bind (spec_owDistance.mono _ _ _ _ k) (fun D => ?_)
    split
    · exact LeO.refl _
    · exact LeO.bind (spec_owBack.mono _ _ k) (fun _ => LeO.bind (spec_owFar.mono _ _ _ k) (fun _ => LeO.refl _))
  · exact LeO.refl _
theorem spec_CountDrives.tab17 : rtab .any (opsOf Try.f37 17) = spec_owFar.T17 := by kernel_rfl
set_option maxHeartbeats 16000000 in
set_option maxRecDepth 100000 in
theorem spec_CountDrives.calls (k : Nat) (a0_0 : ByteArray) (a0_1 : ByteArray) (A1 : Option Addr) (c1 : Nat) (l1 : List Int) (A2 : Option Addr) (c2 : Nat) (l2 : List Int) (r1 : Int) (r2 : Bool) (w : World) (hr1 : Kd.C (Kd.int .i64) w A1 l1.length l1) (hc1 : l1.length ≤ c1) (hr2 : Kd.C (Kd.int .i64) w A2 l2.length l2) (hc2 : l2.length ≤ c2) (h : spec_CountDrives.f k a0_0 a0_1 l1 l2 = some (r1, r2)) :
    Calls Try.prog 37 #[.agg #[.string a0_0, .string a0_1], .slice A1 l1.length c1, .slice A2 l2.length c2] w fun e w' => e = .returned (.tuple #[.int .i64 r1, .bool r2]) ∧ Below w.heap.size w w' := by
  unfold spec_CountDrives.f at h
  obtain ⟨b, hb, h⟩ := Option.bind_eq_some_iff.1 h
  obtain ⟨wb, hwb⟩ : ∃ wb : World, w.alloc (.cells #[.string a0_0, .string a0_1] 27) = wb := ⟨_, rfl⟩
  have HBX := Aside0.mk (show wb.heap[w.heap.size]? = some (.cells #[.string a0_0, .string a0_1] 27 (0, 0)) by rw [← hwb]; exact heap_alloc_new _ _)
  have HB := Aside0.mk (show Below w.heap.size w wb by rw [← hwb]; exact below_alloc (Below.refl _ _) _)
  have HR1 := Aside0.mk (Kd.C_below hr1 HB.out)
  have HR2 := Aside0.mk (Kd.C_below hr2 HB.out)
  have hp0 : wb.cell? ⟨w.heap.size, 0, none⟩ = some (.string a0_0) := (blk_cell HBX.out 0).trans rfl
  have hp1 : wb.cell? ⟨w.heap.size, 1, none⟩ = some (.string a0_1) := (blk_cell HBX.out 1).trans rfl
  have HAs := Aside0.mk (fun (W : World) (h1 : Kd.C (Kd.int .i64) W A1 l1.length l1) (h2 : Kd.C (Kd.int .i64) W A2 l2.length l2) => spec_owAsked.calls k a0_0 a0_1 A1 c1 l1 A2 c2 l2 b W h1 hc1 h2 hc2 hb)
  clear hr1 hr2
  cases b with
  | false =>
    rw [if_neg (by simp)] at h
    simp only [Option.some.injEq, Prod.mk.injEq] at h
    obtain ⟨rfl, rfl⟩ := h
    go_enter Try.func37, Try.ntmps37
    go_wp2_with (go_at_call 48; refine (HAs.out _ HR1.out HR2.out).mono ?_; rintro e w1 ⟨rfl, hb1⟩; have HB1 := Aside0.mk (below_then HB.out HB.out.size hb1); clear hb1)
    go_ret2
    exact ⟨rfl, HB1.out⟩
  | true =>
    rw [if_pos rfl] at h
    obtain ⟨D, hD, h⟩ := Option.bind_eq_some_iff.1 h
    have HDs := Aside0.mk (fun (W : World) (h1 : Kd.C (Kd.int .i64) W A1 l1.length l1) (h2 : Kd.C (Kd.int .i64) W A2 l2.length l2) => spec_owDistance.calls k a0_0 a0_1 A1 c1 l1 A2 c2 l2 D W h1 hc1 h2 hc2 hD)
    by_cases q : D < 0
    · rw [if_pos q] at h
      simp only [Option.some.injEq, Prod.mk.injEq] at h
      obtain ⟨rfl, rfl⟩ := h
      have qb : decide (D < 0) = true := decide_eq_true q
      clear hD q
      go_enter Try.func37, Try.ntmps37
      go_wp2_with (first | (go_at_call 48; refine (HAs.out _ HR1.out HR2.out).mono ?_; rintro e w1 ⟨rfl, hb1⟩; have HB1 := Aside0.mk (below_then HB.out HB.out.size hb1); have HR11 := Aside0.mk (Kd.C_below HR1.out hb1); have HR21 := Aside0.mk (Kd.C_below HR2.out hb1); have hp0 := pw_cell_below hb1 hp0; have hp1 := pw_cell_below hb1 hp1; clear hb1) | (go_at_call 49; refine (HDs.out _ HR11.out HR21.out).mono ?_; rintro e w2 ⟨rfl, hb2⟩; have HB2 := Aside0.mk (below_then HB1.out HB1.out.size hb2); clear hb2))
      go_ret2
      exact ⟨rfl, HB2.out⟩
    · rw [if_neg q] at h
      obtain ⟨bt, hbt, h⟩ := Option.bind_eq_some_iff.1 h
      obtain ⟨far, hfar, h⟩ := Option.bind_eq_some_iff.1 h
      by_cases c : (((spec_owFar.Signs a0_0 a0_1 ∧ l1.length = 2) ∧ impl_driveIn.At a0_0 a0_1 (rd l1 0) (rd l1 1)) ∧ (l2.length = 2 ∧ impl_driveIn.At a0_0 a0_1 (rd l2 0) (rd l2 1))) ∧ far.length = a0_1.size * a0_0.size ∧ D ≤ 64
      case neg => rw [if_neg c] at h; cases h
      rw [if_pos c] at h
      simp only [Option.some.injEq, Prod.mk.injEq] at h
      obtain ⟨hTot, hr2'⟩ := h
      subst hr2'
      obtain ⟨⟨⟨⟨hG, hl⟩, ⟨x0, x1⟩, y0, y1⟩, hl2, ⟨u0, u1⟩, v0, v1⟩, hfl, hD64⟩ := c
      have qb : decide (D < 0) = false := decide_eq_false q
      have HG := Aside0.mk hG
      obtain ⟨t1, t8, s1, s8⟩ : 1 ≤ a0_1.size ∧ a0_1.size ≤ 8 ∧ 1 ≤ a0_0.size ∧ a0_0.size ≤ 8 := ⟨hG.1.1.1, hG.1.1.2, hG.1.2.1, hG.1.2.2⟩
      obtain ⟨nD, hnD⟩ := Int.eq_ofNat_of_zero_le (show 0 ≤ D by omega)
      subst hnD
      rw [Int.toNat_natCast] at hTot
      obtain ⟨ad, rfl, hx0, hx1⟩ := spec_owDistance.two hl HR1.out
      obtain ⟨bd, rfl, hy0, hy1⟩ := spec_owDistance.two hl2 HR2.out
      obtain ⟨x, hx⟩ := Int.eq_ofNat_of_zero_le x0
      obtain ⟨y, hy⟩ := Int.eq_ofNat_of_zero_le y0
      obtain ⟨bx, hbx⟩ := Int.eq_ofNat_of_zero_le u0
      obtain ⟨bY, hbY⟩ := Int.eq_ofNat_of_zero_le v0
      rw [hx] at hx0 x1 hTot
      rw [hy] at hx1 y1 hTot
      rw [hbx] at hy0 u1 hTot
      rw [hbY] at hy1 v1 hTot
      simp only [Int.toNat_natCast] at hTot
      have hxt : x < a0_1.size := by omega
      have hys : y < a0_0.size := by omega
      have hbxt : bx < a0_1.size := by omega
      have hbYs : bY < a0_0.size := by omega
      obtain ⟨N, hN⟩ : ∃ N, far.length = N := ⟨_, rfl⟩
      have hNe : a0_1.size * a0_0.size = N := by rw [← hN, hfl]
      have hN0 : 0 < N := by rw [← hNe]; exact Nat.mul_pos (by omega) (by omega)
      have hN64 : N ≤ 64 := by rw [← hNe]; exact Nat.le_trans (Nat.mul_le_mul t8 s8) (by decide)
      obtain ⟨ca, hca⟩ : ∃ ca, ca = x * a0_0.size + y := ⟨_, rfl⟩
      obtain ⟨cb, hcb⟩ : ∃ cb, cb = bx * a0_0.size + bY := ⟨_, rfl⟩
      rw [← hca, ← hcb] at hTot
      have hcaN : ca < N := by rw [hca, ← hNe]; exact spec_owFar.cd_lt _ _ _ _ hxt hys
      have hcbN : cb < N := by rw [hcb, ← hNe]; exact spec_owFar.cd_lt _ _ _ _ hbxt hbYs
      obtain ⟨ma, hma⟩ : ∃ ma, ma = x * a0_0.size := ⟨_, rfl⟩
      obtain ⟨mb, hmb⟩ : ∃ mb, mb = bx * a0_0.size := ⟨_, rfl⟩
      have e1 : IntKind.i64.wrap ((x : Int) * (a0_0.size : Int)) = (ma : Int) := by rw [i64_w, ← Int.natCast_mul, ← hma, Go.Proofs.Ytopbmiedlpkmjaa.Lib.w64] <;> omega
      have e2 : IntKind.i64.wrap ((ma : Int) + (y : Int)) = (ca : Int) := by rw [i64_w, Go.Proofs.Ytopbmiedlpkmjaa.Lib.w64] <;> omega
      have e3 : IntKind.i64.wrap ((bx : Int) * (a0_0.size : Int)) = (mb : Int) := by rw [i64_w, ← Int.natCast_mul, ← hmb, Go.Proofs.Ytopbmiedlpkmjaa.Lib.w64] <;> omega
      have e4 : IntKind.i64.wrap ((mb : Int) + (bY : Int)) = (cb : Int) := by rw [i64_w, Go.Proofs.Ytopbmiedlpkmjaa.Lib.w64] <;> omega
      have HEa := Aside0.mk (And.intro e1 e2)
      have HEb := Aside0.mk (And.intro e3 e4)
      have HNe := Aside0.mk hNe
      have HX0 := Aside0.mk hx0
      have HX1 := Aside0.mk hx1
      have HY0 := Aside0.mk hy0
      have HY1 := Aside0.mk hy1
      obtain ⟨C, hC⟩ : ∃ C, C = impl_countWays.iter (spec_CountDrives.levF far a0_0 a0_1) nD 1 (spec_CountDrives.upd (fun _ => 0) cb 1) := ⟨_, rfl⟩
      have HT0 := Aside0.mk (show impl_countWays.iter (spec_CountDrives.levF far a0_0 a0_1) (nD + 1 - 1) 1 (spec_CountDrives.upd (fun _ => 0) cb 1) = C by rw [hC]; rfl)
      have HR := Aside0.mk (show C ca = r1 by rw [hC]; exact hTot)
      have HBs := Aside0.mk (fun (W : World) => spec_owBack.calls k a0_0 a0_1 bt.1 bt.2 W hbt)
      have HFs := Aside0.mk (fun (W : World) (h2 : Kd.C (Kd.int .i64) W (some bd) l2.length l2) => spec_owFar.calls k bt.1 bt.2 (some bd) c2 l2 far W h2 hc2 hfar)
      obtain ⟨i0, hi, hz0, hz1, hz2⟩ := info_parts (show (Try.prog.info? 3).map (fun i => (i.zero, i.size, i.bytes)) = some (some (.int .i64 0), 1, 8) from by kernel_rfl)
      have hmk := fun W : World => run_makeSlice (P := Try.prog) (w := W) 30 3 i0 (.int .i64 0) Try.underlying30 hi hz0 .i64 .i64 (N : Int) (N : Int) (by omega) (Int.le_refl _) (by rw [hz1]; omega) (by rw [hz2]; omega) (by omega)
      simp only [Int.toNat_natCast, hz1, Nat.mul_one] at hmk
      rw [hl] at HAs HDs HR1 ⊢
      rw [hl2] at HAs HDs HFs HR2 ⊢
      clear hD q hbt hfar hl hl2 hG hfl hx hy hbx hbY x0 y0 u0 v0 hx0 hx1 hy0 hy1 x1 y1 u1 v1 hb hTot hC hca hcb hma hmb e1 e2 e3 e4 hNe hi hz0 hz1 hz2
      go_enter Try.func37, Try.ntmps37
      go_wp2_with (first | (go_at_call 48; refine (HAs.out _ HR1.out HR2.out).mono ?_; rintro e w1 ⟨rfl, hb1⟩; have HBX1 := Aside0.mk ((hb1.block _ (Array.getElem?_eq_some_iff.1 HBX.out).1).trans HBX.out); have HB1 := Aside0.mk (below_then HB.out HB.out.size hb1); have HR11 := Aside0.mk (Kd.C_below HR1.out hb1); have HR21 := Aside0.mk (Kd.C_below HR2.out hb1); have HX01 := Aside0.mk (pw_cell_below hb1 HX0.out); have HY01 := Aside0.mk (pw_cell_below hb1 HY0.out); have HX11 := Aside0.mk (pw_cell_below hb1 HX1.out); have HY11 := Aside0.mk (pw_cell_below hb1 HY1.out); have hp0 := pw_cell_below hb1 hp0; have hp1 := pw_cell_below hb1 hp1; clear hb1) | (go_at_call 49; refine (HDs.out _ HR11.out HR21.out).mono ?_; rintro e w2 ⟨rfl, hb2⟩; have HBX2 := Aside0.mk ((hb2.block _ (Array.getElem?_eq_some_iff.1 HBX1.out).1).trans HBX1.out); have HB2 := Aside0.mk (below_then HB1.out HB1.out.size hb2); have HR12 := Aside0.mk (Kd.C_below HR11.out hb2); have HR22 := Aside0.mk (Kd.C_below HR21.out hb2); have HX02 := Aside0.mk (pw_cell_below hb2 HX01.out); have HY02 := Aside0.mk (pw_cell_below hb2 HY01.out); have HX12 := Aside0.mk (pw_cell_below hb2 HX11.out); have HY12 := Aside0.mk (pw_cell_below hb2 HY11.out); have hp0 := pw_cell_below hb2 hp0; have hp1 := pw_cell_below hb2 hp1; clear hb2 HBX1 HB1 HR11 HR21 HX01 HX11) | (go_at_call 61; refine (HBs.out _).mono ?_; rintro e w3 ⟨rfl, hb3⟩; have HBX3 := Aside0.mk ((hb3.block _ (Array.getElem?_eq_some_iff.1 HBX2.out).1).trans HBX2.out); have HB3 := Aside0.mk (below_then HB2.out HB2.out.size hb3); have HR13 := Aside0.mk (Kd.C_below HR12.out hb3); have HR23 := Aside0.mk (Kd.C_below HR22.out hb3); have HX03 := Aside0.mk (pw_cell_below hb3 HX02.out); have HY03 := Aside0.mk (pw_cell_below hb3 HY02.out); have HX13 := Aside0.mk (pw_cell_below hb3 HX12.out); have HY13 := Aside0.mk (pw_cell_below hb3 HY12.out); have hp0 := pw_cell_below hb3 hp0; have hp1 := pw_cell_below hb3 hp1; clear hb3) | (go_at_call 56; refine (HFs.out _ HR23.out).mono ?_; rintro e w4 ⟨v4, rfl, hR4, hb4⟩; have HBX4 := Aside0.mk ((hb4.block _ (Array.getElem?_eq_some_iff.1 HBX3.out).1).trans HBX3.out); have HB4 := Aside0.mk (below_then HB3.out HB3.out.size hb4); have HR14 := Aside0.mk (Kd.C_below HR13.out hb4); have HR24 := Aside0.mk (Kd.C_below HR23.out hb4); have HX04 := Aside0.mk (pw_cell_below hb4 HX03.out); have HX14 := Aside0.mk (pw_cell_below hb4 HX13.out); have HY04 := Aside0.mk (pw_cell_below hb4 HY03.out); have HY14 := Aside0.mk (pw_cell_below hb4 HY13.out); obtain ⟨A4, c4, e4⟩ := Kd.R_slice hR4; subst e4; obtain ⟨ad4, hA4, -⟩ := Kd.at_int (Kd.R_reads' hR4).2.2 0 (by omega) (by omega); subst hA4; obtain ⟨gf, rfl⟩ := Kd.R_head hR4; have HFC := Aside0.mk (fun j hj => spec_FirstDrive.cells hR4 j hj); rw [hN] at HFC ⊢; clear hb4 hR4 hp0 hp1))
      clear hmk qb
      clear hwb
      obtain ⟨w5, hw5⟩ : ∃ w5 : World, w5 = w4.alloc (.cells (madeCells #[Value.int .i64 0] N) 3) := ⟨_, rfl⟩
      rw [← hw5]
      have HFa := Aside0.mk (spec_CountDrives.zeros N hw5)
      have HB5 := Aside0.mk (show Below w4.heap.size w4 w5 by rw [hw5]; exact below_alloc (Below.refl _ _) _)
      clear hw5
      obtain ⟨g, hg⟩ : ∃ g, g = w4.heap.size := ⟨_, rfl⟩
      rw [← hg] at HFa ⊢
      have HGB := Aside0.mk (show w4.heap.size ≤ g by omega)
      clear hg
      -- what stays
      have HSt := Aside0.mk (show ∀ W : World, Below w4.heap.size w4 W → (W.cell? ad = some (.int .i64 x) ∧ W.cell? { block := ad.block, off := ad.off + 1 } = some (.int .i64 y)) ∧ (W.cell? bd = some (.int .i64 bx) ∧ W.cell? { block := bd.block, off := bd.off + 1 } = some (.int .i64 bY)) ∧ (W.cell? ⟨w.heap.size, 0, none⟩ = some (.string a0_0) ∧ W.cell? ⟨w.heap.size, 1, none⟩ = some (.string a0_1)) from fun W hW => ⟨⟨pw_cell_below hW HX04.out, pw_cell_below hW HX14.out⟩, ⟨pw_cell_below hW HY04.out, pw_cell_below hW HY14.out⟩, (blk_cell ((hW.block _ (Array.getElem?_eq_some_iff.1 HBX4.out).1).trans HBX4.out) 0).trans rfl, (blk_cell ((hW.block _ (Array.getElem?_eq_some_iff.1 HBX4.out).1).trans HBX4.out) 1).trans rfl⟩)
      have HFr := Aside0.mk (show ∀ W : World, Below w4.heap.size w4 W → ∀ j, j < N → W.cell? ⟨gf, j, none⟩ = some (.int .i64 (rd far (j : Int))) from fun W hW j hj => pw_cell_below hW (HFC.out j hj))
      have HDw := Aside0.mk (show ∀ W : World, Below w4.heap.size w4 W → Calls Try.prog 49 _ W _ from fun W hW => HDs.out W (Kd.C_below HR14.out hW) (Kd.C_below HR24.out hW))
      clear HX04 HX14 HY04 HY14 HFC HDs HR14 HR24 HBX4
      refine wp_region_still_tail 11 (by kernel_rfl) (by kernel_rfl) ?_
      simp only [List.take_succ_cons, List.take_zero, List.drop_succ_cons, List.drop_zero]
      obtain ⟨w6, hw6⟩ : ∃ w6 : World, w5.drew = w6 := ⟨_, rfl⟩
      have HB6 := Aside0.mk (show Below w4.heap.size w4 w6 by rw [← hw6]; exact below_drew1 HB5.out)
      have HF6 := Aside0.mk (show spec_owFar.Fa w6 g N N (fun _ => 0) by rw [← hw6]; exact HFa.out.below (below_drew1 (Below.refl _ _)))
      have hq2 := (HSt.out _ HB6.out).2.1.1
      have hq3 := (HSt.out _ HB6.out).2.1.2
      have hcel := HF6.out.cell cb hcbN
      have hfre := HF6.out.free cb
      obtain ⟨e3, e4⟩ := HEb.out
      change wpStill _ _ w5.drew _ _ _
      rw [hw6]
      have HW6 := Aside0.mk hw6
      clear hw6
      repeat still_step
      refine wpStill_nil ?_
      change wpList _ _ _ _ _ w5.drew
      rw [HW6.out]
      have HF7 := Aside0.mk (spec_CountDrives.fa_upd HF6.out cb hcbN 1)
      have HB7 := Aside0.mk (HB6.out.setCell (p := ⟨g, cb, none⟩) HGB.out (.int .i64 1))
      go_wp2
      clear hq2 hq3 hcel hfre e3 e4 HF6 HB6 HFa HB5 HW6
      go_loopw [11] (fun nv wr => ∃ (n : Nat) (c : Nat → Int), nv = .int .i64 n ∧ 1 ≤ n ∧ n ≤ nD + 1 ∧ Aside0 (spec_owFar.Fa wr g N N c) ∧ Aside0 (Below w4.heap.size w4 wr) ∧ Aside0 (impl_countWays.iter (spec_CountDrives.levF far a0_0 a0_1) (nD + 1 - n) n c = C)) (fun nv _ => nD + 2 - (intOf nv).toNat)
      case atStart => exact ⟨1, _, rfl, by omega, by omega, HF7, HB7, HT0⟩
      case round =>
        clear HF7 HB7 HT0
        obtain ⟨n, c, rfl, hn1, hnD, HF, HB, HI⟩ := hrel
        obtain ⟨-, -, hp0, hp1⟩ := HSt.out _ HB.out
        by_cases hnd : n ≤ nD
        · have hdb : decide ((n : Int) ≤ (nD : Int)) = true := decide_eq_true (by omega)
          have HI2 := Aside0.mk (show impl_countWays.iter (spec_CountDrives.levF far a0_0 a0_1) (nD + 1 - (n + 1)) (n + 1) (spec_CountDrives.levF far a0_0 a0_1 n c) = C by rw [← impl_countWays.iter_step _ _ _ (by omega)]; exact HI.out)
          have HnD := Aside0.mk hnd
          obtain ⟨CL, hCL⟩ : ∃ CL, CL = spec_CountDrives.levF far a0_0 a0_1 n c := ⟨_, rfl⟩
          have HJ := Aside0.mk (show impl_countWays.iter (spec_CountDrives.cellF far a0_0 a0_1 n) (N - 0) 0 c = CL by rw [hCL]; unfold spec_CountDrives.levF; rw [HNe.out]; rfl)
          rw [← hCL] at HI2
          clear HI hCL
          go_wp2_with (go_at_call 49; refine (HDw.out _ HB.out).mono ?_; rintro e w8 ⟨rfl, hb8⟩; have HB8 := Aside0.mk (below_then HB.out HB.out.size hb8); have HF8 := Aside0.mk (HF.out.below hb8); clear hb8)
          clear hp0 hp1
          go_loopw [63] (fun av wr => ∃ (q : Nat) (c : Nat → Int), av = .int .i64 q ∧ q ≤ N ∧ Aside0 (spec_owFar.Fa wr g N N c) ∧ Aside0 (Below w4.heap.size w4 wr) ∧ Aside0 (impl_countWays.iter (spec_CountDrives.cellF far a0_0 a0_1 n) (N - q) q c = CL)) (fun av _ => N - (intOf av).toNat)
          case atStart => exact ⟨0, c, rfl, by omega, HF8, HB8, HJ⟩
          case round =>
            clear HF HB HJ HF8 HB8
            obtain ⟨q, c, rfl, hq, HF, HB, HJ⟩ := hrel
            by_cases hqN : q < N
            · have HJ2 := Aside0.mk (show impl_countWays.iter (spec_CountDrives.cellF far a0_0 a0_1 n) (N - (q + 1)) (q + 1) (spec_CountDrives.cellF far a0_0 a0_1 n q c) = CL by rw [← impl_countWays.iter_step _ _ _ hqN]; exact HJ.out)
              have hfq := HFr.out _ HB.out q hqN
              have HQN := Aside0.mk hqN
              clear HJ
              obtain ⟨fq, hfqe⟩ : ∃ fq, fq = rd far (q : Int) := ⟨_, rfl⟩
              rw [← hfqe] at hfq
              by_cases hqn : fq = (n : Int)
              · have hqb : (fq != (n : Int)) = false := bne_eq_false_iff_eq.2 hqn
                obtain ⟨CS, hCS⟩ : ∃ CS, CS = impl_countWays.iter (spec_CountDrives.sgF far a0_0 a0_1 n q) 4 0 c := ⟨_, rfl⟩
                have HS0 := Aside0.mk (show impl_countWays.iter (spec_CountDrives.sgF far a0_0 a0_1 n q) (4 - 0) 0 c = CS from hCS.symm)
                have hcf : spec_CountDrives.cellF far a0_0 a0_1 n q c = CS := by
                  unfold spec_CountDrives.cellF
                  rw [if_pos (by rw [← hfqe]; exact hqn), hCS]
                rw [hcf] at HJ2
                have kc := fun (w : World) (C : Array Value) (n c : Nat) => Go.Lib.run_convert_bytes_const (P := Try.prog) w 72 5 C n c Try.underlying72 Try.underlying5
                clear hcf hCS hfqe hqn
                go_wp2
                clear kc hfq
                obtain ⟨wo, rfl⟩ : ∃ wo, wo = wr := ⟨wr, rfl⟩
                have HBa := Aside0.mk (below_then HB.out HB.out.size (below_alloc (Below.refl wo.heap.size wo) (Obj.cells #[.int .u8 101, .int .u8 110, .int .u8 115, .int .u8 119] 5 (4, 5))))
                have HFa := Aside0.mk (HF.out.below (below_alloc (Below.refl wo.heap.size wo) (Obj.cells #[.int .u8 101, .int .u8 110, .int .u8 115, .int .u8 119] 5 (4, 5))))
                have HY := Aside0.mk (show (wo.alloc (Obj.cells #[.int .u8 101, .int .u8 110, .int .u8 115, .int .u8 119] 5 (4, 5))).heap[wo.heap.size]? = some (.cells #[.int .u8 101, .int .u8 110, .int .u8 115, .int .u8 119] 5 (4, 5)) from heap_alloc_new _ _)
                have HGw := Aside0.mk (show g ≠ wo.heap.size from by have := HF.out.lt; omega)
                clear HB HF
                obtain ⟨qx, hqx⟩ : ∃ qx, qx = q / a0_0.size := ⟨_, rfl⟩
                obtain ⟨qy, hqy⟩ : ∃ qy, qy = q % a0_0.size := ⟨_, rfl⟩
                have hqxt : qx < a0_1.size := by rw [hqx]; exact (Nat.div_lt_iff_lt_mul (by omega)).2 (by rw [HNe.out]; exact hqN)
                have hqys : qy < a0_0.size := by rw [hqy]; exact Nat.mod_lt _ (by omega)
                have ED := Aside0.mk (show wrap64 ((q : Int) / (a0_0.size : Int)) = (qx : Int) by
                  rw [← Int.natCast_ediv, ← hqx, Go.Proofs.Ytopbmiedlpkmjaa.Lib.w64] <;> omega)
                have EM := Aside0.mk (show Int.tmod (q : Int) (a0_0.size : Int) = (qy : Int) by
                  rw [← Int.ofNat_tmod, ← hqy])
                have HQX := Aside0.mk (And.intro hqx hqy)
                have HQT := Aside0.mk (And.intro hqxt hqys)
                clear hqx hqy hqxt hqys
                go_loopw [74] (fun jv wr => ∃ (j : Nat) (c : Nat → Int), jv = .int .i64 j ∧ j ≤ 4 ∧ Aside0 (spec_owFar.Fa wr g N N c) ∧ Aside0 (Below w4.heap.size w4 wr) ∧ Aside0 (wr.heap[wo.heap.size]? = some (.cells #[.int .u8 101, .int .u8 110, .int .u8 115, .int .u8 119] 5 (4, 5))) ∧ Aside0 (impl_countWays.iter (spec_CountDrives.sgF far a0_0 a0_1 n q) (4 - j) j c = CS)) (fun jv _ => 4 - (intOf jv).toNat)
                case atStart => exact ⟨0, c, rfl, by omega, HFa, HBa, HY, HS0⟩
                case round =>
                  clear HFa HBa HY HS0
                  obtain ⟨j, c, rfl, hj, HF, HB, HY, HS⟩ := hrel
                  by_cases hj4 : j < 4
                  · have hsg : wr.cell? ⟨wo.heap.size, j, none⟩ = some (.int .u8 (impl_driveIn.sg j)) := by
                      have cm : j = 0 ∨ j = 1 ∨ j = 2 ∨ j = 3 := by omega
                      simp only [World.cell?, HY.out]
                      rcases cm with rfl | rfl | rfl | rfl <;> rfl
                    have HS2 := Aside0.mk (show impl_countWays.iter (spec_CountDrives.sgF far a0_0 a0_1 n q) (4 - (j + 1)) (j + 1) (spec_CountDrives.sgF far a0_0 a0_1 n q j c) = CS by rw [← impl_countWays.iter_step _ _ _ hj4]; exact HS.out)
                    obtain ⟨ko, u, v, HO, hmv⟩ := spec_owFar.one a0_0 a0_1 HG.out qx qy j (by omega) HQT.out.1 HQT.out.2
                    replace HO := Aside0.mk HO
                    have hz : ((a0_0.size : Int) == 0) = false := beq_eq_false_iff_ne.2 (by omega)
                    have hz2 : ¬ a0_0 = ByteArray.empty := fun e => by rw [e] at s1; simp at s1
                    obtain ⟨hp0, hp1⟩ := (HSt.out _ HB.out).2.2
                    clear HS
                    cases hcan : impl_driveIn.can a0_0 a0_1 qx qy j with
                    | false =>
                      have hsF : spec_CountDrives.sgF far a0_0 a0_1 n q j c = c := by
                        unfold spec_CountDrives.sgF spec_FirstDrive.ok
                        rw [← HQX.out.1, ← HQX.out.2, hcan]
                        simp
                      rw [hsF] at HS2
                      rw [hcan] at HO
                      clear hcan hmv hsF
                      go_wp2
                      have HFn := Aside0.mk (show spec_owFar.Fa wr.drew g N N c from HF.out.below (below_drew1 (Below.refl _ _)))
                      have HBn := Aside0.mk (below_drew1 HB.out)
                      have HYn := Aside0.mk (show wr.drew.heap[wo.heap.size]? = some (.cells #[.int .u8 101, .int .u8 110, .int .u8 115, .int .u8 119] 5 (4, 5)) from HY.out)
                      have hq0 := (HSt.out _ HBn.out).2.2.1
                      have hq1 := (HSt.out _ HBn.out).2.2.2
                      clear hsg hp0 hp1 HF HB HY
                      refine start_ (n := 16) (S := fun w' => w'.cell? ⟨w.heap.size, 0, none⟩ = some (.string a0_0) ∧ w'.cell? ⟨w.heap.size, 1, none⟩ = some (.string a0_1)) (ds := []) #[false, false, false, false, false, false, false, false, false, false, false, false, false, false, false, false] (by kernel_rfl) rfl rfl ⟨hq0, hq1⟩ (fun hHeld => ?_); refine with_tabW spec_CountDrives.tab17 spec_owFar.bits17 (fun HT_ HW_ => ?_)
                      generalize wr.drew = wn at HFn HBn HYn hq0 hq1 hHeld ⊢
                      clear hq0 hq1
                      refine pure_ (i := 1) (N := some 80) (v := ?_) (a' := ?_) #[false, true, false, false, false, false, false, false, false, false, false, false, false, false, false, false] rfl rfl (any_of HT_.out (by kernel_rfl)) (fun _ _ _ h => h) (Or.inl ⟨by rfl, ?_⟩) ?_ ?_
                      rotate_left
                      · intro w'
                        go_simp
                        with_reducible rfl
                      rotate_left
                      · simp only [Act.put, List.setIfInBounds_toArray, List.set_cons_zero, List.set_cons_succ, i64_w, i32_w]
                        rfl
                      refine pure_ (i := 2) (N := some 81) (v := ?_) (a' := ?_) #[false, true, true, false, false, false, false, false, false, false, false, false, false, false, false, false] rfl rfl (any_of HT_.out (by kernel_rfl)) (fun _ _ _ h => h) (Or.inl ⟨by rfl, ?_⟩) ?_ ?_
                      rotate_left
                      · intro w'
                        go_simp
                        with_reducible rfl
                      rotate_left
                      · simp only [Act.put, List.setIfInBounds_toArray, List.set_cons_zero, List.set_cons_succ, i64_w, i32_w]
                        rfl
                      refine pure_ (i := 3) (N := some 82) (v := ?_) (a' := ?_) #[false, true, true, true, false, false, false, false, false, false, false, false, false, false, false, false] rfl rfl (any_of HT_.out (by kernel_rfl)) (fun _ _ _ h => h) (Or.inl ⟨by rfl, ?_⟩) ?_ ?_
                      rotate_left
                      · intro w'
                        go_simp
                        with_reducible rfl
                      rotate_left
                      · simp only [Act.put, List.setIfInBounds_toArray, List.set_cons_zero, List.set_cons_succ, i64_w, i32_w]
                        rfl
                      refine pure_ (i := 4) (N := some 83) (v := ?_) (a' := ?_) #[false, true, true, true, true, false, false, false, false, false, false, false, false, false, false, false] rfl rfl (any_of HT_.out (by kernel_rfl)) (fun _ _ _ h => h) (Or.inl ⟨by rfl, ?_⟩) ?_ ?_
                      rotate_left
                      · intro w'
                        go_simp
                        with_reducible rfl
                      rotate_left
                      · simp only [Act.put, List.setIfInBounds_toArray, List.set_cons_zero, List.set_cons_succ, i64_w, i32_w]
                        rfl
                      refine pure_ (i := 5) (N := some 84) (v := ?_) (a' := ?_) #[false, true, true, true, true, true, false, false, false, false, false, false, false, false, false, false] rfl rfl (any_of HT_.out (by kernel_rfl)) (fun _ _ _ h => h) (Or.inl ⟨by rfl, ?_⟩) ?_ ?_
                      rotate_left
                      · intro w'
                        go_simp
                        with_reducible rfl
                      rotate_left
                      · simp only [Act.put, List.setIfInBounds_toArray, List.set_cons_zero, List.set_cons_succ, i64_w, i32_w]
                        rfl
                      refine pure_ (i := 6) (N := some 85) (v := ?_) (a' := ?_) #[false, true, true, true, true, true, true, false, false, false, false, false, false, false, false, false] rfl rfl (any_of HT_.out (by kernel_rfl)) (fun _ _ _ h => h) (Or.inl ⟨by rfl, ?_⟩) ?_ ?_
                      rotate_left
                      · intro w'
                        go_simp
                        with_reducible rfl
                      rotate_left
                      · simp only [Act.put, List.setIfInBounds_toArray, List.set_cons_zero, List.set_cons_succ, i64_w, i32_w]
                        rfl
                      refine pure_ (i := 7) (N := some 86) (v := ?_) (a' := ?_) #[false, true, true, true, true, true, true, true, false, false, false, false, false, false, false, false] rfl rfl (any_of HT_.out (by kernel_rfl)) (fun _ _ _ h => h) (Or.inl ⟨by rfl, ?_⟩) ?_ ?_
                      rotate_left
                      · intro w'
                        go_simp
                        with_reducible rfl
                      rotate_left
                      · simp only [Act.put, List.setIfInBounds_toArray, List.set_cons_zero, List.set_cons_succ, i64_w, i32_w]
                        rfl
                      refine take_ (i := 0) (N := some 79) (v := ?_) (a' := ?_) #[true, true, true, true, true, true, true, true, false, false, false, false, false, false, false, false] rfl rfl (take_ofW HT_.out HW_.out (by kernel_rfl)) (fun _ _ _ h => h) (Or.inl ⟨by rfl, ?_⟩) hHeld ?_ ?_
                      rotate_left
                      · rintro w' ⟨s0, s1⟩
                        go_simp
                        with_reducible rfl
                      rotate_left
                      · simp only [Act.put, List.setIfInBounds_toArray, List.set_cons_zero, List.set_cons_succ, i64_w, i32_w]
                        rfl
                      refine one_ (i := 8) (N := some 87) #[true, true, true, true, true, true, true, true, true, false, false, false, false, false, false, false] rfl rfl (one_of HT_.out (by kernel_rfl)) (by decide) (fun K hK => ?_)
                      refine goes_ Try.func44 (by kernel_rfl) rfl #[.agg #[.string a0_0, .string a0_1], .int .i64 (wrap64 ((q : Int) / (a0_0.size : Int))), .int .i64 (Int.tmod (q : Int) (a0_0.size : Int)), .int .u8 (impl_driveIn.sg j)] (by rfl) rfl rfl (by (try simp only [List.map_toArray, List.map_cons, List.map_nil]); first | done | rfl) ?_
                      rw [ED.out, EM.out]
                      with_reducible refine (spec_owStep.calls ko a0_0 a0_1 (qx : Int) (qy : Int) (impl_driveIn.sg j) u v false _ HO.out).mono ?_
                      rintro e w9 ⟨rfl, hb9⟩
                      refine ⟨_, rfl, ?_⟩
                      have HF4 := Aside0.mk (HFn.out.below hb9)
                      have HB4' := Aside0.mk (below_then HBn.out HBn.out.size hb9)
                      have HY4 := Aside0.mk ((hb9.block _ (Array.getElem?_eq_some_iff.1 HYn.out).1).trans HYn.out)
                      have hq4 := (HSt.out _ HB4'.out).2.2
                      clear hb9
                      refine hK.out _ _ ⟨hq4.1, hq4.2⟩ (fun hHeld => ?_)
                      clear hK K
                      refine norm_ (a' := ?_) ?_ ?_
                      rotate_left
                      · show Act.put _ (some 87) _ = _
                        simp only [Act.put, List.setIfInBounds_toArray, List.set_cons_zero, List.set_cons_succ, i64_w, i32_w]
                        rfl
                      refine pure_ (i := 9) (N := some 78) (v := ?_) (a' := ?_) #[true, true, true, true, true, true, true, true, true, true, false, false, false, false, false, false] rfl rfl (any_of HT_.out (by kernel_rfl)) (fun _ _ _ h => h) (Or.inl ⟨by rfl, ?_⟩) ?_ ?_
                      rotate_left
                      · intro w'
                        go_simp
                        with_reducible rfl
                      rotate_left
                      · simp only [Act.put, List.setIfInBounds_toArray, List.set_cons_zero, List.set_cons_succ, i64_w, i32_w]
                        rfl
                      refine pure_ (i := 10) (N := some 88) (v := ?_) (a' := ?_) #[true, true, true, true, true, true, true, true, true, true, true, false, false, false, false, false] rfl rfl (any_of HT_.out (by kernel_rfl)) (fun _ _ _ h => h) (Or.inl ⟨by rfl, ?_⟩) ?_ ?_
                      rotate_left
                      · intro w'
                        go_simp
                        with_reducible rfl
                      rotate_left
                      · simp only [Act.put, List.setIfInBounds_toArray, List.set_cons_zero, List.set_cons_succ, i64_w, i32_w]
                        rfl
                      refine pure_ (i := 11) (N := some 89) (v := ?_) (a' := ?_) #[true, true, true, true, true, true, true, true, true, true, true, true, false, false, false, false] rfl rfl (any_of HT_.out (by kernel_rfl)) (fun _ _ _ h => h) (Or.inl ⟨by rfl, ?_⟩) ?_ ?_
                      rotate_left
                      · intro w'
                        go_simp
                        with_reducible rfl
                      rotate_left
                      · simp only [Act.put, List.setIfInBounds_toArray, List.set_cons_zero, List.set_cons_succ, i64_w, i32_w]
                        rfl
                      refine pure_ (i := 12) (N := some 90) (v := ?_) (a' := ?_) #[true, true, true, true, true, true, true, true, true, true, true, true, true, false, false, false] rfl rfl (any_of HT_.out (by kernel_rfl)) (fun _ _ _ h => h) (Or.inl ⟨by rfl, ?_⟩) ?_ ?_
                      rotate_left
                      · intro w'
                        go_simp
                        with_reducible rfl
                      rotate_left
                      · simp only [Act.put, List.setIfInBounds_toArray, List.set_cons_zero, List.set_cons_succ, i64_w, i32_w]
                        rfl
                      refine pure_ (i := 13) (N := some 16) (v := ?_) (a' := ?_) #[true, true, true, true, true, true, true, true, true, true, true, true, true, true, false, false] rfl rfl (any_of HT_.out (by kernel_rfl)) (fun _ _ _ h => h) (Or.inl ⟨by rfl, ?_⟩) ?_ ?_
                      rotate_left
                      · intro w'
                        go_simp
                        with_reducible rfl
                      rotate_left
                      · simp only [Act.put, List.setIfInBounds_toArray, List.set_cons_zero, List.set_cons_succ, i64_w, i32_w]
                        rfl
                      refine pure_ (i := 14) (N := some 17) (v := ?_) (a' := ?_) #[true, true, true, true, true, true, true, true, true, true, true, true, true, true, true, false] rfl rfl (any_of HT_.out (by kernel_rfl)) (fun _ _ _ h => h) (Or.inl ⟨by rfl, ?_⟩) ?_ ?_
                      rotate_left
                      · intro w'
                        go_simp
                        with_reducible rfl
                      rotate_left
                      · simp only [Act.put, List.setIfInBounds_toArray, List.set_cons_zero, List.set_cons_succ, i64_w, i32_w]
                        rfl
                      refine pure_ (i := 15) (N := some 18) (v := ?_) (a' := ?_) #[true, true, true, true, true, true, true, true, true, true, true, true, true, true, true, true] rfl rfl (any_of HT_.out (by kernel_rfl)) (fun _ _ _ h => h) (Or.inl ⟨by rfl, ?_⟩) ?_ ?_
                      rotate_left
                      · intro w'
                        go_simp
                        with_reducible rfl
                      rotate_left
                      · simp only [Act.put, List.setIfInBounds_toArray, List.set_cons_zero, List.set_cons_succ, i64_w, i32_w]
                        rfl
                      refine done_ (done_of HT_.out (by kernel_rfl)) ?_
                      go_wp2
                      go_roundw
                      case rel => exact ⟨j + 1, c, by go_num, by omega, HF4, HB4', HY4, HS2⟩
                      case measure => simp [intOf]; omega
                    | true =>
                      obtain ⟨hu, hv⟩ := hmv hcan
                      have hat := hcan
                      unfold impl_driveIn.can at hat
                      rw [Bool.and_eq_true, decide_eq_true_eq, ← hu, ← hv] at hat
                      obtain ⟨ux, rfl⟩ := Int.eq_ofNat_of_zero_le hat.1.1.1
                      obtain ⟨vy, rfl⟩ := Int.eq_ofNat_of_zero_le hat.1.2.1
                      have hux : ux < a0_1.size := by have := hat.1.1.2; omega
                      have hvy : vy < a0_0.size := by have := hat.1.2.2; omega
                      obtain ⟨nx, hnx⟩ : ∃ nx, nx = ux * a0_0.size + vy := ⟨_, rfl⟩
                      have hnxl : nx < N := by rw [hnx, ← HNe.out]; exact spec_owFar.cd_lt _ _ _ _ hux hvy
                      obtain ⟨m2, hm2⟩ : ∃ m2, m2 = ux * a0_0.size := ⟨_, rfl⟩
                      have hm2n : m2 ≤ nx := by omega
                      have e3 : IntKind.i64.wrap ((ux : Int) * (a0_0.size : Int)) = (m2 : Int) := by rw [i64_w, ← Int.natCast_mul, ← hm2, Go.Proofs.Ytopbmiedlpkmjaa.Lib.w64] <;> omega
                      have e4 : IntKind.i64.wrap ((m2 : Int) + (vy : Int)) = (nx : Int) := by rw [i64_w, Go.Proofs.Ytopbmiedlpkmjaa.Lib.w64] <;> omega
                      have e5 : IntKind.i64.wrap ((n : Int) - 1) = (n : Int) - 1 := by rw [i64_w]; unfold wrap64; omega
                      obtain ⟨fv, hfv⟩ : ∃ fv, fv = rd far (nx : Int) := ⟨_, rfl⟩
                      have hok : spec_FirstDrive.ok far a0_0 a0_1 ((n : Int) - 1) ((q / a0_0.size : Nat) : Int) ((q % a0_0.size : Nat) : Int) j = decide (fv = (n : Int) - 1) := by
                        unfold spec_FirstDrive.ok
                        rw [← HQX.out.1, ← HQX.out.2, hcan, Bool.true_and, ← hu, ← hv, hfv, hnx, Int.natCast_add, Int.natCast_mul]
                      have hsF : spec_CountDrives.sgF far a0_0 a0_1 n q j c = if fv = (n : Int) - 1 then spec_CountDrives.upd c q (wrap64 (c q + c nx)) else c := by
                        unfold spec_CountDrives.sgF
                        rw [hok, ← HQX.out.1, ← HQX.out.2, ← hu, ← hv, ← Int.natCast_mul, ← Int.natCast_add, ← hnx, Int.toNat_natCast]
                        simp only [decide_eq_true_eq]
                      rw [hsF] at HS2
                      rw [hcan] at HO
                      have HE34 := Aside0.mk (And.intro e3 e4)
                      have HFV := Aside0.mk hfv
                      have HNX := Aside0.mk hnxl
                      clear hcan hmv hsF hok hat hux hvy hnx hm2 hfv hu hv e3 e4 hnxl
                      go_wp2
                      have HFn := Aside0.mk (show spec_owFar.Fa wr.drew g N N c from HF.out.below (below_drew1 (Below.refl _ _)))
                      have HBn := Aside0.mk (below_drew1 HB.out)
                      have HYn := Aside0.mk (show wr.drew.heap[wo.heap.size]? = some (.cells #[.int .u8 101, .int .u8 110, .int .u8 115, .int .u8 119] 5 (4, 5)) from HY.out)
                      have hq0 := (HSt.out _ HBn.out).2.2.1
                      have hq1 := (HSt.out _ HBn.out).2.2.2
                      clear hsg hp0 hp1 HF HB HY
                      refine start_ (n := 16) (S := fun w' => w'.cell? ⟨w.heap.size, 0, none⟩ = some (.string a0_0) ∧ w'.cell? ⟨w.heap.size, 1, none⟩ = some (.string a0_1)) (ds := []) #[false, false, false, false, false, false, false, false, false, false, false, false, false, false, false, false] (by kernel_rfl) rfl rfl ⟨hq0, hq1⟩ (fun hHeld => ?_); refine with_tabW spec_CountDrives.tab17 spec_owFar.bits17 (fun HT_ HW_ => ?_)
                      generalize wr.drew = wn at HFn HBn HYn hq0 hq1 hHeld ⊢
                      clear hq0 hq1
                      refine pure_ (i := 1) (N := some 80) (v := ?_) (a' := ?_) #[false, true, false, false, false, false, false, false, false, false, false, false, false, false, false, false] rfl rfl (any_of HT_.out (by kernel_rfl)) (fun _ _ _ h => h) (Or.inl ⟨by rfl, ?_⟩) ?_ ?_
                      rotate_left
                      · intro w'
                        go_simp
                        with_reducible rfl
                      rotate_left
                      · simp only [Act.put, List.setIfInBounds_toArray, List.set_cons_zero, List.set_cons_succ, i64_w, i32_w]
                        rfl
                      refine pure_ (i := 2) (N := some 81) (v := ?_) (a' := ?_) #[false, true, true, false, false, false, false, false, false, false, false, false, false, false, false, false] rfl rfl (any_of HT_.out (by kernel_rfl)) (fun _ _ _ h => h) (Or.inl ⟨by rfl, ?_⟩) ?_ ?_
                      rotate_left
                      · intro w'
                        go_simp
                        with_reducible rfl
                      rotate_left
                      · simp only [Act.put, List.setIfInBounds_toArray, List.set_cons_zero, List.set_cons_succ, i64_w, i32_w]
                        rfl
                      refine pure_ (i := 3) (N := some 82) (v := ?_) (a' := ?_) #[false, true, true, true, false, false, false, false, false, false, false, false, false, false, false, false] rfl rfl (any_of HT_.out (by kernel_rfl)) (fun _ _ _ h => h) (Or.inl ⟨by rfl, ?_⟩) ?_ ?_
                      rotate_left
                      · intro w'
                        go_simp
                        with_reducible rfl
                      rotate_left
                      · simp only [Act.put, List.setIfInBounds_toArray, List.set_cons_zero, List.set_cons_succ, i64_w, i32_w]
                        rfl
                      refine pure_ (i := 4) (N := some 83) (v := ?_) (a' := ?_) #[false, true, true, true, true, false, false, false, false, false, false, false, false, false, false, false] rfl rfl (any_of HT_.out (by kernel_rfl)) (fun _ _ _ h => h) (Or.inl ⟨by rfl, ?_⟩) ?_ ?_
                      rotate_left
                      · intro w'
                        go_simp
                        with_reducible rfl
                      rotate_left
                      · simp only [Act.put, List.setIfInBounds_toArray, List.set_cons_zero, List.set_cons_succ, i64_w, i32_w]
                        rfl
                      refine pure_ (i := 5) (N := some 84) (v := ?_) (a' := ?_) #[false, true, true, true, true, true, false, false, false, false, false, false, false, false, false, false] rfl rfl (any_of HT_.out (by kernel_rfl)) (fun _ _ _ h => h) (Or.inl ⟨by rfl, ?_⟩) ?_ ?_
                      rotate_left
                      · intro w'
                        go_simp
                        with_reducible rfl
                      rotate_left
                      · simp only [Act.put, List.setIfInBounds_toArray, List.set_cons_zero, List.set_cons_succ, i64_w, i32_w]
                        rfl
                      refine pure_ (i := 6) (N := some 85) (v := ?_) (a' := ?_) #[false, true, true, true, true, true, true, false, false, false, false, false, false, false, false, false] rfl rfl (any_of HT_.out (by kernel_rfl)) (fun _ _ _ h => h) (Or.inl ⟨by rfl, ?_⟩) ?_ ?_
                      rotate_left
                      · intro w'
                        go_simp
                        with_reducible rfl
                      rotate_left
                      · simp only [Act.put, List.setIfInBounds_toArray, List.set_cons_zero, List.set_cons_succ, i64_w, i32_w]
                        rfl
                      refine pure_ (i := 7) (N := some 86) (v := ?_) (a' := ?_) #[false, true, true, true, true, true, true, true, false, false, false, false, false, false, false, false] rfl rfl (any_of HT_.out (by kernel_rfl)) (fun _ _ _ h => h) (Or.inl ⟨by rfl, ?_⟩) ?_ ?_
                      rotate_left
                      · intro w'
                        go_simp
                        with_reducible rfl
                      rotate_left
                      · simp only [Act.put, List.setIfInBounds_toArray, List.set_cons_zero, List.set_cons_succ, i64_w, i32_w]
                        rfl
                      refine take_ (i := 0) (N := some 79) (v := ?_) (a' := ?_) #[true, true, true, true, true, true, true, true, false, false, false, false, false, false, false, false] rfl rfl (take_ofW HT_.out HW_.out (by kernel_rfl)) (fun _ _ _ h => h) (Or.inl ⟨by rfl, ?_⟩) hHeld ?_ ?_
                      rotate_left
                      · rintro w' ⟨s0, s1⟩
                        go_simp
                        with_reducible rfl
                      rotate_left
                      · simp only [Act.put, List.setIfInBounds_toArray, List.set_cons_zero, List.set_cons_succ, i64_w, i32_w]
                        rfl
                      refine one_ (i := 8) (N := some 87) #[true, true, true, true, true, true, true, true, true, false, false, false, false, false, false, false] rfl rfl (one_of HT_.out (by kernel_rfl)) (by decide) (fun K hK => ?_)
                      refine goes_ Try.func44 (by kernel_rfl) rfl #[.agg #[.string a0_0, .string a0_1], .int .i64 (wrap64 ((q : Int) / (a0_0.size : Int))), .int .i64 (Int.tmod (q : Int) (a0_0.size : Int)), .int .u8 (impl_driveIn.sg j)] (by rfl) rfl rfl (by (try simp only [List.map_toArray, List.map_cons, List.map_nil]); first | done | rfl) ?_
                      rw [ED.out, EM.out]
                      with_reducible refine (spec_owStep.calls ko a0_0 a0_1 (qx : Int) (qy : Int) (impl_driveIn.sg j) (ux : Int) (vy : Int) true _ HO.out).mono ?_
                      rintro e w9 ⟨rfl, hb9⟩
                      refine ⟨_, rfl, ?_⟩
                      have HF4 := Aside0.mk (HFn.out.below hb9)
                      have HB4' := Aside0.mk (below_then HBn.out HBn.out.size hb9)
                      have HY4 := Aside0.mk ((hb9.block _ (Array.getElem?_eq_some_iff.1 HYn.out).1).trans HYn.out)
                      have hq4 := (HSt.out _ HB4'.out).2.2
                      clear hb9
                      refine hK.out _ _ ⟨hq4.1, hq4.2⟩ (fun hHeld => ?_)
                      clear hK K
                      refine norm_ (a' := ?_) ?_ ?_
                      rotate_left
                      · show Act.put _ (some 87) _ = _
                        simp only [Act.put, List.setIfInBounds_toArray, List.set_cons_zero, List.set_cons_succ, i64_w, i32_w]
                        rfl
                      refine pure_ (i := 9) (N := some 78) (v := ?_) (a' := ?_) #[true, true, true, true, true, true, true, true, true, true, false, false, false, false, false, false] rfl rfl (any_of HT_.out (by kernel_rfl)) (fun _ _ _ h => h) (Or.inl ⟨by rfl, ?_⟩) ?_ ?_
                      rotate_left
                      · intro w'
                        go_simp
                        with_reducible rfl
                      rotate_left
                      · simp only [Act.put, List.setIfInBounds_toArray, List.set_cons_zero, List.set_cons_succ, i64_w, i32_w]
                        rfl
                      refine pure_ (i := 10) (N := some 88) (v := ?_) (a' := ?_) #[true, true, true, true, true, true, true, true, true, true, true, false, false, false, false, false] rfl rfl (any_of HT_.out (by kernel_rfl)) (fun _ _ _ h => h) (Or.inl ⟨by rfl, ?_⟩) ?_ ?_
                      rotate_left
                      · intro w'
                        go_simp
                        with_reducible rfl
                      rotate_left
                      · simp only [Act.put, List.setIfInBounds_toArray, List.set_cons_zero, List.set_cons_succ, i64_w, i32_w]
                        rfl
                      refine pure_ (i := 11) (N := some 89) (v := ?_) (a' := ?_) #[true, true, true, true, true, true, true, true, true, true, true, true, false, false, false, false] rfl rfl (any_of HT_.out (by kernel_rfl)) (fun _ _ _ h => h) (Or.inl ⟨by rfl, ?_⟩) ?_ ?_
                      rotate_left
                      · intro w'
                        go_simp
                        with_reducible rfl
                      rotate_left
                      · simp only [Act.put, List.setIfInBounds_toArray, List.set_cons_zero, List.set_cons_succ, i64_w, i32_w]
                        rfl
                      refine pure_ (i := 12) (N := some 90) (v := ?_) (a' := ?_) #[true, true, true, true, true, true, true, true, true, true, true, true, true, false, false, false] rfl rfl (any_of HT_.out (by kernel_rfl)) (fun _ _ _ h => h) (Or.inl ⟨by rfl, ?_⟩) ?_ ?_
                      rotate_left
                      · intro w'
                        go_simp
                        with_reducible rfl
                      rotate_left
                      · simp only [Act.put, List.setIfInBounds_toArray, List.set_cons_zero, List.set_cons_succ, i64_w, i32_w]
                        rfl
                      refine pure_ (i := 13) (N := some 16) (v := ?_) (a' := ?_) #[true, true, true, true, true, true, true, true, true, true, true, true, true, true, false, false] rfl rfl (any_of HT_.out (by kernel_rfl)) (fun _ _ _ h => h) (Or.inl ⟨by rfl, ?_⟩) ?_ ?_
                      rotate_left
                      · intro w'
                        go_simp
                        with_reducible rfl
                      rotate_left
                      · simp only [Act.put, List.setIfInBounds_toArray, List.set_cons_zero, List.set_cons_succ, i64_w, i32_w]
                        rfl
                      refine pure_ (i := 14) (N := some 17) (v := ?_) (a' := ?_) #[true, true, true, true, true, true, true, true, true, true, true, true, true, true, true, false] rfl rfl (any_of HT_.out (by kernel_rfl)) (fun _ _ _ h => h) (Or.inl ⟨by rfl, ?_⟩) ?_ ?_
                      rotate_left
                      · intro w'
                        go_simp
                        with_reducible rfl
                      rotate_left
                      · simp only [Act.put, List.setIfInBounds_toArray, List.set_cons_zero, List.set_cons_succ, i64_w, i32_w]
                        rfl
                      refine pure_ (i := 15) (N := some 18) (v := ?_) (a' := ?_) #[true, true, true, true, true, true, true, true, true, true, true, true, true, true, true, true] rfl rfl (any_of HT_.out (by kernel_rfl)) (fun _ _ _ h => h) (Or.inl ⟨by rfl, ?_⟩) ?_ ?_
                      rotate_left
                      · intro w'
                        go_simp
                        with_reducible rfl
                      rotate_left
                      · simp only [Act.put, List.setIfInBounds_toArray, List.set_cons_zero, List.set_cons_succ, i64_w, i32_w]
                        rfl
                      refine done_ (done_of HT_.out (by kernel_rfl)) ?_
                      have hfx := HFr.out _ HB4'.out nx HNX.out
                      rw [← HFV.out] at hfx
                      obtain ⟨e3, e4⟩ := HE34.out
                      have hnxl := HNX.out
                      by_cases qe : fv = (n : Int) - 1
                      · have qb : (fv == (n : Int) - 1) = true := beq_iff_eq.2 qe
                        rw [if_pos qe] at HS2
                        clear qe
                        go_wp2
                        refine wp_region_still_tail 10 (by kernel_rfl) (by kernel_rfl) ?_
                        simp only [List.take_succ_cons, List.take_zero, List.drop_succ_cons, List.drop_zero]
                        obtain ⟨w7, hw7⟩ : ∃ w7 : World, w9.drew = w7 := ⟨_, rfl⟩
                        have hbd : Below w9.heap.size w9 w7 := by rw [← hw7]; exact below_drew1 (Below.refl _ _)
                        have HB7 := Aside0.mk (below_then HB4'.out HB4'.out.size hbd)
                        have HF7 := Aside0.mk (HF4.out.below hbd)
                        have HY7 := Aside0.mk ((hbd.block _ (Array.getElem?_eq_some_iff.1 HY4.out).1).trans HY4.out)
                        obtain ⟨va, hva⟩ : ∃ va, va = c q := ⟨_, rfl⟩
                        obtain ⟨vb, hvb⟩ : ∃ vb, vb = c nx := ⟨_, rfl⟩
                        have hcela : w7.cell? ⟨g, q, none⟩ = some (.int .i64 va) := by rw [hva]; exact HF7.out.cell q HQN.out
                        have hcelb : w7.cell? ⟨g, nx, none⟩ = some (.int .i64 vb) := by rw [hvb]; exact HF7.out.cell nx hnxl
                        have hfrea := HF7.out.free q
                        rw [← hva, ← hvb] at HS2
                        have ew : IntKind.i64.wrap (va + vb) = wrap64 (va + vb) := i64_w _
                        have HF8 := Aside0.mk (spec_CountDrives.fa_upd HF7.out q HQN.out (wrap64 (va + vb)))
                        have HB8 := Aside0.mk (HB7.out.setCell (p := ⟨g, q, none⟩) HGB.out (.int .i64 (wrap64 (va + vb))))
                        have HY8 := Aside0.mk ((Below.heap_setCell w7 ⟨g, q, none⟩ (.int .i64 (wrap64 (va + vb))) wo.heap.size (fun e => HGw.out e.symm)).trans HY7.out)
                        change wpStill _ _ w9.drew _ _ _
                        rw [hw7]
                        have HW7 := Aside0.mk hw7
                        clear hw7 hbd hva hvb hfx e3 e4
                        repeat still_step
                        refine wpStill_nil ?_
                        change wpList _ _ _ _ _ w9.drew
                        rw [HW7.out]
                        clear HB7 HF7 HY7 hcelb
                        go_wp2
                        go_roundw
                        case rel => exact ⟨j + 1, _, by go_num, by omega, HF8, HB8, HY8, HS2⟩
                        case measure => simp [intOf]; omega
                      · have qb : (fv == (n : Int) - 1) = false := beq_eq_false_iff_ne.2 qe
                        rw [if_neg qe] at HS2
                        clear qe
                        go_wp2
                        go_roundw
                        case rel => exact ⟨j + 1, c, by go_num, by omega, HF4, HB4', HY4, HS2⟩
                        case measure => simp [intOf]; omega
                  · obtain rfl : j = 4 := by omega
                    have HE := Aside0.mk (show c = CS from HS.out)
                    clear hj4
                    go_wp2
                    go_roundw
                    case rel => exact ⟨q + 1, c, by go_num, by have := HQN.out; omega, HF, HB, ⟨by rw [HE.out]; exact HJ2.out⟩⟩
                    case measure => have := HQN.out; simp [intOf]; omega
              · have hqb : (fq != (n : Int)) = true := bne_iff_ne.2 hqn
                have hcf : spec_CountDrives.cellF far a0_0 a0_1 n q c = c := by
                  unfold spec_CountDrives.cellF
                  rw [if_neg (by rw [← hfqe]; exact hqn)]
                rw [hcf] at HJ2
                clear hcf hfqe hqn
                go_wp2
                go_roundw
                case rel => exact ⟨q + 1, c, by go_num, by omega, HF, HB, HJ2⟩
                case measure => simp [intOf]; omega
            · obtain rfl : q = N := by omega
              have HE := Aside0.mk (show c = CL by have z := HJ.out; rw [impl_countWays.iter_end] at z; exact z)
              clear hqN
              go_wp2
              go_roundw
              case rel => exact ⟨n + 1, c, by go_num, by omega, by have := HnD.out; omega, HF, HB, ⟨by rw [HE.out]; exact HI2.out⟩⟩
              case measure => have := HnD.out; simp [intOf]; omega
        · obtain rfl : n = nD + 1 := by omega
          have hdb : decide (((nD + 1 : Nat) : Int) ≤ (nD : Int)) = false := decide_eq_false (by omega)
          have HE := Aside0.mk (show c = C by have z := HI.out; rw [impl_countWays.iter_end] at z; exact z)
          clear hnd hnD hn1
          go_wp2_with (go_at_call 49; refine (HDw.out _ HB.out).mono ?_; rintro e w8 ⟨rfl, hb8⟩; have HB8 := Aside0.mk (below_then HB.out HB.out.size hb8); have HF8 := Aside0.mk (HF.out.below hb8); have hx0 := (HSt.out _ HB8.out).1.1; have hx1 := (HSt.out _ HB8.out).1.2; have hcel := HF8.out.cell ca hcaN; have e1 := HEa.out.1; have e2 := HEa.out.2; clear hb8)
          go_quiet (fail)
          go_wp2
          go_ret2
          exact ⟨by rw [← HR.out, ← HE.out]; rfl, below_then HB4.out HB4.out.size (pw_below_drewN HB8.out _)⟩

/-! ### strings_IndexByte: function 69 (a contract of this repo) -/
def strings_IndexByte.f (a0 : ByteArray) (a1 : Int) : Option (Int) := some (Go.Lib.indexByte a0.data.toList a1.toNat.toUInt8)
theorem strings_IndexByte.calls (a0 : ByteArray) (a1 : Int) (r : Int) (w : World) (h : strings_IndexByte.f a0 a1 = some r) :
    Calls Try.prog 69 #[.string a0, .int .u8 a1] w fun e w' => e = .returned (.int .i64 r) ∧ Drawn0 w w' := by
  obtain rfl := Option.some.inj h
  refine (Try.strings_IndexByte a0 a1 w).mono ?_
  rintro e w' ⟨rfl, rfl⟩
  exact ⟨rfl, Drawn0.refl _⟩

/-! ### impl_areSigns: function 65 -/
def impl_areSigns.l0 : Nat → ByteArray → ByteArray → Int → Int → Option (Bool)
  | 0, _, _, _, _ => none
  | k + 1, x0, x1, x7, x8 => if x8 < x7 then (if 0 ≤ x8 then (if x8 < (x0.size : Int) then ((strings_IndexByte.f x1 (bt x0 x8)).bind fun t152 => (if t152 < 0 then (some false) else (impl_areSigns.l0 k x0 x1 x7 (wrap64 (x8 + 1))))) else (none)) else (none)) else ((impl_within.f (x0.size : Int) 2 8).bind fun t153 => (some t153))
def impl_areSigns.f (k : Nat) (a0 : ByteArray) (a1 : ByteArray) : Option (Bool) := impl_areSigns.l0 k a0 a1 (a0.size : Int) 0
theorem impl_areSigns.mono_l : ∀ k, (∀ y0 y1 y2 y3, LeO (impl_areSigns.l0 k y0 y1 y2 y3) (impl_areSigns.l0 (k + 1) y0 y1 y2 y3))
  | 0 => fun _ _ _ _ r h => by simp [impl_areSigns.l0] at h
  | k + 1 => by
    have ih0 := impl_areSigns.mono_l k
    · intro y0 y1 y2 y3
      unfold impl_areSigns.l0
      repeat' first
      | (with_reducible exact ih0 _ _ _ _)
      | (with_reducible exact LeO.refl _)
      | (with_reducible exact LeO.none _)
      | (with_reducible refine LeO.ite ?_ ?_)
      | (with_reducible refine LeO.bind ?_ (fun _ => ?_))
      | exact ih0 _ _ _ _
      | exact LeO.none _
      | refine LeO.ite ?_ ?_
      | refine LeO.bind ?_ (fun _ => ?_)
theorem impl_areSigns.mono : ∀ a0 a1 k, LeO (impl_areSigns.f k a0 a1) (impl_areSigns.f (k + 1) a0 a1) := by
  intro a0 a1 k
  have ih0 := impl_areSigns.mono_l k
  unfold impl_areSigns.f
  repeat' first
      | (with_reducible exact ih0 _ _ _ _)
      | (with_reducible exact LeO.refl _)
      | (with_reducible exact LeO.none _)
      | (with_reducible refine LeO.ite ?_ ?_)
      | (with_reducible refine LeO.bind ?_ (fun _ => ?_))
      | exact ih0 _ _ _ _
      | exact LeO.none _
      | refine LeO.ite ?_ ?_
      | refine LeO.bind ?_ (fun _ => ?_)
set_option maxHeartbeats 8000000 in
set_option maxRecDepth 100000 in
theorem impl_areSigns.calls (k : Nat) (a0 : ByteArray) (a1 : ByteArray) (r : Bool) (w : World) (h : impl_areSigns.f k a0 a1 = some r) :
    Calls Try.prog 65 #[.string a0, .string a1] w fun e w' => e = .returned (.bool r) ∧ Drawn0 w w' := by
  have H : (impl_areSigns.l0 k a0 a1 (a0.size : Int) 0) = some r := h
  clear h
  have H' := Aside0.mk H
  clear H
  go_enter Try.func65, Try.ntmps65
  go_wp2
  go_loopg [8] k (fun kq v8 w' => ∃ (x8_1 : Int), v8 = .int .i64 x8_1 ∧ Aside0 (impl_areSigns.l0 kq a0 a1 (a0.size : Int) x8_1 = some r) ∧ Aside0 (kq ≤ k) ∧ Drawn0 w w')
  case atStart => exact ⟨(0), (by first | rfl | (simp; done) | (simp [*]; done)), H', ⟨Nat.le_refl _⟩, by repeat (first | exact Drawn0.refl _ | apply Drawn0.step)⟩
  case round =>
    clear H'
    try clear p2
    obtain ⟨x8_1, rfl, HA, HK1, ⟨m1, rfl⟩⟩ := hrel
    cases gk with
    | zero => exact absurd HA.out (by simp [impl_areSigns.l0])
    | succ k1 =>
      have H := HA.out
      clear HA
      simp only [impl_areSigns.l0] at H
      by_cases c3 : x8_1 < (a0.size : Int)
      · rw [if_pos c3] at H
        have c3b0 : decide (x8_1 < (a0.size : Int)) = true := decide_eq_true c3
        clear c3
        by_cases c4 : 0 ≤ x8_1
        · rw [if_pos c4] at H
          have c4b0 : decide (0 ≤ x8_1) = true := decide_eq_true c4
          clear c4
          by_cases c5 : x8_1 < (a0.size : Int)
          · rw [if_pos c5] at H
            have c5b0 : decide (x8_1 < (a0.size : Int)) = true := decide_eq_true c5
            clear c5
            replace H := Option.bind_eq_some_iff.mp H
            obtain ⟨t152, A70, H⟩ := H
            replace H : (if t152 < 0 then (some false) else (impl_areSigns.l0 k1 a0 a1 (a0.size : Int) (wrap64 (x8_1 + 1)))) = some r := H
            have A7 := Aside0.mk A70
            clear A70
            by_cases c8 : t152 < 0
            · rw [if_pos c8] at H
              have c8b0 : decide (t152 < 0) = true := decide_eq_true c8
              clear c8
              obtain rfl := Option.some.inj H
              have p6 : 0 ≤ (x8_1 : Int) := of_decide_eq_true (by first | (with_reducible assumption) | assumption)
              have q6 : x8_1 < (a0.size : Int) := of_decide_eq_true (by first | (with_reducible assumption) | assumption)
              have hx6 := bt_at a0 x8_1
              replace p6 := eq_true p6
              replace q6 := eq_true q6
              go_wp2_with (first | ((with_reducible refine gate_callee (f := 69) rfl ?_); refine goesL_ (some 15) rfl rfl Try.func69 (by kernel_rfl) rfl #[.string a1, .int .u8 (bt a0 x8_1)] rfl (by (try simp only [List.map_toArray, List.map_cons, List.map_nil]); first | done | rfl | (simp only [List.length_drop, List.length_take]; rfl)) ?_; (with_reducible refine (strings_IndexByte.calls a1 (bt a0 x8_1) t152 _ A7.out).mono ?_); rintro e w' ⟨rfl, ⟨nd, rfl⟩⟩; refine ⟨_, rfl, ?_⟩))
              go_ret
              exact ⟨by first | rfl | (simp; done) | (simp [*]; done), by repeat (first | exact Drawn0.refl _ | apply Drawn0.step)⟩
            · rw [if_neg c8] at H
              have c8b0 : decide (t152 < 0) = false := decide_eq_false c8
              clear c8
              have H' := Aside0.mk H
              clear H
              have p6 : 0 ≤ (x8_1 : Int) := of_decide_eq_true (by first | (with_reducible assumption) | assumption)
              have q6 : x8_1 < (a0.size : Int) := of_decide_eq_true (by first | (with_reducible assumption) | assumption)
              have hx6 := bt_at a0 x8_1
              replace p6 := eq_true p6
              replace q6 := eq_true q6
              go_wp2_with (first | ((with_reducible refine gate_callee (f := 69) rfl ?_); refine goesL_ (some 15) rfl rfl Try.func69 (by kernel_rfl) rfl #[.string a1, .int .u8 (bt a0 x8_1)] rfl (by (try simp only [List.map_toArray, List.map_cons, List.map_nil]); first | done | rfl | (simp only [List.length_drop, List.length_take]; rfl)) ?_; (with_reducible refine (strings_IndexByte.calls a1 (bt a0 x8_1) t152 _ A7.out).mono ?_); rintro e w' ⟨rfl, ⟨nd, rfl⟩⟩; refine ⟨_, rfl, ?_⟩))
              go_roundg k1
              case measure => have := HK1.out; omega
              case rel => exact ⟨(wrap64 (x8_1 + 1)), (by first | rfl | (simp; done) | (simp [*]; done)), H', ⟨by have := HK1.out; omega⟩, by repeat (first | exact Drawn0.refl _ | apply Drawn0.step)⟩
          · rw [if_neg c5] at H
            exact absurd H (by simp)
        · rw [if_neg c4] at H
          exact absurd H (by simp)
      · rw [if_neg c3] at H
        have c3b0 : decide (x8_1 < (a0.size : Int)) = false := decide_eq_false c3
        clear c3
        replace H := Option.bind_eq_some_iff.mp H
        obtain ⟨t153, A90, H⟩ := H
        replace H : (some t153) = some r := H
        have A9 := Aside0.mk A90
        clear A90
        obtain rfl := Option.some.inj H
        go_wp2_with (first | ((with_reducible refine gate_callee (f := 72) rfl ?_); refine goesL_ (some 20) rfl rfl Try.func72 (by kernel_rfl) rfl #[.int .i64 (a0.size : Int), .int .i64 2, .int .i64 8] rfl (by (try simp only [List.map_toArray, List.map_cons, List.map_nil]); first | done | rfl | (simp only [List.length_drop, List.length_take]; rfl)) ?_; (with_reducible refine (impl_within.calls (a0.size : Int) 2 8 t153 _ A9.out).mono ?_); rintro e w' ⟨rfl, ⟨nd, rfl⟩⟩; refine ⟨_, rfl, ?_⟩))
        go_ret
        exact ⟨by first | rfl | (simp; done) | (simp [*]; done), by repeat (first | exact Drawn0.refl _ | apply Drawn0.step)⟩

/-! ### impl_AreWays: function 41 -/
def impl_AreWays.f (k : Nat) (a0_0 : ByteArray) (a0_1 : ByteArray) : Option (Bool) := (impl_areSigns.f k a0_0 (⟨#[101, 119]⟩ : ByteArray)).bind fun t155 => (if t155 = true then ((impl_areSigns.f k a0_1 (⟨#[110, 115]⟩ : ByteArray)).bind fun t156 => (some t156)) else (some false))
theorem impl_AreWays.mono : ∀ a0 a1 k, LeO (impl_AreWays.f k a0 a1) (impl_AreWays.f (k + 1) a0 a1) := by
  intro a0 a1 k
  unfold impl_AreWays.f
  repeat' first
      | (with_reducible exact impl_areSigns.mono _ _ _)
      | (with_reducible exact LeO.refl _)
      | (with_reducible exact LeO.none _)
      | (with_reducible refine LeO.ite ?_ ?_)
      | (with_reducible refine LeO.bind ?_ (fun _ => ?_))
      | exact impl_areSigns.mono _ _ _
      | exact LeO.none _
      | refine LeO.ite ?_ ?_
      | refine LeO.bind ?_ (fun _ => ?_)
set_option maxHeartbeats 8000000 in
set_option maxRecDepth 100000 in
theorem impl_AreWays.calls (k : Nat) (a0_0 : ByteArray) (a0_1 : ByteArray) (r : Bool) (w : World) (h : impl_AreWays.f k a0_0 a0_1 = some r) :
    Calls Try.prog 41 #[.agg #[.string a0_0, .string a0_1]] w fun e w' => e = .returned (.bool r) ∧ Below w.heap.size w w' := by
  have hu27 := Try.underlying27
  have HB := Aside0.mk (Below.refl w.heap.size w)
  have H : ((impl_areSigns.f k a0_0 (⟨#[101, 119]⟩ : ByteArray)).bind fun t155 => (if t155 = true then ((impl_areSigns.f k a0_1 (⟨#[110, 115]⟩ : ByteArray)).bind fun t156 => (some t156)) else (some false))) = some r := h
  clear h
  replace H := Option.bind_eq_some_iff.mp H
  obtain ⟨t155, A20, H⟩ := H
  replace H : (if t155 = true then ((impl_areSigns.f k a0_1 (⟨#[110, 115]⟩ : ByteArray)).bind fun t156 => (some t156)) else (some false)) = some r := H
  have A2 := Aside0.mk A20
  clear A20
  by_cases c3 : t155 = true
  · subst c3
    have H1 : ((impl_areSigns.f k a0_1 (⟨#[110, 115]⟩ : ByteArray)).bind fun t156 => (some t156)) = some r := by rw [if_pos rfl] at H; exact H
    clear H
    have H := H1
    clear H1
    replace H := Option.bind_eq_some_iff.mp H
    obtain ⟨t156, A40, H⟩ := H
    replace H : (some t156) = some r := H
    have A4 := Aside0.mk A40
    clear A40
    obtain rfl := Option.some.inj H
    go_enter Try.func41, Try.ntmps41
    go_wp2_with (first | ((with_reducible refine gate_dst (N := 1) rfl ?_); refine box_event ?hg (N := 1) ?hd (cs := #[.string a0_0, .string a0_1]) (t := 27) ?hr ?_; (case hd => rfl); (case hg => rfl); (case hr => first | (go_simp; done) | (go_simp; rfl)); intro gb154 hg w5 hbox hb; have n0_ := Aside0.mk (below_step (by repeat (first | (with_reducible first | exact HB.out | apply below_alloc | apply pw_below_drewN | apply below_drew1) | exact HB.out)) hb); have n1_ := Aside0.mk (hbox); have n2_ := Aside0.mk ((by rw [hg]; exact (below_size (by repeat (first | (with_reducible first | exact HB.out | apply below_alloc | apply pw_below_drewN | apply below_drew1) | exact HB.out))) : w.heap.size ≤ gb154)); have n3_ := Aside0.mk ((by rw [hg]; exact (below_size (by repeat (first | (with_reducible first | exact HB.out | apply below_alloc | apply pw_below_drewN | apply below_drew1) | exact HB.out))) : w.heap.size ≤ gb154)); clear HB; have HB := n0_; have BK154 := n1_; have GW154 := n2_; have GE154 := n3_; clear n0_ n1_ n2_ n3_; clear hb hbox hg; have hcz6_0 : w5.cell? ⟨gb154, 0, none⟩ = some (.string a0_0) := (blk_cell BK154.out 0).trans rfl; have hcz6_1 : w5.cell? ⟨gb154, 1, none⟩ = some (.string a0_1) := (blk_cell BK154.out 1).trans rfl; have hfz6_0 := blk_frozen BK154.out 0; have hfz6_1 := blk_frozen BK154.out 1) | ((with_reducible refine gate_callee (f := 65) rfl ?_); refine goesL_ (some 5) rfl rfl Try.func65 (by kernel_rfl) rfl #[.string a0_0, .string (⟨#[101, 119]⟩ : ByteArray)] rfl (by (try simp only [List.map_toArray, List.map_cons, List.map_nil]); first | done | rfl | (simp only [List.length_drop, List.length_take]; rfl)) ?_; (with_reducible refine (impl_areSigns.calls k a0_0 (⟨#[101, 119]⟩ : ByteArray) true _ A2.out).mono ?_); rintro e w' ⟨rfl, ⟨nd, rfl⟩⟩; refine ⟨_, rfl, ?_⟩) | (go_at_call 65; (with_reducible refine (impl_areSigns.calls k a0_1 (⟨#[110, 115]⟩ : ByteArray) t156 _ A4.out).mono ?_); rintro e w' ⟨rfl, ⟨nd, rfl⟩⟩))
    go_ret
    exact ⟨by first | rfl | (simp [errW_none, errW_some] <;> rfl) | (simp [*, errW_none, errW_some] <;> rfl), by repeat (first | (with_reducible first | exact HB.out | apply below_alloc | apply pw_below_drewN | apply below_drew1 | refine below_set ?_ GE154.out) | exact HB.out)⟩
  · replace c3 := Bool.eq_false_iff.mpr c3
    subst c3
    have H1 : (some false) = some r := by rw [if_neg (show ¬ (false = true) by decide)] at H; exact H
    clear H
    have H := H1
    clear H1
    obtain rfl := Option.some.inj H
    go_enter Try.func41, Try.ntmps41
    go_wp2_with (first | ((with_reducible refine gate_dst (N := 1) rfl ?_); refine box_event ?hg (N := 1) ?hd (cs := #[.string a0_0, .string a0_1]) (t := 27) ?hr ?_; (case hd => rfl); (case hg => rfl); (case hr => first | (go_simp; done) | (go_simp; rfl)); intro gb154 hg w7 hbox hb; have n0_ := Aside0.mk (below_step (by repeat (first | (with_reducible first | exact HB.out | apply below_alloc | apply pw_below_drewN | apply below_drew1) | exact HB.out)) hb); have n1_ := Aside0.mk (hbox); have n2_ := Aside0.mk ((by rw [hg]; exact (below_size (by repeat (first | (with_reducible first | exact HB.out | apply below_alloc | apply pw_below_drewN | apply below_drew1) | exact HB.out))) : w.heap.size ≤ gb154)); have n3_ := Aside0.mk ((by rw [hg]; exact (below_size (by repeat (first | (with_reducible first | exact HB.out | apply below_alloc | apply pw_below_drewN | apply below_drew1) | exact HB.out))) : w.heap.size ≤ gb154)); clear HB; have HB := n0_; have BK154 := n1_; have GW154 := n2_; have GE154 := n3_; clear n0_ n1_ n2_ n3_; clear hb hbox hg; have hcz8_0 : w7.cell? ⟨gb154, 0, none⟩ = some (.string a0_0) := (blk_cell BK154.out 0).trans rfl; have hcz8_1 : w7.cell? ⟨gb154, 1, none⟩ = some (.string a0_1) := (blk_cell BK154.out 1).trans rfl; have hfz8_0 := blk_frozen BK154.out 0; have hfz8_1 := blk_frozen BK154.out 1) | ((with_reducible refine gate_callee (f := 65) rfl ?_); refine goesL_ (some 5) rfl rfl Try.func65 (by kernel_rfl) rfl #[.string a0_0, .string (⟨#[101, 119]⟩ : ByteArray)] rfl (by (try simp only [List.map_toArray, List.map_cons, List.map_nil]); first | done | rfl | (simp only [List.length_drop, List.length_take]; rfl)) ?_; (with_reducible refine (impl_areSigns.calls k a0_0 (⟨#[101, 119]⟩ : ByteArray) false _ A2.out).mono ?_); rintro e w' ⟨rfl, ⟨nd, rfl⟩⟩; refine ⟨_, rfl, ?_⟩))
    go_ret
    exact ⟨by first | rfl | (simp [errW_none, errW_some] <;> rfl) | (simp [*, errW_none, errW_some] <;> rfl), by repeat (first | (with_reducible first | exact HB.out | apply below_alloc | apply pw_below_drewN | apply below_drew1 | refine below_set ?_ GE154.out) | exact HB.out)⟩

end Go.Proofs.Ytopbmiedlpkmjaa.MK
