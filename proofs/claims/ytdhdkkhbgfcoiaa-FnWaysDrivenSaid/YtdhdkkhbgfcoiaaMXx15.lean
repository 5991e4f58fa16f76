-- The machine side, written by this repo's program mp.py; contracts marked as of this repo are this session's own.
import Derived.Test.YtdhdkkhbgfcoiaaMXx0
import Derived.Test.YtdhdkkhbgfcoiaaMXx4
import Derived.Test.YtdhdkkhbgfcoiaaMXx5
import Derived.Test.YtdhdkkhbgfcoiaaMXx6
import Derived.Test.YtdhdkkhbgfcoiaaMXx7
import Derived.Test.YtdhdkkhbgfcoiaaMXx9
import Derived.Test.YtdhdkkhbgfcoiaaMXx10
import Derived.Test.YtdhdkkhbgfcoiaaMXx11
import Derived.Test.YtdhdkkhbgfcoiaaMXx14
namespace Go.Proofs.Ytdhdkkhbgfcoiaa.MX
open Go.RowKit Go.Proofs.YtdhdkkhbgfcoiaaW.PrintWords Go.Proofs.YtdhdkkhbgfcoiaaW.PrintLast Go.Proofs.YtdhdkkhbgfcoiaaW.PrintMore
attribute [local go_sem] max2_int min2_int max_two min_two max_three min_three max_four min_four   -- for this text's walks alone
set_option maxHeartbeats 16000000
set_option maxRecDepth 100000
set_option linter.unusedVariables false
set_option linter.unusedSimpArgs false
def spec_FewestTurns.rounds (s t : ByteArray) (N goal : Nat) : Nat → Nat → (Nat → Bool) → (Nat → Bool) → Option Int
 | 0, _, _, _ => none
 | k + 1, n, al, ac => if n ≤ 1000 then (spec_owRun.all s t s true N k al).bind fun al' => (spec_owRun.all s t t false N k ac).bind fun ac' => if (al' goal || ac' goal) = true then some (n : Int) else spec_FewestTurns.rounds s t N goal k (n + 1) (fun i => al' i || ac' i) (fun i => al' i || ac' i) else none
def spec_FewestTurns.at_ (s : ByteArray) (l : List Int) : Nat := (rd l 0).toNat * s.size + (rd l 1).toNat
def spec_FewestTurns.core (k : Nat) (s t : ByteArray) (ca cb : Nat) : Option (Int × Bool) := if ca = cb then some (0, true) else (spec_FewestTurns.rounds s t (s.size * t.size) cb k 0 (fun i => if i = ca then true else false) (fun i => if i = ca then true else false)).bind fun v => some (v, true)
def spec_FewestTurns.Ok (s t : ByteArray) (l1 l2 : List Int) : Prop := (impl_driveIn.Sized s t ∧ l1.length = 2 ∧ impl_driveIn.At s t (rd l1 0) (rd l1 1)) ∧ l2.length = 2 ∧ impl_driveIn.At s t (rd l2 0) (rd l2 1)
instance (s t : ByteArray) (l1 l2 : List Int) : Decidable (spec_FewestTurns.Ok s t l1 l2) := by unfold spec_FewestTurns.Ok impl_driveIn.Sized impl_driveIn.At; exact inferInstance
def spec_FewestTurns.f (k : Nat) (s t : ByteArray) (l1 l2 : List Int) : Option (Int × Bool) := (spec_owAsked.f k s t l1 l2).bind fun b => if b = true then ((spec_owDistance.f k s t l1 l2).bind fun D => if D < 0 then some (0, false) else if spec_FewestTurns.Ok s t l1 l2 then spec_FewestTurns.core k s t (spec_FewestTurns.at_ s l1) (spec_FewestTurns.at_ s l2) else none) else some (0, false)
def spec_FewestTurns.St (w0 wr : World) (g1 g2 N : Nat) (al ac : Nat → Bool) : Prop := (spec_owRun.Blk wr g1 N al ∧ spec_owRun.Blk wr g2 N ac) ∧ Below w0.heap.size w0 wr ∧ w0.heap.size ≤ g1 ∧ w0.heap.size ≤ g2 ∧ g1 ≠ g2
theorem spec_FewestTurns.St.below {w0 wr w' : World} {g1 g2 N : Nat} {al ac : Nat → Bool} (h : spec_FewestTurns.St w0 wr g1 g2 N al ac) (hb : Below wr.heap.size wr w') : spec_FewestTurns.St w0 w' g1 g2 N al ac :=
 ⟨⟨h.1.1.below hb, h.1.2.below hb⟩, below_then h.2.1 h.2.1.size hb, h.2.2⟩
theorem spec_FewestTurns.St.one {w0 wr w' : World} {g1 g2 N : Nat} {al ac al' : Nat → Bool} (h : spec_FewestTurns.St w0 wr g1 g2 N al ac) (hk : spec_owRun.Blk w' g1 N al') (hb : spec_owRun.But wr w' g1) : spec_FewestTurns.St w0 w' g1 g2 N al' ac :=
 ⟨⟨hk, h.1.2.move (hb.1.2 g2 h.1.2.lt (fun e => h.2.2.2.2 e.symm))⟩, hb.kept h.2.1 h.2.2.1 (Nat.le_refl _), h.2.2⟩
theorem spec_FewestTurns.St.two {w0 wr w' : World} {g1 g2 N : Nat} {al ac ac' : Nat → Bool} (h : spec_FewestTurns.St w0 wr g1 g2 N al ac) (hk : spec_owRun.Blk w' g2 N ac') (hb : spec_owRun.But wr w' g2) : spec_FewestTurns.St w0 w' g1 g2 N al ac' :=
 ⟨⟨h.1.1.move (hb.1.2 g1 h.1.1.lt h.2.2.2.2), hk⟩, hb.kept h.2.1 h.2.2.2.1 (Nat.le_refl _), h.2.2⟩
theorem spec_FewestTurns.St.set1 {w0 wr : World} {g1 g2 N : Nat} {al ac : Nat → Bool} (h : spec_FewestTurns.St w0 wr g1 g2 N al ac) (i : Nat) (hi : i < N) (v : Bool) : spec_FewestTurns.St w0 (wr.setCell ⟨g1, i, none⟩ (.bool v)) g1 g2 N (fun j => if j = i then v else al j) ac :=
 ⟨⟨h.1.1.set i hi v, h.1.2.move (Below.heap_setCell wr ⟨g1, i, none⟩ _ _ (fun e => h.2.2.2.2 e.symm))⟩, h.2.1.setCell (p := ⟨g1, i, none⟩) h.2.2.1 (.bool v), h.2.2⟩
theorem spec_FewestTurns.St.set2 {w0 wr : World} {g1 g2 N : Nat} {al ac : Nat → Bool} (h : spec_FewestTurns.St w0 wr g1 g2 N al ac) (i : Nat) (hi : i < N) (v : Bool) : spec_FewestTurns.St w0 (wr.setCell ⟨g2, i, none⟩ (.bool v)) g1 g2 N al (fun j => if j = i then v else ac j) :=
 ⟨⟨h.1.1.move (Below.heap_setCell wr ⟨g2, i, none⟩ _ _ h.2.2.2.2), h.1.2.set i hi v⟩, h.2.1.setCell (p := ⟨g2, i, none⟩) h.2.2.2.1 (.bool v), h.2.2⟩
theorem spec_FewestTurns.St.ext {w0 wr : World} {g1 g2 N : Nat} {al ac al' ac' : Nat → Bool} (h : spec_FewestTurns.St w0 wr g1 g2 N al ac) (h1 : ∀ i, i < N → al i = al' i) (h2 : ∀ i, i < N → ac i = ac' i) : spec_FewestTurns.St w0 wr g1 g2 N al' ac' :=
 ⟨⟨h.1.1.ext h1, h.1.2.ext h2⟩, h.2⟩
theorem spec_FewestTurns.calls (k : Nat) (a0_0 : ByteArray) (a0_1 : ByteArray) (A1 : Option Addr) (c1 : Nat) (l1 : List Int) (A2 : Option Addr) (c2 : Nat) (l2 : List Int) (r1 : Int) (r2 : Bool) (w : World) (hr1 : Kd.C (Kd.int .i64) w A1 l1.length l1) (hc1 : l1.length ≤ c1) (hr2 : Kd.C (Kd.int .i64) w A2 l2.length l2) (hc2 : l2.length ≤ c2) (h : spec_FewestTurns.f k a0_0 a0_1 l1 l2 = some (r1, r2)) :
  Calls Try.prog 13 #[.agg #[.string a0_0, .string a0_1], .slice A1 l1.length c1, .slice A2 l2.length c2] w fun e w' => e = .returned (.tuple #[.int .i64 r1, .bool r2]) ∧ Below w.heap.size w w' := by
 unfold spec_FewestTurns.f at h
 obtain ⟨b, hb, h⟩ := Option.bind_eq_some_iff.1 h
 obtain ⟨wb, hwb⟩ : ∃ wb : World, w.alloc (.cells #[.string a0_0, .string a0_1] 25) = wb := ⟨_, rfl⟩
 have HBX := am (show wb.heap[w.heap.size]? = some (.cells #[.string a0_0, .string a0_1] 25 (0, 0)) by rw [← hwb]; exact heap_alloc_new _ _)
 have HB := am (show Below w.heap.size w wb by rw [← hwb]; exact below_alloc (Below.refl _ _) _)
 have HR1 := am (Kd.C_below hr1 HB.out)
 have HR2 := am (Kd.C_below hr2 HB.out)
 have hp0 : wb.cell? ⟨w.heap.size, 0, none⟩ = some (.string a0_0) := (blk_cell HBX.out 0).trans rfl
 have hp1 : wb.cell? ⟨w.heap.size, 1, none⟩ = some (.string a0_1) := (blk_cell HBX.out 1).trans rfl
 have HAs := am (fun (W : World) (h1 : Kd.C (Kd.int .i64) W A1 l1.length l1) (h2 : Kd.C (Kd.int .i64) W A2 l2.length l2) => spec_owAsked.calls k a0_0 a0_1 A1 c1 l1 A2 c2 l2 b W h1 hc1 h2 hc2 hb)
 clear hr1 hr2
 cases b with
 | false =>
  rw [if_neg (by simp)] at h
  simp only [Option.some.injEq, Prod.mk.injEq] at h
  obtain ⟨rfl, rfl⟩ := h
  go_enter Try.func13, Try.ntmps13
  go_wp2_with (go_at_call 33; refine (HAs.out _ HR1.out HR2.out).mono ?_; rintro e w1 ⟨rfl, hb1⟩; have HB1 := am (below_then HB.out HB.out.size hb1); clear hb1)
  go_ret2
  exact ⟨rfl, HB1.out⟩
 | true =>
  rw [if_pos rfl] at h
  obtain ⟨D, hD, h⟩ := Option.bind_eq_some_iff.1 h
  have HDs := am (fun (W : World) (h1 : Kd.C (Kd.int .i64) W A1 l1.length l1) (h2 : Kd.C (Kd.int .i64) W A2 l2.length l2) => spec_owDistance.calls k a0_0 a0_1 A1 c1 l1 A2 c2 l2 D W h1 hc1 h2 hc2 hD)
  by_cases q : D < 0
  ·rw [if_pos q] at h
   simp only [Option.some.injEq, Prod.mk.injEq] at h
   obtain ⟨rfl, rfl⟩ := h
   have qb : decide (D < 0) = true := decide_eq_true q
   clear hD q
   go_enter Try.func13, Try.ntmps13
   go_wp2_with (first | (go_at_call 33; refine (HAs.out _ HR1.out HR2.out).mono ?_; rintro e w1 ⟨rfl, hb1⟩; have HB1 := am (below_then HB.out HB.out.size hb1); have HR11 := am (Kd.C_below HR1.out hb1); have HR21 := am (Kd.C_below HR2.out hb1); have hp0 := pw_cell_below hb1 hp0; have hp1 := pw_cell_below hb1 hp1; clear hb1) | (go_at_call 34; refine (HDs.out _ HR11.out HR21.out).mono ?_; rintro e w2 ⟨rfl, hb2⟩; have HB2 := am (below_then HB1.out HB1.out.size hb2); clear hb2))
   go_ret2
   exact ⟨rfl, HB2.out⟩
  ·rw [if_neg q] at h
   by_cases c : spec_FewestTurns.Ok a0_0 a0_1 l1 l2
   case neg => rw [if_neg c] at h; cases h
   rw [if_pos c] at h
   obtain ⟨⟨⟨⟨t1, t8⟩, s1, s8⟩, hl, ⟨x0, x1⟩, y0, y1⟩, hl2, ⟨u0, u1⟩, v0, v1⟩ := c
   have qb : decide (D < 0) = false := decide_eq_false q
   have HSz := am (And.intro (show 1 ≤ a0_0.size ∧ a0_0.size ≤ 8 from ⟨s1, s8⟩) (show 1 ≤ a0_1.size ∧ a0_1.size ≤ 8 from ⟨t1, t8⟩))
   obtain ⟨ad, rfl, hx0, hx1⟩ := spec_owDistance.two hl HR1.out
   obtain ⟨bd, rfl, hy0, hy1⟩ := spec_owDistance.two hl2 HR2.out
   unfold spec_FewestTurns.at_ at h
   obtain ⟨x, hx⟩ := Int.eq_ofNat_of_zero_le x0
   obtain ⟨y, hy⟩ := Int.eq_ofNat_of_zero_le y0
   obtain ⟨bx, hbx⟩ := Int.eq_ofNat_of_zero_le u0
   obtain ⟨bY, hbY⟩ := Int.eq_ofNat_of_zero_le v0
   rw [hx] at hx0 x1 h
   rw [hy] at hx1 y1 h
   rw [hbx] at hy0 u1 h
   rw [hbY] at hy1 v1 h
   simp only [Int.toNat_natCast] at h
   have hxt : x < a0_1.size := by omega
   have hys : y < a0_0.size := by omega
   have hbxt : bx < a0_1.size := by omega
   have hbYs : bY < a0_0.size := by omega
   obtain ⟨N, hN⟩ : ∃ N, N = a0_0.size * a0_1.size := ⟨_, rfl⟩
   have hNe : a0_1.size * a0_0.size = N := by rw [hN, Nat.mul_comm]
   have hN0 : 0 < N := by rw [← hNe]; exact Nat.mul_pos (by omega) (by omega)
   have hN64 : N ≤ 64 := by rw [← hNe]; exact Nat.le_trans (Nat.mul_le_mul t8 s8) (by decide)
   obtain ⟨ca, hca⟩ : ∃ ca, ca = x * a0_0.size + y := ⟨_, rfl⟩
   obtain ⟨cb, hcb⟩ : ∃ cb, cb = bx * a0_0.size + bY := ⟨_, rfl⟩
   rw [← hca, ← hcb] at h
   unfold spec_FewestTurns.core at h
   rw [← hN] at h
   have hcaN : ca < N := by rw [hca, ← hNe]; exact spec_owFar.cd_lt _ _ _ _ hxt hys
   have hcbN : cb < N := by rw [hcb, ← hNe]; exact spec_owFar.cd_lt _ _ _ _ hbxt hbYs
   obtain ⟨ma, hma⟩ : ∃ ma, ma = x * a0_0.size := ⟨_, rfl⟩
   obtain ⟨mb, hmb⟩ : ∃ mb, mb = bx * a0_0.size := ⟨_, rfl⟩
   have e1 : IntKind.i64.wrap ((x : Int) * (a0_0.size : Int)) = (ma : Int) := by rw [i64_w, ← Int.natCast_mul, ← hma, Go.Proofs.Ytdhdkkhbgfcoiaa.Lib.w64] <;> omega
   have e2 : IntKind.i64.wrap ((ma : Int) + (y : Int)) = (ca : Int) := by rw [i64_w, Go.Proofs.Ytdhdkkhbgfcoiaa.Lib.w64] <;> omega
   have e3 : IntKind.i64.wrap ((bx : Int) * (a0_0.size : Int)) = (mb : Int) := by rw [i64_w, ← Int.natCast_mul, ← hmb, Go.Proofs.Ytdhdkkhbgfcoiaa.Lib.w64] <;> omega
   have e4 : IntKind.i64.wrap ((mb : Int) + (bY : Int)) = (cb : Int) := by rw [i64_w, Go.Proofs.Ytdhdkkhbgfcoiaa.Lib.w64] <;> omega
   have e5 : IntKind.i64.wrap ((a0_0.size : Int) * (a0_1.size : Int)) = (N : Int) := by rw [i64_w, ← Int.natCast_mul, ← hN, Go.Proofs.Ytdhdkkhbgfcoiaa.Lib.w64] <;> omega
   have e6 : wrap64 ((a0_0.size : Int) * (a0_1.size : Int)) = (N : Int) := by rw [← i64_w]; exact e5
   have HE := am (And.intro (And.intro e1 e2) (And.intro e3 e4))
   have HE5 := am (And.intro e5 e6)
   have HX := am (And.intro (And.intro hx0 hx1) (And.intro hy0 hy1))
   have HNN := am hN
   have H := am h
   rw [hl] at HAs HDs HR1 ⊢
   rw [hl2] at HAs HDs HR2 ⊢
   clear hD q hl hl2 hx hy hbx hbY x0 y0 u0 v0 hx0 hx1 hy0 hy1 x1 y1 u1 v1 hb hca hcb hma hmb e1 e2 e3 e4 e5 e6 hNe h hN t1 t8 s1 s8
   go_enter Try.func13, Try.ntmps13
   go_wp2_with (first | (go_at_call 33; refine (HAs.out _ HR1.out HR2.out).mono ?_; rintro e w1 ⟨rfl, hb1⟩; have HB1 := am hb1; have HR11 := am (Kd.C_below HR1.out hb1); have HR21 := am (Kd.C_below HR2.out hb1); have hp0 := pw_cell_below hb1 hp0; have hp1 := pw_cell_below hb1 hp1; clear hb1) | (go_at_call 34; refine (HDs.out _ HR11.out HR21.out).mono ?_; rintro e w2 ⟨rfl, hb2⟩; have HB2 := am (below_then HB1.out HB1.out.size hb2); have hp0 := pw_cell_below hb2 hp0; have hp1 := pw_cell_below hb2 hp1; clear hb2))
   clear qb
   have HSt := am (show ∀ W : World, Below wb.heap.size wb W → ((W.cell? ad = some (.int .i64 x) ∧ W.cell? { block := ad.block, off := ad.off + 1 } = some (.int .i64 y)) ∧ (W.cell? bd = some (.int .i64 bx) ∧ W.cell? { block := bd.block, off := bd.off + 1 } = some (.int .i64 bY))) ∧ W.cell? ⟨w.heap.size, 0, none⟩ = some (.string a0_0) ∧ W.cell? ⟨w.heap.size, 1, none⟩ = some (.string a0_1) from fun W hW => ⟨⟨⟨(hW.cell (World.block_lt_of_cell? _ _ HX.out.1.1)).trans HX.out.1.1, (hW.cell (World.block_lt_of_cell? _ _ HX.out.1.2)).trans HX.out.1.2⟩, (hW.cell (World.block_lt_of_cell? _ _ HX.out.2.1)).trans HX.out.2.1, (hW.cell (World.block_lt_of_cell? _ _ HX.out.2.2)).trans HX.out.2.2⟩, (blk_cell ((hW.block _ (Array.getElem?_eq_some_iff.1 HBX.out).1).trans HBX.out) 0).trans rfl, (blk_cell ((hW.block _ (Array.getElem?_eq_some_iff.1 HBX.out).1).trans HBX.out) 1).trans rfl⟩)
   clear hp0 hp1 HAs HDs HR1 HR2 HR11 HR21 HB1
   obtain ⟨⟨-, hy0, hy1⟩, -⟩ := HSt.out _ HB2.out
   obtain ⟨-, e3, e4⟩ := HE.out
   go_quiet (fail)
   clear hy0 hy1 e3 e4
   obtain ⟨w3, hw3⟩ : ∃ w3 : World, w3 = w2.drewN nq := ⟨_, rfl⟩
   have HB3 := am (show Below wb.heap.size wb w3 by rw [hw3]; exact pw_below_drewN HB2.out _)
   rw [← hw3]
   clear hw3 HB2
   go_wp2
   obtain ⟨⟨⟨hx0, hx1⟩, -⟩, -⟩ := HSt.out _ HB3.out
   obtain ⟨⟨e1, e2⟩, -⟩ := HE.out
   have h := H.out
   clear H
   by_cases qe : ca = cb
   ·rw [if_pos qe] at h
    obtain ⟨rfl, rfl⟩ := Prod.mk.inj (Option.some.inj h)
    have qb : ((ca : Int) == (cb : Int)) = true := by rw [qe]; simp
    clear h qe
    go_quiet (fail)
    go_wp2
    refine bodyPost_ret (results_list (rs := [.tmp 6, .tmp 7]) rfl (by simp) (.tmp (.tmp .nil))) rfl ?_
    exact ⟨rfl, below_then HB.out HB.out.size (pw_below_drewN HB3.out _)⟩
   ·rw [if_neg qe] at h
    have qb : ((ca : Int) == (cb : Int)) = false := beq_eq_false_iff_ne.2 (by omega)
    obtain ⟨v, hv, h⟩ := Option.bind_eq_some_iff.1 h
    obtain ⟨rfl, rfl⟩ := Prod.mk.inj (Option.some.inj h)
    have HV := am hv
    clear h qe hv
    go_quiet (fail)
    clear hx0 hx1 e1 e2
    obtain ⟨w4, hw4⟩ : ∃ w4 : World, w4 = w3.drewN nq := ⟨_, rfl⟩
    have HB4 := am (show Below wb.heap.size wb w4 by rw [hw4]; exact pw_below_drewN HB3.out _)
    rw [← hw4]
    clear hw4 HB3
    obtain ⟨-, hp0, hp1⟩ := HSt.out _ HB4.out
    obtain ⟨i0, hi, hz0, hz1, hz2⟩ := info_parts (show (Try.prog.info? 4).map (fun i => (i.zero, i.size, i.bytes)) = some (some (.bool false), 1, 1) from by kernel_rfl)
    have hmk := fun W : World => run_makeSlice (P := Try.prog) (w := W) 59 4 i0 (.bool false) Try.underlying59 hi hz0 .i64 .i64 (N : Int) (N : Int) (by omega) (Int.le_refl _) (by rw [hz1]; omega) (by rw [hz2]; omega) (by omega)
    simp only [Int.toNat_natCast, hz1, Nat.mul_one] at hmk
    obtain ⟨e5, e6⟩ := HE5.out
    clear hi hz0 hz1 hz2
    go_wp2
    clear hmk hp0 hp1 e5 e6 qb
    obtain ⟨w5, hw5⟩ : ∃ w5 : World, w5 = w4.alloc (.cells (madeCells #[Value.bool false] N) 4) := ⟨_, rfl⟩
    have hz5 : spec_owRun.Blk w5 w4.heap.size N (fun _ => false) := by rw [hw5]; exact spec_owRun.Blk.zero w4 N
    have hb5 : Below w4.heap.size w4 w5 := by rw [hw5]; exact below_alloc (Below.refl _ _) _
    try rw [← hw5]
    have hs5 : w5.heap.size = w4.heap.size + 1 := by rw [hw5]; simp
    obtain ⟨w6, hw6⟩ : ∃ w6 : World, w6 = w5.alloc (.cells (madeCells #[Value.bool false] N) 4) := ⟨_, rfl⟩
    have hz6 : spec_owRun.Blk w6 w5.heap.size N (fun _ => false) := by rw [hw6]; exact spec_owRun.Blk.zero w5 N
    have hb6 : Below w5.heap.size w5 w6 := by rw [hw6]; exact below_alloc (Below.refl _ _) _
    try rw [← hw6]
    have HS6 := am (show spec_FewestTurns.St wb w6 w4.heap.size w5.heap.size N (fun _ => false) (fun _ => false) from ⟨⟨hz5.below hb6, hz6⟩, below_then (below_then HB4.out HB4.out.size hb5) (Nat.le_trans HB4.out.size hb5.size) hb6, HB4.out.size, by have := HB4.out.size; omega, by omega⟩)
    have HG5 := am hs5
    clear hz5 hb5 hs5 hw5 hz6 hb6 hw6 HB4
    try simp only [← HG5.out]
    obtain ⟨g1, hg1⟩ : ∃ g1, g1 = w4.heap.size := ⟨_, rfl⟩
    obtain ⟨g2, hg2⟩ : ∃ g2, g2 = w5.heap.size := ⟨_, rfl⟩
    rw [← hg1, ← hg2] at HS6
    try rw [← hg1]
    try rw [← hg2]
    clear HG5 hg1 hg2
    obtain ⟨⟨⟨hx0, hx1⟩, -⟩, -⟩ := HSt.out _ HS6.out.2.1
    obtain ⟨⟨e1, e2⟩, -⟩ := HE.out
    go_quiet (fail)
    clear hx0 hx1 e1 e2
    obtain ⟨w7, hw7⟩ : ∃ w7 : World, w7 = w6.drewN nq := ⟨_, rfl⟩
    have HS7 := am (show spec_FewestTurns.St wb w7 g1 g2 N (fun _ => false) (fun _ => false) by rw [hw7]; exact HS6.out.below (pw_below_drewN (Below.refl _ _) _))
    rw [← hw7]
    clear hw7 HS6
    have hc7 := HS7.out.1.1.cell ca hcaN
    have hf7 := HS7.out.1.1.free ca
    have HS8 := am (HS7.out.set1 ca hcaN true)
    have hc8 := HS8.out.1.2.cell ca hcaN
    have hf8 := HS8.out.1.2.free ca
    have HS9 := am (HS8.out.set2 ca hcaN true)
    go_wp2
    clear hc7 hf7 hc8 hf8 HS7 HS8
    go_loopg [14] k (fun kq nv wr => ∃ (n : Nat) (al ac : Nat → Bool), nv = .int .i64 n ∧ Aside0 (spec_FewestTurns.rounds a0_0 a0_1 N cb kq n al ac = some v) ∧ Aside0 (kq ≤ k) ∧ Aside0 (spec_FewestTurns.St wb wr g1 g2 N al ac))
    case atStart => exact ⟨0, _, _, rfl, HV, ⟨Nat.le_refl _⟩, HS9⟩
    case round =>
     clear HV HS9
     obtain ⟨n, al, ac, rfl, HV, HK, HS⟩ := hrel
     cases gk with
     | zero => exact absurd HV.out (by simp [spec_FewestTurns.rounds])
     | succ k1 =>
      have h := HV.out
      simp only [spec_FewestTurns.rounds] at h
      by_cases hn1 : n ≤ 1000
      case neg => rw [if_neg hn1] at h; cases h
      rw [if_pos hn1] at h
      obtain ⟨al', hal, h⟩ := Option.bind_eq_some_iff.1 h
      obtain ⟨ac', hac, h⟩ := Option.bind_eq_some_iff.1 h
      have HH := am h
      have HRA := am (show ∀ W : World, spec_owRun.Blk W g1 N al → Calls Try.prog 40 #[.agg #[.string a0_0, .string a0_1], .slice (some ⟨g1, 0, none⟩) N N, .string a0_0, .bool true] W (fun e w' => e = .returned (.tuple #[]) ∧ spec_owRun.Blk w' g1 N al' ∧ spec_owRun.But W w' g1) from fun W hb => by
       have z := HNN.out
       subst z
       exact spec_owRun.walk k1 a0_0 a0_1 a0_0 true HSz.out.1 HSz.out.2 rfl g1 al al' W hb hal)
      have HRC := am (show ∀ W : World, spec_owRun.Blk W g2 N ac → Calls Try.prog 40 #[.agg #[.string a0_0, .string a0_1], .slice (some ⟨g2, 0, none⟩) N N, .string a0_1, .bool false] W (fun e w' => e = .returned (.tuple #[]) ∧ spec_owRun.Blk w' g2 N ac' ∧ spec_owRun.But W w' g2) from fun W hb => by
       have z := HNN.out
       subst z
       exact spec_owRun.walk k1 a0_0 a0_1 a0_1 false HSz.out.1 HSz.out.2 rfl g2 ac ac' W hb hac)
      clear h hal hac HV
      obtain ⟨-, hp0, hp1⟩ := HSt.out _ HS.out.2.1
      cases hA : al' cb with
      | true =>
       have h := HH.out
       rw [hA, Bool.true_or, if_pos rfl] at h
       obtain rfl := Option.some.inj h
       clear h HH
       go_wp2_with (first | (go_at_call 40; refine (HRA.out _ HS.out.1.1).mono ?_; rintro e w1 ⟨rfl, hk1, hb1⟩; have HS1 := am (HS.out.one hk1 hb1); have hp0 := (HSt.out _ HS1.out.2.1).2.1; have hp1 := (HSt.out _ HS1.out.2.1).2.2; clear hk1 hb1 HRA) | (go_at_call 40; refine (HRC.out _ HS1.out.1.2).mono ?_; rintro e w2 ⟨rfl, hk2, hb2⟩; have HS2 := am (HS1.out.two hk2 hb2); have hA1 := HS2.out.1.1.cell cb hcbN; rw [hA] at hA1; clear hk2 hb2 HRC))
       refine bodyPost_ret (results_list (rs := [.tmp 6, .tmp 7]) rfl (by simp) (.tmp (.tmp .nil))) rfl ?_
       exact ⟨rfl, below_then HB.out HB.out.size HS2.out.2.1⟩
      | false =>
       cases hC : ac' cb with
       | true =>
        have h := HH.out
        rw [hA, hC, Bool.false_or, if_pos rfl] at h
        obtain rfl := Option.some.inj h
        clear h HH
        go_wp2_with (first | (go_at_call 40; refine (HRA.out _ HS.out.1.1).mono ?_; rintro e w1 ⟨rfl, hk1, hb1⟩; have HS1 := am (HS.out.one hk1 hb1); have hp0 := (HSt.out _ HS1.out.2.1).2.1; have hp1 := (HSt.out _ HS1.out.2.1).2.2; clear hk1 hb1 HRA) | (go_at_call 40; refine (HRC.out _ HS1.out.1.2).mono ?_; rintro e w2 ⟨rfl, hk2, hb2⟩; have HS2 := am (HS1.out.two hk2 hb2); have hA1 := HS2.out.1.1.cell cb hcbN; rw [hA] at hA1; have hC1 := HS2.out.1.2.cell cb hcbN; rw [hC] at hC1; clear hk2 hb2 HRC))
        refine bodyPost_ret (results_list (rs := [.tmp 6, .tmp 7]) rfl (by simp) (.tmp (.tmp .nil))) rfl ?_
        exact ⟨rfl, below_then HB.out HB.out.size HS2.out.2.1⟩
       | false =>
        have h := HH.out
        rw [hA, hC, Bool.false_or, if_neg (by simp)] at h
        have HR := am h
        have ew : IntKind.i64.wrap ((n : Int) + 1) = ((n + 1 : Nat) : Int) := by rw [i64_w, Go.Proofs.Ytdhdkkhbgfcoiaa.Lib.w64] <;> omega
        have HEW := am ew
        clear h HH ew
        go_wp2_with (first | (go_at_call 40; refine (HRA.out _ HS.out.1.1).mono ?_; rintro e w1 ⟨rfl, hk1, hb1⟩; have HS1 := am (HS.out.one hk1 hb1); have hp0 := (HSt.out _ HS1.out.2.1).2.1; have hp1 := (HSt.out _ HS1.out.2.1).2.2; clear hk1 hb1 HRA) | (go_at_call 40; refine (HRC.out _ HS1.out.1.2).mono ?_; rintro e w2 ⟨rfl, hk2, hb2⟩; have HS2 := am (HS1.out.two hk2 hb2); have hA1 := HS2.out.1.1.cell cb hcbN; rw [hA] at hA1; have hC1 := HS2.out.1.2.cell cb hcbN; rw [hC] at hC1; clear hk2 hb2 HRC))
        clear hA1 hC1 hp0 hp1 hA hC
        go_loopw [101] (fun iv wr => ∃ (i : Nat) (cl cc : Nat → Bool), iv = .int .i64 i ∧ i ≤ N ∧ Aside0 ((∀ j, cl j = if j < i then (al' j || ac' j) else al' j) ∧ ∀ j, cc j = if j < i then (al' j || ac' j) else ac' j) ∧ Aside0 (spec_FewestTurns.St wb wr g1 g2 N cl cc)) (fun iv _ => N - (intOf iv).toNat)
        case atStart => exact ⟨0, al', ac', rfl, by omega, ⟨⟨fun j => by rw [if_neg (by omega)], fun j => by rw [if_neg (by omega)]⟩⟩, HS2⟩
        case round =>
         clear HS HS1 HS2
         obtain ⟨i, cl, cc, rfl, hi, HC, HS⟩ := hrel
         by_cases hlt : i < N
         ·have hd : decide ((i : Int) < (N : Int)) = true := decide_eq_true (by omega)
          have hcl : cl i = al' i := by rw [HC.out.1 i, if_neg (by omega)]
          have hcc : cc i = ac' i := by rw [HC.out.2 i, if_neg (by omega)]
          have hc1 := HS.out.1.1.cell i hlt
          have hc2 := HS.out.1.2.cell i hlt
          have hf1 := HS.out.1.1.free i
          rw [hcl] at hc1
          rw [hcc] at hc2
          obtain ⟨o, ho⟩ : ∃ o, o = (al' i || ac' i) := ⟨_, rfl⟩
          have HS3 := am (HS.out.set1 i hlt o)
          have hc3 := HS3.out.1.2.cell i hlt
          have hf3 := HS3.out.1.2.free i
          have HS4 := am (HS3.out.set2 i hlt o)
          have HC4 := am (show (∀ j, (fun j => if j = i then o else cl j) j = if j < i + 1 then (al' j || ac' j) else al' j) ∧ ∀ j, (fun j => if j = i then o else cc j) j = if j < i + 1 then (al' j || ac' j) else ac' j from by
           refine ⟨fun j => ?_, fun j => ?_⟩
           ·by_cases e : j = i
            ·subst e; simp [ho]
            ·simp only [e, if_false]
             rw [HC.out.1 j]
             by_cases e2 : j < i
             ·rw [if_pos e2, if_pos (by omega)]
             ·rw [if_neg e2, if_neg (by omega)]
           ·by_cases e : j = i
            ·subst e; simp [ho]
            ·simp only [e, if_false]
             rw [HC.out.2 j]
             by_cases e2 : j < i
             ·rw [if_pos e2, if_pos (by omega)]
             ·rw [if_neg e2, if_neg (by omega)])
          rw [hcc] at hc3
          generalize al' i = p at hc1 ho
          generalize ac' i = q at hc2 ho hc3
          cases p with
          | true =>
           rw [Bool.true_or] at ho
           subst ho
           clear hcl hcc HC
           go_wp2
           go_roundw
           case rel => exact ⟨i + 1, _, _, by go_num, by omega, HC4, HS4⟩
           case measure => simp [intOf]; omega
          | false =>
           rw [Bool.false_or] at ho
           subst ho
           clear hcl hcc HC
           cases o with
           | true =>
            go_wp2
            go_roundw
            case rel => exact ⟨i + 1, _, _, by go_num, by omega, HC4, HS4⟩
            case measure => simp [intOf]; omega
           | false =>
            go_wp2
            go_roundw
            case rel => exact ⟨i + 1, _, _, by go_num, by omega, HC4, HS4⟩
            case measure => simp [intOf]; omega
         ·obtain rfl : i = N := by omega
          have hd : decide ((i : Int) < (i : Int)) = false := decide_eq_false (by omega)
          have ew := HEW.out
          go_wp2
          go_roundg k1
          case measure => have := HK.out; omega
          case rel => exact ⟨n + 1, _, _, by go_num, HR, ⟨by have := HK.out; omega⟩, ⟨HS.out.ext (fun j hj => by rw [HC.out.1 j, if_pos hj]) (fun j hj => by rw [HC.out.2 j, if_pos hj])⟩⟩
def impl_ThereAndBack.T3 : Bool × List (List Nat × List Nat) := (true, [([], []), ([], []), ([0, 1], [0, 1]), ([], []), ([3], [3]), ([4], [4]), ([2, 5], [2, 5]), ([6], [6]), ([], []), ([8], [8]), ([9], [9]), ([7, 10], [7, 10]), ([11], [11]), ([], []), ([], []), ([13, 14, 2], [13, 14]), ([], []), ([16], [16]), ([17], [17]), ([15, 18], [15, 18]), ([19], [19]), ([], []), ([21], [21]), ([22], [22]), ([20, 23], [20, 23]), ([24], [24]), ([12, 15, 0, 1, 2, 3, 4, 5, 6, 7, 8, 9, 10, 11, 12], [12]), ([25, 26, 0, 1, 2, 3, 4, 5, 6, 7, 8, 9, 10, 11, 12, 13, 14, 15, 16, 17, 18, 19, 20, 21, 22, 23, 24, 25, 26], [25])])
def impl_ThereAndBack.B3 : List Nat := [0, 0, 3, 0, 8, 24, 63, 127, 0, 256, 768, 2047, 4095, 0, 0, 24583, 0, 65536, 196608, 516103, 1040391, 0, 2097152, 6291456, 16769031, 33546247, 65535, 134217727]
theorem impl_ThereAndBack.tab3 : rtab .any (opsOf Try.f14 3) = impl_ThereAndBack.T3 := by kernel_rfl
theorem impl_ThereAndBack.bits3 : waitsOk impl_ThereAndBack.T3.2 impl_ThereAndBack.B3 = true := by kernel_rfl
def impl_ThereAndBack.f (k : Nat) (s t : ByteArray) (l1 l2 : List Int) : Option (Int × Bool) := (impl_areDriven.f k s t [l1, l2]).bind fun b => if b = true then ((impl_drivesTo.f k s t l2).bind fun rows => (impl_drivesTo.f k s t l1).bind fun rows2 => if impl_DriveDistance.Q rows l1 ∧ impl_DriveDistance.Q rows2 l2 then (if impl_DriveDistance.val rows l1 < 0 then some (0, false) else if impl_DriveDistance.val rows2 l2 < 0 then some (0, false) else some (wrap64 (impl_DriveDistance.val rows l1 + impl_DriveDistance.val rows2 l2), true)) else none) else some (0, false)
theorem impl_ThereAndBack.calls (k : Nat) (a0_0 : ByteArray) (a0_1 : ByteArray) (A1 : Option Addr) (c1 : Nat) (l1 : List Int) (A2 : Option Addr) (c2 : Nat) (l2 : List Int) (r1 : Int) (r2 : Bool) (w : World) (hr1 : Kd.C (Kd.int .i64) w A1 l1.length l1) (hc1 : l1.length ≤ c1) (hr2 : Kd.C (Kd.int .i64) w A2 l2.length l2) (hc2 : l2.length ≤ c2) (h : impl_ThereAndBack.f k a0_0 a0_1 l1 l2 = some (r1, r2)) :
  Calls Try.prog 14 #[.agg #[.string a0_0, .string a0_1], .slice A1 l1.length c1, .slice A2 l2.length c2] w fun e w' => e = .returned (.tuple #[.int .i64 r1, .bool r2]) ∧ Below w.heap.size w w' := by
 unfold impl_ThereAndBack.f at h
 obtain ⟨b, hb, h⟩ := Option.bind_eq_some_iff.1 h
 have HBo := am hb
 clear hb
 obtain ⟨wb, hwb⟩ : ∃ wb : World, w.alloc (.cells #[.string a0_0, .string a0_1] 25) = wb := ⟨_, rfl⟩
 have HBX := am (show wb.heap[w.heap.size]? = some (.cells #[.string a0_0, .string a0_1] 25 (0, 0)) by rw [← hwb]; exact heap_alloc_new _ _)
 have HB := am (show Below w.heap.size w wb by rw [← hwb]; exact below_alloc (Below.refl _ _) _)
 have hp0 : wb.cell? ⟨w.heap.size, 0, none⟩ = some (.string a0_0) := (blk_cell HBX.out 0).trans rfl
 have hp1 : wb.cell? ⟨w.heap.size, 1, none⟩ = some (.string a0_1) := (blk_cell HBX.out 1).trans rfl
 obtain ⟨wl, hwl⟩ : ∃ wl : World, wb.alloc (.cells #[.slice A1 l1.length c1, .slice A2 l2.length c2] 26) = wl := ⟨_, rfl⟩
 have HBl := am (show Below wb.heap.size wb wl by rw [← hwl]; exact below_alloc (Below.refl _ _) _)
 obtain ⟨gl, hgl⟩ : ∃ gl, gl = wb.heap.size := ⟨_, rfl⟩
 have HLX := am (show wl.heap[gl]? = some (.cells #[.slice A1 l1.length c1, .slice A2 l2.length c2] 26 (0, 0)) by rw [← hwl, hgl]; exact heap_alloc_new _ _)
 have HBw := am (below_then HB.out HB.out.size HBl.out)
 have HR1 := am (Kd.C_below hr1 HBw.out)
 have HR2 := am (Kd.C_below hr2 HBw.out)
 have HC1 := am hc1
 have HC2 := am hc2
 have HL := am (impl_areDriven.lit2 ((blk_cell HLX.out 0).trans rfl) ((blk_cell HLX.out 1).trans rfl) hc1 hc2 HR1.out HR2.out)
 rw [hgl] at HL
 have HBXl := am ((HBl.out.block _ (Array.getElem?_eq_some_iff.1 HBX.out).1).trans HBX.out)
 clear hr1 hr2 hc1 hc2 HBl HLX hgl
 cases b with
 | false =>
  rw [if_neg (by simp)] at h
  simp only [Option.some.injEq, Prod.mk.injEq] at h
  obtain ⟨rfl, rfl⟩ := h
  go_enter Try.func14, Try.ntmps14
  go_wp2_with (go_at_call 29; refine (impl_areDriven.calls k a0_0 a0_1 _ 2 [l1, l2] false _ HL.out (by simp) HBo.out).mono ?_; rintro e w1 ⟨rfl, hb1⟩; have HB1 := am (below_then HBw.out HBw.out.size hb1); clear hb1)
  go_ret2
  exact ⟨rfl, HB1.out⟩
 | true =>
  rw [if_pos rfl] at h
  obtain ⟨rows, hD, h⟩ := Option.bind_eq_some_iff.1 h
  obtain ⟨rows2, hE, h⟩ := Option.bind_eq_some_iff.1 h
  by_cases q : impl_DriveDistance.Q rows l1 ∧ impl_DriveDistance.Q rows2 l2
  case neg => rw [if_neg q] at h; cases h
  rw [if_pos q] at h
  have H := am h
  have HD := am hD
  have HE := am hE
  have HQ := am q
  obtain ⟨x, hx⟩ := Int.eq_ofNat_of_zero_le q.1.2.1.1
  obtain ⟨y, hy⟩ := Int.eq_ofNat_of_zero_le q.1.2.2.1
  obtain ⟨u, hu⟩ := Int.eq_ofNat_of_zero_le q.2.2.1.1
  obtain ⟨v, hv⟩ := Int.eq_ofNat_of_zero_le q.2.2.2.1
  have HX := am hx
  have HY := am hy
  have HU := am hu
  have HV := am hv
  obtain ⟨ad, rfl, hx0, hx1⟩ := spec_owDistance.two q.1.1.1 HR1.out
  obtain ⟨ae, rfl, hu0, hu1⟩ := spec_owDistance.two q.2.1.1 HR2.out
  rw [hx] at hx0
  rw [hy] at hx1
  rw [hu] at hu0
  rw [hv] at hu1
  have HX0 := am hx0
  have HX1 := am hx1
  have HU0 := am hu0
  have HU1 := am hu1
  have hl := q.1.1.1
  have hl2 := q.2.1.1
  have HK1 := am (fun (W : World) (hr : Kd.C (Kd.int .i64) W (some ae) l2.length l2) => impl_drivesTo.calls k a0_0 a0_1 (some ae) c2 l2 rows W hr HC2.out hD)
  have HK2 := am (fun (W : World) (hr : Kd.C (Kd.int .i64) W (some ad) l1.length l1) => impl_drivesTo.calls k a0_0 a0_1 (some ad) c1 l1 rows2 W hr HC1.out hE)
  rw [hl2] at HK1 HR2
  rw [hl] at HK2 HR1
  clear hD hE q hx hy hx0 hx1 hu hv hu0 hu1 h
  rw [hl, hl2] at hwl ⊢
  clear hl hl2
  go_enter Try.func14, Try.ntmps14
  go_wp2_with (go_at_call 29; refine (impl_areDriven.calls k a0_0 a0_1 _ 2 [l1, l2] true _ HL.out (by simp) HBo.out).mono ?_; rintro e w1 ⟨rfl, hb1⟩; have HB1 := am (below_then HBw.out HBw.out.size hb1); have HBX1 := am ((hb1.block _ (Array.getElem?_eq_some_iff.1 HBXl.out).1).trans HBXl.out); have HR11 := am (Kd.C_below HR1.out hb1); have HR21 := am (Kd.C_below HR2.out hb1); have HX01 := am (pw_cell_below hb1 HX0.out); have HX11 := am (pw_cell_below hb1 HX1.out); have HU01 := am (pw_cell_below hb1 HU0.out); have HU11 := am (pw_cell_below hb1 HU1.out); clear hb1)
  clear hwb hwl hp0 hp1
  have HBd := am (below_drew1 HB1.out)
  have HR1d := am (Kd.C_drew HR11.out)
  have HR2d := am (Kd.C_drew HR21.out)
  have hb0 : w1.drew.cell? ⟨w.heap.size, 0, none⟩ = some (.string a0_0) := (blk_cell (blk_drew HBX1.out) 0).trans rfl
  have hb1 : w1.drew.cell? ⟨w.heap.size, 1, none⟩ = some (.string a0_1) := (blk_cell (blk_drew HBX1.out) 1).trans rfl
  have hq0 : w1.drew.cell? ad = some (.int .i64 x) := HX01.out
  have hq1 : w1.drew.cell? { block := ad.block, off := ad.off + 1 } = some (.int .i64 y) := HX11.out
  have hq2 : w1.drew.cell? ae = some (.int .i64 u) := HU01.out
  have hq3 : w1.drew.cell? { block := ae.block, off := ae.off + 1 } = some (.int .i64 v) := HU11.out
  refine start_ (n := 28) (S := fun w' => w'.cell? ⟨w.heap.size, 0, none⟩ = some (.string a0_0) ∧ w'.cell? ⟨w.heap.size, 1, none⟩ = some (.string a0_1) ∧ w'.cell? ad = some (.int .i64 x) ∧ w'.cell? { block := ad.block, off := ad.off + 1 } = some (.int .i64 y) ∧ w'.cell? ae = some (.int .i64 u) ∧ w'.cell? { block := ae.block, off := ae.off + 1 } = some (.int .i64 v)) (ds := []) #[false, false, false, false, false, false, false, false, false, false, false, false, false, false, false, false, false, false, false, false, false, false, false, false, false, false, false, false] (by kernel_rfl) rfl rfl ⟨hb0, hb1, hq0, hq1, hq2, hq3⟩ (fun hHeld => ?_); refine with_tabW impl_ThereAndBack.tab3 impl_ThereAndBack.bits3 (fun HT_ HW_ => ?_)
  generalize w1.drew = w2 at HBd HR1d HR2d hb0 hb1 hq0 hq1 hq2 hq3 hHeld ⊢
  refine tk_ 0 16 (fl_ 28 1) HT_ HW_ hHeld ?_ (hy := by rintro w' ⟨s0, s1, s2, s3, s4, s5⟩; go_simp; with_reducible rfl)
  refine pu_ 1 17 (fl_ 28 3) HT_ ?_
  refine pu_ 3 19 (fl_ 28 11) HT_ ?_
  refine pu_ 4 20 (fl_ 28 27) HT_ ?_
  refine tk_ 5 21 (fl_ 28 59) HT_ HW_ hHeld ?_ (hy := by rintro w' ⟨s0, s1, s2, s3, s4, s5⟩; go_simp; with_reducible rfl)
  refine pu_ 8 24 (fl_ 28 315) HT_ ?_
  refine pu_ 9 25 (fl_ 28 827) HT_ ?_
  refine tk_ 10 26 (fl_ 28 1851) HT_ HW_ hHeld ?_ (hy := by rintro w' ⟨s0, s1, s2, s3, s4, s5⟩; go_simp; with_reducible rfl)
  refine tk_ 13 29 (fl_ 28 10043) HT_ HW_ hHeld ?_ (hy := by rintro w' ⟨s0, s1, s2, s3, s4, s5⟩; go_simp; with_reducible rfl)
  refine pu_ 14 30 (fl_ 28 26427) HT_ ?_
  refine pu_ 16 32 (fl_ 28 91963) HT_ ?_
  refine pu_ 17 33 (fl_ 28 223035) HT_ ?_
  refine tk_ 18 34 (fl_ 28 485179) HT_ HW_ hHeld ?_ (hy := by rintro w' ⟨s0, s1, s2, s3, s4, s5⟩; go_simp; with_reducible rfl)
  refine pu_ 21 37 (fl_ 28 2582331) HT_ ?_
  refine pu_ 22 38 (fl_ 28 6776635) HT_ ?_
  refine tk_ 23 39 (fl_ 28 15165243) HT_ HW_ hHeld ?_ (hy := by rintro w' ⟨s0, s1, s2, s3, s4, s5⟩; go_simp; with_reducible rfl)
  refine on_ 2 18 (fl_ 28 15165247) HT_ fun K hK => ?_
  refine gs_ Try.func30 #[.agg #[.string a0_0, .string a0_1], .slice (some ae) 2 c2] ?_
  with_reducible refine (HK1.out _ HR2d.out).mono ?_
  rintro e w3 ⟨v0, rfl, hS, hb3⟩
  refine ⟨_, rfl, ?_⟩
  have HB3 := am (below_then HBd.out HBd.out.size hb3)
  have HR13 := am (Kd.C_below HR1d.out hb3)
  have hc0 := pw_cell_below hb3 hb0
  have hc1 := pw_cell_below hb3 hb1
  have hc2 := pw_cell_below hb3 hq0
  have hc3 := pw_cell_below hb3 hq1
  have hc4 := pw_cell_below hb3 hq2
  have hc5 := pw_cell_below hb3 hq3
  obtain ⟨g3, c3, g4, c4, n4, rfl, hv0, hv1, hxl, hyl⟩ := impl_DriveDistance.at_ hS x y HQ.out.1 HX.out HY.out
  clear hS hb3
  refine hK.out _ _ ⟨hc0, hc1, hc2, hc3, hc4, hc5⟩ (fun hHeld => ?_)
  clear hK K
  refine nm_ 18 ?_
  refine spec_owDistance.more_ (S' := fun w' => w'.cell? ⟨w.heap.size, 0, none⟩ = some (.string a0_0) ∧ w'.cell? ⟨w.heap.size, 1, none⟩ = some (.string a0_1) ∧ w'.cell? ad = some (.int .i64 x) ∧ w'.cell? { block := ad.block, off := ad.off + 1 } = some (.int .i64 y) ∧ w'.cell? ae = some (.int .i64 u) ∧ w'.cell? { block := ae.block, off := ae.off + 1 } = some (.int .i64 v) ∧ w'.cell? ⟨g3, x, none⟩ = some (.slice (some ⟨g4, 0, none⟩) n4 c4) ∧ w'.cell? ⟨g4, y, none⟩ = some (.int .i64 (impl_DriveDistance.val rows l1))) (fun _ h => ⟨h.1, h.2.1, h.2.2.1, h.2.2.2.1, h.2.2.2.2.1, h.2.2.2.2.2.1⟩) _ _ _ _ ⟨hc0, hc1, hc2, hc3, hc4, hc5, hv0, hv1⟩ ?_
  have hHeld := (show (fun w' => w'.cell? ⟨w.heap.size, 0, none⟩ = some (.string a0_0) ∧ w'.cell? ⟨w.heap.size, 1, none⟩ = some (.string a0_1) ∧ w'.cell? ad = some (.int .i64 x) ∧ w'.cell? { block := ad.block, off := ad.off + 1 } = some (.int .i64 y) ∧ w'.cell? ae = some (.int .i64 u) ∧ w'.cell? { block := ae.block, off := ae.off + 1 } = some (.int .i64 v) ∧ w'.cell? ⟨g3, x, none⟩ = some (.slice (some ⟨g4, 0, none⟩) n4 c4) ∧ w'.cell? ⟨g4, y, none⟩ = some (.int .i64 (impl_DriveDistance.val rows l1))) w3 from ⟨hc0, hc1, hc2, hc3, hc4, hc5, hv0, hv1⟩)
  refine pu_ 6 22 (fl_ 28 15165311) HT_ ?_
  refine tk_ 7 23 (fl_ 28 15165439) HT_ HW_ hHeld ?_ (hy := by rintro w' ⟨s0, s1, s2, s3, s4, s5, s6, s7⟩; go_simp; with_reducible rfl)
  refine pu_ 11 27 (fl_ 28 15167487) HT_ ?_
  refine tk_ 12 28 (fl_ 28 15171583) HT_ HW_ hHeld ?_ (hy := by rintro w' ⟨s0, s1, s2, s3, s4, s5, s6, s7⟩; go_simp; with_reducible rfl)
  refine on_ 15 31 (fl_ 28 15204351) HT_ fun K hK => ?_
  refine gs_ Try.func30 #[.agg #[.string a0_0, .string a0_1], .slice (some ad) 2 c1] ?_
  with_reducible refine (HK2.out _ HR13.out).mono ?_
  rintro e w4 ⟨v1, rfl, hS, hb4⟩
  refine ⟨_, rfl, ?_⟩
  have HB4 := am (below_then HB3.out HB3.out.size hb4)
  have hd0 := pw_cell_below hb4 hc0
  have hd1 := pw_cell_below hb4 hc1
  have hd2 := pw_cell_below hb4 hc2
  have hd3 := pw_cell_below hb4 hc3
  have hd4 := pw_cell_below hb4 hc4
  have hd5 := pw_cell_below hb4 hc5
  have hd6 := pw_cell_below hb4 hv0
  have hd7 := pw_cell_below hb4 hv1
  obtain ⟨g5, c5, g6, c6, n6, rfl, hw0, hw1, hul, hvl⟩ := impl_DriveDistance.at_ hS u v HQ.out.2 HU.out HV.out
  clear hS hb4
  refine hK.out _ _ ⟨hd0, hd1, hd2, hd3, hd4, hd5, hd6, hd7⟩ (fun hHeld => ?_)
  clear hK K
  refine nm_ 31 ?_
  refine spec_owDistance.more_ (S' := fun w' => w'.cell? ⟨w.heap.size, 0, none⟩ = some (.string a0_0) ∧ w'.cell? ⟨w.heap.size, 1, none⟩ = some (.string a0_1) ∧ w'.cell? ad = some (.int .i64 x) ∧ w'.cell? { block := ad.block, off := ad.off + 1 } = some (.int .i64 y) ∧ w'.cell? ae = some (.int .i64 u) ∧ w'.cell? { block := ae.block, off := ae.off + 1 } = some (.int .i64 v) ∧ w'.cell? ⟨g3, x, none⟩ = some (.slice (some ⟨g4, 0, none⟩) n4 c4) ∧ w'.cell? ⟨g4, y, none⟩ = some (.int .i64 (impl_DriveDistance.val rows l1)) ∧ w'.cell? ⟨g5, u, none⟩ = some (.slice (some ⟨g6, 0, none⟩) n6 c6) ∧ w'.cell? ⟨g6, v, none⟩ = some (.int .i64 (impl_DriveDistance.val rows2 l2))) (fun _ h => ⟨h.1, h.2.1, h.2.2.1, h.2.2.2.1, h.2.2.2.2.1, h.2.2.2.2.2.1, h.2.2.2.2.2.2.1, h.2.2.2.2.2.2.2.1⟩) _ _ _ _ ⟨hd0, hd1, hd2, hd3, hd4, hd5, hd6, hd7, hw0, hw1⟩ ?_
  have hHeld := (show (fun w' => w'.cell? ⟨w.heap.size, 0, none⟩ = some (.string a0_0) ∧ w'.cell? ⟨w.heap.size, 1, none⟩ = some (.string a0_1) ∧ w'.cell? ad = some (.int .i64 x) ∧ w'.cell? { block := ad.block, off := ad.off + 1 } = some (.int .i64 y) ∧ w'.cell? ae = some (.int .i64 u) ∧ w'.cell? { block := ae.block, off := ae.off + 1 } = some (.int .i64 v) ∧ w'.cell? ⟨g3, x, none⟩ = some (.slice (some ⟨g4, 0, none⟩) n4 c4) ∧ w'.cell? ⟨g4, y, none⟩ = some (.int .i64 (impl_DriveDistance.val rows l1)) ∧ w'.cell? ⟨g5, u, none⟩ = some (.slice (some ⟨g6, 0, none⟩) n6 c6) ∧ w'.cell? ⟨g6, v, none⟩ = some (.int .i64 (impl_DriveDistance.val rows2 l2))) w4 from ⟨hd0, hd1, hd2, hd3, hd4, hd5, hd6, hd7, hw0, hw1⟩)
  refine pu_ 19 35 (fl_ 28 15728639) HT_ ?_
  refine tk_ 20 36 (fl_ 28 16777215) HT_ HW_ hHeld ?_ (hy := by rintro w' ⟨s0, s1, s2, s3, s4, s5, s6, s7, s8, s9⟩; go_simp; with_reducible rfl)
  refine pu_ 24 40 (fl_ 28 33554431) HT_ ?_
  refine tk_ 25 41 (fl_ 28 67108863) HT_ HW_ hHeld ?_ (hy := by rintro w' ⟨s0, s1, s2, s3, s4, s5, s6, s7, s8, s9⟩; go_simp; with_reducible rfl)
  refine pu_ 26 8 (fl_ 28 134217727) HT_ ?_
  refine pu_ 27 9 (fl_ 28 268435455) HT_ ?_
  refine done_ (done_of HT_.out (by kernel_rfl)) ?_
  have h := H.out
  by_cases p : impl_DriveDistance.val rows l1 < 0
  ·rw [if_pos p] at h
   simp only [Option.some.injEq, Prod.mk.injEq] at h
   obtain ⟨rfl, rfl⟩ := h
   have pb := decide_eq_true p
   go_wp2
   go_ret2
   exact ⟨rfl, HB4.out⟩
  ·rw [if_neg p] at h
   have pb := decide_eq_false p
   by_cases z : impl_DriveDistance.val rows2 l2 < 0
   ·rw [if_pos z] at h
    simp only [Option.some.injEq, Prod.mk.injEq] at h
    obtain ⟨rfl, rfl⟩ := h
    have zb := decide_eq_true z
    go_wp2
    go_ret2
    exact ⟨rfl, HB4.out⟩
   ·rw [if_neg z] at h
    simp only [Option.some.injEq, Prod.mk.injEq] at h
    obtain ⟨rfl, rfl⟩ := h
    have zb := decide_eq_false z
    go_wp2
    go_ret2
    exact ⟨by simp [i64_w], HB4.out⟩
end Go.Proofs.Ytdhdkkhbgfcoiaa.MX
