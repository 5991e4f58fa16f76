-- The machine side, written by this repo's program mp.py; contracts marked as of this repo are this session's own.
import Derived.Test.YtdhdkkhbgfcoiaaMXx0
import Derived.Test.YtdhdkkhbgfcoiaaMXx5
import Derived.Test.YtdhdkkhbgfcoiaaMXx7
import Derived.Test.YtdhdkkhbgfcoiaaMXx8
import Derived.Test.YtdhdkkhbgfcoiaaMXx9
namespace Go.Proofs.Ytdhdkkhbgfcoiaa.MX
open Go.RowKit Go.Proofs.YtdhdkkhbgfcoiaaW.PrintWords Go.Proofs.YtdhdkkhbgfcoiaaW.PrintLast Go.Proofs.YtdhdkkhbgfcoiaaW.PrintMore
attribute [local go_sem] max2_int min2_int max_two min_two max_three min_three max_four min_four   -- for this text's walks alone
set_option maxHeartbeats 8000000
set_option maxRecDepth 100000
set_option linter.unusedVariables false
set_option linter.unusedSimpArgs false
theorem spec_owDistance.more_ {P : Program} {md : Region.Mode} {ops : Array Oper} {Q : Exit → Act → World → Prop} {S S' : World → Prop} (hSS : ∀ w, S' w → S w) : ∀ (fuel : Nat) (l : Array Bool) (a : Act) (w : World), S' w → wpAnyLast P md ops Q S' [] fuel l a w → wpAnyLast P md ops Q S [] fuel l a w
 | 0, _, _, _, _, h => h
 | fuel + 1, _, _, _, hw, h => ⟨h.1, fun i hi => wpOp_mono (fun a' w' h' => ⟨fun _ _ => hSS _ (h'.1 (by simp) hw), spec_owDistance.more_ hSS fuel _ a' w' (h'.1 (by simp) hw) h'.2⟩) (h.2 i hi)⟩
def spec_owDistance.T1 : Bool × List (List Nat × List Nat) := (true, [([], []), ([], []), ([0, 1], [0, 1]), ([], []), ([3], [3]), ([4], [4]), ([], []), ([6], [6]), ([7], [7]), ([5, 8], [5, 8]), ([], []), ([10], [10]), ([11], [11]), ([9, 12], [9, 12]), ([2, 13], [2, 13]), ([14], [14]), ([15, 2, 0, 1, 2, 3, 4, 5, 6, 7, 8, 9, 10, 11, 12, 13, 14, 15], [15])])
def spec_owDistance.B1 : List Nat := [0, 0, 3, 0, 8, 24, 0, 64, 192, 504, 0, 1024, 3072, 8184, 16383, 32767, 65535]
theorem spec_owDistance.tab1 : rtab .any (opsOf Try.f34 1) = spec_owDistance.T1 := by kernel_rfl
theorem spec_owDistance.bits1 : waitsOk spec_owDistance.T1.2 spec_owDistance.B1 = true := by kernel_rfl
def spec_owDistance.f (k : Nat) (s t : ByteArray) (l1 l2 : List Int) : Option Int := (spec_owFar.f k s t l1).bind fun l => if ((l2.length = 2 ∧ impl_driveIn.Sized s t) ∧ impl_driveIn.At s t (rd l2 0) (rd l2 1)) ∧ l.length = t.size * s.size then some (rd l (((rd l2 0).toNat * s.size + (rd l2 1).toNat : Nat) : Int)) else none
theorem spec_owDistance.two {w : World} {A : Option Addr} {l : List Int} (hl : l.length = 2) (hr : Kd.C (Kd.int .i64) w A l.length l) : ∃ ad, A = some ad ∧ w.cell? ad = some (.int .i64 (rd l 0)) ∧ w.cell? { block := ad.block, off := ad.off + 1 } = some (.int .i64 (rd l 1)) := by
 obtain ⟨ad0, hA, hx0⟩ := Kd.at_int hr 0 (by omega) (by omega)
 obtain ⟨ad1, hA1, hx1⟩ := Kd.at_int hr 1 (by omega) (by omega)
 subst hA
 obtain rfl : ad0 = ad1 := by injection hA1
 rw [show (0 : Int).toNat = 0 from rfl, Addr.add_zero'] at hx0
 simp only [show (1 : Int).toNat = 1 from rfl, Nat.reduceMul, Nat.reduceEqDiff, Go.Addr.add, ↓reduceIte] at hx1
 exact ⟨ad0, rfl, hx0, hx1⟩
theorem spec_owDistance.calls (k : Nat) (a0_0 : ByteArray) (a0_1 : ByteArray) (A1 : Option Addr) (c1 : Nat) (l1 : List Int) (A2 : Option Addr) (c2 : Nat) (l2 : List Int) (r : Int) (w : World) (hr1 : Kd.C (Kd.int .i64) w A1 l1.length l1) (hc1 : l1.length ≤ c1) (hr2 : Kd.C (Kd.int .i64) w A2 l2.length l2) (hc2 : l2.length ≤ c2) (h : spec_owDistance.f k a0_0 a0_1 l1 l2 = some r) :
  Calls Try.prog 34 #[.agg #[.string a0_0, .string a0_1], .slice A1 l1.length c1, .slice A2 l2.length c2] w fun e w' => e = .returned (.int .i64 r) ∧ Below w.heap.size w w' := by
 unfold spec_owDistance.f at h
 obtain ⟨l, hF, h⟩ := Option.bind_eq_some_iff.1 h
 by_cases c : ((l2.length = 2 ∧ impl_driveIn.Sized a0_0 a0_1) ∧ impl_driveIn.At a0_0 a0_1 (rd l2 0) (rd l2 1)) ∧ l.length = a0_1.size * a0_0.size
 case neg => rw [if_neg c] at h; cases h
 rw [if_pos c] at h
 obtain ⟨⟨⟨hl, hS⟩, ⟨x0, x1⟩, y0, y1⟩, hlen⟩ := c
 obtain ⟨ad, rfl, hx0, hx1⟩ := spec_owDistance.two hl hr2
 obtain ⟨x, hx⟩ := Int.eq_ofNat_of_zero_le x0
 obtain ⟨y, hy⟩ := Int.eq_ofNat_of_zero_le y0
 rw [hx] at hx0 x0 x1 h
 rw [hy] at hx1 y0 y1 h
 rw [Int.toNat_natCast, Int.toNat_natCast] at h
 obtain ⟨⟨t1, t8⟩, s1, s8⟩ := hS
 obtain ⟨cn, hcn⟩ : ∃ cn, cn = x * a0_0.size + y := ⟨_, rfl⟩
 rw [← hcn] at h
 have hcnl : cn < l.length := by rw [hlen, hcn]; exact spec_owFar.cd_lt _ _ _ _ (by omega) (by omega)
 have hl64 : l.length ≤ 64 := by rw [hlen]; exact Nat.le_trans (Nat.mul_le_mul t8 s8) (by decide)
 obtain ⟨m1, hm1⟩ : ∃ m1, m1 = x * a0_0.size := ⟨_, rfl⟩
 have hm1n : m1 ≤ cn := by omega
 have e1 : IntKind.i64.wrap ((x : Int) * (a0_0.size : Int)) = (m1 : Int) := by rw [i64_w, ← Int.natCast_mul, ← hm1, Go.Proofs.Ytdhdkkhbgfcoiaa.Lib.w64] <;> omega
 have e2 : IntKind.i64.wrap ((m1 : Int) + (y : Int)) = (cn : Int) := by rw [i64_w, Go.Proofs.Ytdhdkkhbgfcoiaa.Lib.w64] <;> omega
 have e3 : wrap64 ((x : Int) * (a0_0.size : Int)) = (m1 : Int) := (i64_w _).symm.trans e1
 have e4 : wrap64 ((m1 : Int) + (y : Int)) = (cn : Int) := (i64_w _).symm.trans e2
 obtain rfl := Option.some.inj h
 have HF := am hF
 have HR1 := am hr1
 have HC1 := am hc1
 have HX0 := am hx0
 have HX1 := am hx1
 clear hF hr1 hc1 hr2 hx0 hx1 hlen hcn hm1 x0 x1 y0 y1 h hx hy
 rw [hl] at hc2 ⊢
 clear hl
 obtain ⟨wb, hwb⟩ : ∃ wb : World, w.alloc (.cells #[.string a0_0, .string a0_1] 25) = wb := ⟨_, rfl⟩
 have HB := am (show Below w.heap.size w wb by rw [← hwb]; exact below_alloc (Below.refl _ _) _)
 have HBX := am (show wb.heap[w.heap.size]? = some (.cells #[.string a0_0, .string a0_1] 25 (0, 0)) by rw [← hwb]; exact heap_alloc_new _ _)
 go_enter Try.func34, Try.ntmps34
 go_wp2
 clear hwb
 have HBd := am (below_drew1 HB.out)
 have hb0 : wb.drew.cell? ⟨w.heap.size, 0, none⟩ = some (.string a0_0) := (blk_cell (blk_drew HBX.out) 0).trans rfl
 have hb1 : wb.drew.cell? ⟨w.heap.size, 1, none⟩ = some (.string a0_1) := (blk_cell (blk_drew HBX.out) 1).trans rfl
 have hq0 := pw_cell_below HBd.out HX0.out
 have hq1 := pw_cell_below HBd.out HX1.out
 refine start_ (n := 17) (S := fun w' => w'.cell? ⟨w.heap.size, 0, none⟩ = some (.string a0_0) ∧ w'.cell? ⟨w.heap.size, 1, none⟩ = some (.string a0_1) ∧ w'.cell? ad = some (.int .i64 x) ∧ w'.cell? { block := ad.block, off := ad.off + 1 } = some (.int .i64 y)) (ds := []) #[false, false, false, false, false, false, false, false, false, false, false, false, false, false, false, false, false] (by kernel_rfl) rfl rfl ⟨hb0, hb1, hq0, hq1⟩ (fun hHeld => ?_); refine with_tabW spec_owDistance.tab1 spec_owDistance.bits1 (fun HT_ HW_ => ?_)
 generalize wb.drew = w2 at HBd hb0 hb1 hq0 hq1 hHeld ⊢
 refine tk_ 0 7 (fl_ 17 1) HT_ HW_ hHeld ?_ (hy := by rintro w' ⟨s0, s1, s2, s3⟩; go_simp; with_reducible rfl)
 refine pu_ 1 8 (fl_ 17 3) HT_ ?_
 refine pu_ 3 10 (fl_ 17 11) HT_ ?_
 refine pu_ 4 11 (fl_ 17 27) HT_ ?_
 refine tk_ 5 12 (fl_ 17 59) HT_ HW_ hHeld ?_ (hy := by rintro w' ⟨s0, s1, s2, s3⟩; go_simp; with_reducible rfl)
 refine pu_ 6 13 (fl_ 17 123) HT_ ?_
 refine tk_ 7 14 (fl_ 17 251) HT_ HW_ hHeld ?_ (hy := by rintro w' ⟨s0, s1, s2, s3⟩; go_simp; with_reducible rfl)
 refine pu_ 8 15 (fl_ 17 507) HT_ ?_
 refine pu_ 9 16 (fl_ 17 1019) HT_ ?_
 refine pu_ 10 17 (fl_ 17 2043) HT_ ?_
 refine pu_ 11 18 (fl_ 17 4091) HT_ ?_
 refine tk_ 12 19 (fl_ 17 8187) HT_ HW_ hHeld ?_ (hy := by rintro w' ⟨s0, s1, s2, s3⟩; go_simp; with_reducible rfl)
 refine pu_ 13 20 (fl_ 17 16379) HT_ ?_
 refine on_ 2 9 (fl_ 17 16383) HT_ fun K hK => ?_
 refine gs_ Try.func35 #[.agg #[.string a0_0, .string a0_1], .slice A1 l1.length c1] ?_
 with_reducible refine (spec_owFar.calls k a0_0 a0_1 A1 c1 l1 l _ (Kd.C_below HR1.out HBd.out) HC1.out HF.out).mono ?_
 rintro e w3 ⟨v0, rfl, hR, hb3⟩
 refine ⟨_, rfl, ?_⟩
 have HB3 := am (below_then HBd.out HBd.out.size hb3)
 have hc0 := pw_cell_below hb3 hb0
 have hc1 := pw_cell_below hb3 hb1
 have hc2 := pw_cell_below hb3 hq0
 have hc3 := pw_cell_below hb3 hq1
 obtain ⟨A3, c3, e3'⟩ := Kd.R_slice hR
 subst e3'
 obtain ⟨ad3, hA3, hv⟩ := Kd.at_int (Kd.R_reads' hR).2.2 (cn : Int) (by omega) (by omega)
 subst hA3
 obtain ⟨g3, rfl⟩ := Kd.R_head hR
 rw [Int.toNat_natCast, Addr.add_lit, Nat.zero_add] at hv
 clear hR hb3
 refine hK.out _ _ ⟨hc0, hc1, hc2, hc3⟩ (fun hHeld => ?_)
 clear hK K
 refine nm_ 9 ?_
 refine spec_owDistance.more_ (S' := fun w' => w'.cell? ⟨w.heap.size, 0, none⟩ = some (.string a0_0) ∧ w'.cell? ⟨w.heap.size, 1, none⟩ = some (.string a0_1) ∧ w'.cell? ad = some (.int .i64 x) ∧ w'.cell? { block := ad.block, off := ad.off + 1 } = some (.int .i64 y) ∧ w'.cell? ⟨g3, cn, none⟩ = some (.int .i64 (rd l (cn : Int)))) (fun _ h => ⟨h.1, h.2.1, h.2.2.1, h.2.2.2.1⟩) _ _ _ _ ⟨hc0, hc1, hc2, hc3, hv⟩ ?_
 have hHeld := (show (fun w' => w'.cell? ⟨w.heap.size, 0, none⟩ = some (.string a0_0) ∧ w'.cell? ⟨w.heap.size, 1, none⟩ = some (.string a0_1) ∧ w'.cell? ad = some (.int .i64 x) ∧ w'.cell? { block := ad.block, off := ad.off + 1 } = some (.int .i64 y) ∧ w'.cell? ⟨g3, cn, none⟩ = some (.int .i64 (rd l (cn : Int)))) w3 from ⟨hc0, hc1, hc2, hc3, hv⟩)
 refine pu_ 14 21 (fl_ 17 32767) HT_ ?_
 refine tk_ 15 22 (fl_ 17 65535) HT_ HW_ hHeld ?_ (hy := by rintro w' ⟨s0, s1, s2, s3, s4⟩; go_simp; with_reducible rfl)
 refine pu_ 16 6 (fl_ 17 131071) HT_ ?_
 refine done_ (done_of HT_.out (by kernel_rfl)) ?_
 go_wp2
 go_ret
 exact ⟨rfl, HB3.out⟩
mutual
def spec_owBack.l0 : Nat → Int → ByteArray → ByteArray → ByteArray → ByteArray → Option (ByteArray × ByteArray)
 | 0, _, _, _, _, _ => none
 | k + 1, x4, x283000, x283001, x285000, x285001 => if x4 < (x283000.size : Int) then (if 0 ≤ x4 then (if (bt x283000 x4) = 101 then (if x285000.size + 1 ≤ 9223372036854775807 then (spec_owBack.l0 k (wrap64 (x4 + 1)) x283000 x283001 (x285000 ++ (⟨#[119]⟩ : ByteArray)) x285001) else (none)) else (if x285000.size + 1 ≤ 9223372036854775807 then (spec_owBack.l0 k (wrap64 (x4 + 1)) x283000 x283001 (x285000 ++ (⟨#[101]⟩ : ByteArray)) x285001) else (none))) else (none)) else (spec_owBack.l1 k 0 x283000 x283001 x285000 x285001)
def spec_owBack.l1 : Nat → Int → ByteArray → ByteArray → ByteArray → ByteArray → Option (ByteArray × ByteArray)
 | 0, _, _, _, _, _ => none
 | k + 1, x5, x283000, x283001, x285000, x285001 => if x5 < (x283001.size : Int) then (if 0 ≤ x5 then (if (bt x283001 x5) = 110 then (if x285001.size + 1 ≤ 9223372036854775807 then (spec_owBack.l1 k (wrap64 (x5 + 1)) x283000 x283001 x285000 (x285001 ++ (⟨#[115]⟩ : ByteArray))) else (none)) else (if x285001.size + 1 ≤ 9223372036854775807 then (spec_owBack.l1 k (wrap64 (x5 + 1)) x283000 x283001 x285000 (x285001 ++ (⟨#[110]⟩ : ByteArray))) else (none))) else (none)) else (some (x285000, x285001))
end
def spec_owBack.f (k : Nat) (a0_0 : ByteArray) (a0_1 : ByteArray) : Option (ByteArray × ByteArray) := spec_owBack.l0 k 0 a0_0 a0_1 (⟨#[]⟩ : ByteArray) (⟨#[]⟩ : ByteArray)
theorem spec_owBack.calls (k : Nat) (a0_0 : ByteArray) (a0_1 : ByteArray) (r1 : ByteArray) (r2 : ByteArray) (w : World) (h : spec_owBack.f k a0_0 a0_1 = some (r1, r2)) :
  Calls Try.prog 36 #[.agg #[.string a0_0, .string a0_1]] w fun e w' => e = .returned (.agg #[.string r1, .string r2]) ∧ Below w.heap.size w w' := by
 have hu25 := Try.underlying25
 have HB := am (Below.refl w.heap.size w)
 unfold spec_owBack.f at h
 have H := h
 clear h
 have H' := am H
 clear H
 go_enter Try.func36, Try.ntmps36
 go_wp2_with (first | ((with_reducible refine gate_dst (N := 1) rfl ?_); refine bx_ 1 (#[.string a0_0, .string a0_1]) 25 ?_; intro gb282 hg w2 hbox hb; have BK282 := am (hbox); have GW282 := am ((by rw [hg]; exact (below_size HB.out) : w.heap.size ≤ gb282)); have GE282 := am ((by rw [hg]; exact (below_size HB.out) : w.heap.size ≤ gb282)); replace HB := am (below_step HB.out hb); clear hb hbox hg) | ((with_reducible refine gate_dst (N := 2) rfl ?_); refine bx_ 2 (#[.string (⟨#[]⟩ : ByteArray), .string (⟨#[]⟩ : ByteArray)]) 25 ?_; intro gb283 hg w3 hbox hb; have BK283 := am (hbox); have GW283 := am ((by rw [hg]; exact (below_size HB.out) : w.heap.size ≤ gb283)); have GE283 := am ((by rw [hg]; exact (below_size HB.out) : w.heap.size ≤ gb283)); replace HB := am (below_step HB.out hb); have NB282_283 := am ((by rw [hg]; exact Nat.ne_of_lt (blk_lt (g := gb282) (o := .cells #[.string a0_0, .string a0_1] 25 (0, 0)) BK282.out) : gb282 ≠ gb283)); have NB283_282 := am ((by rw [hg]; exact Nat.ne_of_gt (blk_lt (g := gb282) (o := .cells #[.string a0_0, .string a0_1] 25 (0, 0)) BK282.out) : gb283 ≠ gb282)); replace BK282 := am (blk_below BK282.out hb); clear hb hbox hg) | ((with_reducible refine gate_dst (N := 3) rfl ?_); refine bx_ 3 (#[.string (⟨#[]⟩ : ByteArray), .string (⟨#[]⟩ : ByteArray)]) 25 ?_; intro gb284 hg w4 hbox hb; have BK284 := am (hbox); have GW284 := am ((by rw [hg]; exact (below_size HB.out) : w.heap.size ≤ gb284)); have GE284 := am ((by rw [hg]; exact (below_size HB.out) : w.heap.size ≤ gb284)); replace HB := am (below_step HB.out hb); have NB282_284 := am ((by rw [hg]; exact Nat.ne_of_lt (blk_lt (g := gb282) (o := .cells #[.string a0_0, .string a0_1] 25 (0, 0)) BK282.out) : gb282 ≠ gb284)); have NB284_282 := am ((by rw [hg]; exact Nat.ne_of_gt (blk_lt (g := gb282) (o := .cells #[.string a0_0, .string a0_1] 25 (0, 0)) BK282.out) : gb284 ≠ gb282)); replace BK282 := am (blk_below BK282.out hb); have NB283_284 := am ((by rw [hg]; exact Nat.ne_of_lt (blk_lt (g := gb283) (o := .cells #[.string (⟨#[]⟩ : ByteArray), .string (⟨#[]⟩ : ByteArray)] 25 (0, 0)) BK283.out) : gb283 ≠ gb284)); have NB284_283 := am ((by rw [hg]; exact Nat.ne_of_gt (blk_lt (g := gb283) (o := .cells #[.string (⟨#[]⟩ : ByteArray), .string (⟨#[]⟩ : ByteArray)] 25 (0, 0)) BK283.out) : gb284 ≠ gb283)); replace BK283 := am (blk_below BK283.out hb); clear hb hbox hg))
 go_loopg [4] k (fun kq v4 w' => ∃ (x4_1 : Int) (x285000_1 : ByteArray), v4 = .int .i64 x4_1 ∧ Aside0 (spec_owBack.l0 kq x4_1 a0_0 a0_1 x285000_1 (⟨#[]⟩ : ByteArray) = some (r1, r2)) ∧ Aside0 (kq ≤ k) ∧ Aside0 (w'.heap[gb282]? = some (.cells #[.string a0_0, .string a0_1] 25 (0, 0))) ∧ Aside0 (w'.heap[gb283]? = some (.cells #[.string (⟨#[]⟩ : ByteArray), .string (⟨#[]⟩ : ByteArray)] 25 (0, 0))) ∧ Aside0 (w'.heap[gb284]? = some (.cells #[.string x285000_1, .string (⟨#[]⟩ : ByteArray)] 25 (0, 0))) ∧ Aside0 (Below w.heap.size w w'))
 case atStart => exact ⟨(0), ((⟨#[]⟩ : ByteArray)), (by rfl), H', ⟨Nat.le_refl _⟩, ⟨by (with_reducible skip); exact BK282.out⟩, ⟨by (with_reducible skip); exact BK283.out⟩, ⟨by (with_reducible skip); exact BK284.out⟩, ⟨by exact HB.out⟩⟩
 case round =>
  clear H'
  obtain ⟨x4_1, x285000_1, rfl, HA, HK1, BK282, BK283, BK284, HB⟩ := hrel
  cases gk with
  | zero => exact absurd HA.out (by simp [spec_owBack.l0])
  | succ k1 =>
   have H := HA.out
   clear HA
   simp only [spec_owBack.l0] at H
   by_cases c5 : x4_1 < (a0_0.size : Int)
   ·rw [if_pos c5] at H
    have c5b0 : decide (x4_1 < (a0_0.size : Int)) = true := decide_eq_true c5
    clear c5
    by_cases c6 : 0 ≤ x4_1
    ·rw [if_pos c6] at H
     have c6b0 : decide (0 ≤ x4_1) = true := decide_eq_true c6
     clear c6
     by_cases c8 : (bt a0_0 x4_1) = 101
     ·rw [if_pos c8] at H
      have c8b0 : ((bt a0_0 x4_1) == 101) = true := beq_iff_eq.mpr c8
      have c8b1 : ((bt a0_0 x4_1) != 101) = false := bne_eq_false_iff_eq.mpr c8
      clear c8
      by_cases c9 : x285000_1.size + 1 ≤ 9223372036854775807
      ·rw [if_pos c9] at H
       have c9b0 := eq_true c9
       have c9b1 : decide (x285000_1.size + 1 ≤ 9223372036854775807) = true := decide_eq_true c9
       try have c9b2 : (9223372036854775807 < x285000_1.size + 1) = False := eq_false (Nat.not_lt.2 c9)
       have H' := am H
       clear H
       have hnb10 := NB282_283.out
       have hnc10 := NB283_282.out
       have hnb11 := NB282_284.out
       have hnc11 := NB284_282.out
       have hcz12_0 := cz0_ BK282
       have hcz12_1 := cz1_ BK282
       have hfz12_0 := blk_frozen BK282.out 0
       have hfz12_1 := blk_frozen BK282.out 1
       have p7 : 0 ≤ (x4_1 : Int) := of_decide_eq_true (by with_reducible assumption)
       have q7 : x4_1 < (a0_0.size : Int) := of_decide_eq_true (by with_reducible assumption)
       have hx7 := bt_at a0_0 x4_1
       replace p7 := eq_true p7
       replace q7 := eq_true q7
       have hnb13 := NB284_283.out
       have hnc13 := NB283_284.out
       have hcz14_0 := cz0_ BK284
       have hcz14_1 := cz1_ BK284
       have hfz14_0 := blk_frozen BK284.out 0
       have hfz14_1 := blk_frozen BK284.out 1
       go_wp2
       go_roundg k1
       case measure => have := HK1.out; omega
       case rel => exact ⟨(wrap64 (x4_1 + 1)), (x285000_1 ++ (⟨#[119]⟩ : ByteArray)), (by rfl), H', ⟨by have := HK1.out; omega⟩, ⟨by (with_reducible skip); refine blk_far ?_ NB282_284.out _; (with_reducible skip); exact BK282.out⟩, ⟨by (with_reducible skip); refine blk_far ?_ NB283_284.out _; (with_reducible skip); exact BK283.out⟩, ⟨by (with_reducible skip); refine blk_put (cs := #[.string x285000_1, .string (⟨#[]⟩ : ByteArray)]) ?_ 0 _ rfl; (with_reducible skip); exact BK284.out⟩, ⟨by repeat (with_reducible first | exact HB.out | refine below_set ?_ GE284.out)⟩⟩
      ·rw [if_neg c9] at H
       exact absurd H (by simp)
     ·rw [if_neg c8] at H
      have c8b0 : ((bt a0_0 x4_1) == 101) = false := beq_eq_false_iff_ne.mpr c8
      have c8b1 : ((bt a0_0 x4_1) != 101) = true := bne_iff_ne.mpr c8
      by_cases c15 : x285000_1.size + 1 ≤ 9223372036854775807
      ·rw [if_pos c15] at H
       have c15b0 := eq_true c15
       have c15b1 : decide (x285000_1.size + 1 ≤ 9223372036854775807) = true := decide_eq_true c15
       try have c15b2 : (9223372036854775807 < x285000_1.size + 1) = False := eq_false (Nat.not_lt.2 c15)
       have H' := am H
       clear H
       have hnb16 := NB282_283.out
       have hnc16 := NB283_282.out
       have hnb17 := NB282_284.out
       have hnc17 := NB284_282.out
       have hcz18_0 := cz0_ BK282
       have hcz18_1 := cz1_ BK282
       have hfz18_0 := blk_frozen BK282.out 0
       have hfz18_1 := blk_frozen BK282.out 1
       have p7 : 0 ≤ (x4_1 : Int) := of_decide_eq_true (by with_reducible assumption)
       have q7 : x4_1 < (a0_0.size : Int) := of_decide_eq_true (by with_reducible assumption)
       have hx7 := bt_at a0_0 x4_1
       replace p7 := eq_true p7
       replace q7 := eq_true q7
       have hnb19 := NB284_283.out
       have hnc19 := NB283_284.out
       have hcz20_0 := cz0_ BK284
       have hcz20_1 := cz1_ BK284
       have hfz20_0 := blk_frozen BK284.out 0
       have hfz20_1 := blk_frozen BK284.out 1
       go_wp2
       go_roundg k1
       case measure => have := HK1.out; omega
       case rel => exact ⟨(wrap64 (x4_1 + 1)), (x285000_1 ++ (⟨#[101]⟩ : ByteArray)), (by rfl), H', ⟨by have := HK1.out; omega⟩, ⟨by (with_reducible skip); refine blk_far ?_ NB282_284.out _; (with_reducible skip); exact BK282.out⟩, ⟨by (with_reducible skip); refine blk_far ?_ NB283_284.out _; (with_reducible skip); exact BK283.out⟩, ⟨by (with_reducible skip); refine blk_put (cs := #[.string x285000_1, .string (⟨#[]⟩ : ByteArray)]) ?_ 0 _ rfl; (with_reducible skip); exact BK284.out⟩, ⟨by repeat (with_reducible first | exact HB.out | refine below_set ?_ GE284.out)⟩⟩
      ·rw [if_neg c15] at H
       exact absurd H (by simp)
    ·rw [if_neg c6] at H
     exact absurd H (by simp)
   ·rw [if_neg c5] at H
    have c5b0 : decide (x4_1 < (a0_0.size : Int)) = false := decide_eq_false c5
    clear c5
    have H' := am H
    clear H
    have hnb21 := NB282_283.out
    have hnc21 := NB283_282.out
    have hnb22 := NB282_284.out
    have hnc22 := NB284_282.out
    have hcz23_0 := cz0_ BK282
    have hcz23_1 := cz1_ BK282
    have hfz23_0 := blk_frozen BK282.out 0
    have hfz23_1 := blk_frozen BK282.out 1
    go_wp2
    go_loopg [5] k1 (fun kq v5 w' => ∃ (x5_2 : Int) (x285001_2 : ByteArray), v5 = .int .i64 x5_2 ∧ Aside0 (spec_owBack.l1 kq x5_2 a0_0 a0_1 x285000_1 x285001_2 = some (r1, r2)) ∧ Aside0 (kq ≤ k1) ∧ Aside0 (w'.heap[gb282]? = some (.cells #[.string a0_0, .string a0_1] 25 (0, 0))) ∧ Aside0 (w'.heap[gb283]? = some (.cells #[.string (⟨#[]⟩ : ByteArray), .string (⟨#[]⟩ : ByteArray)] 25 (0, 0))) ∧ Aside0 (w'.heap[gb284]? = some (.cells #[.string x285000_1, .string x285001_2] 25 (0, 0))) ∧ Aside0 (Below w.heap.size w w'))
    case atStart => exact ⟨(0), ((⟨#[]⟩ : ByteArray)), (by rfl), H', ⟨Nat.le_refl _⟩, ⟨by (with_reducible skip); exact BK282.out⟩, ⟨by (with_reducible skip); exact BK283.out⟩, ⟨by (with_reducible skip); exact BK284.out⟩, ⟨by exact HB.out⟩⟩
    case round =>
     clear H'
     try clear c5b0
     try clear hcz23_0
     try clear hcz23_1
     try clear hfz23_0
     try clear hfz23_1
     obtain ⟨x5_2, x285001_2, rfl, HA, HK2, BK282, BK283, BK284, HB⟩ := hrel
     cases gk with
     | zero => exact absurd HA.out (by simp [spec_owBack.l1])
     | succ k2 =>
      have H := HA.out
      clear HA
      simp only [spec_owBack.l1] at H
      by_cases c24 : x5_2 < (a0_1.size : Int)
      ·rw [if_pos c24] at H
       have c24b0 : decide (x5_2 < (a0_1.size : Int)) = true := decide_eq_true c24
       clear c24
       by_cases c25 : 0 ≤ x5_2
       ·rw [if_pos c25] at H
        have c25b0 : decide (0 ≤ x5_2) = true := decide_eq_true c25
        clear c25
        by_cases c27 : (bt a0_1 x5_2) = 110
        ·rw [if_pos c27] at H
         have c27b0 : ((bt a0_1 x5_2) == 110) = true := beq_iff_eq.mpr c27
         have c27b1 : ((bt a0_1 x5_2) != 110) = false := bne_eq_false_iff_eq.mpr c27
         clear c27
         by_cases c28 : x285001_2.size + 1 ≤ 9223372036854775807
         ·rw [if_pos c28] at H
          have c28b0 := eq_true c28
          have c28b1 : decide (x285001_2.size + 1 ≤ 9223372036854775807) = true := decide_eq_true c28
          try have c28b2 : (9223372036854775807 < x285001_2.size + 1) = False := eq_false (Nat.not_lt.2 c28)
          have H' := am H
          clear H
          have hnb29 := NB282_283.out
          have hnc29 := NB283_282.out
          have hnb30 := NB282_284.out
          have hnc30 := NB284_282.out
          have hcz31_0 := cz0_ BK282
          have hcz31_1 := cz1_ BK282
          have hfz31_0 := blk_frozen BK282.out 0
          have hfz31_1 := blk_frozen BK282.out 1
          have p26 : 0 ≤ (x5_2 : Int) := of_decide_eq_true (by with_reducible assumption)
          have q26 : x5_2 < (a0_1.size : Int) := of_decide_eq_true (by with_reducible assumption)
          have hx26 := bt_at a0_1 x5_2
          replace p26 := eq_true p26
          replace q26 := eq_true q26
          have hnb32 := NB284_283.out
          have hnc32 := NB283_284.out
          have hcz33_0 := cz0_ BK284
          have hcz33_1 := cz1_ BK284
          have hfz33_0 := blk_frozen BK284.out 0
          have hfz33_1 := blk_frozen BK284.out 1
          go_wp2
          go_roundg k2
          case measure => have := HK1.out; have := HK2.out; omega
          case rel => exact ⟨(wrap64 (x5_2 + 1)), (x285001_2 ++ (⟨#[115]⟩ : ByteArray)), (by rfl), H', ⟨by have := HK1.out; have := HK2.out; omega⟩, ⟨by (with_reducible skip); refine blk_far ?_ NB282_284.out _; (with_reducible skip); exact BK282.out⟩, ⟨by (with_reducible skip); refine blk_far ?_ NB283_284.out _; (with_reducible skip); exact BK283.out⟩, ⟨by (with_reducible skip); refine blk_put (cs := #[.string x285000_1, .string x285001_2]) ?_ 1 _ rfl; (with_reducible skip); exact BK284.out⟩, ⟨by repeat (with_reducible first | exact HB.out | refine below_set ?_ GE284.out)⟩⟩
         ·rw [if_neg c28] at H
          exact absurd H (by simp)
        ·rw [if_neg c27] at H
         have c27b0 : ((bt a0_1 x5_2) == 110) = false := beq_eq_false_iff_ne.mpr c27
         have c27b1 : ((bt a0_1 x5_2) != 110) = true := bne_iff_ne.mpr c27
         by_cases c34 : x285001_2.size + 1 ≤ 9223372036854775807
         ·rw [if_pos c34] at H
          have c34b0 := eq_true c34
          have c34b1 : decide (x285001_2.size + 1 ≤ 9223372036854775807) = true := decide_eq_true c34
          try have c34b2 : (9223372036854775807 < x285001_2.size + 1) = False := eq_false (Nat.not_lt.2 c34)
          have H' := am H
          clear H
          have hnb35 := NB282_283.out
          have hnc35 := NB283_282.out
          have hnb36 := NB282_284.out
          have hnc36 := NB284_282.out
          have hcz37_0 := cz0_ BK282
          have hcz37_1 := cz1_ BK282
          have hfz37_0 := blk_frozen BK282.out 0
          have hfz37_1 := blk_frozen BK282.out 1
          have p26 : 0 ≤ (x5_2 : Int) := of_decide_eq_true (by with_reducible assumption)
          have q26 : x5_2 < (a0_1.size : Int) := of_decide_eq_true (by with_reducible assumption)
          have hx26 := bt_at a0_1 x5_2
          replace p26 := eq_true p26
          replace q26 := eq_true q26
          have hnb38 := NB284_283.out
          have hnc38 := NB283_284.out
          have hcz39_0 := cz0_ BK284
          have hcz39_1 := cz1_ BK284
          have hfz39_0 := blk_frozen BK284.out 0
          have hfz39_1 := blk_frozen BK284.out 1
          go_wp2
          go_roundg k2
          case measure => have := HK1.out; have := HK2.out; omega
          case rel => exact ⟨(wrap64 (x5_2 + 1)), (x285001_2 ++ (⟨#[110]⟩ : ByteArray)), (by rfl), H', ⟨by have := HK1.out; have := HK2.out; omega⟩, ⟨by (with_reducible skip); refine blk_far ?_ NB282_284.out _; (with_reducible skip); exact BK282.out⟩, ⟨by (with_reducible skip); refine blk_far ?_ NB283_284.out _; (with_reducible skip); exact BK283.out⟩, ⟨by (with_reducible skip); refine blk_put (cs := #[.string x285000_1, .string x285001_2]) ?_ 1 _ rfl; (with_reducible skip); exact BK284.out⟩, ⟨by repeat (with_reducible first | exact HB.out | refine below_set ?_ GE284.out)⟩⟩
         ·rw [if_neg c34] at H
          exact absurd H (by simp)
       ·rw [if_neg c25] at H
        exact absurd H (by simp)
      ·rw [if_neg c24] at H
       have c24b0 : decide (x5_2 < (a0_1.size : Int)) = false := decide_eq_false c24
       clear c24
       simp only [Option.some.injEq, Prod.mk.injEq] at H
       obtain ⟨rfl, rfl⟩ := H
       have hnb40 := NB282_283.out
       have hnc40 := NB283_282.out
       have hnb41 := NB282_284.out
       have hnc41 := NB284_282.out
       have hcz42_0 := cz0_ BK282
       have hcz42_1 := cz1_ BK282
       have hfz42_0 := blk_frozen BK282.out 0
       have hfz42_1 := blk_frozen BK282.out 1
       have hnb43 := NB284_283.out
       have hnc43 := NB283_284.out
       have hcz44_0 := cz0_ BK284
       have hcz44_1 := cz1_ BK284
       have hfz44_0 := blk_frozen BK284.out 0
       have hfz44_1 := blk_frozen BK284.out 1
       have hcz45_0 := cz0_ BK283
       have hcz45_1 := cz1_ BK283
       have hfz45_0 := blk_frozen BK283.out 0
       have hfz45_1 := blk_frozen BK283.out 1
       go_wp2
       refine bodyPost_ret (results_cell_row rfl _ _ gb283 25 #[.string x285000_1, .string x285001_2] (0, 0) _ rfl (by (with_reducible skip); refine blk_put (cs := #[.string x285000_1, .string (⟨#[]⟩ : ByteArray)]) ?_ 1 _ rfl; (with_reducible skip); refine blk_put (cs := #[.string (⟨#[]⟩ : ByteArray), .string (⟨#[]⟩ : ByteArray)]) ?_ 0 _ rfl; (with_reducible skip); exact BK283.out) Try.underlying25 rfl (by kernel_rfl)) rfl ?_
       exact ⟨by rfl, by repeat (with_reducible first | exact HB.out | refine below_set ?_ GE283.out)⟩
def spec_FirstDrive.ok (far : List Int) (s t : ByteArray) (n : Int) (x y : Int) (m : Nat) : Bool := impl_driveIn.can s t x y m && decide (rd far ((x + impl_driveIn.dx m) * s.size + (y + impl_driveIn.dy m)) = n)
def spec_FirstDrive.fd (far : List Int) (s t : ByteArray) : Nat → Int → Int → Option (List Nat)
 | 0, _, _ => some []
 | n + 1, x, y => if spec_FirstDrive.ok far s t n x y 0 = true then (spec_FirstDrive.fd far s t n (x + impl_driveIn.dx 0) (y + impl_driveIn.dy 0)).map (0 :: ·) else if spec_FirstDrive.ok far s t n x y 1 = true then (spec_FirstDrive.fd far s t n (x + impl_driveIn.dx 1) (y + impl_driveIn.dy 1)).map (1 :: ·) else if spec_FirstDrive.ok far s t n x y 2 = true then (spec_FirstDrive.fd far s t n (x + impl_driveIn.dx 2) (y + impl_driveIn.dy 2)).map (2 :: ·) else if spec_FirstDrive.ok far s t n x y 3 = true then (spec_FirstDrive.fd far s t n (x + impl_driveIn.dx 3) (y + impl_driveIn.dy 3)).map (3 :: ·) else none
theorem spec_FirstDrive.fd_step {far : List Int} {s t : ByteArray} {n : Nat} {x y : Int} {o : List Nat} (h : spec_FirstDrive.fd far s t (n + 1) x y = some o) : ∃ m o', m < 4 ∧ spec_FirstDrive.ok far s t n x y m = true ∧ (∀ i, i < m → spec_FirstDrive.ok far s t n x y i = false) ∧ spec_FirstDrive.fd far s t n (x + impl_driveIn.dx m) (y + impl_driveIn.dy m) = some o' ∧ o = m :: o' := by
 simp only [spec_FirstDrive.fd] at h
 by_cases c0 : spec_FirstDrive.ok far s t n x y 0 = true
 ·rw [if_pos c0] at h
  obtain ⟨o', h1, h2⟩ := Option.map_eq_some_iff.1 h
  exact ⟨0, o', by omega, c0, fun n hn => by omega, h1, h2.symm⟩
 rw [if_neg c0] at h
 by_cases c1 : spec_FirstDrive.ok far s t n x y 1 = true
 ·rw [if_pos c1] at h
  obtain ⟨o', h1, h2⟩ := Option.map_eq_some_iff.1 h
  refine ⟨1, o', by omega, c1, fun n hn => ?_, h1, h2.symm⟩
  obtain rfl : n = 0 := by omega
  simpa using c0
 rw [if_neg c1] at h
 by_cases c2 : spec_FirstDrive.ok far s t n x y 2 = true
 ·rw [if_pos c2] at h
  obtain ⟨o', h1, h2⟩ := Option.map_eq_some_iff.1 h
  refine ⟨2, o', by omega, c2, fun n hn => ?_, h1, h2.symm⟩
  have q : n = 0 ∨ n = 1 := by omega
  rcases q with rfl | rfl
  ·simpa using c0
  ·simpa using c1
 rw [if_neg c2] at h
 by_cases c3 : spec_FirstDrive.ok far s t n x y 3 = true
 ·rw [if_pos c3] at h
  obtain ⟨o', h1, h2⟩ := Option.map_eq_some_iff.1 h
  refine ⟨3, o', by omega, c3, fun n hn => ?_, h1, h2.symm⟩
  have q : n = 0 ∨ n = 1 ∨ n = 2 := by omega
  rcases q with rfl | rfl | rfl
  ·simpa using c0
  ·simpa using c1
  ·simpa using c2
 ·rw [if_neg c3] at h
  cases h
theorem spec_FirstDrive.fd_len {far : List Int} {s t : ByteArray} : ∀ {n : Nat} {x y : Int} {o : List Nat}, spec_FirstDrive.fd far s t n x y = some o → o.length = n
 | 0, _, _, _, h => by simp only [spec_FirstDrive.fd] at h; rw [← Option.some.inj h]; rfl
 | n + 1, _, _, _, h => by
  obtain ⟨m, o', -, -, -, hf, rfl⟩ := spec_FirstDrive.fd_step h
  rw [List.length_cons, spec_FirstDrive.fd_len hf]
def spec_FirstDrive.word (l : List Nat) : ByteArray := strOfNums (l.map impl_driveIn.sg)
theorem spec_FirstDrive.word_size (l : List Nat) : (spec_FirstDrive.word l).size = l.length := by
 show (((l.map impl_driveIn.sg).map fun n => UInt8.ofNat n.toNat).toArray).size = l.length
 simp
theorem spec_FirstDrive.word_snoc (l : List Nat) (m : Nat) : spec_FirstDrive.word l ++ ⟨#[UInt8.ofNat (impl_driveIn.sg m).toNat]⟩ = spec_FirstDrive.word (l ++ [m]) := by
 unfold spec_FirstDrive.word strOfNums
 rw [List.map_append, List.map_append]
 apply ByteArray.ext
 simp
theorem spec_FirstDrive.enc (m : Nat) : Utf8.encode (impl_driveIn.sg m) = ⟨#[UInt8.ofNat (impl_driveIn.sg m).toNat]⟩ ∧ IntKind.i32.wrap (impl_driveIn.sg m) = impl_driveIn.sg m := by
 have c : impl_driveIn.sg m = 101 ∨ impl_driveIn.sg m = 110 ∨ impl_driveIn.sg m = 115 ∨ impl_driveIn.sg m = 119 := by unfold impl_driveIn.sg; split <;> (try split) <;> (try split) <;> simp
 rcases c with c | c | c | c <;> rw [c] <;> exact ⟨by decide, by decide⟩
theorem spec_FirstDrive.cells {W : World} {e base g n c : Nat} {ok : Nat → Prop} {far : List Int} (h : Kd.R (Kd.int .i64) e W base ok (.slice (some ⟨g, 0, none⟩) n c) far) (j : Nat) (hj : j < far.length) : W.cell? ⟨g, j, none⟩ = some (.int .i64 (rd far (j : Int))) := by
 have hn := (Kd.R_reads' h).1
 obtain ⟨ad, hA, hc⟩ := Kd.at_int (Kd.R_reads' h).2.2 (j : Int) (by omega) (by omega)
 injection hA with hA
 subst hA
 rw [Int.toNat_natCast, Addr.add_lit, Nat.zero_add] at hc
 exact hc
def spec_FirstDrive.f (k : Nat) (s t : ByteArray) (l1 l2 : List Int) : Option (ByteArray × Bool) := (spec_owAsked.f k s t l1 l2).bind fun b => if b = true then ((spec_owDistance.f k s t l1 l2).bind fun D => if D < 0 then some (⟨#[]⟩, false) else (spec_owBack.f k s t).bind fun bt => (spec_owFar.f k bt.1 bt.2 l2).bind fun far => if ((spec_owFar.Signs s t ∧ l1.length = 2) ∧ impl_driveIn.At s t (rd l1 0) (rd l1 1)) ∧ far.length = t.size * s.size ∧ D ≤ 64 then (spec_FirstDrive.fd far s t D.toNat (rd l1 0) (rd l1 1)).map (fun l => (spec_FirstDrive.word l, true)) else none) else some (⟨#[]⟩, false)
theorem spec_FirstDrive.calls (k : Nat) (a0_0 : ByteArray) (a0_1 : ByteArray) (A1 : Option Addr) (c1 : Nat) (l1 : List Int) (A2 : Option Addr) (c2 : Nat) (l2 : List Int) (r1 : ByteArray) (r2 : Bool) (w : World) (hr1 : Kd.C (Kd.int .i64) w A1 l1.length l1) (hc1 : l1.length ≤ c1) (hr2 : Kd.C (Kd.int .i64) w A2 l2.length l2) (hc2 : l2.length ≤ c2) (h : spec_FirstDrive.f k a0_0 a0_1 l1 l2 = some (r1, r2)) :
  Calls Try.prog 7 #[.agg #[.string a0_0, .string a0_1], .slice A1 l1.length c1, .slice A2 l2.length c2] w fun e w' => e = .returned (.tuple #[.string r1, .bool r2]) ∧ Below w.heap.size w w' := by
 unfold spec_FirstDrive.f at h
 obtain ⟨b, hb, h⟩ := Option.bind_eq_some_iff.1 h
 obtain ⟨wb, hwb⟩ : ∃ wb : World, w.alloc (.cells #[.string a0_0, .string a0_1] 25) = wb := ⟨_, rfl⟩
 have HBX := am (show wb.heap[w.heap.size]? = some (.cells #[.string a0_0, .string a0_1] 25 (0, 0)) by rw [← hwb]; exact heap_alloc_new _ _)
 have HB := am (show Below w.heap.size w wb by rw [← hwb]; exact below_alloc (Below.refl _ _) _)
 have HR1 := am (Kd.C_below hr1 HB.out)
 have HR2 := am (Kd.C_below hr2 HB.out)
 have hp0 : wb.cell? ⟨w.heap.size, 0, none⟩ = some (.string a0_0) := (blk_cell HBX.out 0).trans rfl
 have hp1 : wb.cell? ⟨w.heap.size, 1, none⟩ = some (.string a0_1) := (blk_cell HBX.out 1).trans rfl
 have HAs := am (fun (W : World) (h1 : Kd.C (Kd.int .i64) W A1 l1.length l1) (h2 : Kd.C (Kd.int .i64) W A2 l2.length l2) => spec_owAsked.calls k a0_0 a0_1 A1 c1 l1 A2 c2 l2 b W h1 hc1 h2 hc2 hb)
 clear hr1 hr2
 cases b with
 | false =>
  rw [if_neg (by simp)] at h
  simp only [Option.some.injEq, Prod.mk.injEq] at h
  obtain ⟨rfl, rfl⟩ := h
  go_enter Try.func7, Try.ntmps7
  go_wp2_with (go_at_call 33; refine (HAs.out _ HR1.out HR2.out).mono ?_; rintro e w1 ⟨rfl, hb1⟩; have HB1 := am (below_then HB.out HB.out.size hb1); clear hb1)
  go_ret2
  exact ⟨rfl, HB1.out⟩
 | true =>
  rw [if_pos rfl] at h
  obtain ⟨D, hD, h⟩ := Option.bind_eq_some_iff.1 h
  have HDs := am (fun (W : World) (h1 : Kd.C (Kd.int .i64) W A1 l1.length l1) (h2 : Kd.C (Kd.int .i64) W A2 l2.length l2) => spec_owDistance.calls k a0_0 a0_1 A1 c1 l1 A2 c2 l2 D W h1 hc1 h2 hc2 hD)
  by_cases q : D < 0
  ·rw [if_pos q] at h
   simp only [Option.some.injEq, Prod.mk.injEq] at h
   obtain ⟨rfl, rfl⟩ := h
   have qb : decide (D < 0) = true := decide_eq_true q
   clear hD q
   go_enter Try.func7, Try.ntmps7
   go_wp2_with (first | (go_at_call 33; refine (HAs.out _ HR1.out HR2.out).mono ?_; rintro e w1 ⟨rfl, hb1⟩; have HB1 := am (below_then HB.out HB.out.size hb1); have HR11 := am (Kd.C_below HR1.out hb1); have HR21 := am (Kd.C_below HR2.out hb1); have hp0 := pw_cell_below hb1 hp0; have hp1 := pw_cell_below hb1 hp1; clear hb1) | (go_at_call 34; refine (HDs.out _ HR11.out HR21.out).mono ?_; rintro e w2 ⟨rfl, hb2⟩; have HB2 := am (below_then HB1.out HB1.out.size hb2); clear hb2))
   go_ret2
   exact ⟨rfl, HB2.out⟩
  ·rw [if_neg q] at h
   obtain ⟨bt, hbt, h⟩ := Option.bind_eq_some_iff.1 h
   obtain ⟨far, hfar, h⟩ := Option.bind_eq_some_iff.1 h
   by_cases c : ((spec_owFar.Signs a0_0 a0_1 ∧ l1.length = 2) ∧ impl_driveIn.At a0_0 a0_1 (rd l1 0) (rd l1 1)) ∧ far.length = a0_1.size * a0_0.size ∧ D ≤ 64
   case neg => rw [if_neg c] at h; cases h
   rw [if_pos c] at h
   obtain ⟨T, hT, h⟩ := Option.map_eq_some_iff.1 h
   simp only [Prod.mk.injEq] at h
   obtain ⟨rfl, rfl⟩ := h
   obtain ⟨⟨⟨hG, hl⟩, ⟨x0, x1⟩, y0, y1⟩, hfl, hD64⟩ := c
   have qb : decide (D < 0) = false := decide_eq_false q
   have HG := am hG
   obtain ⟨t1, t8, s1, s8⟩ : 1 ≤ a0_1.size ∧ a0_1.size ≤ 8 ∧ 1 ≤ a0_0.size ∧ a0_0.size ≤ 8 := ⟨hG.1.1.1, hG.1.1.2, hG.1.2.1, hG.1.2.2⟩
   obtain ⟨nD, hnD⟩ := Int.eq_ofNat_of_zero_le (show 0 ≤ D by omega)
   subst hnD
   rw [Int.toNat_natCast] at hT
   obtain ⟨ad, rfl, hx0, hx1⟩ := spec_owDistance.two hl HR1.out
   obtain ⟨x, hx⟩ := Int.eq_ofNat_of_zero_le x0
   obtain ⟨y, hy⟩ := Int.eq_ofNat_of_zero_le y0
   rw [hx] at hx0 x1 hT
   rw [hy] at hx1 y1 hT
   have hxt : x < a0_1.size := by omega
   have hys : y < a0_0.size := by omega
   have HX0 := am hx0
   have HX1 := am hx1
   have HT := am hT
   have HFl := am hfl
   have HBs := am (fun (W : World) => spec_owBack.calls k a0_0 a0_1 bt.1 bt.2 W hbt)
   have HFs := am (fun (W : World) (h2 : Kd.C (Kd.int .i64) W A2 l2.length l2) => spec_owFar.calls k bt.1 bt.2 A2 c2 l2 far W h2 hc2 hfar)
   rw [hl] at HAs HDs HR1 ⊢
   clear hD q hbt hfar hl hG hT hfl hx hy x0 y0 hx0 hx1 x1 y1 hb
   go_enter Try.func7, Try.ntmps7
   go_wp2_with (first | (go_at_call 33; refine (HAs.out _ HR1.out HR2.out).mono ?_; rintro e w1 ⟨rfl, hb1⟩; have HBX1 := am ((hb1.block _ (Array.getElem?_eq_some_iff.1 HBX.out).1).trans HBX.out); have HB1 := am (below_then HB.out HB.out.size hb1); have HR11 := am (Kd.C_below HR1.out hb1); have HR21 := am (Kd.C_below HR2.out hb1); have HX01 := am (pw_cell_below hb1 HX0.out); have HX11 := am (pw_cell_below hb1 HX1.out); have hp0 := pw_cell_below hb1 hp0; have hp1 := pw_cell_below hb1 hp1; clear hb1) | (go_at_call 34; refine (HDs.out _ HR11.out HR21.out).mono ?_; rintro e w2 ⟨rfl, hb2⟩; have HBX2 := am ((hb2.block _ (Array.getElem?_eq_some_iff.1 HBX1.out).1).trans HBX1.out); have HB2 := am (below_then HB1.out HB1.out.size hb2); have HR12 := am (Kd.C_below HR11.out hb2); have HR22 := am (Kd.C_below HR21.out hb2); have HX02 := am (pw_cell_below hb2 HX01.out); have HX12 := am (pw_cell_below hb2 HX11.out); have hp0 := pw_cell_below hb2 hp0; have hp1 := pw_cell_below hb2 hp1; clear hb2 HBX1 HB1 HR11 HR21 HX01 HX11) | (go_at_call 36; refine (HBs.out _).mono ?_; rintro e w3 ⟨rfl, hb3⟩; have HBX3 := am ((hb3.block _ (Array.getElem?_eq_some_iff.1 HBX2.out).1).trans HBX2.out); have HB3 := am (below_then HB2.out HB2.out.size hb3); have HR13 := am (Kd.C_below HR12.out hb3); have HR23 := am (Kd.C_below HR22.out hb3); have HX03 := am (pw_cell_below hb3 HX02.out); have HX13 := am (pw_cell_below hb3 HX12.out); have hp0 := pw_cell_below hb3 hp0; have hp1 := pw_cell_below hb3 hp1; clear hb3) | (go_at_call 35; refine (HFs.out _ HR23.out).mono ?_; rintro e w4 ⟨v4, rfl, hR4, hb4⟩; have HBX4 := am ((hb4.block _ (Array.getElem?_eq_some_iff.1 HBX3.out).1).trans HBX3.out); have HB4 := am (below_then HB3.out HB3.out.size hb4); have HR14 := am (Kd.C_below HR13.out hb4); have HR24 := am (Kd.C_below HR23.out hb4); have hx0 := pw_cell_below hb4 HX03.out; have hx1 := pw_cell_below hb4 HX13.out; have HR4 := am hR4; have hp0 := pw_cell_below hb4 hp0; have hp1 := pw_cell_below hb4 hp1; clear hb4 hR4))
   clear hwb
   obtain ⟨A4, c4, e4⟩ := Kd.R_slice HR4.out
   subst e4
   have hn0 : 0 < far.length := by rw [HFl.out]; exact Nat.mul_pos (by omega) (by omega)
   have hn64 : far.length ≤ 64 := by rw [HFl.out]; exact Nat.le_trans (Nat.mul_le_mul t8 s8) (by decide)
   obtain ⟨ad4, hA4, -⟩ := Kd.at_int (Kd.R_reads' HR4.out).2.2 0 (by omega) (by omega)
   subst hA4
   obtain ⟨gf, rfl⟩ := Kd.R_head HR4.out
   go_quiet (fail)
   go_wp2_with (go_at_call 34; refine (HDs.out _ (Kd.C_drewN HR14.out nq) (Kd.C_drewN HR24.out nq)).mono ?_; rintro e w5 ⟨rfl, hb5⟩; have HBX5 := am ((hb5.block _ (Array.getElem?_eq_some_iff.1 HBX4.out).1).trans HBX4.out); have HB5 := am (below_then (pw_below_drewN HB4.out nq) (pw_below_drewN HB4.out nq).size hb5); have HFC := am (fun j hj => spec_FirstDrive.cells (Kd.R_below (Kd.R_drewN HR4.out nq) hb5) j hj); clear hb5)
   clear hx0 hx1 hp0 hp1 HX0 HX1 HR4 HR14 HR24 HBX4 HB4
   have hlenT := spec_FirstDrive.fd_len HT.out
   have HT0 := am (And.intro HT.out (show ([] : List Nat) ++ T = T from rfl))
   go_loopw [10, 11, 12, 13] (fun out xv yv lv wr => ∃ (x y n : Nat) (pre rest : List Nat), out = .string (spec_FirstDrive.word pre) ∧ xv = .int .i64 x ∧ yv = .int .i64 y ∧ lv = .int .i64 n ∧ x < a0_1.size ∧ y < a0_0.size ∧ pre.length + n ≤ 64 ∧ Aside0 (spec_FirstDrive.fd far a0_0 a0_1 n x y = some rest ∧ pre ++ rest = T) ∧ Aside0 (Below w5.heap.size w5 wr)) (fun _ _ _ lv _ => (intOf lv).toNat)
   case atStart => exact ⟨x, y, nD, [], T, rfl, rfl, rfl, rfl, hxt, hys, by simp; omega, HT0, ⟨Below.refl _ _⟩⟩
   case round =>
    clear HT0 HT hlenT hxt hys hD64 qb
    obtain ⟨x, y, L, pre, rest, rfl, rfl, rfl, rfl, hxt, hys, hlen, HW, HBw⟩ := hrel
    by_cases hL : 0 < L
    ·obtain ⟨n, rfl⟩ : ∃ n, L = n + 1 := ⟨L - 1, by omega⟩
     obtain ⟨m, rest', m4, hm, hno, hfd, rfl⟩ := spec_FirstDrive.fd_step HW.out.1
     have HM := am hm
     have HNo := am hno
     have HFD := am (And.intro hfd (show pre ++ (m :: rest') = T from HW.out.2))
     have HX := am (And.intro hxt hys)
     have HLen := am hlen
     obtain ⟨L, hLn⟩ : ∃ L, L = n + 1 := ⟨_, rfl⟩
     rw [← hLn]
     have HLn := am hLn
     have hLb : decide ((0 : Int) < (L : Int)) = true := decide_eq_true (by omega)
     have hL2 : 0 < L := by omega
     have ewl : IntKind.i64.wrap ((L : Int) - 1) = (n : Int) := by rw [i64_w, Go.Proofs.Ytdhdkkhbgfcoiaa.Lib.w64] <;> omega
     have kc := fun (w : World) (C : Array Value) (n c : Nat) => Go.Lib.run_convert_bytes_const (P := Try.prog) w 22 5 C n c Try.underlying22 Try.underlying5
     clear hm hno hfd HW hLn hL hlen
     go_wp2
     clear kc
     obtain ⟨wo, rfl⟩ : ∃ wo, wo = wr := ⟨wr, rfl⟩
     have HBa := am (below_then HBw.out HBw.out.size (below_alloc (Below.refl wo.heap.size wo) (Obj.cells #[.int .u8 101, .int .u8 110, .int .u8 115, .int .u8 119] 5 (4, 5))))
     have HY := am (show (wo.alloc (Obj.cells #[.int .u8 101, .int .u8 110, .int .u8 115, .int .u8 119] 5 (4, 5))).heap[wo.heap.size]? = some (.cells #[.int .u8 101, .int .u8 110, .int .u8 115, .int .u8 119] 5 (4, 5)) from heap_alloc_new _ _)
     clear HBw
     go_loopw [10, 11, 12, 55] (fun out xv yv jv wi => ∃ j : Nat, j ≤ m ∧ out = .string (spec_FirstDrive.word pre) ∧ xv = .int .i64 x ∧ yv = .int .i64 y ∧ jv = .int .i64 j ∧ Aside0 (Below w5.heap.size w5 wi) ∧ Aside0 (wi.heap[wo.heap.size]? = some (.cells #[.int .u8 101, .int .u8 110, .int .u8 115, .int .u8 119] 5 (4, 5)))) (fun _ _ _ jv _ => 4 - (intOf jv).toNat)
     case atStart => exact ⟨0, Nat.zero_le _, rfl, rfl, rfl, rfl, HBa, HY⟩
     case round =>
      clear HBa HY
      obtain ⟨j, hj, rfl, rfl, rfl, rfl, HBw, HY⟩ := hrel
      have hj4 : j < 4 := by omega
      have hsg : wr.cell? ⟨wo.heap.size, j, none⟩ = some (.int .u8 (impl_driveIn.sg j)) := by
       have cm : j = 0 ∨ j = 1 ∨ j = 2 ∨ j = 3 := by omega
       simp only [World.cell?, HY.out]
       rcases cm with rfl | rfl | rfl | rfl <;> rfl
      have hBXw := (HBw.out.block _ (Array.getElem?_eq_some_iff.1 HBX5.out).1).trans HBX5.out
      have hp0 : wr.cell? ⟨w.heap.size, 0, none⟩ = some (.string a0_0) := (blk_cell hBXw 0).trans rfl
      have hp1 : wr.cell? ⟨w.heap.size, 1, none⟩ = some (.string a0_1) := (blk_cell hBXw 1).trans rfl
      obtain ⟨ko, u, v, HOs, hmv⟩ := spec_owFar.one a0_0 a0_1 HG.out x y j (by omega) HX.out.1 HX.out.2
      cases hcan : impl_driveIn.can a0_0 a0_1 x y j with
      | false =>
       have hjm : j < m := Nat.lt_of_le_of_ne hj (fun e => by
        have z := HM.out
        rw [← e] at z
        unfold spec_FirstDrive.ok at z
        rw [hcan] at z
        simp at z)
       rw [hcan] at HOs
       replace HOs := am HOs
       clear hcan hmv
       go_wp2_with (go_at_call 37; refine (spec_owStep.calls ko a0_0 a0_1 (x : Int) (y : Int) (impl_driveIn.sg j) u v false _ HOs.out).mono ?_; rintro e w6 ⟨rfl, hb6⟩; have HB6 := am (below_then HBw.out HBw.out.size hb6); have HY6 := am ((hb6.block _ (Array.getElem?_eq_some_iff.1 HY.out).1).trans HY.out); clear hb6)
       go_roundw
       case rel => exact ⟨j + 1, hjm, rfl, rfl, rfl, by go_num, HB6, HY6⟩
       case measure => simp [intOf]; omega
      | true =>
       rw [hcan] at HOs
       replace HOs := am HOs
       obtain ⟨hu, hv⟩ := hmv hcan
       have hat := hcan
       unfold impl_driveIn.can at hat
       rw [Bool.and_eq_true, decide_eq_true_eq, ← hu, ← hv] at hat
       obtain ⟨ux, rfl⟩ := Int.eq_ofNat_of_zero_le hat.1.1.1
       obtain ⟨vy, rfl⟩ := Int.eq_ofNat_of_zero_le hat.1.2.1
       have hux : ux < a0_1.size := by have := hat.1.1.2; omega
       have hvy : vy < a0_0.size := by have := hat.1.2.2; omega
       obtain ⟨nx, hnx⟩ : ∃ nx, nx = ux * a0_0.size + vy := ⟨_, rfl⟩
       have hnxl : nx < far.length := by rw [hnx, HFl.out]; exact spec_owFar.cd_lt _ _ _ _ hux hvy
       obtain ⟨m2, hm2⟩ : ∃ m2, m2 = ux * a0_0.size := ⟨_, rfl⟩
       have hm2n : m2 ≤ nx := by omega
       have e3 : IntKind.i64.wrap ((ux : Int) * (a0_0.size : Int)) = (m2 : Int) := by rw [i64_w, ← Int.natCast_mul, ← hm2, Go.Proofs.Ytdhdkkhbgfcoiaa.Lib.w64] <;> omega
       have e4 : IntKind.i64.wrap ((m2 : Int) + (vy : Int)) = (nx : Int) := by rw [i64_w, Go.Proofs.Ytdhdkkhbgfcoiaa.Lib.w64] <;> omega
       obtain ⟨fv, hfv⟩ : ∃ fv, fv = rd far (nx : Int) := ⟨_, rfl⟩
       have hok : spec_FirstDrive.ok far a0_0 a0_1 n x y j = decide (fv = (n : Int)) := by
        unfold spec_FirstDrive.ok
        rw [hcan, Bool.true_and, ← hu, ← hv, hfv, hnx, Int.natCast_add, Int.natCast_mul]
       have HFV := am (show ∀ W : World, Below w5.heap.size w5 W → W.cell? ⟨gf, nx, none⟩ = some (.int .i64 fv) from fun W hW => by
        rw [hfv]
        exact (hW.cell (World.block_lt_of_cell? _ _ (HFC.out nx hnxl))).trans (HFC.out nx hnxl))
       have HUV := am (And.intro hux hvy)
       have HU := am (And.intro hu hv)
       clear hat hux hvy hnx hm2 hfv hcan hmv hu hv
       by_cases qe : fv = (n : Int)
       ·have qb : (fv == (n : Int)) = true := beq_iff_eq.2 qe
        have hjm : j = m := by
         rcases Nat.lt_or_ge j m with h' | h'
         ·have z := HNo.out j h'
          rw [hok, decide_eq_true qe] at z
          cases z
         ·omega
        subst hjm
        obtain ⟨henc, hw32⟩ := spec_FirstDrive.enc j
        have hwz := spec_FirstDrive.word_size pre
        have hz : (9223372036854775807 < pre.length + 1) = False := eq_false (by have := HLen.out; omega)
        clear hok qe
        go_wp2_with (go_at_call 37; refine (spec_owStep.calls ko a0_0 a0_1 (x : Int) (y : Int) (impl_driveIn.sg j) (ux : Int) (vy : Int) true _ HOs.out).mono ?_; rintro e w6 ⟨rfl, hb6⟩; have HB6 := am (below_then HBw.out HBw.out.size hb6); have HY6 := am ((hb6.block _ (Array.getElem?_eq_some_iff.1 HY.out).1).trans HY.out); have hcel := HFV.out _ HB6.out; clear hb6)
        go_roundw
        case rel => exact ⟨ux, vy, n, pre ++ [j], rest', by rw [← spec_FirstDrive.word_snoc], rfl, rfl, by go_num, HUV.out.1, HUV.out.2, by have := HLen.out; simp; omega, ⟨by rw [HU.out.1, HU.out.2]; exact HFD.out.1, by rw [← HFD.out.2]; simp⟩, HB6⟩
        case measure => have := HLn.out; simp [intOf]; omega
       ·have qb : (fv == (n : Int)) = false := beq_eq_false_iff_ne.2 qe
        have hjm : j < m := Nat.lt_of_le_of_ne hj (fun e => by
         have z := HM.out
         rw [← e, hok, decide_eq_false qe] at z
         cases z)
        clear hok qe
        go_wp2_with (go_at_call 37; refine (spec_owStep.calls ko a0_0 a0_1 (x : Int) (y : Int) (impl_driveIn.sg j) (ux : Int) (vy : Int) true _ HOs.out).mono ?_; rintro e w6 ⟨rfl, hb6⟩; have HB6 := am (below_then HBw.out HBw.out.size hb6); have HY6 := am ((hb6.block _ (Array.getElem?_eq_some_iff.1 HY.out).1).trans HY.out); have hcel := HFV.out _ HB6.out; clear hb6)
        go_roundw
        case rel => exact ⟨j + 1, hjm, rfl, rfl, rfl, by go_num, HB6, HY6⟩
        case measure => simp [intOf]; omega
    ·obtain rfl : L = 0 := by omega
     have e0 : rest = [] := by have z := HW.out.1; simp only [spec_FirstDrive.fd] at z; exact (Option.some.inj z).symm
     have HE := am (show pre = T by have z := HW.out.2; rw [e0] at z; simpa using z)
     clear e0 hL
     go_wp2
     go_ret2
     exact ⟨by rw [← HE.out]; rfl, below_then HB5.out HB5.out.size HBw.out⟩
end Go.Proofs.Ytdhdkkhbgfcoiaa.MX
