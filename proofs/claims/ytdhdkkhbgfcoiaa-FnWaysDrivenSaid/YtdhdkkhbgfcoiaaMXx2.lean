-- The machine side, written by this repo's program mp.py; contracts marked as of this repo are this session's own.
import Derived.Test.YtdhdkkhbgfcoiaaMXx0
import Derived.Test.YtdhdkkhbgfcoiaaMXx1
namespace Go.Proofs.Ytdhdkkhbgfcoiaa.MX
open Go.RowKit Go.Proofs.YtdhdkkhbgfcoiaaW.PrintWords Go.Proofs.YtdhdkkhbgfcoiaaW.PrintLast Go.Proofs.YtdhdkkhbgfcoiaaW.PrintMore
attribute [local go_sem] max2_int min2_int max_two min_two max_three min_three max_four min_four   -- for this text's walks alone
set_option maxHeartbeats 8000000
set_option maxRecDepth 100000
set_option linter.unusedVariables false
set_option linter.unusedSimpArgs false
mutual
def spec_l1Cur_sureWays.l0 : Nat → Int → List Int → Int → Int → ByteArray → ByteArray → Option (ByteArray × ByteArray × Int × Int)
 | 0, _, _, _, _, _, _ => none
 | k + 1, x4, x1000, x1001, x1002, x117000, x117001 => if x4 > 0 then ((spec_l1Cur_of.f x1000 x1001 x1002 (([(⟨#[101]⟩ : ByteArray), (⟨#[119]⟩ : ByteArray)] : List ByteArray))).bind fun bt123 => (if x117000.size + bt123.1.size ≤ 9223372036854775807 then (spec_l1Cur_sureWays.l0 k (wrap64 (x4 - 1)) x1000 bt123.2.1 bt123.2.2 (x117000 ++ bt123.1) x117001) else (none))) else ((spec_l1Cur_pick.f x1000 x1001 x1002 4).bind fun bt126 => (spec_l1Cur_sureWays.l1 k (wrap64 (2 + bt126.1)) x1000 bt126.2.1 bt126.2.2 x117000 x117001))
def spec_l1Cur_sureWays.l1 : Nat → Int → List Int → Int → Int → ByteArray → ByteArray → Option (ByteArray × ByteArray × Int × Int)
 | 0, _, _, _, _, _, _ => none
 | k + 1, x5, x1000, x1001, x1002, x117000, x117001 => if x5 > 0 then ((spec_l1Cur_of.f x1000 x1001 x1002 (([(⟨#[110]⟩ : ByteArray), (⟨#[115]⟩ : ByteArray)] : List ByteArray))).bind fun bt132 => (if x117001.size + bt132.1.size ≤ 9223372036854775807 then (spec_l1Cur_sureWays.l1 k (wrap64 (x5 - 1)) x1000 bt132.2.1 bt132.2.2 x117000 (x117001 ++ bt132.1)) else (none))) else ((spec_l1Cur_one.f x1000 x1001 x1002 3).bind fun bt135 => (if bt135.1 = true then (if 1 ≤ (wrap64 ((x117000.size : Int) - 1)) then (if (wrap64 ((x117000.size : Int) - 1)) ≤ (x117000.size : Int) then (if 1 + (x117000.extract 1 ((wrap64 ((x117000.size : Int) - 1)) : Int).toNat).size ≤ 9223372036854775807 then (if ((⟨#[101]⟩ : ByteArray) ++ (x117000.extract 1 ((wrap64 ((x117000.size : Int) - 1)) : Int).toNat)).size + 1 ≤ 9223372036854775807 then (if 1 ≤ (wrap64 ((x117001.size : Int) - 1)) then (if (wrap64 ((x117001.size : Int) - 1)) ≤ (x117001.size : Int) then (if 1 + (x117001.extract 1 ((wrap64 ((x117001.size : Int) - 1)) : Int).toNat).size ≤ 9223372036854775807 then (if ((⟨#[115]⟩ : ByteArray) ++ (x117001.extract 1 ((wrap64 ((x117001.size : Int) - 1)) : Int).toNat)).size + 1 ≤ 9223372036854775807 then (some (((⟨#[101]⟩ : ByteArray) ++ (x117000.extract 1 ((wrap64 ((x117000.size : Int) - 1)) : Int).toNat)) ++ (⟨#[119]⟩ : ByteArray), ((⟨#[115]⟩ : ByteArray) ++ (x117001.extract 1 ((wrap64 ((x117001.size : Int) - 1)) : Int).toNat)) ++ (⟨#[110]⟩ : ByteArray), bt135.2.1, bt135.2.2)) else (none)) else (none)) else (none)) else (none)) else (none)) else (none)) else (none)) else (none)) else (some (x117000, x117001, bt135.2.1, bt135.2.2))))
end
def spec_l1Cur_sureWays.f (k : Nat) (s0_0 : List Int) (s0_1 : Int) (s0_2 : Int) : Option (ByteArray × ByteArray × Int × Int) := (spec_l1Cur_pick.f s0_0 s0_1 s0_2 4).bind fun bt117 => (spec_l1Cur_sureWays.l0 k (wrap64 (2 + bt117.1)) s0_0 bt117.2.1 bt117.2.2 (⟨#[]⟩ : ByteArray) (⟨#[]⟩ : ByteArray))
def spec_l1Cur_sureWays.T5 : Bool × List (List Nat × List Nat) := (true, [([], []), ([0], [0]), ([], []), ([], []), ([2, 3], [2, 3]), ([1, 4], [1, 4]), ([0, 1, 2, 3, 4, 5], []), ([6, 5, 4, 0, 1, 2, 3, 4, 5], [5, 6])])
def spec_l1Cur_sureWays.B5 : List Nat := [0, 1, 0, 0, 12, 31, 63, 127]
theorem spec_l1Cur_sureWays.tab5 : rtab .any (opsOf Try.f81 5) = spec_l1Cur_sureWays.T5 := by kernel_rfl
theorem spec_l1Cur_sureWays.bits5 : waitsOk spec_l1Cur_sureWays.T5.2 spec_l1Cur_sureWays.B5 = true := by kernel_rfl
def spec_l1Cur_sureWays.T9 : Bool × List (List Nat × List Nat) := (true, [([], []), ([0], [0]), ([], []), ([], []), ([2, 3], [2, 3]), ([1, 4], [1, 4]), ([0, 1, 2, 3, 4, 5], []), ([6, 5, 4, 0, 1, 2, 3, 4, 5], [5, 6])])
def spec_l1Cur_sureWays.B9 : List Nat := [0, 1, 0, 0, 12, 31, 63, 127]
theorem spec_l1Cur_sureWays.tab9 : rtab .any (opsOf Try.f81 9) = spec_l1Cur_sureWays.T9 := by kernel_rfl
theorem spec_l1Cur_sureWays.bits9 : waitsOk spec_l1Cur_sureWays.T9.2 spec_l1Cur_sureWays.B9 = true := by kernel_rfl
theorem spec_l1Cur_sureWays.calls (k : Nat) (g : Nat) (s0_0 : List Int) (s0_1 : Int) (s0_2 : Int) (r1 : ByteArray) (r2 : ByteArray) (r3 : Int) (r4 : Int) (w0 w : World) (hI : IsS71 w0 w g s0_0 s0_1 s0_2) (hB : Below w0.heap.size w0 w) (h : spec_l1Cur_sureWays.f k s0_0 s0_1 s0_2 = some (r1, r2, r3, r4)) :
  Calls Try.prog 81 #[.pointer (some ⟨g, 0, none⟩)] w fun e w' => e = .returned (.agg #[.string r1, .string r2]) ∧ IsS71 w0 w' g s0_0 r3 r4 ∧ Below w0.heap.size w0 w' ∧ KeepBut w w' g none := by
 have hu25 := Try.underlying25
 have HI0 := am hI
 have HK := am (KeepBut.refl w g none)
 have HL := am hB.size
 clear hI
 have HW0 := am hB.size
 have HB := am hB
 clear hB
 unfold spec_l1Cur_sureWays.f at h
 have H := h
 clear h
 obtain ⟨⟨t117, t118, t119⟩, A2, H⟩ := bnd_ H
 try dsimp only at H
 have H' := am H
 clear H
 go_enter Try.func81, Try.ntmps81
 go_wp2_with (first | ((with_reducible refine gate_dst (N := 2) rfl ?_); refine bx_ 2 (#[.string (⟨#[]⟩ : ByteArray), .string (⟨#[]⟩ : ByteArray)]) 25 ?_; intro gb115 hg w3 hbox hb; replace HB := am (below_step HB.out hb); have BK115 := am (hbox); have GW115 := am ((by rw [hg]; exact (keep_size (w := w) (g := g) (row := none) HK.out) : w.heap.size ≤ gb115)); have GE115 := am ((Nat.le_trans HW0.out (by rw [hg]; exact (keep_size (w := w) (g := g) (row := none) HK.out) : w.heap.size ≤ gb115) : w0.heap.size ≤ gb115)); replace HK := am (KeepBut.trans HK.out (KeepBut.of_below hb g none) (.inl rfl)); have NB0_115 := am ((by rw [hg]; exact Nat.ne_of_lt (IsS71.lt (show IsS71 w0 _ g s0_0 s0_1 s0_2 from by exact HI0.out)) : g ≠ gb115)); have NB115_0 := am ((by rw [hg]; exact Nat.ne_of_gt (IsS71.lt (show IsS71 w0 _ g s0_0 s0_1 s0_2 from by exact HI0.out)) : gb115 ≠ g)); replace HI0 := am (IsS71.below HI0.out hb); clear hb hbox hg) | ((with_reducible refine gate_dst (N := 3) rfl ?_); refine bx_ 3 (#[.string (⟨#[]⟩ : ByteArray), .string (⟨#[]⟩ : ByteArray)]) 25 ?_; intro gb116 hg w4 hbox hb; replace HB := am (below_step HB.out hb); have BK116 := am (hbox); have GW116 := am ((by rw [hg]; exact (keep_size (w := w) (g := g) (row := none) HK.out) : w.heap.size ≤ gb116)); have GE116 := am ((Nat.le_trans HW0.out (by rw [hg]; exact (keep_size (w := w) (g := g) (row := none) HK.out) : w.heap.size ≤ gb116) : w0.heap.size ≤ gb116)); replace HK := am (KeepBut.trans HK.out (KeepBut.of_below hb g none) (.inl rfl)); have NB115_116 := am ((by rw [hg]; exact Nat.ne_of_lt (blk_lt (g := gb115) (o := .cells #[.string (⟨#[]⟩ : ByteArray), .string (⟨#[]⟩ : ByteArray)] 25 (0, 0)) BK115.out) : gb115 ≠ gb116)); have NB116_115 := am ((by rw [hg]; exact Nat.ne_of_gt (blk_lt (g := gb115) (o := .cells #[.string (⟨#[]⟩ : ByteArray), .string (⟨#[]⟩ : ByteArray)] 25 (0, 0)) BK115.out) : gb116 ≠ gb115)); replace BK115 := am (blk_below BK115.out hb); have NB0_116 := am ((by rw [hg]; exact Nat.ne_of_lt (IsS71.lt (show IsS71 w0 _ g s0_0 s0_1 s0_2 from by exact HI0.out)) : g ≠ gb116)); have NB116_0 := am ((by rw [hg]; exact Nat.ne_of_gt (IsS71.lt (show IsS71 w0 _ g s0_0 s0_1 s0_2 from by exact HI0.out)) : gb116 ≠ g)); replace HI0 := am (IsS71.below HI0.out hb); clear hb hbox hg) | ((with_reducible refine gate_callee (f := 52) rfl ?_); refine gl_ 7 Try.func52 #[.pointer (some ⟨g, 0, none⟩), .int .i64 4] ?_; (with_reducible refine (spec_l1Cur_pick.calls g s0_0 s0_1 s0_2 4 t117 t118 t119 w0 _ (HI0.out) ?side2 A2.out).mono ?_); (case side2 => repeat (with_reducible first | exact HB.out)); rintro e w5 ⟨rfl, hi, hb, hk⟩; refine ⟨_, rfl, ?_⟩; replace BK115 := am (KeepBut.blk hk BK115.out NB115_0.out (by simp)); replace BK116 := am (KeepBut.blk hk BK116.out NB116_0.out (by simp)); replace HK := am (KeepBut.trans HK.out hk (.inl rfl)); replace HB := am (hb); replace HI0 := am (hi); (try clear hb); (try clear hk); (try clear hi)))
 go_loopg [4] k (fun kq v4 w' => ∃ (x4_1 : Int) (x1001_1 : Int) (x1002_1 : Int) (x117000_1 : ByteArray), v4 = .int .i64 x4_1 ∧ Aside0 (spec_l1Cur_sureWays.l0 kq x4_1 s0_0 x1001_1 x1002_1 x117000_1 (⟨#[]⟩ : ByteArray) = some (r1, r2, r3, r4)) ∧ Aside0 (kq ≤ k) ∧ Aside0 (w'.heap[gb115]? = some (.cells #[.string (⟨#[]⟩ : ByteArray), .string (⟨#[]⟩ : ByteArray)] 25 (0, 0))) ∧ Aside0 (w'.heap[gb116]? = some (.cells #[.string x117000_1, .string (⟨#[]⟩ : ByteArray)] 25 (0, 0))) ∧ Aside0 (IsS71 w0 w' g s0_0 x1001_1 x1002_1) ∧ Aside0 (KeepBut w w' g none) ∧ Aside0 (Below w0.heap.size w0 w'))
 case atStart => exact ⟨(wrap64 (2 + t117)), (t118), (t119), ((⟨#[]⟩ : ByteArray)), (by rfl), H', ⟨Nat.le_refl _⟩, ⟨by (with_reducible skip); exact BK115.out⟩, ⟨by (with_reducible skip); exact BK116.out⟩, ⟨by exact HI0.out⟩, ⟨by exact HK.out⟩, ⟨by exact HB.out⟩⟩
 case round =>
  clear H'
  obtain ⟨x4_1, x1001_1, x1002_1, x117000_1, rfl, HA, HK1, BK115, BK116, HI0, HK, HB⟩ := hrel
  cases gk with
  | zero => exact absurd HA.out (by simp [spec_l1Cur_sureWays.l0])
  | succ k1 =>
   have H := HA.out
   clear HA
   simp only [spec_l1Cur_sureWays.l0] at H
   by_cases c6 : x4_1 > 0
   ·rw [if_pos c6] at H
    have c6b0 : decide (0 < x4_1) = true := decide_eq_true c6
    clear c6
    obtain ⟨y120, hy120⟩ : ∃ y_ : List ByteArray, y_ = (([(⟨#[101]⟩ : ByteArray), (⟨#[119]⟩ : ByteArray)] : List ByteArray)) := ⟨_, rfl⟩
    rw [← hy120] at H
    have Ny120 := am hy120
    clear hy120
    obtain ⟨⟨t123, t124, t125⟩, A7, H⟩ := bnd_ H
    try dsimp only at H
    by_cases c8 : x117000_1.size + t123.size ≤ 9223372036854775807
    ·rw [if_pos c8] at H
     have c8b0 := eq_true c8
     have c8b1 : decide (x117000_1.size + t123.size ≤ 9223372036854775807) = true := decide_eq_true c8
     try have c8b2 : (9223372036854775807 < x117000_1.size + t123.size) = False := eq_false (Nat.not_lt.2 c8)
     have H' := am H
     clear H
     try go_wp2
     replace BK115 := am (blk_drew BK115.out)
     replace BK116 := am (blk_drew BK116.out)
     replace HI0 := am (IsS71.drew HI0.out)
     replace HK := am (keep_drew HK.out)
     replace HB := am (below_drew1 HB.out)
     refine start_ (n := 8) (S := fun w' => w'.cell? ⟨gb116, 0, none⟩ = some (.string x117000_1) ∧ w'.cell? ⟨gb116, 1, none⟩ = some (.string (⟨#[]⟩ : ByteArray))) (ds := [7]) #[false, false, false, false, false, false, false, false] (by kernel_rfl) rfl rfl ⟨(blk_cell BK116.out 0).trans rfl, (blk_cell BK116.out 1).trans rfl⟩ (fun hHeld => ?_); refine with_tabW spec_l1Cur_sureWays.tab5 spec_l1Cur_sureWays.bits5 (fun HT_ HW_ => ?_)
     generalize wr.drew = w9 at BK115 BK116 HI0 HK HB hHeld ⊢
     refine pu_ 0 13 (fl_ 8 1) HT_ ?_
     refine pu_ 2 15 (fl_ 8 5) HT_ ?_
     refine tk_ 1 14 (fl_ 8 7) HT_ HW_ hHeld ?_ (hy := by rintro w' ⟨s0, s1⟩; go_simp; with_reducible rfl)
     refine on_ 3 16 (fl_ 8 15) HT_ fun K hK => ?_
     refine Kd.R_lit_step Kd.string _ 9 ?hg (N := 16) ?hd (xs := ([(⟨#[101]⟩ : ByteArray), (⟨#[119]⟩ : ByteArray)] : List ByteArray)) (inner := [.string (⟨#[101]⟩ : ByteArray), .string (⟨#[119]⟩ : ByteArray)]) (ok := fun _ => True) (okp := fun _ => True) ?hr ?hp (fun _ hk => hk) trivial (Below.refl _ _) (Nat.le_refl _) (by simp) ?_; (case hd => rfl); (case hg => rfl); (case hr => go_simp; done); (case hp => exact (Reps.one (show Kd.M Kd.string _ _ _ (⟨#[101]⟩ : ByteArray) [.string (⟨#[101]⟩ : ByteArray)] from rfl) (Reps.one (show Kd.M Kd.string _ _ _ (⟨#[119]⟩ : ByteArray) [.string (⟨#[119]⟩ : ByteArray)] from rfl) (Reps.none _ _))))
     intro v121 w10 ho11 hb hg_ hnew_
     clear hg_ hnew_
     (rw [← Ny120.out] at ho11)
     have HO122 := am (Kd.R_lower ho11 (keep_size (w := w) (g := g) (row := none) HK.out))
     replace BK115 := am (blk_below BK115.out hb)
     replace BK116 := am (blk_below BK116.out hb)
     replace HI0 := am (IsS71.below HI0.out hb)
     replace HK := am (KeepBut.trans HK.out (KeepBut.of_below hb g none) (.inl rfl))
     replace HB := am (below_step HB.out hb)
     clear hb ho11
     obtain ⟨Ao12, co12, eo12⟩ := Kd.R_slice HO122.out
     (subst eo12)
     refine hK.out _ _ ⟨(blk_cell BK116.out 0).trans rfl, (blk_cell BK116.out 1).trans rfl⟩ (fun hHeld => ?_)
     clear hK K
     refine nm_ 16 ?_
     refine on_ 4 17 (fl_ 8 31) HT_ fun K hK => ?_
     refine gs_ Try.func53 #[.pointer (some ⟨g, 0, none⟩), .slice Ao12 y120.length co12] ?_
     with_reducible refine (spec_l1Cur_of.calls g s0_0 x1001_1 x1002_1 _ _ y120 t123 t124 t125 w0 _ ?side1 ?side2 ?side3 ?side4 ?side5 A7.out).mono ?_
     (case side1 => repeat (with_reducible first | exact HI0.out))
     (case side2 => repeat (with_reducible first | exact HB.out))
     (case side3 => repeat (exact (Kd.R_reads' HO122.out).2.2))
     (case side4 => exact (Kd.R_reads' HO122.out).2.1)
     (case side5 => exact far_slice (IsS71.own_ne HI0.out HO122.out (by decide)))
     rintro e w13 ⟨rfl, hi, hb, hk⟩
     refine ⟨_, rfl, ?_⟩
     replace BK115 := am (KeepBut.blk hk BK115.out NB115_0.out (by simp))
     replace BK116 := am (KeepBut.blk hk BK116.out NB116_0.out (by simp))
     replace HO122 := am (Kd.R_mono (Kd.R_keep (IsS71.apart (show IsS71 w0 _ g s0_0 x1001_1 x1002_1 from by exact HI0.out) HO122.out (by decide)) hk (fun _ h => h.2)) (fun _ h => h.1))
     replace HK := am (KeepBut.trans HK.out hk (.inl rfl))
     replace HB := am (hb)
     replace HI0 := am (hi)
     (try clear hb)
     (try clear hk)
     (try clear hi)
     refine hK.out _ _ ⟨(blk_cell BK116.out 0).trans rfl, (blk_cell BK116.out 1).trans rfl⟩ (fun hHeld => ?_)
     clear hK K
     refine nm_ 17 ?_
     refine pu_ 5 18 (fl_ 8 63) HT_ ?_
     refine pu_ 6 19 (fl_ 8 127) HT_ ?_
     refine last_ (i := 7) (N := none) #[true, true, true, true, true, true, true, true] rfl rfl (one_of HT_.out (by kernel_rfl)) (by decide) (fun K hK => ?_)
     have hs14 : w13.cell? ⟨gb116, 0, none⟩ = some (.string x117000_1) := (blk_cell BK116.out 0).trans rfl
     have hfs14 := blk_frozen BK116.out 0
     have hns14_0 := NB115_116.out
     have hms14_0 := NB116_115.out
     refine skip_ (w1 := ?_) (by rfl) rfl ?_ ?_
     rotate_left
     ·go_simp
      rfl
     refine hK.out _ _ ?_
     clear hK K
     refine done_ (done_of HT_.out (by kernel_rfl)) ?_
     try go_wp2
     go_roundg k1
     case measure => have := HK1.out; omega
     case rel => exact ⟨(wrap64 (x4_1 - 1)), (t124), (t125), (x117000_1 ++ t123), (by rfl), H', ⟨by have := HK1.out; omega⟩, ⟨by (with_reducible skip); refine blk_far ?_ NB115_116.out _; (with_reducible skip); exact BK115.out⟩, ⟨by (with_reducible skip); refine blk_put (cs := #[.string x117000_1, .string (⟨#[]⟩ : ByteArray)]) ?_ 0 _ rfl; (with_reducible skip); exact BK116.out⟩, ⟨by repeat (with_reducible first | exact HI0.out | refine IsS71.far ?_ NB0_116.out _)⟩, ⟨by repeat (with_reducible first | exact HK.out | refine keep_far ?_ GW116.out _)⟩, ⟨by repeat (with_reducible first | exact HB.out | refine below_set ?_ GE116.out)⟩⟩
    ·rw [if_neg c8] at H
     exact absurd H (by simp)
   ·rw [if_neg c6] at H
    have c6b0 : decide (0 < x4_1) = false := decide_eq_false c6
    clear c6
    obtain ⟨⟨t126, t127, t128⟩, A15, H⟩ := bnd_ H
    try dsimp only at H
    have H' := am H
    clear H
    go_wp2_with ((with_reducible refine gate_callee (f := 52) rfl ?_); refine gl_ 21 Try.func52 #[.pointer (some ⟨g, 0, none⟩), .int .i64 4] ?_; (with_reducible refine (spec_l1Cur_pick.calls g s0_0 x1001_1 x1002_1 4 t126 t127 t128 w0 _ (HI0.out) ?side2 A15.out).mono ?_); (case side2 => repeat (with_reducible first | exact HB.out)); rintro e w16 ⟨rfl, hi, hb, hk⟩; refine ⟨_, rfl, ?_⟩; replace BK115 := am (KeepBut.blk hk BK115.out NB115_0.out (by simp)); replace BK116 := am (KeepBut.blk hk BK116.out NB116_0.out (by simp)); replace HK := am (KeepBut.trans HK.out hk (.inl rfl)); replace HB := am (hb); replace HI0 := am (hi); (try clear hb); (try clear hk); (try clear hi))
    go_loopg [5] k1 (fun kq v5 w' => ∃ (x5_2 : Int) (x1001_2 : Int) (x1002_2 : Int) (x117001_2 : ByteArray), v5 = .int .i64 x5_2 ∧ Aside0 (spec_l1Cur_sureWays.l1 kq x5_2 s0_0 x1001_2 x1002_2 x117000_1 x117001_2 = some (r1, r2, r3, r4)) ∧ Aside0 (kq ≤ k1) ∧ Aside0 (w'.heap[gb115]? = some (.cells #[.string (⟨#[]⟩ : ByteArray), .string (⟨#[]⟩ : ByteArray)] 25 (0, 0))) ∧ Aside0 (w'.heap[gb116]? = some (.cells #[.string x117000_1, .string x117001_2] 25 (0, 0))) ∧ Aside0 (IsS71 w0 w' g s0_0 x1001_2 x1002_2) ∧ Aside0 (KeepBut w w' g none) ∧ Aside0 (Below w0.heap.size w0 w'))
    case atStart => exact ⟨(wrap64 (2 + t126)), (t127), (t128), ((⟨#[]⟩ : ByteArray)), (by rfl), H', ⟨Nat.le_refl _⟩, ⟨by (with_reducible skip); exact BK115.out⟩, ⟨by (with_reducible skip); exact BK116.out⟩, ⟨by exact HI0.out⟩, ⟨by exact HK.out⟩, ⟨by exact HB.out⟩⟩
    case round =>
     clear H'
     try clear c6b0
     obtain ⟨x5_2, x1001_2, x1002_2, x117001_2, rfl, HA, HK2, BK115, BK116, HI0, HK, HB⟩ := hrel
     cases gk with
     | zero => exact absurd HA.out (by simp [spec_l1Cur_sureWays.l1])
     | succ k2 =>
      have H := HA.out
      clear HA
      simp only [spec_l1Cur_sureWays.l1] at H
      by_cases c17 : x5_2 > 0
      ·rw [if_pos c17] at H
       have c17b0 : decide (0 < x5_2) = true := decide_eq_true c17
       clear c17
       obtain ⟨y129, hy129⟩ : ∃ y_ : List ByteArray, y_ = (([(⟨#[110]⟩ : ByteArray), (⟨#[115]⟩ : ByteArray)] : List ByteArray)) := ⟨_, rfl⟩
       rw [← hy129] at H
       have Ny129 := am hy129
       clear hy129
       obtain ⟨⟨t132, t133, t134⟩, A18, H⟩ := bnd_ H
       try dsimp only at H
       by_cases c19 : x117001_2.size + t132.size ≤ 9223372036854775807
       ·rw [if_pos c19] at H
        have c19b0 := eq_true c19
        have c19b1 : decide (x117001_2.size + t132.size ≤ 9223372036854775807) = true := decide_eq_true c19
        try have c19b2 : (9223372036854775807 < x117001_2.size + t132.size) = False := eq_false (Nat.not_lt.2 c19)
        have H' := am H
        clear H
        try go_wp2
        replace BK115 := am (blk_drew BK115.out)
        replace BK116 := am (blk_drew BK116.out)
        replace HI0 := am (IsS71.drew HI0.out)
        replace HK := am (keep_drew HK.out)
        replace HB := am (below_drew1 HB.out)
        refine start_ (n := 8) (S := fun w' => w'.cell? ⟨gb116, 0, none⟩ = some (.string x117000_1) ∧ w'.cell? ⟨gb116, 1, none⟩ = some (.string x117001_2)) (ds := [7]) #[false, false, false, false, false, false, false, false] (by kernel_rfl) rfl rfl ⟨(blk_cell BK116.out 0).trans rfl, (blk_cell BK116.out 1).trans rfl⟩ (fun hHeld => ?_); refine with_tabW spec_l1Cur_sureWays.tab9 spec_l1Cur_sureWays.bits9 (fun HT_ HW_ => ?_)
        generalize wr.drew = w20 at BK115 BK116 HI0 HK HB hHeld ⊢
        refine pu_ 0 27 (fl_ 8 1) HT_ ?_
        refine pu_ 2 29 (fl_ 8 5) HT_ ?_
        refine tk_ 1 28 (fl_ 8 7) HT_ HW_ hHeld ?_ (hy := by rintro w' ⟨s0, s1⟩; go_simp; with_reducible rfl)
        refine on_ 3 30 (fl_ 8 15) HT_ fun K hK => ?_
        refine Kd.R_lit_step Kd.string _ 9 ?hg (N := 30) ?hd (xs := ([(⟨#[110]⟩ : ByteArray), (⟨#[115]⟩ : ByteArray)] : List ByteArray)) (inner := [.string (⟨#[110]⟩ : ByteArray), .string (⟨#[115]⟩ : ByteArray)]) (ok := fun _ => True) (okp := fun _ => True) ?hr ?hp (fun _ hk => hk) trivial (Below.refl _ _) (Nat.le_refl _) (by simp) ?_; (case hd => rfl); (case hg => rfl); (case hr => go_simp; done); (case hp => exact (Reps.one (show Kd.M Kd.string _ _ _ (⟨#[110]⟩ : ByteArray) [.string (⟨#[110]⟩ : ByteArray)] from rfl) (Reps.one (show Kd.M Kd.string _ _ _ (⟨#[115]⟩ : ByteArray) [.string (⟨#[115]⟩ : ByteArray)] from rfl) (Reps.none _ _))))
        intro v130 w21 ho22 hb hg_ hnew_
        clear hg_ hnew_
        (rw [← Ny129.out] at ho22)
        have HO131 := am (Kd.R_lower ho22 (keep_size (w := w) (g := g) (row := none) HK.out))
        replace BK115 := am (blk_below BK115.out hb)
        replace BK116 := am (blk_below BK116.out hb)
        replace HI0 := am (IsS71.below HI0.out hb)
        replace HK := am (KeepBut.trans HK.out (KeepBut.of_below hb g none) (.inl rfl))
        replace HB := am (below_step HB.out hb)
        clear hb ho22
        obtain ⟨Ao23, co23, eo23⟩ := Kd.R_slice HO131.out
        (subst eo23)
        refine hK.out _ _ ⟨(blk_cell BK116.out 0).trans rfl, (blk_cell BK116.out 1).trans rfl⟩ (fun hHeld => ?_)
        clear hK K
        refine nm_ 30 ?_
        refine on_ 4 31 (fl_ 8 31) HT_ fun K hK => ?_
        refine gs_ Try.func53 #[.pointer (some ⟨g, 0, none⟩), .slice Ao23 y129.length co23] ?_
        with_reducible refine (spec_l1Cur_of.calls g s0_0 x1001_2 x1002_2 _ _ y129 t132 t133 t134 w0 _ ?side1 ?side2 ?side3 ?side4 ?side5 A18.out).mono ?_
        (case side1 => repeat (with_reducible first | exact HI0.out))
        (case side2 => repeat (with_reducible first | exact HB.out))
        (case side3 => repeat (exact (Kd.R_reads' HO131.out).2.2))
        (case side4 => exact (Kd.R_reads' HO131.out).2.1)
        (case side5 => exact far_slice (IsS71.own_ne HI0.out HO131.out (by decide)))
        rintro e w24 ⟨rfl, hi, hb, hk⟩
        refine ⟨_, rfl, ?_⟩
        replace BK115 := am (KeepBut.blk hk BK115.out NB115_0.out (by simp))
        replace BK116 := am (KeepBut.blk hk BK116.out NB116_0.out (by simp))
        replace HO131 := am (Kd.R_mono (Kd.R_keep (IsS71.apart (show IsS71 w0 _ g s0_0 x1001_2 x1002_2 from by exact HI0.out) HO131.out (by decide)) hk (fun _ h => h.2)) (fun _ h => h.1))
        replace HK := am (KeepBut.trans HK.out hk (.inl rfl))
        replace HB := am (hb)
        replace HI0 := am (hi)
        (try clear hb)
        (try clear hk)
        (try clear hi)
        refine hK.out _ _ ⟨(blk_cell BK116.out 0).trans rfl, (blk_cell BK116.out 1).trans rfl⟩ (fun hHeld => ?_)
        clear hK K
        refine nm_ 31 ?_
        refine pu_ 5 32 (fl_ 8 63) HT_ ?_
        refine pu_ 6 33 (fl_ 8 127) HT_ ?_
        refine last_ (i := 7) (N := none) #[true, true, true, true, true, true, true, true] rfl rfl (one_of HT_.out (by kernel_rfl)) (by decide) (fun K hK => ?_)
        have hs25 : w24.cell? ⟨gb116, 1, none⟩ = some (.string x117001_2) := (blk_cell BK116.out 1).trans rfl
        have hfs25 := blk_frozen BK116.out 1
        have hns25_0 := NB115_116.out
        have hms25_0 := NB116_115.out
        refine skip_ (w1 := ?_) (by rfl) rfl ?_ ?_
        rotate_left
        ·go_simp
         rfl
        refine hK.out _ _ ?_
        clear hK K
        refine done_ (done_of HT_.out (by kernel_rfl)) ?_
        try go_wp2
        go_roundg k2
        case measure => have := HK1.out; have := HK2.out; omega
        case rel => exact ⟨(wrap64 (x5_2 - 1)), (t133), (t134), (x117001_2 ++ t132), (by rfl), H', ⟨by have := HK1.out; have := HK2.out; omega⟩, ⟨by (with_reducible skip); refine blk_far ?_ NB115_116.out _; (with_reducible skip); exact BK115.out⟩, ⟨by (with_reducible skip); refine blk_put (cs := #[.string x117000_1, .string x117001_2]) ?_ 1 _ rfl; (with_reducible skip); exact BK116.out⟩, ⟨by repeat (with_reducible first | exact HI0.out | refine IsS71.far ?_ NB0_116.out _)⟩, ⟨by repeat (with_reducible first | exact HK.out | refine keep_far ?_ GW116.out _)⟩, ⟨by repeat (with_reducible first | exact HB.out | refine below_set ?_ GE116.out)⟩⟩
       ·rw [if_neg c19] at H
        exact absurd H (by simp)
      ·rw [if_neg c17] at H
       have c17b0 : decide (0 < x5_2) = false := decide_eq_false c17
       clear c17
       obtain ⟨⟨t135, t136, t137⟩, A26, H⟩ := bnd_ H
       try dsimp only at H
       by_cases c27 : t135 = true
       ·subst c27
        rw [if_pos rfl] at H
        by_cases c28 : 1 ≤ (wrap64 ((x117000_1.size : Int) - 1))
        ·rw [if_pos c28] at H
         have c28b0 := eq_true c28
         have c28b1 : decide (1 ≤ (wrap64 ((x117000_1.size : Int) - 1))) = true := decide_eq_true c28
         clear c28
         by_cases c29 : (wrap64 ((x117000_1.size : Int) - 1)) ≤ (x117000_1.size : Int)
         ·rw [if_pos c29] at H
          have c29b0 := eq_true c29
          have c29b1 : decide ((wrap64 ((x117000_1.size : Int) - 1)) ≤ (x117000_1.size : Int)) = true := decide_eq_true c29
          clear c29
          by_cases c30 : 1 + (x117000_1.extract 1 ((wrap64 ((x117000_1.size : Int) - 1)) : Int).toNat).size ≤ 9223372036854775807
          ·rw [if_pos c30] at H
           have c30b0 := eq_true c30
           have c30b1 : decide (1 + (x117000_1.extract 1 ((wrap64 ((x117000_1.size : Int) - 1)) : Int).toNat).size ≤ 9223372036854775807) = true := decide_eq_true c30
           try have c30b2 : (9223372036854775807 < 1 + (x117000_1.extract 1 ((wrap64 ((x117000_1.size : Int) - 1)) : Int).toNat).size) = False := eq_false (Nat.not_lt.2 c30)
           by_cases c31 : ((⟨#[101]⟩ : ByteArray) ++ (x117000_1.extract 1 ((wrap64 ((x117000_1.size : Int) - 1)) : Int).toNat)).size + 1 ≤ 9223372036854775807
           ·rw [if_pos c31] at H
            have c31b0 := eq_true c31
            have c31b1 : decide (((⟨#[101]⟩ : ByteArray) ++ (x117000_1.extract 1 ((wrap64 ((x117000_1.size : Int) - 1)) : Int).toNat)).size + 1 ≤ 9223372036854775807) = true := decide_eq_true c31
            try have c31b2 : (9223372036854775807 < ((⟨#[101]⟩ : ByteArray) ++ (x117000_1.extract 1 ((wrap64 ((x117000_1.size : Int) - 1)) : Int).toNat)).size + 1) = False := eq_false (Nat.not_lt.2 c31)
            have m30 : (9223372036854775807 < 1 + ((wrap64 ((x117000_1.size : Int) - 1)).toNat - 1)) = False := eq_false (by have z := c30; have y := of_eq_true c29b0; simp only [ByteArray.size_extract] at z; omega)
            have m31 : (9223372036854775807 < 1 + ((wrap64 ((x117000_1.size : Int) - 1)).toNat - 1) + 1) = False := eq_false (by have z := c31; have y := of_eq_true c29b0; have e : (⟨#[101]⟩ : ByteArray).size = 1 := rfl; simp only [ByteArray.size_append, ByteArray.size_extract, e] at z; omega)
            by_cases c32 : 1 ≤ (wrap64 ((x117001_2.size : Int) - 1))
            ·rw [if_pos c32] at H
             have c32b0 := eq_true c32
             have c32b1 : decide (1 ≤ (wrap64 ((x117001_2.size : Int) - 1))) = true := decide_eq_true c32
             clear c32
             by_cases c33 : (wrap64 ((x117001_2.size : Int) - 1)) ≤ (x117001_2.size : Int)
             ·rw [if_pos c33] at H
              have c33b0 := eq_true c33
              have c33b1 : decide ((wrap64 ((x117001_2.size : Int) - 1)) ≤ (x117001_2.size : Int)) = true := decide_eq_true c33
              clear c33
              by_cases c34 : 1 + (x117001_2.extract 1 ((wrap64 ((x117001_2.size : Int) - 1)) : Int).toNat).size ≤ 9223372036854775807
              ·rw [if_pos c34] at H
               have c34b0 := eq_true c34
               have c34b1 : decide (1 + (x117001_2.extract 1 ((wrap64 ((x117001_2.size : Int) - 1)) : Int).toNat).size ≤ 9223372036854775807) = true := decide_eq_true c34
               try have c34b2 : (9223372036854775807 < 1 + (x117001_2.extract 1 ((wrap64 ((x117001_2.size : Int) - 1)) : Int).toNat).size) = False := eq_false (Nat.not_lt.2 c34)
               by_cases c35 : ((⟨#[115]⟩ : ByteArray) ++ (x117001_2.extract 1 ((wrap64 ((x117001_2.size : Int) - 1)) : Int).toNat)).size + 1 ≤ 9223372036854775807
               ·rw [if_pos c35] at H
                have c35b0 := eq_true c35
                have c35b1 : decide (((⟨#[115]⟩ : ByteArray) ++ (x117001_2.extract 1 ((wrap64 ((x117001_2.size : Int) - 1)) : Int).toNat)).size + 1 ≤ 9223372036854775807) = true := decide_eq_true c35
                try have c35b2 : (9223372036854775807 < ((⟨#[115]⟩ : ByteArray) ++ (x117001_2.extract 1 ((wrap64 ((x117001_2.size : Int) - 1)) : Int).toNat)).size + 1) = False := eq_false (Nat.not_lt.2 c35)
                have m34 : (9223372036854775807 < 1 + ((wrap64 ((x117001_2.size : Int) - 1)).toNat - 1)) = False := eq_false (by have z := c34; have y := of_eq_true c33b0; simp only [ByteArray.size_extract] at z; omega)
                have m35 : (9223372036854775807 < 1 + ((wrap64 ((x117001_2.size : Int) - 1)).toNat - 1) + 1) = False := eq_false (by have z := c35; have y := of_eq_true c33b0; have e : (⟨#[115]⟩ : ByteArray).size = 1 := rfl; simp only [ByteArray.size_append, ByteArray.size_extract, e] at z; omega)
                simp only [Option.some.injEq, Prod.mk.injEq] at H
                obtain ⟨rfl, rfl, rfl, rfl⟩ := H
                go_wp2_with ((with_reducible refine gate_callee (f := 48) rfl ?_); refine gl_ 35 Try.func48 #[.pointer (some ⟨g, 0, none⟩), .int .i64 3] ?_; (with_reducible refine (spec_l1Cur_one.calls g s0_0 x1001_2 x1002_2 3 true t136 t137 w0 _ (HI0.out) ?side2 A26.out).mono ?_); (case side2 => repeat (with_reducible first | exact HB.out)); rintro e w36 ⟨rfl, hi, hb, hk⟩; refine ⟨_, rfl, ?_⟩; replace BK115 := am (KeepBut.blk hk BK115.out NB115_0.out (by simp)); replace BK116 := am (KeepBut.blk hk BK116.out NB116_0.out (by simp)); replace HK := am (KeepBut.trans HK.out hk (.inl rfl)); replace HB := am (hb); replace HI0 := am (hi); (try clear hb); (try clear hk); (try clear hi); have hnb37 := NB116_115.out; have hnc37 := NB115_116.out; have hnb38 := NB116_0.out; have hnc38 := NB0_116.out; have hcz39_0 := cz0_ BK116; have hcz39_1 := cz1_ BK116; have hfz39_0 := blk_frozen BK116.out 0; have hfz39_1 := blk_frozen BK116.out 1; have hnb40 := NB115_0.out; have hnc40 := NB0_115.out; have hcz41_0 := cz0_ BK115; have hcz41_1 := cz1_ BK115; have hfz41_0 := blk_frozen BK115.out 0; have hfz41_1 := blk_frozen BK115.out 1)
                refine bodyPost_ret (results_cell_row rfl _ _ gb115 25 #[.string (((⟨#[101]⟩ : ByteArray) ++ (x117000_1.extract 1 ((wrap64 ((x117000_1.size : Int) - 1)) : Int).toNat)) ++ (⟨#[119]⟩ : ByteArray)), .string (((⟨#[115]⟩ : ByteArray) ++ (x117001_2.extract 1 ((wrap64 ((x117001_2.size : Int) - 1)) : Int).toNat)) ++ (⟨#[110]⟩ : ByteArray))] (0, 0) _ rfl (by (with_reducible skip); refine blk_put (cs := #[.string (((⟨#[101]⟩ : ByteArray) ++ (x117000_1.extract 1 ((wrap64 ((x117000_1.size : Int) - 1)) : Int).toNat)) ++ (⟨#[119]⟩ : ByteArray)), .string (⟨#[]⟩ : ByteArray)]) ?_ 1 _ rfl; (with_reducible skip); refine blk_put (cs := #[.string (⟨#[]⟩ : ByteArray), .string (⟨#[]⟩ : ByteArray)]) ?_ 0 _ rfl; (with_reducible skip); refine blk_far ?_ NB115_116.out _; (with_reducible skip); refine blk_far ?_ NB115_116.out _; (with_reducible skip); exact BK115.out) Try.underlying25 rfl (by kernel_rfl)) rfl ?_
                exact ⟨by rfl, by repeat (with_reducible first | exact HI0.out | refine IsS71.far ?_ NB0_115.out _ | refine IsS71.far ?_ NB0_116.out _), by repeat (with_reducible first | exact HB.out | refine below_set ?_ GE115.out | refine below_set ?_ GE116.out), by repeat (with_reducible first | exact HK.out | refine keep_far ?_ GW115.out _ | refine keep_far ?_ GW116.out _)⟩
               ·rw [if_neg c35] at H
                exact absurd H (by simp)
              ·rw [if_neg c34] at H
               exact absurd H (by simp)
             ·rw [if_neg c33] at H
              exact absurd H (by simp)
            ·rw [if_neg c32] at H
             exact absurd H (by simp)
           ·rw [if_neg c31] at H
            exact absurd H (by simp)
          ·rw [if_neg c30] at H
           exact absurd H (by simp)
         ·rw [if_neg c29] at H
          exact absurd H (by simp)
        ·rw [if_neg c28] at H
         exact absurd H (by simp)
       ·replace c27 := Bool.eq_false_iff.mpr c27
        subst c27
        rw [if_neg (show ¬ (false = true) by decide)] at H
        simp only [Option.some.injEq, Prod.mk.injEq] at H
        obtain ⟨rfl, rfl, rfl, rfl⟩ := H
        go_wp2_with ((with_reducible refine gate_callee (f := 48) rfl ?_); refine gl_ 35 Try.func48 #[.pointer (some ⟨g, 0, none⟩), .int .i64 3] ?_; (with_reducible refine (spec_l1Cur_one.calls g s0_0 x1001_2 x1002_2 3 false t136 t137 w0 _ (HI0.out) ?side2 A26.out).mono ?_); (case side2 => repeat (with_reducible first | exact HB.out)); rintro e w42 ⟨rfl, hi, hb, hk⟩; refine ⟨_, rfl, ?_⟩; replace BK115 := am (KeepBut.blk hk BK115.out NB115_0.out (by simp)); replace BK116 := am (KeepBut.blk hk BK116.out NB116_0.out (by simp)); replace HK := am (KeepBut.trans HK.out hk (.inl rfl)); replace HB := am (hb); replace HI0 := am (hi); (try clear hb); (try clear hk); (try clear hi); have hnb43 := NB116_115.out; have hnc43 := NB115_116.out; have hnb44 := NB116_0.out; have hnc44 := NB0_116.out; have hcz45_0 := cz0_ BK116; have hcz45_1 := cz1_ BK116; have hfz45_0 := blk_frozen BK116.out 0; have hfz45_1 := blk_frozen BK116.out 1; have hnb46 := NB115_0.out; have hnc46 := NB0_115.out; have hcz47_0 := cz0_ BK115; have hcz47_1 := cz1_ BK115; have hfz47_0 := blk_frozen BK115.out 0; have hfz47_1 := blk_frozen BK115.out 1)
        refine bodyPost_ret (results_cell_row rfl _ _ gb115 25 #[.string x117000_1, .string x117001_2] (0, 0) _ rfl (by (with_reducible skip); refine blk_put (cs := #[.string x117000_1, .string (⟨#[]⟩ : ByteArray)]) ?_ 1 _ rfl; (with_reducible skip); refine blk_put (cs := #[.string (⟨#[]⟩ : ByteArray), .string (⟨#[]⟩ : ByteArray)]) ?_ 0 _ rfl; (with_reducible skip); exact BK115.out) Try.underlying25 rfl (by kernel_rfl)) rfl ?_
        exact ⟨by rfl, by repeat (with_reducible first | exact HI0.out | refine IsS71.far ?_ NB0_115.out _), by repeat (with_reducible first | exact HB.out | refine below_set ?_ GE115.out), by repeat (with_reducible first | exact HK.out | refine keep_far ?_ GW115.out _)⟩
def spec_l1Cur_ways.f (k : Nat) (s0_0 : List Int) (s0_1 : Int) (s0_2 : Int) : Option (ByteArray × ByteArray × Int × Int) := (spec_l1Cur_sureWays.f k s0_0 s0_1 s0_2).bind fun bt139 => ((spec_l1Cur_pick.f s0_0 bt139.2.2.1 bt139.2.2.2 18).bind fun bt144 => (if bt144.1 = 0 then ((spec_l1Cur_of.f s0_0 bt144.2.1 bt144.2.2 (([(⟨#[]⟩ : ByteArray), (⟨#[101]⟩ : ByteArray), (⟨#[101, 110]⟩ : ByteArray), (⟨#[101, 101, 101, 101, 101, 101, 101, 101, 101]⟩ : ByteArray), (⟨#[119, 119, 119, 119, 119, 119, 119, 119]⟩ : ByteArray)] : List ByteArray))).bind fun bt150 => (some (bt150.1, bt139.2.1, bt150.2.1, bt150.2.2))) else (if bt144.1 = 1 then ((spec_l1Cur_of.f s0_0 bt144.2.1 bt144.2.2 (([(⟨#[]⟩ : ByteArray), (⟨#[110]⟩ : ByteArray), (⟨#[110, 101]⟩ : ByteArray), (⟨#[110, 110, 110, 110, 110, 110, 110, 110, 110]⟩ : ByteArray), (⟨#[115, 115, 115, 115, 115, 115, 115, 115]⟩ : ByteArray)] : List ByteArray))).bind fun bt156 => (some (bt139.1, bt156.1, bt156.2.1, bt156.2.2))) else (some (bt139.1, bt139.2.1, bt144.2.1, bt144.2.2)))))
theorem spec_l1Cur_ways.calls (k : Nat) (g : Nat) (s0_0 : List Int) (s0_1 : Int) (s0_2 : Int) (r1 : ByteArray) (r2 : ByteArray) (r3 : Int) (r4 : Int) (w0 w : World) (hI : IsS71 w0 w g s0_0 s0_1 s0_2) (hB : Below w0.heap.size w0 w) (h : spec_l1Cur_ways.f k s0_0 s0_1 s0_2 = some (r1, r2, r3, r4)) :
  Calls Try.prog 68 #[.pointer (some ⟨g, 0, none⟩)] w fun e w' => e = .returned (.agg #[.string r1, .string r2]) ∧ IsS71 w0 w' g s0_0 r3 r4 ∧ Below w0.heap.size w0 w' ∧ KeepBut w w' g none := by
 have hu25 := Try.underlying25
 have HI0 := am hI
 have HK := am (KeepBut.refl w g none)
 have HL := am hB.size
 clear hI
 have HW0 := am hB.size
 have HB := am hB
 clear hB
 unfold spec_l1Cur_ways.f at h
 have H := h
 clear h
 obtain ⟨⟨t139, t140, t141, t142⟩, A2, H⟩ := bnd_ H
 try dsimp only at H
 obtain ⟨⟨t144, t145, t146⟩, A3, H⟩ := bnd_ H
 try dsimp only at H
 by_cases c4 : t144 = 0
 ·rw [if_pos c4] at H
  have c4b0 : (t144 == 0) = true := beq_iff_eq.mpr c4
  have c4b1 : (t144 != 0) = false := bne_eq_false_iff_eq.mpr c4
  clear c4
  obtain ⟨y147, hy147⟩ : ∃ y_ : List ByteArray, y_ = (([(⟨#[]⟩ : ByteArray), (⟨#[101]⟩ : ByteArray), (⟨#[101, 110]⟩ : ByteArray), (⟨#[101, 101, 101, 101, 101, 101, 101, 101, 101]⟩ : ByteArray), (⟨#[119, 119, 119, 119, 119, 119, 119, 119]⟩ : ByteArray)] : List ByteArray)) := ⟨_, rfl⟩
  rw [← hy147] at H
  have Ny147 := am hy147
  clear hy147
  obtain ⟨⟨t150, t151, t152⟩, A5, H⟩ := bnd_ H
  try dsimp only at H
  simp only [Option.some.injEq, Prod.mk.injEq] at H
  obtain ⟨rfl, rfl, rfl, rfl⟩ := H
  go_enter Try.func68, Try.ntmps68
  go_wp2_with (first | ((with_reducible refine gate_dst (N := 2) rfl ?_); refine bx_ 2 (#[.string (⟨#[]⟩ : ByteArray), .string (⟨#[]⟩ : ByteArray)]) 25 ?_; intro gb138 hg w6 hbox hb; replace HB := am (below_step HB.out hb); have BK138 := am (hbox); have GW138 := am ((by rw [hg]; exact (keep_size (w := w) (g := g) (row := none) HK.out) : w.heap.size ≤ gb138)); have GE138 := am ((Nat.le_trans HW0.out (by rw [hg]; exact (keep_size (w := w) (g := g) (row := none) HK.out) : w.heap.size ≤ gb138) : w0.heap.size ≤ gb138)); replace HK := am (KeepBut.trans HK.out (KeepBut.of_below hb g none) (.inl rfl)); have NB0_138 := am ((by rw [hg]; exact Nat.ne_of_lt (IsS71.lt (show IsS71 w0 _ g s0_0 s0_1 s0_2 from by exact HI0.out)) : g ≠ gb138)); have NB138_0 := am ((by rw [hg]; exact Nat.ne_of_gt (IsS71.lt (show IsS71 w0 _ g s0_0 s0_1 s0_2 from by exact HI0.out)) : gb138 ≠ g)); replace HI0 := am (IsS71.below HI0.out hb); clear hb hbox hg) | ((with_reducible refine gate_callee (f := 81) rfl ?_); refine gl_ 5 Try.func81 #[.pointer (some ⟨g, 0, none⟩)] ?_; (with_reducible refine (spec_l1Cur_sureWays.calls k g s0_0 s0_1 s0_2 t139 t140 t141 t142 w0 _ (HI0.out) ?side2 A2.out).mono ?_); (case side2 => repeat (with_reducible first | exact HB.out)); rintro e w7 ⟨rfl, hi, hb, hk⟩; refine ⟨_, rfl, ?_⟩; replace BK138 := am (KeepBut.blk hk BK138.out NB138_0.out (by simp)); replace HK := am (KeepBut.trans HK.out hk (.inl rfl)); replace HB := am (hb); replace HI0 := am (hi); (try clear hb); (try clear hk); (try clear hi)) | ((with_reducible refine gate_dst (N := 3) rfl ?_); refine bx_ 3 (#[.string (⟨#[]⟩ : ByteArray), .string (⟨#[]⟩ : ByteArray)]) 25 ?_; intro gb143 hg w8 hbox hb; replace HB := am (below_step HB.out hb); have BK143 := am (hbox); have GW143 := am ((by rw [hg]; exact (keep_size (w := w) (g := g) (row := none) HK.out) : w.heap.size ≤ gb143)); have GE143 := am ((Nat.le_trans HW0.out (by rw [hg]; exact (keep_size (w := w) (g := g) (row := none) HK.out) : w.heap.size ≤ gb143) : w0.heap.size ≤ gb143)); replace HK := am (KeepBut.trans HK.out (KeepBut.of_below hb g none) (.inl rfl)); have NB138_143 := am ((by rw [hg]; exact Nat.ne_of_lt (blk_lt (g := gb138) (o := .cells #[.string (⟨#[]⟩ : ByteArray), .string (⟨#[]⟩ : ByteArray)] 25 (0, 0)) BK138.out) : gb138 ≠ gb143)); have NB143_138 := am ((by rw [hg]; exact Nat.ne_of_gt (blk_lt (g := gb138) (o := .cells #[.string (⟨#[]⟩ : ByteArray), .string (⟨#[]⟩ : ByteArray)] 25 (0, 0)) BK138.out) : gb143 ≠ gb138)); replace BK138 := am (blk_below BK138.out hb); have NB0_143 := am ((by rw [hg]; exact Nat.ne_of_lt (IsS71.lt (show IsS71 w0 _ g s0_0 t141 t142 from by exact HI0.out)) : g ≠ gb143)); have NB143_0 := am ((by rw [hg]; exact Nat.ne_of_gt (IsS71.lt (show IsS71 w0 _ g s0_0 t141 t142 from by exact HI0.out)) : gb143 ≠ g)); replace HI0 := am (IsS71.below HI0.out hb); clear hb hbox hg; have hnb9 := NB143_138.out; have hnc9 := NB138_143.out; have hnb10 := NB143_0.out; have hnc10 := NB0_143.out; have hcz11_0 := cz0_ BK143; have hcz11_1 := cz1_ BK143; have hfz11_0 := blk_frozen BK143.out 0; have hfz11_1 := blk_frozen BK143.out 1) | ((with_reducible refine gate_callee (f := 52) rfl ?_); refine gl_ 7 Try.func52 #[.pointer (some ⟨g, 0, none⟩), .int .i64 18] ?_; (with_reducible refine (spec_l1Cur_pick.calls g s0_0 t141 t142 18 t144 t145 t146 w0 _ ?side1 ?side2 A3.out).mono ?_); (case side1 => repeat (with_reducible first | exact HI0.out | refine IsS71.far ?_ NB0_143.out _)); (case side2 => repeat (with_reducible first | exact HB.out | refine below_set ?_ GE143.out)); rintro e w12 ⟨rfl, hi, hb, hk⟩; refine ⟨_, rfl, ?_⟩; replace BK138 := am (KeepBut.blk hk (g' := gb138) (o := .cells #[.string (⟨#[]⟩ : ByteArray), .string (⟨#[]⟩ : ByteArray)] 25 (0, 0)) (by (with_reducible skip); refine blk_far ?_ NB138_143.out _; (with_reducible skip); refine blk_far ?_ NB138_143.out _; (with_reducible skip); exact BK138.out) NB138_0.out (by simp)); replace BK143 := am (KeepBut.blk hk (g' := gb143) (o := .cells #[.string t139, .string t140] 25 (0, 0)) (by (with_reducible skip); refine blk_put (cs := #[.string t139, .string (⟨#[]⟩ : ByteArray)]) ?_ 1 _ rfl; (with_reducible skip); refine blk_put (cs := #[.string (⟨#[]⟩ : ByteArray), .string (⟨#[]⟩ : ByteArray)]) ?_ 0 _ rfl; (with_reducible skip); exact BK143.out) NB143_0.out (by simp)); replace HK := am (KeepBut.trans (by repeat (with_reducible first | exact HK.out | refine keep_far ?_ GW143.out _)) hk (.inl rfl)); replace HB := am (hb); replace HI0 := am (hi); (try clear hb); (try clear hk); (try clear hi)) | ((with_reducible refine gate_dst (N := 11) rfl ?_); refine Kd.R_lit Kd.string _ 9 ?hg (N := 11) ?hd (xs := ([(⟨#[]⟩ : ByteArray), (⟨#[101]⟩ : ByteArray), (⟨#[101, 110]⟩ : ByteArray), (⟨#[101, 101, 101, 101, 101, 101, 101, 101, 101]⟩ : ByteArray), (⟨#[119, 119, 119, 119, 119, 119, 119, 119]⟩ : ByteArray)] : List ByteArray)) (inner := [.string (⟨#[]⟩ : ByteArray), .string (⟨#[101]⟩ : ByteArray), .string (⟨#[101, 110]⟩ : ByteArray), .string (⟨#[101, 101, 101, 101, 101, 101, 101, 101, 101]⟩ : ByteArray), .string (⟨#[119, 119, 119, 119, 119, 119, 119, 119]⟩ : ByteArray)]) (ok := fun _ => True) (okp := fun _ => True) ?hr ?hp (fun _ hk => hk) trivial (Below.refl _ _) (Nat.le_refl _) (by simp) ?_; (case hd => rfl); (case hg => rfl); (case hr => go_simp; done); (case hp => exact (Reps.one (show Kd.M Kd.string _ _ _ (⟨#[]⟩ : ByteArray) [.string (⟨#[]⟩ : ByteArray)] from rfl) (Reps.one (show Kd.M Kd.string _ _ _ (⟨#[101]⟩ : ByteArray) [.string (⟨#[101]⟩ : ByteArray)] from rfl) (Reps.one (show Kd.M Kd.string _ _ _ (⟨#[101, 110]⟩ : ByteArray) [.string (⟨#[101, 110]⟩ : ByteArray)] from rfl) (Reps.one (show Kd.M Kd.string _ _ _ (⟨#[101, 101, 101, 101, 101, 101, 101, 101, 101]⟩ : ByteArray) [.string (⟨#[101, 101, 101, 101, 101, 101, 101, 101, 101]⟩ : ByteArray)] from rfl) (Reps.one (show Kd.M Kd.string _ _ _ (⟨#[119, 119, 119, 119, 119, 119, 119, 119]⟩ : ByteArray) [.string (⟨#[119, 119, 119, 119, 119, 119, 119, 119]⟩ : ByteArray)] from rfl) (Reps.none _ _))))))); intro v148 w13 ho14 hb hg_ hnew_; clear hg_ hnew_; (rw [← Ny147.out] at ho14); have HO149 := am (Kd.R_lower ho14 (keep_size (w := w) (g := g) (row := none) HK.out)); replace HI0 := am (IsS71.below HI0.out hb); replace BK138 := am (blk_below BK138.out hb); replace BK143 := am (blk_below BK143.out hb); replace HK := am (KeepBut.trans HK.out (KeepBut.of_below hb g none) (.inl rfl)); replace HB := am (below_step HB.out hb); clear hb ho14; obtain ⟨Ao15, co15, eo15⟩ := Kd.R_slice HO149.out; subst eo15) | ((with_reducible refine gate_callee (f := 53) rfl ?_); refine gl_ 12 Try.func53 #[.pointer (some ⟨g, 0, none⟩), .slice Ao15 y147.length co15] ?_; (with_reducible refine (spec_l1Cur_of.calls g s0_0 t145 t146 _ _ y147 t150 t151 t152 w0 _ (HI0.out) ?side2 ?side3 ?side4 ?side5 A5.out).mono ?_); (case side2 => repeat (with_reducible first | exact HB.out)); (case side3 => repeat (exact (Kd.R_reads' HO149.out).2.2)); (case side4 => exact (Kd.R_reads' HO149.out).2.1); (case side5 => exact far_slice (IsS71.own_ne HI0.out HO149.out (by decide))); rintro e w16 ⟨rfl, hi, hb, hk⟩; refine ⟨_, rfl, ?_⟩; replace BK138 := am (KeepBut.blk hk BK138.out NB138_0.out (by simp)); replace BK143 := am (KeepBut.blk hk BK143.out NB143_0.out (by simp)); replace HO149 := am (Kd.R_mono (Kd.R_keep (IsS71.apart (show IsS71 w0 _ g s0_0 t145 t146 from by exact HI0.out) HO149.out (by decide)) hk (fun _ h => h.2)) (fun _ h => h.1)); replace HK := am (KeepBut.trans HK.out hk (.inl rfl)); replace HB := am (hb); replace HI0 := am (hi); (try clear hb); (try clear hk); (try clear hi); have hcz17_0 := cz0_ BK143; have hcz17_1 := cz1_ BK143; have hfz17_0 := blk_frozen BK143.out 0; have hfz17_1 := blk_frozen BK143.out 1; have hnb18 := NB138_0.out; have hnc18 := NB0_138.out; have hcz19_0 := cz0_ BK138; have hcz19_1 := cz1_ BK138; have hfz19_0 := blk_frozen BK138.out 0; have hfz19_1 := blk_frozen BK138.out 1))
  refine bodyPost_ret (results_cell_row rfl _ _ gb138 25 #[.string t150, .string t140] (0, 0) _ rfl (by (with_reducible skip); refine blk_put (cs := #[.string t150, .string (⟨#[]⟩ : ByteArray)]) ?_ 1 _ rfl; (with_reducible skip); refine blk_put (cs := #[.string (⟨#[]⟩ : ByteArray), .string (⟨#[]⟩ : ByteArray)]) ?_ 0 _ rfl; (with_reducible skip); refine blk_far ?_ NB138_143.out _; (with_reducible skip); exact BK138.out) Try.underlying25 rfl (by kernel_rfl)) rfl ?_
  exact ⟨by rfl, by repeat (with_reducible first | exact HI0.out | refine IsS71.far ?_ NB0_138.out _ | refine IsS71.far ?_ NB0_143.out _), by repeat (with_reducible first | exact HB.out | refine below_set ?_ GE138.out | refine below_set ?_ GE143.out), by repeat (with_reducible first | exact HK.out | refine keep_far ?_ GW138.out _ | refine keep_far ?_ GW143.out _)⟩
 ·rw [if_neg c4] at H
  have c4b0 : (t144 == 0) = false := beq_eq_false_iff_ne.mpr c4
  have c4b1 : (t144 != 0) = true := bne_iff_ne.mpr c4
  by_cases c20 : t144 = 1
  ·rw [if_pos c20] at H
   have c20b0 : (t144 == 1) = true := beq_iff_eq.mpr c20
   have c20b1 : (t144 != 1) = false := bne_eq_false_iff_eq.mpr c20
   clear c20
   obtain ⟨y153, hy153⟩ : ∃ y_ : List ByteArray, y_ = (([(⟨#[]⟩ : ByteArray), (⟨#[110]⟩ : ByteArray), (⟨#[110, 101]⟩ : ByteArray), (⟨#[110, 110, 110, 110, 110, 110, 110, 110, 110]⟩ : ByteArray), (⟨#[115, 115, 115, 115, 115, 115, 115, 115]⟩ : ByteArray)] : List ByteArray)) := ⟨_, rfl⟩
   rw [← hy153] at H
   have Ny153 := am hy153
   clear hy153
   obtain ⟨⟨t156, t157, t158⟩, A21, H⟩ := bnd_ H
   try dsimp only at H
   simp only [Option.some.injEq, Prod.mk.injEq] at H
   obtain ⟨rfl, rfl, rfl, rfl⟩ := H
   go_enter Try.func68, Try.ntmps68
   go_wp2_with (first | ((with_reducible refine gate_dst (N := 2) rfl ?_); refine bx_ 2 (#[.string (⟨#[]⟩ : ByteArray), .string (⟨#[]⟩ : ByteArray)]) 25 ?_; intro gb138 hg w22 hbox hb; replace HB := am (below_step HB.out hb); have BK138 := am (hbox); have GW138 := am ((by rw [hg]; exact (keep_size (w := w) (g := g) (row := none) HK.out) : w.heap.size ≤ gb138)); have GE138 := am ((Nat.le_trans HW0.out (by rw [hg]; exact (keep_size (w := w) (g := g) (row := none) HK.out) : w.heap.size ≤ gb138) : w0.heap.size ≤ gb138)); replace HK := am (KeepBut.trans HK.out (KeepBut.of_below hb g none) (.inl rfl)); have NB0_138 := am ((by rw [hg]; exact Nat.ne_of_lt (IsS71.lt (show IsS71 w0 _ g s0_0 s0_1 s0_2 from by exact HI0.out)) : g ≠ gb138)); have NB138_0 := am ((by rw [hg]; exact Nat.ne_of_gt (IsS71.lt (show IsS71 w0 _ g s0_0 s0_1 s0_2 from by exact HI0.out)) : gb138 ≠ g)); replace HI0 := am (IsS71.below HI0.out hb); clear hb hbox hg) | ((with_reducible refine gate_callee (f := 81) rfl ?_); refine gl_ 5 Try.func81 #[.pointer (some ⟨g, 0, none⟩)] ?_; (with_reducible refine (spec_l1Cur_sureWays.calls k g s0_0 s0_1 s0_2 t139 t140 t141 t142 w0 _ (HI0.out) ?side2 A2.out).mono ?_); (case side2 => repeat (with_reducible first | exact HB.out)); rintro e w23 ⟨rfl, hi, hb, hk⟩; refine ⟨_, rfl, ?_⟩; replace BK138 := am (KeepBut.blk hk BK138.out NB138_0.out (by simp)); replace HK := am (KeepBut.trans HK.out hk (.inl rfl)); replace HB := am (hb); replace HI0 := am (hi); (try clear hb); (try clear hk); (try clear hi)) | ((with_reducible refine gate_dst (N := 3) rfl ?_); refine bx_ 3 (#[.string (⟨#[]⟩ : ByteArray), .string (⟨#[]⟩ : ByteArray)]) 25 ?_; intro gb143 hg w24 hbox hb; replace HB := am (below_step HB.out hb); have BK143 := am (hbox); have GW143 := am ((by rw [hg]; exact (keep_size (w := w) (g := g) (row := none) HK.out) : w.heap.size ≤ gb143)); have GE143 := am ((Nat.le_trans HW0.out (by rw [hg]; exact (keep_size (w := w) (g := g) (row := none) HK.out) : w.heap.size ≤ gb143) : w0.heap.size ≤ gb143)); replace HK := am (KeepBut.trans HK.out (KeepBut.of_below hb g none) (.inl rfl)); have NB138_143 := am ((by rw [hg]; exact Nat.ne_of_lt (blk_lt (g := gb138) (o := .cells #[.string (⟨#[]⟩ : ByteArray), .string (⟨#[]⟩ : ByteArray)] 25 (0, 0)) BK138.out) : gb138 ≠ gb143)); have NB143_138 := am ((by rw [hg]; exact Nat.ne_of_gt (blk_lt (g := gb138) (o := .cells #[.string (⟨#[]⟩ : ByteArray), .string (⟨#[]⟩ : ByteArray)] 25 (0, 0)) BK138.out) : gb143 ≠ gb138)); replace BK138 := am (blk_below BK138.out hb); have NB0_143 := am ((by rw [hg]; exact Nat.ne_of_lt (IsS71.lt (show IsS71 w0 _ g s0_0 t141 t142 from by exact HI0.out)) : g ≠ gb143)); have NB143_0 := am ((by rw [hg]; exact Nat.ne_of_gt (IsS71.lt (show IsS71 w0 _ g s0_0 t141 t142 from by exact HI0.out)) : gb143 ≠ g)); replace HI0 := am (IsS71.below HI0.out hb); clear hb hbox hg; have hnb25 := NB143_138.out; have hnc25 := NB138_143.out; have hnb26 := NB143_0.out; have hnc26 := NB0_143.out; have hcz27_0 := cz0_ BK143; have hcz27_1 := cz1_ BK143; have hfz27_0 := blk_frozen BK143.out 0; have hfz27_1 := blk_frozen BK143.out 1) | ((with_reducible refine gate_callee (f := 52) rfl ?_); refine gl_ 7 Try.func52 #[.pointer (some ⟨g, 0, none⟩), .int .i64 18] ?_; (with_reducible refine (spec_l1Cur_pick.calls g s0_0 t141 t142 18 t144 t145 t146 w0 _ ?side1 ?side2 A3.out).mono ?_); (case side1 => repeat (with_reducible first | exact HI0.out | refine IsS71.far ?_ NB0_143.out _)); (case side2 => repeat (with_reducible first | exact HB.out | refine below_set ?_ GE143.out)); rintro e w28 ⟨rfl, hi, hb, hk⟩; refine ⟨_, rfl, ?_⟩; replace BK138 := am (KeepBut.blk hk (g' := gb138) (o := .cells #[.string (⟨#[]⟩ : ByteArray), .string (⟨#[]⟩ : ByteArray)] 25 (0, 0)) (by (with_reducible skip); refine blk_far ?_ NB138_143.out _; (with_reducible skip); refine blk_far ?_ NB138_143.out _; (with_reducible skip); exact BK138.out) NB138_0.out (by simp)); replace BK143 := am (KeepBut.blk hk (g' := gb143) (o := .cells #[.string t139, .string t140] 25 (0, 0)) (by (with_reducible skip); refine blk_put (cs := #[.string t139, .string (⟨#[]⟩ : ByteArray)]) ?_ 1 _ rfl; (with_reducible skip); refine blk_put (cs := #[.string (⟨#[]⟩ : ByteArray), .string (⟨#[]⟩ : ByteArray)]) ?_ 0 _ rfl; (with_reducible skip); exact BK143.out) NB143_0.out (by simp)); replace HK := am (KeepBut.trans (by repeat (with_reducible first | exact HK.out | refine keep_far ?_ GW143.out _)) hk (.inl rfl)); replace HB := am (hb); replace HI0 := am (hi); (try clear hb); (try clear hk); (try clear hi)) | ((with_reducible refine gate_dst (N := 17) rfl ?_); refine Kd.R_lit Kd.string _ 9 ?hg (N := 17) ?hd (xs := ([(⟨#[]⟩ : ByteArray), (⟨#[110]⟩ : ByteArray), (⟨#[110, 101]⟩ : ByteArray), (⟨#[110, 110, 110, 110, 110, 110, 110, 110, 110]⟩ : ByteArray), (⟨#[115, 115, 115, 115, 115, 115, 115, 115]⟩ : ByteArray)] : List ByteArray)) (inner := [.string (⟨#[]⟩ : ByteArray), .string (⟨#[110]⟩ : ByteArray), .string (⟨#[110, 101]⟩ : ByteArray), .string (⟨#[110, 110, 110, 110, 110, 110, 110, 110, 110]⟩ : ByteArray), .string (⟨#[115, 115, 115, 115, 115, 115, 115, 115]⟩ : ByteArray)]) (ok := fun _ => True) (okp := fun _ => True) ?hr ?hp (fun _ hk => hk) trivial (Below.refl _ _) (Nat.le_refl _) (by simp) ?_; (case hd => rfl); (case hg => rfl); (case hr => go_simp; done); (case hp => exact (Reps.one (show Kd.M Kd.string _ _ _ (⟨#[]⟩ : ByteArray) [.string (⟨#[]⟩ : ByteArray)] from rfl) (Reps.one (show Kd.M Kd.string _ _ _ (⟨#[110]⟩ : ByteArray) [.string (⟨#[110]⟩ : ByteArray)] from rfl) (Reps.one (show Kd.M Kd.string _ _ _ (⟨#[110, 101]⟩ : ByteArray) [.string (⟨#[110, 101]⟩ : ByteArray)] from rfl) (Reps.one (show Kd.M Kd.string _ _ _ (⟨#[110, 110, 110, 110, 110, 110, 110, 110, 110]⟩ : ByteArray) [.string (⟨#[110, 110, 110, 110, 110, 110, 110, 110, 110]⟩ : ByteArray)] from rfl) (Reps.one (show Kd.M Kd.string _ _ _ (⟨#[115, 115, 115, 115, 115, 115, 115, 115]⟩ : ByteArray) [.string (⟨#[115, 115, 115, 115, 115, 115, 115, 115]⟩ : ByteArray)] from rfl) (Reps.none _ _))))))); intro v154 w29 ho30 hb hg_ hnew_; clear hg_ hnew_; (rw [← Ny153.out] at ho30); have HO155 := am (Kd.R_lower ho30 (keep_size (w := w) (g := g) (row := none) HK.out)); replace HI0 := am (IsS71.below HI0.out hb); replace BK138 := am (blk_below BK138.out hb); replace BK143 := am (blk_below BK143.out hb); replace HK := am (KeepBut.trans HK.out (KeepBut.of_below hb g none) (.inl rfl)); replace HB := am (below_step HB.out hb); clear hb ho30; obtain ⟨Ao31, co31, eo31⟩ := Kd.R_slice HO155.out; subst eo31) | ((with_reducible refine gate_callee (f := 53) rfl ?_); refine gl_ 18 Try.func53 #[.pointer (some ⟨g, 0, none⟩), .slice Ao31 y153.length co31] ?_; (with_reducible refine (spec_l1Cur_of.calls g s0_0 t145 t146 _ _ y153 t156 t157 t158 w0 _ (HI0.out) ?side2 ?side3 ?side4 ?side5 A21.out).mono ?_); (case side2 => repeat (with_reducible first | exact HB.out)); (case side3 => repeat (exact (Kd.R_reads' HO155.out).2.2)); (case side4 => exact (Kd.R_reads' HO155.out).2.1); (case side5 => exact far_slice (IsS71.own_ne HI0.out HO155.out (by decide))); rintro e w32 ⟨rfl, hi, hb, hk⟩; refine ⟨_, rfl, ?_⟩; replace BK138 := am (KeepBut.blk hk BK138.out NB138_0.out (by simp)); replace BK143 := am (KeepBut.blk hk BK143.out NB143_0.out (by simp)); replace HO155 := am (Kd.R_mono (Kd.R_keep (IsS71.apart (show IsS71 w0 _ g s0_0 t145 t146 from by exact HI0.out) HO155.out (by decide)) hk (fun _ h => h.2)) (fun _ h => h.1)); replace HK := am (KeepBut.trans HK.out hk (.inl rfl)); replace HB := am (hb); replace HI0 := am (hi); (try clear hb); (try clear hk); (try clear hi); have hcz33_0 := cz0_ BK143; have hcz33_1 := cz1_ BK143; have hfz33_0 := blk_frozen BK143.out 0; have hfz33_1 := blk_frozen BK143.out 1; have hnb34 := NB138_0.out; have hnc34 := NB0_138.out; have hcz35_0 := cz0_ BK138; have hcz35_1 := cz1_ BK138; have hfz35_0 := blk_frozen BK138.out 0; have hfz35_1 := blk_frozen BK138.out 1))
   refine bodyPost_ret (results_cell_row rfl _ _ gb138 25 #[.string t139, .string t156] (0, 0) _ rfl (by (with_reducible skip); refine blk_put (cs := #[.string t139, .string (⟨#[]⟩ : ByteArray)]) ?_ 1 _ rfl; (with_reducible skip); refine blk_put (cs := #[.string (⟨#[]⟩ : ByteArray), .string (⟨#[]⟩ : ByteArray)]) ?_ 0 _ rfl; (with_reducible skip); refine blk_far ?_ NB138_143.out _; (with_reducible skip); exact BK138.out) Try.underlying25 rfl (by kernel_rfl)) rfl ?_
   exact ⟨by rfl, by repeat (with_reducible first | exact HI0.out | refine IsS71.far ?_ NB0_138.out _ | refine IsS71.far ?_ NB0_143.out _), by repeat (with_reducible first | exact HB.out | refine below_set ?_ GE138.out | refine below_set ?_ GE143.out), by repeat (with_reducible first | exact HK.out | refine keep_far ?_ GW138.out _ | refine keep_far ?_ GW143.out _)⟩
  ·rw [if_neg c20] at H
   have c20b0 : (t144 == 1) = false := beq_eq_false_iff_ne.mpr c20
   have c20b1 : (t144 != 1) = true := bne_iff_ne.mpr c20
   simp only [Option.some.injEq, Prod.mk.injEq] at H
   obtain ⟨rfl, rfl, rfl, rfl⟩ := H
   go_enter Try.func68, Try.ntmps68
   go_wp2_with (first | ((with_reducible refine gate_dst (N := 2) rfl ?_); refine bx_ 2 (#[.string (⟨#[]⟩ : ByteArray), .string (⟨#[]⟩ : ByteArray)]) 25 ?_; intro gb138 hg w36 hbox hb; replace HB := am (below_step HB.out hb); have BK138 := am (hbox); have GW138 := am ((by rw [hg]; exact (keep_size (w := w) (g := g) (row := none) HK.out) : w.heap.size ≤ gb138)); have GE138 := am ((Nat.le_trans HW0.out (by rw [hg]; exact (keep_size (w := w) (g := g) (row := none) HK.out) : w.heap.size ≤ gb138) : w0.heap.size ≤ gb138)); replace HK := am (KeepBut.trans HK.out (KeepBut.of_below hb g none) (.inl rfl)); have NB0_138 := am ((by rw [hg]; exact Nat.ne_of_lt (IsS71.lt (show IsS71 w0 _ g s0_0 s0_1 s0_2 from by exact HI0.out)) : g ≠ gb138)); have NB138_0 := am ((by rw [hg]; exact Nat.ne_of_gt (IsS71.lt (show IsS71 w0 _ g s0_0 s0_1 s0_2 from by exact HI0.out)) : gb138 ≠ g)); replace HI0 := am (IsS71.below HI0.out hb); clear hb hbox hg) | ((with_reducible refine gate_callee (f := 81) rfl ?_); refine gl_ 5 Try.func81 #[.pointer (some ⟨g, 0, none⟩)] ?_; (with_reducible refine (spec_l1Cur_sureWays.calls k g s0_0 s0_1 s0_2 t139 t140 t141 t142 w0 _ (HI0.out) ?side2 A2.out).mono ?_); (case side2 => repeat (with_reducible first | exact HB.out)); rintro e w37 ⟨rfl, hi, hb, hk⟩; refine ⟨_, rfl, ?_⟩; replace BK138 := am (KeepBut.blk hk BK138.out NB138_0.out (by simp)); replace HK := am (KeepBut.trans HK.out hk (.inl rfl)); replace HB := am (hb); replace HI0 := am (hi); (try clear hb); (try clear hk); (try clear hi)) | ((with_reducible refine gate_dst (N := 3) rfl ?_); refine bx_ 3 (#[.string (⟨#[]⟩ : ByteArray), .string (⟨#[]⟩ : ByteArray)]) 25 ?_; intro gb143 hg w38 hbox hb; replace HB := am (below_step HB.out hb); have BK143 := am (hbox); have GW143 := am ((by rw [hg]; exact (keep_size (w := w) (g := g) (row := none) HK.out) : w.heap.size ≤ gb143)); have GE143 := am ((Nat.le_trans HW0.out (by rw [hg]; exact (keep_size (w := w) (g := g) (row := none) HK.out) : w.heap.size ≤ gb143) : w0.heap.size ≤ gb143)); replace HK := am (KeepBut.trans HK.out (KeepBut.of_below hb g none) (.inl rfl)); have NB138_143 := am ((by rw [hg]; exact Nat.ne_of_lt (blk_lt (g := gb138) (o := .cells #[.string (⟨#[]⟩ : ByteArray), .string (⟨#[]⟩ : ByteArray)] 25 (0, 0)) BK138.out) : gb138 ≠ gb143)); have NB143_138 := am ((by rw [hg]; exact Nat.ne_of_gt (blk_lt (g := gb138) (o := .cells #[.string (⟨#[]⟩ : ByteArray), .string (⟨#[]⟩ : ByteArray)] 25 (0, 0)) BK138.out) : gb143 ≠ gb138)); replace BK138 := am (blk_below BK138.out hb); have NB0_143 := am ((by rw [hg]; exact Nat.ne_of_lt (IsS71.lt (show IsS71 w0 _ g s0_0 t141 t142 from by exact HI0.out)) : g ≠ gb143)); have NB143_0 := am ((by rw [hg]; exact Nat.ne_of_gt (IsS71.lt (show IsS71 w0 _ g s0_0 t141 t142 from by exact HI0.out)) : gb143 ≠ g)); replace HI0 := am (IsS71.below HI0.out hb); clear hb hbox hg; have hnb39 := NB143_138.out; have hnc39 := NB138_143.out; have hnb40 := NB143_0.out; have hnc40 := NB0_143.out; have hcz41_0 := cz0_ BK143; have hcz41_1 := cz1_ BK143; have hfz41_0 := blk_frozen BK143.out 0; have hfz41_1 := blk_frozen BK143.out 1) | ((with_reducible refine gate_callee (f := 52) rfl ?_); refine gl_ 7 Try.func52 #[.pointer (some ⟨g, 0, none⟩), .int .i64 18] ?_; (with_reducible refine (spec_l1Cur_pick.calls g s0_0 t141 t142 18 t144 t145 t146 w0 _ ?side1 ?side2 A3.out).mono ?_); (case side1 => repeat (with_reducible first | exact HI0.out | refine IsS71.far ?_ NB0_143.out _)); (case side2 => repeat (with_reducible first | exact HB.out | refine below_set ?_ GE143.out)); rintro e w42 ⟨rfl, hi, hb, hk⟩; refine ⟨_, rfl, ?_⟩; replace BK138 := am (KeepBut.blk hk (g' := gb138) (o := .cells #[.string (⟨#[]⟩ : ByteArray), .string (⟨#[]⟩ : ByteArray)] 25 (0, 0)) (by (with_reducible skip); refine blk_far ?_ NB138_143.out _; (with_reducible skip); refine blk_far ?_ NB138_143.out _; (with_reducible skip); exact BK138.out) NB138_0.out (by simp)); replace BK143 := am (KeepBut.blk hk (g' := gb143) (o := .cells #[.string t139, .string t140] 25 (0, 0)) (by (with_reducible skip); refine blk_put (cs := #[.string t139, .string (⟨#[]⟩ : ByteArray)]) ?_ 1 _ rfl; (with_reducible skip); refine blk_put (cs := #[.string (⟨#[]⟩ : ByteArray), .string (⟨#[]⟩ : ByteArray)]) ?_ 0 _ rfl; (with_reducible skip); exact BK143.out) NB143_0.out (by simp)); replace HK := am (KeepBut.trans (by repeat (with_reducible first | exact HK.out | refine keep_far ?_ GW143.out _)) hk (.inl rfl)); replace HB := am (hb); replace HI0 := am (hi); (try clear hb); (try clear hk); (try clear hi); have hcz43_0 := cz0_ BK143; have hcz43_1 := cz1_ BK143; have hfz43_0 := blk_frozen BK143.out 0; have hfz43_1 := blk_frozen BK143.out 1; have hnb44 := NB138_0.out; have hnc44 := NB0_138.out; have hcz45_0 := cz0_ BK138; have hcz45_1 := cz1_ BK138; have hfz45_0 := blk_frozen BK138.out 0; have hfz45_1 := blk_frozen BK138.out 1))
   refine bodyPost_ret (results_cell_row rfl _ _ gb138 25 #[.string t139, .string t140] (0, 0) _ rfl (by (with_reducible skip); refine blk_put (cs := #[.string t139, .string (⟨#[]⟩ : ByteArray)]) ?_ 1 _ rfl; (with_reducible skip); refine blk_put (cs := #[.string (⟨#[]⟩ : ByteArray), .string (⟨#[]⟩ : ByteArray)]) ?_ 0 _ rfl; (with_reducible skip); exact BK138.out) Try.underlying25 rfl (by kernel_rfl)) rfl ?_
   exact ⟨by rfl, by repeat (with_reducible first | exact HI0.out | refine IsS71.far ?_ NB0_138.out _), by repeat (with_reducible first | exact HB.out | refine below_set ?_ GE138.out), by repeat (with_reducible first | exact HK.out | refine keep_far ?_ GW138.out _)⟩
def spec_l1Most.f (a0 : Int) (a1 : Int) : Option (Int) := if a0 > a1 then (some a0) else (some a1)
theorem spec_l1Most.calls (a0 : Int) (a1 : Int) (r : Int) (w : World) (h : spec_l1Most.f a0 a1 = some r) :
  Calls Try.prog 82 #[.int .i64 a0, .int .i64 a1] w fun e w' => e = .returned (.int .i64 r) ∧ Drawn0 w w' := by
 unfold spec_l1Most.f at h
 have H := h
 clear h
 by_cases c3 : a0 > a1
 ·rw [if_pos c3] at H
  have c3b0 : decide (a1 < a0) = true := decide_eq_true c3
  clear c3
  obtain rfl := Option.some.inj H
  go_enter Try.func82, Try.ntmps82
  go_wp2
  go_ret
  exact ⟨by rfl, by repeat (exact Drawn0.refl _)⟩
 ·rw [if_neg c3] at H
  have c3b0 : decide (a1 < a0) = false := decide_eq_false c3
  clear c3
  obtain rfl := Option.some.inj H
  go_enter Try.func82, Try.ntmps82
  go_wp2
  go_ret
  exact ⟨by rfl, by repeat (exact Drawn0.refl _)⟩
end Go.Proofs.Ytdhdkkhbgfcoiaa.MX
