-- The machine side, written by this repo's program mp.py; contracts marked as of this repo are this session's own.
import Derived.Test.YtdhdkkhbgfcoiaaMXx0
import Derived.Test.YtdhdkkhbgfcoiaaMXx1
import Derived.Test.YtdhdkkhbgfcoiaaMXx3
import Derived.Test.YtdhdkkhbgfcoiaaMXx7
import Derived.Test.YtdhdkkhbgfcoiaaMXx8
namespace Go.Proofs.Ytdhdkkhbgfcoiaa.MX
open Go.RowKit Go.Proofs.YtdhdkkhbgfcoiaaW.PrintWords Go.Proofs.YtdhdkkhbgfcoiaaW.PrintLast Go.Proofs.YtdhdkkhbgfcoiaaW.PrintMore
attribute [local go_sem] max2_int min2_int max_two min_two max_three min_three max_four min_four   -- for this text's walks alone
set_option maxHeartbeats 8000000
set_option maxRecDepth 100000
set_option linter.unusedVariables false
set_option linter.unusedSimpArgs false
def spec_DrawCanDrive.in_ (k : Nat) (s0_0 : List Int) (s0_1 : Int) (s0_2 : Int) : Option (ByteArray × ByteArray × List Int × ByteArray × Int × Int) := (spec_l1Cur_driven.f k s0_0 s0_1 s0_2).bind fun bt407 => ((spec_l1Cur_of.f s0_0 bt407.2.2.2.2.1 bt407.2.2.2.2.2 (([(⟨#[101]⟩ : ByteArray), (⟨#[110]⟩ : ByteArray), (⟨#[115]⟩ : ByteArray), (⟨#[119]⟩ : ByteArray), (⟨#[101]⟩ : ByteArray), (⟨#[110]⟩ : ByteArray), (⟨#[115]⟩ : ByteArray), (⟨#[119]⟩ : ByteArray), (⟨#[]⟩ : ByteArray), (⟨#[120]⟩ : ByteArray), (⟨#[101, 110]⟩ : ByteArray)] : List ByteArray))).bind fun bt421 => (some (bt407.1, bt407.2.1, bt407.2.2.1, bt421.1, bt421.2.1, bt421.2.2)))
def spec_DrawCanDrive.T3 : Bool × List (List Nat × List Nat) := (true, [([], []), ([], []), ([], []), ([], []), ([2, 3], [2, 3]), ([0, 4, 0], [0]), ([1, 5, 0, 1, 5], [1]), ([4, 6, 0, 1, 2, 3, 4, 5, 6], [4])])
def spec_DrawCanDrive.B3 : List Nat := [0, 0, 0, 0, 12, 29, 63, 127]
theorem spec_DrawCanDrive.tab3 : rtab .any (opsOf Try.f24 3) = spec_DrawCanDrive.T3 := by kernel_rfl
theorem spec_DrawCanDrive.bits3 : waitsOk spec_DrawCanDrive.T3.2 spec_DrawCanDrive.B3 = true := by kernel_rfl
def spec_DrawCanDrive.f (k : Nat) (l0 : List Int) : Option (ByteArray × ByteArray × List Int × ByteArray) := (spec_DrawCanDrive.in_ k l0 0 0).bind fun r => some (r.1, r.2.1, r.2.2.1, r.2.2.2.1)
theorem spec_DrawCanDrive.calls (k : Nat) (A0 : Option Addr) (c0 : Nat) (l0 : List Int) (r1 : ByteArray) (r2 : ByteArray) (r3 : List Int) (r4 : ByteArray) (w0 : World) (hr0 : Kd.C (Kd.int .u8) w0 A0 l0.length l0) (hc0 : l0.length ≤ c0) (h : spec_DrawCanDrive.f k l0 = some (r1, r2, r3, r4)) :
  Calls Try.prog 24 #[.slice A0 l0.length c0] w0 fun e w' => ∃ v2_ : Value, e = .returned (.tuple #[.agg #[.string r1, .string r2], v2_, .string r4]) ∧ Kd.V (Kd.int .i64) 3 w' w0.heap.size (fun k_ => (w0.heap.size ≤ k_)) v2_ r3 ∧ Below w0.heap.size w0 w' := by
 unfold spec_DrawCanDrive.f at h
 obtain ⟨⟨y0_, y1_, y2_, y3_, r5, r6⟩, h1_, h⟩ := Option.bind_eq_some_iff.1 h
 obtain ⟨rfl, rfl, rfl, rfl⟩ : y0_ = r1 ∧ y1_ = r2 ∧ y2_ = r3 ∧ y3_ = r4 := by simpa using h
 clear h
 have HIe := am (show IsS71 w0 ((w0.alloc (.cells #[.string (⟨#[]⟩ : ByteArray), .string (⟨#[]⟩ : ByteArray)] 25)).alloc (.cells #[.slice A0 l0.length c0, .int .i64 0, .int .u64 0] 71)) (w0.heap.size + 1) l0 0 0 from ⟨A0, c0, by
  have z := heap_alloc_new (w0.alloc (.cells #[.string (⟨#[]⟩ : ByteArray), .string (⟨#[]⟩ : ByteArray)] 25)) (.cells #[.slice A0 l0.length c0, .int .i64 0, .int .u64 0] 71)
  rwa [show (w0.alloc (.cells #[.string (⟨#[]⟩ : ByteArray), .string (⟨#[]⟩ : ByteArray)] 25)).heap.size = w0.heap.size + 1 by simp] at z, by omega, hr0⟩)
 have HBe := am (below_alloc (below_alloc (Below.refl w0.heap.size w0) (.cells #[.string (⟨#[]⟩ : ByteArray), .string (⟨#[]⟩ : ByteArray)] 25)) (.cells #[.slice A0 l0.length c0, .int .i64 0, .int .u64 0] 71))
 have BKe := am (show ((w0.alloc (.cells #[.string (⟨#[]⟩ : ByteArray), .string (⟨#[]⟩ : ByteArray)] 25)).alloc (.cells #[.slice A0 l0.length c0, .int .i64 0, .int .u64 0] 71)).heap[w0.heap.size]? = some (.cells #[.string (⟨#[]⟩ : ByteArray), .string (⟨#[]⟩ : ByteArray)] 25 (0, 0)) from blk_alloc (heap_alloc_new w0 (.cells #[.string (⟨#[]⟩ : ByteArray), .string (⟨#[]⟩ : ByteArray)] 25)) _)
 have HKe := am (show KeepBut w0 ((w0.alloc (.cells #[.string (⟨#[]⟩ : ByteArray), .string (⟨#[]⟩ : ByteArray)] 25)).alloc (.cells #[.slice A0 l0.length c0, .int .i64 0, .int .u64 0] 71)) (w0.heap.size + 1) none from ⟨HBe.out.size, fun i hi _ _ => HBe.out.block i hi⟩)
 obtain ⟨W_, hW_⟩ : ∃ W_ : World, W_ = ((w0.alloc (.cells #[.string (⟨#[]⟩ : ByteArray), .string (⟨#[]⟩ : ByteArray)] 25)).alloc (.cells #[.slice A0 l0.length c0, .int .i64 0, .int .u64 0] 71)) := ⟨_, rfl⟩
 rw [← hW_] at HIe HBe HKe BKe
 obtain ⟨s0_0, hs0_⟩ : ∃ z : List Int, z = l0 := ⟨_, rfl⟩
 obtain ⟨s0_1, hs1_⟩ : ∃ z : Int, z = 0 := ⟨_, rfl⟩
 obtain ⟨s0_2, hs2_⟩ : ∃ z : Int, z = 0 := ⟨_, rfl⟩
 obtain ⟨g, hg⟩ : ∃ z : Nat, z = w0.heap.size + 1 := ⟨_, rfl⟩
 have HIf := am (show IsS71 w0 W_ g s0_0 s0_1 s0_2 by rw [hs0_, hs1_, hs2_, hg]; exact HIe.out)
 have HKf := am (show KeepBut w0 W_ g none by rw [hg]; exact HKe.out)
 have h : spec_DrawCanDrive.in_ k s0_0 s0_1 s0_2 = some (y0_, y1_, y2_, y3_, r5, r6) := by rw [hs0_, hs1_, hs2_]; exact h1_
 clear hs0_ hs1_ hs2_ h1_ hr0 HIe HKe
 suffices key_ : ∀ Q_ : Ending → World → Prop, (∀ e w', (∃ v2_ : Value, e = .returned (.tuple #[.agg #[.string y0_, .string y1_], v2_, .string y3_]) ∧ Kd.V (Kd.int .i64) 3 w' w0.heap.size (fun k_ => (w0.heap.size ≤ k_)) v2_ y2_ ∧ IsS71 w0 w' g s0_0 r5 r6 ∧ Below w0.heap.size w0 w' ∧ KeepBut w0 w' g none) → Q_ e w') → Calls Try.prog 24 #[.slice A0 l0.length c0] w0 Q_ by
  exact key_ _ (fun e w' z_ => by obtain ⟨q0_, p0_, p1_, p2_, p3_, p4_⟩ := z_; exact ⟨q0_, p0_, p1_, p3_⟩)
 intro Q_ hQ_
 have HQ_ := am hQ_
 clear hQ_
 have hu25 := Try.underlying25
 unfold spec_DrawCanDrive.in_ at h
 have H := h
 clear h
 obtain ⟨⟨t407, t408, t409, t412, t415, t416⟩, A2, H⟩ := bnd_ H
 try dsimp only at H
 obtain ⟨y418, hy418⟩ : ∃ y_ : List ByteArray, y_ = (([(⟨#[101]⟩ : ByteArray), (⟨#[110]⟩ : ByteArray), (⟨#[115]⟩ : ByteArray), (⟨#[119]⟩ : ByteArray), (⟨#[101]⟩ : ByteArray), (⟨#[110]⟩ : ByteArray), (⟨#[115]⟩ : ByteArray), (⟨#[119]⟩ : ByteArray), (⟨#[]⟩ : ByteArray), (⟨#[120]⟩ : ByteArray), (⟨#[101, 110]⟩ : ByteArray)] : List ByteArray)) := ⟨_, rfl⟩
 rw [← hy418] at H
 have Ny418 := am hy418
 clear hy418
 obtain ⟨⟨t421, t422, t423⟩, A3, H⟩ := bnd_ H
 try dsimp only at H
 simp only [Option.some.injEq, Prod.mk.injEq] at H
 obtain ⟨rfl, rfl, rfl, rfl, rfl, rfl⟩ := H
 go_enter Try.func24, Try.ntmps24
 go_upto_region 2 with (fail)
 rw [← hW_]
 obtain ⟨gb406, hgb406⟩ : ∃ z : Nat, z = w0.heap.size := ⟨_, rfl⟩
 rw [← hg]
 rw [← hgb406] at BKe ⊢
 have HI0 := HIf
 have HK := HKf
 have HB := HBe
 have HL := am (Nat.le_refl w0.heap.size)
 have HW0 := am (Nat.le_refl w0.heap.size)
 have BK406 := BKe
 have NB406_0 := am (show gb406 ≠ g by omega)
 have NB0_406 := am (show g ≠ gb406 by omega)
 have GW406 := am (show w0.heap.size ≤ gb406 by omega)
 have GE406 := am (show w0.heap.size ≤ gb406 by omega)
 clear BKe
 clear HIf HKf HBe hW_ hg hgb406
 try go_wp2_with (first | ((with_reducible refine gate_callee (f := 47) rfl ?_); refine gl_ 14 Try.func47 #[.pointer (some ⟨g, 0, none⟩)] ?_; (with_reducible refine (spec_l1Cur_driven.calls k g s0_0 s0_1 s0_2 t407 t408 t409 t412 t415 t416 w0 _ (HI0.out) ?side2 A2.out).mono ?_); (case side2 => repeat (with_reducible first | exact HB.out)); rintro e w5 ⟨v410, v413, rfl, ho0, ho1, hi, hb, hk⟩; refine ⟨_, rfl, ?_⟩; have HO411 := am (Kd.V_lower (Kd.V_mono (ok' := fun k_ => (w0.heap.size ≤ k_) ∧ k_ ≠ gb406 ∧ k_ ≠ g) ho0 (fun k_ hk_ => ⟨(Nat.le_trans (keep_size (w := w0) (g := g) (row := none) HK.out) hk_), (Kd.freshB (g := gb406) (o := .cells #[.string (⟨#[]⟩ : ByteArray), .string (⟨#[]⟩ : ByteArray)] 25 (0, 0)) BK406.out k_ hk_), (IsS71.fresh HI0.out k_ hk_)⟩)) (keep_size (w := w0) (g := g) (row := none) HK.out)); have HO414 := am (Kd.V_lower (Kd.V_mono (ok' := fun k_ => (w0.heap.size ≤ k_) ∧ k_ ≠ gb406 ∧ k_ ≠ g) ho1 (fun k_ hk_ => ⟨(Nat.le_trans (keep_size (w := w0) (g := g) (row := none) HK.out) hk_), (Kd.freshB (g := gb406) (o := .cells #[.string (⟨#[]⟩ : ByteArray), .string (⟨#[]⟩ : ByteArray)] 25 (0, 0)) BK406.out k_ hk_), (IsS71.fresh HI0.out k_ hk_)⟩)) (keep_size (w := w0) (g := g) (row := none) HK.out)); replace BK406 := am (KeepBut.blk hk BK406.out NB406_0.out (by simp)); replace HK := am (KeepBut.trans HK.out hk (.inl rfl)); replace HB := am (hb); replace HI0 := am (hi); (try clear hb); (try clear hk); (try clear hi); (try clear ho0); (try clear ho1)) | ((with_reducible refine gate_dst (N := 6) rfl ?_); refine bx_ 6 (#[.string (⟨#[]⟩ : ByteArray), .string (⟨#[]⟩ : ByteArray)]) 25 ?_; intro gb417 hg w6 hbox hb; replace HO411 := am (Kd.V_below (Kd.V_elderB HO411.out gb417 (Nat.le_of_eq hg.symm)) hb); replace HO414 := am (Kd.V_below (Kd.V_elderB HO414.out gb417 (Nat.le_of_eq hg.symm)) hb); replace HB := am (below_step HB.out hb); have BK417 := am (hbox); have GW417 := am ((by rw [hg]; exact (keep_size (w := w0) (g := g) (row := none) HK.out) : w0.heap.size ≤ gb417)); have GE417 := am ((Nat.le_trans HW0.out (by rw [hg]; exact (keep_size (w := w0) (g := g) (row := none) HK.out) : w0.heap.size ≤ gb417) : w0.heap.size ≤ gb417)); replace HK := am (KeepBut.trans HK.out (KeepBut.of_below hb g none) (.inl rfl)); have NB406_417 := am ((by rw [hg]; exact Nat.ne_of_lt (blk_lt (g := gb406) (o := .cells #[.string (⟨#[]⟩ : ByteArray), .string (⟨#[]⟩ : ByteArray)] 25 (0, 0)) BK406.out) : gb406 ≠ gb417)); have NB417_406 := am ((by rw [hg]; exact Nat.ne_of_gt (blk_lt (g := gb406) (o := .cells #[.string (⟨#[]⟩ : ByteArray), .string (⟨#[]⟩ : ByteArray)] 25 (0, 0)) BK406.out) : gb417 ≠ gb406)); replace BK406 := am (blk_below BK406.out hb); have NB0_417 := am ((by rw [hg]; exact Nat.ne_of_lt (IsS71.lt (show IsS71 w0 _ g s0_0 t415 t416 from by exact HI0.out)) : g ≠ gb417)); have NB417_0 := am ((by rw [hg]; exact Nat.ne_of_gt (IsS71.lt (show IsS71 w0 _ g s0_0 t415 t416 from by exact HI0.out)) : gb417 ≠ g)); replace HI0 := am (IsS71.below HI0.out hb); clear hb hbox hg; have hnb7 := NB417_406.out; have hnc7 := NB406_417.out; have hnb8 := NB417_0.out; have hnc8 := NB0_417.out; have hcz9_0 := cz0_ BK417; have hcz9_1 := cz1_ BK417; have hfz9_0 := blk_frozen BK417.out 0; have hfz9_1 := blk_frozen BK417.out 1))
 have n0_ : Aside0 (Kd.V (Kd.int .i64) 3 ((w6.setCell ⟨gb417, 0, none⟩ (.string t407)).setCell ⟨gb417, 1, none⟩ (.string t408)) w0.heap.size (fun k_ => (w0.heap.size ≤ k_) ∧ k_ ≠ gb406 ∧ k_ ≠ g ∧ k_ ≠ gb417) v410 t409) := ⟨by (with_reducible skip); exact Kd.V_mono (Kd.V_far (p := ⟨gb417, 1, none⟩) (Kd.V_far (p := ⟨gb417, 0, none⟩) (Kd.V_mono HO411.out (fun k_ hk => (⟨hk, hk.2⟩ : _ ∧ k_ ≠ gb417))) (fun _ hk => hk.2) (.string t407)) (fun _ hk => hk.2) (.string t408)) (fun _ hk => ⟨hk.1.1.1, ⟨hk.1.1.2.1, ⟨hk.1.1.2.2, hk.1.2⟩⟩⟩)⟩
 have n1_ : Aside0 (Kd.V (Kd.int .i64) 3 ((w6.setCell ⟨gb417, 0, none⟩ (.string t407)).setCell ⟨gb417, 1, none⟩ (.string t408)) w0.heap.size (fun k_ => (w0.heap.size ≤ k_) ∧ k_ ≠ gb406 ∧ k_ ≠ g ∧ k_ ≠ gb417) v413 t412) := ⟨by (with_reducible skip); exact Kd.V_mono (Kd.V_far (p := ⟨gb417, 1, none⟩) (Kd.V_far (p := ⟨gb417, 0, none⟩) (Kd.V_mono HO414.out (fun k_ hk => (⟨hk, hk.2⟩ : _ ∧ k_ ≠ gb417))) (fun _ hk => hk.2) (.string t407)) (fun _ hk => hk.2) (.string t408)) (fun _ hk => ⟨hk.1.1.1, ⟨hk.1.1.2.1, ⟨hk.1.1.2.2, hk.1.2⟩⟩⟩)⟩
 have n2_ : Aside0 (((w6.setCell ⟨gb417, 0, none⟩ (.string t407)).setCell ⟨gb417, 1, none⟩ (.string t408)).heap[gb406]? = some (.cells #[.string (⟨#[]⟩ : ByteArray), .string (⟨#[]⟩ : ByteArray)] 25 (0, 0))) := ⟨by (with_reducible skip); refine blk_far ?_ NB406_417.out _; (with_reducible skip); refine blk_far ?_ NB406_417.out _; (with_reducible skip); exact BK406.out⟩
 have n3_ : Aside0 (((w6.setCell ⟨gb417, 0, none⟩ (.string t407)).setCell ⟨gb417, 1, none⟩ (.string t408)).heap[gb417]? = some (.cells #[.string t407, .string t408] 25 (0, 0))) := ⟨by (with_reducible skip); refine blk_put (cs := #[.string t407, .string (⟨#[]⟩ : ByteArray)]) ?_ 1 _ rfl; (with_reducible skip); refine blk_put (cs := #[.string (⟨#[]⟩ : ByteArray), .string (⟨#[]⟩ : ByteArray)]) ?_ 0 _ rfl; (with_reducible skip); exact BK417.out⟩
 have n4_ : Aside0 (IsS71 w0 ((w6.setCell ⟨gb417, 0, none⟩ (.string t407)).setCell ⟨gb417, 1, none⟩ (.string t408)) g s0_0 t415 t416) := ⟨by repeat (with_reducible first | exact HI0.out | refine IsS71.far ?_ NB0_417.out _)⟩
 have n5_ : Aside0 (KeepBut w0 ((w6.setCell ⟨gb417, 0, none⟩ (.string t407)).setCell ⟨gb417, 1, none⟩ (.string t408)) g none) := ⟨by repeat (with_reducible first | exact HK.out | refine keep_far ?_ GW417.out _)⟩
 have n6_ : Aside0 (Below w0.heap.size w0 ((w6.setCell ⟨gb417, 0, none⟩ (.string t407)).setCell ⟨gb417, 1, none⟩ (.string t408))) := ⟨by repeat (with_reducible first | exact HB.out | refine below_set ?_ GE417.out)⟩
 (try clear HO411)
 (try clear HO414)
 (try clear BK406)
 (try clear BK417)
 (try clear HI0)
 (try clear HK)
 (try clear HB)
 generalize ((w6.setCell ⟨gb417, 0, none⟩ (.string t407)).setCell ⟨gb417, 1, none⟩ (.string t408)) = w10 at n0_ n1_ n2_ n3_ n4_ n5_ n6_ ⊢
 have HO411 := n0_
 have HO414 := n1_
 have BK406 := n2_
 have BK417 := n3_
 have HI0 := n4_
 have HK := n5_
 have HB := n6_
 clear n0_ n1_ n2_ n3_ n4_ n5_ n6_
 replace HO411 := am (Kd.V_drew HO411.out)
 replace HO414 := am (Kd.V_drew HO414.out)
 replace BK406 := am (blk_drew BK406.out)
 replace BK417 := am (blk_drew BK417.out)
 replace HI0 := am (IsS71.drew HI0.out)
 replace HK := am (keep_drew HK.out)
 replace HB := am (below_drew1 HB.out)
 refine start_ (n := 8) (S := fun w' => w'.cell? ⟨gb417, 0, none⟩ = some (.string t407) ∧ w'.cell? ⟨gb417, 1, none⟩ = some (.string t408)) (ds := []) #[false, false, false, false, false, false, false, false] (by kernel_rfl) rfl rfl ⟨(blk_cell BK417.out 0).trans rfl, (blk_cell BK417.out 1).trans rfl⟩ (fun hHeld => ?_); refine with_tabW spec_DrawCanDrive.tab3 spec_DrawCanDrive.bits3 (fun HT_ HW_ => ?_)
 generalize w10.drew = w11 at HO411 HO414 BK406 BK417 HI0 HK HB hHeld ⊢
 refine pu_ 1 19 (fl_ 8 2) HT_ ?_
 refine pu_ 2 20 (fl_ 8 6) HT_ ?_
 refine tk_ 0 18 (fl_ 8 7) HT_ HW_ hHeld ?_ (hy := by rintro w' ⟨s0, s1⟩; go_simp; with_reducible rfl)
 refine on_ 3 21 (fl_ 8 15) HT_ fun K hK => ?_
 refine Kd.R_lit_step Kd.string _ 9 ?hg (N := 21) ?hd (xs := ([(⟨#[101]⟩ : ByteArray), (⟨#[110]⟩ : ByteArray), (⟨#[115]⟩ : ByteArray), (⟨#[119]⟩ : ByteArray), (⟨#[101]⟩ : ByteArray), (⟨#[110]⟩ : ByteArray), (⟨#[115]⟩ : ByteArray), (⟨#[119]⟩ : ByteArray), (⟨#[]⟩ : ByteArray), (⟨#[120]⟩ : ByteArray), (⟨#[101, 110]⟩ : ByteArray)] : List ByteArray)) (inner := [.string (⟨#[101]⟩ : ByteArray), .string (⟨#[110]⟩ : ByteArray), .string (⟨#[115]⟩ : ByteArray), .string (⟨#[119]⟩ : ByteArray), .string (⟨#[101]⟩ : ByteArray), .string (⟨#[110]⟩ : ByteArray), .string (⟨#[115]⟩ : ByteArray), .string (⟨#[119]⟩ : ByteArray), .string (⟨#[]⟩ : ByteArray), .string (⟨#[120]⟩ : ByteArray), .string (⟨#[101, 110]⟩ : ByteArray)]) (ok := fun _ => True) (okp := fun _ => True) ?hr ?hp (fun _ hk => hk) trivial (Below.refl _ _) (Nat.le_refl _) (by simp) ?_; (case hd => rfl); (case hg => rfl); (case hr => go_simp; done); (case hp => exact (Reps.one (show Kd.M Kd.string _ _ _ (⟨#[101]⟩ : ByteArray) [.string (⟨#[101]⟩ : ByteArray)] from rfl) (Reps.one (show Kd.M Kd.string _ _ _ (⟨#[110]⟩ : ByteArray) [.string (⟨#[110]⟩ : ByteArray)] from rfl) (Reps.one (show Kd.M Kd.string _ _ _ (⟨#[115]⟩ : ByteArray) [.string (⟨#[115]⟩ : ByteArray)] from rfl) (Reps.one (show Kd.M Kd.string _ _ _ (⟨#[119]⟩ : ByteArray) [.string (⟨#[119]⟩ : ByteArray)] from rfl) (Reps.one (show Kd.M Kd.string _ _ _ (⟨#[101]⟩ : ByteArray) [.string (⟨#[101]⟩ : ByteArray)] from rfl) (Reps.one (show Kd.M Kd.string _ _ _ (⟨#[110]⟩ : ByteArray) [.string (⟨#[110]⟩ : ByteArray)] from rfl) (Reps.one (show Kd.M Kd.string _ _ _ (⟨#[115]⟩ : ByteArray) [.string (⟨#[115]⟩ : ByteArray)] from rfl) (Reps.one (show Kd.M Kd.string _ _ _ (⟨#[119]⟩ : ByteArray) [.string (⟨#[119]⟩ : ByteArray)] from rfl) (Reps.one (show Kd.M Kd.string _ _ _ (⟨#[]⟩ : ByteArray) [.string (⟨#[]⟩ : ByteArray)] from rfl) (Reps.one (show Kd.M Kd.string _ _ _ (⟨#[120]⟩ : ByteArray) [.string (⟨#[120]⟩ : ByteArray)] from rfl) (Reps.one (show Kd.M Kd.string _ _ _ (⟨#[101, 110]⟩ : ByteArray) [.string (⟨#[101, 110]⟩ : ByteArray)] from rfl) (Reps.none _ _)))))))))))))
 intro v419 w12 ho13 hb hg_ hnew_
 clear hg_ hnew_
 (rw [← Ny418.out] at ho13)
 replace HO411 := am (Kd.V_elder' HO411.out (Kd.R_base ho13) hb)
 replace HO414 := am (Kd.V_elder' HO414.out (Kd.R_base ho13) hb)
 have HO420 := am (Kd.R_lower (Kd.R_newM (M := fun k_ => (w0.heap.size ≤ k_)) ho13 (keep_size (w := w0) (g := g) (row := none) HK.out) (fun k_ h_ => h_)) (keep_size (w := w0) (g := g) (row := none) HK.out))
 replace HI0 := am (IsS71.below HI0.out hb)
 replace BK406 := am (blk_below BK406.out hb)
 replace BK417 := am (blk_below BK417.out hb)
 replace HK := am (KeepBut.trans HK.out (KeepBut.of_below hb g none) (.inl rfl))
 replace HB := am (below_step HB.out hb)
 clear hb ho13
 obtain ⟨Ao14, co14, eo14⟩ := Kd.R_slice HO420.out
 (subst eo14)
 refine hK.out _ _ ⟨(blk_cell BK417.out 0).trans rfl, (blk_cell BK417.out 1).trans rfl⟩ (fun hHeld => ?_)
 clear hK K
 refine nm_ 21 ?_
 refine on_ 4 22 (fl_ 8 31) HT_ fun K hK => ?_
 refine gs_ Try.func53 #[.pointer (some ⟨g, 0, none⟩), .slice Ao14 y418.length co14] ?_
 with_reducible refine (spec_l1Cur_of.calls g s0_0 t415 t416 _ _ y418 t421 t422 t423 w0 _ ?side1 ?side2 ?side3 ?side4 ?side5 A3.out).mono ?_
 (case side1 => repeat (with_reducible first | exact HI0.out))
 (case side2 => repeat (with_reducible first | exact HB.out))
 (case side3 => repeat (exact (Kd.R_reads' HO420.out).2.2))
 (case side4 => exact (Kd.R_reads' HO420.out).2.1)
 (case side5 => exact far_slice (IsS71.own_ne HI0.out HO420.out (by decide)))
 rintro e w15 ⟨rfl, hi, hb, hk⟩
 refine ⟨_, rfl, ?_⟩
 replace BK406 := am (KeepBut.blk hk BK406.out NB406_0.out (by simp))
 replace HO411 := am (Kd.V_mono (Kd.V_keep (Kd.V_mono (ok := fun k_ => ((((w0.heap.size ≤ k_)) ∧ (k_ ≠ gb406 ∧ (k_ ≠ g ∧ k_ ≠ gb417))) ∧ some k_ ≠ (.slice Ao14 y418.length co14 : Value).ownBlock)) HO411.out (fun k_ hk_ => (⟨hk_, hk_.1.2.2.1⟩ : _ ∧ k_ ≠ g))) hk (fun _ h => h.2)) (fun _ h => h.1))
 replace HO414 := am (Kd.V_mono (Kd.V_keep (Kd.V_mono (ok := fun k_ => ((((w0.heap.size ≤ k_)) ∧ (k_ ≠ gb406 ∧ (k_ ≠ g ∧ k_ ≠ gb417))) ∧ some k_ ≠ (.slice Ao14 y418.length co14 : Value).ownBlock)) HO414.out (fun k_ hk_ => (⟨hk_, hk_.1.2.2.1⟩ : _ ∧ k_ ≠ g))) hk (fun _ h => h.2)) (fun _ h => h.1))
 replace BK417 := am (KeepBut.blk hk BK417.out NB417_0.out (by simp))
 replace HO420 := am (Kd.R_mono (Kd.R_keep (IsS71.apart (show IsS71 w0 _ g s0_0 t415 t416 from by exact HI0.out) HO420.out (by decide)) hk (fun _ h => h.2)) (fun _ h => h.1))
 replace HK := am (KeepBut.trans HK.out hk (.inl rfl))
 replace HB := am (hb)
 replace HI0 := am (hi)
 (try clear hb)
 (try clear hk)
 (try clear hi)
 refine hK.out _ _ ⟨(blk_cell BK417.out 0).trans rfl, (blk_cell BK417.out 1).trans rfl⟩ (fun hHeld => ?_)
 clear hK K
 refine nm_ 22 ?_
 refine one_ (i := 5) (N := none) #[true, true, true, true, true, true, false, false] rfl rfl (one_of HT_.out (by kernel_rfl)) (by decide) (fun K hK => ?_)
 have hs16 : w15.cell? ⟨gb406, 0, none⟩ = some (.string (⟨#[]⟩ : ByteArray)) := (blk_cell BK406.out 0).trans rfl
 have hfs16 := blk_frozen BK406.out 0
 have hns16_1 := NB417_406.out
 have hms16_1 := NB406_417.out
 have hs17 : w15.cell? ⟨gb406, 1, none⟩ = some (.string (⟨#[]⟩ : ByteArray)) := (blk_cell BK406.out 1).trans rfl
 have hfs17 := blk_frozen BK406.out 1
 have hns17_1 := NB417_406.out
 have hms17_1 := NB406_417.out
 refine skip_ (w1 := ?_) (by rfl) rfl ?_ ?_
 rotate_left
 ·go_simp
  rfl
 refine hK.out _ _ ⟨((cell_far (p := ⟨gb406, _, none⟩) NB417_406.out _).trans (((cell_far (p := ⟨gb406, _, none⟩) NB417_406.out _).trans (hHeld.1)))), ((cell_far (p := ⟨gb406, _, none⟩) NB417_406.out _).trans (((cell_far (p := ⟨gb406, _, none⟩) NB417_406.out _).trans (hHeld.2))))⟩ (fun hHeld => ?_)
 clear hK K
 refine pu_ 6 3 (fl_ 8 127) HT_ ?_
 refine pu_ 7 4 (fl_ 8 255) HT_ ?_
 refine done_ (done_of HT_.out (by kernel_rfl)) ?_
 try go_wp2
 refine bodyPost_ret (results_ctt rfl _ _ gb406 25 #[.string t407, .string t408] (0, 0) _ rfl (by (with_reducible skip); refine blk_put (cs := #[.string t407, .string (⟨#[]⟩ : ByteArray)]) ?_ 1 _ rfl; (with_reducible skip); refine blk_put (cs := #[.string (⟨#[]⟩ : ByteArray), .string (⟨#[]⟩ : ByteArray)]) ?_ 0 _ rfl; (with_reducible skip); exact BK406.out) Try.underlying25 rfl (by kernel_rfl)) rfl ?_
 exact HQ_.out _ _ ⟨_, by rfl, by (with_reducible skip); exact Kd.V_mono (Kd.V_far (p := ⟨gb406, 1, none⟩) (Kd.V_far (p := ⟨gb406, 0, none⟩) (Kd.V_mono HO411.out (fun k_ hk => (⟨hk, hk.1.2.1⟩ : _ ∧ k_ ≠ gb406))) (fun _ hk => hk.2) (.string t407)) (fun _ hk => hk.2) (.string t408)) (fun _ hk => hk.1.1.1), by repeat (with_reducible first | exact HI0.out | refine IsS71.far ?_ NB0_406.out _), by repeat (with_reducible first | exact HB.out | refine below_set ?_ GE406.out), by repeat (with_reducible first | exact HK.out | refine keep_far ?_ GW406.out _)⟩
def spec_owSign.f (a0 : Int) : Option (Bool) := if a0 = 101 then (some true) else (if a0 = 110 then (some true) else (if a0 = 119 then (some true) else (some (a0 == 115))))
theorem spec_owSign.calls (a0 : Int) (r : Bool) (w : World) (h : spec_owSign.f a0 = some r) :
  Calls Try.prog 54 #[.int .u8 a0] w fun e w' => e = .returned (.bool r) ∧ Drawn0 w w' := by
 unfold spec_owSign.f at h
 have H := h
 clear h
 by_cases c2 : a0 = 101
 ·rw [if_pos c2] at H
  have c2b0 : (a0 == 101) = true := beq_iff_eq.mpr c2
  have c2b1 : (a0 != 101) = false := bne_eq_false_iff_eq.mpr c2
  clear c2
  obtain rfl := Option.some.inj H
  go_enter Try.func54, Try.ntmps54
  go_wp2
  go_ret
  exact ⟨by rfl, by repeat (exact Drawn0.refl _)⟩
 ·rw [if_neg c2] at H
  have c2b0 : (a0 == 101) = false := beq_eq_false_iff_ne.mpr c2
  have c2b1 : (a0 != 101) = true := bne_iff_ne.mpr c2
  by_cases c3 : a0 = 110
  ·rw [if_pos c3] at H
   have c3b0 : (a0 == 110) = true := beq_iff_eq.mpr c3
   have c3b1 : (a0 != 110) = false := bne_eq_false_iff_eq.mpr c3
   clear c3
   obtain rfl := Option.some.inj H
   go_enter Try.func54, Try.ntmps54
   go_wp2
   go_ret
   exact ⟨by rfl, by repeat (exact Drawn0.refl _)⟩
  ·rw [if_neg c3] at H
   have c3b0 : (a0 == 110) = false := beq_eq_false_iff_ne.mpr c3
   have c3b1 : (a0 != 110) = true := bne_iff_ne.mpr c3
   by_cases c4 : a0 = 119
   ·rw [if_pos c4] at H
    have c4b0 : (a0 == 119) = true := beq_iff_eq.mpr c4
    have c4b1 : (a0 != 119) = false := bne_eq_false_iff_eq.mpr c4
    clear c4
    obtain rfl := Option.some.inj H
    go_enter Try.func54, Try.ntmps54
    go_wp2
    go_ret
    exact ⟨by rfl, by repeat (exact Drawn0.refl _)⟩
   ·rw [if_neg c4] at H
    have c4b0 : (a0 == 119) = false := beq_eq_false_iff_ne.mpr c4
    have c4b1 : (a0 != 119) = true := bne_iff_ne.mpr c4
    obtain rfl := Option.some.inj H
    go_enter Try.func54, Try.ntmps54
    go_wp2
    go_ret
    exact ⟨by rfl, by repeat (exact Drawn0.refl _)⟩
def spec_CanDrive.f (k : Nat) (a0_0 : ByteArray) (a0_1 : ByteArray) (l1 : List Int) (a2 : ByteArray) : Option (Bool × Bool) := (spec_owGood.f k a0_0 a0_1).bind fun t425 => (if t425 = true then ((spec_owCorner.f a0_0 a0_1 l1).bind fun t426 => (if t426 = true then (if (a2.size : Int) = 1 then (if 0 < (a2.size : Int) then ((spec_owSign.f (bt a2 0)).bind fun t427 => (if t427 = true then (if 0 < (l1.length : Int) then (if 1 < (l1.length : Int) then ((spec_owStep.f k a0_0 a0_1 (rd l1 0) (rd l1 1) (bt a2 0)).bind fun bt430 => (some (bt430.2.2, true))) else (none)) else (none)) else (some (false, false)))) else (none)) else (some (false, false))) else (some (false, false)))) else (some (false, false)))
def spec_CanDrive.T3 : Bool × List (List Nat × List Nat) := (true, [([], []), ([], []), ([1], [1]), ([2], [2]), ([], []), ([4], [4]), ([5], [5]), ([], []), ([7], [7]), ([0, 3, 6, 8], [0, 3, 6, 8]), ([9], [9]), ([10], [10]), ([10], [10]), ([10], [10]), ([11, 9, 0, 1, 2, 3, 4, 5, 6, 7, 8, 9, 10, 11], [11]), ([12, 14, 0, 1, 2, 3, 4, 5, 6, 7, 8, 9, 10, 11, 12, 14], [12]), ([13, 15, 0, 1, 2, 3, 4, 5, 6, 7, 8, 9, 10, 11, 12, 13, 14, 15], [13])])
def spec_CanDrive.B3 : List Nat := [0, 0, 2, 6, 0, 16, 48, 0, 128, 511, 1023, 2047, 2047, 2047, 4095, 24575, 65535]
theorem spec_CanDrive.tab3 : rtab .any (opsOf Try.f25 3) = spec_CanDrive.T3 := by kernel_rfl
theorem spec_CanDrive.bits3 : waitsOk spec_CanDrive.T3.2 spec_CanDrive.B3 = true := by kernel_rfl
theorem spec_CanDrive.calls (k : Nat) (a0_0 : ByteArray) (a0_1 : ByteArray) (A1 : Option Addr) (c1 : Nat) (l1 : List Int) (a2 : ByteArray) (r1 : Bool) (r2 : Bool) (w : World) (hr1 : Kd.C (Kd.int .i64) w A1 l1.length l1) (hc1 : l1.length ≤ c1) (h : spec_CanDrive.f k a0_0 a0_1 l1 a2 = some (r1, r2)) :
  Calls Try.prog 25 #[.agg #[.string a0_0, .string a0_1], .slice A1 l1.length c1, .string a2] w fun e w' => e = .returned (.tuple #[.bool r1, .bool r2]) ∧ Below w.heap.size w w' := by
 have hu25 := Try.underlying25
 have HR1 := am hr1
 have HC1 := am hc1
 clear hr1 hc1
 have HB := am (Below.refl w.heap.size w)
 unfold spec_CanDrive.f at h
 have H := h
 clear h
 obtain ⟨t425, A4, H⟩ := bnd_ H
 try dsimp only at H
 by_cases c5 : t425 = true
 ·subst c5
  rw [if_pos rfl] at H
  obtain ⟨t426, A6, H⟩ := bnd_ H
  try dsimp only at H
  by_cases c7 : t426 = true
  ·subst c7
   rw [if_pos rfl] at H
   by_cases c8 : (a2.size : Int) = 1
   ·rw [if_pos c8] at H
    have c8b0 : ((a2.size : Int) == 1) = true := beq_iff_eq.mpr c8
    have c8b1 : ((a2.size : Int) != 1) = false := bne_eq_false_iff_eq.mpr c8
    clear c8
    by_cases c9 : 0 < (a2.size : Int)
    ·rw [if_pos c9] at H
     have c9b0 : decide (0 < (a2.size : Int)) = true := decide_eq_true c9
     have c9b1 : decide (0 < a2.size) = true := decide_eq_true (by omega)
     clear c9
     obtain ⟨t427, A11, H⟩ := bnd_ H
     try dsimp only at H
     by_cases c12 : t427 = true
     ·subst c12
      rw [if_pos rfl] at H
      by_cases c13 : 0 < (l1.length : Int)
      ·rw [if_pos c13] at H
       have c13b0 : decide (0 < (l1.length : Int)) = true := decide_eq_true c13
       have c13b1 : decide (0 < l1.length) = true := decide_eq_true (by omega)
       clear c13
       by_cases c14 : 1 < (l1.length : Int)
       ·rw [if_pos c14] at H
        have c14b0 : decide (1 < (l1.length : Int)) = true := decide_eq_true c14
        have c14b1 : decide (1 < l1.length) = true := decide_eq_true (by omega)
        clear c14
        obtain ⟨⟨t430, t431, t432⟩, A16, H⟩ := bnd_ H
        try dsimp only at H
        simp only [Option.some.injEq, Prod.mk.injEq] at H
        obtain ⟨rfl, rfl⟩ := H
        go_enter Try.func25, Try.ntmps25
        try go_wp2_with (first | ((with_reducible refine gate_dst (N := 3) rfl ?_); (try (refine gate_guard (by rfl) ?_; dsimp only)); refine bx_ 3 (#[.string a0_0, .string a0_1]) 25 ?_; intro gb424 hg w17 hbox hb; have BK424 := am (hbox); have GW424 := am ((by rw [hg]; exact (below_size HB.out) : w.heap.size ≤ gb424)); have GE424 := am ((by rw [hg]; exact (below_size HB.out) : w.heap.size ≤ gb424)); replace HB := am (below_step HB.out hb); clear hb hbox hg; have hcz18_0 := cz0_ BK424; have hcz18_1 := cz1_ BK424; have hfz18_0 := blk_frozen BK424.out 0; have hfz18_1 := blk_frozen BK424.out 1) | ((with_reducible refine gate_callee (f := 49) rfl ?_); refine gl_ 12 Try.func49 #[.agg #[.string a0_0, .string a0_1]] ?_; (with_reducible refine (spec_owGood.calls k a0_0 a0_1 true _ A4.out).mono ?_); rintro e w19 ⟨rfl, hb⟩; refine ⟨_, rfl, ?_⟩; replace BK424 := am (blk_below BK424.out hb); replace HB := am (below_step HB.out hb); (try clear hb); have hcz20_0 := cz0_ BK424; have hcz20_1 := cz1_ BK424; have hfz20_0 := blk_frozen BK424.out 0; have hfz20_1 := blk_frozen BK424.out 1) | (go_at_call 50; (with_reducible refine (spec_owCorner.calls a0_0 a0_1 _ _ l1 true _ ((Kd.C_below HR1.out HB.out)) ?side2 A6.out).mono ?_); (case side2 => exact HC1.out); rintro e w21 ⟨rfl, hb⟩; replace BK424 := am (blk_below BK424.out hb); replace HB := am (below_step HB.out hb); (try clear hb); have p10 : 0 ≤ (0 : Int) := (by omega); have q10 : 0 < a2.size := (by have : (0 : Int) < (a2.size : Int) := of_decide_eq_true (by with_reducible assumption); omega); have hx10 : ∀ h : 0 < a2.size, ((a2[0]'h).toNat : Int) = bt a2 0 := bt_at a2 0; clear p10; have qi10 : (0 < (a2.size : Int)) = True := eq_true (of_decide_eq_true (by with_reducible assumption)); replace q10 := eq_true q10) | (go_at_call 54; (with_reducible refine (spec_owSign.calls (bt a2 0) true _ A11.out).mono ?_); rintro e w' ⟨rfl, ⟨nd, rfl⟩⟩))
        (try (rw [drewN_self w21]; generalize hq_ : World.drewN w21 _ = w21; have n0_ : Aside0 (w21.heap[gb424]? = some (.cells #[.string a0_0, .string a0_1] 25 (0, 0))) := ⟨by rw [← hq_]; exact (by (with_reducible repeat (refine blk_drewN ?_ _)); exact BK424.out)⟩; have n1_ : Aside0 (Below w.heap.size w w21) := ⟨by rw [← hq_]; exact (by repeat (with_reducible first | exact HB.out | apply pw_below_drewN))⟩; clear BK424 HB hq_; have BK424 := n0_; have HB := n1_; clear n0_ n1_))
        replace BK424 := am (blk_drew BK424.out)
        replace HB := am (below_drew1 HB.out)
        have p428 : 0 ≤ (0 : Int) := (by omega)
        have q428 : 0 < (l1.length : Int) := of_decide_eq_true (by with_reducible assumption)
        obtain ⟨ad428, e428, hx428_0⟩ := Kd.at_int HR1.out 0 p428 q428
        have hw428_0 := hx428_0
        (try rw [show ((0 : Int)).toNat = 0 from rfl] at hw428_0)
        (try rw [Addr.add_zero'] at hw428_0)
        cases e428
        have qi428 : (0 < l1.length) = True := eq_true (by omega)
        (try rw [show ((0 : Int)).toNat = 0 from rfl] at hx428_0)
        (try rw [Addr.add_zero'] at hx428_0)
        replace hx428_0 := (HB.out.cell (World.block_lt_of_cell? w _ hx428_0)).trans hx428_0
        replace p428 := eq_true p428
        replace q428 := eq_true q428
        have p429 : 0 ≤ (1 : Int) := (by omega)
        have q429 : 1 < (l1.length : Int) := of_decide_eq_true (by with_reducible assumption)
        obtain ⟨ad429, e429, hx429_0⟩ := Kd.at_int HR1.out 1 p429 q429
        have hw429_0 := hx429_0
        (try rw [show ((1 : Int)).toNat = 1 from rfl] at hw429_0)
        (try simp only [Nat.reduceMul, Nat.reduceEqDiff, Go.Addr.add, ↓reduceIte] at hw429_0)
        obtain rfl : ad428 = ad429 := (by injection e429)
        (try simp only [show (1 : Int).toNat = 1 from rfl, Nat.reduceMul, Nat.reduceEqDiff, Go.Addr.add, ↓reduceIte] at hx429_0)
        have qi429 : (1 < l1.length) = True := eq_true (by omega)
        replace hx429_0 := (HB.out.cell (World.block_lt_of_cell? w _ hx429_0)).trans hx429_0
        replace p429 := eq_true p429
        replace q429 := eq_true q429
        have p15 : 0 ≤ (0 : Int) := (by omega)
        have q15 : 0 < a2.size := (by have : (0 : Int) < (a2.size : Int) := of_decide_eq_true (by with_reducible assumption); omega)
        have hx15 : ∀ h : 0 < a2.size, ((a2[0]'h).toNat : Int) = bt a2 0 := bt_at a2 0
        clear p15
        have qi15 : (0 < (a2.size : Int)) = True := eq_true (of_decide_eq_true (by with_reducible assumption))
        replace q15 := eq_true q15
        refine start_ (n := 17) (S := fun w' => w'.cell? ⟨gb424, 0, none⟩ = some (.string a0_0) ∧ w'.cell? ⟨gb424, 1, none⟩ = some (.string a0_1) ∧ w'.cell? ad428 = some (.int .i64 (rd l1 0)) ∧ w'.cell? ⟨ad428.block, ad428.off + 1, none⟩ = some (.int .i64 (rd l1 1))) (ds := []) #[false, false, false, false, false, false, false, false, false, false, false, false, false, false, false, false, false] (by kernel_rfl) rfl rfl ⟨(blk_cell BK424.out 0).trans rfl, (blk_cell BK424.out 1).trans rfl, ((HB.out.cell (World.block_lt_of_cell? w _ hw428_0)).trans hw428_0), ((HB.out.cell (World.block_lt_of_cell? w _ hw429_0)).trans hw429_0)⟩ (fun hHeld => ?_); refine with_tabW spec_CanDrive.tab3 spec_CanDrive.bits3 (fun HT_ HW_ => ?_)
        generalize w21.drew = w22 at BK424 HB hx428_0 hx429_0 hHeld ⊢
        refine pu_ 1 33 (fl_ 17 2) HT_ ?_
        refine pu_ 2 34 (fl_ 17 6) HT_ ?_
        refine pu_ 4 36 (fl_ 17 22) HT_ ?_
        refine pu_ 5 37 (fl_ 17 54) HT_ ?_
        refine pu_ 7 39 (fl_ 17 182) HT_ ?_
        refine tk_ 0 32 (fl_ 17 183) HT_ HW_ hHeld ?_ (hy := by rintro w' ⟨s0, s1, s2, s3⟩; go_simp; with_reducible rfl)
        refine tk_ 3 35 (fl_ 17 191) HT_ HW_ hHeld ?_ (hy := by rintro w' ⟨s0, s1, s2, s3⟩; go_simp; with_reducible rfl)
        refine tk_ 6 38 (fl_ 17 255) HT_ HW_ hHeld ?_ (hy := by rintro w' ⟨s0, s1, s2, s3⟩; go_simp; with_reducible rfl)
        refine tk_ 8 40 (fl_ 17 511) HT_ HW_ hHeld ?_ (hy := by rintro w' ⟨s0, s1, s2, s3⟩; go_simp; with_reducible rfl)
        refine on_ 9 41 (fl_ 17 1023) HT_ fun K hK => ?_
        refine gs_ Try.func37 #[.agg #[.string a0_0, .string a0_1], .int .i64 (rd l1 0), .int .i64 (rd l1 1), .int .u8 (bt a2 0)] ?_
        with_reducible refine (spec_owStep.calls k a0_0 a0_1 (rd l1 0) (rd l1 1) (bt a2 0) t430 t431 t432 _ A16.out).mono ?_
        rintro e w23 ⟨rfl, hb⟩
        refine ⟨_, rfl, ?_⟩
        replace BK424 := am (blk_below BK424.out hb)
        replace HB := am (below_step HB.out hb)
        (try clear hb)
        refine hK.out _ _ ⟨(blk_cell BK424.out 0).trans rfl, (blk_cell BK424.out 1).trans rfl, ((HB.out.cell (World.block_lt_of_cell? w _ hw428_0)).trans hw428_0), ((HB.out.cell (World.block_lt_of_cell? w _ hw429_0)).trans hw429_0)⟩ (fun hHeld => ?_)
        clear hK K
        refine nm_ 41 ?_
        refine pu_ 10 31 (fl_ 17 2047) HT_ ?_
        refine pu_ 11 42 (fl_ 17 4095) HT_ ?_
        refine pu_ 12 43 (fl_ 17 8191) HT_ ?_
        refine pu_ 13 44 (fl_ 17 16383) HT_ ?_
        refine pu_ 14 8 (fl_ 17 32767) HT_ ?_
        refine pu_ 15 9 (fl_ 17 65535) HT_ ?_
        refine pu_ 16 10 (fl_ 17 131071) HT_ ?_
        refine done_ (done_of HT_.out (by kernel_rfl)) ?_
        try go_wp2
        go_ret2
        exact ⟨by rfl, by exact HB.out⟩
       ·rw [if_neg c14] at H
        exact absurd H (by simp)
      ·rw [if_neg c13] at H
       exact absurd H (by simp)
     ·replace c12 := Bool.eq_false_iff.mpr c12
      subst c12
      rw [if_neg (show ¬ (false = true) by decide)] at H
      simp only [Option.some.injEq, Prod.mk.injEq] at H
      obtain ⟨rfl, rfl⟩ := H
      go_enter Try.func25, Try.ntmps25
      go_wp2_with (first | ((with_reducible refine gate_dst (N := 3) rfl ?_); (try (refine gate_guard (by rfl) ?_; dsimp only)); refine bx_ 3 (#[.string a0_0, .string a0_1]) 25 ?_; intro gb424 hg w24 hbox hb; have BK424 := am (hbox); have GW424 := am ((by rw [hg]; exact (below_size HB.out) : w.heap.size ≤ gb424)); have GE424 := am ((by rw [hg]; exact (below_size HB.out) : w.heap.size ≤ gb424)); replace HB := am (below_step HB.out hb); clear hb hbox hg; have hcz25_0 := cz0_ BK424; have hcz25_1 := cz1_ BK424; have hfz25_0 := blk_frozen BK424.out 0; have hfz25_1 := blk_frozen BK424.out 1) | ((with_reducible refine gate_callee (f := 49) rfl ?_); refine gl_ 12 Try.func49 #[.agg #[.string a0_0, .string a0_1]] ?_; (with_reducible refine (spec_owGood.calls k a0_0 a0_1 true _ A4.out).mono ?_); rintro e w26 ⟨rfl, hb⟩; refine ⟨_, rfl, ?_⟩; replace BK424 := am (blk_below BK424.out hb); replace HB := am (below_step HB.out hb); (try clear hb); have hcz27_0 := cz0_ BK424; have hcz27_1 := cz1_ BK424; have hfz27_0 := blk_frozen BK424.out 0; have hfz27_1 := blk_frozen BK424.out 1) | (go_at_call 50; (with_reducible refine (spec_owCorner.calls a0_0 a0_1 _ _ l1 true _ ((Kd.C_below HR1.out HB.out)) ?side2 A6.out).mono ?_); (case side2 => exact HC1.out); rintro e w28 ⟨rfl, hb⟩; replace BK424 := am (blk_below BK424.out hb); replace HB := am (below_step HB.out hb); (try clear hb); have p10 : 0 ≤ (0 : Int) := (by omega); have q10 : 0 < a2.size := (by have : (0 : Int) < (a2.size : Int) := of_decide_eq_true (by with_reducible assumption); omega); have hx10 : ∀ h : 0 < a2.size, ((a2[0]'h).toNat : Int) = bt a2 0 := bt_at a2 0; clear p10; have qi10 : (0 < (a2.size : Int)) = True := eq_true (of_decide_eq_true (by with_reducible assumption)); replace q10 := eq_true q10) | (go_at_call 54; (with_reducible refine (spec_owSign.calls (bt a2 0) false _ A11.out).mono ?_); rintro e w' ⟨rfl, ⟨nd, rfl⟩⟩))
      go_ret2
      exact ⟨by rfl, by repeat (with_reducible first | exact HB.out | apply pw_below_drewN)⟩
    ·rw [if_neg c9] at H
     exact absurd H (by simp)
   ·rw [if_neg c8] at H
    have c8b0 : ((a2.size : Int) == 1) = false := beq_eq_false_iff_ne.mpr c8
    have c8b1 : ((a2.size : Int) != 1) = true := bne_iff_ne.mpr c8
    simp only [Option.some.injEq, Prod.mk.injEq] at H
    obtain ⟨rfl, rfl⟩ := H
    go_enter Try.func25, Try.ntmps25
    go_wp2_with (first | ((with_reducible refine gate_dst (N := 3) rfl ?_); (try (refine gate_guard (by rfl) ?_; dsimp only)); refine bx_ 3 (#[.string a0_0, .string a0_1]) 25 ?_; intro gb424 hg w29 hbox hb; have BK424 := am (hbox); have GW424 := am ((by rw [hg]; exact (below_size HB.out) : w.heap.size ≤ gb424)); have GE424 := am ((by rw [hg]; exact (below_size HB.out) : w.heap.size ≤ gb424)); replace HB := am (below_step HB.out hb); clear hb hbox hg; have hcz30_0 := cz0_ BK424; have hcz30_1 := cz1_ BK424; have hfz30_0 := blk_frozen BK424.out 0; have hfz30_1 := blk_frozen BK424.out 1) | ((with_reducible refine gate_callee (f := 49) rfl ?_); refine gl_ 12 Try.func49 #[.agg #[.string a0_0, .string a0_1]] ?_; (with_reducible refine (spec_owGood.calls k a0_0 a0_1 true _ A4.out).mono ?_); rintro e w31 ⟨rfl, hb⟩; refine ⟨_, rfl, ?_⟩; replace BK424 := am (blk_below BK424.out hb); replace HB := am (below_step HB.out hb); (try clear hb); have hcz32_0 := cz0_ BK424; have hcz32_1 := cz1_ BK424; have hfz32_0 := blk_frozen BK424.out 0; have hfz32_1 := blk_frozen BK424.out 1) | (go_at_call 50; (with_reducible refine (spec_owCorner.calls a0_0 a0_1 _ _ l1 true _ ((Kd.C_below HR1.out HB.out)) ?side2 A6.out).mono ?_); (case side2 => exact HC1.out); rintro e w33 ⟨rfl, hb⟩; replace BK424 := am (blk_below BK424.out hb); replace HB := am (below_step HB.out hb); (try clear hb)))
    go_ret2
    exact ⟨by rfl, by exact HB.out⟩
  ·replace c7 := Bool.eq_false_iff.mpr c7
   subst c7
   rw [if_neg (show ¬ (false = true) by decide)] at H
   simp only [Option.some.injEq, Prod.mk.injEq] at H
   obtain ⟨rfl, rfl⟩ := H
   go_enter Try.func25, Try.ntmps25
   go_wp2_with (first | ((with_reducible refine gate_dst (N := 3) rfl ?_); (try (refine gate_guard (by rfl) ?_; dsimp only)); refine bx_ 3 (#[.string a0_0, .string a0_1]) 25 ?_; intro gb424 hg w34 hbox hb; have BK424 := am (hbox); have GW424 := am ((by rw [hg]; exact (below_size HB.out) : w.heap.size ≤ gb424)); have GE424 := am ((by rw [hg]; exact (below_size HB.out) : w.heap.size ≤ gb424)); replace HB := am (below_step HB.out hb); clear hb hbox hg; have hcz35_0 := cz0_ BK424; have hcz35_1 := cz1_ BK424; have hfz35_0 := blk_frozen BK424.out 0; have hfz35_1 := blk_frozen BK424.out 1) | ((with_reducible refine gate_callee (f := 49) rfl ?_); refine gl_ 12 Try.func49 #[.agg #[.string a0_0, .string a0_1]] ?_; (with_reducible refine (spec_owGood.calls k a0_0 a0_1 true _ A4.out).mono ?_); rintro e w36 ⟨rfl, hb⟩; refine ⟨_, rfl, ?_⟩; replace BK424 := am (blk_below BK424.out hb); replace HB := am (below_step HB.out hb); (try clear hb); have hcz37_0 := cz0_ BK424; have hcz37_1 := cz1_ BK424; have hfz37_0 := blk_frozen BK424.out 0; have hfz37_1 := blk_frozen BK424.out 1) | (go_at_call 50; (with_reducible refine (spec_owCorner.calls a0_0 a0_1 _ _ l1 false _ ((Kd.C_below HR1.out HB.out)) ?side2 A6.out).mono ?_); (case side2 => exact HC1.out); rintro e w38 ⟨rfl, hb⟩; replace BK424 := am (blk_below BK424.out hb); replace HB := am (below_step HB.out hb); (try clear hb)))
   go_ret2
   exact ⟨by rfl, by exact HB.out⟩
 ·replace c5 := Bool.eq_false_iff.mpr c5
  subst c5
  rw [if_neg (show ¬ (false = true) by decide)] at H
  simp only [Option.some.injEq, Prod.mk.injEq] at H
  obtain ⟨rfl, rfl⟩ := H
  go_enter Try.func25, Try.ntmps25
  go_wp2_with (first | ((with_reducible refine gate_dst (N := 3) rfl ?_); (try (refine gate_guard (by rfl) ?_; dsimp only)); refine bx_ 3 (#[.string a0_0, .string a0_1]) 25 ?_; intro gb424 hg w39 hbox hb; have BK424 := am (hbox); have GW424 := am ((by rw [hg]; exact (below_size HB.out) : w.heap.size ≤ gb424)); have GE424 := am ((by rw [hg]; exact (below_size HB.out) : w.heap.size ≤ gb424)); replace HB := am (below_step HB.out hb); clear hb hbox hg; have hcz40_0 := cz0_ BK424; have hcz40_1 := cz1_ BK424; have hfz40_0 := blk_frozen BK424.out 0; have hfz40_1 := blk_frozen BK424.out 1) | ((with_reducible refine gate_callee (f := 49) rfl ?_); refine gl_ 12 Try.func49 #[.agg #[.string a0_0, .string a0_1]] ?_; (with_reducible refine (spec_owGood.calls k a0_0 a0_1 false _ A4.out).mono ?_); rintro e w41 ⟨rfl, hb⟩; refine ⟨_, rfl, ?_⟩; replace BK424 := am (blk_below BK424.out hb); replace HB := am (below_step HB.out hb); (try clear hb)))
  go_ret2
  exact ⟨by rfl, by exact HB.out⟩
def spec_DrawTurnsOfWord.l0 : Nat → ByteArray → Int → List Int → Int → Int → Option (ByteArray × Int × Int)
 | 0, _, _, _, _, _ => none
 | k + 1, x4, x5, x1000, x1001, x1002 => if x5 > 0 then ((spec_l1Cur_of.f x1000 x1001 x1002 (([(⟨#[101]⟩ : ByteArray), (⟨#[110]⟩ : ByteArray), (⟨#[101]⟩ : ByteArray), (⟨#[110]⟩ : ByteArray), (⟨#[115]⟩ : ByteArray), (⟨#[119]⟩ : ByteArray)] : List ByteArray))).bind fun bt439 => (if x4.size + bt439.1.size ≤ 9223372036854775807 then (spec_DrawTurnsOfWord.l0 k (x4 ++ bt439.1) (wrap64 (x5 - 1)) x1000 bt439.2.1 bt439.2.2) else (none))) else (some (x4, x1001, x1002))
def spec_DrawTurnsOfWord.in_ (k : Nat) (s0_0 : List Int) (s0_1 : Int) (s0_2 : Int) : Option (ByteArray × Int × Int) := (spec_l1Cur_pick.f s0_0 s0_1 s0_2 10).bind fun bt433 => (spec_DrawTurnsOfWord.l0 k (⟨#[]⟩ : ByteArray) bt433.1 s0_0 bt433.2.1 bt433.2.2)
def spec_DrawTurnsOfWord.f (k : Nat) (l0 : List Int) : Option (ByteArray) := (spec_DrawTurnsOfWord.in_ k l0 0 0).bind fun r => some (r.1)
theorem spec_DrawTurnsOfWord.calls (k : Nat) (A0 : Option Addr) (c0 : Nat) (l0 : List Int) (r1 : ByteArray) (w0 : World) (hr0 : Kd.C (Kd.int .u8) w0 A0 l0.length l0) (hc0 : l0.length ≤ c0) (h : spec_DrawTurnsOfWord.f k l0 = some (r1)) :
  Calls Try.prog 26 #[.slice A0 l0.length c0] w0 fun e w' => e = .returned (.string r1) ∧ Below w0.heap.size w0 w' := by
 unfold spec_DrawTurnsOfWord.f at h
 obtain ⟨⟨y0_, r2, r3⟩, h1_, h⟩ := Option.bind_eq_some_iff.1 h
 obtain rfl : y0_ = r1 := by simpa using h
 clear h
 have HIe := am (show IsS71 w0 (w0.alloc (.cells #[.slice A0 l0.length c0, .int .i64 0, .int .u64 0] 71)) w0.heap.size l0 0 0 from ⟨A0, c0, heap_alloc_new _ _, Nat.le_refl _, hr0⟩)
 have HBe := am (below_alloc (Below.refl w0.heap.size w0) (.cells #[.slice A0 l0.length c0, .int .i64 0, .int .u64 0] 71))
 have HKe := am (show KeepBut w0 (w0.alloc (.cells #[.slice A0 l0.length c0, .int .i64 0, .int .u64 0] 71)) (w0.heap.size) none from ⟨HBe.out.size, fun i hi _ _ => HBe.out.block i hi⟩)
 obtain ⟨W_, hW_⟩ : ∃ W_ : World, W_ = (w0.alloc (.cells #[.slice A0 l0.length c0, .int .i64 0, .int .u64 0] 71)) := ⟨_, rfl⟩
 rw [← hW_] at HIe HBe HKe
 obtain ⟨s0_0, hs0_⟩ : ∃ z : List Int, z = l0 := ⟨_, rfl⟩
 obtain ⟨s0_1, hs1_⟩ : ∃ z : Int, z = 0 := ⟨_, rfl⟩
 obtain ⟨s0_2, hs2_⟩ : ∃ z : Int, z = 0 := ⟨_, rfl⟩
 obtain ⟨g, hg⟩ : ∃ z : Nat, z = w0.heap.size := ⟨_, rfl⟩
 have HIf := am (show IsS71 w0 W_ g s0_0 s0_1 s0_2 by rw [hs0_, hs1_, hs2_, hg]; exact HIe.out)
 have HKf := am (show KeepBut w0 W_ g none by rw [hg]; exact HKe.out)
 have h : spec_DrawTurnsOfWord.in_ k s0_0 s0_1 s0_2 = some (y0_, r2, r3) := by rw [hs0_, hs1_, hs2_]; exact h1_
 clear hs0_ hs1_ hs2_ h1_ hr0 HIe HKe
 suffices key_ : ∀ Q_ : Ending → World → Prop, (∀ e w', (e = .returned (.string y0_) ∧ IsS71 w0 w' g s0_0 r2 r3 ∧ Below w0.heap.size w0 w' ∧ KeepBut w0 w' g none) → Q_ e w') → Calls Try.prog 26 #[.slice A0 l0.length c0] w0 Q_ by
  exact key_ _ (fun e w' z_ => by obtain ⟨p0_, p1_, p2_, p3_⟩ := z_; exact ⟨p0_, p2_⟩)
 intro Q_ hQ_
 have HQ_ := am hQ_
 clear hQ_
 unfold spec_DrawTurnsOfWord.in_ at h
 have H := h
 clear h
 obtain ⟨⟨t433, t434, t435⟩, A2, H⟩ := bnd_ H
 try dsimp only at H
 have H' := am H
 clear H
 go_enter Try.func26, Try.ntmps26
 go_upto_region 2 with (fail)
 rw [← hW_]
 rw [← hg]
 have HI0 := HIf
 have HK := HKf
 have HB := HBe
 have HL := am (Nat.le_refl w0.heap.size)
 have HW0 := am (Nat.le_refl w0.heap.size)
 clear HIf HKf HBe hW_ hg
 go_wp2_with ((with_reducible refine gate_callee (f := 52) rfl ?_); refine gl_ 10 Try.func52 #[.pointer (some ⟨g, 0, none⟩), .int .i64 10] ?_; (with_reducible refine (spec_l1Cur_pick.calls g s0_0 s0_1 s0_2 10 t433 t434 t435 w0 _ (HI0.out) ?side2 A2.out).mono ?_); (case side2 => repeat (with_reducible first | exact HB.out)); rintro e w3 ⟨rfl, hi, hb, hk⟩; refine ⟨_, rfl, ?_⟩; replace HK := am (KeepBut.trans HK.out hk (.inl rfl)); replace HB := am (hb); replace HI0 := am (hi); (try clear hb); (try clear hk); (try clear hi))
 go_loopg [4, 5] k (fun kq v4 v5 w' => ∃ (x4_1 : ByteArray) (x5_1 : Int) (x1001_1 : Int) (x1002_1 : Int), v4 = .string x4_1 ∧ v5 = .int .i64 x5_1 ∧ Aside0 (spec_DrawTurnsOfWord.l0 kq x4_1 x5_1 s0_0 x1001_1 x1002_1 = some (y0_, r2, r3)) ∧ Aside0 (kq ≤ k) ∧ Aside0 (IsS71 w0 w' g s0_0 x1001_1 x1002_1) ∧ Aside0 (KeepBut w0 w' g none) ∧ Aside0 (Below w0.heap.size w0 w'))
 case atStart => exact ⟨((⟨#[]⟩ : ByteArray)), (t433), (t434), (t435), (by rfl), (by rfl), H', ⟨Nat.le_refl _⟩, ⟨by exact HI0.out⟩, ⟨by exact HK.out⟩, ⟨by exact HB.out⟩⟩
 case round =>
  clear H'
  obtain ⟨x4_1, x5_1, x1001_1, x1002_1, rfl, rfl, HA, HK1, HI0, HK, HB⟩ := hrel
  cases gk with
  | zero => exact absurd HA.out (by simp [spec_DrawTurnsOfWord.l0])
  | succ k1 =>
   have H := HA.out
   clear HA
   simp only [spec_DrawTurnsOfWord.l0] at H
   by_cases c4 : x5_1 > 0
   ·rw [if_pos c4] at H
    have c4b0 : decide (0 < x5_1) = true := decide_eq_true c4
    clear c4
    obtain ⟨y436, hy436⟩ : ∃ y_ : List ByteArray, y_ = (([(⟨#[101]⟩ : ByteArray), (⟨#[110]⟩ : ByteArray), (⟨#[101]⟩ : ByteArray), (⟨#[110]⟩ : ByteArray), (⟨#[115]⟩ : ByteArray), (⟨#[119]⟩ : ByteArray)] : List ByteArray)) := ⟨_, rfl⟩
    rw [← hy436] at H
    have Ny436 := am hy436
    clear hy436
    obtain ⟨⟨t439, t440, t441⟩, A5, H⟩ := bnd_ H
    try dsimp only at H
    by_cases c6 : x4_1.size + t439.size ≤ 9223372036854775807
    ·rw [if_pos c6] at H
     have c6b0 := eq_true c6
     have c6b1 : decide (x4_1.size + t439.size ≤ 9223372036854775807) = true := decide_eq_true c6
     try have c6b2 : (9223372036854775807 < x4_1.size + t439.size) = False := eq_false (Nat.not_lt.2 c6)
     have H' := am H
     clear H
     go_wp2_with (first | ((with_reducible refine gate_dst (N := 17) rfl ?_); refine Kd.R_lit Kd.string _ 9 ?hg (N := 17) ?hd (xs := ([(⟨#[101]⟩ : ByteArray), (⟨#[110]⟩ : ByteArray), (⟨#[101]⟩ : ByteArray), (⟨#[110]⟩ : ByteArray), (⟨#[115]⟩ : ByteArray), (⟨#[119]⟩ : ByteArray)] : List ByteArray)) (inner := [.string (⟨#[101]⟩ : ByteArray), .string (⟨#[110]⟩ : ByteArray), .string (⟨#[101]⟩ : ByteArray), .string (⟨#[110]⟩ : ByteArray), .string (⟨#[115]⟩ : ByteArray), .string (⟨#[119]⟩ : ByteArray)]) (ok := fun _ => True) (okp := fun _ => True) ?hr ?hp (fun _ hk => hk) trivial (Below.refl _ _) (Nat.le_refl _) (by simp) ?_; (case hd => rfl); (case hg => rfl); (case hr => go_simp; done); (case hp => exact (Reps.one (show Kd.M Kd.string _ _ _ (⟨#[101]⟩ : ByteArray) [.string (⟨#[101]⟩ : ByteArray)] from rfl) (Reps.one (show Kd.M Kd.string _ _ _ (⟨#[110]⟩ : ByteArray) [.string (⟨#[110]⟩ : ByteArray)] from rfl) (Reps.one (show Kd.M Kd.string _ _ _ (⟨#[101]⟩ : ByteArray) [.string (⟨#[101]⟩ : ByteArray)] from rfl) (Reps.one (show Kd.M Kd.string _ _ _ (⟨#[110]⟩ : ByteArray) [.string (⟨#[110]⟩ : ByteArray)] from rfl) (Reps.one (show Kd.M Kd.string _ _ _ (⟨#[115]⟩ : ByteArray) [.string (⟨#[115]⟩ : ByteArray)] from rfl) (Reps.one (show Kd.M Kd.string _ _ _ (⟨#[119]⟩ : ByteArray) [.string (⟨#[119]⟩ : ByteArray)] from rfl) (Reps.none _ _)))))))); intro v437 w7 ho8 hb hg_ hnew_; clear hg_ hnew_; (rw [← Ny436.out] at ho8); have HO438 := am (Kd.R_lower ho8 (keep_size (w := w0) (g := g) (row := none) HK.out)); replace HI0 := am (IsS71.below HI0.out hb); replace HK := am (KeepBut.trans HK.out (KeepBut.of_below hb g none) (.inl rfl)); replace HB := am (below_step HB.out hb); clear hb ho8; obtain ⟨Ao9, co9, eo9⟩ := Kd.R_slice HO438.out; subst eo9) | ((with_reducible refine gate_callee (f := 53) rfl ?_); refine gl_ 18 Try.func53 #[.pointer (some ⟨g, 0, none⟩), .slice Ao9 y436.length co9] ?_; (with_reducible refine (spec_l1Cur_of.calls g s0_0 x1001_1 x1002_1 _ _ y436 t439 t440 t441 w0 _ (HI0.out) ?side2 ?side3 ?side4 ?side5 A5.out).mono ?_); (case side2 => repeat (with_reducible first | exact HB.out)); (case side3 => repeat (exact (Kd.R_reads' HO438.out).2.2)); (case side4 => exact (Kd.R_reads' HO438.out).2.1); (case side5 => exact far_slice (IsS71.own_ne HI0.out HO438.out (by decide))); rintro e w10 ⟨rfl, hi, hb, hk⟩; refine ⟨_, rfl, ?_⟩; replace HO438 := am (Kd.R_mono (Kd.R_keep (IsS71.apart (show IsS71 w0 _ g s0_0 x1001_1 x1002_1 from by exact HI0.out) HO438.out (by decide)) hk (fun _ h => h.2)) (fun _ h => h.1)); replace HK := am (KeepBut.trans HK.out hk (.inl rfl)); replace HB := am (hb); replace HI0 := am (hi); (try clear hb); (try clear hk); (try clear hi)))
     go_roundg k1
     case measure => have := HK1.out; omega
     case rel => exact ⟨(x4_1 ++ t439), (wrap64 (x5_1 - 1)), (t440), (t441), (by rfl), (by rfl), H', ⟨by have := HK1.out; omega⟩, ⟨by exact HI0.out⟩, ⟨by exact HK.out⟩, ⟨by exact HB.out⟩⟩
    ·rw [if_neg c6] at H
     exact absurd H (by simp)
   ·rw [if_neg c4] at H
    have c4b0 : decide (0 < x5_1) = false := decide_eq_false c4
    clear c4
    simp only [Option.some.injEq, Prod.mk.injEq] at H
    obtain ⟨rfl, rfl, rfl⟩ := H
    go_wp2
    exact HQ_.out _ _ ⟨by rfl, by exact HI0.out, by exact HB.out, by exact HK.out⟩
end Go.Proofs.Ytdhdkkhbgfcoiaa.MX
