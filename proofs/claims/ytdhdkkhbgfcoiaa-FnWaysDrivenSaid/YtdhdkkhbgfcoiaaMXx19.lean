-- The machine side, written by this repo's program mp.py; contracts marked as of this repo are this session's own.
import Derived.Test.YtdhdkkhbgfcoiaaMXx0
import Derived.Test.YtdhdkkhbgfcoiaaMXx1
import Derived.Test.YtdhdkkhbgfcoiaaMXx3
import Derived.Test.YtdhdkkhbgfcoiaaMXx7
import Derived.Test.YtdhdkkhbgfcoiaaMXx8
import Derived.Test.YtdhdkkhbgfcoiaaMXx10
import Derived.Test.YtdhdkkhbgfcoiaaMXx18
namespace Go.Proofs.Ytdhdkkhbgfcoiaa.MX
open Go.RowKit Go.Proofs.YtdhdkkhbgfcoiaaW.PrintWords Go.Proofs.YtdhdkkhbgfcoiaaW.PrintLast Go.Proofs.YtdhdkkhbgfcoiaaW.PrintMore
attribute [local go_sem] max2_int min2_int max_two min_two max_three min_three max_four min_four   -- for this text's walks alone
set_option maxHeartbeats 8000000
set_option maxRecDepth 100000
set_option linter.unusedVariables false
set_option linter.unusedSimpArgs false
mutual
def spec_DrawDriveWord.j0 : Nat → List Int → ByteArray → Bool → List Int → Int → Int → ByteArray → ByteArray → Option (ByteArray × ByteArray × List Int × ByteArray × Int × Int)
 | 0, _, _, _, _, _, _, _, _ => none
 | k + 1, x7, x9, x39, x1000, x1001, x1002, x367000, x367001 => if x39 = true then (some (x367000, x367001, x7, x9, x1001, x1002)) else ((spec_owGood.f k x367000 x367001).bind fun t372 => (if t372 = true then ((spec_owCorner.f x367000 x367001 x7).bind fun t373 => (if t373 = true then ((spec_l1Cur_one.f x1000 x1001 x1002 4).bind fun bt374 => (spec_DrawDriveWord.j1 k x7 bt374.1 x1000 bt374.2.1 bt374.2.2 x367000 x367001)) else (spec_DrawDriveWord.j1 k x7 true x1000 x1001 x1002 x367000 x367001))) else (spec_DrawDriveWord.j1 k x7 true x1000 x1001 x1002 x367000 x367001)))
def spec_DrawDriveWord.j1 : Nat → List Int → Bool → List Int → Int → Int → ByteArray → ByteArray → Option (ByteArray × ByteArray × List Int × ByteArray × Int × Int)
 | 0, _, _, _, _, _, _, _ => none
 | k + 1, x7, x55, x1000, x1001, x1002, x367000, x367001 => if x55 = true then ((spec_l1Cur_way.f k x1000 x1001 x1002).bind fun bt377 => (some (x367000, x367001, x7, bt377.1, bt377.2.1, bt377.2.2))) else (if 0 < (x7.length : Int) then (if 1 < (x7.length : Int) then ((spec_l1Cur_pick.f x1000 x1001 x1002 12).bind fun bt382 => (spec_DrawDriveWord.l0 k x7 (⟨#[]⟩ : ByteArray) (rd x7 0) (rd x7 1) bt382.1 x1000 bt382.2.1 bt382.2.2 x367000 x367001)) else (none)) else (none))
def spec_DrawDriveWord.l0 : Nat → List Int → ByteArray → Int → Int → Int → List Int → Int → Int → ByteArray → ByteArray → Option (ByteArray × ByteArray × List Int × ByteArray × Int × Int)
 | 0, _, _, _, _, _, _, _, _, _, _ => none
 | k + 1, x7, x11, x12, x13, x14, x1000, x1001, x1002, x367000, x367001 => if x14 > 0 then ((some (([101, 110, 115, 119] : List Int) : List Int)).bind fun y385 => ((spec_l1Cur_pick.f x1000 x1001 x1002 4).bind fun bt388 => (if 0 ≤ bt388.1 then (if bt388.1 < (y385.length : Int) then ((spec_owStep.f k x367000 x367001 x12 x13 (rd y385 bt388.1)).bind fun bt392 => (if bt392.2.2 = true then (if x11.size + (Utf8.encode (wrap32 (rd y385 bt388.1))).size ≤ 9223372036854775807 then (spec_DrawDriveWord.l0 k x7 (x11 ++ (Utf8.encode (wrap32 (rd y385 bt388.1)))) bt392.1 bt392.2.1 (wrap64 (x14 - 1)) x1000 bt388.2.1 bt388.2.2 x367000 x367001) else (none)) else (spec_DrawDriveWord.l0 k x7 x11 x12 x13 (wrap64 (x14 - 1)) x1000 bt388.2.1 bt388.2.2 x367000 x367001))) else (none)) else (none)))) else (some (x367000, x367001, x7, x11, x1001, x1002))
end
def spec_DrawDriveWord.in_ (k : Nat) (s0_0 : List Int) (s0_1 : Int) (s0_2 : Int) : Option (ByteArray × ByteArray × List Int × ByteArray × Int × Int) := (spec_l1Cur_driven.f k s0_0 s0_1 s0_2).bind fun bt356 => ((spec_FirstDrive.f k bt356.1 bt356.2.1 bt356.2.2.1 bt356.2.2.2.1).bind fun bt367 => (if bt367.2 = true then ((spec_l1Cur_one.f s0_0 bt356.2.2.2.2.1 bt356.2.2.2.2.2 2).bind fun bt369 => (spec_DrawDriveWord.j0 k bt356.2.2.1 bt367.1 bt369.1 s0_0 bt369.2.1 bt369.2.2 bt356.1 bt356.2.1)) else (spec_DrawDriveWord.j0 k bt356.2.2.1 bt367.1 false s0_0 bt356.2.2.2.2.1 bt356.2.2.2.2.2 bt356.1 bt356.2.1)))
def spec_DrawDriveWord.T9 : Bool × List (List Nat × List Nat) := (true, [([], []), ([0], [0]), ([1], [1]), ([], []), ([3], [3]), ([4], [4]), ([2, 0, 1, 2], [2]), ([5, 6, 0, 1, 2, 3, 4, 5, 6], [5])])
def spec_DrawDriveWord.B9 : List Nat := [0, 1, 3, 0, 8, 24, 7, 127]
theorem spec_DrawDriveWord.tab9 : rtab .any (opsOf Try.f22 9) = spec_DrawDriveWord.T9 := by kernel_rfl
theorem spec_DrawDriveWord.bits9 : waitsOk spec_DrawDriveWord.T9.2 spec_DrawDriveWord.B9 = true := by kernel_rfl
theorem spec_DrawDriveWord.lit_const {P : Program} {ops : Array Oper} {Q : Exit → Act → World → Prop} {rest : List Oper} {o1 o2 : Oper} {a : Act} {W : World} (e : TypeId) {xs : List Int} {X : Array Value} (hg1 : o1.guard = none) (hg2 : o2.guard = none) (hX : X.toList = xs.map (Value.int .u8))
  (hr1 : (execOp a.eval o1).run P W = .ok (.value (.slice (some ⟨W.heap.size, 0, none⟩) xs.length xs.length)) (W.alloc (.cells X e)))
  (hr2 : (execOp (a.put o1.dst (.slice (some ⟨W.heap.size, 0, none⟩) xs.length xs.length)).eval o2).run P (W.alloc (.cells X e)) = .ok (.value (.slice (some ⟨W.heap.size, 0, none⟩) xs.length xs.length)) (W.alloc (.cells X e (X.size, X.size + 1))))
  (hm : xs.length ≤ 9223372036854775807)
  (h : ∀ v1 w1, Kd.V (Kd.int .u8) e w1 W.heap.size (fun k => W.heap.size ≤ k) v1 xs → (∀ k, v1.ownBlock = some k → W.heap.size ≤ k) → Below W.heap.size W w1 → wpList P ops Q rest ((a.put o1.dst (.slice (some ⟨W.heap.size, 0, none⟩) xs.length xs.length)).put o2.dst v1) w1) : wpList P ops Q (o1 :: o2 :: rest) a W := by
 refine Kd.event_run hg1 hr1 (Kd.event_run hg2 hr2 (h _ _ ⟨some ⟨W.heap.size, 0, none⟩, xs.length, rfl, Nat.le_refl _, fun W' hW => Kd.C_of_reads (d := (0 : Int)) (h1 := fun _ => rfl) ⟨rfl, hm, fun _ => ⟨_, rfl, fun j hj => ?_⟩⟩⟩ (fun k hk => ?_) (below_alloc (Below.refl _ _) _)))
 ·have h0 := hW W.heap.size (Nat.le_refl _) (by simp)
  rw [heap_alloc_new] at h0
  have hc := cell_of_row W' W.heap.size j X e (X.size, X.size + 1) h0
  have e1 : (Go.Addr.add ⟨W.heap.size, 0, none⟩ j) = ⟨W.heap.size, j, none⟩ := by
   by_cases hj0 : j = 0
   ·subst hj0; rfl
   ·simp [Go.Addr.add, hj0]
  rw [e1, hc, ← Array.getElem?_toList, hX, List.getElem?_map, List.getD_eq_getElem?_getD, List.getElem?_eq_getElem hj]
  rfl
 ·have : W.heap.size = k := by simpa [Value.ownBlock] using hk
  omega
def spec_DrawDriveWord.f (k : Nat) (l0 : List Int) : Option (ByteArray × ByteArray × List Int × ByteArray) := (spec_DrawDriveWord.in_ k l0 0 0).bind fun r => some (r.1, r.2.1, r.2.2.1, r.2.2.2.1)
theorem spec_DrawDriveWord.calls (k : Nat) (A0 : Option Addr) (c0 : Nat) (l0 : List Int) (r1 : ByteArray) (r2 : ByteArray) (r3 : List Int) (r4 : ByteArray) (w0 : World) (hr0 : Kd.C (Kd.int .u8) w0 A0 l0.length l0) (hc0 : l0.length ≤ c0) (h : spec_DrawDriveWord.f k l0 = some (r1, r2, r3, r4)) :
  Calls Try.prog 22 #[.slice A0 l0.length c0] w0 fun e w' => ∃ v2_ : Value, e = .returned (.tuple #[.agg #[.string r1, .string r2], v2_, .string r4]) ∧ Kd.V (Kd.int .i64) 3 w' w0.heap.size (fun k_ => (w0.heap.size ≤ k_)) v2_ r3 ∧ Below w0.heap.size w0 w' := by
 unfold spec_DrawDriveWord.f at h
 obtain ⟨⟨y0_, y1_, y2_, y3_, r5, r6⟩, h1_, h⟩ := Option.bind_eq_some_iff.1 h
 obtain ⟨rfl, rfl, rfl, rfl⟩ : y0_ = r1 ∧ y1_ = r2 ∧ y2_ = r3 ∧ y3_ = r4 := by simpa using h
 clear h
 have HIe := am (show IsS71 w0 ((w0.alloc (.cells #[.string (⟨#[]⟩ : ByteArray), .string (⟨#[]⟩ : ByteArray)] 25)).alloc (.cells #[.slice A0 l0.length c0, .int .i64 0, .int .u64 0] 71)) (w0.heap.size + 1) l0 0 0 from ⟨A0, c0, by
  have z := heap_alloc_new (w0.alloc (.cells #[.string (⟨#[]⟩ : ByteArray), .string (⟨#[]⟩ : ByteArray)] 25)) (.cells #[.slice A0 l0.length c0, .int .i64 0, .int .u64 0] 71)
  rwa [show (w0.alloc (.cells #[.string (⟨#[]⟩ : ByteArray), .string (⟨#[]⟩ : ByteArray)] 25)).heap.size = w0.heap.size + 1 by simp] at z, by omega, hr0⟩)
 have HBe := am (below_alloc (below_alloc (Below.refl w0.heap.size w0) (.cells #[.string (⟨#[]⟩ : ByteArray), .string (⟨#[]⟩ : ByteArray)] 25)) (.cells #[.slice A0 l0.length c0, .int .i64 0, .int .u64 0] 71))
 have BKe := am (show ((w0.alloc (.cells #[.string (⟨#[]⟩ : ByteArray), .string (⟨#[]⟩ : ByteArray)] 25)).alloc (.cells #[.slice A0 l0.length c0, .int .i64 0, .int .u64 0] 71)).heap[w0.heap.size]? = some (.cells #[.string (⟨#[]⟩ : ByteArray), .string (⟨#[]⟩ : ByteArray)] 25 (0, 0)) from blk_alloc (heap_alloc_new w0 (.cells #[.string (⟨#[]⟩ : ByteArray), .string (⟨#[]⟩ : ByteArray)] 25)) _)
 have HKe := am (show KeepBut w0 ((w0.alloc (.cells #[.string (⟨#[]⟩ : ByteArray), .string (⟨#[]⟩ : ByteArray)] 25)).alloc (.cells #[.slice A0 l0.length c0, .int .i64 0, .int .u64 0] 71)) (w0.heap.size + 1) none from ⟨HBe.out.size, fun i hi _ _ => HBe.out.block i hi⟩)
 obtain ⟨W_, hW_⟩ : ∃ W_ : World, W_ = ((w0.alloc (.cells #[.string (⟨#[]⟩ : ByteArray), .string (⟨#[]⟩ : ByteArray)] 25)).alloc (.cells #[.slice A0 l0.length c0, .int .i64 0, .int .u64 0] 71)) := ⟨_, rfl⟩
 rw [← hW_] at HIe HBe HKe BKe
 obtain ⟨s0_0, hs0_⟩ : ∃ z : List Int, z = l0 := ⟨_, rfl⟩
 obtain ⟨s0_1, hs1_⟩ : ∃ z : Int, z = 0 := ⟨_, rfl⟩
 obtain ⟨s0_2, hs2_⟩ : ∃ z : Int, z = 0 := ⟨_, rfl⟩
 obtain ⟨g, hg⟩ : ∃ z : Nat, z = w0.heap.size + 1 := ⟨_, rfl⟩
 have HIf := am (show IsS71 w0 W_ g s0_0 s0_1 s0_2 by rw [hs0_, hs1_, hs2_, hg]; exact HIe.out)
 have HKf := am (show KeepBut w0 W_ g none by rw [hg]; exact HKe.out)
 have h : spec_DrawDriveWord.in_ k s0_0 s0_1 s0_2 = some (y0_, y1_, y2_, y3_, r5, r6) := by rw [hs0_, hs1_, hs2_]; exact h1_
 clear hs0_ hs1_ hs2_ h1_ hr0 HIe HKe
 suffices key_ : ∀ Q_ : Ending → World → Prop, (∀ e w', (∃ v2_ : Value, e = .returned (.tuple #[.agg #[.string y0_, .string y1_], v2_, .string y3_]) ∧ Kd.V (Kd.int .i64) 3 w' w0.heap.size (fun k_ => (w0.heap.size ≤ k_)) v2_ y2_ ∧ IsS71 w0 w' g s0_0 r5 r6 ∧ Below w0.heap.size w0 w' ∧ KeepBut w0 w' g none) → Q_ e w') → Calls Try.prog 22 #[.slice A0 l0.length c0] w0 Q_ by
  exact key_ _ (fun e w' z_ => by obtain ⟨q0_, p0_, p1_, p2_, p3_, p4_⟩ := z_; exact ⟨q0_, p0_, p1_, p3_⟩)
 intro Q_ hQ_
 have HQ_ := am hQ_
 clear hQ_
 have hu25 := Try.underlying25
 unfold spec_DrawDriveWord.in_ at h
 have H := h
 clear h
 obtain ⟨⟨t356, t357, t358, t361, t364, t365⟩, A2, H⟩ := bnd_ H
 try dsimp only at H
 obtain ⟨⟨t367, t368⟩, A3, H⟩ := bnd_ H
 try dsimp only at H
 have HC4 := am H
 clear H
 go_enter Try.func22, Try.ntmps22
 go_upto_region 2 with (fail)
 rw [← hW_]
 obtain ⟨gb355, hgb355⟩ : ∃ z : Nat, z = w0.heap.size := ⟨_, rfl⟩
 rw [← hg]
 rw [← hgb355] at BKe ⊢
 have HI0 := HIf
 have HK := HKf
 have HB := HBe
 have HL := am (Nat.le_refl w0.heap.size)
 have HW0 := am (Nat.le_refl w0.heap.size)
 have BK355 := BKe
 have NB355_0 := am (show gb355 ≠ g by omega)
 have NB0_355 := am (show g ≠ gb355 by omega)
 have GW355 := am (show w0.heap.size ≤ gb355 by omega)
 have GE355 := am (show w0.heap.size ≤ gb355 by omega)
 clear BKe
 clear HIf HKf HBe hW_ hg hgb355
 go_upto_region 4 with (first | ((with_reducible refine gate_callee (f := 47) rfl ?_); refine gl_ 24 Try.func47 #[.pointer (some ⟨g, 0, none⟩)] ?_; (with_reducible refine (spec_l1Cur_driven.calls k g s0_0 s0_1 s0_2 t356 t357 t358 t361 t364 t365 w0 _ (HI0.out) ?side2 A2.out).mono ?_); (case side2 => repeat (with_reducible first | exact HB.out)); rintro e w6 ⟨v359, v362, rfl, ho0, ho1, hi, hb, hk⟩; refine ⟨_, rfl, ?_⟩; have HO360 := am (Kd.V_lower (Kd.V_mono (ok' := fun k_ => (w0.heap.size ≤ k_) ∧ k_ ≠ gb355 ∧ k_ ≠ g) ho0 (fun k_ hk_ => ⟨(Nat.le_trans (keep_size (w := w0) (g := g) (row := none) HK.out) hk_), (Kd.freshB (g := gb355) (o := .cells #[.string (⟨#[]⟩ : ByteArray), .string (⟨#[]⟩ : ByteArray)] 25 (0, 0)) BK355.out k_ hk_), (IsS71.fresh HI0.out k_ hk_)⟩)) (keep_size (w := w0) (g := g) (row := none) HK.out)); have HO363 := am (Kd.V_lower (Kd.V_mono (ok' := fun k_ => (w0.heap.size ≤ k_) ∧ k_ ≠ gb355 ∧ k_ ≠ g) ho1 (fun k_ hk_ => ⟨(Nat.le_trans (keep_size (w := w0) (g := g) (row := none) HK.out) hk_), (Kd.freshB (g := gb355) (o := .cells #[.string (⟨#[]⟩ : ByteArray), .string (⟨#[]⟩ : ByteArray)] 25 (0, 0)) BK355.out k_ hk_), (IsS71.fresh HI0.out k_ hk_)⟩)) (keep_size (w := w0) (g := g) (row := none) HK.out)); replace BK355 := am (KeepBut.blk hk BK355.out NB355_0.out (by simp)); replace HK := am (KeepBut.trans HK.out hk (.inl rfl)); replace HB := am (hb); replace HI0 := am (hi); (try clear hb); (try clear hk); (try clear hi); (try clear ho0); (try clear ho1)) | ((with_reducible refine gate_dst (N := 6) rfl ?_); refine bx_ 6 (#[.string (⟨#[]⟩ : ByteArray), .string (⟨#[]⟩ : ByteArray)]) 25 ?_; intro gb366 hg w7 hbox hb; replace HO360 := am (Kd.V_below (Kd.V_elderB HO360.out gb366 (Nat.le_of_eq hg.symm)) hb); replace HO363 := am (Kd.V_below (Kd.V_elderB HO363.out gb366 (Nat.le_of_eq hg.symm)) hb); replace HB := am (below_step HB.out hb); have BK366 := am (hbox); have GW366 := am ((by rw [hg]; exact (keep_size (w := w0) (g := g) (row := none) HK.out) : w0.heap.size ≤ gb366)); have GE366 := am ((Nat.le_trans HW0.out (by rw [hg]; exact (keep_size (w := w0) (g := g) (row := none) HK.out) : w0.heap.size ≤ gb366) : w0.heap.size ≤ gb366)); replace HK := am (KeepBut.trans HK.out (KeepBut.of_below hb g none) (.inl rfl)); have NB355_366 := am ((by rw [hg]; exact Nat.ne_of_lt (blk_lt (g := gb355) (o := .cells #[.string (⟨#[]⟩ : ByteArray), .string (⟨#[]⟩ : ByteArray)] 25 (0, 0)) BK355.out) : gb355 ≠ gb366)); have NB366_355 := am ((by rw [hg]; exact Nat.ne_of_gt (blk_lt (g := gb355) (o := .cells #[.string (⟨#[]⟩ : ByteArray), .string (⟨#[]⟩ : ByteArray)] 25 (0, 0)) BK355.out) : gb366 ≠ gb355)); replace BK355 := am (blk_below (g := gb355) (o := .cells #[.string (⟨#[]⟩ : ByteArray), .string (⟨#[]⟩ : ByteArray)] 25 (0, 0)) BK355.out hb); have NB0_366 := am ((by rw [hg]; exact Nat.ne_of_lt (IsS71.lt (show IsS71 w0 _ g s0_0 t364 t365 from by exact HI0.out)) : g ≠ gb366)); have NB366_0 := am ((by rw [hg]; exact Nat.ne_of_gt (IsS71.lt (show IsS71 w0 _ g s0_0 t364 t365 from by exact HI0.out)) : gb366 ≠ g)); replace HI0 := am (IsS71.below HI0.out hb); clear hb hbox hg; have hnb8 := NB366_355.out; have hnc8 := NB355_366.out; have hnb9 := NB366_0.out; have hnc9 := NB0_366.out; have hcz10_0 := cz0_ BK366; have hcz10_1 := cz1_ BK366; have hfz10_0 := blk_frozen BK366.out 0; have hfz10_1 := blk_frozen BK366.out 1; obtain ⟨Ao11, co11, eo11⟩ := Kd.V_slice HO360.out; subst eo11; obtain ⟨Ao12, co12, eo12⟩ := Kd.V_slice HO363.out; subst eo12) | ((with_reducible refine gate_callee (f := 7) rfl ?_); refine gl_ 32 Try.func7 #[.agg #[.string t356, .string t357], .slice Ao11 t358.length co11, .slice Ao12 t361.length co12] ?_; (with_reducible refine (spec_FirstDrive.calls k t356 t357 _ _ t358 _ _ t361 t367 t368 _ ?side1 ?side2 ?side3 ?side4 A3.out).mono ?_); (case side1 => refine (Kd.V_reads' (e := 3) (base := w0.heap.size) (ok := fun k_ => (((w0.heap.size ≤ k_) ∧ (k_ ≠ gb355 ∧ k_ ≠ g)) ∧ k_ ≠ gb366)) (n := t358.length) (c := co11) ?_).2.2; exact (by exact (Kd.V_mono (Kd.V_far (p := ⟨gb366, 1, none⟩) (Kd.V_far (p := ⟨gb366, 0, none⟩) (Kd.V_mono HO360.out (fun k_ hk => (⟨hk, hk.2⟩ : _ ∧ k_ ≠ gb366))) (fun _ hk => hk.2) (.string t356)) (fun _ hk => hk.2) (.string t357)) (fun _ h_ => h_.1)))); (case side2 => exact (Kd.V_reads' HO360.out).2.1); (case side3 => refine (Kd.V_reads' (e := 3) (base := w0.heap.size) (ok := fun k_ => (((w0.heap.size ≤ k_) ∧ (k_ ≠ gb355 ∧ k_ ≠ g)) ∧ k_ ≠ gb366)) (n := t361.length) (c := co12) ?_).2.2; exact (by exact (Kd.V_mono (Kd.V_far (p := ⟨gb366, 1, none⟩) (Kd.V_far (p := ⟨gb366, 0, none⟩) (Kd.V_mono HO363.out (fun k_ hk => (⟨hk, hk.2⟩ : _ ∧ k_ ≠ gb366))) (fun _ hk => hk.2) (.string t356)) (fun _ hk => hk.2) (.string t357)) (fun _ h_ => h_.1)))); (case side4 => exact (Kd.V_reads' HO363.out).2.1); rintro e w13 ⟨rfl, hb⟩; refine ⟨_, rfl, ?_⟩; replace HO360 := am (Kd.V_below (by exact (Kd.V_mono (Kd.V_far (p := ⟨gb366, 1, none⟩) (Kd.V_far (p := ⟨gb366, 0, none⟩) (Kd.V_mono HO360.out (fun k_ hk => (⟨hk, hk.2⟩ : _ ∧ k_ ≠ gb366))) (fun _ hk => hk.2) (.string t356)) (fun _ hk => hk.2) (.string t357)) (fun _ h_ => h_.1))) hb); replace HO363 := am (Kd.V_below (by exact (Kd.V_mono (Kd.V_far (p := ⟨gb366, 1, none⟩) (Kd.V_far (p := ⟨gb366, 0, none⟩) (Kd.V_mono HO363.out (fun k_ hk => (⟨hk, hk.2⟩ : _ ∧ k_ ≠ gb366))) (fun _ hk => hk.2) (.string t356)) (fun _ hk => hk.2) (.string t357)) (fun _ h_ => h_.1))) hb); replace HI0 := am (IsS71.below (show IsS71 w0 ((w7.setCell ⟨gb366, 0, none⟩ (.string t356)).setCell ⟨gb366, 1, none⟩ (.string t357)) g s0_0 t364 t365 from by repeat (with_reducible first | exact HI0.out | refine IsS71.far ?_ NB0_366.out _)) hb); replace BK355 := am (blk_below (g := gb355) (o := .cells #[.string (⟨#[]⟩ : ByteArray), .string (⟨#[]⟩ : ByteArray)] 25 (0, 0)) (by (with_reducible skip); refine blk_far ?_ NB355_366.out _; (with_reducible skip); refine blk_far ?_ NB355_366.out _; (with_reducible skip); exact BK355.out) hb); replace BK366 := am (blk_below (g := gb366) (o := .cells #[.string t356, .string t357] 25 (0, 0)) (by (with_reducible skip); refine blk_put (cs := #[.string t356, .string (⟨#[]⟩ : ByteArray)]) ?_ 1 _ rfl; (with_reducible skip); refine blk_put (cs := #[.string (⟨#[]⟩ : ByteArray), .string (⟨#[]⟩ : ByteArray)]) ?_ 0 _ rfl; (with_reducible skip); exact BK366.out) hb); replace HK := am (KeepBut.trans (by repeat (with_reducible first | exact HK.out | refine keep_far ?_ GW366.out _)) (KeepBut.of_below hb g none) (.inl rfl)); replace HB := am (below_step (by repeat (with_reducible first | exact HB.out | refine below_set ?_ GE366.out)) hb); (try clear hb)))
 go_cut [39] (fun v39 wc => ∃ (kq : Nat) (x39_3 : Bool) (x1001_3 : Int) (x1002_3 : Int), v39 = .bool x39_3 ∧ Aside0 (spec_DrawDriveWord.j0 kq t358 t367 x39_3 s0_0 x1001_3 x1002_3 t356 t357 = some (y0_, y1_, y2_, y3_, r5, r6)) ∧ Aside0 (kq ≤ k) ∧ Aside0 (Kd.V (Kd.int .i64) 3 wc w0.heap.size (fun k_ => (w0.heap.size ≤ k_) ∧ k_ ≠ gb355 ∧ k_ ≠ gb366 ∧ k_ ≠ g) (.slice Ao11 t358.length co11) t358) ∧ Aside0 (wc.heap[gb355]? = some (.cells #[.string (⟨#[]⟩ : ByteArray), .string (⟨#[]⟩ : ByteArray)] 25 (0, 0))) ∧ Aside0 (wc.heap[gb366]? = some (.cells #[.string t356, .string t357] 25 (0, 0))) ∧ Aside0 (IsS71 w0 wc g s0_0 x1001_3 x1002_3) ∧ Aside0 (KeepBut w0 wc g none) ∧ Aside0 (Below w0.heap.size w0 wc))
 case first =>
  have H := HC4.out
  clear HC4
  by_cases c14 : t368 = true
  ·subst c14
   rw [if_pos rfl] at H
   obtain ⟨⟨t369, t370, t371⟩, A15, H⟩ := bnd_ H
   try dsimp only at H
   have H' := am H
   clear H
   go_wp2_with (go_at_call 48; (with_reducible refine (spec_l1Cur_one.calls g s0_0 t364 t365 2 t369 t370 t371 w0 _ (HI0.out) ?side2 A15.out).mono ?_); (case side2 => repeat (with_reducible first | exact HB.out)); rintro e w16 ⟨rfl, hi, hb, hk⟩; replace BK355 := am (KeepBut.blk hk BK355.out NB355_0.out (by simp)); replace HO360 := am (Kd.V_mono (Kd.V_keep (Kd.V_mono (ok := fun k_ => ((((w0.heap.size ≤ k_)) ∧ (k_ ≠ gb355 ∧ k_ ≠ g)) ∧ k_ ≠ gb366)) HO360.out (fun k_ hk_ => (⟨hk_, hk_.1.2.2⟩ : _ ∧ k_ ≠ g))) hk (fun _ h => h.2)) (fun _ h => h.1)); replace HO363 := am (Kd.V_mono (Kd.V_keep (Kd.V_mono (ok := fun k_ => ((((w0.heap.size ≤ k_)) ∧ (k_ ≠ gb355 ∧ k_ ≠ g)) ∧ k_ ≠ gb366)) HO363.out (fun k_ hk_ => (⟨hk_, hk_.1.2.2⟩ : _ ∧ k_ ≠ g))) hk (fun _ h => h.2)) (fun _ h => h.1)); replace BK366 := am (KeepBut.blk hk BK366.out NB366_0.out (by simp)); replace HK := am (KeepBut.trans HK.out hk (.inl rfl)); replace HB := am (hb); replace HI0 := am (hi); (try clear hb); (try clear hk); (try clear hi))
   go_meet
   case rel => exact ⟨_, (t369), (t370), (t371), (by rfl), H', ⟨by omega⟩, ⟨by (with_reducible skip); exact Kd.V_mono HO360.out (fun _ hk => ⟨hk.1.1, ⟨hk.1.2.1, ⟨hk.2, hk.1.2.2⟩⟩⟩)⟩, ⟨by (with_reducible skip); exact BK355.out⟩, ⟨by (with_reducible skip); exact BK366.out⟩, ⟨by exact HI0.out⟩, ⟨by exact HK.out⟩, ⟨by exact HB.out⟩⟩
  ·replace c14 := Bool.eq_false_iff.mpr c14
   subst c14
   rw [if_neg (show ¬ (false = true) by decide)] at H
   have H' := am H
   clear H
   go_wp2
   go_meet
   case rel => exact ⟨_, (false), (t364), (t365), (by rfl), H', ⟨by omega⟩, ⟨by (with_reducible skip); exact Kd.V_mono HO360.out (fun _ hk => ⟨hk.1.1, ⟨hk.1.2.1, ⟨hk.2, hk.1.2.2⟩⟩⟩)⟩, ⟨by (with_reducible skip); exact BK355.out⟩, ⟨by (with_reducible skip); exact BK366.out⟩, ⟨by exact HI0.out⟩, ⟨by exact HK.out⟩, ⟨by exact HB.out⟩⟩
 case rest =>
  clear HC4
  try clear hcz10_0
  try clear hcz10_1
  try clear hfz10_0
  try clear hfz10_1
  obtain ⟨kq, x39_3, x1001_3, x1002_3, rfl, HA, HJ3, HO_7, BK355, BK366, HI0, HK, HB⟩ := hcut
  cases kq with
  | zero => exact absurd HA.out (by simp [spec_DrawDriveWord.j0])
  | succ kj3 =>
   have H := HA.out
   clear HA
   simp only [spec_DrawDriveWord.j0] at H
   by_cases c17 : x39_3 = true
   ·subst c17
    rw [if_pos rfl] at H
    simp only [Option.some.injEq, Prod.mk.injEq] at H
    obtain ⟨rfl, rfl, rfl, rfl, rfl, rfl⟩ := H
    have hnb18 := NB366_355.out
    have hnc18 := NB355_366.out
    have hnb19 := NB366_0.out
    have hnc19 := NB0_366.out
    have hcz20_0 := cz0_ BK366
    have hcz20_1 := cz1_ BK366
    have hfz20_0 := blk_frozen BK366.out 0
    have hfz20_1 := blk_frozen BK366.out 1
    have hnb21 := NB355_0.out
    have hnc21 := NB0_355.out
    have hcz22_0 := cz0_ BK355
    have hcz22_1 := cz1_ BK355
    have hfz22_0 := blk_frozen BK355.out 0
    have hfz22_1 := blk_frozen BK355.out 1
    go_wp2
    refine bodyPost_ret (results_ctt rfl _ _ gb355 25 #[.string t356, .string t357] (0, 0) _ rfl (by (with_reducible skip); refine blk_put (cs := #[.string t356, .string (⟨#[]⟩ : ByteArray)]) ?_ 1 _ rfl; (with_reducible skip); refine blk_put (cs := #[.string (⟨#[]⟩ : ByteArray), .string (⟨#[]⟩ : ByteArray)]) ?_ 0 _ rfl; (with_reducible skip); exact BK355.out) Try.underlying25 rfl (by kernel_rfl)) rfl ?_
    exact HQ_.out _ _ ⟨_, by rfl, by (with_reducible skip); exact Kd.V_mono (Kd.V_far (p := ⟨gb355, 1, none⟩) (Kd.V_far (p := ⟨gb355, 0, none⟩) (Kd.V_mono HO_7.out (fun k_ hk => (⟨hk, hk.2.1⟩ : _ ∧ k_ ≠ gb355))) (fun _ hk => hk.2) (.string t356)) (fun _ hk => hk.2) (.string t357)) (fun _ hk => hk.1.1), by repeat (with_reducible first | exact HI0.out | refine IsS71.far ?_ NB0_355.out _), by repeat (with_reducible first | exact HB.out | refine below_set ?_ GE355.out), by repeat (with_reducible first | exact HK.out | refine keep_far ?_ GW355.out _)⟩
   ·replace c17 := Bool.eq_false_iff.mpr c17
    subst c17
    rw [if_neg (show ¬ (false = true) by decide)] at H
    have HC23 := am H
    clear H
    go_upto_region 6 with (fail)
    go_cut [55] (fun v55 wc => ∃ (kq : Nat) (x55_22 : Bool) (x1001_22 : Int) (x1002_22 : Int), v55 = .bool x55_22 ∧ Aside0 (spec_DrawDriveWord.j1 kq t358 x55_22 s0_0 x1001_22 x1002_22 t356 t357 = some (y0_, y1_, y2_, y3_, r5, r6)) ∧ Aside0 (kq ≤ kj3) ∧ Aside0 (Kd.V (Kd.int .i64) 3 wc w0.heap.size (fun k_ => (w0.heap.size ≤ k_) ∧ k_ ≠ gb355 ∧ k_ ≠ gb366 ∧ k_ ≠ g) (.slice Ao11 t358.length co11) t358) ∧ Aside0 (wc.heap[gb355]? = some (.cells #[.string (⟨#[]⟩ : ByteArray), .string (⟨#[]⟩ : ByteArray)] 25 (0, 0))) ∧ Aside0 (wc.heap[gb366]? = some (.cells #[.string t356, .string t357] 25 (0, 0))) ∧ Aside0 (IsS71 w0 wc g s0_0 x1001_22 x1002_22) ∧ Aside0 (KeepBut w0 wc g none) ∧ Aside0 (Below w0.heap.size w0 wc))
    case first =>
     have H := HC23.out
     clear HC23
     obtain ⟨t372, A24, H⟩ := bnd_ H
     try dsimp only at H
     by_cases c25 : t372 = true
     ·subst c25
      rw [if_pos rfl] at H
      obtain ⟨t373, A26, H⟩ := bnd_ H
      try dsimp only at H
      by_cases c27 : t373 = true
      ·subst c27
       rw [if_pos rfl] at H
       obtain ⟨⟨t374, t375, t376⟩, A28, H⟩ := bnd_ H
       try dsimp only at H
       have H' := am H
       clear H
       have hnb29 := NB366_355.out
       have hnc29 := NB355_366.out
       have hnb30 := NB366_0.out
       have hnc30 := NB0_366.out
       have hcz31_0 := cz0_ BK366
       have hcz31_1 := cz1_ BK366
       have hfz31_0 := blk_frozen BK366.out 0
       have hfz31_1 := blk_frozen BK366.out 1
       go_wp2_with (first | ((with_reducible refine gate_callee (f := 49) rfl ?_); refine gl_ 44 Try.func49 #[.agg #[.string t356, .string t357]] ?_; (with_reducible refine (spec_owGood.calls kj3 t356 t357 true _ A24.out).mono ?_); rintro e w32 ⟨rfl, hb⟩; refine ⟨_, rfl, ?_⟩; replace HO_7 := am (Kd.V_below HO_7.out hb); replace BK355 := am (blk_below (g := gb355) (o := .cells #[.string (⟨#[]⟩ : ByteArray), .string (⟨#[]⟩ : ByteArray)] 25 (0, 0)) BK355.out hb); replace BK366 := am (blk_below (g := gb366) (o := .cells #[.string t356, .string t357] 25 (0, 0)) BK366.out hb); replace HI0 := am (IsS71.below HI0.out hb); replace HK := am (KeepBut.trans HK.out (KeepBut.of_below hb g none) (.inl rfl)); replace HB := am (below_step HB.out hb); (try clear hb); have hcz33_0 := cz0_ BK366; have hcz33_1 := cz1_ BK366; have hfz33_0 := blk_frozen BK366.out 0; have hfz33_1 := blk_frozen BK366.out 1) | (go_at_call 50; (with_reducible refine (spec_owCorner.calls t356 t357 _ _ t358 true _ ((Kd.V_reads' HO_7.out).2.2) ?side2 A26.out).mono ?_); (case side2 => exact (Kd.V_reads' HO_7.out).2.1); rintro e w34 ⟨rfl, hb⟩; replace HO_7 := am (Kd.V_below HO_7.out hb); replace BK355 := am (blk_below (g := gb355) (o := .cells #[.string (⟨#[]⟩ : ByteArray), .string (⟨#[]⟩ : ByteArray)] 25 (0, 0)) BK355.out hb); replace BK366 := am (blk_below (g := gb366) (o := .cells #[.string t356, .string t357] 25 (0, 0)) BK366.out hb); replace HI0 := am (IsS71.below HI0.out hb); replace HK := am (KeepBut.trans HK.out (KeepBut.of_below hb g none) (.inl rfl)); replace HB := am (below_step HB.out hb); (try clear hb)) | (go_at_call 48; (with_reducible refine (spec_l1Cur_one.calls g s0_0 x1001_3 x1002_3 4 t374 t375 t376 w0 _ (HI0.out) ?side2 A28.out).mono ?_); (case side2 => repeat (with_reducible first | exact HB.out)); rintro e w35 ⟨rfl, hi, hb, hk⟩; replace HO_7 := am (Kd.V_mono (Kd.V_keep (Kd.V_mono (ok := fun k_ => (((w0.heap.size ≤ k_)) ∧ (k_ ≠ gb355 ∧ (k_ ≠ gb366 ∧ k_ ≠ g)))) HO_7.out (fun k_ hk_ => (⟨hk_, hk_.2.2.2⟩ : _ ∧ k_ ≠ g))) hk (fun _ h => h.2)) (fun _ h => h.1)); replace BK355 := am (KeepBut.blk hk BK355.out NB355_0.out (by simp)); replace BK366 := am (KeepBut.blk hk BK366.out NB366_0.out (by simp)); replace HK := am (KeepBut.trans HK.out hk (.inl rfl)); replace HB := am (hb); replace HI0 := am (hi); (try clear hb); (try clear hk); (try clear hi)))
       go_meet
       case rel => exact ⟨_, (t374), (t375), (t376), (by rfl), H', ⟨by have := HJ3.out; first | omega⟩, ⟨by (with_reducible skip); exact HO_7.out⟩, ⟨by (with_reducible skip); exact BK355.out⟩, ⟨by (with_reducible skip); exact BK366.out⟩, ⟨by exact HI0.out⟩, ⟨by exact HK.out⟩, ⟨by exact HB.out⟩⟩
      ·replace c27 := Bool.eq_false_iff.mpr c27
       subst c27
       rw [if_neg (show ¬ (false = true) by decide)] at H
       have H' := am H
       clear H
       have hnb36 := NB366_355.out
       have hnc36 := NB355_366.out
       have hnb37 := NB366_0.out
       have hnc37 := NB0_366.out
       have hcz38_0 := cz0_ BK366
       have hcz38_1 := cz1_ BK366
       have hfz38_0 := blk_frozen BK366.out 0
       have hfz38_1 := blk_frozen BK366.out 1
       go_wp2_with (first | ((with_reducible refine gate_callee (f := 49) rfl ?_); refine gl_ 44 Try.func49 #[.agg #[.string t356, .string t357]] ?_; (with_reducible refine (spec_owGood.calls kj3 t356 t357 true _ A24.out).mono ?_); rintro e w39 ⟨rfl, hb⟩; refine ⟨_, rfl, ?_⟩; replace HO_7 := am (Kd.V_below HO_7.out hb); replace BK355 := am (blk_below (g := gb355) (o := .cells #[.string (⟨#[]⟩ : ByteArray), .string (⟨#[]⟩ : ByteArray)] 25 (0, 0)) BK355.out hb); replace BK366 := am (blk_below (g := gb366) (o := .cells #[.string t356, .string t357] 25 (0, 0)) BK366.out hb); replace HI0 := am (IsS71.below HI0.out hb); replace HK := am (KeepBut.trans HK.out (KeepBut.of_below hb g none) (.inl rfl)); replace HB := am (below_step HB.out hb); (try clear hb); have hcz40_0 := cz0_ BK366; have hcz40_1 := cz1_ BK366; have hfz40_0 := blk_frozen BK366.out 0; have hfz40_1 := blk_frozen BK366.out 1) | (go_at_call 50; (with_reducible refine (spec_owCorner.calls t356 t357 _ _ t358 false _ ((Kd.V_reads' HO_7.out).2.2) ?side2 A26.out).mono ?_); (case side2 => exact (Kd.V_reads' HO_7.out).2.1); rintro e w41 ⟨rfl, hb⟩; replace HO_7 := am (Kd.V_below HO_7.out hb); replace BK355 := am (blk_below (g := gb355) (o := .cells #[.string (⟨#[]⟩ : ByteArray), .string (⟨#[]⟩ : ByteArray)] 25 (0, 0)) BK355.out hb); replace BK366 := am (blk_below (g := gb366) (o := .cells #[.string t356, .string t357] 25 (0, 0)) BK366.out hb); replace HI0 := am (IsS71.below HI0.out hb); replace HK := am (KeepBut.trans HK.out (KeepBut.of_below hb g none) (.inl rfl)); replace HB := am (below_step HB.out hb); (try clear hb)))
       go_meet
       case rel => exact ⟨_, (true), (x1001_3), (x1002_3), (by rfl), H', ⟨by have := HJ3.out; first | omega⟩, ⟨by (with_reducible skip); exact HO_7.out⟩, ⟨by (with_reducible skip); exact BK355.out⟩, ⟨by (with_reducible skip); exact BK366.out⟩, ⟨by exact HI0.out⟩, ⟨by exact HK.out⟩, ⟨by exact HB.out⟩⟩
     ·replace c25 := Bool.eq_false_iff.mpr c25
      subst c25
      rw [if_neg (show ¬ (false = true) by decide)] at H
      have H' := am H
      clear H
      have hnb42 := NB366_355.out
      have hnc42 := NB355_366.out
      have hnb43 := NB366_0.out
      have hnc43 := NB0_366.out
      have hcz44_0 := cz0_ BK366
      have hcz44_1 := cz1_ BK366
      have hfz44_0 := blk_frozen BK366.out 0
      have hfz44_1 := blk_frozen BK366.out 1
      go_wp2_with ((with_reducible refine gate_callee (f := 49) rfl ?_); refine gl_ 44 Try.func49 #[.agg #[.string t356, .string t357]] ?_; (with_reducible refine (spec_owGood.calls kj3 t356 t357 false _ A24.out).mono ?_); rintro e w45 ⟨rfl, hb⟩; refine ⟨_, rfl, ?_⟩; replace HO_7 := am (Kd.V_below HO_7.out hb); replace BK355 := am (blk_below (g := gb355) (o := .cells #[.string (⟨#[]⟩ : ByteArray), .string (⟨#[]⟩ : ByteArray)] 25 (0, 0)) BK355.out hb); replace BK366 := am (blk_below (g := gb366) (o := .cells #[.string t356, .string t357] 25 (0, 0)) BK366.out hb); replace HI0 := am (IsS71.below HI0.out hb); replace HK := am (KeepBut.trans HK.out (KeepBut.of_below hb g none) (.inl rfl)); replace HB := am (below_step HB.out hb); (try clear hb))
      go_meet
      case rel => exact ⟨_, (true), (x1001_3), (x1002_3), (by rfl), H', ⟨by have := HJ3.out; first | omega⟩, ⟨by (with_reducible skip); exact HO_7.out⟩, ⟨by (with_reducible skip); exact BK355.out⟩, ⟨by (with_reducible skip); exact BK366.out⟩, ⟨by exact HI0.out⟩, ⟨by exact HK.out⟩, ⟨by exact HB.out⟩⟩
    case rest =>
     clear HC23
     obtain ⟨kq, x55_22, x1001_22, x1002_22, rfl, HA, HJ22, HO_7, BK355, BK366, HI0, HK, HB⟩ := hcut
     cases kq with
     | zero => exact absurd HA.out (by simp [spec_DrawDriveWord.j1])
     | succ kj22 =>
      have H := HA.out
      clear HA
      simp only [spec_DrawDriveWord.j1] at H
      by_cases c46 : x55_22 = true
      ·subst c46
       rw [if_pos rfl] at H
       obtain ⟨⟨t377, t378, t379⟩, A47, H⟩ := bnd_ H
       try dsimp only at H
       simp only [Option.some.injEq, Prod.mk.injEq] at H
       obtain ⟨rfl, rfl, rfl, rfl, rfl, rfl⟩ := H
       try go_wp2
       replace HO_7 := am (Kd.V_drew HO_7.out)
       replace BK355 := am (blk_drew BK355.out)
       replace BK366 := am (blk_drew BK366.out)
       replace HI0 := am (IsS71.drew HI0.out)
       replace HK := am (keep_drew HK.out)
       replace HB := am (below_drew1 HB.out)
       refine start_ (n := 7) (S := fun w' => w'.cell? ⟨gb366, 0, none⟩ = some (.string t356) ∧ w'.cell? ⟨gb366, 1, none⟩ = some (.string t357)) (ds := []) #[false, false, false, false, false, false, false] (by kernel_rfl) rfl rfl ⟨(blk_cell BK366.out 0).trans rfl, (blk_cell BK366.out 1).trans rfl⟩ (fun hHeld => ?_)
       generalize wc.drew = w48 at HO_7 BK355 BK366 HI0 HK HB hHeld ⊢
       refine pure_ (i := 1) (N := some 57) (v := ?_) (a' := ?_) #[false, true, false, false, false, false, false] rfl rfl (by kernel_rfl) (fun _ _ _ h => h) (Or.inl ⟨by rfl, ?_⟩) ?_ ?_
       rotate_left
       ·intro w'
        go_simp
        with_reducible rfl
       rotate_left
       ·simp only [Act.put, List.setIfInBounds_toArray, List.set_cons_zero, List.set_cons_succ, i64_w, i32_w]
        rfl
       refine pure_ (i := 2) (N := some 58) (v := ?_) (a' := ?_) #[false, true, true, false, false, false, false] rfl rfl (by kernel_rfl) (fun _ _ _ h => h) (Or.inl ⟨by rfl, ?_⟩) ?_ ?_
       rotate_left
       ·intro w'
        go_simp
        with_reducible rfl
       rotate_left
       ·simp only [Act.put, List.setIfInBounds_toArray, List.set_cons_zero, List.set_cons_succ, i64_w, i32_w]
        rfl
       refine take_ (i := 0) (N := some 56) (v := ?_) (a' := ?_) #[true, true, true, false, false, false, false] rfl rfl (by kernel_rfl) (fun _ _ _ h => h) (Or.inl ⟨by rfl, ?_⟩) hHeld ?_ ?_
       rotate_left
       ·rintro w' ⟨s0, s1⟩
        go_simp
        with_reducible rfl
       rotate_left
       ·simp only [Act.put, List.setIfInBounds_toArray, List.set_cons_zero, List.set_cons_succ, i64_w, i32_w]
        rfl
       refine one_ (i := 3) (N := some 59) (fl_ 7 15) rfl rfl (by kernel_rfl) (by decide) (fun K hK => ?_)
       refine gs_ Try.func51 #[.pointer (some ⟨g, 0, none⟩)] ?_
       with_reducible refine (spec_l1Cur_way.calls kj22 g s0_0 x1001_22 x1002_22 t377 t378 t379 w0 _ ?side1 ?side2 A47.out).mono ?_
       (case side1 => repeat (with_reducible first | exact HI0.out))
       (case side2 => repeat (with_reducible first | exact HB.out))
       rintro e w49 ⟨rfl, hi, hb, hk⟩
       refine ⟨_, rfl, ?_⟩
       replace HO_7 := am (Kd.V_mono (Kd.V_keep (Kd.V_mono (ok := fun k_ => (((w0.heap.size ≤ k_)) ∧ (k_ ≠ gb355 ∧ (k_ ≠ gb366 ∧ k_ ≠ g)))) HO_7.out (fun k_ hk_ => (⟨hk_, hk_.2.2.2⟩ : _ ∧ k_ ≠ g))) hk (fun _ h => h.2)) (fun _ h => h.1))
       replace BK355 := am (KeepBut.blk hk BK355.out NB355_0.out (by simp))
       replace BK366 := am (KeepBut.blk hk BK366.out NB366_0.out (by simp))
       replace HK := am (KeepBut.trans HK.out hk (.inl rfl))
       replace HB := am (hb)
       replace HI0 := am (hi)
       (try clear hb)
       (try clear hk)
       (try clear hi)
       refine hK.out _ _ ⟨(blk_cell BK366.out 0).trans rfl, (blk_cell BK366.out 1).trans rfl⟩ (fun hHeld => ?_)
       clear hK K
       refine nm_ 59 ?_
       refine one_ (i := 4) (N := none) #[true, true, true, true, true, false, false] rfl rfl (by kernel_rfl) (by decide) (fun K hK => ?_)
       have hs50 : w49.cell? ⟨gb355, 0, none⟩ = some (.string (⟨#[]⟩ : ByteArray)) := (blk_cell BK355.out 0).trans rfl
       have hfs50 := blk_frozen BK355.out 0
       have hns50_1 := NB366_355.out
       have hms50_1 := NB355_366.out
       have hs51 : w49.cell? ⟨gb355, 1, none⟩ = some (.string (⟨#[]⟩ : ByteArray)) := (blk_cell BK355.out 1).trans rfl
       have hfs51 := blk_frozen BK355.out 1
       have hns51_1 := NB366_355.out
       have hms51_1 := NB355_366.out
       refine skip_ (w1 := ?_) (by rfl) rfl ?_ ?_
       rotate_left
       ·go_simp
        rfl
       refine hK.out _ _ ⟨((cell_far (p := ⟨gb355, _, none⟩) NB366_355.out _).trans (((cell_far (p := ⟨gb355, _, none⟩) NB366_355.out _).trans (hHeld.1)))), ((cell_far (p := ⟨gb355, _, none⟩) NB366_355.out _).trans (((cell_far (p := ⟨gb355, _, none⟩) NB366_355.out _).trans (hHeld.2))))⟩ (fun hHeld => ?_)
       clear hK K
       refine pure_ (i := 5) (N := some 3) (v := ?_) (a' := ?_) #[true, true, true, true, true, true, false] rfl rfl (by kernel_rfl) (fun _ _ _ h => h) (Or.inl ⟨by rfl, ?_⟩) ?_ ?_
       rotate_left
       ·intro w'
        go_simp
        with_reducible rfl
       rotate_left
       ·simp only [Act.put, List.setIfInBounds_toArray, List.set_cons_zero, List.set_cons_succ, i64_w, i32_w]
        rfl
       refine pure_ (i := 6) (N := some 4) (v := ?_) (a' := ?_) #[true, true, true, true, true, true, true] rfl rfl (by kernel_rfl) (fun _ _ _ h => h) (Or.inl ⟨by rfl, ?_⟩) ?_ ?_
       rotate_left
       ·intro w'
        go_simp
        with_reducible rfl
       rotate_left
       ·simp only [Act.put, List.setIfInBounds_toArray, List.set_cons_zero, List.set_cons_succ, i64_w, i32_w]
        rfl
       refine done_ (by kernel_rfl) ?_
       try go_wp2
       refine bodyPost_ret (results_ctt rfl _ _ gb355 25 #[.string t356, .string t357] (0, 0) _ rfl (by (with_reducible skip); refine blk_put (cs := #[.string t356, .string (⟨#[]⟩ : ByteArray)]) ?_ 1 _ rfl; (with_reducible skip); refine blk_put (cs := #[.string (⟨#[]⟩ : ByteArray), .string (⟨#[]⟩ : ByteArray)]) ?_ 0 _ rfl; (with_reducible skip); exact BK355.out) Try.underlying25 rfl (by kernel_rfl)) rfl ?_
       exact HQ_.out _ _ ⟨_, by rfl, by (with_reducible skip); exact Kd.V_mono (Kd.V_far (p := ⟨gb355, 1, none⟩) (Kd.V_far (p := ⟨gb355, 0, none⟩) (Kd.V_mono HO_7.out (fun k_ hk => (⟨hk, hk.2.1⟩ : _ ∧ k_ ≠ gb355))) (fun _ hk => hk.2) (.string t356)) (fun _ hk => hk.2) (.string t357)) (fun _ hk => hk.1.1), by repeat (with_reducible first | exact HI0.out | refine IsS71.far ?_ NB0_355.out _), by repeat (with_reducible first | exact HB.out | refine below_set ?_ GE355.out), by repeat (with_reducible first | exact HK.out | refine keep_far ?_ GW355.out _)⟩
      ·replace c46 := Bool.eq_false_iff.mpr c46
       subst c46
       rw [if_neg (show ¬ (false = true) by decide)] at H
       by_cases c52 : 0 < (t358.length : Int)
       ·rw [if_pos c52] at H
        have c52b0 : decide (0 < (t358.length : Int)) = true := decide_eq_true c52
        have c52b1 : decide (0 < t358.length) = true := decide_eq_true (by omega)
        clear c52
        by_cases c53 : 1 < (t358.length : Int)
        ·rw [if_pos c53] at H
         have c53b0 : decide (1 < (t358.length : Int)) = true := decide_eq_true c53
         have c53b1 : decide (1 < t358.length) = true := decide_eq_true (by omega)
         clear c53
         obtain ⟨⟨t382, t383, t384⟩, A54, H⟩ := bnd_ H
         try dsimp only at H
         have H' := am H
         clear H
         try go_wp2
         replace HO_7 := am (Kd.V_drew HO_7.out)
         replace BK355 := am (blk_drew BK355.out)
         replace BK366 := am (blk_drew BK366.out)
         replace HI0 := am (IsS71.drew HI0.out)
         replace HK := am (keep_drew HK.out)
         replace HB := am (below_drew1 HB.out)
         have p380 : 0 ≤ (0 : Int) := (by omega)
         have q380 : 0 < (t358.length : Int) := of_decide_eq_true (by with_reducible assumption)
         obtain ⟨ad380, e380, hx380_0⟩ := Kd.at_int (Kd.V_reads' HO_7.out).2.2 0 p380 q380
         cases e380
         have qi380 : (0 < t358.length) = True := eq_true (by omega)
         (try rw [show ((0 : Int)).toNat = 0 from rfl] at hx380_0)
         (try rw [Addr.add_zero'] at hx380_0)
         replace p380 := eq_true p380
         replace q380 := eq_true q380
         have p381 : 0 ≤ (1 : Int) := (by omega)
         have q381 : 1 < (t358.length : Int) := of_decide_eq_true (by with_reducible assumption)
         obtain ⟨ad381, e381, hx381_0⟩ := Kd.at_int (Kd.V_reads' HO_7.out).2.2 1 p381 q381
         obtain rfl : ad380 = ad381 := (by injection e381)
         (try simp only [show (1 : Int).toNat = 1 from rfl, Nat.reduceMul, Nat.reduceEqDiff, Go.Addr.add, ↓reduceIte] at hx381_0)
         have qi381 : (1 < t358.length) = True := eq_true (by omega)
         replace p381 := eq_true p381
         replace q381 := eq_true q381
         refine start_ (n := 8) (S := fun w' => w'.cell? ad380 = some (.int .i64 (rd t358 0)) ∧ w'.cell? ⟨ad380.block, ad380.off + 1, none⟩ = some (.int .i64 (rd t358 1))) (ds := []) #[false, false, false, false, false, false, false, false] (by kernel_rfl) rfl rfl ⟨hx380_0, hx381_0⟩ (fun hHeld => ?_); refine with_tabW spec_DrawDriveWord.tab9 spec_DrawDriveWord.bits9 (fun HT_ HW_ => ?_)
         generalize wc.drew = w55 at HO_7 BK355 BK366 HI0 HK HB hx380_0 hx381_0 hHeld ⊢
         refine pu_ 0 60 (fl_ 8 1) HT_ ?_
         refine pu_ 1 61 (fl_ 8 3) HT_ ?_
         refine pu_ 3 63 (fl_ 8 11) HT_ ?_
         refine pu_ 4 64 (fl_ 8 27) HT_ ?_
         refine tk_ 2 62 (fl_ 8 31) HT_ HW_ hHeld ?_ (hy := by rintro w' ⟨s0, s1⟩; go_simp; with_reducible rfl)
         refine pu_ 6 12 (fl_ 8 95) HT_ ?_
         refine tk_ 5 65 (fl_ 8 127) HT_ HW_ hHeld ?_ (hy := by rintro w' ⟨s0, s1⟩; go_simp; with_reducible rfl)
         refine pu_ 7 13 (fl_ 8 255) HT_ ?_
         refine done_ (done_of HT_.out (by kernel_rfl)) ?_
         try go_wp2_with ((with_reducible refine gate_callee (f := 52) rfl ?_); refine gl_ 67 Try.func52 #[.pointer (some ⟨g, 0, none⟩), .int .i64 12] ?_; (with_reducible refine (spec_l1Cur_pick.calls g s0_0 x1001_22 x1002_22 12 t382 t383 t384 w0 _ (HI0.out) ?side2 A54.out).mono ?_); (case side2 => repeat (with_reducible first | exact HB.out)); rintro e w56 ⟨rfl, hi, hb, hk⟩; refine ⟨_, rfl, ?_⟩; replace HO_7 := am (Kd.V_mono (Kd.V_keep (Kd.V_mono (ok := fun k_ => (((w0.heap.size ≤ k_)) ∧ (k_ ≠ gb355 ∧ (k_ ≠ gb366 ∧ k_ ≠ g)))) HO_7.out (fun k_ hk_ => (⟨hk_, hk_.2.2.2⟩ : _ ∧ k_ ≠ g))) hk (fun _ h => h.2)) (fun _ h => h.1)); replace BK355 := am (KeepBut.blk hk BK355.out NB355_0.out (by simp)); replace BK366 := am (KeepBut.blk hk BK366.out NB366_0.out (by simp)); replace HK := am (KeepBut.trans HK.out hk (.inl rfl)); replace HB := am (hb); replace HI0 := am (hi); (try clear hb); (try clear hk); (try clear hi))
         go_loopg [11, 12, 13, 14] kj22 (fun kq v11 v12 v13 v14 w' => ∃ (x11_3 : ByteArray) (x12_3 : Int) (x13_3 : Int) (x14_3 : Int) (x1001_3 : Int) (x1002_3 : Int), v11 = .string x11_3 ∧ v12 = .int .i64 x12_3 ∧ v13 = .int .i64 x13_3 ∧ v14 = .int .i64 x14_3 ∧ Aside0 (spec_DrawDriveWord.l0 kq t358 x11_3 x12_3 x13_3 x14_3 s0_0 x1001_3 x1002_3 t356 t357 = some (y0_, y1_, y2_, y3_, r5, r6)) ∧ Aside0 (kq ≤ kj22) ∧ Aside0 (Kd.V (Kd.int .i64) 3 w' w0.heap.size (fun k_ => (w0.heap.size ≤ k_) ∧ k_ ≠ gb355 ∧ k_ ≠ gb366 ∧ k_ ≠ g) (.slice (some ad380) t358.length co11) t358) ∧ Aside0 (w'.heap[gb355]? = some (.cells #[.string (⟨#[]⟩ : ByteArray), .string (⟨#[]⟩ : ByteArray)] 25 (0, 0))) ∧ Aside0 (w'.heap[gb366]? = some (.cells #[.string t356, .string t357] 25 (0, 0))) ∧ Aside0 (IsS71 w0 w' g s0_0 x1001_3 x1002_3) ∧ Aside0 (KeepBut w0 w' g none) ∧ Aside0 (Below w0.heap.size w0 w'))
         case atStart => exact ⟨((⟨#[]⟩ : ByteArray)), (rd t358 0), (rd t358 1), (t382), (t383), (t384), (by rfl), (by rfl), (by rfl), (by rfl), H', ⟨Nat.le_refl _⟩, ⟨by (with_reducible skip); exact HO_7.out⟩, ⟨by (with_reducible skip); exact BK355.out⟩, ⟨by (with_reducible skip); exact BK366.out⟩, ⟨by exact HI0.out⟩, ⟨by exact HK.out⟩, ⟨by exact HB.out⟩⟩
         case round =>
          clear H'
          try clear c52b0
          try clear c52b1
          try clear c53b0
          try clear c53b1
          try clear hx380_0
          try clear hx381_0
          try clear p380
          try clear p381
          try clear q380
          try clear q381
          obtain ⟨x11_3, x12_3, x13_3, x14_3, x1001_3, x1002_3, rfl, rfl, rfl, rfl, HA, HK3, HO_7, BK355, BK366, HI0, HK, HB⟩ := hrel
          cases gk with
          | zero => exact absurd HA.out (by simp [spec_DrawDriveWord.l0])
          | succ k3 =>
           have H := HA.out
           clear HA
           simp only [spec_DrawDriveWord.l0] at H
           by_cases c57 : x14_3 > 0
           ·rw [if_pos c57] at H
            have c57b0 : decide (0 < x14_3) = true := decide_eq_true c57
            clear c57
            obtain ⟨y385, hy385⟩ : ∃ y_ : List Int, y_ = (([101, 110, 115, 119] : List Int)) := ⟨_, rfl⟩
            replace H : ((spec_l1Cur_pick.f s0_0 x1001_3 x1002_3 4).bind fun bt388 => (if 0 ≤ bt388.1 then (if bt388.1 < (y385.length : Int) then ((spec_owStep.f k3 t356 t357 x12_3 x13_3 (rd y385 bt388.1)).bind fun bt392 => (if bt392.2.2 = true then (if x11_3.size + (Utf8.encode (wrap32 (rd y385 bt388.1))).size ≤ 9223372036854775807 then (spec_DrawDriveWord.l0 k3 t358 (x11_3 ++ (Utf8.encode (wrap32 (rd y385 bt388.1)))) bt392.1 bt392.2.1 (wrap64 (x14_3 - 1)) s0_0 bt388.2.1 bt388.2.2 t356 t357) else (none)) else (spec_DrawDriveWord.l0 k3 t358 x11_3 x12_3 x13_3 (wrap64 (x14_3 - 1)) s0_0 bt388.2.1 bt388.2.2 t356 t357))) else (none)) else (none))) = some (y0_, y1_, y2_, y3_, r5, r6) := by first | (have H2_ := (Option.bind_some _ _).symm.trans H; rw [hy385]; with_reducible exact H2_)
            have Ny385 := am hy385
            clear hy385
            obtain ⟨⟨t388, t389, t390⟩, A58, H⟩ := bnd_ H
            try dsimp only at H
            by_cases c59 : 0 ≤ t388
            ·rw [if_pos c59] at H
             have c59b0 : decide (0 ≤ t388) = true := decide_eq_true c59
             clear c59
             by_cases c60 : t388 < (y385.length : Int)
             ·rw [if_pos c60] at H
              have c60b0 : decide (t388 < (y385.length : Int)) = true := decide_eq_true c60
              clear c60
              obtain ⟨⟨t392, t393, t394⟩, A61, H⟩ := bnd_ H
              try dsimp only at H
              by_cases c62 : t394 = true
              ·subst c62
               rw [if_pos rfl] at H
               by_cases c63 : x11_3.size + (Utf8.encode (wrap32 (rd y385 t388))).size ≤ 9223372036854775807
               ·rw [if_pos c63] at H
                have c63b0 := eq_true c63
                have c63b1 : decide (x11_3.size + (Utf8.encode (wrap32 (rd y385 t388))).size ≤ 9223372036854775807) = true := decide_eq_true c63
                try have c63b2 : (9223372036854775807 < x11_3.size + (Utf8.encode (wrap32 (rd y385 t388))).size) = False := eq_false (Nat.not_lt.2 c63)
                have H' := am H
                clear H
                go_wp2_with (first | ((with_reducible refine gate_dst (N := 72) rfl ?_); refine spec_DrawDriveWord.lit_const 5 (xs := [101, 110, 115, 119]) (X := #[.int .u8 101, .int .u8 110, .int .u8 115, .int .u8 119]) ?hg1 ?hg2 ?hX ?hr1 ?hr2 ?hm ?_; (case hg1 => rfl); (case hg2 => rfl); (case hX => rfl); (case hr1 => go_simp; done); (case hr2 => (have kc_ := fun (w0 : World) (C : Array Value) (n c : Nat) => Go.Lib.run_convert_bytes_const (P := Try.prog) w0 22 5 C n c Try.underlying22 Try.underlying5); first | (go_simp; done)); (case hm => decide); intro v386 w64 ho65 hba_ hb; (rw [← Ny385.out] at ho65); replace HO_7 := am (Kd.V_elder' HO_7.out hba_ hb); have HO387 := am (Kd.V_mono (ok' := fun k_ => (w0.heap.size ≤ k_) ∧ k_ ≠ g) ho65 (fun k_ hk_ => ⟨Nat.le_trans (keep_size (w := w0) (g := g) (row := none) HK.out) hk_, IsS71.fresh HI0.out k_ hk_⟩)); replace BK355 := am (blk_below (g := gb355) (o := .cells #[.string (⟨#[]⟩ : ByteArray), .string (⟨#[]⟩ : ByteArray)] 25 (0, 0)) BK355.out hb); replace BK366 := am (blk_below (g := gb366) (o := .cells #[.string t356, .string t357] 25 (0, 0)) BK366.out hb); replace HI0 := am (IsS71.below HI0.out hb); replace HK := am (KeepBut.trans HK.out (KeepBut.of_below hb g none) (.inl rfl)); replace HB := am (below_step HB.out hb); clear hb ho65 hba_) | ((with_reducible refine gate_callee (f := 52) rfl ?_); refine gl_ 75 Try.func52 #[.pointer (some ⟨g, 0, none⟩), .int .i64 4] ?_; (with_reducible refine (spec_l1Cur_pick.calls g s0_0 x1001_3 x1002_3 4 t388 t389 t390 w0 _ (HI0.out) ?side2 A58.out).mono ?_); (case side2 => repeat (with_reducible first | exact HB.out)); rintro e w66 ⟨rfl, hi, hb, hk⟩; refine ⟨_, rfl, ?_⟩; replace HO_7 := am (Kd.V_mono (Kd.V_keep (Kd.V_mono (ok := fun k_ => ((((w0.heap.size ≤ k_)) ∧ (k_ ≠ gb355 ∧ (k_ ≠ gb366 ∧ k_ ≠ g))) ∧ some k_ ≠ (v386 : Value).ownBlock)) HO_7.out (fun k_ hk_ => (⟨hk_, hk_.1.2.2.2⟩ : _ ∧ k_ ≠ g))) hk (fun _ h => h.2)) (fun _ h => h.1)); replace BK355 := am (KeepBut.blk hk BK355.out NB355_0.out (by simp)); replace BK366 := am (KeepBut.blk hk BK366.out NB366_0.out (by simp)); replace HO387 := am (Kd.V_keep (ok := fun k_ => (w0.heap.size ≤ k_) ∧ k_ ≠ g) HO387.out hk (fun _ h => h.2)); replace HK := am (KeepBut.trans HK.out hk (.inl rfl)); replace HB := am (hb); replace HI0 := am (hi); (try clear hb); (try clear hk); (try clear hi); obtain ⟨Ao67, co67, eo67⟩ := Kd.V_slice HO387.out; subst eo67; have p391 : 0 ≤ (t388 : Int) := of_decide_eq_true (by with_reducible assumption); have q391 : t388 < (y385.length : Int) := of_decide_eq_true (by with_reducible assumption); obtain ⟨ad391, e391, hx391_0⟩ := Kd.at_int (Kd.V_reads' HO387.out).2.2 t388 p391 q391; cases e391; replace p391 := eq_true p391; replace q391 := eq_true q391; have hnb68 := NB366_355.out; have hnc68 := NB355_366.out; have hnb69 := NB366_0.out; have hnc69 := NB0_366.out; have hcz70_0 := cz0_ BK366; have hcz70_1 := cz1_ BK366; have hfz70_0 := blk_frozen BK366.out 0; have hfz70_1 := blk_frozen BK366.out 1) | ((with_reducible refine gate_callee (f := 37) rfl ?_); refine gl_ 83 Try.func37 #[.agg #[.string t356, .string t357], .int .i64 x12_3, .int .i64 x13_3, .int .u8 (rd y385 t388)] ?_; (with_reducible refine (spec_owStep.calls k3 t356 t357 x12_3 x13_3 (rd y385 t388) t392 t393 true _ A61.out).mono ?_); rintro e w71 ⟨rfl, hb⟩; refine ⟨_, rfl, ?_⟩; replace HO_7 := am (Kd.V_below HO_7.out hb); replace HO387 := am (Kd.V_below HO387.out hb); replace BK355 := am (blk_below (g := gb355) (o := .cells #[.string (⟨#[]⟩ : ByteArray), .string (⟨#[]⟩ : ByteArray)] 25 (0, 0)) BK355.out hb); replace BK366 := am (blk_below (g := gb366) (o := .cells #[.string t356, .string t357] 25 (0, 0)) BK366.out hb); replace HI0 := am (IsS71.below HI0.out hb); replace HK := am (KeepBut.trans HK.out (KeepBut.of_below hb g none) (.inl rfl)); replace HB := am (below_step HB.out hb); (try clear hb)))
                go_roundg k3
                case measure => have := HJ3.out; have := HJ22.out; have := HK3.out; omega
                case rel => exact ⟨(x11_3 ++ (Utf8.encode (wrap32 (rd y385 t388)))), (t392), (t393), (wrap64 (x14_3 - 1)), (t389), (t390), (by rfl), (by rfl), (by rfl), (by rfl), H', ⟨by have := HJ3.out; have := HJ22.out; have := HK3.out; omega⟩, ⟨by (with_reducible skip); exact Kd.V_mono HO_7.out (fun _ hk => ⟨hk.1.1, ⟨hk.1.2.1, ⟨hk.1.2.2.1, hk.1.2.2.2⟩⟩⟩)⟩, ⟨by (with_reducible skip); exact BK355.out⟩, ⟨by (with_reducible skip); exact BK366.out⟩, ⟨by exact HI0.out⟩, ⟨by exact HK.out⟩, ⟨by exact HB.out⟩⟩
               ·rw [if_neg c63] at H
                exact absurd H (by simp)
              ·replace c62 := Bool.eq_false_iff.mpr c62
               subst c62
               rw [if_neg (show ¬ (false = true) by decide)] at H
               have H' := am H
               clear H
               go_wp2_with (first | ((with_reducible refine gate_dst (N := 72) rfl ?_); refine spec_DrawDriveWord.lit_const 5 (xs := [101, 110, 115, 119]) (X := #[.int .u8 101, .int .u8 110, .int .u8 115, .int .u8 119]) ?hg1 ?hg2 ?hX ?hr1 ?hr2 ?hm ?_; (case hg1 => rfl); (case hg2 => rfl); (case hX => rfl); (case hr1 => go_simp; done); (case hr2 => (have kc_ := fun (w0 : World) (C : Array Value) (n c : Nat) => Go.Lib.run_convert_bytes_const (P := Try.prog) w0 22 5 C n c Try.underlying22 Try.underlying5); first | (go_simp; done)); (case hm => decide); intro v386 w72 ho73 hba_ hb; (rw [← Ny385.out] at ho73); replace HO_7 := am (Kd.V_elder' HO_7.out hba_ hb); have HO387 := am (Kd.V_mono (ok' := fun k_ => (w0.heap.size ≤ k_) ∧ k_ ≠ g) ho73 (fun k_ hk_ => ⟨Nat.le_trans (keep_size (w := w0) (g := g) (row := none) HK.out) hk_, IsS71.fresh HI0.out k_ hk_⟩)); replace BK355 := am (blk_below (g := gb355) (o := .cells #[.string (⟨#[]⟩ : ByteArray), .string (⟨#[]⟩ : ByteArray)] 25 (0, 0)) BK355.out hb); replace BK366 := am (blk_below (g := gb366) (o := .cells #[.string t356, .string t357] 25 (0, 0)) BK366.out hb); replace HI0 := am (IsS71.below HI0.out hb); replace HK := am (KeepBut.trans HK.out (KeepBut.of_below hb g none) (.inl rfl)); replace HB := am (below_step HB.out hb); clear hb ho73 hba_) | ((with_reducible refine gate_callee (f := 52) rfl ?_); refine gl_ 75 Try.func52 #[.pointer (some ⟨g, 0, none⟩), .int .i64 4] ?_; (with_reducible refine (spec_l1Cur_pick.calls g s0_0 x1001_3 x1002_3 4 t388 t389 t390 w0 _ (HI0.out) ?side2 A58.out).mono ?_); (case side2 => repeat (with_reducible first | exact HB.out)); rintro e w74 ⟨rfl, hi, hb, hk⟩; refine ⟨_, rfl, ?_⟩; replace HO_7 := am (Kd.V_mono (Kd.V_keep (Kd.V_mono (ok := fun k_ => ((((w0.heap.size ≤ k_)) ∧ (k_ ≠ gb355 ∧ (k_ ≠ gb366 ∧ k_ ≠ g))) ∧ some k_ ≠ (v386 : Value).ownBlock)) HO_7.out (fun k_ hk_ => (⟨hk_, hk_.1.2.2.2⟩ : _ ∧ k_ ≠ g))) hk (fun _ h => h.2)) (fun _ h => h.1)); replace BK355 := am (KeepBut.blk hk BK355.out NB355_0.out (by simp)); replace BK366 := am (KeepBut.blk hk BK366.out NB366_0.out (by simp)); replace HO387 := am (Kd.V_keep (ok := fun k_ => (w0.heap.size ≤ k_) ∧ k_ ≠ g) HO387.out hk (fun _ h => h.2)); replace HK := am (KeepBut.trans HK.out hk (.inl rfl)); replace HB := am (hb); replace HI0 := am (hi); (try clear hb); (try clear hk); (try clear hi); obtain ⟨Ao75, co75, eo75⟩ := Kd.V_slice HO387.out; subst eo75; have p391 : 0 ≤ (t388 : Int) := of_decide_eq_true (by with_reducible assumption); have q391 : t388 < (y385.length : Int) := of_decide_eq_true (by with_reducible assumption); obtain ⟨ad391, e391, hx391_0⟩ := Kd.at_int (Kd.V_reads' HO387.out).2.2 t388 p391 q391; cases e391; replace p391 := eq_true p391; replace q391 := eq_true q391; have hnb76 := NB366_355.out; have hnc76 := NB355_366.out; have hnb77 := NB366_0.out; have hnc77 := NB0_366.out; have hcz78_0 := cz0_ BK366; have hcz78_1 := cz1_ BK366; have hfz78_0 := blk_frozen BK366.out 0; have hfz78_1 := blk_frozen BK366.out 1) | ((with_reducible refine gate_callee (f := 37) rfl ?_); refine gl_ 83 Try.func37 #[.agg #[.string t356, .string t357], .int .i64 x12_3, .int .i64 x13_3, .int .u8 (rd y385 t388)] ?_; (with_reducible refine (spec_owStep.calls k3 t356 t357 x12_3 x13_3 (rd y385 t388) t392 t393 false _ A61.out).mono ?_); rintro e w79 ⟨rfl, hb⟩; refine ⟨_, rfl, ?_⟩; replace HO_7 := am (Kd.V_below HO_7.out hb); replace HO387 := am (Kd.V_below HO387.out hb); replace BK355 := am (blk_below (g := gb355) (o := .cells #[.string (⟨#[]⟩ : ByteArray), .string (⟨#[]⟩ : ByteArray)] 25 (0, 0)) BK355.out hb); replace BK366 := am (blk_below (g := gb366) (o := .cells #[.string t356, .string t357] 25 (0, 0)) BK366.out hb); replace HI0 := am (IsS71.below HI0.out hb); replace HK := am (KeepBut.trans HK.out (KeepBut.of_below hb g none) (.inl rfl)); replace HB := am (below_step HB.out hb); (try clear hb)))
               go_roundg k3
               case measure => have := HJ3.out; have := HJ22.out; have := HK3.out; omega
               case rel => exact ⟨(x11_3), (x12_3), (x13_3), (wrap64 (x14_3 - 1)), (t389), (t390), (by rfl), (by rfl), (by rfl), (by rfl), H', ⟨by have := HJ3.out; have := HJ22.out; have := HK3.out; omega⟩, ⟨by (with_reducible skip); exact Kd.V_mono HO_7.out (fun _ hk => ⟨hk.1.1, ⟨hk.1.2.1, ⟨hk.1.2.2.1, hk.1.2.2.2⟩⟩⟩)⟩, ⟨by (with_reducible skip); exact BK355.out⟩, ⟨by (with_reducible skip); exact BK366.out⟩, ⟨by exact HI0.out⟩, ⟨by exact HK.out⟩, ⟨by exact HB.out⟩⟩
             ·rw [if_neg c60] at H
              exact absurd H (by simp)
            ·rw [if_neg c59] at H
             exact absurd H (by simp)
           ·rw [if_neg c57] at H
            have c57b0 : decide (0 < x14_3) = false := decide_eq_false c57
            clear c57
            simp only [Option.some.injEq, Prod.mk.injEq] at H
            obtain ⟨rfl, rfl, rfl, rfl, rfl, rfl⟩ := H
            have hnb80 := NB366_355.out
            have hnc80 := NB355_366.out
            have hnb81 := NB366_0.out
            have hnc81 := NB0_366.out
            have hcz82_0 := cz0_ BK366
            have hcz82_1 := cz1_ BK366
            have hfz82_0 := blk_frozen BK366.out 0
            have hfz82_1 := blk_frozen BK366.out 1
            have hnb83 := NB355_0.out
            have hnc83 := NB0_355.out
            have hcz84_0 := cz0_ BK355
            have hcz84_1 := cz1_ BK355
            have hfz84_0 := blk_frozen BK355.out 0
            have hfz84_1 := blk_frozen BK355.out 1
            go_wp2
            refine bodyPost_ret (results_ctt rfl _ _ gb355 25 #[.string t356, .string t357] (0, 0) _ rfl (by (with_reducible skip); refine blk_put (cs := #[.string t356, .string (⟨#[]⟩ : ByteArray)]) ?_ 1 _ rfl; (with_reducible skip); refine blk_put (cs := #[.string (⟨#[]⟩ : ByteArray), .string (⟨#[]⟩ : ByteArray)]) ?_ 0 _ rfl; (with_reducible skip); exact BK355.out) Try.underlying25 rfl (by kernel_rfl)) rfl ?_
            exact HQ_.out _ _ ⟨_, by rfl, by (with_reducible skip); exact Kd.V_mono (Kd.V_far (p := ⟨gb355, 1, none⟩) (Kd.V_far (p := ⟨gb355, 0, none⟩) (Kd.V_mono HO_7.out (fun k_ hk => (⟨hk, hk.2.1⟩ : _ ∧ k_ ≠ gb355))) (fun _ hk => hk.2) (.string t356)) (fun _ hk => hk.2) (.string t357)) (fun _ hk => hk.1.1), by repeat (with_reducible first | exact HI0.out | refine IsS71.far ?_ NB0_355.out _), by repeat (with_reducible first | exact HB.out | refine below_set ?_ GE355.out), by repeat (with_reducible first | exact HK.out | refine keep_far ?_ GW355.out _)⟩
        ·rw [if_neg c53] at H
         exact absurd H (by simp)
       ·rw [if_neg c52] at H
        exact absurd H (by simp)
end Go.Proofs.Ytdhdkkhbgfcoiaa.MX
