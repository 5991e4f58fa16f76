-- The machine side, written by this repo's program mp.py; contracts marked as of this repo are this session's own.
import Derived.Test.YtdhdkkhbgfcoiaaMXx0
import Derived.Test.YtdhdkkhbgfcoiaaMXx3
import Derived.Test.YtdhdkkhbgfcoiaaMXx4
import Derived.Test.YtdhdkkhbgfcoiaaMXx5
import Derived.Test.YtdhdkkhbgfcoiaaMXx7
import Derived.Test.YtdhdkkhbgfcoiaaMXx10
namespace Go.Proofs.Ytdhdkkhbgfcoiaa.MX
open Go.RowKit Go.Proofs.YtdhdkkhbgfcoiaaW.PrintWords Go.Proofs.YtdhdkkhbgfcoiaaW.PrintLast Go.Proofs.YtdhdkkhbgfcoiaaW.PrintMore
attribute [local go_sem] max2_int min2_int max_two min_two max_three min_three max_four min_four   -- for this text's walks alone
set_option maxHeartbeats 8000000
set_option maxRecDepth 100000
set_option linter.unusedVariables false
set_option linter.unusedSimpArgs false
def spec_ThereAndBack.j0 : Nat → List Int → List Int → Bool → ByteArray → ByteArray → Option (Int × Bool)
 | 0, _, _, _, _, _ => none
 | k + 1, x1, x2, x26, x311000, x311001 => if x26 = true then (some (0, false)) else ((spec_owDistance.f k x311000 x311001 x1 x2).bind fun t314 => ((spec_owDistance.f k x311000 x311001 x2 x1).bind fun t315 => (some (wrap64 (t314 + t315), true))))
def spec_ThereAndBack.f (k : Nat) (a0_0 : ByteArray) (a0_1 : ByteArray) (l1 : List Int) (l2 : List Int) : Option (Int × Bool) := (spec_owAsked.f k a0_0 a0_1 l1 l2).bind fun t311 => (if t311 = true then ((spec_owDistance.f k a0_0 a0_1 l1 l2).bind fun t312 => (if t312 < 0 then (spec_ThereAndBack.j0 k l1 l2 true a0_0 a0_1) else ((spec_owDistance.f k a0_0 a0_1 l2 l1).bind fun t313 => (spec_ThereAndBack.j0 k l1 l2 (decide (t313 < 0)) a0_0 a0_1)))) else (spec_ThereAndBack.j0 k l1 l2 true a0_0 a0_1))
def spec_ThereAndBack.T3 : Bool × List (List Nat × List Nat) := (true, [([], []), ([], []), ([], []), ([0, 1, 2], [0, 1, 2]), ([], []), ([], []), ([], []), ([4, 5, 6, 3], [4, 5, 6]), ([3, 7], [3, 7]), ([8, 7, 0, 1, 2, 3, 4, 5, 6, 7, 8], [8]), ([9, 0, 1, 2, 3, 4, 5, 6, 7, 8, 9], [])])
def spec_ThereAndBack.B3 : List Nat := [0, 0, 0, 7, 0, 0, 0, 127, 255, 511, 1023]
theorem spec_ThereAndBack.tab3 : rtab .any (opsOf Try.f15 3) = spec_ThereAndBack.T3 := by kernel_rfl
theorem spec_ThereAndBack.bits3 : waitsOk spec_ThereAndBack.T3.2 spec_ThereAndBack.B3 = true := by kernel_rfl
theorem spec_ThereAndBack.calls (k : Nat) (a0_0 : ByteArray) (a0_1 : ByteArray) (A1 : Option Addr) (c1 : Nat) (l1 : List Int) (A2 : Option Addr) (c2 : Nat) (l2 : List Int) (r1 : Int) (r2 : Bool) (w : World) (hr1 : Kd.C (Kd.int .i64) w A1 l1.length l1) (hc1 : l1.length ≤ c1) (hr2 : Kd.C (Kd.int .i64) w A2 l2.length l2) (hc2 : l2.length ≤ c2) (h : spec_ThereAndBack.f k a0_0 a0_1 l1 l2 = some (r1, r2)) :
  Calls Try.prog 15 #[.agg #[.string a0_0, .string a0_1], .slice A1 l1.length c1, .slice A2 l2.length c2] w fun e w' => e = .returned (.tuple #[.int .i64 r1, .bool r2]) ∧ Below w.heap.size w w' := by
 have hu25 := Try.underlying25
 have HR1 := am hr1
 have HC1 := am hc1
 clear hr1 hc1
 have HR2 := am hr2
 have HC2 := am hc2
 clear hr2 hc2
 have HB := am (Below.refl w.heap.size w)
 unfold spec_ThereAndBack.f at h
 have H := h
 clear h
 have HC4 := am H
 clear H
 go_enter Try.func15, Try.ntmps15
 go_upto_region 1 with ((with_reducible refine gate_dst (N := 3) rfl ?_); refine bx_ 3 (#[.string a0_0, .string a0_1]) 25 ?_; intro gb310 hg w5 hbox hb; have BK310 := am (hbox); have GW310 := am ((by rw [hg]; exact (below_size HB.out) : w.heap.size ≤ gb310)); have GE310 := am ((by rw [hg]; exact (below_size HB.out) : w.heap.size ≤ gb310)); replace HB := am (below_step HB.out hb); clear hb hbox hg)
 go_cut [26] (fun v26 wc => ∃ (kq : Nat) (x26_3 : Bool), v26 = .bool x26_3 ∧ Aside0 (spec_ThereAndBack.j0 kq l1 l2 x26_3 a0_0 a0_1 = some (r1, r2)) ∧ Aside0 (kq ≤ k) ∧ Aside0 (wc.heap[gb310]? = some (.cells #[.string a0_0, .string a0_1] 25 (0, 0))) ∧ Aside0 (Below w.heap.size w wc))
 case first =>
  have H := HC4.out
  clear HC4
  obtain ⟨t311, A6, H⟩ := bnd_ H
  try dsimp only at H
  by_cases c7 : t311 = true
  ·subst c7
   rw [if_pos rfl] at H
   obtain ⟨t312, A8, H⟩ := bnd_ H
   try dsimp only at H
   by_cases c9 : t312 < 0
   ·rw [if_pos c9] at H
    have c9b0 : decide (t312 < 0) = true := decide_eq_true c9
    clear c9
    (skip)
    have H' := am H
    clear H
    have hcz10_0 := cz0_ BK310
    have hcz10_1 := cz1_ BK310
    have hfz10_0 := blk_frozen BK310.out 0
    have hfz10_1 := blk_frozen BK310.out 1
    go_wp2_with (first | ((with_reducible refine gate_callee (f := 33) rfl ?_); refine gl_ 11 Try.func33 #[.agg #[.string a0_0, .string a0_1], .slice A1 l1.length c1, .slice A2 l2.length c2] ?_; (with_reducible refine (spec_owAsked.calls k a0_0 a0_1 _ _ l1 _ _ l2 true _ ((Kd.C_below HR1.out HB.out)) ?side2 ?side3 ?side4 A6.out).mono ?_); (case side2 => exact HC1.out); (case side3 => repeat (exact (Kd.C_below HR2.out HB.out))); (case side4 => exact HC2.out); rintro e w11 ⟨rfl, hb⟩; refine ⟨_, rfl, ?_⟩; replace BK310 := am (blk_below BK310.out hb); replace HB := am (below_step HB.out hb); (try clear hb); have hcz12_0 := cz0_ BK310; have hcz12_1 := cz1_ BK310; have hfz12_0 := blk_frozen BK310.out 0; have hfz12_1 := blk_frozen BK310.out 1) | (go_at_call 34; (with_reducible refine (spec_owDistance.calls k a0_0 a0_1 _ _ l1 _ _ l2 t312 _ ((Kd.C_below HR1.out HB.out)) ?side2 ?side3 ?side4 A8.out).mono ?_); (case side2 => exact HC1.out); (case side3 => repeat (exact (Kd.C_below HR2.out HB.out))); (case side4 => exact HC2.out); rintro e w13 ⟨rfl, hb⟩; replace BK310 := am (blk_below BK310.out hb); replace HB := am (below_step HB.out hb); (try clear hb)))
    go_meet
    case rel => exact ⟨_, (true), (by rfl), H', ⟨by omega⟩, ⟨by (with_reducible skip); exact BK310.out⟩, ⟨by exact HB.out⟩⟩
   ·rw [if_neg c9] at H
    have c9b0 : decide (t312 < 0) = false := decide_eq_false c9
    clear c9
    (skip)
    obtain ⟨t313, A14, H⟩ := bnd_ H
    try dsimp only at H
    have H' := am H
    clear H
    have hcz15_0 := cz0_ BK310
    have hcz15_1 := cz1_ BK310
    have hfz15_0 := blk_frozen BK310.out 0
    have hfz15_1 := blk_frozen BK310.out 1
    go_wp2_with (first | ((with_reducible refine gate_callee (f := 33) rfl ?_); refine gl_ 11 Try.func33 #[.agg #[.string a0_0, .string a0_1], .slice A1 l1.length c1, .slice A2 l2.length c2] ?_; (with_reducible refine (spec_owAsked.calls k a0_0 a0_1 _ _ l1 _ _ l2 true _ ((Kd.C_below HR1.out HB.out)) ?side2 ?side3 ?side4 A6.out).mono ?_); (case side2 => exact HC1.out); (case side3 => repeat (exact (Kd.C_below HR2.out HB.out))); (case side4 => exact HC2.out); rintro e w16 ⟨rfl, hb⟩; refine ⟨_, rfl, ?_⟩; replace BK310 := am (blk_below BK310.out hb); replace HB := am (below_step HB.out hb); (try clear hb); have hcz17_0 := cz0_ BK310; have hcz17_1 := cz1_ BK310; have hfz17_0 := blk_frozen BK310.out 0; have hfz17_1 := blk_frozen BK310.out 1) | (go_at_call 34; (with_reducible refine (spec_owDistance.calls k a0_0 a0_1 _ _ l1 _ _ l2 t312 _ ((Kd.C_below HR1.out HB.out)) ?side2 ?side3 ?side4 A8.out).mono ?_); (case side2 => exact HC1.out); (case side3 => repeat (exact (Kd.C_below HR2.out HB.out))); (case side4 => exact HC2.out); rintro e w18 ⟨rfl, hb⟩; replace BK310 := am (blk_below BK310.out hb); replace HB := am (below_step HB.out hb); (try clear hb); have hcz19_0 := cz0_ BK310; have hcz19_1 := cz1_ BK310; have hfz19_0 := blk_frozen BK310.out 0; have hfz19_1 := blk_frozen BK310.out 1) | (go_at_call 34; (with_reducible refine (spec_owDistance.calls k a0_0 a0_1 _ _ l2 _ _ l1 t313 _ ((Kd.C_below HR2.out HB.out)) ?side2 ?side3 ?side4 A14.out).mono ?_); (case side2 => exact HC2.out); (case side3 => repeat (exact (Kd.C_below HR1.out HB.out))); (case side4 => exact HC1.out); rintro e w20 ⟨rfl, hb⟩; replace BK310 := am (blk_below BK310.out hb); replace HB := am (below_step HB.out hb); (try clear hb)))
    go_meet
    case rel => exact ⟨_, (decide (t313 < 0)), (by rfl), H', ⟨by omega⟩, ⟨by (with_reducible skip); exact BK310.out⟩, ⟨by exact HB.out⟩⟩
  ·replace c7 := Bool.eq_false_iff.mpr c7
   subst c7
   rw [if_neg (show ¬ (false = true) by decide)] at H
   have H' := am H
   clear H
   have hcz21_0 := cz0_ BK310
   have hcz21_1 := cz1_ BK310
   have hfz21_0 := blk_frozen BK310.out 0
   have hfz21_1 := blk_frozen BK310.out 1
   go_wp2_with ((with_reducible refine gate_callee (f := 33) rfl ?_); refine gl_ 11 Try.func33 #[.agg #[.string a0_0, .string a0_1], .slice A1 l1.length c1, .slice A2 l2.length c2] ?_; (with_reducible refine (spec_owAsked.calls k a0_0 a0_1 _ _ l1 _ _ l2 false _ ((Kd.C_below HR1.out HB.out)) ?side2 ?side3 ?side4 A6.out).mono ?_); (case side2 => exact HC1.out); (case side3 => repeat (exact (Kd.C_below HR2.out HB.out))); (case side4 => exact HC2.out); rintro e w22 ⟨rfl, hb⟩; refine ⟨_, rfl, ?_⟩; replace BK310 := am (blk_below BK310.out hb); replace HB := am (below_step HB.out hb); (try clear hb))
   go_meet
   case rel => exact ⟨_, (true), (by rfl), H', ⟨by omega⟩, ⟨by (with_reducible skip); exact BK310.out⟩, ⟨by exact HB.out⟩⟩
 case rest =>
  clear HC4
  obtain ⟨kq, x26_3, rfl, HA, HJ3, BK310, HB⟩ := hcut
  cases kq with
  | zero => exact absurd HA.out (by simp [spec_ThereAndBack.j0])
  | succ kj3 =>
   have H := HA.out
   clear HA
   simp only [spec_ThereAndBack.j0] at H
   by_cases c23 : x26_3 = true
   ·subst c23
    rw [if_pos rfl] at H
    simp only [Option.some.injEq, Prod.mk.injEq] at H
    obtain ⟨rfl, rfl⟩ := H
    go_wp2
    go_ret2
    exact ⟨by rfl, by exact HB.out⟩
   ·replace c23 := Bool.eq_false_iff.mpr c23
    subst c23
    rw [if_neg (show ¬ (false = true) by decide)] at H
    obtain ⟨t314, A24, H⟩ := bnd_ H
    try dsimp only at H
    obtain ⟨t315, A25, H⟩ := bnd_ H
    try dsimp only at H
    simp only [Option.some.injEq, Prod.mk.injEq] at H
    obtain ⟨rfl, rfl⟩ := H
    try go_wp2
    replace BK310 := am (blk_drew BK310.out)
    replace HB := am (below_drew1 HB.out)
    refine start_ (n := 11) (S := fun w' => w'.cell? ⟨gb310, 0, none⟩ = some (.string a0_0) ∧ w'.cell? ⟨gb310, 1, none⟩ = some (.string a0_1)) (ds := []) #[false, false, false, false, false, false, false, false, false, false, false] (by kernel_rfl) rfl rfl ⟨(blk_cell BK310.out 0).trans rfl, (blk_cell BK310.out 1).trans rfl⟩ (fun hHeld => ?_); refine with_tabW spec_ThereAndBack.tab3 spec_ThereAndBack.bits3 (fun HT_ HW_ => ?_)
    generalize wc.drew = w26 at BK310 HB hHeld ⊢
    refine pu_ 1 28 (fl_ 11 2) HT_ ?_
    refine pu_ 2 29 (fl_ 11 6) HT_ ?_
    refine pu_ 5 32 (fl_ 11 38) HT_ ?_
    refine pu_ 6 33 (fl_ 11 102) HT_ ?_
    refine tk_ 0 27 (fl_ 11 103) HT_ HW_ hHeld ?_ (hy := by rintro w' ⟨s0, s1⟩; go_simp; with_reducible rfl)
    refine tk_ 4 31 (fl_ 11 119) HT_ HW_ hHeld ?_ (hy := by rintro w' ⟨s0, s1⟩; go_simp; with_reducible rfl)
    refine on_ 3 30 (fl_ 11 127) HT_ fun K hK => ?_
    refine gs_ Try.func34 #[.agg #[.string a0_0, .string a0_1], .slice A1 l1.length c1, .slice A2 l2.length c2] ?_
    with_reducible refine (spec_owDistance.calls kj3 a0_0 a0_1 _ _ l1 _ _ l2 t314 _ ?side1 ?side2 ?side3 ?side4 A24.out).mono ?_
    (case side1 => repeat (exact (Kd.C_below HR1.out HB.out)))
    (case side2 => exact HC1.out)
    (case side3 => repeat (exact (Kd.C_below HR2.out HB.out)))
    (case side4 => exact HC2.out)
    rintro e w27 ⟨rfl, hb⟩
    refine ⟨_, rfl, ?_⟩
    replace BK310 := am (blk_below BK310.out hb)
    replace HB := am (below_step HB.out hb)
    (try clear hb)
    refine hK.out _ _ ⟨(blk_cell BK310.out 0).trans rfl, (blk_cell BK310.out 1).trans rfl⟩ (fun hHeld => ?_)
    clear hK K
    refine nm_ 30 ?_
    refine on_ 7 34 (fl_ 11 255) HT_ fun K hK => ?_
    refine gs_ Try.func34 #[.agg #[.string a0_0, .string a0_1], .slice A2 l2.length c2, .slice A1 l1.length c1] ?_
    with_reducible refine (spec_owDistance.calls kj3 a0_0 a0_1 _ _ l2 _ _ l1 t315 _ ?side1 ?side2 ?side3 ?side4 A25.out).mono ?_
    (case side1 => repeat (exact (Kd.C_below HR2.out HB.out)))
    (case side2 => exact HC2.out)
    (case side3 => repeat (exact (Kd.C_below HR1.out HB.out)))
    (case side4 => exact HC1.out)
    rintro e w28 ⟨rfl, hb⟩
    refine ⟨_, rfl, ?_⟩
    replace BK310 := am (blk_below BK310.out hb)
    replace HB := am (below_step HB.out hb)
    (try clear hb)
    refine hK.out _ _ ⟨(blk_cell BK310.out 0).trans rfl, (blk_cell BK310.out 1).trans rfl⟩ (fun hHeld => ?_)
    clear hK K
    refine nm_ 34 ?_
    refine pu_ 8 35 (fl_ 11 511) HT_ ?_
    refine pu_ 9 6 (fl_ 11 1023) HT_ ?_
    refine pu_ 10 7 (fl_ 11 2047) HT_ ?_
    refine done_ (done_of HT_.out (by kernel_rfl)) ?_
    try go_wp2
    go_ret2
    exact ⟨by rfl, by exact HB.out⟩
def impl_DriveWord.idx (b : Int) : Int := if b = 101 then 0 else if b = 110 then 1 else if b = 115 then 2 else if b = 119 then 3 else -1
def impl_DriveWord.path (s t word : ByteArray) : Nat → Nat → Int → Int → Option (Int × Int)
 | 0, _, x, y => some (x, y)
 | d + 1, i, x, y => if 0 ≤ impl_DriveWord.idx (bt word i) then (if impl_driveIn.can s t x y (impl_DriveWord.idx (bt word i)).toNat = true then impl_DriveWord.path s t word d (i + 1) (x + impl_driveIn.dx (impl_DriveWord.idx (bt word i)).toNat) (y + impl_driveIn.dy (impl_DriveWord.idx (bt word i)).toNat) else none) else none
def impl_DriveWord.tell : Option (Int × Int) → List Int × Bool
 | some (x, y) => ([x, y], true)
 | none => ([], false)
def impl_DriveWord.f (k : Nat) (a0_0 a0_1 : ByteArray) (l1 : List Int) (a2 : ByteArray) : Option (List Int × Bool) :=
 (impl_areDriven.f k a0_0 a0_1 [l1]).bind fun t => if t = true then (if a2.size ≤ 100 then (if l1.length = 2 ∧ impl_driveIn.Sized a0_0 a0_1 ∧ impl_driveIn.At a0_0 a0_1 (rd l1 0) (rd l1 1) then some (impl_DriveWord.tell (impl_DriveWord.path a0_0 a0_1 a2 a2.size 0 (rd l1 0) (rd l1 1))) else none) else some ([], false)) else some ([], false)
theorem impl_DriveWord.idx_range (b : Int) : -1 ≤ impl_DriveWord.idx b ∧ impl_DriveWord.idx b ≤ 3 := by unfold impl_DriveWord.idx; omega
theorem impl_DriveWord.index_sign (b : UInt8) : Go.Lib.indexByte [101, 110, 115, 119] b = impl_DriveWord.idx (b.toNat : Int) := by
 have key : ∀ n : Fin 256, Go.Lib.indexByte [101, 110, 115, 119] (UInt8.ofNat n.val) = impl_DriveWord.idx (n.val : Int) := by decide +kernel
 have h := key ⟨b.toNat, UInt8.toNat_lt b⟩
 simpa using h
theorem impl_DriveWord.can_at {s t : ByteArray} {x y : Int} {n : Nat} (h : impl_driveIn.can s t x y n = true) : impl_driveIn.At s t (x + impl_driveIn.dx n) (y + impl_driveIn.dy n) := by
 unfold impl_driveIn.can at h
 simp only [Bool.and_eq_true, decide_eq_true_eq] at h
 exact ⟨⟨h.1.1.1, by omega⟩, h.1.2.1, by omega⟩
theorem impl_DriveWord.clone (A : Option Addr) (c : Nat) (l : List Int) (hl : l.length = 2) (w : World) (hr : Kd.C (Kd.int .i64) w A l.length l) :
  Calls Try.prog 64 #[.slice A l.length c] w fun e w' => ∃ v : Value, e = .returned v ∧ Kd.R (Kd.int .i64) 3 w' w.heap.size (fun _ => True) v l ∧ Below w.heap.size w w' := by
 obtain ⟨ad, hA, hx0⟩ := Kd.at_int hr 0 (by omega) (by omega)
 obtain ⟨ad1, hA1, hx1⟩ := Kd.at_int hr 1 (by omega) (by omega)
 subst hA
 obtain rfl : ad = ad1 := by injection hA1
 rw [show (0 : Int).toNat = 0 from rfl, Addr.add_zero'] at hx0
 rw [show (1 : Int).toNat = 1 from rfl] at hx1
 obtain ⟨b, o, sp⟩ := ad
 have hsp : sp = none := by
  cases sp with
  | none => rfl
  | some z => simp only [World.cell?] at hx0; split at hx0 <;> simp at hx0
 subst hsp
 refine (Try.slices_Clone_int b o l.length c l w (Nat.le_refl _) (by omega) (fun j hj => ?_)).mono ?_
 ·have cj : j = 0 ∨ j = 1 := by omega
  rcases cj with rfl | rfl
  ·simpa [rd] using hx0
  ·simpa [rd, Addr.add] using hx1
 ·rintro e w' ⟨v, rfl, ho, -, hb⟩
  refine ⟨v, rfl, ?_, hb⟩
  rw [List.take_length] at ho
  exact Kd.R_of_own ho (fun _ _ => trivial)
theorem impl_DriveWord.walked (s t : ByteArray) (hS : impl_driveIn.Sized s t) (p : Nat) (A : Option Addr) (c : Nat) (l : List Int) (hl : l.length = 2) (word : ByteArray) (hw : word.size ≤ 100) (w : World) (hr : Kd.C (Kd.int .i64) w A l.length l) (hA : impl_driveIn.At s t (rd l 0) (rd l 1)) (hp : w.heap[p]? = some (.cells #[.string s, .string t] 25 (0, 0))) (o : Option (Int × Int)) (h : impl_DriveWord.path s t word word.size 0 (rd l 0) (rd l 1) = o) :
  Calls Try.prog 41 #[.slice A l.length c, .string word, .func (.func 60) #[] #[.pointer (some ⟨p, 0, none⟩)]] w fun e w' => ∃ v0 : Value, e = .returned (.tuple #[v0, .bool (impl_DriveWord.tell o).2]) ∧ Kd.R (Kd.int .i64) 3 w' w.heap.size (fun _ => True) v0 (impl_DriveWord.tell o).1 ∧ Below w.heap.size w w' := by
 have HPL := am (Array.getElem?_eq_some_iff.1 hp).1
 have HP := am hp
 have HR := am hr
 have HL := am hl
 have H := am h
 have HA := am hA
 have HS := am hS
 clear hp hr hl h hA hS
 go_enter Try.func41, Try.ntmps41
 go_wp2_with (go_at_call 64; refine (impl_DriveWord.clone A c l HL.out w HR.out).mono ?_; rintro e w1 ⟨v0, rfl, hR, hb⟩)
 have HO := am (show Kd.R (Kd.int .i64) 3 w1 w.heap.size (fun _ => True) v0 [rd l 0, rd l 1] by
  have e : l = [rd l 0, rd l 1] := by
   match l, HL.out with
   | [x, y], _ => rfl
  rw [← e]; exact hR)
 have HB := am hb
 clear hR hb
 go_loopw [0, 14] (fun a i wr => ∃ (j : Nat) (x y : Int), j ≤ word.size ∧ i = .int .i64 j ∧ Aside0 (impl_driveIn.At s t x y) ∧ Aside0 (impl_DriveWord.path s t word (word.size - j) j x y = o) ∧ Aside0 (Kd.R (Kd.int .i64) 3 wr w.heap.size (fun _ => True) a [x, y]) ∧ Aside0 (Below w.heap.size w wr)) (fun _ i _ => word.size - (intOf i).toNat)
 case atStart => exact ⟨0, rd l 0, rd l 1, Nat.zero_le _, rfl, HA, H, HO, HB⟩
 case round =>
  clear HA H HO HB HR HL
  obtain ⟨j, x, y, hj, rfl, HA, H, HO, HB⟩ := hrel
  obtain ⟨A2, c2, e2⟩ := Kd.R_slice HO.out
  rw [show ([x, y] : List Int).length = 2 from rfl] at e2
  subst e2
  by_cases hlt : j < word.size
  ·have hH := H.out
   rw [show word.size - j = (word.size - (j + 1)) + 1 by omega] at hH
   simp only [impl_DriveWord.path] at hH
   have hbt : bt word (j : Int) = ((word[j].toNat : Nat) : Int) := impl_driveIn.bt_k word j hlt
   rw [hbt] at hH
   have hI : strings_IndexByte.f ⟨#[101, 110, 115, 119]⟩ ((word[j].toNat : Nat) : Int) = some (impl_DriveWord.idx ((word[j].toNat : Nat) : Int)) := by
    show some (Go.Lib.indexByte [101, 110, 115, 119] ((((word[j].toNat : Nat) : Int)).toNat.toUInt8)) = _
    rw [show (((word[j].toNat : Nat) : Int)).toNat.toUInt8 = word[j] by simp, impl_DriveWord.index_sign]
   have hr3 := impl_DriveWord.idx_range ((word[j].toNat : Nat) : Int)
   generalize impl_DriveWord.idx ((word[j].toNat : Nat) : Int) = q at hH hI hr3
   have HI := am hI
   clear hI hbt H
   by_cases q0 : 0 ≤ q
   ·obtain ⟨n, rfl⟩ := Int.eq_ofNat_of_zero_le q0
    rw [if_pos q0, Int.toNat_natCast] at hH
    have qb : decide ((n : Int) < 0) = false := decide_eq_false (by omega)
    have n3 : n ≤ 3 := by omega
    clear q0 hr3
    have HK := fun (wx : World) (hx : Below w.heap.size w wx) (hC : Kd.C (Kd.int .i64) wx A2 2 [x, y]) (h2 : 2 ≤ c2) => impl_driveIn.clo s t HS.out p A2 c2 x y n n3 wx hC h2 HA.out ((hx.block p HPL.out).trans HP.out)
    have hC2 := (Kd.R_reads' HO.out).2.2
    have hl2 := (Kd.R_reads' HO.out).2.1
    cases hcan : impl_driveIn.can s t x y n with
    | false =>
     rw [hcan, if_neg (by simp)] at hH
     subst hH
     rw [hcan] at HK
     go_wp2_with (first | (go_at_call 42; refine (strings_IndexByte.calls _ _ (n : Int) _ HI.out).mono ?_; rintro e w' ⟨rfl, ⟨nd, rfl⟩⟩) | (go_at_call 60; refine (HK _ (pw_below_drewN HB.out nd) (Kd.C_drewN hC2 nd) hl2).mono ?_; rintro e w2 ⟨rfl, hb2⟩))
     go_ret2
     exact ⟨_, rfl, Kd.R_nil _ _ _ _ _, below_then (pw_below_drewN HB.out nd) (pw_below_drewN HB.out nd).size hb2⟩
    | true =>
     rw [hcan, if_pos rfl] at hH
     rw [hcan] at HK
     have HM := am (impl_driveIn.moved x y n n3 (by have := HA.out.1; have := HS.out.1; omega) (by have := HA.out.2; have := HS.out.2; omega))
     have HA2 := am (impl_DriveWord.can_at hcan)
     have HH := am hH
     clear hH
     go_wp2_with (first | (go_at_call 42; refine (strings_IndexByte.calls _ _ (n : Int) _ HI.out).mono ?_; rintro e w' ⟨rfl, ⟨nd, rfl⟩⟩) | (go_at_call 60; refine (HK _ (pw_below_drewN HB.out nd) (Kd.C_drewN hC2 nd) hl2).mono ?_; rintro e w2 ⟨rfl, hb2⟩; have HB2 := am (below_then (pw_below_drewN HB.out nd) (pw_below_drewN HB.out nd).size hb2); have HC2 := am (Kd.C_below (Kd.C_drewN hC2 nd) hb2)) | (go_at_call 59; refine (impl_moved.calls _ _ [x, y] (n : Int) _ _ HC2.out hl2 HM.out).mono ?_; rintro e w3 ⟨v3, rfl, hR3, hb3⟩))
     go_roundw
     case rel => exact ⟨j + 1, x + impl_driveIn.dx n, y + impl_driveIn.dy n, by omega, by go_num, HA2, HH, ⟨Kd.R_lower hR3 HB2.out.size⟩, ⟨below_then HB2.out HB2.out.size hb3⟩⟩
     case measure => simp [intOf]; omega
   ·rw [if_neg q0] at hH
    subst hH
    have qb : decide (q < 0) = true := decide_eq_true (by omega)
    clear q0 hr3
    go_wp2_with (go_at_call 42; refine (strings_IndexByte.calls _ _ q _ HI.out).mono ?_; rintro e w' ⟨rfl, ⟨nd, rfl⟩⟩)
    go_ret2
    exact ⟨_, rfl, Kd.R_nil _ _ _ _ _, pw_below_drewN HB.out nd⟩
  ·obtain rfl : j = word.size := by omega
   have hH := H.out
   rw [Nat.sub_self] at hH
   simp only [impl_DriveWord.path] at hH
   subst hH
   clear H hlt
   go_wp2
   go_ret2
   exact ⟨_, rfl, HO.out, HB.out⟩
theorem impl_DriveWord.calls (k : Nat) (a0_0 a0_1 : ByteArray) (A1 : Option Addr) (c1 : Nat) (l1 : List Int) (a2 : ByteArray) (r1 : List Int) (r2 : Bool) (w : World) (hr1 : Kd.C (Kd.int .i64) w A1 l1.length l1) (hc1 : l1.length ≤ c1) (h : impl_DriveWord.f k a0_0 a0_1 l1 a2 = some (r1, r2)) :
  Calls Try.prog 16 #[.agg #[.string a0_0, .string a0_1], .slice A1 l1.length c1, .string a2] w fun e w' => ∃ v0_ : Value, e = .returned (.tuple #[v0_, .bool r2]) ∧ Kd.R (Kd.int .i64) 3 w' w.heap.size (fun _ => True) v0_ r1 ∧ Below w.heap.size w w' := by
 unfold impl_DriveWord.f at h
 obtain ⟨t, ht, h⟩ := Option.bind_eq_some_iff.1 h
 have HT := am ht
 clear ht
 have hp0 : (w.alloc (.cells #[.string a0_0, .string a0_1] 25)).cell? ⟨w.heap.size, 0, none⟩ = some (.string a0_0) := by
  rw [World.cell?_alloc_at _ _ _ _ rfl]; rfl
 have hp1 : (w.alloc (.cells #[.string a0_0, .string a0_1] 25)).cell? ⟨w.heap.size, 1, none⟩ = some (.string a0_1) := by
  rw [World.cell?_alloc_at _ _ _ _ rfl]; rfl
 have hq0 : ((w.alloc (.cells #[.string a0_0, .string a0_1] 25)).alloc (.cells #[.slice A1 l1.length c1] 26)).cell? ⟨w.heap.size, 0, none⟩ = some (.string a0_0) := by
  rw [World.cell?_alloc_past _ _ _ (by simp)]; exact hp0
 have hq1 : ((w.alloc (.cells #[.string a0_0, .string a0_1] 25)).alloc (.cells #[.slice A1 l1.length c1] 26)).cell? ⟨w.heap.size, 1, none⟩ = some (.string a0_1) := by
  rw [World.cell?_alloc_past _ _ _ (by simp)]; exact hp1
 have hq2 : ((w.alloc (.cells #[.string a0_0, .string a0_1] 25)).alloc (.cells #[.slice A1 l1.length c1] 26)).cell? ⟨w.heap.size + 1, 0, none⟩ = some (.slice A1 l1.length c1) := by
  rw [World.cell?_alloc_at _ _ _ _ (by simp)]; rfl
 have HR := am (Kd.C_alloc (Kd.C_alloc hr1 (.cells #[.string a0_0, .string a0_1] 25)) (.cells #[.slice A1 l1.length c1] 26))
 have HL := am (impl_areDriven.lit1 hq2 hc1 HR.out)
 have HB := am (below_alloc (below_alloc (Below.refl w.heap.size w) (.cells #[.string a0_0, .string a0_1] 25)) (.cells #[.slice A1 l1.length c1] 26))
 clear hr1 hq2
 cases t with
 | false =>
  rw [if_neg (by simp)] at h
  simp only [Option.some.injEq, Prod.mk.injEq] at h
  obtain ⟨rfl, rfl⟩ := h
  go_enter Try.func16, Try.ntmps16
  go_wp2_with (go_at_call 29; refine (impl_areDriven.calls k a0_0 a0_1 _ 1 [l1] false _ HL.out (by simp) HT.out).mono ?_; rintro e w1 ⟨rfl, hb1⟩; have hs0 := (hb1.cell (World.block_lt_of_cell? _ _ hq0)).trans hq0; have hs1 := (hb1.cell (World.block_lt_of_cell? _ _ hq1)).trans hq1; have HB1 := am (below_then HB.out HB.out.size hb1); have HR1 := am (Kd.C_below HR.out hb1); clear hb1)
  go_ret2
  exact ⟨_, rfl, Kd.R_nil _ _ _ _ _, HB1.out⟩
 | true =>
  rw [if_pos rfl] at h
  by_cases hz : a2.size ≤ 100
  case neg =>
   rw [if_neg hz] at h
   simp only [Option.some.injEq, Prod.mk.injEq] at h
   obtain ⟨rfl, rfl⟩ := h
   have hn : decide ((100 : Int) < (a2.size : Int)) = true := decide_eq_true (by omega)
   go_enter Try.func16, Try.ntmps16
   go_wp2_with (go_at_call 29; refine (impl_areDriven.calls k a0_0 a0_1 _ 1 [l1] true _ HL.out (by simp) HT.out).mono ?_; rintro e w1 ⟨rfl, hb1⟩; have hs0 := (hb1.cell (World.block_lt_of_cell? _ _ hq0)).trans hq0; have hs1 := (hb1.cell (World.block_lt_of_cell? _ _ hq1)).trans hq1; have HB1 := am (below_then HB.out HB.out.size hb1); have HR1 := am (Kd.C_below HR.out hb1); clear hb1)
   go_ret2
   exact ⟨_, rfl, Kd.R_nil _ _ _ _ _, HB1.out⟩
  rw [if_pos hz] at h
  have hn : decide ((100 : Int) < (a2.size : Int)) = false := decide_eq_false (by omega)
  by_cases hg : l1.length = 2 ∧ impl_driveIn.Sized a0_0 a0_1 ∧ impl_driveIn.At a0_0 a0_1 (rd l1 0) (rd l1 1)
  case neg => rw [if_neg hg] at h; cases h
  rw [if_pos hg] at h
  obtain ⟨o, ho⟩ : ∃ o, impl_DriveWord.path a0_0 a0_1 a2 a2.size 0 (rd l1 0) (rd l1 1) = o := ⟨_, rfl⟩
  rw [ho] at h
  have hto := Option.some.inj h
  have ho1 : (impl_DriveWord.tell o).1 = r1 := by rw [hto]
  have ho2 : (impl_DriveWord.tell o).2 = r2 := by rw [hto]
  obtain ⟨hl, hS, hA⟩ := hg
  have Hl := am hl
  have Ho := am ho
  have Hz := am hz
  clear hl ho h hto hz
  go_enter Try.func16, Try.ntmps16
  go_upto_region 3 with (go_at_call 29; refine (impl_areDriven.calls k a0_0 a0_1 _ 1 [l1] true _ HL.out (by simp) HT.out).mono ?_; rintro e w1 ⟨rfl, hb1⟩; have hs0 := (hb1.cell (World.block_lt_of_cell? _ _ hq0)).trans hq0; have hs1 := (hb1.cell (World.block_lt_of_cell? _ _ hq1)).trans hq1; have HB1 := am (below_then HB.out HB.out.size hb1); have HR1 := am (Kd.C_below HR.out hb1); clear hb1)
  have HX := am (Kd.C_alloc HR1.out (.cells #[.string a0_0, .string a0_1] 25))
  have HP := am (show (w1.alloc (.cells #[.string a0_0, .string a0_1] 25)).heap[w1.heap.size]? = some (.cells #[.string a0_0, .string a0_1] 25 (0, 0)) from heap_alloc_new _ _)
  have HBB := am (below_alloc HB1.out (.cells #[.string a0_0, .string a0_1] 25))
  go_wp2_with (first | (go_at_call 32; refine (impl_driveIn.made a0_0 a0_1 _).mono ?_; rintro e w3 ⟨rfl, rfl⟩) | (go_at_call 41; refine (impl_DriveWord.walked a0_0 a0_1 hS w1.heap.size A1 c1 l1 Hl.out a2 Hz.out _ HX.out hA HP.out o Ho.out).mono ?_; rintro e w4 ⟨v0, rfl, hR4, hb4⟩))
  go_ret2
  exact ⟨v0, by rw [← ho2]; rfl, by rw [← ho1]; exact Kd.R_lower hR4 HBB.out.size, below_then HBB.out HBB.out.size hb4⟩
def impl_TurnsOfWord.pos (x : Int) : Int := Go.Lib.indexByte [101, 110, 119, 115] x.toNat.toUInt8
def impl_TurnsOfWord.l : Nat → ByteArray → Nat → Int → Int → Int → Int → Option (Int × Int × Bool)
  | 0, _, _, _, _, _, _ => none
  | k + 1, s, i, t0, t1, t2, t3 => if i < s.size then (if impl_TurnsOfWord.pos (bt s i) < 0 then some (0, 0, false) else (if 0 < i then
      (if Int.tmod (impl_TurnsOfWord.pos (bt s i) - impl_TurnsOfWord.pos (bt s ((i : Int) - 1)) + 4) 4 = 0 then impl_TurnsOfWord.l k s (i + 1) (wrap64 (t0 + 1)) t1 t2 t3
       else if Int.tmod (impl_TurnsOfWord.pos (bt s i) - impl_TurnsOfWord.pos (bt s ((i : Int) - 1)) + 4) 4 = 1 then impl_TurnsOfWord.l k s (i + 1) t0 (wrap64 (t1 + 1)) t2 t3
       else if Int.tmod (impl_TurnsOfWord.pos (bt s i) - impl_TurnsOfWord.pos (bt s ((i : Int) - 1)) + 4) 4 = 2 then impl_TurnsOfWord.l k s (i + 1) t0 t1 (wrap64 (t2 + 1)) t3
       else if Int.tmod (impl_TurnsOfWord.pos (bt s i) - impl_TurnsOfWord.pos (bt s ((i : Int) - 1)) + 4) 4 = 3 then impl_TurnsOfWord.l k s (i + 1) t0 t1 t2 (wrap64 (t3 + 1)) else none)
      else impl_TurnsOfWord.l k s (i + 1) t0 t1 t2 t3)) else (if t2 > 0 then some (0, 0, false) else some (t1, t3, true))
def impl_TurnsOfWord.f (a0 : ByteArray) : Option (Int × Int × Bool) := if (a0.size : Int) > 100 then some (0, 0, false) else impl_TurnsOfWord.l 101 a0 0 0 0 0 0
theorem impl_TurnsOfWord.pos_range (x : Int) : -1 ≤ impl_TurnsOfWord.pos x ∧ impl_TurnsOfWord.pos x ≤ 3 := by
 unfold impl_TurnsOfWord.pos
 simp only [Go.Lib.indexByte]
 repeat' split
 all_goals simp_all
theorem impl_TurnsOfWord.pos_still (x r : Int) (h : strings_IndexByte.f ⟨#[101, 110, 119, 115]⟩ x = some r) (W : World) : Calls Try.prog 42 #[.string ⟨#[101, 110, 119, 115]⟩, .int .u8 x] W fun e w' => e = .returned (.int .i64 r) ∧ w' = W := by
 obtain rfl := Option.some.inj h
 exact Try.strings_IndexByte _ x W
theorem impl_TurnsOfWord.bt_k (s : ByteArray) (k : Nat) (h : k < s.size) : bt s (k : Int) = ((s[k].toNat : Nat) : Int) := by simp [bt, h]
theorem impl_TurnsOfWord.calls (a0 : ByteArray) (r1 : Int) (r2 : Int) (r3 : Bool) (w : World) (h : impl_TurnsOfWord.f a0 = some (r1, r2, r3)) :
  Calls Try.prog 17 #[.string a0] w fun e w' => e = .returned (.tuple #[.int .i64 r1, .int .i64 r2, .bool r3]) ∧ Below w.heap.size w w' := by
 unfold impl_TurnsOfWord.f at h
 by_cases hb : (a0.size : Int) > 100
 ·rw [if_pos hb] at h
  obtain ⟨rfl, rfl, rfl⟩ : 0 = r1 ∧ 0 = r2 ∧ false = r3 := by simpa using h
  clear h
  go_enter Try.func17, Try.ntmps17
  go_wp2
  go_ret3
  exact ⟨rfl, Below.refl _ _⟩
 ·rw [if_neg hb] at h
  have H0 := am h
  have hz : a0.size ≤ 100 := by omega
  have hd : decide ((100 : Int) < (a0.size : Int)) = false := decide_eq_false hb
  clear h hb
  go_enter Try.func17, Try.ntmps17
  go_wp2
  go_loopw [13] (fun i wr => ∃ (k : Nat) (t0 t1 t2 t3 : Int), k ≤ a0.size ∧ i = .int .i64 k ∧ Aside0 (wr.heap[w.heap.size]? = some (.cells #[.int .i64 t0, .int .i64 t1, .int .i64 t2, .int .i64 t3] 62 (0, 0))) ∧ Aside0 (Below w.heap.size w wr) ∧ Aside0 (impl_TurnsOfWord.l (101 - k) a0 k t0 t1 t2 t3 = some (r1, r2, r3)) ∧ Aside0 (0 < k → 0 ≤ impl_TurnsOfWord.pos (bt a0 ((k : Int) - 1)))) (fun i _ => a0.size - (intOf i).toNat)
  case atStart => exact ⟨0, 0, 0, 0, 0, Nat.zero_le _, rfl, ⟨heap_alloc_new _ _⟩, ⟨(Below.refl _ _).alloc (Nat.le_refl _) _⟩, H0, ⟨fun h => by omega⟩⟩
  case round =>
   obtain ⟨k, t0, t1, t2, t3, hk, rfl, HH, HL, HF, HP⟩ := hrel
   have c0 : wr.cell? ⟨w.heap.size, 0, none⟩ = some (.int .i64 t0) := by simp [World.cell?, HH.out]
   have c1 : wr.cell? ⟨w.heap.size, 1, none⟩ = some (.int .i64 t1) := by simp [World.cell?, HH.out]
   have c2 : wr.cell? ⟨w.heap.size, 2, none⟩ = some (.int .i64 t2) := by simp [World.cell?, HH.out]
   have c3 : wr.cell? ⟨w.heap.size, 3, none⟩ = some (.int .i64 t3) := by simp [World.cell?, HH.out]
   have fz : ∀ j, wr.frozen? ⟨w.heap.size, j, none⟩ = false := fun j => by simp [World.frozen?, HH.out]
   by_cases hlt : k < a0.size
   ·have hF := HF.out
    rw [show 101 - k = (100 - k) + 1 by omega] at hF
    simp only [impl_TurnsOfWord.l] at hF
    rw [if_pos hlt] at hF
    have hp : strings_IndexByte.f ⟨#[101, 110, 119, 115]⟩ ((a0[k].toNat : Nat) : Int) = some (impl_TurnsOfWord.pos (bt a0 k)) := by
     rw [impl_TurnsOfWord.bt_k a0 k hlt]; rfl
    have pr := impl_TurnsOfWord.pos_range (bt a0 k)
    have HN := am (show 0 ≤ impl_TurnsOfWord.pos (bt a0 k) → (0 < k + 1 → 0 ≤ impl_TurnsOfWord.pos (bt a0 (((k + 1 : Nat) : Int) - 1))) from fun h _ => by rw [show ((k + 1 : Nat) : Int) - 1 = (k : Int) by omega]; exact h)
    have HLb := HL.out.size
    generalize impl_TurnsOfWord.pos (bt a0 k) = p at hp pr hF HN
    have Hp := am hp
    clear hp
    by_cases c : p < 0
    ·rw [if_pos c] at hF
     obtain ⟨rfl, rfl, rfl⟩ : 0 = r1 ∧ 0 = r2 ∧ false = r3 := by simpa using hF
     have cb : decide (p < 0) = true := decide_eq_true c
     clear hF c
     go_wp2_with (go_at_call 42; refine (strings_IndexByte.calls _ _ p _ Hp.out).mono ?_; rintro e w' ⟨rfl, ⟨nd, rfl⟩⟩)
     go_ret3
     exact ⟨rfl, pw_below_drewN HL.out nd⟩
    ·rw [if_neg c] at hF
     have cb : decide (p < 0) = false := decide_eq_false c
     have c0' : 0 ≤ p := by omega
     have HN2 := am (HN.out c0')
     by_cases z : 0 < k
     ·rw [if_pos z] at hF
      have zb : decide (0 < k) = true := decide_eq_true z
      have zb2 : decide ((0 : Int) < (k : Int)) = true := decide_eq_true (by omega)
      have hlt2 : k - 1 < a0.size := by omega
      have hq : strings_IndexByte.f ⟨#[101, 110, 119, 115]⟩ ((a0[k - 1].toNat : Nat) : Int) = some (impl_TurnsOfWord.pos (bt a0 ((k : Int) - 1))) := by
       rw [show (k : Int) - 1 = ((k - 1 : Nat) : Int) by omega, impl_TurnsOfWord.bt_k a0 (k - 1) hlt2]; rfl
      have qr := impl_TurnsOfWord.pos_range (bt a0 ((k : Int) - 1))
      have q0 := HP.out z
      generalize impl_TurnsOfWord.pos (bt a0 ((k : Int) - 1)) = q at hq qr q0 hF
      have Hq := am hq
      clear hq
      have HF2 := am hF
      clear hF
      obtain ⟨m, rfl⟩ : ∃ m, k = m + 1 := ⟨k - 1, by omega⟩
      simp only [Nat.add_sub_cancel] at Hq hlt2
      have wm : IntKind.i64.wrap (m : Int) = (m : Int) := (i64_w _).trans (by unfold wrap64; omega)
      have e1 : IntKind.i64.wrap (p - q) = p - q := (i64_w _).trans (by unfold wrap64; omega)
      have e2 : IntKind.i64.wrap (p - q + 4) = p - q + 4 := (i64_w _).trans (by unfold wrap64; omega)
      have hj : (p - q + 4).tmod 4 = 0 ∨ (p - q + 4).tmod 4 = 1 ∨ (p - q + 4).tmod 4 = 2 ∨ (p - q + 4).tmod 4 = 3 := by
       rw [Int.tmod_eq_emod_of_nonneg (by omega)]; omega
      clear pr qr c0' q0 c
      rcases hj with e3 | e3 | e3 | e3
      ·have HF3 := am (show impl_TurnsOfWord.l (100 - (m + 1)) a0 (m + 1 + 1) (wrap64 (t0 + 1)) t1 t2 t3 = some (r1, r2, r3) by have z := HF2.out; rw [e3] at z; simpa using z)
       have HS := fun (W : World) (hW : W.heap[w.heap.size]? = wr.heap[w.heap.size]?) v => am (blk_set (hW.trans HH.out) 0 v)
       clear HF2
       go_wp2_with (go_at_call 42; refine (strings_IndexByte.calls _ _ p _ Hp.out).mono ?_; rintro e w' ⟨rfl, ⟨nd, rfl⟩⟩)
       refine wp_region_still_tail 16 (by kernel_rfl) (by kernel_rfl) ?_
       simp only [List.take_succ_cons, List.take_zero, List.drop_succ_cons, List.drop_zero]
       obtain ⟨w2, hw2⟩ : ∃ w2 : World, (wr.drewN nd).drew = w2 := ⟨_, rfl⟩
       have hh2 : w2.heap[w.heap.size]? = wr.heap[w.heap.size]? := by rw [← hw2]; rfl
       have B2 := am (show Below w.heap.size w w2 by rw [← hw2]; exact below_drew1 (pw_below_drewN HL.out nd))
       have d0 : w2.cell? ⟨w.heap.size, 0, none⟩ = some (.int .i64 t0) := by rw [← hw2]; exact c0
       have z0 : w2.frozen? ⟨w.heap.size, 0, none⟩ = false := by rw [← hw2]; exact fz 0
       have HS2 := am (HS w2 hh2 (.int .i64 (wrap64 (t0 + 1)))).out
       have HB2 := am (B2.out.setCell (p := ⟨w.heap.size, 0, none⟩) (by simp) (.int .i64 (wrap64 (t0 + 1))))
       clear HS hh2 B2
       change wpStill _ _ (wr.drewN nd).drew _ _ _
       rw [hw2]
       have HW2 := am hw2
       clear hw2 fz c0 c1 c2 c3
       repeat still_step
       still_call (impl_TurnsOfWord.pos_still _ _ Hp.out _)
       repeat still_step
       still_call (impl_TurnsOfWord.pos_still _ _ Hq.out _)
       repeat still_step
       refine wpStill_nil ?_
       change wpList _ _ _ _ _ (wr.drewN nd).drew
       rw [HW2.out]
       go_wp2
       go_roundw
       case rel =>
        exact ⟨m + 1 + 1, wrap64 (t0 + 1), t1, t2, t3, by omega, by go_num, HS2, HB2, ⟨by rw [show 101 - (m + 1 + 1) = 100 - (m + 1) by omega]; exact HF3.out⟩, HN2⟩
       case measure => simp [intOf]; omega
      ·have HF3 := am (show impl_TurnsOfWord.l (100 - (m + 1)) a0 (m + 1 + 1) t0 (wrap64 (t1 + 1)) t2 t3 = some (r1, r2, r3) by have z := HF2.out; rw [e3] at z; simpa using z)
       have HS := fun (W : World) (hW : W.heap[w.heap.size]? = wr.heap[w.heap.size]?) v => am (blk_set (hW.trans HH.out) 1 v)
       clear HF2
       go_wp2_with (go_at_call 42; refine (strings_IndexByte.calls _ _ p _ Hp.out).mono ?_; rintro e w' ⟨rfl, ⟨nd, rfl⟩⟩)
       refine wp_region_still_tail 16 (by kernel_rfl) (by kernel_rfl) ?_
       simp only [List.take_succ_cons, List.take_zero, List.drop_succ_cons, List.drop_zero]
       obtain ⟨w2, hw2⟩ : ∃ w2 : World, (wr.drewN nd).drew = w2 := ⟨_, rfl⟩
       have hh2 : w2.heap[w.heap.size]? = wr.heap[w.heap.size]? := by rw [← hw2]; rfl
       have B2 := am (show Below w.heap.size w w2 by rw [← hw2]; exact below_drew1 (pw_below_drewN HL.out nd))
       have d0 : w2.cell? ⟨w.heap.size, 1, none⟩ = some (.int .i64 t1) := by rw [← hw2]; exact c1
       have z0 : w2.frozen? ⟨w.heap.size, 1, none⟩ = false := by rw [← hw2]; exact fz 1
       have HS2 := am (HS w2 hh2 (.int .i64 (wrap64 (t1 + 1)))).out
       have HB2 := am (B2.out.setCell (p := ⟨w.heap.size, 1, none⟩) (by simp) (.int .i64 (wrap64 (t1 + 1))))
       clear HS hh2 B2
       change wpStill _ _ (wr.drewN nd).drew _ _ _
       rw [hw2]
       have HW2 := am hw2
       clear hw2 fz c0 c1 c2 c3
       repeat still_step
       still_call (impl_TurnsOfWord.pos_still _ _ Hp.out _)
       repeat still_step
       still_call (impl_TurnsOfWord.pos_still _ _ Hq.out _)
       repeat still_step
       refine wpStill_nil ?_
       change wpList _ _ _ _ _ (wr.drewN nd).drew
       rw [HW2.out]
       go_wp2
       go_roundw
       case rel =>
        exact ⟨m + 1 + 1, t0, wrap64 (t1 + 1), t2, t3, by omega, by go_num, HS2, HB2, ⟨by rw [show 101 - (m + 1 + 1) = 100 - (m + 1) by omega]; exact HF3.out⟩, HN2⟩
       case measure => simp [intOf]; omega
      ·have HF3 := am (show impl_TurnsOfWord.l (100 - (m + 1)) a0 (m + 1 + 1) t0 t1 (wrap64 (t2 + 1)) t3 = some (r1, r2, r3) by have z := HF2.out; rw [e3] at z; simpa using z)
       have HS := fun (W : World) (hW : W.heap[w.heap.size]? = wr.heap[w.heap.size]?) v => am (blk_set (hW.trans HH.out) 2 v)
       clear HF2
       go_wp2_with (go_at_call 42; refine (strings_IndexByte.calls _ _ p _ Hp.out).mono ?_; rintro e w' ⟨rfl, ⟨nd, rfl⟩⟩)
       refine wp_region_still_tail 16 (by kernel_rfl) (by kernel_rfl) ?_
       simp only [List.take_succ_cons, List.take_zero, List.drop_succ_cons, List.drop_zero]
       obtain ⟨w2, hw2⟩ : ∃ w2 : World, (wr.drewN nd).drew = w2 := ⟨_, rfl⟩
       have hh2 : w2.heap[w.heap.size]? = wr.heap[w.heap.size]? := by rw [← hw2]; rfl
       have B2 := am (show Below w.heap.size w w2 by rw [← hw2]; exact below_drew1 (pw_below_drewN HL.out nd))
       have d0 : w2.cell? ⟨w.heap.size, 2, none⟩ = some (.int .i64 t2) := by rw [← hw2]; exact c2
       have z0 : w2.frozen? ⟨w.heap.size, 2, none⟩ = false := by rw [← hw2]; exact fz 2
       have HS2 := am (HS w2 hh2 (.int .i64 (wrap64 (t2 + 1)))).out
       have HB2 := am (B2.out.setCell (p := ⟨w.heap.size, 2, none⟩) (by simp) (.int .i64 (wrap64 (t2 + 1))))
       clear HS hh2 B2
       change wpStill _ _ (wr.drewN nd).drew _ _ _
       rw [hw2]
       have HW2 := am hw2
       clear hw2 fz c0 c1 c2 c3
       repeat still_step
       still_call (impl_TurnsOfWord.pos_still _ _ Hp.out _)
       repeat still_step
       still_call (impl_TurnsOfWord.pos_still _ _ Hq.out _)
       repeat still_step
       refine wpStill_nil ?_
       change wpList _ _ _ _ _ (wr.drewN nd).drew
       rw [HW2.out]
       go_wp2
       go_roundw
       case rel =>
        exact ⟨m + 1 + 1, t0, t1, wrap64 (t2 + 1), t3, by omega, by go_num, HS2, HB2, ⟨by rw [show 101 - (m + 1 + 1) = 100 - (m + 1) by omega]; exact HF3.out⟩, HN2⟩
       case measure => simp [intOf]; omega
      ·have HF3 := am (show impl_TurnsOfWord.l (100 - (m + 1)) a0 (m + 1 + 1) t0 t1 t2 (wrap64 (t3 + 1)) = some (r1, r2, r3) by have z := HF2.out; rw [e3] at z; simpa using z)
       have HS := fun (W : World) (hW : W.heap[w.heap.size]? = wr.heap[w.heap.size]?) v => am (blk_set (hW.trans HH.out) 3 v)
       clear HF2
       go_wp2_with (go_at_call 42; refine (strings_IndexByte.calls _ _ p _ Hp.out).mono ?_; rintro e w' ⟨rfl, ⟨nd, rfl⟩⟩)
       refine wp_region_still_tail 16 (by kernel_rfl) (by kernel_rfl) ?_
       simp only [List.take_succ_cons, List.take_zero, List.drop_succ_cons, List.drop_zero]
       obtain ⟨w2, hw2⟩ : ∃ w2 : World, (wr.drewN nd).drew = w2 := ⟨_, rfl⟩
       have hh2 : w2.heap[w.heap.size]? = wr.heap[w.heap.size]? := by rw [← hw2]; rfl
       have B2 := am (show Below w.heap.size w w2 by rw [← hw2]; exact below_drew1 (pw_below_drewN HL.out nd))
       have d0 : w2.cell? ⟨w.heap.size, 3, none⟩ = some (.int .i64 t3) := by rw [← hw2]; exact c3
       have z0 : w2.frozen? ⟨w.heap.size, 3, none⟩ = false := by rw [← hw2]; exact fz 3
       have HS2 := am (HS w2 hh2 (.int .i64 (wrap64 (t3 + 1)))).out
       have HB2 := am (B2.out.setCell (p := ⟨w.heap.size, 3, none⟩) (by simp) (.int .i64 (wrap64 (t3 + 1))))
       clear HS hh2 B2
       change wpStill _ _ (wr.drewN nd).drew _ _ _
       rw [hw2]
       have HW2 := am hw2
       clear hw2 fz c0 c1 c2 c3
       repeat still_step
       still_call (impl_TurnsOfWord.pos_still _ _ Hp.out _)
       repeat still_step
       still_call (impl_TurnsOfWord.pos_still _ _ Hq.out _)
       repeat still_step
       refine wpStill_nil ?_
       change wpList _ _ _ _ _ (wr.drewN nd).drew
       rw [HW2.out]
       go_wp2
       go_roundw
       case rel =>
        exact ⟨m + 1 + 1, t0, t1, t2, wrap64 (t3 + 1), by omega, by go_num, HS2, HB2, ⟨by rw [show 101 - (m + 1 + 1) = 100 - (m + 1) by omega]; exact HF3.out⟩, HN2⟩
       case measure => simp [intOf]; omega
     ·rw [if_neg z] at hF
      obtain rfl : k = 0 := by omega
      have HF3 := am (show impl_TurnsOfWord.l (101 - (0 + 1)) a0 (0 + 1) t0 t1 t2 t3 = some (r1, r2, r3) from hF)
      clear hF z
      go_wp2_with (go_at_call 42; refine (strings_IndexByte.calls _ _ p _ Hp.out).mono ?_; rintro e w' ⟨rfl, ⟨nd, rfl⟩⟩)
      go_roundw
      case rel => exact ⟨0 + 1, t0, t1, t2, t3, by omega, by go_num, ⟨HH.out⟩, ⟨pw_below_drewN HL.out nd⟩, HF3, HN2⟩
      case measure => simp [intOf]; omega
   ·obtain rfl : k = a0.size := by omega
    have hF := HF.out
    rw [show 101 - a0.size = (100 - a0.size) + 1 by omega] at hF
    simp only [impl_TurnsOfWord.l] at hF
    rw [if_neg hlt] at hF
    clear hlt
    by_cases c : t2 > 0
    ·rw [if_pos c] at hF
     obtain ⟨rfl, rfl, rfl⟩ : 0 = r1 ∧ 0 = r2 ∧ false = r3 := by simpa using hF
     have cb : decide (0 < t2) = true := decide_eq_true c
     clear hF c
     go_wp2
     go_ret3
     exact ⟨rfl, HL.out⟩
    ·rw [if_neg c] at hF
     obtain ⟨rfl, rfl, rfl⟩ : t1 = r1 ∧ t3 = r2 ∧ true = r3 := by simpa using hF
     have cb : decide (0 < t2) = false := decide_eq_false c
     clear hF c
     go_wp2
     go_quiet (fail)
     go_wp2
     go_ret3
     exact ⟨rfl, pw_below_drewN HL.out _⟩
end Go.Proofs.Ytdhdkkhbgfcoiaa.MX
