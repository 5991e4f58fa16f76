-- The machine side, written by this repo's program mp.py; contracts marked as of this repo are this session's own.
import Derived.Test.YtopbmiedlpkmjaaMRx0
import Derived.Test.YtopbmiedlpkmjaaMRx2
import Derived.Test.YtopbmiedlpkmjaaMRx3
import Derived.Test.YtopbmiedlpkmjaaMRx5
namespace Go.Proofs.Ytopbmiedlpkmjaa.MR
open Go.RowKit Go.Proofs.YtopbmiedlpkmjaaW.PrintWords Go.Proofs.YtopbmiedlpkmjaaW.PrintLast Go.Proofs.YtopbmiedlpkmjaaW.PrintMore
attribute [local go_sem] max2_int min2_int max_two min_two max_three min_three max_four min_four   -- for this text's walks alone
set_option linter.unusedVariables false
set_option linter.unusedSimpArgs false

/-! ### spec_owDistance: function 49 (a contract of this repo) -/
/-- More is held from here on. -/
theorem spec_owDistance.more_ {P : Program} {md : Region.Mode} {ops : Array Oper} {Q : Exit → Act → World → Prop} {S S' : World → Prop} (hSS : ∀ w, S' w → S w) : ∀ (fuel : Nat) (l : Array Bool) (a : Act) (w : World), S' w → wpAnyLast P md ops Q S' [] fuel l a w → wpAnyLast P md ops Q S [] fuel l a w
  | 0, _, _, _, _, h => h
  | fuel + 1, _, _, _, hw, h => ⟨h.1, fun i hi => wpOp_mono (fun a' w' h' => ⟨fun _ _ => hSS _ (h'.1 (by simp) hw), spec_owDistance.more_ hSS fuel _ a' w' (h'.1 (by simp) hw) h'.2⟩) (h.2 i hi)⟩
def spec_owDistance.T1 : Bool × List (List Nat × List Nat) := (true, [([], []), ([], []), ([0, 1], [0, 1]), ([], []), ([3], [3]), ([4], [4]), ([], []), ([6], [6]), ([7], [7]), ([5, 8], [5, 8]), ([], []), ([10], [10]), ([11], [11]), ([9, 12], [9, 12]), ([2, 13], [2, 13]), ([14], [14]), ([15, 2, 0, 1, 2, 3, 4, 5, 6, 7, 8, 9, 10, 11, 12, 13, 14, 15], [15])])
def spec_owDistance.B1 : List Nat := [0, 0, 3, 0, 8, 24, 0, 64, 192, 504, 0, 1024, 3072, 8184, 16383, 32767, 65535]
theorem spec_owDistance.tab1 : rtab .any (opsOf Try.f49 1) = spec_owDistance.T1 := by kernel_rfl
theorem spec_owDistance.bits1 : waitsOk spec_owDistance.T1.2 spec_owDistance.B1 = true := by kernel_rfl
def spec_owDistance.f (k : Nat) (s t : ByteArray) (l1 l2 : List Int) : Option Int := (spec_owFar.f k s t l1).bind fun l => if ((l2.length = 2 ∧ impl_driveIn.Sized s t) ∧ impl_driveIn.At s t (rd l2 0) (rd l2 1)) ∧ l.length = t.size * s.size then some (rd l (((rd l2 0).toNat * s.size + (rd l2 1).toNat : Nat) : Int)) else none
theorem spec_owDistance.mono : ∀ a0_0 a0_1 a1 a2 k, LeO (spec_owDistance.f k a0_0 a0_1 a1 a2) (spec_owDistance.f (k + 1) a0_0 a0_1 a1 a2) := fun a0_0 a0_1 a1 a2 k => LeO.bind (spec_owFar.mono _ _ _ k) (fun _ => LeO.refl _)
theorem spec_owDistance.two {w : World} {A : Option Addr} {l : List Int} (hl : l.length = 2) (hr : Kd.C (Kd.int .i64) w A l.length l) : ∃ ad, A = some ad ∧ w.cell? ad = some (.int .i64 (rd l 0)) ∧ w.cell? { block := ad.block, off := ad.off + 1 } = some (.int .i64 (rd l 1)) := by
  obtain ⟨ad0, hA, hx0⟩ := Kd.at_int hr 0 (by omega) (by omega)
  obtain ⟨ad1, hA1, hx1⟩ := Kd.at_int hr 1 (by omega) (by omega)
  subst hA
  obtain rfl : ad0 = ad1 := by injection hA1
  rw [show (0 : Int).toNat = 0 from rfl, Addr.add_zero'] at hx0
  simp only [show (1 : Int).toNat = 1 from rfl, Nat.reduceMul, Nat.reduceEqDiff, Go.Addr.add, ↓reduceIte] at hx1
  exact ⟨ad0, rfl, hx0, hx1⟩
set_option maxHeartbeats 8000000 in
set_option maxRecDepth 100000 in
theorem spec_owDistance.calls (k : Nat) (a0_0 : ByteArray) (a0_1 : ByteArray) (A1 : Option Addr) (c1 : Nat) (l1 : List Int) (A2 : Option Addr) (c2 : Nat) (l2 : List Int) (r : Int) (w : World) (hr1 : Kd.C (Kd.int .i64) w A1 l1.length l1) (hc1 : l1.length ≤ c1) (hr2 : Kd.C (Kd.int .i64) w A2 l2.length l2) (hc2 : l2.length ≤ c2) (h : spec_owDistance.f k a0_0 a0_1 l1 l2 = some r) :
    Calls Try.prog 49 #[.agg #[.string a0_0, .string a0_1], .slice A1 l1.length c1, .slice A2 l2.length c2] w fun e w' => e = .returned (.int .i64 r) ∧ Below w.heap.size w w' := by
  unfold spec_owDistance.f at h
  obtain ⟨l, hF, h⟩ := Option.bind_eq_some_iff.1 h
  by_cases c : ((l2.length = 2 ∧ impl_driveIn.Sized a0_0 a0_1) ∧ impl_driveIn.At a0_0 a0_1 (rd l2 0) (rd l2 1)) ∧ l.length = a0_1.size * a0_0.size
  case neg => rw [if_neg c] at h; cases h
  rw [if_pos c] at h
  obtain ⟨⟨⟨hl, hS⟩, ⟨x0, x1⟩, y0, y1⟩, hlen⟩ := c
  obtain ⟨ad, rfl, hx0, hx1⟩ := spec_owDistance.two hl hr2
  obtain ⟨x, hx⟩ := Int.eq_ofNat_of_zero_le x0
  obtain ⟨y, hy⟩ := Int.eq_ofNat_of_zero_le y0
  rw [hx] at hx0 x0 x1 h
  rw [hy] at hx1 y0 y1 h
  rw [Int.toNat_natCast, Int.toNat_natCast] at h
  obtain ⟨⟨t1, t8⟩, s1, s8⟩ := hS
  obtain ⟨cn, hcn⟩ : ∃ cn, cn = x * a0_0.size + y := ⟨_, rfl⟩
  rw [← hcn] at h
  have hcnl : cn < l.length := by rw [hlen, hcn]; exact spec_owFar.cd_lt _ _ _ _ (by omega) (by omega)
  have hl64 : l.length ≤ 64 := by rw [hlen]; exact Nat.le_trans (Nat.mul_le_mul t8 s8) (by decide)
  obtain ⟨m1, hm1⟩ : ∃ m1, m1 = x * a0_0.size := ⟨_, rfl⟩
  have hm1n : m1 ≤ cn := by omega
  have e1 : IntKind.i64.wrap ((x : Int) * (a0_0.size : Int)) = (m1 : Int) := by rw [i64_w, ← Int.natCast_mul, ← hm1, Go.Proofs.Ytopbmiedlpkmjaa.Lib.w64] <;> omega
  have e2 : IntKind.i64.wrap ((m1 : Int) + (y : Int)) = (cn : Int) := by rw [i64_w, Go.Proofs.Ytopbmiedlpkmjaa.Lib.w64] <;> omega
  have e3 : wrap64 ((x : Int) * (a0_0.size : Int)) = (m1 : Int) := (i64_w _).symm.trans e1
  have e4 : wrap64 ((m1 : Int) + (y : Int)) = (cn : Int) := (i64_w _).symm.trans e2
  obtain rfl := Option.some.inj h
  have HF := Aside0.mk hF
  have HR1 := Aside0.mk hr1
  have HC1 := Aside0.mk hc1
  have HX0 := Aside0.mk hx0
  have HX1 := Aside0.mk hx1
  clear hF hr1 hc1 hr2 hx0 hx1 hlen hcn hm1 x0 x1 y0 y1 h hx hy
  rw [hl] at hc2 ⊢
  clear hl
  obtain ⟨wb, hwb⟩ : ∃ wb : World, w.alloc (.cells #[.string a0_0, .string a0_1] 27) = wb := ⟨_, rfl⟩
  have HB := Aside0.mk (show Below w.heap.size w wb by rw [← hwb]; exact below_alloc (Below.refl _ _) _)
  have HBX := Aside0.mk (show wb.heap[w.heap.size]? = some (.cells #[.string a0_0, .string a0_1] 27 (0, 0)) by rw [← hwb]; exact heap_alloc_new _ _)
  go_enter Try.func49, Try.ntmps49
  go_wp2
  clear hwb
  have HBd := Aside0.mk (below_drew1 HB.out)
  have hb0 : wb.drew.cell? ⟨w.heap.size, 0, none⟩ = some (.string a0_0) := (blk_cell (blk_drew HBX.out) 0).trans rfl
  have hb1 : wb.drew.cell? ⟨w.heap.size, 1, none⟩ = some (.string a0_1) := (blk_cell (blk_drew HBX.out) 1).trans rfl
  have hq0 := pw_cell_below HBd.out HX0.out
  have hq1 := pw_cell_below HBd.out HX1.out
  refine start_ (n := 17) (S := fun w' => w'.cell? ⟨w.heap.size, 0, none⟩ = some (.string a0_0) ∧ w'.cell? ⟨w.heap.size, 1, none⟩ = some (.string a0_1) ∧ w'.cell? ad = some (.int .i64 x) ∧ w'.cell? { block := ad.block, off := ad.off + 1 } = some (.int .i64 y)) (ds := []) #[false, false, false, false, false, false, false, false, false, false, false, false, false, false, false, false, false] (by kernel_rfl) rfl rfl ⟨hb0, hb1, hq0, hq1⟩ (fun hHeld => ?_); refine with_tabW spec_owDistance.tab1 spec_owDistance.bits1 (fun HT_ HW_ => ?_)
  generalize wb.drew = w2 at HBd hb0 hb1 hq0 hq1 hHeld ⊢
  refine take_ (i := 0) (N := some 7) (v := ?_) (a' := ?_) #[true, false, false, false, false, false, false, false, false, false, false, false, false, false, false, false, false] rfl rfl (take_ofW HT_.out HW_.out (by kernel_rfl)) (fun _ _ _ h => h) (Or.inl ⟨by rfl, ?_⟩) hHeld ?_ ?_
  rotate_left
  · rintro w' ⟨s0, s1, s2, s3⟩
    go_simp
    with_reducible rfl
  rotate_left
  · simp only [Act.put, List.setIfInBounds_toArray, List.set_cons_zero, List.set_cons_succ, i64_w, i32_w]
    rfl
  refine pure_ (i := 1) (N := some 8) (v := ?_) (a' := ?_) #[true, true, false, false, false, false, false, false, false, false, false, false, false, false, false, false, false] rfl rfl (any_of HT_.out (by kernel_rfl)) (fun _ _ _ h => h) (Or.inl ⟨by rfl, ?_⟩) ?_ ?_
  rotate_left
  · intro w'
    go_simp
    with_reducible rfl
  rotate_left
  · simp only [Act.put, List.setIfInBounds_toArray, List.set_cons_zero, List.set_cons_succ, i64_w, i32_w]
    rfl
  refine pure_ (i := 3) (N := some 10) (v := ?_) (a' := ?_) #[true, true, false, true, false, false, false, false, false, false, false, false, false, false, false, false, false] rfl rfl (any_of HT_.out (by kernel_rfl)) (fun _ _ _ h => h) (Or.inl ⟨by rfl, ?_⟩) ?_ ?_
  rotate_left
  · intro w'
    go_simp
    with_reducible rfl
  rotate_left
  · simp only [Act.put, List.setIfInBounds_toArray, List.set_cons_zero, List.set_cons_succ, i64_w, i32_w]
    rfl
  refine pure_ (i := 4) (N := some 11) (v := ?_) (a' := ?_) #[true, true, false, true, true, false, false, false, false, false, false, false, false, false, false, false, false] rfl rfl (any_of HT_.out (by kernel_rfl)) (fun _ _ _ h => h) (Or.inl ⟨by rfl, ?_⟩) ?_ ?_
  rotate_left
  · intro w'
    go_simp
    with_reducible rfl
  rotate_left
  · simp only [Act.put, List.setIfInBounds_toArray, List.set_cons_zero, List.set_cons_succ, i64_w, i32_w]
    rfl
  refine take_ (i := 5) (N := some 12) (v := ?_) (a' := ?_) #[true, true, false, true, true, true, false, false, false, false, false, false, false, false, false, false, false] rfl rfl (take_ofW HT_.out HW_.out (by kernel_rfl)) (fun _ _ _ h => h) (Or.inl ⟨by rfl, ?_⟩) hHeld ?_ ?_
  rotate_left
  · rintro w' ⟨s0, s1, s2, s3⟩
    go_simp
    with_reducible rfl
  rotate_left
  · simp only [Act.put, List.setIfInBounds_toArray, List.set_cons_zero, List.set_cons_succ, i64_w, i32_w]
    rfl
  refine pure_ (i := 6) (N := some 13) (v := ?_) (a' := ?_) #[true, true, false, true, true, true, true, false, false, false, false, false, false, false, false, false, false] rfl rfl (any_of HT_.out (by kernel_rfl)) (fun _ _ _ h => h) (Or.inl ⟨by rfl, ?_⟩) ?_ ?_
  rotate_left
  · intro w'
    go_simp
    with_reducible rfl
  rotate_left
  · simp only [Act.put, List.setIfInBounds_toArray, List.set_cons_zero, List.set_cons_succ, i64_w, i32_w]
    rfl
  refine take_ (i := 7) (N := some 14) (v := ?_) (a' := ?_) #[true, true, false, true, true, true, true, true, false, false, false, false, false, false, false, false, false] rfl rfl (take_ofW HT_.out HW_.out (by kernel_rfl)) (fun _ _ _ h => h) (Or.inl ⟨by rfl, ?_⟩) hHeld ?_ ?_
  rotate_left
  · rintro w' ⟨s0, s1, s2, s3⟩
    go_simp
    with_reducible rfl
  rotate_left
  · simp only [Act.put, List.setIfInBounds_toArray, List.set_cons_zero, List.set_cons_succ, i64_w, i32_w]
    rfl
  refine pure_ (i := 8) (N := some 15) (v := ?_) (a' := ?_) #[true, true, false, true, true, true, true, true, true, false, false, false, false, false, false, false, false] rfl rfl (any_of HT_.out (by kernel_rfl)) (fun _ _ _ h => h) (Or.inl ⟨by rfl, ?_⟩) ?_ ?_
  rotate_left
  · intro w'
    go_simp
    with_reducible rfl
  rotate_left
  · simp only [Act.put, List.setIfInBounds_toArray, List.set_cons_zero, List.set_cons_succ, i64_w, i32_w]
    rfl
  refine pure_ (i := 9) (N := some 16) (v := ?_) (a' := ?_) #[true, true, false, true, true, true, true, true, true, true, false, false, false, false, false, false, false] rfl rfl (any_of HT_.out (by kernel_rfl)) (fun _ _ _ h => h) (Or.inl ⟨by rfl, ?_⟩) ?_ ?_
  rotate_left
  · intro w'
    go_simp
    with_reducible rfl
  rotate_left
  · simp only [Act.put, List.setIfInBounds_toArray, List.set_cons_zero, List.set_cons_succ, i64_w, i32_w]
    rfl
  refine pure_ (i := 10) (N := some 17) (v := ?_) (a' := ?_) #[true, true, false, true, true, true, true, true, true, true, true, false, false, false, false, false, false] rfl rfl (any_of HT_.out (by kernel_rfl)) (fun _ _ _ h => h) (Or.inl ⟨by rfl, ?_⟩) ?_ ?_
  rotate_left
  · intro w'
    go_simp
    with_reducible rfl
  rotate_left
  · simp only [Act.put, List.setIfInBounds_toArray, List.set_cons_zero, List.set_cons_succ, i64_w, i32_w]
    rfl
  refine pure_ (i := 11) (N := some 18) (v := ?_) (a' := ?_) #[true, true, false, true, true, true, true, true, true, true, true, true, false, false, false, false, false] rfl rfl (any_of HT_.out (by kernel_rfl)) (fun _ _ _ h => h) (Or.inl ⟨by rfl, ?_⟩) ?_ ?_
  rotate_left
  · intro w'
    go_simp
    with_reducible rfl
  rotate_left
  · simp only [Act.put, List.setIfInBounds_toArray, List.set_cons_zero, List.set_cons_succ, i64_w, i32_w]
    rfl
  refine take_ (i := 12) (N := some 19) (v := ?_) (a' := ?_) #[true, true, false, true, true, true, true, true, true, true, true, true, true, false, false, false, false] rfl rfl (take_ofW HT_.out HW_.out (by kernel_rfl)) (fun _ _ _ h => h) (Or.inl ⟨by rfl, ?_⟩) hHeld ?_ ?_
  rotate_left
  · rintro w' ⟨s0, s1, s2, s3⟩
    go_simp
    with_reducible rfl
  rotate_left
  · simp only [Act.put, List.setIfInBounds_toArray, List.set_cons_zero, List.set_cons_succ, i64_w, i32_w]
    rfl
  refine pure_ (i := 13) (N := some 20) (v := ?_) (a' := ?_) #[true, true, false, true, true, true, true, true, true, true, true, true, true, true, false, false, false] rfl rfl (any_of HT_.out (by kernel_rfl)) (fun _ _ _ h => h) (Or.inl ⟨by rfl, ?_⟩) ?_ ?_
  rotate_left
  · intro w'
    go_simp
    with_reducible rfl
  rotate_left
  · simp only [Act.put, List.setIfInBounds_toArray, List.set_cons_zero, List.set_cons_succ, i64_w, i32_w]
    rfl
  refine one_ (i := 2) (N := some 9) #[true, true, true, true, true, true, true, true, true, true, true, true, true, true, false, false, false] rfl rfl (one_of HT_.out (by kernel_rfl)) (by decide) (fun K hK => ?_)
  refine goes_ Try.func56 (by kernel_rfl) rfl #[.agg #[.string a0_0, .string a0_1], .slice A1 l1.length c1] (by rfl) rfl rfl (by (try simp only [List.map_toArray, List.map_cons, List.map_nil]); first | done | rfl) ?_
  with_reducible refine (spec_owFar.calls k a0_0 a0_1 A1 c1 l1 l _ (Kd.C_below HR1.out HBd.out) HC1.out HF.out).mono ?_
  rintro e w3 ⟨v0, rfl, hR, hb3⟩
  refine ⟨_, rfl, ?_⟩
  have HB3 := Aside0.mk (below_then HBd.out HBd.out.size hb3)
  have hc0 := pw_cell_below hb3 hb0
  have hc1 := pw_cell_below hb3 hb1
  have hc2 := pw_cell_below hb3 hq0
  have hc3 := pw_cell_below hb3 hq1
  obtain ⟨A3, c3, e3'⟩ := Kd.R_slice hR
  subst e3'
  obtain ⟨ad3, hA3, hv⟩ := Kd.at_int (Kd.R_reads' hR).2.2 (cn : Int) (by omega) (by omega)
  subst hA3
  obtain ⟨g3, rfl⟩ := Kd.R_head hR
  rw [Int.toNat_natCast, Addr.add_lit, Nat.zero_add] at hv
  clear hR hb3
  refine hK.out _ _ ⟨hc0, hc1, hc2, hc3⟩ (fun hHeld => ?_)
  clear hK K
  refine norm_ (a' := ?_) ?_ ?_
  rotate_left
  · show Act.put _ (some 9) _ = _
    simp only [Act.put, List.setIfInBounds_toArray, List.set_cons_zero, List.set_cons_succ, i64_w, i32_w]
    rfl
  refine spec_owDistance.more_ (S' := fun w' => w'.cell? ⟨w.heap.size, 0, none⟩ = some (.string a0_0) ∧ w'.cell? ⟨w.heap.size, 1, none⟩ = some (.string a0_1) ∧ w'.cell? ad = some (.int .i64 x) ∧ w'.cell? { block := ad.block, off := ad.off + 1 } = some (.int .i64 y) ∧ w'.cell? ⟨g3, cn, none⟩ = some (.int .i64 (rd l (cn : Int)))) (fun _ h => ⟨h.1, h.2.1, h.2.2.1, h.2.2.2.1⟩) _ _ _ _ ⟨hc0, hc1, hc2, hc3, hv⟩ ?_
  have hHeld := (show (fun w' => w'.cell? ⟨w.heap.size, 0, none⟩ = some (.string a0_0) ∧ w'.cell? ⟨w.heap.size, 1, none⟩ = some (.string a0_1) ∧ w'.cell? ad = some (.int .i64 x) ∧ w'.cell? { block := ad.block, off := ad.off + 1 } = some (.int .i64 y) ∧ w'.cell? ⟨g3, cn, none⟩ = some (.int .i64 (rd l (cn : Int)))) w3 from ⟨hc0, hc1, hc2, hc3, hv⟩)
  refine pure_ (i := 14) (N := some 21) (v := ?_) (a' := ?_) #[true, true, true, true, true, true, true, true, true, true, true, true, true, true, true, false, false] rfl rfl (any_of HT_.out (by kernel_rfl)) (fun _ _ _ h => h) (Or.inl ⟨by rfl, ?_⟩) ?_ ?_
  rotate_left
  · intro w'
    go_simp
    with_reducible rfl
  rotate_left
  · simp only [Act.put, List.setIfInBounds_toArray, List.set_cons_zero, List.set_cons_succ, i64_w, i32_w]
    rfl
  refine take_ (i := 15) (N := some 22) (v := ?_) (a' := ?_) #[true, true, true, true, true, true, true, true, true, true, true, true, true, true, true, true, false] rfl rfl (take_ofW HT_.out HW_.out (by kernel_rfl)) (fun _ _ _ h => h) (Or.inl ⟨by rfl, ?_⟩) hHeld ?_ ?_
  rotate_left
  · rintro w' ⟨s0, s1, s2, s3, s4⟩
    go_simp
    with_reducible rfl
  rotate_left
  · simp only [Act.put, List.setIfInBounds_toArray, List.set_cons_zero, List.set_cons_succ, i64_w, i32_w]
    rfl
  refine pure_ (i := 16) (N := some 6) (v := ?_) (a' := ?_) #[true, true, true, true, true, true, true, true, true, true, true, true, true, true, true, true, true] rfl rfl (any_of HT_.out (by kernel_rfl)) (fun _ _ _ h => h) (Or.inl ⟨by rfl, ?_⟩) ?_ ?_
  rotate_left
  · intro w'
    go_simp
    with_reducible rfl
  rotate_left
  · simp only [Act.put, List.setIfInBounds_toArray, List.set_cons_zero, List.set_cons_succ, i64_w, i32_w]
    rfl
  refine done_ (done_of HT_.out (by kernel_rfl)) ?_
  go_wp2
  go_ret
  exact ⟨rfl, HB3.out⟩

/-! ### spec_owRun: function 50 (a contract of this repo) -/
def spec_owRun.T12 : Bool × List (List Nat × List Nat) := (true, [([], []), ([], []), ([], []), ([1, 2], [1, 2]), ([], []), ([], []), ([4, 5], [4, 5]), ([], []), ([0, 3, 6, 7], [0, 3, 6, 7]), ([8], [8]), ([9], [9]), ([9], [9]), ([9], [9]), ([10, 8, 0, 1, 2, 3, 4, 5, 6, 7, 8, 9, 10], [10]), ([11, 13, 0, 1, 2, 3, 4, 5, 6, 7, 8, 9, 10, 11, 13], [11]), ([12, 14, 0, 1, 2, 3, 4, 5, 6, 7, 8, 9, 10, 11, 12, 13, 14], [12])])
def spec_owRun.B12 : List Nat := [0, 0, 0, 6, 0, 0, 48, 0, 255, 511, 1023, 1023, 1023, 2047, 12287, 32767]
theorem spec_owRun.tab12 : rtab .any (opsOf Try.f50 12) = spec_owRun.T12 := by kernel_rfl
theorem spec_owRun.bits12 : waitsOk spec_owRun.T12.2 spec_owRun.B12 = true := by kernel_rfl
/-- A block of so many truths. -/
def spec_owRun.Blk (w : World) (g N : Nat) (c : Nat → Bool) : Prop := ∃ cur : Array Value, w.heap[g]? = some (.cells cur 4 (0, 0)) ∧ cur.size = N ∧ ∀ i, i < N → cur[i]? = some (.bool (c i))
theorem spec_owRun.Blk.cell {w : World} {g N : Nat} {c : Nat → Bool} (h : spec_owRun.Blk w g N c) (i : Nat) (hi : i < N) : w.cell? ⟨g, i, none⟩ = some (.bool (c i)) := by
  obtain ⟨cur, h1, h2, h3⟩ := h
  simp only [World.cell?, h1]
  simpa using h3 i hi
theorem spec_owRun.Blk.free {w : World} {g N : Nat} {c : Nat → Bool} (h : spec_owRun.Blk w g N c) (i : Nat) : w.frozen? ⟨g, i, none⟩ = false := by
  obtain ⟨cur, h1, h2, h3⟩ := h
  simp [World.frozen?, h1]
theorem spec_owRun.Blk.below {w w' : World} {g N : Nat} {c : Nat → Bool} (h : spec_owRun.Blk w g N c) (hb : Below w.heap.size w w') : spec_owRun.Blk w' g N c := by
  obtain ⟨cur, h1, h2, h3⟩ := h
  exact ⟨cur, (hb.block g (Array.getElem?_eq_some_iff.1 h1).1).trans h1, h2, h3⟩
theorem spec_owRun.Blk.move {w w' : World} {g N : Nat} {c : Nat → Bool} (h : spec_owRun.Blk w g N c) (e : w'.heap[g]? = w.heap[g]?) : spec_owRun.Blk w' g N c := by
  obtain ⟨cur, h1, h2, h3⟩ := h
  exact ⟨cur, e.trans h1, h2, h3⟩
theorem spec_owRun.Blk.lt {w : World} {g N : Nat} {c : Nat → Bool} (h : spec_owRun.Blk w g N c) : g < w.heap.size := by
  obtain ⟨cur, h1, -⟩ := h
  exact (Array.getElem?_eq_some_iff.1 h1).1
theorem spec_owRun.Blk.ext {w : World} {g N : Nat} {c c' : Nat → Bool} (h : spec_owRun.Blk w g N c) (e : ∀ i, i < N → c i = c' i) : spec_owRun.Blk w g N c' := by
  obtain ⟨cur, h1, h2, h3⟩ := h
  exact ⟨cur, h1, h2, fun i hi => by rw [← e i hi]; exact h3 i hi⟩
theorem spec_owRun.Blk.zero (w : World) (N : Nat) : spec_owRun.Blk (w.alloc (.cells (madeCells #[Value.bool false] N) 4)) w.heap.size N (fun _ => false) := by
  refine ⟨_, heap_alloc_new _ _, by rw [size_madeCells], fun j hj => ?_⟩
  rw [← Array.getElem?_toList, toList_madeCells_one]
  simp [hj]
theorem spec_owRun.Blk.set {w : World} {g N : Nat} {c : Nat → Bool} (h : spec_owRun.Blk w g N c) (i : Nat) (hi : i < N) (v : Bool) : spec_owRun.Blk (w.setCell ⟨g, i, none⟩ (.bool v)) g N (fun j => if j = i then v else c j) := by
  obtain ⟨cur, h1, h2, h3⟩ := h
  refine ⟨cur.setIfInBounds i (.bool v), by simp [World.setCell, Array.getElem?_modify, h1], by simpa using h2, fun j hj => ?_⟩
  rw [Array.getElem?_setIfInBounds]
  by_cases e : i = j
  · subst e; simp [h2, hj]
  · rw [if_neg e, h3 j hj]
    simp [Ne.symm e]
/-- Blocks that were there, but one, are as they were. -/
def spec_owRun.But (w w' : World) (g : Nat) : Prop := Kept w w' (fun k => k = g) ∧ w'.os = w.os ∧ w'.tape = w.tape ∧ w'.output = w.output
theorem spec_owRun.But.below {w W w' : World} {g : Nat} (h : spec_owRun.But w W g) (hb : Below W.heap.size W w') : spec_owRun.But w w' g := ⟨h.1.below hb, hb.os.trans h.2.1, hb.tape.trans h.2.2.1, hb.output.trans h.2.2.2⟩
theorem spec_owRun.But.drew {w W : World} {g : Nat} (h : spec_owRun.But w W g) : spec_owRun.But w W.drew g := h.below (below_drew1 (Below.refl _ _))
theorem spec_owRun.But.set {w W : World} {g : Nat} (h : spec_owRun.But w W g) (j : Nat) (v : Value) : spec_owRun.But w (W.setCell ⟨g, j, none⟩ v) g := ⟨h.1.setCell (p := ⟨g, j, none⟩) (.inl rfl) v, h.2⟩
theorem spec_owRun.But.kept {B : Nat} {w W w' : World} {g : Nat} (h : spec_owRun.But W w' g) (hb : Below B w W) (hB : B ≤ g) (hs : B ≤ w.heap.size) : Below B w w' := ⟨h.2.1.trans hb.os, h.2.2.1.trans hb.tape, h.2.2.2.trans hb.output, Nat.le_trans hb.size h.1.1, fun k hk => (h.1.2 k (by have := hb.size; omega) (by omega)).trans (hb.block k hk)⟩
/-- The corner behind a block, told as the list's place. -/
def spec_owRun.nx (s t sg : ByteArray) (along : Bool) (i : Nat) : Option Nat :=
  if (spec_owFar.Stp s t ((i / s.size : Nat) : Int) ((i % s.size : Nat) : Int) (bt sg ((if along = true then i % s.size else i / s.size % sg.size : Nat) : Int))).2.2 = true then some ((spec_owFar.Stp s t ((i / s.size : Nat) : Int) ((i % s.size : Nat) : Int) (bt sg ((if along = true then i % s.size else i / s.size % sg.size : Nat) : Int))).1 * s.size + (spec_owFar.Stp s t ((i / s.size : Nat) : Int) ((i % s.size : Nat) : Int) (bt sg ((if along = true then i % s.size else i / s.size % sg.size : Nat) : Int))).2.1).toNat else none
theorem spec_owRun.ok_bd {s t : ByteArray} {x y c u v : Int} (hx : 0 ≤ x ∧ x < t.size) (hy : 0 ≤ y ∧ y < s.size) (h : (u, v, true) = spec_owFar.Stp s t x y c) : (0 ≤ u ∧ u < t.size) ∧ (0 ≤ v ∧ v < s.size) := by
  unfold spec_owFar.Stp at h
  split at h
  · have h1 := (Prod.mk.inj h).1
    have h2 := (Prod.mk.inj (Prod.mk.inj h).2).1
    have h3 := (Prod.mk.inj (Prod.mk.inj h).2).2
    have h4 := h3.symm
    rw [Bool.and_eq_true] at h4
    have h5 := of_decide_eq_true h4.1
    rw [← h1] at h5
    omega
  · split at h
    · have h1 := (Prod.mk.inj h).1
      have h2 := (Prod.mk.inj (Prod.mk.inj h).2).1
      have h3 := (Prod.mk.inj (Prod.mk.inj h).2).2
      have h4 := h3.symm
      rw [Bool.and_eq_true] at h4
      have h5 := of_decide_eq_true h4.2
      rw [← h2] at h5
      omega
    · have h3 := (Prod.mk.inj (Prod.mk.inj h).2).2
      cases h3
def spec_owRun.stepF (s t sg : ByteArray) (along : Bool) (i : Nat) (p : (Nat → Bool) × Bool) : (Nat → Bool) × Bool :=
  if p.1 i = true then (match spec_owRun.nx s t sg along i with
    | some j => if p.1 j = false then ((fun q => if q = j then true else p.1 q), true) else p
    | none => p) else p
/-- One round over all corners. -/
def spec_owRun.pass (s t sg : ByteArray) (along : Bool) : Nat → Nat → (Nat → Bool) × Bool → (Nat → Bool) × Bool
  | 0, _, p => p
  | r + 1, i, p => spec_owRun.pass s t sg along r (i + 1) (spec_owRun.stepF s t sg along i p)
/-- All rounds, until nothing is new. -/
def spec_owRun.all (s t sg : ByteArray) (along : Bool) (N : Nat) : Nat → (Nat → Bool) → Option (Nat → Bool)
  | 0, _ => none
  | k + 1, c => if (spec_owRun.pass s t sg along N 0 (c, false)).2 = true then spec_owRun.all s t sg along N k (spec_owRun.pass s t sg along N 0 (c, false)).1 else some (spec_owRun.pass s t sg along N 0 (c, false)).1
theorem spec_owRun.all_mono (s t sg : ByteArray) (along : Bool) (N : Nat) : ∀ (k : Nat) (c : Nat → Bool), LeO (spec_owRun.all s t sg along N k c) (spec_owRun.all s t sg along N (k + 1) c)
  | 0, _ => fun r h => by simp [spec_owRun.all] at h
  | k + 1, c => by
    have ih := spec_owRun.all_mono s t sg along N k
    unfold spec_owRun.all
    exact LeO.ite (ih _) (LeO.refl _)
/-- The search's cells of a row of one's own: told apart where the print asks (not in its form). -/
def spec_owRun.f (k : Nat) : Option Unit := if 1 ≤ k then some () else none
theorem spec_owRun.mono : ∀ k, LeO (spec_owRun.f k) (spec_owRun.f (k + 1)) := fun k r h => by
  simp only [spec_owRun.f] at h ⊢
  split at h
  · rw [if_pos (show 1 ≤ k + 1 by omega)]; first | exact h | done
  · cases h
theorem spec_owRun.small (d : Nat) (h : d ≤ 128) : wrap64 (d : Int) = (d : Int) := by
  unfold wrap64
  omega
set_option maxHeartbeats 8000000 in
set_option maxRecDepth 100000 in
theorem spec_owRun.walk (k : Nat) (s t sg : ByteArray) (along : Bool) (hs : 1 ≤ s.size ∧ s.size ≤ 8) (ht : 1 ≤ t.size ∧ t.size ≤ 8) (hg : sg = if along = true then s else t) (g : Nat) (c : Nat → Bool) (c' : Nat → Bool) (w : World) (hb : spec_owRun.Blk w g (s.size * t.size) c) (h : spec_owRun.all s t sg along (s.size * t.size) k c = some c') :
    Calls Try.prog 50 #[.agg #[.string s, .string t], .slice (some ⟨g, 0, none⟩) (s.size * t.size) (s.size * t.size), .string sg, .bool along] w fun e w' => e = .returned (.tuple #[]) ∧ spec_owRun.Blk w' g (s.size * t.size) c' ∧ spec_owRun.But w w' g := by
  obtain ⟨N, hN⟩ : ∃ N, N = s.size * t.size := ⟨_, rfl⟩
  have HNE := Aside0.mk hN
  have HN := Aside0.mk (show 1 ≤ N ∧ N ≤ 64 by
    rw [hN]
    exact ⟨Nat.mul_pos hs.1 ht.1, Nat.mul_le_mul hs.2 ht.2⟩)
  rw [← hN] at hb h ⊢
  have HB := Aside0.mk hb
  have H := Aside0.mk h
  have HG := Aside0.mk hg
  clear hb h hg hN
  go_enter Try.func50, Try.ntmps50
  go_wp2
  have HK0 := Aside0.mk (show spec_owRun.But w (w.alloc (.cells #[.string s, .string t] 27)) g from ⟨Kept.alloc (Kept.refl _ _) _, rfl, rfl, rfl⟩)
  have HBk := Aside0.mk (HB.out.below (below_alloc (Below.refl _ _) (.cells #[.string s, .string t] 27)))
  have HW := Aside0.mk (show (w.alloc (.cells #[.string s, .string t] 27)).heap[w.heap.size]? = some (.cells #[.string s, .string t] 27 (0, 0)) from heap_alloc_new _ _)
  go_loopg [9] k (fun kq av wr => ∃ (ag : Bool) (cc : Nat → Bool), av = .bool ag ∧ Aside0 (if ag = true then spec_owRun.all s t sg along N kq cc = some c' else cc = c') ∧ Aside0 (kq ≤ k) ∧ Aside0 (spec_owRun.Blk wr g N cc) ∧ Aside0 (spec_owRun.But w wr g) ∧ Aside0 (wr.heap[w.heap.size]? = some (.cells #[.string s, .string t] 27 (0, 0))))
  case atStart => exact ⟨true, c, rfl, ⟨by rw [if_pos rfl]; exact H.out⟩, ⟨Nat.le_refl _⟩, HBk, HK0, HW⟩
  case round =>
    clear H HB HBk HK0 HW
    obtain ⟨ag, cc, rfl, H, HK, HB, HP, HW⟩ := hrel
    cases ag with
    | false =>
      have h := H.out
      rw [if_neg (by simp)] at h
      subst h
      go_wp2
      (try simp only [Exit.inBlock, Exit.then])
      first | refine bodyPost_ret (results_none rfl _ _ _) rfl ?_ | refine bodyPost_end (results_none rfl _ _ _) rfl ?_
      exact ⟨rfl, HB.out, HP.out⟩
    | true =>
      have h := H.out
      rw [if_pos rfl] at h
      cases gk with
      | zero => exact absurd h (by simp [spec_owRun.all])
      | succ k1 =>
        simp only [spec_owRun.all] at h
        obtain ⟨P, hP⟩ : ∃ P, P = spec_owRun.pass s t sg along N 0 (cc, false) := ⟨_, rfl⟩
        rw [← hP] at h
        have HPs := Aside0.mk hP.symm
        have HH := Aside0.mk h
        clear h H hP
        go_wp2
        go_loopw [9, 23] (fun av iv wr => ∃ (i : Nat) (ag : Bool) (cq : Nat → Bool), av = .bool ag ∧ iv = .int .i64 i ∧ i ≤ N ∧ Aside0 (spec_owRun.pass s t sg along (N - i) i (cq, ag) = P) ∧ Aside0 (spec_owRun.Blk wr g N cq) ∧ Aside0 (spec_owRun.But w wr g) ∧ Aside0 (wr.heap[w.heap.size]? = some (.cells #[.string s, .string t] 27 (0, 0)))) (fun _ iv _ => N - (intOf iv).toNat)
        case atStart => exact ⟨0, false, cc, rfl, rfl, by omega, HPs, HB, HP, HW⟩
        case round =>
          clear HPs HB HP HW
          obtain ⟨i, ag, cq, rfl, rfl, hi, HPs, HB, HP, HW⟩ := hrel
          have hN64 := HN.out
          by_cases hlt : i < N
          · have hcell := HB.out.cell i hlt
            have hd : decide ((i : Int) < (N : Int)) = true := decide_eq_true (by omega)
            cases hv : cq i with
            | false =>
              rw [hv] at hcell
              have HR := Aside0.mk (show spec_owRun.pass s t sg along (N - (i + 1)) (i + 1) (cq, ag) = P by
                have z := HPs.out
                rw [show N - i = (N - (i + 1)) + 1 by omega] at z
                simp only [spec_owRun.pass, spec_owRun.stepF] at z
                rw [if_neg (by rw [hv]; simp)] at z
                exact z)
              go_wp2
              go_roundw
              case rel => exact ⟨i + 1, ag, cq, rfl, by go_num, by omega, HR, HB, HP, HW⟩
              case measure => simp [intOf]; omega
            | true =>
              rw [hv] at hcell
              obtain ⟨g1, g8⟩ : 1 ≤ sg.size ∧ sg.size ≤ 8 := by
                rw [HG.out]
                cases along with
                | true => rw [if_pos rfl]; exact hs
                | false => rw [if_neg (by simp)]; exact ht
              have e0 : wrap64 ((i : Int) / (s.size : Int)) = ((i / s.size : Nat) : Int) := by
                have z : i / s.size ≤ i := Nat.div_le_self _ _
                rw [← Int.natCast_ediv]
                generalize i / s.size = d at z ⊢
                unfold wrap64
                omega
              have e1 : ((i / s.size : Nat) : Int).tmod (sg.size : Int) = ((i / s.size % sg.size : Nat) : Int) := by rw [Int.tmod_eq_emod_of_nonneg (Int.natCast_nonneg _), Int.natCast_emod]
              have e2 : ((i : Nat) : Int).tmod (s.size : Int) = ((i % s.size : Nat) : Int) := by rw [Int.tmod_eq_emod_of_nonneg (Int.natCast_nonneg _), Int.natCast_emod]
              have l1 : i / s.size % sg.size < sg.size := Nat.mod_lt _ (by omega)
              have l2 : i % s.size < s.size := Nat.mod_lt _ (by omega)
              have ne1 : ¬ sg = ByteArray.empty := fun e => by rw [e] at g1; simp at g1
              have ne2 : ¬ s = ByteArray.empty := fun e => by have := hs.1; rw [e] at this; simp at this
              have n1 : ((i / s.size % sg.size : Nat) : Int).toNat = i / s.size % sg.size := Int.toNat_natCast _
              have p1 : (0 ≤ ((i / s.size % sg.size : Nat) : Int) ∧ ((i / s.size % sg.size : Nat) : Int) < (sg.size : Int)) := ⟨Int.natCast_nonneg _, by omega⟩
              have p2 : i / s.size % sg.size < sg.size := l1
              cases along with
              | true =>
                obtain rfl : sg = s := by have z := HG.out; rw [if_pos rfl] at z; exact z
                have hxt : i / sg.size < t.size := Nat.div_lt_of_lt_mul (by rw [← HNE.out]; exact hlt)
                obtain ⟨ko, hko⟩ := spec_owFar.step_f sg t ((i : Int) / (sg.size : Int)) ((i : Int) % (sg.size : Int)) ((sg[i % sg.size].toNat : Nat) : Int) (by rw [← Int.natCast_ediv]; exact ⟨Int.natCast_nonneg _, by omega⟩) (by rw [← Int.natCast_emod]; exact ⟨Int.natCast_nonneg _, by omega⟩) hs.2 ht.2
                have HO0 := hko ko (Nat.le_refl _)
                obtain ⟨⟨u, v, ok⟩, hst⟩ : ∃ z, z = spec_owFar.Stp sg t ((i : Int) / (sg.size : Int)) ((i : Int) % (sg.size : Int)) ((sg[i % sg.size].toNat : Nat) : Int) := ⟨_, rfl⟩
                rw [← hst] at HO0
                have HO := Aside0.mk (show ∀ W : World, Calls Try.prog 44 #[.agg #[.string sg, .string t], .int .i64 (wrap64 ((i : Int) / (sg.size : Int))), .int .i64 ((i : Int).tmod (sg.size : Int)), .int .u8 ((sg[i % sg.size].toNat : Nat) : Int)] W (fun e w' => e = .returned (.tuple #[.int .i64 u, .int .i64 v, .bool ok]) ∧ Below W.heap.size W w') from fun W => by
                  rw [e0, e2, Int.natCast_ediv, Int.natCast_emod]
                  exact spec_owStep.calls ko sg t _ _ _ u v ok W HO0)
                have HST := Aside0.mk hst
                clear HO0 hst hko
                go_wp2
                have HB1 := Aside0.mk (HB.out.below (below_drew1 (Below.refl _ _)))
                have HP1 := Aside0.mk (spec_owRun.But.drew HP.out)
                have HW1 := Aside0.mk (show wr.drew.heap[w.heap.size]? = some (.cells #[.string sg, .string t] 27 (0, 0)) from HW.out)
                have hb0 : wr.drew.cell? ⟨w.heap.size, 0, none⟩ = some (.string sg) := (blk_cell HW1.out 0).trans rfl
                have hb1 : wr.drew.cell? ⟨w.heap.size, 1, none⟩ = some (.string t) := (blk_cell HW1.out 1).trans rfl
                refine start_ (n := 16) (S := fun w' => w'.cell? ⟨w.heap.size, 0, none⟩ = some (.string sg) ∧ w'.cell? ⟨w.heap.size, 1, none⟩ = some (.string t)) (ds := []) #[false, false, false, false, false, false, false, false, false, false, false, false, false, false, false, false] (by kernel_rfl) rfl rfl ⟨hb0, hb1⟩ (fun hHeld => ?_); refine with_tabW spec_owRun.tab12 spec_owRun.bits12 (fun HT_ HW_ => ?_)
                generalize wr.drew = w5 at HB1 HP1 HW1 hb0 hb1 hHeld ⊢
                refine take_ (i := 0) (N := some 45) (v := ?_) (a' := ?_) #[true, false, false, false, false, false, false, false, false, false, false, false, false, false, false, false] rfl rfl (take_ofW HT_.out HW_.out (by kernel_rfl)) (fun _ _ _ h => h) (Or.inl ⟨by rfl, ?_⟩) hHeld ?_ ?_
                rotate_left
                · rintro w' ⟨s0, s1⟩
                  go_simp
                  with_reducible rfl
                rotate_left
                · simp only [Act.put, List.setIfInBounds_toArray, List.set_cons_zero, List.set_cons_succ, i64_w, i32_w]
                  rfl
                refine pure_ (i := 1) (N := some 46) (v := ?_) (a' := ?_) #[true, true, false, false, false, false, false, false, false, false, false, false, false, false, false, false] rfl rfl (any_of HT_.out (by kernel_rfl)) (fun _ _ _ h => h) (Or.inl ⟨by rfl, ?_⟩) ?_ ?_
                rotate_left
                · intro w'
                  go_simp
                  with_reducible rfl
                rotate_left
                · simp only [Act.put, List.setIfInBounds_toArray, List.set_cons_zero, List.set_cons_succ, i64_w, i32_w]
                  rfl
                refine pure_ (i := 2) (N := some 47) (v := ?_) (a' := ?_) #[true, true, true, false, false, false, false, false, false, false, false, false, false, false, false, false] rfl rfl (any_of HT_.out (by kernel_rfl)) (fun _ _ _ h => h) (Or.inl ⟨by rfl, ?_⟩) ?_ ?_
                rotate_left
                · intro w'
                  go_simp
                  with_reducible rfl
                rotate_left
                · simp only [Act.put, List.setIfInBounds_toArray, List.set_cons_zero, List.set_cons_succ, i64_w, i32_w]
                  rfl
                refine pure_ (i := 3) (N := some 48) (v := ?_) (a' := ?_) #[true, true, true, true, false, false, false, false, false, false, false, false, false, false, false, false] rfl rfl (any_of HT_.out (by kernel_rfl)) (fun _ _ _ h => h) (Or.inl ⟨by rfl, ?_⟩) ?_ ?_
                rotate_left
                · intro w'
                  go_simp
                  with_reducible rfl
                rotate_left
                · simp only [Act.put, List.setIfInBounds_toArray, List.set_cons_zero, List.set_cons_succ, i64_w, i32_w]
                  rfl
                refine pure_ (i := 4) (N := some 49) (v := ?_) (a' := ?_) #[true, true, true, true, true, false, false, false, false, false, false, false, false, false, false, false] rfl rfl (any_of HT_.out (by kernel_rfl)) (fun _ _ _ h => h) (Or.inl ⟨by rfl, ?_⟩) ?_ ?_
                rotate_left
                · intro w'
                  go_simp
                  with_reducible rfl
                rotate_left
                · simp only [Act.put, List.setIfInBounds_toArray, List.set_cons_zero, List.set_cons_succ, i64_w, i32_w]
                  rfl
                refine pure_ (i := 5) (N := some 50) (v := ?_) (a' := ?_) #[true, true, true, true, true, true, false, false, false, false, false, false, false, false, false, false] rfl rfl (any_of HT_.out (by kernel_rfl)) (fun _ _ _ h => h) (Or.inl ⟨by rfl, ?_⟩) ?_ ?_
                rotate_left
                · intro w'
                  go_simp
                  with_reducible rfl
                rotate_left
                · simp only [Act.put, List.setIfInBounds_toArray, List.set_cons_zero, List.set_cons_succ, i64_w, i32_w]
                  rfl
                refine pure_ (i := 6) (N := some 51) (v := ?_) (a' := ?_) #[true, true, true, true, true, true, true, false, false, false, false, false, false, false, false, false] rfl rfl (any_of HT_.out (by kernel_rfl)) (fun _ _ _ h => h) (Or.inl ⟨by rfl, ?_⟩) ?_ ?_
                rotate_left
                · intro w'
                  go_simp
                  with_reducible rfl
                rotate_left
                · simp only [Act.put, List.setIfInBounds_toArray, List.set_cons_zero, List.set_cons_succ, i64_w, i32_w]
                  rfl
                refine pure_ (i := 7) (N := some 52) (v := ?_) (a' := ?_) #[true, true, true, true, true, true, true, true, false, false, false, false, false, false, false, false] rfl rfl (any_of HT_.out (by kernel_rfl)) (fun _ _ _ h => h) (Or.inl ⟨by rfl, ?_⟩) ?_ ?_
                rotate_left
                · intro w'
                  go_simp
                  with_reducible rfl
                rotate_left
                · simp only [Act.put, List.setIfInBounds_toArray, List.set_cons_zero, List.set_cons_succ, i64_w, i32_w]
                  rfl
                refine one_ (i := 8) (N := some 53) #[true, true, true, true, true, true, true, true, true, false, false, false, false, false, false, false] rfl rfl (one_of HT_.out (by kernel_rfl)) (by decide) (fun K hK => ?_)
                refine goes_ Try.func44 (by kernel_rfl) rfl #[.agg #[.string sg, .string t], .int .i64 (wrap64 ((i : Int) / (sg.size : Int))), .int .i64 ((i : Int).tmod (sg.size : Int)), .int .u8 (((sg[i % sg.size].toNat : Nat) : Int))] (by rfl) rfl rfl (by (try simp only [List.map_toArray, List.map_cons, List.map_nil]); first | done | rfl) ?_
                with_reducible refine (HO.out _).mono ?_
                rintro e w6 ⟨rfl, hb6⟩
                refine ⟨_, rfl, ?_⟩
                have HB6 := Aside0.mk (HB1.out.below hb6)
                have HP6 := Aside0.mk (spec_owRun.But.below HP1.out hb6)
                have HW6 := Aside0.mk ((hb6.block _ (Array.getElem?_eq_some_iff.1 HW1.out).1).trans HW1.out)
                clear hb6
                refine hK.out _ _ ⟨(blk_cell HW6.out 0).trans rfl, (blk_cell HW6.out 1).trans rfl⟩ (fun hHeld => ?_)
                clear hK K
                refine norm_ (a' := ?_) ?_ ?_
                rotate_left
                · show Act.put _ (some 53) _ = _
                  simp only [Act.put, List.setIfInBounds_toArray, List.set_cons_zero, List.set_cons_succ, i64_w, i32_w]
                  rfl
                refine pure_ (i := 9) (N := some 44) (v := ?_) (a' := ?_) #[true, true, true, true, true, true, true, true, true, true, false, false, false, false, false, false] rfl rfl (any_of HT_.out (by kernel_rfl)) (fun _ _ _ h => h) (Or.inl ⟨by rfl, ?_⟩) ?_ ?_
                rotate_left
                · intro w'
                  go_simp
                  with_reducible rfl
                rotate_left
                · simp only [Act.put, List.setIfInBounds_toArray, List.set_cons_zero, List.set_cons_succ, i64_w, i32_w]
                  rfl
                refine pure_ (i := 10) (N := some 54) (v := ?_) (a' := ?_) #[true, true, true, true, true, true, true, true, true, true, true, false, false, false, false, false] rfl rfl (any_of HT_.out (by kernel_rfl)) (fun _ _ _ h => h) (Or.inl ⟨by rfl, ?_⟩) ?_ ?_
                rotate_left
                · intro w'
                  go_simp
                  with_reducible rfl
                rotate_left
                · simp only [Act.put, List.setIfInBounds_toArray, List.set_cons_zero, List.set_cons_succ, i64_w, i32_w]
                  rfl
                refine pure_ (i := 11) (N := some 55) (v := ?_) (a' := ?_) #[true, true, true, true, true, true, true, true, true, true, true, true, false, false, false, false] rfl rfl (any_of HT_.out (by kernel_rfl)) (fun _ _ _ h => h) (Or.inl ⟨by rfl, ?_⟩) ?_ ?_
                rotate_left
                · intro w'
                  go_simp
                  with_reducible rfl
                rotate_left
                · simp only [Act.put, List.setIfInBounds_toArray, List.set_cons_zero, List.set_cons_succ, i64_w, i32_w]
                  rfl
                refine pure_ (i := 12) (N := some 56) (v := ?_) (a' := ?_) #[true, true, true, true, true, true, true, true, true, true, true, true, true, false, false, false] rfl rfl (any_of HT_.out (by kernel_rfl)) (fun _ _ _ h => h) (Or.inl ⟨by rfl, ?_⟩) ?_ ?_
                rotate_left
                · intro w'
                  go_simp
                  with_reducible rfl
                rotate_left
                · simp only [Act.put, List.setIfInBounds_toArray, List.set_cons_zero, List.set_cons_succ, i64_w, i32_w]
                  rfl
                refine pure_ (i := 13) (N := some 13) (v := ?_) (a' := ?_) #[true, true, true, true, true, true, true, true, true, true, true, true, true, true, false, false] rfl rfl (any_of HT_.out (by kernel_rfl)) (fun _ _ _ h => h) (Or.inl ⟨by rfl, ?_⟩) ?_ ?_
                rotate_left
                · intro w'
                  go_simp
                  with_reducible rfl
                rotate_left
                · simp only [Act.put, List.setIfInBounds_toArray, List.set_cons_zero, List.set_cons_succ, i64_w, i32_w]
                  rfl
                refine pure_ (i := 14) (N := some 14) (v := ?_) (a' := ?_) #[true, true, true, true, true, true, true, true, true, true, true, true, true, true, true, false] rfl rfl (any_of HT_.out (by kernel_rfl)) (fun _ _ _ h => h) (Or.inl ⟨by rfl, ?_⟩) ?_ ?_
                rotate_left
                · intro w'
                  go_simp
                  with_reducible rfl
                rotate_left
                · simp only [Act.put, List.setIfInBounds_toArray, List.set_cons_zero, List.set_cons_succ, i64_w, i32_w]
                  rfl
                refine pure_ (i := 15) (N := some 15) (v := ?_) (a' := ?_) #[true, true, true, true, true, true, true, true, true, true, true, true, true, true, true, true] rfl rfl (any_of HT_.out (by kernel_rfl)) (fun _ _ _ h => h) (Or.inl ⟨by rfl, ?_⟩) ?_ ?_
                rotate_left
                · intro w'
                  go_simp
                  with_reducible rfl
                rotate_left
                · simp only [Act.put, List.setIfInBounds_toArray, List.set_cons_zero, List.set_cons_succ, i64_w, i32_w]
                  rfl
                refine done_ (done_of HT_.out (by kernel_rfl)) ?_
                clear hHeld HT_ HW_ hb0 hb1 hcell
                have HNX := Aside0.mk (show spec_owRun.nx sg t sg true i = if ok = true then some (u * sg.size + v).toNat else none by
                  unfold spec_owRun.nx
                  simp only [if_true]
                  rw [impl_driveIn.bt_k sg _ l2, Int.natCast_ediv, Int.natCast_emod, ← HST.out])
                have HBD := Aside0.mk (show ok = true → (0 ≤ u ∧ u < t.size) ∧ (0 ≤ v ∧ v < sg.size) from fun e => spec_owRun.ok_bd (s := sg) (t := t) (x := (i : Int) / (sg.size : Int)) (y := (i : Int) % (sg.size : Int)) (c := ((sg[i % sg.size].toNat : Nat) : Int)) (by rw [← Int.natCast_ediv]; exact ⟨Int.natCast_nonneg _, by omega⟩) (by rw [← Int.natCast_emod]; exact ⟨Int.natCast_nonneg _, by omega⟩) (by rw [← HST.out, e]))
                clear e0 e1 e2 p1 n1
                cases ok with
                | false =>
                  have HR := Aside0.mk (show spec_owRun.pass sg t sg true (N - (i + 1)) (i + 1) (cq, ag) = P by
                    have z := HPs.out
                    rw [show N - i = (N - (i + 1)) + 1 by omega] at z
                    simp only [spec_owRun.pass, spec_owRun.stepF] at z
                    rw [if_pos hv, HNX.out] at z
                    simpa using z)
                  go_wp2
                  go_roundw
                  case rel => exact ⟨i + 1, ag, cq, rfl, by go_num, by omega, HR, HB6, HP6, HW6⟩
                  case measure => simp [intOf]; omega
                | true =>
                  obtain ⟨⟨u0, u1⟩, v0, v1⟩ := HBD.out rfl
                  obtain ⟨ux, rfl⟩ := Int.eq_ofNat_of_zero_le u0
                  obtain ⟨vy, rfl⟩ := Int.eq_ofNat_of_zero_le v0
                  obtain ⟨j, hj⟩ : ∃ j, j = ux * sg.size + vy := ⟨_, rfl⟩
                  have hjN : j < N := by
                    have z : (ux + 1) * sg.size ≤ t.size * sg.size := Nat.mul_le_mul_right _ (by omega)
                    rw [Nat.succ_mul] at z
                    rw [HNE.out, Nat.mul_comm sg.size t.size]
                    omega
                  have hm8 : ux * sg.size ≤ 64 := by omega
                  have ew1 : wrap64 ((ux : Int) * (sg.size : Int)) = (ux : Int) * (sg.size : Int) := by
                    rw [← Int.natCast_mul]
                    exact spec_owRun.small _ (by omega)
                  have ew2 : wrap64 ((ux : Int) * (sg.size : Int) + (vy : Int)) = (j : Int) := by
                    rw [← Int.natCast_mul, ← Int.natCast_add, ← hj]
                    exact spec_owRun.small _ (by have := HN.out; omega)
                  have ew3 : IntKind.i64.wrap ((ux : Int) * (sg.size : Int) + (vy : Int)) = (j : Int) := (i64_w _).trans ew2
                  have HNX2 := Aside0.mk (show spec_owRun.nx sg t sg true i = some j by
                    rw [HNX.out, if_pos rfl, ← Int.natCast_mul, ← Int.natCast_add, Int.toNat_natCast, hj])
                  have hcj := HB6.out.cell j hjN
                  have hfj := HB6.out.free j
                  have HJ := Aside0.mk hjN
                  clear u0 u1 v0 v1 hj hm8 HNX HBD HST HO
                  cases hq : cq j with
                  | true =>
                    rw [hq] at hcj
                    have HR := Aside0.mk (show spec_owRun.pass sg t sg true (N - (i + 1)) (i + 1) (cq, ag) = P by
                      have z := HPs.out
                      rw [show N - i = (N - (i + 1)) + 1 by omega] at z
                      simp only [spec_owRun.pass, spec_owRun.stepF] at z
                      rw [if_pos hv, HNX2.out] at z
                      simpa [hq] using z)
                    go_wp2
                    go_roundw
                    case rel => exact ⟨i + 1, ag, cq, rfl, by go_num, by omega, HR, HB6, HP6, HW6⟩
                    case measure => simp [intOf]; omega
                  | false =>
                    rw [hq] at hcj
                    have HR := Aside0.mk (show spec_owRun.pass sg t sg true (N - (i + 1)) (i + 1) ((fun q => if q = j then true else cq q), true) = P by
                      have z := HPs.out
                      rw [show N - i = (N - (i + 1)) + 1 by omega] at z
                      simp only [spec_owRun.pass, spec_owRun.stepF] at z
                      rw [if_pos hv, HNX2.out] at z
                      simpa [hq] using z)
                    have hne : w.heap.size ≠ g := fun e => by
                      obtain ⟨cur, z, -⟩ := HB6.out
                      rw [← e, HW6.out] at z
                      simp at z
                    go_wp2
                    exact ⟨⟨i + 1, true, _, rfl, by go_num, by omega, HR, ⟨HB6.out.set j hjN true⟩, ⟨spec_owRun.But.set HP6.out j _⟩, ⟨(Below.heap_setCell w6 ⟨g, j, none⟩ _ _ hne).trans HW6.out⟩⟩, by simp [intOf]; omega⟩
              | false =>
                obtain rfl : sg = t := by have z := HG.out; rw [if_neg (by simp)] at z; exact z
                have hxt : i / s.size < sg.size := Nat.div_lt_of_lt_mul (by rw [← HNE.out]; exact hlt)
                obtain ⟨ko, hko⟩ := spec_owFar.step_f s sg ((i : Int) / (s.size : Int)) ((i : Int) % (s.size : Int)) ((sg[i / s.size % sg.size].toNat : Nat) : Int) (by rw [← Int.natCast_ediv]; exact ⟨Int.natCast_nonneg _, by omega⟩) (by rw [← Int.natCast_emod]; exact ⟨Int.natCast_nonneg _, by omega⟩) hs.2 ht.2
                have HO0 := hko ko (Nat.le_refl _)
                obtain ⟨⟨u, v, ok⟩, hst⟩ : ∃ z, z = spec_owFar.Stp s sg ((i : Int) / (s.size : Int)) ((i : Int) % (s.size : Int)) ((sg[i / s.size % sg.size].toNat : Nat) : Int) := ⟨_, rfl⟩
                rw [← hst] at HO0
                have HO := Aside0.mk (show ∀ W : World, Calls Try.prog 44 #[.agg #[.string s, .string sg], .int .i64 (wrap64 ((i : Int) / (s.size : Int))), .int .i64 ((i : Int).tmod (s.size : Int)), .int .u8 ((sg[i / s.size % sg.size].toNat : Nat) : Int)] W (fun e w' => e = .returned (.tuple #[.int .i64 u, .int .i64 v, .bool ok]) ∧ Below W.heap.size W w') from fun W => by
                  rw [e0, e2, Int.natCast_ediv, Int.natCast_emod]
                  exact spec_owStep.calls ko s sg _ _ _ u v ok W HO0)
                have HST := Aside0.mk hst
                clear HO0 hst hko
                go_wp2
                have HB1 := Aside0.mk (HB.out.below (below_drew1 (Below.refl _ _)))
                have HP1 := Aside0.mk (spec_owRun.But.drew HP.out)
                have HW1 := Aside0.mk (show wr.drew.heap[w.heap.size]? = some (.cells #[.string s, .string sg] 27 (0, 0)) from HW.out)
                have hb0 : wr.drew.cell? ⟨w.heap.size, 0, none⟩ = some (.string s) := (blk_cell HW1.out 0).trans rfl
                have hb1 : wr.drew.cell? ⟨w.heap.size, 1, none⟩ = some (.string sg) := (blk_cell HW1.out 1).trans rfl
                refine start_ (n := 16) (S := fun w' => w'.cell? ⟨w.heap.size, 0, none⟩ = some (.string s) ∧ w'.cell? ⟨w.heap.size, 1, none⟩ = some (.string sg)) (ds := []) #[false, false, false, false, false, false, false, false, false, false, false, false, false, false, false, false] (by kernel_rfl) rfl rfl ⟨hb0, hb1⟩ (fun hHeld => ?_); refine with_tabW spec_owRun.tab12 spec_owRun.bits12 (fun HT_ HW_ => ?_)
                generalize wr.drew = w5 at HB1 HP1 HW1 hb0 hb1 hHeld ⊢
                refine take_ (i := 0) (N := some 45) (v := ?_) (a' := ?_) #[true, false, false, false, false, false, false, false, false, false, false, false, false, false, false, false] rfl rfl (take_ofW HT_.out HW_.out (by kernel_rfl)) (fun _ _ _ h => h) (Or.inl ⟨by rfl, ?_⟩) hHeld ?_ ?_
                rotate_left
                · rintro w' ⟨s0, s1⟩
                  go_simp
                  with_reducible rfl
                rotate_left
                · simp only [Act.put, List.setIfInBounds_toArray, List.set_cons_zero, List.set_cons_succ, i64_w, i32_w]
                  rfl
                refine pure_ (i := 1) (N := some 46) (v := ?_) (a' := ?_) #[true, true, false, false, false, false, false, false, false, false, false, false, false, false, false, false] rfl rfl (any_of HT_.out (by kernel_rfl)) (fun _ _ _ h => h) (Or.inl ⟨by rfl, ?_⟩) ?_ ?_
                rotate_left
                · intro w'
                  go_simp
                  with_reducible rfl
                rotate_left
                · simp only [Act.put, List.setIfInBounds_toArray, List.set_cons_zero, List.set_cons_succ, i64_w, i32_w]
                  rfl
                refine pure_ (i := 2) (N := some 47) (v := ?_) (a' := ?_) #[true, true, true, false, false, false, false, false, false, false, false, false, false, false, false, false] rfl rfl (any_of HT_.out (by kernel_rfl)) (fun _ _ _ h => h) (Or.inl ⟨by rfl, ?_⟩) ?_ ?_
                rotate_left
                · intro w'
                  go_simp
                  with_reducible rfl
                rotate_left
                · simp only [Act.put, List.setIfInBounds_toArray, List.set_cons_zero, List.set_cons_succ, i64_w, i32_w]
                  rfl
                refine pure_ (i := 3) (N := some 48) (v := ?_) (a' := ?_) #[true, true, true, true, false, false, false, false, false, false, false, false, false, false, false, false] rfl rfl (any_of HT_.out (by kernel_rfl)) (fun _ _ _ h => h) (Or.inl ⟨by rfl, ?_⟩) ?_ ?_
                rotate_left
                · intro w'
                  go_simp
                  with_reducible rfl
                rotate_left
                · simp only [Act.put, List.setIfInBounds_toArray, List.set_cons_zero, List.set_cons_succ, i64_w, i32_w]
                  rfl
                refine pure_ (i := 4) (N := some 49) (v := ?_) (a' := ?_) #[true, true, true, true, true, false, false, false, false, false, false, false, false, false, false, false] rfl rfl (any_of HT_.out (by kernel_rfl)) (fun _ _ _ h => h) (Or.inl ⟨by rfl, ?_⟩) ?_ ?_
                rotate_left
                · intro w'
                  go_simp
                  with_reducible rfl
                rotate_left
                · simp only [Act.put, List.setIfInBounds_toArray, List.set_cons_zero, List.set_cons_succ, i64_w, i32_w]
                  rfl
                refine pure_ (i := 5) (N := some 50) (v := ?_) (a' := ?_) #[true, true, true, true, true, true, false, false, false, false, false, false, false, false, false, false] rfl rfl (any_of HT_.out (by kernel_rfl)) (fun _ _ _ h => h) (Or.inl ⟨by rfl, ?_⟩) ?_ ?_
                rotate_left
                · intro w'
                  go_simp
                  with_reducible rfl
                rotate_left
                · simp only [Act.put, List.setIfInBounds_toArray, List.set_cons_zero, List.set_cons_succ, i64_w, i32_w]
                  rfl
                refine pure_ (i := 6) (N := some 51) (v := ?_) (a' := ?_) #[true, true, true, true, true, true, true, false, false, false, false, false, false, false, false, false] rfl rfl (any_of HT_.out (by kernel_rfl)) (fun _ _ _ h => h) (Or.inl ⟨by rfl, ?_⟩) ?_ ?_
                rotate_left
                · intro w'
                  go_simp
                  with_reducible rfl
                rotate_left
                · simp only [Act.put, List.setIfInBounds_toArray, List.set_cons_zero, List.set_cons_succ, i64_w, i32_w]
                  rfl
                refine pure_ (i := 7) (N := some 52) (v := ?_) (a' := ?_) #[true, true, true, true, true, true, true, true, false, false, false, false, false, false, false, false] rfl rfl (any_of HT_.out (by kernel_rfl)) (fun _ _ _ h => h) (Or.inl ⟨by rfl, ?_⟩) ?_ ?_
                rotate_left
                · intro w'
                  go_simp
                  with_reducible rfl
                rotate_left
                · simp only [Act.put, List.setIfInBounds_toArray, List.set_cons_zero, List.set_cons_succ, i64_w, i32_w]
                  rfl
                refine one_ (i := 8) (N := some 53) #[true, true, true, true, true, true, true, true, true, false, false, false, false, false, false, false] rfl rfl (one_of HT_.out (by kernel_rfl)) (by decide) (fun K hK => ?_)
                refine goes_ Try.func44 (by kernel_rfl) rfl #[.agg #[.string s, .string sg], .int .i64 (wrap64 ((i : Int) / (s.size : Int))), .int .i64 ((i : Int).tmod (s.size : Int)), .int .u8 (((sg[i / s.size % sg.size].toNat : Nat) : Int))] (by rfl) rfl rfl (by (try simp only [List.map_toArray, List.map_cons, List.map_nil]); first | done | rfl) ?_
                with_reducible refine (HO.out _).mono ?_
                rintro e w6 ⟨rfl, hb6⟩
                refine ⟨_, rfl, ?_⟩
                have HB6 := Aside0.mk (HB1.out.below hb6)
                have HP6 := Aside0.mk (spec_owRun.But.below HP1.out hb6)
                have HW6 := Aside0.mk ((hb6.block _ (Array.getElem?_eq_some_iff.1 HW1.out).1).trans HW1.out)
                clear hb6
                refine hK.out _ _ ⟨(blk_cell HW6.out 0).trans rfl, (blk_cell HW6.out 1).trans rfl⟩ (fun hHeld => ?_)
                clear hK K
                refine norm_ (a' := ?_) ?_ ?_
                rotate_left
                · show Act.put _ (some 53) _ = _
                  simp only [Act.put, List.setIfInBounds_toArray, List.set_cons_zero, List.set_cons_succ, i64_w, i32_w]
                  rfl
                refine pure_ (i := 9) (N := some 44) (v := ?_) (a' := ?_) #[true, true, true, true, true, true, true, true, true, true, false, false, false, false, false, false] rfl rfl (any_of HT_.out (by kernel_rfl)) (fun _ _ _ h => h) (Or.inl ⟨by rfl, ?_⟩) ?_ ?_
                rotate_left
                · intro w'
                  go_simp
                  with_reducible rfl
                rotate_left
                · simp only [Act.put, List.setIfInBounds_toArray, List.set_cons_zero, List.set_cons_succ, i64_w, i32_w]
                  rfl
                refine pure_ (i := 10) (N := some 54) (v := ?_) (a' := ?_) #[true, true, true, true, true, true, true, true, true, true, true, false, false, false, false, false] rfl rfl (any_of HT_.out (by kernel_rfl)) (fun _ _ _ h => h) (Or.inl ⟨by rfl, ?_⟩) ?_ ?_
                rotate_left
                · intro w'
                  go_simp
                  with_reducible rfl
                rotate_left
                · simp only [Act.put, List.setIfInBounds_toArray, List.set_cons_zero, List.set_cons_succ, i64_w, i32_w]
                  rfl
                refine pure_ (i := 11) (N := some 55) (v := ?_) (a' := ?_) #[true, true, true, true, true, true, true, true, true, true, true, true, false, false, false, false] rfl rfl (any_of HT_.out (by kernel_rfl)) (fun _ _ _ h => h) (Or.inl ⟨by rfl, ?_⟩) ?_ ?_
                rotate_left
                · intro w'
                  go_simp
                  with_reducible rfl
                rotate_left
                · simp only [Act.put, List.setIfInBounds_toArray, List.set_cons_zero, List.set_cons_succ, i64_w, i32_w]
                  rfl
                refine pure_ (i := 12) (N := some 56) (v := ?_) (a' := ?_) #[true, true, true, true, true, true, true, true, true, true, true, true, true, false, false, false] rfl rfl (any_of HT_.out (by kernel_rfl)) (fun _ _ _ h => h) (Or.inl ⟨by rfl, ?_⟩) ?_ ?_
                rotate_left
                · intro w'
                  go_simp
                  with_reducible rfl
                rotate_left
                · simp only [Act.put, List.setIfInBounds_toArray, List.set_cons_zero, List.set_cons_succ, i64_w, i32_w]
                  rfl
                refine pure_ (i := 13) (N := some 13) (v := ?_) (a' := ?_) #[true, true, true, true, true, true, true, true, true, true, true, true, true, true, false, false] rfl rfl (any_of HT_.out (by kernel_rfl)) (fun _ _ _ h => h) (Or.inl ⟨by rfl, ?_⟩) ?_ ?_
                rotate_left
                · intro w'
                  go_simp
                  with_reducible rfl
                rotate_left
                · simp only [Act.put, List.setIfInBounds_toArray, List.set_cons_zero, List.set_cons_succ, i64_w, i32_w]
                  rfl
                refine pure_ (i := 14) (N := some 14) (v := ?_) (a' := ?_) #[true, true, true, true, true, true, true, true, true, true, true, true, true, true, true, false] rfl rfl (any_of HT_.out (by kernel_rfl)) (fun _ _ _ h => h) (Or.inl ⟨by rfl, ?_⟩) ?_ ?_
                rotate_left
                · intro w'
                  go_simp
                  with_reducible rfl
                rotate_left
                · simp only [Act.put, List.setIfInBounds_toArray, List.set_cons_zero, List.set_cons_succ, i64_w, i32_w]
                  rfl
                refine pure_ (i := 15) (N := some 15) (v := ?_) (a' := ?_) #[true, true, true, true, true, true, true, true, true, true, true, true, true, true, true, true] rfl rfl (any_of HT_.out (by kernel_rfl)) (fun _ _ _ h => h) (Or.inl ⟨by rfl, ?_⟩) ?_ ?_
                rotate_left
                · intro w'
                  go_simp
                  with_reducible rfl
                rotate_left
                · simp only [Act.put, List.setIfInBounds_toArray, List.set_cons_zero, List.set_cons_succ, i64_w, i32_w]
                  rfl
                refine done_ (done_of HT_.out (by kernel_rfl)) ?_
                clear hHeld HT_ HW_ hb0 hb1 hcell
                have HNX := Aside0.mk (show spec_owRun.nx s sg sg false i = if ok = true then some (u * s.size + v).toNat else none by
                  unfold spec_owRun.nx
                  simp only [Bool.false_eq_true, if_false]
                  rw [impl_driveIn.bt_k sg _ l1, Int.natCast_ediv, Int.natCast_emod, ← HST.out])
                have HBD := Aside0.mk (show ok = true → (0 ≤ u ∧ u < sg.size) ∧ (0 ≤ v ∧ v < s.size) from fun e => spec_owRun.ok_bd (s := s) (t := sg) (x := (i : Int) / (s.size : Int)) (y := (i : Int) % (s.size : Int)) (c := ((sg[i / s.size % sg.size].toNat : Nat) : Int)) (by rw [← Int.natCast_ediv]; exact ⟨Int.natCast_nonneg _, by omega⟩) (by rw [← Int.natCast_emod]; exact ⟨Int.natCast_nonneg _, by omega⟩) (by rw [← HST.out, e]))
                clear e0 e1 e2 p1 n1
                cases ok with
                | false =>
                  have HR := Aside0.mk (show spec_owRun.pass s sg sg false (N - (i + 1)) (i + 1) (cq, ag) = P by
                    have z := HPs.out
                    rw [show N - i = (N - (i + 1)) + 1 by omega] at z
                    simp only [spec_owRun.pass, spec_owRun.stepF] at z
                    rw [if_pos hv, HNX.out] at z
                    simpa using z)
                  go_wp2
                  go_roundw
                  case rel => exact ⟨i + 1, ag, cq, rfl, by go_num, by omega, HR, HB6, HP6, HW6⟩
                  case measure => simp [intOf]; omega
                | true =>
                  obtain ⟨⟨u0, u1⟩, v0, v1⟩ := HBD.out rfl
                  obtain ⟨ux, rfl⟩ := Int.eq_ofNat_of_zero_le u0
                  obtain ⟨vy, rfl⟩ := Int.eq_ofNat_of_zero_le v0
                  obtain ⟨j, hj⟩ : ∃ j, j = ux * s.size + vy := ⟨_, rfl⟩
                  have hjN : j < N := by
                    have z : (ux + 1) * s.size ≤ sg.size * s.size := Nat.mul_le_mul_right _ (by omega)
                    rw [Nat.succ_mul] at z
                    rw [HNE.out, Nat.mul_comm s.size sg.size]
                    omega
                  have hm8 : ux * s.size ≤ 64 := by omega
                  have ew1 : wrap64 ((ux : Int) * (s.size : Int)) = (ux : Int) * (s.size : Int) := by
                    rw [← Int.natCast_mul]
                    exact spec_owRun.small _ (by omega)
                  have ew2 : wrap64 ((ux : Int) * (s.size : Int) + (vy : Int)) = (j : Int) := by
                    rw [← Int.natCast_mul, ← Int.natCast_add, ← hj]
                    exact spec_owRun.small _ (by have := HN.out; omega)
                  have ew3 : IntKind.i64.wrap ((ux : Int) * (s.size : Int) + (vy : Int)) = (j : Int) := (i64_w _).trans ew2
                  have HNX2 := Aside0.mk (show spec_owRun.nx s sg sg false i = some j by
                    rw [HNX.out, if_pos rfl, ← Int.natCast_mul, ← Int.natCast_add, Int.toNat_natCast, hj])
                  have hcj := HB6.out.cell j hjN
                  have hfj := HB6.out.free j
                  have HJ := Aside0.mk hjN
                  clear u0 u1 v0 v1 hj hm8 HNX HBD HST HO
                  cases hq : cq j with
                  | true =>
                    rw [hq] at hcj
                    have HR := Aside0.mk (show spec_owRun.pass s sg sg false (N - (i + 1)) (i + 1) (cq, ag) = P by
                      have z := HPs.out
                      rw [show N - i = (N - (i + 1)) + 1 by omega] at z
                      simp only [spec_owRun.pass, spec_owRun.stepF] at z
                      rw [if_pos hv, HNX2.out] at z
                      simpa [hq] using z)
                    go_wp2
                    go_roundw
                    case rel => exact ⟨i + 1, ag, cq, rfl, by go_num, by omega, HR, HB6, HP6, HW6⟩
                    case measure => simp [intOf]; omega
                  | false =>
                    rw [hq] at hcj
                    have HR := Aside0.mk (show spec_owRun.pass s sg sg false (N - (i + 1)) (i + 1) ((fun q => if q = j then true else cq q), true) = P by
                      have z := HPs.out
                      rw [show N - i = (N - (i + 1)) + 1 by omega] at z
                      simp only [spec_owRun.pass, spec_owRun.stepF] at z
                      rw [if_pos hv, HNX2.out] at z
                      simpa [hq] using z)
                    have hne : w.heap.size ≠ g := fun e => by
                      obtain ⟨cur, z, -⟩ := HB6.out
                      rw [← e, HW6.out] at z
                      simp at z
                    go_wp2
                    exact ⟨⟨i + 1, true, _, rfl, by go_num, by omega, HR, ⟨HB6.out.set j hjN true⟩, ⟨spec_owRun.But.set HP6.out j _⟩, ⟨(Below.heap_setCell w6 ⟨g, j, none⟩ _ _ hne).trans HW6.out⟩⟩, by simp [intOf]; omega⟩
          · obtain rfl : i = N := by omega
            have hd : decide ((i : Int) < (i : Int)) = false := decide_eq_false (by omega)
            have z := HPs.out
            rw [Nat.sub_self] at z
            simp only [spec_owRun.pass] at z
            have h := HH.out
            rw [← z] at h
            have HH2 := Aside0.mk h
            clear h z HH HPs
            go_wp2
            go_roundg k1
            case measure => have := HK.out; omega
            case rel => exact ⟨ag, cq, rfl, ⟨by
              have h := HH2.out
              cases ag with
              | true => rw [if_pos rfl] at h ⊢; exact h
              | false => rw [if_neg (by simp)] at h ⊢; exact Option.some.inj h⟩, ⟨by have := HK.out; omega⟩, HB, HP, HW⟩

end Go.Proofs.Ytopbmiedlpkmjaa.MR
