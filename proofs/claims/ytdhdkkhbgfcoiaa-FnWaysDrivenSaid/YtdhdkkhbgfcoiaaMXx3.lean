-- The machine side, written by this repo's program mp.py; contracts marked as of this repo are this session's own.
import Derived.Test.YtdhdkkhbgfcoiaaMXx0
import Derived.Test.YtdhdkkhbgfcoiaaMXx1
import Derived.Test.YtdhdkkhbgfcoiaaMXx2
namespace Go.Proofs.Ytdhdkkhbgfcoiaa.MX
open Go.RowKit Go.Proofs.YtdhdkkhbgfcoiaaW.PrintWords Go.Proofs.YtdhdkkhbgfcoiaaW.PrintLast Go.Proofs.YtdhdkkhbgfcoiaaW.PrintMore
attribute [local go_sem] max2_int min2_int max_two min_two max_three min_three max_four min_four   -- for this text's walks alone
set_option maxHeartbeats 8000000
set_option maxRecDepth 100000
set_option linter.unusedVariables false
set_option linter.unusedSimpArgs false
def spec_l1Cur_crossing.f (s0_0 : List Int) (s0_1 : Int) (s0_2 : Int) (a1_0 : ByteArray) (a1_1 : ByteArray) : Option (List Int × Int × Int) := (spec_l1Cur_one.f s0_0 s0_1 s0_2 14).bind fun bt160 => (if bt160.1 = true then ((some (([[], (([0] : List Int)), (([0, 0, 0] : List Int)), (([(-1), 0] : List Int)), (([0, 8] : List Int)), (([4611686018427387904, 0] : List Int))] : List (List Int)) : List (List Int))).bind fun y178 => ((spec_l1Cur_pick.f s0_0 bt160.2.1 bt160.2.2 6).bind fun bt181 => (if 0 ≤ bt181.1 then (if bt181.1 < (y178.length : Int) then (some (rd_L3 y178 bt181.1, bt181.2.1, bt181.2.2)) else (none)) else (none)))) else ((spec_l1Most.f 1 (a1_1.size : Int)).bind fun t185 => ((spec_l1Cur_pick.f s0_0 bt160.2.1 bt160.2.2 t185).bind fun bt186 => ((spec_l1Most.f 1 (a1_0.size : Int)).bind fun t189 => ((spec_l1Cur_pick.f s0_0 bt186.2.1 bt186.2.2 t189).bind fun bt190 => (some ((([bt186.1, bt190.1] : List Int)), bt190.2.1, bt190.2.2)))))))
def spec_l1Cur_crossing.T3 : Bool × List (List Nat × List Nat) := (true, [([], []), ([], []), ([1], [1]), ([2], [2]), ([3], [3]), ([0, 4, 4], [0, 4]), ([], []), ([], []), ([7], [7]), ([8], [8]), ([9, 5], [9]), ([6, 10, 10], [6, 10]), ([5, 11], [5, 11]), ([12, 11, 0, 1, 2, 3, 4, 5, 6, 7, 8, 9, 10, 11, 12], [12])])
def spec_l1Cur_crossing.B3 : List Nat := [0, 0, 2, 6, 14, 31, 0, 0, 128, 384, 959, 2047, 4095, 8191]
theorem spec_l1Cur_crossing.tab3 : rtab .any (opsOf Try.f69 3) = spec_l1Cur_crossing.T3 := by kernel_rfl
theorem spec_l1Cur_crossing.bits3 : waitsOk spec_l1Cur_crossing.T3.2 spec_l1Cur_crossing.B3 = true := by kernel_rfl
theorem spec_l1Cur_crossing.calls (g : Nat) (s0_0 : List Int) (s0_1 : Int) (s0_2 : Int) (a1_0 : ByteArray) (a1_1 : ByteArray) (r1 : List Int) (r2 : Int) (r3 : Int) (w0 w : World) (hI : IsS71 w0 w g s0_0 s0_1 s0_2) (hB : Below w0.heap.size w0 w) (h : spec_l1Cur_crossing.f s0_0 s0_1 s0_2 a1_0 a1_1 = some (r1, r2, r3)) :
  Calls Try.prog 69 #[.pointer (some ⟨g, 0, none⟩), .agg #[.string a1_0, .string a1_1]] w fun e w' => ∃ v0_ : Value, e = .returned (v0_) ∧ Kd.V (Kd.int .i64) 3 w' w.heap.size (fun k_ => (w.heap.size ≤ k_)) v0_ r1 ∧ IsS71 w0 w' g s0_0 r2 r3 ∧ Below w0.heap.size w0 w' ∧ KeepBut w w' g none := by
 have hu25 := Try.underlying25
 have HI0 := am hI
 have HK := am (KeepBut.refl w g none)
 have HL := am hB.size
 clear hI
 have HW0 := am hB.size
 have HB := am hB
 clear hB
 unfold spec_l1Cur_crossing.f at h
 have H := h
 clear h
 obtain ⟨⟨t160, t161, t162⟩, A3, H⟩ := bnd_ H
 try dsimp only at H
 by_cases c4 : t160 = true
 ·subst c4
  rw [if_pos rfl] at H
  obtain ⟨y163, hy163⟩ : ∃ y_ : List Int, y_ = (([0] : List Int)) := ⟨_, rfl⟩
  replace H : ((some (([[], y163, (([0, 0, 0] : List Int)), (([(-1), 0] : List Int)), (([0, 8] : List Int)), (([4611686018427387904, 0] : List Int))] : List (List Int)) : List (List Int))).bind fun y178 => ((spec_l1Cur_pick.f s0_0 t161 t162 6).bind fun bt181 => (if 0 ≤ bt181.1 then (if bt181.1 < (y178.length : Int) then (some (rd_L3 y178 bt181.1, bt181.2.1, bt181.2.2)) else (none)) else (none)))) = some (r1, r2, r3) := by first | (rw [hy163]; with_reducible exact H)
  have Ny163 := am hy163
  clear hy163
  obtain ⟨y166, hy166⟩ : ∃ y_ : List Int, y_ = (([0, 0, 0] : List Int)) := ⟨_, rfl⟩
  replace H : ((some (([[], y163, y166, (([(-1), 0] : List Int)), (([0, 8] : List Int)), (([4611686018427387904, 0] : List Int))] : List (List Int)) : List (List Int))).bind fun y178 => ((spec_l1Cur_pick.f s0_0 t161 t162 6).bind fun bt181 => (if 0 ≤ bt181.1 then (if bt181.1 < (y178.length : Int) then (some (rd_L3 y178 bt181.1, bt181.2.1, bt181.2.2)) else (none)) else (none)))) = some (r1, r2, r3) := by first | (rw [hy166]; with_reducible exact H)
  have Ny166 := am hy166
  clear hy166
  obtain ⟨y169, hy169⟩ : ∃ y_ : List Int, y_ = (([(-1), 0] : List Int)) := ⟨_, rfl⟩
  replace H : ((some (([[], y163, y166, y169, (([0, 8] : List Int)), (([4611686018427387904, 0] : List Int))] : List (List Int)) : List (List Int))).bind fun y178 => ((spec_l1Cur_pick.f s0_0 t161 t162 6).bind fun bt181 => (if 0 ≤ bt181.1 then (if bt181.1 < (y178.length : Int) then (some (rd_L3 y178 bt181.1, bt181.2.1, bt181.2.2)) else (none)) else (none)))) = some (r1, r2, r3) := by first | (rw [hy169]; with_reducible exact H)
  have Ny169 := am hy169
  clear hy169
  obtain ⟨y172, hy172⟩ : ∃ y_ : List Int, y_ = (([0, 8] : List Int)) := ⟨_, rfl⟩
  replace H : ((some (([[], y163, y166, y169, y172, (([4611686018427387904, 0] : List Int))] : List (List Int)) : List (List Int))).bind fun y178 => ((spec_l1Cur_pick.f s0_0 t161 t162 6).bind fun bt181 => (if 0 ≤ bt181.1 then (if bt181.1 < (y178.length : Int) then (some (rd_L3 y178 bt181.1, bt181.2.1, bt181.2.2)) else (none)) else (none)))) = some (r1, r2, r3) := by first | (rw [hy172]; with_reducible exact H)
  have Ny172 := am hy172
  clear hy172
  obtain ⟨y175, hy175⟩ : ∃ y_ : List Int, y_ = (([4611686018427387904, 0] : List Int)) := ⟨_, rfl⟩
  replace H : ((some (([[], y163, y166, y169, y172, y175] : List (List Int)) : List (List Int))).bind fun y178 => ((spec_l1Cur_pick.f s0_0 t161 t162 6).bind fun bt181 => (if 0 ≤ bt181.1 then (if bt181.1 < (y178.length : Int) then (some (rd_L3 y178 bt181.1, bt181.2.1, bt181.2.2)) else (none)) else (none)))) = some (r1, r2, r3) := by first | (rw [hy175]; with_reducible exact H)
  have Ny175 := am hy175
  clear hy175
  obtain ⟨y178, hy178⟩ : ∃ y_ : List (List Int), y_ = (([[], y163, y166, y169, y172, y175] : List (List Int))) := ⟨_, rfl⟩
  replace H : ((spec_l1Cur_pick.f s0_0 t161 t162 6).bind fun bt181 => (if 0 ≤ bt181.1 then (if bt181.1 < (y178.length : Int) then (some (rd_L3 y178 bt181.1, bt181.2.1, bt181.2.2)) else (none)) else (none))) = some (r1, r2, r3) := by first | (have H2_ := (Option.bind_some _ _).symm.trans H; rw [hy178]; with_reducible exact H2_)
  have Ny178 := am hy178
  clear hy178
  obtain ⟨⟨t181, t182, t183⟩, A5, H⟩ := bnd_ H
  try dsimp only at H
  by_cases c6 : 0 ≤ t181
  ·rw [if_pos c6] at H
   have c6b0 : decide (0 ≤ t181) = true := decide_eq_true c6
   clear c6
   by_cases c7 : t181 < (y178.length : Int)
   ·rw [if_pos c7] at H
    have c7b0 : decide (t181 < (y178.length : Int)) = true := decide_eq_true c7
    clear c7
    simp only [Option.some.injEq, Prod.mk.injEq] at H
    obtain ⟨rfl, rfl, rfl⟩ := H
    go_enter Try.func69, Try.ntmps69
    go_wp2_with (first | ((with_reducible refine gate_dst (N := 3) rfl ?_); refine bx_ 3 (#[.string a1_0, .string a1_1]) 25 ?_; intro gb159 hg w8 hbox hb; replace HB := am (below_step HB.out hb); have BK159 := am (hbox); have GW159 := am ((by rw [hg]; exact (keep_size (w := w) (g := g) (row := none) HK.out) : w.heap.size ≤ gb159)); have GE159 := am ((Nat.le_trans HW0.out (by rw [hg]; exact (keep_size (w := w) (g := g) (row := none) HK.out) : w.heap.size ≤ gb159) : w0.heap.size ≤ gb159)); replace HK := am (KeepBut.trans HK.out (KeepBut.of_below hb g none) (.inl rfl)); have NB0_159 := am ((by rw [hg]; exact Nat.ne_of_lt (IsS71.lt (show IsS71 w0 _ g s0_0 s0_1 s0_2 from by exact HI0.out)) : g ≠ gb159)); have NB159_0 := am ((by rw [hg]; exact Nat.ne_of_gt (IsS71.lt (show IsS71 w0 _ g s0_0 s0_1 s0_2 from by exact HI0.out)) : gb159 ≠ g)); replace HI0 := am (IsS71.below HI0.out hb); clear hb hbox hg) | ((with_reducible refine gate_callee (f := 48) rfl ?_); refine gl_ 6 Try.func48 #[.pointer (some ⟨g, 0, none⟩), .int .i64 14] ?_; (with_reducible refine (spec_l1Cur_one.calls g s0_0 s0_1 s0_2 14 true t161 t162 w0 _ (HI0.out) ?side2 A3.out).mono ?_); (case side2 => repeat (with_reducible first | exact HB.out)); rintro e w9 ⟨rfl, hi, hb, hk⟩; refine ⟨_, rfl, ?_⟩; replace BK159 := am (KeepBut.blk hk BK159.out NB159_0.out (by simp)); replace HK := am (KeepBut.trans HK.out hk (.inl rfl)); replace HB := am (hb); replace HI0 := am (hi); (try clear hb); (try clear hk); (try clear hi)) | ((with_reducible refine gate_dst (N := 7) rfl ?_); refine Kd.R_lit (Kd.int .i64) _ 3 ?hg (N := 7) ?hd (xs := ([0] : List Int)) (inner := [.int .i64 0]) (ok := fun _ => True) (okp := fun _ => True) ?hr ?hp (fun _ hk => hk) trivial (Below.refl _ _) (Nat.le_refl _) (by simp) ?_; (case hd => rfl); (case hg => rfl); (case hr => go_simp; done); (case hp => exact (Reps.one (show Kd.M (Kd.int .i64) _ _ _ 0 [.int .i64 0] from rfl) (Reps.none _ _))); intro v164 w10 ho11 hb hg_ hnew_; clear hg_ hnew_; (rw [← Ny163.out] at ho11); have HO165 := am (Kd.R_lower (Kd.R_newM (M := fun k_ => (w.heap.size ≤ k_)) ho11 (keep_size (w := w) (g := g) (row := none) HK.out) (fun k_ h_ => h_)) (keep_size (w := w) (g := g) (row := none) HK.out)); replace HI0 := am (IsS71.below HI0.out hb); replace BK159 := am (blk_below BK159.out hb); replace HK := am (KeepBut.trans HK.out (KeepBut.of_below hb g none) (.inl rfl)); replace HB := am (below_step HB.out hb); clear hb ho11) | ((with_reducible refine gate_dst (N := 8) rfl ?_); refine Kd.R_lit (Kd.int .i64) _ 3 ?hg (N := 8) ?hd (xs := ([0, 0, 0] : List Int)) (inner := [.int .i64 0, .int .i64 0, .int .i64 0]) (ok := fun _ => True) (okp := fun _ => True) ?hr ?hp (fun _ hk => hk) trivial (Below.refl _ _) (Nat.le_refl _) (by simp) ?_; (case hd => rfl); (case hg => rfl); (case hr => go_simp; done); (case hp => exact (Reps.one (show Kd.M (Kd.int .i64) _ _ _ 0 [.int .i64 0] from rfl) (Reps.one (show Kd.M (Kd.int .i64) _ _ _ 0 [.int .i64 0] from rfl) (Reps.one (show Kd.M (Kd.int .i64) _ _ _ 0 [.int .i64 0] from rfl) (Reps.none _ _))))); intro v167 w12 ho13 hb hg_ hnew_; clear hg_ hnew_; (rw [← Ny166.out] at ho13); have HO168 := am (Kd.R_lower (Kd.R_new' (Kd.R_newM (M := fun k_ => (w.heap.size ≤ k_)) ho13 (keep_size (w := w) (g := g) (row := none) HK.out) (fun k_ h_ => h_)) (Kd.R_lt HO165.out)) (keep_size (w := w) (g := g) (row := none) HK.out)); replace HO165 := am (Kd.R_elder' HO165.out (Kd.R_base ho13) hb); replace HI0 := am (IsS71.below HI0.out hb); replace BK159 := am (blk_below BK159.out hb); replace HK := am (KeepBut.trans HK.out (KeepBut.of_below hb g none) (.inl rfl)); replace HB := am (below_step HB.out hb); clear hb ho13) | ((with_reducible refine gate_dst (N := 9) rfl ?_); refine Kd.R_lit (Kd.int .i64) _ 3 ?hg (N := 9) ?hd (xs := ([(-1), 0] : List Int)) (inner := [.int .i64 (-1), .int .i64 0]) (ok := fun _ => True) (okp := fun _ => True) ?hr ?hp (fun _ hk => hk) trivial (Below.refl _ _) (Nat.le_refl _) (by simp) ?_; (case hd => rfl); (case hg => rfl); (case hr => go_simp; done); (case hp => exact (Reps.one (show Kd.M (Kd.int .i64) _ _ _ (-1) [.int .i64 (-1)] from rfl) (Reps.one (show Kd.M (Kd.int .i64) _ _ _ 0 [.int .i64 0] from rfl) (Reps.none _ _)))); intro v170 w14 ho15 hb hg_ hnew_; clear hg_ hnew_; (rw [← Ny169.out] at ho15); have HO171 := am (Kd.R_lower (Kd.R_new' (Kd.R_new' (Kd.R_newM (M := fun k_ => (w.heap.size ≤ k_)) ho15 (keep_size (w := w) (g := g) (row := none) HK.out) (fun k_ h_ => h_)) (Kd.R_lt HO165.out)) (Kd.R_lt HO168.out)) (keep_size (w := w) (g := g) (row := none) HK.out)); replace HO165 := am (Kd.R_elder' HO165.out (Kd.R_base ho15) hb); replace HO168 := am (Kd.R_elder' HO168.out (Kd.R_base ho15) hb); replace HI0 := am (IsS71.below HI0.out hb); replace BK159 := am (blk_below BK159.out hb); replace HK := am (KeepBut.trans HK.out (KeepBut.of_below hb g none) (.inl rfl)); replace HB := am (below_step HB.out hb); clear hb ho15) | ((with_reducible refine gate_dst (N := 10) rfl ?_); refine Kd.R_lit (Kd.int .i64) _ 3 ?hg (N := 10) ?hd (xs := ([0, 8] : List Int)) (inner := [.int .i64 0, .int .i64 8]) (ok := fun _ => True) (okp := fun _ => True) ?hr ?hp (fun _ hk => hk) trivial (Below.refl _ _) (Nat.le_refl _) (by simp) ?_; (case hd => rfl); (case hg => rfl); (case hr => go_simp; done); (case hp => exact (Reps.one (show Kd.M (Kd.int .i64) _ _ _ 0 [.int .i64 0] from rfl) (Reps.one (show Kd.M (Kd.int .i64) _ _ _ 8 [.int .i64 8] from rfl) (Reps.none _ _)))); intro v173 w16 ho17 hb hg_ hnew_; clear hg_ hnew_; (rw [← Ny172.out] at ho17); have HO174 := am (Kd.R_lower (Kd.R_new' (Kd.R_new' (Kd.R_new' (Kd.R_newM (M := fun k_ => (w.heap.size ≤ k_)) ho17 (keep_size (w := w) (g := g) (row := none) HK.out) (fun k_ h_ => h_)) (Kd.R_lt HO165.out)) (Kd.R_lt HO168.out)) (Kd.R_lt HO171.out)) (keep_size (w := w) (g := g) (row := none) HK.out)); replace HO165 := am (Kd.R_elder' HO165.out (Kd.R_base ho17) hb); replace HO168 := am (Kd.R_elder' HO168.out (Kd.R_base ho17) hb); replace HO171 := am (Kd.R_elder' HO171.out (Kd.R_base ho17) hb); replace HI0 := am (IsS71.below HI0.out hb); replace BK159 := am (blk_below BK159.out hb); replace HK := am (KeepBut.trans HK.out (KeepBut.of_below hb g none) (.inl rfl)); replace HB := am (below_step HB.out hb); clear hb ho17) | ((with_reducible refine gate_dst (N := 11) rfl ?_); refine Kd.R_lit (Kd.int .i64) _ 3 ?hg (N := 11) ?hd (xs := ([4611686018427387904, 0] : List Int)) (inner := [.int .i64 4611686018427387904, .int .i64 0]) (ok := fun _ => True) (okp := fun _ => True) ?hr ?hp (fun _ hk => hk) trivial (Below.refl _ _) (Nat.le_refl _) (by simp) ?_; (case hd => rfl); (case hg => rfl); (case hr => go_simp; done); (case hp => exact (Reps.one (show Kd.M (Kd.int .i64) _ _ _ 4611686018427387904 [.int .i64 4611686018427387904] from rfl) (Reps.one (show Kd.M (Kd.int .i64) _ _ _ 0 [.int .i64 0] from rfl) (Reps.none _ _)))); intro v176 w18 ho19 hb hg_ hnew_; clear hg_ hnew_; (rw [← Ny175.out] at ho19); have HO177 := am (Kd.R_lower (Kd.R_new' (Kd.R_new' (Kd.R_new' (Kd.R_new' (Kd.R_newM (M := fun k_ => (w.heap.size ≤ k_)) ho19 (keep_size (w := w) (g := g) (row := none) HK.out) (fun k_ h_ => h_)) (Kd.R_lt HO165.out)) (Kd.R_lt HO168.out)) (Kd.R_lt HO171.out)) (Kd.R_lt HO174.out)) (keep_size (w := w) (g := g) (row := none) HK.out)); replace HO165 := am (Kd.R_elder' HO165.out (Kd.R_base ho19) hb); replace HO168 := am (Kd.R_elder' HO168.out (Kd.R_base ho19) hb); replace HO171 := am (Kd.R_elder' HO171.out (Kd.R_base ho19) hb); replace HO174 := am (Kd.R_elder' HO174.out (Kd.R_base ho19) hb); replace HI0 := am (IsS71.below HI0.out hb); replace BK159 := am (blk_below BK159.out hb); replace HK := am (KeepBut.trans HK.out (KeepBut.of_below hb g none) (.inl rfl)); replace HB := am (below_step HB.out hb); clear hb ho19; obtain ⟨Ao20, co20, eo20⟩ := Kd.R_slice HO165.out; subst eo20; obtain ⟨Ao21, co21, eo21⟩ := Kd.R_slice HO168.out; subst eo21; obtain ⟨Ao22, co22, eo22⟩ := Kd.R_slice HO171.out; subst eo22; obtain ⟨Ao23, co23, eo23⟩ := Kd.R_slice HO174.out; subst eo23; obtain ⟨Ao24, co24, eo24⟩ := Kd.R_slice HO177.out; subst eo24) | ((with_reducible refine gate_dst (N := 12) rfl ?_); refine Kd.N_lit (Kd.slice 3 (Kd.int .i64)) _ 26 ?hg (N' := 12) ?hd (xs := ([[], y163, y166, y169, y172, y175] : List (List Int))) (inner := [.slice none 0 0, .slice Ao20 y163.length co20, .slice Ao21 y166.length co21, .slice Ao22 y169.length co22, .slice Ao23 y172.length co23, .slice Ao24 y175.length co24]) (ok := (fun k_ => (w.heap.size ≤ k_) ∧ k_ ≠ gb159 ∧ k_ ≠ g)) (okp := (fun k_ => (w.heap.size ≤ k_) ∧ k_ ≠ gb159 ∧ k_ ≠ g)) ?hr ?hp (fun _ hk => hk) ((show ∀ k_, w18.heap.size ≤ k_ → (fun k_ => (w.heap.size ≤ k_) ∧ k_ ≠ gb159 ∧ k_ ≠ g) k_ from fun k_ hk => ⟨(Nat.le_trans (keep_size (w := w) (g := g) (row := none) HK.out) hk), Kd.freshB (g := gb159) (o := .cells #[.string a1_0, .string a1_1] 25 (0, 0)) BK159.out k_ hk, IsS71.fresh HI0.out k_ hk⟩) _ (Nat.le_refl _)) (Below.refl _ _) (Nat.le_refl _) (by simp) ?_; (case hd => rfl); (case hg => rfl); (case hr => go_simp; done); (case hp => exact (Reps.one (show Kd.FK (Kd.slice 3 (Kd.int .i64)) _ _ [] [.slice none 0 0] from (Kd.FK_slice_mk (Nat.le_refl _) (Kd.F_nil _ _ _))) (Reps.one (show Kd.FK (Kd.slice 3 (Kd.int .i64)) _ _ y163 [.slice Ao20 y163.length co20] from (Kd.FK_slice_mk (Kd.R_reads' (Kd.R_mono (ok' := (fun k_ => (w.heap.size ≤ k_) ∧ k_ ≠ gb159 ∧ k_ ≠ g)) (IsS71.apart HI0.out (Kd.R_types (HO165.out) BK159.out (by decide)) (by decide)) (fun k_ hk => ⟨hk.1.1.1.1.1.1.1, ⟨hk.1.2, hk.2⟩⟩))).2.1 (Kd.R_F (Kd.R_mono (ok' := (fun k_ => (w.heap.size ≤ k_) ∧ k_ ≠ gb159 ∧ k_ ≠ g)) (IsS71.apart HI0.out (Kd.R_types (HO165.out) BK159.out (by decide)) (by decide)) (fun k_ hk => ⟨hk.1.1.1.1.1.1.1, ⟨hk.1.2, hk.2⟩⟩))))) (Reps.one (show Kd.FK (Kd.slice 3 (Kd.int .i64)) _ _ y166 [.slice Ao21 y166.length co21] from (Kd.FK_slice_mk (Kd.R_reads' (Kd.R_mono (ok' := (fun k_ => (w.heap.size ≤ k_) ∧ k_ ≠ gb159 ∧ k_ ≠ g)) (IsS71.apart HI0.out (Kd.R_types (HO168.out) BK159.out (by decide)) (by decide)) (fun k_ hk => ⟨hk.1.1.1.1.1.1.1, ⟨hk.1.2, hk.2⟩⟩))).2.1 (Kd.R_F (Kd.R_mono (ok' := (fun k_ => (w.heap.size ≤ k_) ∧ k_ ≠ gb159 ∧ k_ ≠ g)) (IsS71.apart HI0.out (Kd.R_types (HO168.out) BK159.out (by decide)) (by decide)) (fun k_ hk => ⟨hk.1.1.1.1.1.1.1, ⟨hk.1.2, hk.2⟩⟩))))) (Reps.one (show Kd.FK (Kd.slice 3 (Kd.int .i64)) _ _ y169 [.slice Ao22 y169.length co22] from (Kd.FK_slice_mk (Kd.R_reads' (Kd.R_mono (ok' := (fun k_ => (w.heap.size ≤ k_) ∧ k_ ≠ gb159 ∧ k_ ≠ g)) (IsS71.apart HI0.out (Kd.R_types (HO171.out) BK159.out (by decide)) (by decide)) (fun k_ hk => ⟨hk.1.1.1.1.1.1.1, ⟨hk.1.2, hk.2⟩⟩))).2.1 (Kd.R_F (Kd.R_mono (ok' := (fun k_ => (w.heap.size ≤ k_) ∧ k_ ≠ gb159 ∧ k_ ≠ g)) (IsS71.apart HI0.out (Kd.R_types (HO171.out) BK159.out (by decide)) (by decide)) (fun k_ hk => ⟨hk.1.1.1.1.1.1.1, ⟨hk.1.2, hk.2⟩⟩))))) (Reps.one (show Kd.FK (Kd.slice 3 (Kd.int .i64)) _ _ y172 [.slice Ao23 y172.length co23] from (Kd.FK_slice_mk (Kd.R_reads' (Kd.R_mono (ok' := (fun k_ => (w.heap.size ≤ k_) ∧ k_ ≠ gb159 ∧ k_ ≠ g)) (IsS71.apart HI0.out (Kd.R_types (HO174.out) BK159.out (by decide)) (by decide)) (fun k_ hk => ⟨hk.1.1.1.1.1.1.1, ⟨hk.1.2, hk.2⟩⟩))).2.1 (Kd.R_F (Kd.R_mono (ok' := (fun k_ => (w.heap.size ≤ k_) ∧ k_ ≠ gb159 ∧ k_ ≠ g)) (IsS71.apart HI0.out (Kd.R_types (HO174.out) BK159.out (by decide)) (by decide)) (fun k_ hk => ⟨hk.1.1.1.1.1.1.1, ⟨hk.1.2, hk.2⟩⟩))))) (Reps.one (show Kd.FK (Kd.slice 3 (Kd.int .i64)) _ _ y175 [.slice Ao24 y175.length co24] from (Kd.FK_slice_mk (Kd.R_reads' (Kd.R_mono (ok' := (fun k_ => (w.heap.size ≤ k_) ∧ k_ ≠ gb159 ∧ k_ ≠ g)) (IsS71.apart HI0.out (Kd.R_types (HO177.out) BK159.out (by decide)) (by decide)) (fun k_ hk => ⟨hk.1.1.1.1.1.1.1, ⟨hk.1.2, hk.2⟩⟩))).2.1 (Kd.R_F (Kd.R_mono (ok' := (fun k_ => (w.heap.size ≤ k_) ∧ k_ ≠ gb159 ∧ k_ ≠ g)) (IsS71.apart HI0.out (Kd.R_types (HO177.out) BK159.out (by decide)) (by decide)) (fun k_ hk => ⟨hk.1.1.1.1.1.1.1, ⟨hk.1.2, hk.2⟩⟩))))) (Reps.none _ _)))))))); intro v179 w25 ho26 hb hg_ hnew_; clear hg_ hnew_; (rw [← Ny178.out] at ho26); have HO180 := am (Kd.N_lower ho26 (keep_size (w := w) (g := g) (row := none) HK.out)); replace HI0 := am (IsS71.below HI0.out hb); replace BK159 := am (blk_below BK159.out hb); replace HK := am (KeepBut.trans HK.out (KeepBut.of_below hb g none) (.inl rfl)); replace HB := am (below_step HB.out hb); clear HO165 HO168 HO171 HO174 HO177 hb ho26) | ((with_reducible refine gate_callee (f := 52) rfl ?_); refine gl_ 14 Try.func52 #[.pointer (some ⟨g, 0, none⟩), .int .i64 6] ?_; (with_reducible refine (spec_l1Cur_pick.calls g s0_0 t161 t162 6 t181 t182 t183 w0 _ (HI0.out) ?side2 A5.out).mono ?_); (case side2 => repeat (with_reducible first | exact HB.out)); rintro e w27 ⟨rfl, hi, hb, hk⟩; refine ⟨_, rfl, ?_⟩; replace BK159 := am (KeepBut.blk hk BK159.out NB159_0.out (by simp)); replace HO180 := am (Kd.N_mono (Kd.N_keep (Kd.N_mono (ok := fun k_ => (((w.heap.size ≤ k_)) ∧ (k_ ≠ gb159 ∧ k_ ≠ g))) HO180.out (fun k_ hk_ => (⟨hk_, hk_.2.2⟩ : _ ∧ k_ ≠ g))) hk (fun _ h => h.2)) (fun _ h => h.1)); replace HK := am (KeepBut.trans HK.out hk (.inl rfl)); replace HB := am (hb); replace HI0 := am (hi); (try clear hb); (try clear hk); (try clear hi); obtain ⟨Ao28, co28, eo28⟩ := Kd.N_slice HO180.out; subst eo28; have p184 : 0 ≤ (t181 : Int) := of_decide_eq_true (by with_reducible assumption); have q184 : t181 < (y178.length : Int) := of_decide_eq_true (by with_reducible assumption); obtain ⟨ad184, A184_0, c184_0, e184, hx184_0, hl184_0, hi184_0⟩ := at_L3 (Kd.N_reads' HO180.out).2.2 t181 p184 q184; cases e184; obtain ⟨ce184, hce184, hMe184, hcc184⟩ := Kd.N_get HO180.out [] t181 p184 q184; obtain ⟨ua184_0, uc184_0, rfl, ul184_0, ge184_0⟩ := Kd.FK_slice_open hMe184; have hv184_0 := hcc184 0 _ rfl; rw [Nat.add_zero, show ((Kd.slice 3 (Kd.int .i64))).sz = 1 from rfl, Nat.mul_one] at hv184_0; replace hv184_0 := Option.some.inj (hv184_0.symm.trans hx184_0); injection hv184_0 with hva_ hvn_ hvc_; rw [hva_] at ge184_0; rw [hvc_] at ul184_0; have HL184_0 := am (show Kd.V (Kd.int .i64) 3 _ w.heap.size _ _ (rd_L3 y178 t181) from Kd.V_mk ul184_0 ge184_0); clear hva_ hvn_ hvc_ ge184_0 ul184_0 hcc184 hce184; have HR184_0 := am hi184_0; have HC184_0 := am hl184_0; clear hi184_0 hl184_0; replace p184 := eq_true p184; replace q184 := eq_true q184))
    go_ret
    exact ⟨_, by rfl, by (with_reducible skip); exact Kd.V_mono HL184_0.out (fun _ hk => hk.1.1), by exact HI0.out, by exact HB.out, by exact HK.out⟩
   ·rw [if_neg c7] at H
    exact absurd H (by simp)
  ·rw [if_neg c6] at H
   exact absurd H (by simp)
 ·replace c4 := Bool.eq_false_iff.mpr c4
  subst c4
  rw [if_neg (show ¬ (false = true) by decide)] at H
  obtain ⟨t185, A29, H⟩ := bnd_ H
  try dsimp only at H
  obtain ⟨⟨t186, t187, t188⟩, A30, H⟩ := bnd_ H
  try dsimp only at H
  obtain ⟨t189, A31, H⟩ := bnd_ H
  try dsimp only at H
  obtain ⟨⟨t190, t191, t192⟩, A32, H⟩ := bnd_ H
  try dsimp only at H
  obtain ⟨y193, hy193⟩ : ∃ y_ : List Int, y_ = (([t186, t190] : List Int)) := ⟨_, rfl⟩
  replace H : (some (y193, t191, t192)) = some (r1, r2, r3) := by first | (rw [hy193]; with_reducible exact H)
  have Ny193 := am hy193
  clear hy193
  simp only [Option.some.injEq, Prod.mk.injEq] at H
  obtain ⟨rfl, rfl, rfl⟩ := H
  go_enter Try.func69, Try.ntmps69
  try go_wp2_with (first | ((with_reducible refine gate_dst (N := 3) rfl ?_); refine bx_ 3 (#[.string a1_0, .string a1_1]) 25 ?_; intro gb159 hg w33 hbox hb; replace HB := am (below_step HB.out hb); have BK159 := am (hbox); have GW159 := am ((by rw [hg]; exact (keep_size (w := w) (g := g) (row := none) HK.out) : w.heap.size ≤ gb159)); have GE159 := am ((Nat.le_trans HW0.out (by rw [hg]; exact (keep_size (w := w) (g := g) (row := none) HK.out) : w.heap.size ≤ gb159) : w0.heap.size ≤ gb159)); replace HK := am (KeepBut.trans HK.out (KeepBut.of_below hb g none) (.inl rfl)); have NB0_159 := am ((by rw [hg]; exact Nat.ne_of_lt (IsS71.lt (show IsS71 w0 _ g s0_0 s0_1 s0_2 from by exact HI0.out)) : g ≠ gb159)); have NB159_0 := am ((by rw [hg]; exact Nat.ne_of_gt (IsS71.lt (show IsS71 w0 _ g s0_0 s0_1 s0_2 from by exact HI0.out)) : gb159 ≠ g)); replace HI0 := am (IsS71.below HI0.out hb); clear hb hbox hg) | ((with_reducible refine gate_callee (f := 48) rfl ?_); refine gl_ 6 Try.func48 #[.pointer (some ⟨g, 0, none⟩), .int .i64 14] ?_; (with_reducible refine (spec_l1Cur_one.calls g s0_0 s0_1 s0_2 14 false t161 t162 w0 _ (HI0.out) ?side2 A3.out).mono ?_); (case side2 => repeat (with_reducible first | exact HB.out)); rintro e w34 ⟨rfl, hi, hb, hk⟩; refine ⟨_, rfl, ?_⟩; replace BK159 := am (KeepBut.blk hk BK159.out NB159_0.out (by simp)); replace HK := am (KeepBut.trans HK.out hk (.inl rfl)); replace HB := am (hb); replace HI0 := am (hi); (try clear hb); (try clear hk); (try clear hi)))
  replace BK159 := am (blk_drew BK159.out)
  replace HI0 := am (IsS71.drew HI0.out)
  replace HK := am (keep_drew HK.out)
  replace HB := am (below_drew1 HB.out)
  refine start_ (n := 14) (S := fun w' => w'.cell? ⟨gb159, 0, none⟩ = some (.string a1_0) ∧ w'.cell? ⟨gb159, 1, none⟩ = some (.string a1_1)) (ds := []) #[false, false, false, false, false, false, false, false, false, false, false, false, false, false] (by kernel_rfl) rfl rfl ⟨(blk_cell BK159.out 0).trans rfl, (blk_cell BK159.out 1).trans rfl⟩ (fun hHeld => ?_); refine with_tabW spec_l1Cur_crossing.tab3 spec_l1Cur_crossing.bits3 (fun HT_ HW_ => ?_)
  generalize w34.drew = w35 at BK159 HI0 HK HB hHeld ⊢
  refine pu_ 0 17 (fl_ 14 1) HT_ ?_
  refine pu_ 1 18 (fl_ 14 3) HT_ ?_
  refine pu_ 6 23 (fl_ 14 67) HT_ ?_
  refine pu_ 7 24 (fl_ 14 195) HT_ ?_
  refine tk_ 2 19 (fl_ 14 199) HT_ HW_ hHeld ?_ (hy := by rintro w' ⟨s0, s1⟩; go_simp; with_reducible rfl)
  refine pu_ 3 20 (fl_ 14 207) HT_ ?_
  refine tk_ 8 25 (fl_ 14 463) HT_ HW_ hHeld ?_ (hy := by rintro w' ⟨s0, s1⟩; go_simp; with_reducible rfl)
  refine pu_ 9 26 (fl_ 14 975) HT_ ?_
  refine on_ 4 21 (fl_ 14 991) HT_ fun K hK => ?_
  refine gs_ Try.func82 #[.int .i64 1, .int .i64 (a1_1.size : Int)] ?_
  with_reducible refine (spec_l1Most.calls 1 (a1_1.size : Int) t185 _ A29.out).mono ?_
  rintro e w' ⟨rfl, ⟨nd, rfl⟩⟩
  refine ⟨_, rfl, ?_⟩
  refine hK.out _ _ ⟨(blk_cell BK159.out 0).trans rfl, (blk_cell BK159.out 1).trans rfl⟩ (fun hHeld => ?_)
  clear hK K
  refine nm_ 21 ?_
  refine on_ 5 22 (fl_ 14 1023) HT_ fun K hK => ?_
  refine gs_ Try.func52 #[.pointer (some ⟨g, 0, none⟩), .int .i64 t185] ?_
  with_reducible refine (spec_l1Cur_pick.calls g s0_0 t161 t162 t185 t186 t187 t188 w0 _ ?side1 ?side2 A30.out).mono ?_
  (case side1 => repeat (with_reducible first | exact HI0.out | apply IsS71.drewN))
  (case side2 => repeat (with_reducible first | exact HB.out | apply pw_below_drewN))
  rintro e w36 ⟨rfl, hi, hb, hk⟩
  refine ⟨_, rfl, ?_⟩
  replace BK159 := am (KeepBut.blk hk (g' := gb159) (o := .cells #[.string a1_0, .string a1_1] 25 (0, 0)) (by (with_reducible repeat (refine blk_drewN ?_ _)); exact BK159.out) NB159_0.out (by simp))
  replace HK := am (KeepBut.trans (by repeat (with_reducible first | exact HK.out | apply keep_drewN)) hk (.inl rfl))
  replace HB := am (hb)
  replace HI0 := am (hi)
  (try clear hb)
  (try clear hk)
  (try clear hi)
  refine hK.out _ _ ⟨(blk_cell BK159.out 0).trans rfl, (blk_cell BK159.out 1).trans rfl⟩ (fun hHeld => ?_)
  clear hK K
  refine nm_ 22 ?_
  refine on_ 10 27 (fl_ 14 2047) HT_ fun K hK => ?_
  refine gs_ Try.func82 #[.int .i64 1, .int .i64 (a1_0.size : Int)] ?_
  with_reducible refine (spec_l1Most.calls 1 (a1_0.size : Int) t189 _ A31.out).mono ?_
  rintro e w' ⟨rfl, ⟨nd, rfl⟩⟩
  refine ⟨_, rfl, ?_⟩
  refine hK.out _ _ ⟨(blk_cell BK159.out 0).trans rfl, (blk_cell BK159.out 1).trans rfl⟩ (fun hHeld => ?_)
  clear hK K
  refine nm_ 27 ?_
  refine on_ 11 28 (fl_ 14 4095) HT_ fun K hK => ?_
  refine gs_ Try.func52 #[.pointer (some ⟨g, 0, none⟩), .int .i64 t189] ?_
  with_reducible refine (spec_l1Cur_pick.calls g s0_0 t187 t188 t189 t190 t191 t192 w0 _ ?side1 ?side2 A32.out).mono ?_
  (case side1 => repeat (with_reducible first | exact HI0.out | apply IsS71.drewN))
  (case side2 => repeat (with_reducible first | exact HB.out | apply pw_below_drewN))
  rintro e w37 ⟨rfl, hi, hb, hk⟩
  refine ⟨_, rfl, ?_⟩
  replace BK159 := am (KeepBut.blk hk (g' := gb159) (o := .cells #[.string a1_0, .string a1_1] 25 (0, 0)) (by (with_reducible repeat (refine blk_drewN ?_ _)); exact BK159.out) NB159_0.out (by simp))
  replace HK := am (KeepBut.trans (by repeat (with_reducible first | exact HK.out | apply keep_drewN)) hk (.inl rfl))
  replace HB := am (hb)
  replace HI0 := am (hi)
  (try clear hb)
  (try clear hk)
  (try clear hi)
  refine hK.out _ _ ⟨(blk_cell BK159.out 0).trans rfl, (blk_cell BK159.out 1).trans rfl⟩ (fun hHeld => ?_)
  clear hK K
  refine nm_ 28 ?_
  refine on_ 12 29 (fl_ 14 8191) HT_ fun K hK => ?_
  refine Kd.R_lit_step (Kd.int .i64) _ 3 ?hg (N := 29) ?hd (xs := ([t186, t190] : List Int)) (inner := [.int .i64 t186, .int .i64 t190]) (ok := fun _ => True) (okp := fun _ => True) ?hr ?hp (fun _ hk => hk) trivial (Below.refl _ _) (Nat.le_refl _) (by simp) ?_; (case hd => rfl); (case hg => rfl); (case hr => go_simp; done); (case hp => exact (Reps.one (show Kd.M (Kd.int .i64) _ _ _ t186 [.int .i64 t186] from rfl) (Reps.one (show Kd.M (Kd.int .i64) _ _ _ t190 [.int .i64 t190] from rfl) (Reps.none _ _))))
  intro v194 w38 ho39 hb hg_ hnew_
  clear hg_ hnew_
  (rw [← Ny193.out] at ho39)
  have HO195 := am (Kd.R_lower (Kd.R_newM (M := fun k_ => (w.heap.size ≤ k_)) ho39 (keep_size (w := w) (g := g) (row := none) HK.out) (fun k_ h_ => h_)) (keep_size (w := w) (g := g) (row := none) HK.out))
  replace HI0 := am (IsS71.below HI0.out hb)
  replace BK159 := am (blk_below BK159.out hb)
  replace HK := am (KeepBut.trans HK.out (KeepBut.of_below hb g none) (.inl rfl))
  replace HB := am (below_step HB.out hb)
  clear hb ho39
  refine hK.out _ _ ⟨(blk_cell BK159.out 0).trans rfl, (blk_cell BK159.out 1).trans rfl⟩ (fun hHeld => ?_)
  clear hK K
  refine nm_ 29 ?_
  refine pu_ 13 4 (fl_ 14 16383) HT_ ?_
  refine done_ (done_of HT_.out (by kernel_rfl)) ?_
  try go_wp2
  go_ret
  exact ⟨_, by rfl, Kd.R_V (by exact Kd.R_mono HO195.out (fun _ hk => hk.1)), by exact HI0.out, by exact HB.out, by exact HK.out⟩
def spec_l1Cur_driven.f (k : Nat) (s0_0 : List Int) (s0_1 : Int) (s0_2 : Int) : Option (ByteArray × ByteArray × List Int × List Int × Int × Int) := (spec_l1Cur_ways.f k s0_0 s0_1 s0_2).bind fun bt197 => ((spec_l1Cur_crossing.f s0_0 bt197.2.2.1 bt197.2.2.2 bt197.1 bt197.2.1).bind fun bt202 => ((spec_l1Cur_crossing.f s0_0 bt202.2.1 bt202.2.2 bt197.1 bt197.2.1).bind fun bt207 => (some (bt197.1, bt197.2.1, bt202.1, bt207.1, bt207.2.1, bt207.2.2))))
def spec_l1Cur_driven.T2 : Bool × List (List Nat × List Nat) := (true, [([], []), ([], []), ([], []), ([1, 2], [1, 2]), ([], []), ([], []), ([4, 5, 3], [4, 5]), ([0, 6, 0], [0]), ([3, 7, 0, 1, 2, 3, 7], [3]), ([6, 8, 0, 1, 2, 3, 4, 5, 6, 7, 8], [6])])
def spec_l1Cur_driven.B2 : List Nat := [0, 0, 0, 6, 0, 0, 62, 127, 255, 511]
theorem spec_l1Cur_driven.tab2 : rtab .any (opsOf Try.f47 2) = spec_l1Cur_driven.T2 := by kernel_rfl
theorem spec_l1Cur_driven.bits2 : waitsOk spec_l1Cur_driven.T2.2 spec_l1Cur_driven.B2 = true := by kernel_rfl
theorem spec_l1Cur_driven.calls (k : Nat) (g : Nat) (s0_0 : List Int) (s0_1 : Int) (s0_2 : Int) (r1 : ByteArray) (r2 : ByteArray) (r3 : List Int) (r4 : List Int) (r5 : Int) (r6 : Int) (w0 w : World) (hI : IsS71 w0 w g s0_0 s0_1 s0_2) (hB : Below w0.heap.size w0 w) (h : spec_l1Cur_driven.f k s0_0 s0_1 s0_2 = some (r1, r2, r3, r4, r5, r6)) :
  Calls Try.prog 47 #[.pointer (some ⟨g, 0, none⟩)] w fun e w' => ∃ v2_ v3_ : Value, e = .returned (.tuple #[.agg #[.string r1, .string r2], v2_, v3_]) ∧ Kd.V (Kd.int .i64) 3 w' w.heap.size (fun k_ => (w.heap.size ≤ k_)) v2_ r3 ∧ Kd.V (Kd.int .i64) 3 w' w.heap.size (fun k_ => (w.heap.size ≤ k_)) v3_ r4 ∧ IsS71 w0 w' g s0_0 r5 r6 ∧ Below w0.heap.size w0 w' ∧ KeepBut w w' g none := by
 have hu25 := Try.underlying25
 have HI0 := am hI
 have HK := am (KeepBut.refl w g none)
 have HL := am hB.size
 clear hI
 have HW0 := am hB.size
 have HB := am hB
 clear hB
 unfold spec_l1Cur_driven.f at h
 have H := h
 clear h
 obtain ⟨⟨t197, t198, t199, t200⟩, A2, H⟩ := bnd_ H
 try dsimp only at H
 obtain ⟨⟨t202, t205, t206⟩, A3, H⟩ := bnd_ H
 try dsimp only at H
 obtain ⟨⟨t207, t210, t211⟩, A4, H⟩ := bnd_ H
 try dsimp only at H
 simp only [Option.some.injEq, Prod.mk.injEq] at H
 obtain ⟨rfl, rfl, rfl, rfl, rfl, rfl⟩ := H
 go_enter Try.func47, Try.ntmps47
 try go_wp2_with (first | ((with_reducible refine gate_dst (N := 2) rfl ?_); refine bx_ 2 (#[.string (⟨#[]⟩ : ByteArray), .string (⟨#[]⟩ : ByteArray)]) 25 ?_; intro gb196 hg w5 hbox hb; replace HB := am (below_step HB.out hb); have BK196 := am (hbox); have GW196 := am ((by rw [hg]; exact (keep_size (w := w) (g := g) (row := none) HK.out) : w.heap.size ≤ gb196)); have GE196 := am ((Nat.le_trans HW0.out (by rw [hg]; exact (keep_size (w := w) (g := g) (row := none) HK.out) : w.heap.size ≤ gb196) : w0.heap.size ≤ gb196)); replace HK := am (KeepBut.trans HK.out (KeepBut.of_below hb g none) (.inl rfl)); have NB0_196 := am ((by rw [hg]; exact Nat.ne_of_lt (IsS71.lt (show IsS71 w0 _ g s0_0 s0_1 s0_2 from by exact HI0.out)) : g ≠ gb196)); have NB196_0 := am ((by rw [hg]; exact Nat.ne_of_gt (IsS71.lt (show IsS71 w0 _ g s0_0 s0_1 s0_2 from by exact HI0.out)) : gb196 ≠ g)); replace HI0 := am (IsS71.below HI0.out hb); clear hb hbox hg) | ((with_reducible refine gate_callee (f := 68) rfl ?_); refine gl_ 7 Try.func68 #[.pointer (some ⟨g, 0, none⟩)] ?_; (with_reducible refine (spec_l1Cur_ways.calls k g s0_0 s0_1 s0_2 t197 t198 t199 t200 w0 _ (HI0.out) ?side2 A2.out).mono ?_); (case side2 => repeat (with_reducible first | exact HB.out)); rintro e w6 ⟨rfl, hi, hb, hk⟩; refine ⟨_, rfl, ?_⟩; replace BK196 := am (KeepBut.blk hk BK196.out NB196_0.out (by simp)); replace HK := am (KeepBut.trans HK.out hk (.inl rfl)); replace HB := am (hb); replace HI0 := am (hi); (try clear hb); (try clear hk); (try clear hi)) | ((with_reducible refine gate_dst (N := 5) rfl ?_); refine bx_ 5 (#[.string (⟨#[]⟩ : ByteArray), .string (⟨#[]⟩ : ByteArray)]) 25 ?_; intro gb201 hg w7 hbox hb; replace HB := am (below_step HB.out hb); have BK201 := am (hbox); have GW201 := am ((by rw [hg]; exact (keep_size (w := w) (g := g) (row := none) HK.out) : w.heap.size ≤ gb201)); have GE201 := am ((Nat.le_trans HW0.out (by rw [hg]; exact (keep_size (w := w) (g := g) (row := none) HK.out) : w.heap.size ≤ gb201) : w0.heap.size ≤ gb201)); replace HK := am (KeepBut.trans HK.out (KeepBut.of_below hb g none) (.inl rfl)); have NB196_201 := am ((by rw [hg]; exact Nat.ne_of_lt (blk_lt (g := gb196) (o := .cells #[.string (⟨#[]⟩ : ByteArray), .string (⟨#[]⟩ : ByteArray)] 25 (0, 0)) BK196.out) : gb196 ≠ gb201)); have NB201_196 := am ((by rw [hg]; exact Nat.ne_of_gt (blk_lt (g := gb196) (o := .cells #[.string (⟨#[]⟩ : ByteArray), .string (⟨#[]⟩ : ByteArray)] 25 (0, 0)) BK196.out) : gb201 ≠ gb196)); replace BK196 := am (blk_below BK196.out hb); have NB0_201 := am ((by rw [hg]; exact Nat.ne_of_lt (IsS71.lt (show IsS71 w0 _ g s0_0 t199 t200 from by exact HI0.out)) : g ≠ gb201)); have NB201_0 := am ((by rw [hg]; exact Nat.ne_of_gt (IsS71.lt (show IsS71 w0 _ g s0_0 t199 t200 from by exact HI0.out)) : gb201 ≠ g)); replace HI0 := am (IsS71.below HI0.out hb); clear hb hbox hg; have hnb8 := NB201_196.out; have hnc8 := NB196_201.out; have hnb9 := NB201_0.out; have hnc9 := NB0_201.out; have hcz10_0 := cz0_ BK201; have hcz10_1 := cz1_ BK201; have hfz10_0 := blk_frozen BK201.out 0; have hfz10_1 := blk_frozen BK201.out 1))
 have n0_ : Aside0 (((w7.setCell ⟨gb201, 0, none⟩ (.string t197)).setCell ⟨gb201, 1, none⟩ (.string t198)).heap[gb196]? = some (.cells #[.string (⟨#[]⟩ : ByteArray), .string (⟨#[]⟩ : ByteArray)] 25 (0, 0))) := ⟨by (with_reducible skip); refine blk_far ?_ NB196_201.out _; (with_reducible skip); refine blk_far ?_ NB196_201.out _; (with_reducible skip); exact BK196.out⟩
 have n1_ : Aside0 (((w7.setCell ⟨gb201, 0, none⟩ (.string t197)).setCell ⟨gb201, 1, none⟩ (.string t198)).heap[gb201]? = some (.cells #[.string t197, .string t198] 25 (0, 0))) := ⟨by (with_reducible skip); refine blk_put (cs := #[.string t197, .string (⟨#[]⟩ : ByteArray)]) ?_ 1 _ rfl; (with_reducible skip); refine blk_put (cs := #[.string (⟨#[]⟩ : ByteArray), .string (⟨#[]⟩ : ByteArray)]) ?_ 0 _ rfl; (with_reducible skip); exact BK201.out⟩
 have n2_ : Aside0 (IsS71 w0 ((w7.setCell ⟨gb201, 0, none⟩ (.string t197)).setCell ⟨gb201, 1, none⟩ (.string t198)) g s0_0 t199 t200) := ⟨by repeat (with_reducible first | exact HI0.out | refine IsS71.far ?_ NB0_201.out _)⟩
 have n3_ : Aside0 (KeepBut w ((w7.setCell ⟨gb201, 0, none⟩ (.string t197)).setCell ⟨gb201, 1, none⟩ (.string t198)) g none) := ⟨by repeat (with_reducible first | exact HK.out | refine keep_far ?_ GW201.out _)⟩
 have n4_ : Aside0 (Below w0.heap.size w0 ((w7.setCell ⟨gb201, 0, none⟩ (.string t197)).setCell ⟨gb201, 1, none⟩ (.string t198))) := ⟨by repeat (with_reducible first | exact HB.out | refine below_set ?_ GE201.out)⟩
 (try clear BK196)
 (try clear BK201)
 (try clear HI0)
 (try clear HK)
 (try clear HB)
 generalize ((w7.setCell ⟨gb201, 0, none⟩ (.string t197)).setCell ⟨gb201, 1, none⟩ (.string t198)) = w11 at n0_ n1_ n2_ n3_ n4_ ⊢
 have BK196 := n0_
 have BK201 := n1_
 have HI0 := n2_
 have HK := n3_
 have HB := n4_
 clear n0_ n1_ n2_ n3_ n4_
 replace BK196 := am (blk_drew BK196.out)
 replace BK201 := am (blk_drew BK201.out)
 replace HI0 := am (IsS71.drew HI0.out)
 replace HK := am (keep_drew HK.out)
 replace HB := am (below_drew1 HB.out)
 refine start_ (n := 10) (S := fun w' => w'.cell? ⟨gb201, 0, none⟩ = some (.string t197) ∧ w'.cell? ⟨gb201, 1, none⟩ = some (.string t198)) (ds := []) #[false, false, false, false, false, false, false, false, false, false] (by kernel_rfl) rfl rfl ⟨(blk_cell BK201.out 0).trans rfl, (blk_cell BK201.out 1).trans rfl⟩ (fun hHeld => ?_); refine with_tabW spec_l1Cur_driven.tab2 spec_l1Cur_driven.bits2 (fun HT_ HW_ => ?_)
 generalize w11.drew = w12 at BK196 BK201 HI0 HK HB hHeld ⊢
 refine pu_ 1 9 (fl_ 10 2) HT_ ?_
 refine pu_ 4 12 (fl_ 10 18) HT_ ?_
 refine tk_ 0 8 (fl_ 10 19) HT_ HW_ hHeld ?_ (hy := by rintro w' ⟨s0, s1⟩; go_simp; with_reducible rfl)
 refine tk_ 2 10 (fl_ 10 23) HT_ HW_ hHeld ?_ (hy := by rintro w' ⟨s0, s1⟩; go_simp; with_reducible rfl)
 refine tk_ 5 13 (fl_ 10 55) HT_ HW_ hHeld ?_ (hy := by rintro w' ⟨s0, s1⟩; go_simp; with_reducible rfl)
 refine on_ 3 11 (fl_ 10 63) HT_ fun K hK => ?_
 refine gs_ Try.func69 #[.pointer (some ⟨g, 0, none⟩), .agg #[.string t197, .string t198]] ?_
 with_reducible refine (spec_l1Cur_crossing.calls g s0_0 t199 t200 t197 t198 t202 t205 t206 w0 _ ?side1 ?side2 A3.out).mono ?_
 (case side1 => repeat (with_reducible first | exact HI0.out))
 (case side2 => repeat (with_reducible first | exact HB.out))
 rintro e w13 ⟨v203, rfl, ho0, hi, hb, hk⟩
 refine ⟨_, rfl, ?_⟩
 have HO204 := am (Kd.V_lower (Kd.V_mono (ok' := fun k_ => (w.heap.size ≤ k_) ∧ k_ ≠ gb196 ∧ k_ ≠ gb201 ∧ k_ ≠ g) ho0 (fun k_ hk_ => ⟨(Nat.le_trans (keep_size (w := w) (g := g) (row := none) HK.out) hk_), (Kd.freshB (g := gb196) (o := .cells #[.string (⟨#[]⟩ : ByteArray), .string (⟨#[]⟩ : ByteArray)] 25 (0, 0)) BK196.out k_ hk_), (Kd.freshB (g := gb201) (o := .cells #[.string t197, .string t198] 25 (0, 0)) BK201.out k_ hk_), (IsS71.fresh HI0.out k_ hk_)⟩)) (keep_size (w := w) (g := g) (row := none) HK.out))
 replace BK196 := am (KeepBut.blk hk BK196.out NB196_0.out (by simp))
 replace BK201 := am (KeepBut.blk hk BK201.out NB201_0.out (by simp))
 replace HK := am (KeepBut.trans HK.out hk (.inl rfl))
 replace HB := am (hb)
 replace HI0 := am (hi)
 (try clear hb)
 (try clear hk)
 (try clear hi)
 (try clear ho0)
 refine hK.out _ _ ⟨(blk_cell BK201.out 0).trans rfl, (blk_cell BK201.out 1).trans rfl⟩ (fun hHeld => ?_)
 clear hK K
 refine nm_ 11 ?_
 refine on_ 6 14 (fl_ 10 127) HT_ fun K hK => ?_
 refine gs_ Try.func69 #[.pointer (some ⟨g, 0, none⟩), .agg #[.string t197, .string t198]] ?_
 with_reducible refine (spec_l1Cur_crossing.calls g s0_0 t205 t206 t197 t198 t207 t210 t211 w0 _ ?side1 ?side2 A4.out).mono ?_
 (case side1 => repeat (with_reducible first | exact HI0.out))
 (case side2 => repeat (with_reducible first | exact HB.out))
 rintro e w14 ⟨v208, rfl, ho0, hi, hb, hk⟩
 refine ⟨_, rfl, ?_⟩
 replace HO204 := am (Kd.V_mono (Kd.V_keep (Kd.V_mono (ok := fun k_ => (((w.heap.size ≤ k_)) ∧ (k_ ≠ gb196 ∧ (k_ ≠ gb201 ∧ k_ ≠ g)))) HO204.out (fun k_ hk_ => (⟨hk_, hk_.2.2.2⟩ : _ ∧ k_ ≠ g))) hk (fun _ h => h.2)) (fun _ h => h.1))
 have HO209 := am (Kd.V_lower (Kd.V_mono (ok' := fun k_ => (w.heap.size ≤ k_) ∧ k_ ≠ gb196 ∧ k_ ≠ gb201 ∧ k_ ≠ g) ho0 (fun k_ hk_ => ⟨(Nat.le_trans (keep_size (w := w) (g := g) (row := none) HK.out) hk_), (Kd.freshB (g := gb196) (o := .cells #[.string (⟨#[]⟩ : ByteArray), .string (⟨#[]⟩ : ByteArray)] 25 (0, 0)) BK196.out k_ hk_), (Kd.freshB (g := gb201) (o := .cells #[.string t197, .string t198] 25 (0, 0)) BK201.out k_ hk_), (IsS71.fresh HI0.out k_ hk_)⟩)) (keep_size (w := w) (g := g) (row := none) HK.out))
 replace BK196 := am (KeepBut.blk hk BK196.out NB196_0.out (by simp))
 replace BK201 := am (KeepBut.blk hk BK201.out NB201_0.out (by simp))
 replace HK := am (KeepBut.trans HK.out hk (.inl rfl))
 replace HB := am (hb)
 replace HI0 := am (hi)
 (try clear hb)
 (try clear hk)
 (try clear hi)
 (try clear ho0)
 refine hK.out _ _ ⟨(blk_cell BK201.out 0).trans rfl, (blk_cell BK201.out 1).trans rfl⟩ (fun hHeld => ?_)
 clear hK K
 refine nm_ 14 ?_
 refine one_ (i := 7) (N := none) #[true, true, true, true, true, true, true, true, false, false] rfl rfl (one_of HT_.out (by kernel_rfl)) (by decide) (fun K hK => ?_)
 have hs15 : w14.cell? ⟨gb196, 0, none⟩ = some (.string (⟨#[]⟩ : ByteArray)) := (blk_cell BK196.out 0).trans rfl
 have hfs15 := blk_frozen BK196.out 0
 have hns15_1 := NB201_196.out
 have hms15_1 := NB196_201.out
 have hs16 : w14.cell? ⟨gb196, 1, none⟩ = some (.string (⟨#[]⟩ : ByteArray)) := (blk_cell BK196.out 1).trans rfl
 have hfs16 := blk_frozen BK196.out 1
 have hns16_1 := NB201_196.out
 have hms16_1 := NB196_201.out
 refine skip_ (w1 := ?_) (by rfl) rfl ?_ ?_
 rotate_left
 ·go_simp
  rfl
 refine hK.out _ _ ⟨((cell_far (p := ⟨gb196, _, none⟩) NB201_196.out _).trans (((cell_far (p := ⟨gb196, _, none⟩) NB201_196.out _).trans (hHeld.1)))), ((cell_far (p := ⟨gb196, _, none⟩) NB201_196.out _).trans (((cell_far (p := ⟨gb196, _, none⟩) NB201_196.out _).trans (hHeld.2))))⟩ (fun hHeld => ?_)
 clear hK K
 refine pu_ 8 3 (fl_ 10 511) HT_ ?_
 refine pu_ 9 4 (fl_ 10 1023) HT_ ?_
 refine done_ (done_of HT_.out (by kernel_rfl)) ?_
 try go_wp2
 refine bodyPost_ret (results_ctt rfl _ _ gb196 25 #[.string t197, .string t198] (0, 0) _ rfl (by (with_reducible skip); refine blk_put (cs := #[.string t197, .string (⟨#[]⟩ : ByteArray)]) ?_ 1 _ rfl; (with_reducible skip); refine blk_put (cs := #[.string (⟨#[]⟩ : ByteArray), .string (⟨#[]⟩ : ByteArray)]) ?_ 0 _ rfl; (with_reducible skip); exact BK196.out) Try.underlying25 rfl (by kernel_rfl)) rfl ?_
 exact ⟨_, _, by rfl, by (with_reducible skip); exact Kd.V_mono (Kd.V_far (p := ⟨gb196, 1, none⟩) (Kd.V_far (p := ⟨gb196, 0, none⟩) (Kd.V_mono HO204.out (fun k_ hk => (⟨hk, hk.2.1⟩ : _ ∧ k_ ≠ gb196))) (fun _ hk => hk.2) (.string t197)) (fun _ hk => hk.2) (.string t198)) (fun _ hk => hk.1.1), by (with_reducible skip); exact Kd.V_mono (Kd.V_far (p := ⟨gb196, 1, none⟩) (Kd.V_far (p := ⟨gb196, 0, none⟩) (Kd.V_mono HO209.out (fun k_ hk => (⟨hk, hk.2.1⟩ : _ ∧ k_ ≠ gb196))) (fun _ hk => hk.2) (.string t197)) (fun _ hk => hk.2) (.string t198)) (fun _ hk => hk.1.1), by repeat (with_reducible first | exact HI0.out | refine IsS71.far ?_ NB0_196.out _), by repeat (with_reducible first | exact HB.out | refine below_set ?_ GE196.out), by repeat (with_reducible first | exact HK.out | refine keep_far ?_ GW196.out _)⟩
def spec_DrawDriveDistance.f (k : Nat) (l0 : List Int) : Option (ByteArray × ByteArray × List Int × List Int) := (spec_l1Cur_driven.f k l0 0 0).bind fun r => some (r.1, r.2.1, r.2.2.1, r.2.2.2.1)
theorem spec_DrawDriveDistance.calls (k : Nat) (A0 : Option Addr) (c0 : Nat) (l0 : List Int) (r1 r2 : ByteArray) (r3 r4 : List Int) (w : World) (hr0 : Kd.C (Kd.int .u8) w A0 l0.length l0) (hc0 : l0.length ≤ c0) (h : spec_DrawDriveDistance.f k l0 = some (r1, r2, r3, r4)) :
  Calls Try.prog 28 #[.slice A0 l0.length c0] w fun e w' => ∃ v2_ v3_ : Value, e = .returned (.tuple #[.agg #[.string r1, .string r2], v2_, v3_]) ∧ Kd.V (Kd.int .i64) 3 w' w.heap.size (fun k_ => (w.heap.size ≤ k_)) v2_ r3 ∧ Kd.V (Kd.int .i64) 3 w' w.heap.size (fun k_ => (w.heap.size ≤ k_)) v3_ r4 ∧ Below w.heap.size w w' := by
 unfold spec_DrawDriveDistance.f at h
 obtain ⟨⟨s, t, p, q, t1, t2⟩, h1, h⟩ := Option.bind_eq_some_iff.1 h
 obtain ⟨rfl, rfl, rfl, rfl⟩ : s = r1 ∧ t = r2 ∧ p = r3 ∧ q = r4 := by simpa using h
 have H1 := am h1
 clear h h1
 have HC0 := am hc0
 have HI := am (show IsS71 w ((w.alloc (.cells #[.string (⟨#[]⟩ : ByteArray), .string (⟨#[]⟩ : ByteArray)] 25)).alloc (.cells #[.slice A0 l0.length c0, .int .i64 0, .int .u64 0] 71)) (w.heap.size + 1) l0 0 0 from ⟨A0, c0, by
  have z := heap_alloc_new (w.alloc (.cells #[.string (⟨#[]⟩ : ByteArray), .string (⟨#[]⟩ : ByteArray)] 25)) (.cells #[.slice A0 l0.length c0, .int .i64 0, .int .u64 0] 71)
  rwa [show (w.alloc (.cells #[.string (⟨#[]⟩ : ByteArray), .string (⟨#[]⟩ : ByteArray)] 25)).heap.size = w.heap.size + 1 by simp] at z, by omega, hr0⟩)
 have HB := am (below_alloc (below_alloc (Below.refl w.heap.size w) (.cells #[.string (⟨#[]⟩ : ByteArray), .string (⟨#[]⟩ : ByteArray)] 25)) (.cells #[.slice A0 l0.length c0, .int .i64 0, .int .u64 0] 71))
 have BK := am (show ((w.alloc (.cells #[.string (⟨#[]⟩ : ByteArray), .string (⟨#[]⟩ : ByteArray)] 25)).alloc (.cells #[.slice A0 l0.length c0, .int .i64 0, .int .u64 0] 71)).heap[w.heap.size]? = some (.cells #[.string (⟨#[]⟩ : ByteArray), .string (⟨#[]⟩ : ByteArray)] 25 (0, 0)) from blk_alloc (heap_alloc_new w (.cells #[.string (⟨#[]⟩ : ByteArray), .string (⟨#[]⟩ : ByteArray)] 25)) _)
 have HGS := am (show w.heap.size + 2 ≤ ((w.alloc (.cells #[.string (⟨#[]⟩ : ByteArray), .string (⟨#[]⟩ : ByteArray)] 25)).alloc (.cells #[.slice A0 l0.length c0, .int .i64 0, .int .u64 0] 71)).heap.size by simp)
 clear hr0 hc0
 go_enter Try.func28, Try.ntmps28
 go_wp2_with (go_at_call 47; refine (spec_l1Cur_driven.calls k (w.heap.size + 1) l0 0 0 s t p q t1 t2 w _ HI.out HB.out H1.out).mono ?_; rintro e w1 ⟨v3, v4, rfl, hP, hQ, hI1, hB1, hK1⟩; have HB1 := am hB1; have BK1 := am (KeepBut.blk hK1 BK.out (by omega) (by simp)); have HP := am hP; have HQ := am hQ; have hs0_0 := (blk_cell BK1.out 0).trans (show _ = some (Value.string (⟨#[]⟩ : ByteArray)) from rfl); have hf0_0 := blk_frozen BK1.out 0; have hs0_1 := (blk_cell BK1.out 1).trans (show _ = some (Value.string (⟨#[]⟩ : ByteArray)) from rfl); have hf0_1 := blk_frozen BK1.out 1; clear hP hQ hI1 hB1 hK1)
 refine bodyPost_ret (results_ctt rfl _ _ w.heap.size 25 #[.string s, .string t] (0, 0) _ rfl (blk_put (cs := #[.string s, .string (⟨#[]⟩ : ByteArray)]) (blk_put (cs := #[.string (⟨#[]⟩ : ByteArray), .string (⟨#[]⟩ : ByteArray)]) BK1.out 0 _ rfl) 1 _ rfl) Try.underlying25 rfl (by kernel_rfl)) rfl ?_
 have ok : ∀ k_, (((w.alloc (.cells #[.string (⟨#[]⟩ : ByteArray), .string (⟨#[]⟩ : ByteArray)] 25)).alloc (.cells #[.slice A0 l0.length c0, .int .i64 0, .int .u64 0] 71)).heap.size ≤ k_) → k_ ≠ w.heap.size := fun k_ hk => by have := HGS.out; omega
 have ok2 : ∀ k_, (((w.alloc (.cells #[.string (⟨#[]⟩ : ByteArray), .string (⟨#[]⟩ : ByteArray)] 25)).alloc (.cells #[.slice A0 l0.length c0, .int .i64 0, .int .u64 0] 71)).heap.size ≤ k_) → w.heap.size ≤ k_ := fun k_ hk => by have := HGS.out; omega
 exact ⟨_, _, rfl, Kd.V_mono (Kd.V_far (p := ⟨w.heap.size, 1, none⟩) (Kd.V_far (p := ⟨w.heap.size, 0, none⟩) HP.out ok _) ok _) ok2, Kd.V_mono (Kd.V_far (p := ⟨w.heap.size, 1, none⟩) (Kd.V_far (p := ⟨w.heap.size, 0, none⟩) HQ.out ok _) ok _) ok2, below_set (below_set HB1.out (Nat.le_refl _)) (Nat.le_refl _)⟩
def spec_DrawFirstDrive.f (k : Nat) (l0 : List Int) : Option (ByteArray × ByteArray × List Int × List Int) := (spec_DrawDriveDistance.f k l0).bind fun bt213 => (some (bt213.1, bt213.2.1, bt213.2.2.1, bt213.2.2.2))
theorem spec_DrawFirstDrive.calls (k : Nat) (A0 : Option Addr) (c0 : Nat) (l0 : List Int) (r1 : ByteArray) (r2 : ByteArray) (r3 : List Int) (r4 : List Int) (w : World) (hr0 : Kd.C (Kd.int .u8) w A0 l0.length l0) (hc0 : l0.length ≤ c0) (h : spec_DrawFirstDrive.f k l0 = some (r1, r2, r3, r4)) :
  Calls Try.prog 5 #[.slice A0 l0.length c0] w fun e w' => ∃ v2_ v3_ : Value, e = .returned (.tuple #[.agg #[.string r1, .string r2], v2_, v3_]) ∧ Kd.V (Kd.int .i64) 3 w' w.heap.size (fun k_ => (w.heap.size ≤ k_)) v2_ r3 ∧ Kd.V (Kd.int .i64) 3 w' w.heap.size (fun k_ => (w.heap.size ≤ k_)) v3_ r4 ∧ Below w.heap.size w w' := by
 have hu25 := Try.underlying25
 have HR0 := am hr0
 have HC0 := am hc0
 clear hr0 hc0
 have HB := am (Below.refl w.heap.size w)
 unfold spec_DrawFirstDrive.f at h
 have H := h
 clear h
 obtain ⟨⟨t213, t214, t215, t218⟩, A2, H⟩ := bnd_ H
 try dsimp only at H
 simp only [Option.some.injEq, Prod.mk.injEq] at H
 obtain ⟨rfl, rfl, rfl, rfl⟩ := H
 go_enter Try.func5, Try.ntmps5
 go_wp2_with (first | ((with_reducible refine gate_dst (N := 2) rfl ?_); refine bx_ 2 (#[.string (⟨#[]⟩ : ByteArray), .string (⟨#[]⟩ : ByteArray)]) 25 ?_; intro gb212 hg w3 hbox hb; have BK212 := am (hbox); have GW212 := am ((by rw [hg]; exact (below_size HB.out) : w.heap.size ≤ gb212)); have GE212 := am ((by rw [hg]; exact (below_size HB.out) : w.heap.size ≤ gb212)); replace HB := am (below_step HB.out hb); clear hb hbox hg) | ((with_reducible refine gate_callee (f := 28) rfl ?_); refine gl_ 6 Try.func28 #[.slice A0 l0.length c0] ?_; (with_reducible refine (spec_DrawDriveDistance.calls k _ _ l0 t213 t214 t215 t218 _ ((Kd.C_below HR0.out HB.out)) ?side2 A2.out).mono ?_); (case side2 => exact HC0.out); rintro e w4 ⟨v216, v219, rfl, ho0, ho1, hb⟩; refine ⟨_, rfl, ?_⟩; have HO217 := am (Kd.V_lower (Kd.V_mono (ok' := fun k_ => (w.heap.size ≤ k_) ∧ k_ ≠ gb212) ho0 (fun k_ hk_ => ⟨(Nat.le_trans (below_size HB.out) hk_), (Kd.freshB (g := gb212) (o := .cells #[.string (⟨#[]⟩ : ByteArray), .string (⟨#[]⟩ : ByteArray)] 25 (0, 0)) BK212.out k_ hk_)⟩)) (below_size HB.out)); have HO220 := am (Kd.V_lower (Kd.V_mono (ok' := fun k_ => (w.heap.size ≤ k_) ∧ k_ ≠ gb212) ho1 (fun k_ hk_ => ⟨(Nat.le_trans (below_size HB.out) hk_), (Kd.freshB (g := gb212) (o := .cells #[.string (⟨#[]⟩ : ByteArray), .string (⟨#[]⟩ : ByteArray)] 25 (0, 0)) BK212.out k_ hk_)⟩)) (below_size HB.out)); replace BK212 := am (blk_below BK212.out hb); replace HB := am (below_step HB.out hb); (try clear hb); (try clear ho0); (try clear ho1); have hcz5_0 := cz0_ BK212; have hcz5_1 := cz1_ BK212; have hfz5_0 := blk_frozen BK212.out 0; have hfz5_1 := blk_frozen BK212.out 1))
 refine bodyPost_ret (results_ctt rfl _ _ gb212 25 #[.string t213, .string t214] (0, 0) _ rfl (by (with_reducible skip); refine blk_put (cs := #[.string t213, .string (⟨#[]⟩ : ByteArray)]) ?_ 1 _ rfl; (with_reducible skip); refine blk_put (cs := #[.string (⟨#[]⟩ : ByteArray), .string (⟨#[]⟩ : ByteArray)]) ?_ 0 _ rfl; (with_reducible skip); exact BK212.out) Try.underlying25 rfl (by kernel_rfl)) rfl ?_
 exact ⟨_, _, by rfl, by (with_reducible skip); exact Kd.V_mono (Kd.V_far (p := ⟨gb212, 1, none⟩) (Kd.V_far (p := ⟨gb212, 0, none⟩) (Kd.V_mono HO217.out (fun k_ hk => (⟨hk, hk.2⟩ : _ ∧ k_ ≠ gb212))) (fun _ hk => hk.2) (.string t213)) (fun _ hk => hk.2) (.string t214)) (fun _ hk => hk.1.1), by (with_reducible skip); exact Kd.V_mono (Kd.V_far (p := ⟨gb212, 1, none⟩) (Kd.V_far (p := ⟨gb212, 0, none⟩) (Kd.V_mono HO220.out (fun k_ hk => (⟨hk, hk.2⟩ : _ ∧ k_ ≠ gb212))) (fun _ hk => hk.2) (.string t213)) (fun _ hk => hk.2) (.string t214)) (fun _ hk => hk.1.1), by repeat (with_reducible first | exact HB.out | refine below_set ?_ GE212.out)⟩
def strings_IndexByte.f (a0 : ByteArray) (a1 : Int) : Option (Int) := some (Go.Lib.indexByte a0.data.toList a1.toNat.toUInt8)
theorem strings_IndexByte.calls (a0 : ByteArray) (a1 : Int) (r : Int) (w : World) (h : strings_IndexByte.f a0 a1 = some r) :
  Calls Try.prog 42 #[.string a0, .int .u8 a1] w fun e w' => e = .returned (.int .i64 r) ∧ Drawn0 w w' := by
 obtain rfl := Option.some.inj h
 refine (Try.strings_IndexByte a0 a1 w).mono ?_
 rintro e w' ⟨rfl, rfl⟩
 exact ⟨rfl, Drawn0.refl _⟩
def impl_within.f (a0 : Int) (a1 : Int) (a2 : Int) : Option (Bool) := if a0 ≥ a1 then (some (decide (a0 ≤ a2))) else (some false)
theorem impl_within.calls (a0 : Int) (a1 : Int) (a2 : Int) (r : Bool) (w : World) (h : impl_within.f a0 a1 a2 = some r) :
  Calls Try.prog 61 #[.int .i64 a0, .int .i64 a1, .int .i64 a2] w fun e w' => e = .returned (.bool r) ∧ Drawn0 w w' := by
 unfold impl_within.f at h
 have H := h
 clear h
 by_cases c4 : a0 ≥ a1
 ·rw [if_pos c4] at H
  have c4b0 : decide (a1 ≤ a0) = true := decide_eq_true c4
  clear c4
  obtain rfl := Option.some.inj H
  go_enter Try.func61, Try.ntmps61
  go_wp2
  go_ret
  exact ⟨by rfl, by repeat (exact Drawn0.refl _)⟩
 ·rw [if_neg c4] at H
  have c4b0 : decide (a1 ≤ a0) = false := decide_eq_false c4
  clear c4
  obtain rfl := Option.some.inj H
  go_enter Try.func61, Try.ntmps61
  go_wp2
  go_ret
  exact ⟨by rfl, by repeat (exact Drawn0.refl _)⟩
def impl_areSigns.l0 : Nat → ByteArray → ByteArray → Int → Int → Option (Bool)
 | 0, _, _, _, _ => none
 | k + 1, x0, x1, x7, x8 => if x8 < x7 then (if 0 ≤ x8 then (if x8 < (x0.size : Int) then ((strings_IndexByte.f x1 (bt x0 x8)).bind fun t221 => (if t221 < 0 then (some false) else (impl_areSigns.l0 k x0 x1 x7 (wrap64 (x8 + 1))))) else (none)) else (none)) else ((impl_within.f (x0.size : Int) 2 8).bind fun t222 => (some t222))
def impl_areSigns.f (k : Nat) (a0 : ByteArray) (a1 : ByteArray) : Option (Bool) := impl_areSigns.l0 k a0 a1 (a0.size : Int) 0
theorem impl_areSigns.calls (k : Nat) (a0 : ByteArray) (a1 : ByteArray) (r : Bool) (w : World) (h : impl_areSigns.f k a0 a1 = some r) :
  Calls Try.prog 66 #[.string a0, .string a1] w fun e w' => e = .returned (.bool r) ∧ Drawn0 w w' := by
 unfold impl_areSigns.f at h
 have H := h
 clear h
 have H' := am H
 clear H
 go_enter Try.func66, Try.ntmps66
 go_wp2
 go_loopg [8] k (fun kq v8 w' => ∃ (x8_1 : Int), v8 = .int .i64 x8_1 ∧ Aside0 (impl_areSigns.l0 kq a0 a1 (a0.size : Int) x8_1 = some r) ∧ Aside0 (kq ≤ k) ∧ Drawn0 w w')
 case atStart => exact ⟨(0), (by rfl), H', ⟨Nat.le_refl _⟩, by repeat (exact Drawn0.refl _)⟩
 case round =>
  clear H'
  obtain ⟨x8_1, rfl, HA, HK1, ⟨m1, rfl⟩⟩ := hrel
  cases gk with
  | zero => exact absurd HA.out (by simp [impl_areSigns.l0])
  | succ k1 =>
   have H := HA.out
   clear HA
   simp only [impl_areSigns.l0] at H
   by_cases c3 : x8_1 < (a0.size : Int)
   ·rw [if_pos c3] at H
    have c3b0 : decide (x8_1 < (a0.size : Int)) = true := decide_eq_true c3
    clear c3
    by_cases c4 : 0 ≤ x8_1
    ·rw [if_pos c4] at H
     have c4b0 : decide (0 ≤ x8_1) = true := decide_eq_true c4
     clear c4
     by_cases c5 : x8_1 < (a0.size : Int)
     ·rw [if_pos c5] at H
      have c5b0 : decide (x8_1 < (a0.size : Int)) = true := decide_eq_true c5
      clear c5
      obtain ⟨t221, A7, H⟩ := bnd_ H
      try dsimp only at H
      by_cases c8 : t221 < 0
      ·rw [if_pos c8] at H
       have c8b0 : decide (t221 < 0) = true := decide_eq_true c8
       clear c8
       obtain rfl := Option.some.inj H
       have p6 : 0 ≤ (x8_1 : Int) := of_decide_eq_true (by with_reducible assumption)
       have q6 : x8_1 < (a0.size : Int) := of_decide_eq_true (by with_reducible assumption)
       have hx6 := bt_at a0 x8_1
       replace p6 := eq_true p6
       replace q6 := eq_true q6
       go_wp2_with ((with_reducible refine gate_callee (f := 42) rfl ?_); refine gl_ 15 Try.func42 #[.string a1, .int .u8 (bt a0 x8_1)] ?_; (with_reducible refine (strings_IndexByte.calls a1 (bt a0 x8_1) t221 _ A7.out).mono ?_); rintro e w' ⟨rfl, ⟨nd, rfl⟩⟩; refine ⟨_, rfl, ?_⟩)
       go_ret
       exact ⟨by rfl, by repeat (first | exact Drawn0.refl _ | apply Drawn0.step)⟩
      ·rw [if_neg c8] at H
       have c8b0 : decide (t221 < 0) = false := decide_eq_false c8
       clear c8
       have H' := am H
       clear H
       have p6 : 0 ≤ (x8_1 : Int) := of_decide_eq_true (by with_reducible assumption)
       have q6 : x8_1 < (a0.size : Int) := of_decide_eq_true (by with_reducible assumption)
       have hx6 := bt_at a0 x8_1
       replace p6 := eq_true p6
       replace q6 := eq_true q6
       go_wp2_with ((with_reducible refine gate_callee (f := 42) rfl ?_); refine gl_ 15 Try.func42 #[.string a1, .int .u8 (bt a0 x8_1)] ?_; (with_reducible refine (strings_IndexByte.calls a1 (bt a0 x8_1) t221 _ A7.out).mono ?_); rintro e w' ⟨rfl, ⟨nd, rfl⟩⟩; refine ⟨_, rfl, ?_⟩)
       go_roundg k1
       case measure => have := HK1.out; omega
       case rel => exact ⟨(wrap64 (x8_1 + 1)), (by rfl), H', ⟨by have := HK1.out; omega⟩, by repeat (first | exact Drawn0.refl _ | apply Drawn0.step)⟩
     ·rw [if_neg c5] at H
      exact absurd H (by simp)
    ·rw [if_neg c4] at H
     exact absurd H (by simp)
   ·rw [if_neg c3] at H
    have c3b0 : decide (x8_1 < (a0.size : Int)) = false := decide_eq_false c3
    clear c3
    obtain ⟨t222, A9, H⟩ := bnd_ H
    try dsimp only at H
    obtain rfl := Option.some.inj H
    go_wp2_with ((with_reducible refine gate_callee (f := 61) rfl ?_); refine gl_ 20 Try.func61 #[.int .i64 (a0.size : Int), .int .i64 2, .int .i64 8] ?_; (with_reducible refine (impl_within.calls (a0.size : Int) 2 8 t222 _ A9.out).mono ?_); rintro e w' ⟨rfl, ⟨nd, rfl⟩⟩; refine ⟨_, rfl, ?_⟩)
    go_ret
    exact ⟨by rfl, by repeat (first | exact Drawn0.refl _ | apply Drawn0.step)⟩
def impl_AreWays.f (k : Nat) (a0_0 : ByteArray) (a0_1 : ByteArray) : Option (Bool) := (impl_areSigns.f k a0_0 (⟨#[101, 119]⟩ : ByteArray)).bind fun t224 => (if t224 = true then ((impl_areSigns.f k a0_1 (⟨#[110, 115]⟩ : ByteArray)).bind fun t225 => (some t225)) else (some false))
theorem impl_AreWays.calls (k : Nat) (a0_0 : ByteArray) (a0_1 : ByteArray) (r : Bool) (w : World) (h : impl_AreWays.f k a0_0 a0_1 = some r) :
  Calls Try.prog 43 #[.agg #[.string a0_0, .string a0_1]] w fun e w' => e = .returned (.bool r) ∧ Below w.heap.size w w' := by
 have hu25 := Try.underlying25
 have HB := am (Below.refl w.heap.size w)
 unfold impl_AreWays.f at h
 have H := h
 clear h
 obtain ⟨t224, A2, H⟩ := bnd_ H
 try dsimp only at H
 by_cases c3 : t224 = true
 ·subst c3
  rw [if_pos rfl] at H
  obtain ⟨t225, A4, H⟩ := bnd_ H
  try dsimp only at H
  obtain rfl := Option.some.inj H
  go_enter Try.func43, Try.ntmps43
  go_wp2_with (first | ((with_reducible refine gate_dst (N := 1) rfl ?_); refine bx_ 1 (#[.string a0_0, .string a0_1]) 25 ?_; intro gb223 hg w5 hbox hb; have BK223 := am (hbox); have GW223 := am ((by rw [hg]; exact (below_size HB.out) : w.heap.size ≤ gb223)); have GE223 := am ((by rw [hg]; exact (below_size HB.out) : w.heap.size ≤ gb223)); replace HB := am (below_step HB.out hb); clear hb hbox hg; have hcz6_0 := cz0_ BK223; have hcz6_1 := cz1_ BK223; have hfz6_0 := blk_frozen BK223.out 0; have hfz6_1 := blk_frozen BK223.out 1) | ((with_reducible refine gate_callee (f := 66) rfl ?_); refine gl_ 5 Try.func66 #[.string a0_0, .string (⟨#[101, 119]⟩ : ByteArray)] ?_; (with_reducible refine (impl_areSigns.calls k a0_0 (⟨#[101, 119]⟩ : ByteArray) true _ A2.out).mono ?_); rintro e w' ⟨rfl, ⟨nd, rfl⟩⟩; refine ⟨_, rfl, ?_⟩) | (go_at_call 66; (with_reducible refine (impl_areSigns.calls k a0_1 (⟨#[110, 115]⟩ : ByteArray) t225 _ A4.out).mono ?_); rintro e w' ⟨rfl, ⟨nd, rfl⟩⟩))
  go_ret
  exact ⟨by rfl, by repeat (with_reducible first | exact HB.out | apply pw_below_drewN)⟩
 ·replace c3 := Bool.eq_false_iff.mpr c3
  subst c3
  rw [if_neg (show ¬ (false = true) by decide)] at H
  obtain rfl := Option.some.inj H
  go_enter Try.func43, Try.ntmps43
  go_wp2_with (first | ((with_reducible refine gate_dst (N := 1) rfl ?_); refine bx_ 1 (#[.string a0_0, .string a0_1]) 25 ?_; intro gb223 hg w7 hbox hb; have BK223 := am (hbox); have GW223 := am ((by rw [hg]; exact (below_size HB.out) : w.heap.size ≤ gb223)); have GE223 := am ((by rw [hg]; exact (below_size HB.out) : w.heap.size ≤ gb223)); replace HB := am (below_step HB.out hb); clear hb hbox hg; have hcz8_0 := cz0_ BK223; have hcz8_1 := cz1_ BK223; have hfz8_0 := blk_frozen BK223.out 0; have hfz8_1 := blk_frozen BK223.out 1) | ((with_reducible refine gate_callee (f := 66) rfl ?_); refine gl_ 5 Try.func66 #[.string a0_0, .string (⟨#[101, 119]⟩ : ByteArray)] ?_; (with_reducible refine (impl_areSigns.calls k a0_0 (⟨#[101, 119]⟩ : ByteArray) false _ A2.out).mono ?_); rintro e w' ⟨rfl, ⟨nd, rfl⟩⟩; refine ⟨_, rfl, ?_⟩))
  go_ret
  exact ⟨by rfl, by repeat (with_reducible first | exact HB.out | apply pw_below_drewN)⟩
end Go.Proofs.Ytdhdkkhbgfcoiaa.MX
