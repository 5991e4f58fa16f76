-- The machine side, written by this repo's program mp.py; contracts marked as of this repo are this session's own.
import Derived.Test.YtdhdkkhbgfcoiaaMXx0
import Derived.Test.YtdhdkkhbgfcoiaaMXx4
import Derived.Test.YtdhdkkhbgfcoiaaMXx5
import Derived.Test.YtdhdkkhbgfcoiaaMXx8
import Derived.Test.YtdhdkkhbgfcoiaaMXx9
import Derived.Test.YtdhdkkhbgfcoiaaMXx13
namespace Go.Proofs.Ytdhdkkhbgfcoiaa.MX
open Go.RowKit Go.Proofs.YtdhdkkhbgfcoiaaW.PrintWords Go.Proofs.YtdhdkkhbgfcoiaaW.PrintLast Go.Proofs.YtdhdkkhbgfcoiaaW.PrintMore
attribute [local go_sem] max2_int min2_int max_two min_two max_three min_three max_four min_four   -- for this text's walks alone
set_option maxHeartbeats 8000000
set_option maxRecDepth 100000
set_option linter.unusedVariables false
set_option linter.unusedSimpArgs false
def impl_FewestTurns.f (k : Nat) (a0_0 : ByteArray) (a0_1 : ByteArray) (l1 : List Int) (l2 : List Int) : Option (Int × Bool) := (impl_areDriven.f k a0_0 a0_1 (([l1, l2] : List (List Int)))).bind fun t307 => (if t307 = true then ((impl_fewestTurns.f k a0_0 a0_1 l1 l2).bind fun bt308 => (some (bt308.1, bt308.2))) else (some (0, false)))
theorem impl_FewestTurns.calls (k : Nat) (a0_0 : ByteArray) (a0_1 : ByteArray) (P1_ : Nat → Prop) (A1 : Option Addr) (c1 : Nat) (l1 : List Int) (P2_ : Nat → Prop) (A2 : Option Addr) (c2 : Nat) (l2 : List Int) (r1 : Int) (r2 : Bool) (w : World) (hs1 : Kd.V (Kd.int .i64) 3 w w.heap.size (fun k_ => P1_ k_) (.slice A1 l1.length c1) l1) (hs2 : Kd.V (Kd.int .i64) 3 w w.heap.size (fun k_ => P2_ k_) (.slice A2 l2.length c2) l2) (h : impl_FewestTurns.f k a0_0 a0_1 l1 l2 = some (r1, r2)) :
  Calls Try.prog 12 #[.agg #[.string a0_0, .string a0_1], .slice A1 l1.length c1, .slice A2 l2.length c2] w fun e w' => e = .returned (.tuple #[.int .i64 r1, .bool r2]) ∧ Below w.heap.size w w' := by
 have hu25 := Try.underlying25
 have HO1 := am (show Kd.V (Kd.int .i64) 3 w w.heap.size (fun k_ => ((P1_ k_ ∨ P2_ k_) ∨ w.heap.size ≤ k_)) (.slice A1 l1.length c1) l1 from Kd.V_mono hs1 (fun k_ hk => .inl (.inl hk)))
 have HO2 := am (show Kd.V (Kd.int .i64) 3 w w.heap.size (fun k_ => ((P1_ k_ ∨ P2_ k_) ∨ w.heap.size ≤ k_)) (.slice A2 l2.length c2) l2 from Kd.V_mono hs2 (fun k_ hk => .inl (.inr hk)))
 have HB := am (Below.refl w.heap.size w)
 unfold impl_FewestTurns.f at h
 have H := h
 clear h
 obtain ⟨y304, hy304⟩ : ∃ y_ : List (List Int), y_ = (([l1, l2] : List (List Int))) := ⟨_, rfl⟩
 rw [← hy304] at H
 have Ny304 := am hy304
 clear hy304
 obtain ⟨t307, A4, H⟩ := bnd_ H
 try dsimp only at H
 by_cases c5 : t307 = true
 ·subst c5
  rw [if_pos rfl] at H
  obtain ⟨⟨t308, t309⟩, A6, H⟩ := bnd_ H
  try dsimp only at H
  simp only [Option.some.injEq, Prod.mk.injEq] at H
  obtain ⟨rfl, rfl⟩ := H
  go_enter Try.func12, Try.ntmps12
  go_wp2_with (first | ((with_reducible refine gate_dst (N := 3) rfl ?_); refine bx_ 3 (#[.string a0_0, .string a0_1]) 25 ?_; intro gb303 hg w7 hbox hb; replace HO1 := am (Kd.V_below (Kd.V_elderB HO1.out gb303 (Nat.le_of_eq hg.symm)) hb); replace HO2 := am (Kd.V_below (Kd.V_elderB HO2.out gb303 (Nat.le_of_eq hg.symm)) hb); have BK303 := am (hbox); have GW303 := am ((by rw [hg]; exact (below_size HB.out) : w.heap.size ≤ gb303)); have GE303 := am ((by rw [hg]; exact (below_size HB.out) : w.heap.size ≤ gb303)); replace HB := am (below_step HB.out hb); clear hb hbox hg; have hcz8_0 := cz0_ BK303; have hcz8_1 := cz1_ BK303; have hfz8_0 := blk_frozen BK303.out 0; have hfz8_1 := blk_frozen BK303.out 1) | ((with_reducible refine gate_dst (N := 11) rfl ?_); refine Kd.N_lit (Kd.slice 3 (Kd.int .i64)) _ 26 ?hg (N' := 11) ?hd (xs := ([l1, l2] : List (List Int))) (inner := [.slice A1 l1.length c1, .slice A2 l2.length c2]) (ok := (fun k_ => ((P1_ k_ ∨ P2_ k_) ∨ w.heap.size ≤ k_) ∧ k_ ≠ gb303)) (okp := (fun k_ => ((P1_ k_ ∨ P2_ k_) ∨ w.heap.size ≤ k_) ∧ k_ ≠ gb303)) ?hr ?hp (fun _ hk => hk) ((show ∀ k_, w7.heap.size ≤ k_ → (fun k_ => ((P1_ k_ ∨ P2_ k_) ∨ w.heap.size ≤ k_) ∧ k_ ≠ gb303) k_ from fun k_ hk => ⟨(.inr (Nat.le_trans (below_size HB.out) hk)), Kd.freshB (g := gb303) (o := .cells #[.string a0_0, .string a0_1] 25 (0, 0)) BK303.out k_ hk⟩) _ (Nat.le_refl _)) (Below.refl _ _) (Nat.le_refl _) (by simp) ?_; (case hd => rfl); (case hg => rfl); (case hr => go_simp; done); (case hp => exact (Reps.one (show Kd.FK (Kd.slice 3 (Kd.int .i64)) _ _ l1 [.slice A1 l1.length c1] from (Kd.FK_slice_mk (Kd.V_reads' (Kd.V_mono (ok' := (fun k_ => ((P1_ k_ ∨ P2_ k_) ∨ w.heap.size ≤ k_) ∧ k_ ≠ gb303)) (HO1.out) (fun k_ hk => ⟨hk.1, hk.2⟩))).2.1 (Kd.V_F (Kd.V_mono (ok' := (fun k_ => ((P1_ k_ ∨ P2_ k_) ∨ w.heap.size ≤ k_) ∧ k_ ≠ gb303)) (HO1.out) (fun k_ hk => ⟨hk.1, hk.2⟩))))) (Reps.one (show Kd.FK (Kd.slice 3 (Kd.int .i64)) _ _ l2 [.slice A2 l2.length c2] from (Kd.FK_slice_mk (Kd.V_reads' (Kd.V_mono (ok' := (fun k_ => ((P1_ k_ ∨ P2_ k_) ∨ w.heap.size ≤ k_) ∧ k_ ≠ gb303)) (HO2.out) (fun k_ hk => ⟨hk.1, hk.2⟩))).2.1 (Kd.V_F (Kd.V_mono (ok' := (fun k_ => ((P1_ k_ ∨ P2_ k_) ∨ w.heap.size ≤ k_) ∧ k_ ≠ gb303)) (HO2.out) (fun k_ hk => ⟨hk.1, hk.2⟩))))) (Reps.none _ _)))); intro v305 w9 ho10 hb hg_ hnew_; clear hg_ hnew_; (rw [← Ny304.out] at ho10); replace HO1 := am (Kd.V_elder' HO1.out (Kd.N_base ho10) hb); replace HO2 := am (Kd.V_elder' HO2.out (Kd.N_base ho10) hb); have HO306 := am (Kd.N_lower ho10 (below_size HB.out)); replace BK303 := am (blk_below BK303.out hb); replace HB := am (below_step HB.out hb); clear hb ho10; obtain ⟨Ao11, co11, eo11⟩ := Kd.N_slice HO306.out; subst eo11) | ((with_reducible refine gate_callee (f := 29) rfl ?_); refine gl_ 12 Try.func29 #[.agg #[.string a0_0, .string a0_1], .slice Ao11 y304.length co11] ?_; (with_reducible refine (impl_areDriven.calls k a0_0 a0_1 _ _ y304 true _ ((Kd.N_reads' HO306.out).2.2) ?side2 A4.out).mono ?_); (case side2 => exact (Kd.N_reads' HO306.out).2.1); rintro e w12 ⟨rfl, hb⟩; refine ⟨_, rfl, ?_⟩; replace HO1 := am (Kd.V_below HO1.out hb); replace HO2 := am (Kd.V_below HO2.out hb); replace HO306 := am (Kd.N_below HO306.out hb); replace BK303 := am (blk_below BK303.out hb); replace HB := am (below_step HB.out hb); (try clear hb); have hcz13_0 := cz0_ BK303; have hcz13_1 := cz1_ BK303; have hfz13_0 := blk_frozen BK303.out 0; have hfz13_1 := blk_frozen BK303.out 1) | ((with_reducible refine gate_callee (f := 39) rfl ?_); refine gl_ 17 Try.func39 #[.agg #[.string a0_0, .string a0_1], .slice A1 l1.length c1, .slice A2 l2.length c2] ?_; (with_reducible refine (impl_fewestTurns.calls k a0_0 a0_1 _ _ l1 _ _ l2 t308 t309 _ ((Kd.V_reads' HO1.out).2.2) ?side2 ?side3 ?side4 A6.out).mono ?_); (case side2 => exact (Kd.V_reads' HO1.out).2.1); (case side3 => repeat (exact (Kd.V_reads' HO2.out).2.2)); (case side4 => exact (Kd.V_reads' HO2.out).2.1); rintro e w14 ⟨rfl, hb⟩; refine ⟨_, rfl, ?_⟩; replace HO1 := am (Kd.V_below HO1.out hb); replace HO2 := am (Kd.V_below HO2.out hb); replace HO306 := am (Kd.N_below HO306.out hb); replace BK303 := am (blk_below BK303.out hb); replace HB := am (below_step HB.out hb); (try clear hb)))
  go_ret2
  exact ⟨by rfl, by exact HB.out⟩
 ·replace c5 := Bool.eq_false_iff.mpr c5
  subst c5
  rw [if_neg (show ¬ (false = true) by decide)] at H
  simp only [Option.some.injEq, Prod.mk.injEq] at H
  obtain ⟨rfl, rfl⟩ := H
  go_enter Try.func12, Try.ntmps12
  go_wp2_with (first | ((with_reducible refine gate_dst (N := 3) rfl ?_); refine bx_ 3 (#[.string a0_0, .string a0_1]) 25 ?_; intro gb303 hg w15 hbox hb; replace HO1 := am (Kd.V_below (Kd.V_elderB HO1.out gb303 (Nat.le_of_eq hg.symm)) hb); replace HO2 := am (Kd.V_below (Kd.V_elderB HO2.out gb303 (Nat.le_of_eq hg.symm)) hb); have BK303 := am (hbox); have GW303 := am ((by rw [hg]; exact (below_size HB.out) : w.heap.size ≤ gb303)); have GE303 := am ((by rw [hg]; exact (below_size HB.out) : w.heap.size ≤ gb303)); replace HB := am (below_step HB.out hb); clear hb hbox hg; have hcz16_0 := cz0_ BK303; have hcz16_1 := cz1_ BK303; have hfz16_0 := blk_frozen BK303.out 0; have hfz16_1 := blk_frozen BK303.out 1) | ((with_reducible refine gate_dst (N := 11) rfl ?_); refine Kd.N_lit (Kd.slice 3 (Kd.int .i64)) _ 26 ?hg (N' := 11) ?hd (xs := ([l1, l2] : List (List Int))) (inner := [.slice A1 l1.length c1, .slice A2 l2.length c2]) (ok := (fun k_ => ((P1_ k_ ∨ P2_ k_) ∨ w.heap.size ≤ k_) ∧ k_ ≠ gb303)) (okp := (fun k_ => ((P1_ k_ ∨ P2_ k_) ∨ w.heap.size ≤ k_) ∧ k_ ≠ gb303)) ?hr ?hp (fun _ hk => hk) ((show ∀ k_, w15.heap.size ≤ k_ → (fun k_ => ((P1_ k_ ∨ P2_ k_) ∨ w.heap.size ≤ k_) ∧ k_ ≠ gb303) k_ from fun k_ hk => ⟨(.inr (Nat.le_trans (below_size HB.out) hk)), Kd.freshB (g := gb303) (o := .cells #[.string a0_0, .string a0_1] 25 (0, 0)) BK303.out k_ hk⟩) _ (Nat.le_refl _)) (Below.refl _ _) (Nat.le_refl _) (by simp) ?_; (case hd => rfl); (case hg => rfl); (case hr => go_simp; done); (case hp => exact (Reps.one (show Kd.FK (Kd.slice 3 (Kd.int .i64)) _ _ l1 [.slice A1 l1.length c1] from (Kd.FK_slice_mk (Kd.V_reads' (Kd.V_mono (ok' := (fun k_ => ((P1_ k_ ∨ P2_ k_) ∨ w.heap.size ≤ k_) ∧ k_ ≠ gb303)) (HO1.out) (fun k_ hk => ⟨hk.1, hk.2⟩))).2.1 (Kd.V_F (Kd.V_mono (ok' := (fun k_ => ((P1_ k_ ∨ P2_ k_) ∨ w.heap.size ≤ k_) ∧ k_ ≠ gb303)) (HO1.out) (fun k_ hk => ⟨hk.1, hk.2⟩))))) (Reps.one (show Kd.FK (Kd.slice 3 (Kd.int .i64)) _ _ l2 [.slice A2 l2.length c2] from (Kd.FK_slice_mk (Kd.V_reads' (Kd.V_mono (ok' := (fun k_ => ((P1_ k_ ∨ P2_ k_) ∨ w.heap.size ≤ k_) ∧ k_ ≠ gb303)) (HO2.out) (fun k_ hk => ⟨hk.1, hk.2⟩))).2.1 (Kd.V_F (Kd.V_mono (ok' := (fun k_ => ((P1_ k_ ∨ P2_ k_) ∨ w.heap.size ≤ k_) ∧ k_ ≠ gb303)) (HO2.out) (fun k_ hk => ⟨hk.1, hk.2⟩))))) (Reps.none _ _)))); intro v305 w17 ho18 hb hg_ hnew_; clear hg_ hnew_; (rw [← Ny304.out] at ho18); replace HO1 := am (Kd.V_elder' HO1.out (Kd.N_base ho18) hb); replace HO2 := am (Kd.V_elder' HO2.out (Kd.N_base ho18) hb); have HO306 := am (Kd.N_lower ho18 (below_size HB.out)); replace BK303 := am (blk_below BK303.out hb); replace HB := am (below_step HB.out hb); clear hb ho18; obtain ⟨Ao19, co19, eo19⟩ := Kd.N_slice HO306.out; subst eo19) | ((with_reducible refine gate_callee (f := 29) rfl ?_); refine gl_ 12 Try.func29 #[.agg #[.string a0_0, .string a0_1], .slice Ao19 y304.length co19] ?_; (with_reducible refine (impl_areDriven.calls k a0_0 a0_1 _ _ y304 false _ ((Kd.N_reads' HO306.out).2.2) ?side2 A4.out).mono ?_); (case side2 => exact (Kd.N_reads' HO306.out).2.1); rintro e w20 ⟨rfl, hb⟩; refine ⟨_, rfl, ?_⟩; replace HO1 := am (Kd.V_below HO1.out hb); replace HO2 := am (Kd.V_below HO2.out hb); replace HO306 := am (Kd.N_below HO306.out hb); replace BK303 := am (blk_below BK303.out hb); replace HB := am (below_step HB.out hb); (try clear hb)))
  go_ret2
  exact ⟨by rfl, by exact HB.out⟩
def spec_owRun.T12 : Bool × List (List Nat × List Nat) := (true, [([], []), ([], []), ([], []), ([1, 2], [1, 2]), ([], []), ([], []), ([4, 5], [4, 5]), ([], []), ([0, 3, 6, 7], [0, 3, 6, 7]), ([8], [8]), ([9], [9]), ([9], [9]), ([9], [9]), ([10, 8, 0, 1, 2, 3, 4, 5, 6, 7, 8, 9, 10], [10]), ([11, 13, 0, 1, 2, 3, 4, 5, 6, 7, 8, 9, 10, 11, 13], [11]), ([12, 14, 0, 1, 2, 3, 4, 5, 6, 7, 8, 9, 10, 11, 12, 13, 14], [12])])
def spec_owRun.B12 : List Nat := [0, 0, 0, 6, 0, 0, 48, 0, 255, 511, 1023, 1023, 1023, 2047, 12287, 32767]
theorem spec_owRun.tab12 : rtab .any (opsOf Try.f40 12) = spec_owRun.T12 := by kernel_rfl
theorem spec_owRun.bits12 : waitsOk spec_owRun.T12.2 spec_owRun.B12 = true := by kernel_rfl
def spec_owRun.Blk (w : World) (g N : Nat) (c : Nat → Bool) : Prop := ∃ cur : Array Value, w.heap[g]? = some (.cells cur 4 (0, 0)) ∧ cur.size = N ∧ ∀ i, i < N → cur[i]? = some (.bool (c i))
theorem spec_owRun.Blk.cell {w : World} {g N : Nat} {c : Nat → Bool} (h : spec_owRun.Blk w g N c) (i : Nat) (hi : i < N) : w.cell? ⟨g, i, none⟩ = some (.bool (c i)) := by
 obtain ⟨cur, h1, h2, h3⟩ := h
 simp only [World.cell?, h1]
 simpa using h3 i hi
theorem spec_owRun.Blk.free {w : World} {g N : Nat} {c : Nat → Bool} (h : spec_owRun.Blk w g N c) (i : Nat) : w.frozen? ⟨g, i, none⟩ = false := by
 obtain ⟨cur, h1, h2, h3⟩ := h
 simp [World.frozen?, h1]
theorem spec_owRun.Blk.below {w w' : World} {g N : Nat} {c : Nat → Bool} (h : spec_owRun.Blk w g N c) (hb : Below w.heap.size w w') : spec_owRun.Blk w' g N c := by
 obtain ⟨cur, h1, h2, h3⟩ := h
 exact ⟨cur, (hb.block g (Array.getElem?_eq_some_iff.1 h1).1).trans h1, h2, h3⟩
theorem spec_owRun.Blk.move {w w' : World} {g N : Nat} {c : Nat → Bool} (h : spec_owRun.Blk w g N c) (e : w'.heap[g]? = w.heap[g]?) : spec_owRun.Blk w' g N c := by
 obtain ⟨cur, h1, h2, h3⟩ := h
 exact ⟨cur, e.trans h1, h2, h3⟩
theorem spec_owRun.Blk.lt {w : World} {g N : Nat} {c : Nat → Bool} (h : spec_owRun.Blk w g N c) : g < w.heap.size := by
 obtain ⟨cur, h1, -⟩ := h
 exact (Array.getElem?_eq_some_iff.1 h1).1
theorem spec_owRun.Blk.ext {w : World} {g N : Nat} {c c' : Nat → Bool} (h : spec_owRun.Blk w g N c) (e : ∀ i, i < N → c i = c' i) : spec_owRun.Blk w g N c' := by
 obtain ⟨cur, h1, h2, h3⟩ := h
 exact ⟨cur, h1, h2, fun i hi => by rw [← e i hi]; exact h3 i hi⟩
theorem spec_owRun.Blk.zero (w : World) (N : Nat) : spec_owRun.Blk (w.alloc (.cells (madeCells #[Value.bool false] N) 4)) w.heap.size N (fun _ => false) := by
 refine ⟨_, heap_alloc_new _ _, by rw [size_madeCells], fun j hj => ?_⟩
 rw [← Array.getElem?_toList, toList_madeCells_one]
 simp [hj]
theorem spec_owRun.Blk.set {w : World} {g N : Nat} {c : Nat → Bool} (h : spec_owRun.Blk w g N c) (i : Nat) (hi : i < N) (v : Bool) : spec_owRun.Blk (w.setCell ⟨g, i, none⟩ (.bool v)) g N (fun j => if j = i then v else c j) := by
 obtain ⟨cur, h1, h2, h3⟩ := h
 refine ⟨cur.setIfInBounds i (.bool v), by simp [World.setCell, Array.getElem?_modify, h1], by simpa using h2, fun j hj => ?_⟩
 rw [Array.getElem?_setIfInBounds]
 by_cases e : i = j
 ·subst e; simp [h2, hj]
 ·rw [if_neg e, h3 j hj]
  simp [Ne.symm e]
def spec_owRun.But (w w' : World) (g : Nat) : Prop := Kept w w' (fun k => k = g) ∧ w'.os = w.os ∧ w'.tape = w.tape ∧ w'.output = w.output
theorem spec_owRun.But.below {w W w' : World} {g : Nat} (h : spec_owRun.But w W g) (hb : Below W.heap.size W w') : spec_owRun.But w w' g := ⟨h.1.below hb, hb.os.trans h.2.1, hb.tape.trans h.2.2.1, hb.output.trans h.2.2.2⟩
theorem spec_owRun.But.drew {w W : World} {g : Nat} (h : spec_owRun.But w W g) : spec_owRun.But w W.drew g := h.below (below_drew1 (Below.refl _ _))
theorem spec_owRun.But.set {w W : World} {g : Nat} (h : spec_owRun.But w W g) (j : Nat) (v : Value) : spec_owRun.But w (W.setCell ⟨g, j, none⟩ v) g := ⟨h.1.setCell (p := ⟨g, j, none⟩) (.inl rfl) v, h.2⟩
theorem spec_owRun.But.kept {B : Nat} {w W w' : World} {g : Nat} (h : spec_owRun.But W w' g) (hb : Below B w W) (hB : B ≤ g) (hs : B ≤ w.heap.size) : Below B w w' := ⟨h.2.1.trans hb.os, h.2.2.1.trans hb.tape, h.2.2.2.trans hb.output, Nat.le_trans hb.size h.1.1, fun k hk => (h.1.2 k (by have := hb.size; omega) (by omega)).trans (hb.block k hk)⟩
def spec_owRun.nx (s t sg : ByteArray) (along : Bool) (i : Nat) : Option Nat :=
 if (spec_owFar.Stp s t ((i / s.size : Nat) : Int) ((i % s.size : Nat) : Int) (bt sg ((if along = true then i % s.size else i / s.size % sg.size : Nat) : Int))).2.2 = true then some ((spec_owFar.Stp s t ((i / s.size : Nat) : Int) ((i % s.size : Nat) : Int) (bt sg ((if along = true then i % s.size else i / s.size % sg.size : Nat) : Int))).1 * s.size + (spec_owFar.Stp s t ((i / s.size : Nat) : Int) ((i % s.size : Nat) : Int) (bt sg ((if along = true then i % s.size else i / s.size % sg.size : Nat) : Int))).2.1).toNat else none
theorem spec_owRun.ok_bd {s t : ByteArray} {x y c u v : Int} (hx : 0 ≤ x ∧ x < t.size) (hy : 0 ≤ y ∧ y < s.size) (h : (u, v, true) = spec_owFar.Stp s t x y c) : (0 ≤ u ∧ u < t.size) ∧ (0 ≤ v ∧ v < s.size) := by
 unfold spec_owFar.Stp at h
 split at h
 ·have h1 := (Prod.mk.inj h).1
  have h2 := (Prod.mk.inj (Prod.mk.inj h).2).1
  have h3 := (Prod.mk.inj (Prod.mk.inj h).2).2
  have h4 := h3.symm
  rw [Bool.and_eq_true] at h4
  have h5 := of_decide_eq_true h4.1
  rw [← h1] at h5
  omega
 ·split at h
  ·have h1 := (Prod.mk.inj h).1
   have h2 := (Prod.mk.inj (Prod.mk.inj h).2).1
   have h3 := (Prod.mk.inj (Prod.mk.inj h).2).2
   have h4 := h3.symm
   rw [Bool.and_eq_true] at h4
   have h5 := of_decide_eq_true h4.2
   rw [← h2] at h5
   omega
  ·have h3 := (Prod.mk.inj (Prod.mk.inj h).2).2
   cases h3
def spec_owRun.stepF (s t sg : ByteArray) (along : Bool) (i : Nat) (p : (Nat → Bool) × Bool) : (Nat → Bool) × Bool :=
 if p.1 i = true then (match spec_owRun.nx s t sg along i with
  | some j => if p.1 j = false then ((fun q => if q = j then true else p.1 q), true) else p
  | none => p) else p
def spec_owRun.pass (s t sg : ByteArray) (along : Bool) : Nat → Nat → (Nat → Bool) × Bool → (Nat → Bool) × Bool
 | 0, _, p => p
 | r + 1, i, p => spec_owRun.pass s t sg along r (i + 1) (spec_owRun.stepF s t sg along i p)
def spec_owRun.all (s t sg : ByteArray) (along : Bool) (N : Nat) : Nat → (Nat → Bool) → Option (Nat → Bool)
 | 0, _ => none
 | k + 1, c => if (spec_owRun.pass s t sg along N 0 (c, false)).2 = true then spec_owRun.all s t sg along N k (spec_owRun.pass s t sg along N 0 (c, false)).1 else some (spec_owRun.pass s t sg along N 0 (c, false)).1
theorem spec_owRun.small (d : Nat) (h : d ≤ 128) : wrap64 (d : Int) = (d : Int) := by
 unfold wrap64
 omega
theorem spec_owRun.walk (k : Nat) (s t sg : ByteArray) (along : Bool) (hs : 1 ≤ s.size ∧ s.size ≤ 8) (ht : 1 ≤ t.size ∧ t.size ≤ 8) (hg : sg = if along = true then s else t) (g : Nat) (c : Nat → Bool) (c' : Nat → Bool) (w : World) (hb : spec_owRun.Blk w g (s.size * t.size) c) (h : spec_owRun.all s t sg along (s.size * t.size) k c = some c') :
  Calls Try.prog 40 #[.agg #[.string s, .string t], .slice (some ⟨g, 0, none⟩) (s.size * t.size) (s.size * t.size), .string sg, .bool along] w fun e w' => e = .returned (.tuple #[]) ∧ spec_owRun.Blk w' g (s.size * t.size) c' ∧ spec_owRun.But w w' g := by
 obtain ⟨N, hN⟩ : ∃ N, N = s.size * t.size := ⟨_, rfl⟩
 have HNE := am hN
 have HN := am (show 1 ≤ N ∧ N ≤ 64 by
  rw [hN]
  exact ⟨Nat.mul_pos hs.1 ht.1, Nat.mul_le_mul hs.2 ht.2⟩)
 rw [← hN] at hb h ⊢
 have HB := am hb
 have H := am h
 have HG := am hg
 clear hb h hg hN
 go_enter Try.func40, Try.ntmps40
 go_wp2
 have HK0 := am (show spec_owRun.But w (w.alloc (.cells #[.string s, .string t] 25)) g from ⟨Kept.alloc (Kept.refl _ _) _, rfl, rfl, rfl⟩)
 have HBk := am (HB.out.below (below_alloc (Below.refl _ _) (.cells #[.string s, .string t] 25)))
 have HW := am (show (w.alloc (.cells #[.string s, .string t] 25)).heap[w.heap.size]? = some (.cells #[.string s, .string t] 25 (0, 0)) from heap_alloc_new _ _)
 go_loopg [9] k (fun kq av wr => ∃ (ag : Bool) (cc : Nat → Bool), av = .bool ag ∧ Aside0 (if ag = true then spec_owRun.all s t sg along N kq cc = some c' else cc = c') ∧ Aside0 (kq ≤ k) ∧ Aside0 (spec_owRun.Blk wr g N cc) ∧ Aside0 (spec_owRun.But w wr g) ∧ Aside0 (wr.heap[w.heap.size]? = some (.cells #[.string s, .string t] 25 (0, 0))))
 case atStart => exact ⟨true, c, rfl, ⟨by rw [if_pos rfl]; exact H.out⟩, ⟨Nat.le_refl _⟩, HBk, HK0, HW⟩
 case round =>
  clear H HB HBk HK0 HW
  obtain ⟨ag, cc, rfl, H, HK, HB, HP, HW⟩ := hrel
  cases ag with
  | false =>
   have h := H.out
   rw [if_neg (by simp)] at h
   subst h
   go_wp2
   first | refine bodyPost_end (results_none rfl _ _ _) rfl ?_
   exact ⟨rfl, HB.out, HP.out⟩
  | true =>
   have h := H.out
   rw [if_pos rfl] at h
   cases gk with
   | zero => exact absurd h (by simp [spec_owRun.all])
   | succ k1 =>
    simp only [spec_owRun.all] at h
    obtain ⟨P, hP⟩ : ∃ P, P = spec_owRun.pass s t sg along N 0 (cc, false) := ⟨_, rfl⟩
    rw [← hP] at h
    have HPs := am hP.symm
    have HH := am h
    clear h H hP
    go_wp2
    go_loopw [9, 23] (fun av iv wr => ∃ (i : Nat) (ag : Bool) (cq : Nat → Bool), av = .bool ag ∧ iv = .int .i64 i ∧ i ≤ N ∧ Aside0 (spec_owRun.pass s t sg along (N - i) i (cq, ag) = P) ∧ Aside0 (spec_owRun.Blk wr g N cq) ∧ Aside0 (spec_owRun.But w wr g) ∧ Aside0 (wr.heap[w.heap.size]? = some (.cells #[.string s, .string t] 25 (0, 0)))) (fun _ iv _ => N - (intOf iv).toNat)
    case atStart => exact ⟨0, false, cc, rfl, rfl, by omega, HPs, HB, HP, HW⟩
    case round =>
     clear HPs HB HP HW
     obtain ⟨i, ag, cq, rfl, rfl, hi, HPs, HB, HP, HW⟩ := hrel
     have hN64 := HN.out
     by_cases hlt : i < N
     ·have hcell := HB.out.cell i hlt
      have hd : decide ((i : Int) < (N : Int)) = true := decide_eq_true (by omega)
      cases hv : cq i with
      | false =>
       rw [hv] at hcell
       have HR := am (show spec_owRun.pass s t sg along (N - (i + 1)) (i + 1) (cq, ag) = P by
        have z := HPs.out
        rw [show N - i = (N - (i + 1)) + 1 by omega] at z
        simp only [spec_owRun.pass, spec_owRun.stepF] at z
        rw [if_neg (by rw [hv]; simp)] at z
        exact z)
       go_wp2
       go_roundw
       case rel => exact ⟨i + 1, ag, cq, rfl, by go_num, by omega, HR, HB, HP, HW⟩
       case measure => simp [intOf]; omega
      | true =>
       rw [hv] at hcell
       obtain ⟨g1, g8⟩ : 1 ≤ sg.size ∧ sg.size ≤ 8 := by
        rw [HG.out]
        cases along with
        | true => rw [if_pos rfl]; exact hs
        | false => rw [if_neg (by simp)]; exact ht
       have e0 : wrap64 ((i : Int) / (s.size : Int)) = ((i / s.size : Nat) : Int) := by
        have z : i / s.size ≤ i := Nat.div_le_self _ _
        rw [← Int.natCast_ediv]
        generalize i / s.size = d at z ⊢
        unfold wrap64
        omega
       have e1 : ((i / s.size : Nat) : Int).tmod (sg.size : Int) = ((i / s.size % sg.size : Nat) : Int) := by rw [Int.tmod_eq_emod_of_nonneg (Int.natCast_nonneg _), Int.natCast_emod]
       have e2 : ((i : Nat) : Int).tmod (s.size : Int) = ((i % s.size : Nat) : Int) := by rw [Int.tmod_eq_emod_of_nonneg (Int.natCast_nonneg _), Int.natCast_emod]
       have l1 : i / s.size % sg.size < sg.size := Nat.mod_lt _ (by omega)
       have l2 : i % s.size < s.size := Nat.mod_lt _ (by omega)
       have ne1 : ¬ sg = ByteArray.empty := fun e => by rw [e] at g1; simp at g1
       have ne2 : ¬ s = ByteArray.empty := fun e => by have := hs.1; rw [e] at this; simp at this
       have n1 : ((i / s.size % sg.size : Nat) : Int).toNat = i / s.size % sg.size := Int.toNat_natCast _
       have p1 : (0 ≤ ((i / s.size % sg.size : Nat) : Int) ∧ ((i / s.size % sg.size : Nat) : Int) < (sg.size : Int)) := ⟨Int.natCast_nonneg _, by omega⟩
       have p2 : i / s.size % sg.size < sg.size := l1
       cases along with
       | true =>
        obtain rfl : sg = s := by have z := HG.out; rw [if_pos rfl] at z; exact z
        have hxt : i / sg.size < t.size := Nat.div_lt_of_lt_mul (by rw [← HNE.out]; exact hlt)
        obtain ⟨ko, hko⟩ := spec_owFar.step_f sg t ((i : Int) / (sg.size : Int)) ((i : Int) % (sg.size : Int)) ((sg[i % sg.size].toNat : Nat) : Int) (by rw [← Int.natCast_ediv]; exact ⟨Int.natCast_nonneg _, by omega⟩) (by rw [← Int.natCast_emod]; exact ⟨Int.natCast_nonneg _, by omega⟩) hs.2 ht.2
        have HO0 := hko ko (Nat.le_refl _)
        obtain ⟨⟨u, v, ok⟩, hst⟩ : ∃ z, z = spec_owFar.Stp sg t ((i : Int) / (sg.size : Int)) ((i : Int) % (sg.size : Int)) ((sg[i % sg.size].toNat : Nat) : Int) := ⟨_, rfl⟩
        rw [← hst] at HO0
        have HO := am (show ∀ W : World, Calls Try.prog 37 #[.agg #[.string sg, .string t], .int .i64 (wrap64 ((i : Int) / (sg.size : Int))), .int .i64 ((i : Int).tmod (sg.size : Int)), .int .u8 ((sg[i % sg.size].toNat : Nat) : Int)] W (fun e w' => e = .returned (.tuple #[.int .i64 u, .int .i64 v, .bool ok]) ∧ Below W.heap.size W w') from fun W => by
         rw [e0, e2, Int.natCast_ediv, Int.natCast_emod]
         exact spec_owStep.calls ko sg t _ _ _ u v ok W HO0)
        have HST := am hst
        clear HO0 hst hko
        go_wp2
        have HB1 := am (HB.out.below (below_drew1 (Below.refl _ _)))
        have HP1 := am (spec_owRun.But.drew HP.out)
        have HW1 := am (show wr.drew.heap[w.heap.size]? = some (.cells #[.string sg, .string t] 25 (0, 0)) from HW.out)
        have hb0 : wr.drew.cell? ⟨w.heap.size, 0, none⟩ = some (.string sg) := (blk_cell HW1.out 0).trans rfl
        have hb1 : wr.drew.cell? ⟨w.heap.size, 1, none⟩ = some (.string t) := (blk_cell HW1.out 1).trans rfl
        refine start_ (n := 16) (S := fun w' => w'.cell? ⟨w.heap.size, 0, none⟩ = some (.string sg) ∧ w'.cell? ⟨w.heap.size, 1, none⟩ = some (.string t)) (ds := []) #[false, false, false, false, false, false, false, false, false, false, false, false, false, false, false, false] (by kernel_rfl) rfl rfl ⟨hb0, hb1⟩ (fun hHeld => ?_); refine with_tabW spec_owRun.tab12 spec_owRun.bits12 (fun HT_ HW_ => ?_)
        generalize wr.drew = w5 at HB1 HP1 HW1 hb0 hb1 hHeld ⊢
        refine tk_ 0 45 (fl_ 16 1) HT_ HW_ hHeld ?_ (hy := by rintro w' ⟨s0, s1⟩; go_simp; with_reducible rfl)
        refine pu_ 1 46 (fl_ 16 3) HT_ ?_
        refine pu_ 2 47 (fl_ 16 7) HT_ ?_
        refine pu_ 3 48 (fl_ 16 15) HT_ ?_
        refine pu_ 4 49 (fl_ 16 31) HT_ ?_
        refine pu_ 5 50 (fl_ 16 63) HT_ ?_
        refine pu_ 6 51 (fl_ 16 127) HT_ ?_
        refine pu_ 7 52 (fl_ 16 255) HT_ ?_
        refine on_ 8 53 (fl_ 16 511) HT_ fun K hK => ?_
        refine gs_ Try.func37 #[.agg #[.string sg, .string t], .int .i64 (wrap64 ((i : Int) / (sg.size : Int))), .int .i64 ((i : Int).tmod (sg.size : Int)), .int .u8 (((sg[i % sg.size].toNat : Nat) : Int))] ?_
        with_reducible refine (HO.out _).mono ?_
        rintro e w6 ⟨rfl, hb6⟩
        refine ⟨_, rfl, ?_⟩
        have HB6 := am (HB1.out.below hb6)
        have HP6 := am (spec_owRun.But.below HP1.out hb6)
        have HW6 := am ((hb6.block _ (Array.getElem?_eq_some_iff.1 HW1.out).1).trans HW1.out)
        clear hb6
        refine hK.out _ _ ⟨(blk_cell HW6.out 0).trans rfl, (blk_cell HW6.out 1).trans rfl⟩ (fun hHeld => ?_)
        clear hK K
        refine nm_ 53 ?_
        refine pu_ 9 44 (fl_ 16 1023) HT_ ?_
        refine pu_ 10 54 (fl_ 16 2047) HT_ ?_
        refine pu_ 11 55 (fl_ 16 4095) HT_ ?_
        refine pu_ 12 56 (fl_ 16 8191) HT_ ?_
        refine pu_ 13 13 (fl_ 16 16383) HT_ ?_
        refine pu_ 14 14 (fl_ 16 32767) HT_ ?_
        refine pu_ 15 15 (fl_ 16 65535) HT_ ?_
        refine done_ (done_of HT_.out (by kernel_rfl)) ?_
        clear hHeld HT_ HW_ hb0 hb1 hcell
        have HNX := am (show spec_owRun.nx sg t sg true i = if ok = true then some (u * sg.size + v).toNat else none by
         unfold spec_owRun.nx
         simp only [if_true]
         rw [impl_driveIn.bt_k sg _ l2, Int.natCast_ediv, Int.natCast_emod, ← HST.out])
        have HBD := am (show ok = true → (0 ≤ u ∧ u < t.size) ∧ (0 ≤ v ∧ v < sg.size) from fun e => spec_owRun.ok_bd (s := sg) (t := t) (x := (i : Int) / (sg.size : Int)) (y := (i : Int) % (sg.size : Int)) (c := ((sg[i % sg.size].toNat : Nat) : Int)) (by rw [← Int.natCast_ediv]; exact ⟨Int.natCast_nonneg _, by omega⟩) (by rw [← Int.natCast_emod]; exact ⟨Int.natCast_nonneg _, by omega⟩) (by rw [← HST.out, e]))
        clear e0 e1 e2 p1 n1
        cases ok with
        | false =>
         have HR := am (show spec_owRun.pass sg t sg true (N - (i + 1)) (i + 1) (cq, ag) = P by
          have z := HPs.out
          rw [show N - i = (N - (i + 1)) + 1 by omega] at z
          simp only [spec_owRun.pass, spec_owRun.stepF] at z
          rw [if_pos hv, HNX.out] at z
          simpa using z)
         go_wp2
         go_roundw
         case rel => exact ⟨i + 1, ag, cq, rfl, by go_num, by omega, HR, HB6, HP6, HW6⟩
         case measure => simp [intOf]; omega
        | true =>
         obtain ⟨⟨u0, u1⟩, v0, v1⟩ := HBD.out rfl
         obtain ⟨ux, rfl⟩ := Int.eq_ofNat_of_zero_le u0
         obtain ⟨vy, rfl⟩ := Int.eq_ofNat_of_zero_le v0
         obtain ⟨j, hj⟩ : ∃ j, j = ux * sg.size + vy := ⟨_, rfl⟩
         have hjN : j < N := by
          have z : (ux + 1) * sg.size ≤ t.size * sg.size := Nat.mul_le_mul_right _ (by omega)
          rw [Nat.succ_mul] at z
          rw [HNE.out, Nat.mul_comm sg.size t.size]
          omega
         have hm8 : ux * sg.size ≤ 64 := by omega
         have ew1 : wrap64 ((ux : Int) * (sg.size : Int)) = (ux : Int) * (sg.size : Int) := by
          rw [← Int.natCast_mul]
          exact spec_owRun.small _ (by omega)
         have ew2 : wrap64 ((ux : Int) * (sg.size : Int) + (vy : Int)) = (j : Int) := by
          rw [← Int.natCast_mul, ← Int.natCast_add, ← hj]
          exact spec_owRun.small _ (by have := HN.out; omega)
         have ew3 : IntKind.i64.wrap ((ux : Int) * (sg.size : Int) + (vy : Int)) = (j : Int) := (i64_w _).trans ew2
         have HNX2 := am (show spec_owRun.nx sg t sg true i = some j by
          rw [HNX.out, if_pos rfl, ← Int.natCast_mul, ← Int.natCast_add, Int.toNat_natCast, hj])
         have hcj := HB6.out.cell j hjN
         have hfj := HB6.out.free j
         have HJ := am hjN
         clear u0 u1 v0 v1 hj hm8 HNX HBD HST HO
         cases hq : cq j with
         | true =>
          rw [hq] at hcj
          have HR := am (show spec_owRun.pass sg t sg true (N - (i + 1)) (i + 1) (cq, ag) = P by
           have z := HPs.out
           rw [show N - i = (N - (i + 1)) + 1 by omega] at z
           simp only [spec_owRun.pass, spec_owRun.stepF] at z
           rw [if_pos hv, HNX2.out] at z
           simpa [hq] using z)
          go_wp2
          go_roundw
          case rel => exact ⟨i + 1, ag, cq, rfl, by go_num, by omega, HR, HB6, HP6, HW6⟩
          case measure => simp [intOf]; omega
         | false =>
          rw [hq] at hcj
          have HR := am (show spec_owRun.pass sg t sg true (N - (i + 1)) (i + 1) ((fun q => if q = j then true else cq q), true) = P by
           have z := HPs.out
           rw [show N - i = (N - (i + 1)) + 1 by omega] at z
           simp only [spec_owRun.pass, spec_owRun.stepF] at z
           rw [if_pos hv, HNX2.out] at z
           simpa [hq] using z)
          have hne : w.heap.size ≠ g := fun e => by
           obtain ⟨cur, z, -⟩ := HB6.out
           rw [← e, HW6.out] at z
           simp at z
          go_wp2
          exact ⟨⟨i + 1, true, _, rfl, by go_num, by omega, HR, ⟨HB6.out.set j hjN true⟩, ⟨spec_owRun.But.set HP6.out j _⟩, ⟨(Below.heap_setCell w6 ⟨g, j, none⟩ _ _ hne).trans HW6.out⟩⟩, by simp [intOf]; omega⟩
       | false =>
        obtain rfl : sg = t := by have z := HG.out; rw [if_neg (by simp)] at z; exact z
        have hxt : i / s.size < sg.size := Nat.div_lt_of_lt_mul (by rw [← HNE.out]; exact hlt)
        obtain ⟨ko, hko⟩ := spec_owFar.step_f s sg ((i : Int) / (s.size : Int)) ((i : Int) % (s.size : Int)) ((sg[i / s.size % sg.size].toNat : Nat) : Int) (by rw [← Int.natCast_ediv]; exact ⟨Int.natCast_nonneg _, by omega⟩) (by rw [← Int.natCast_emod]; exact ⟨Int.natCast_nonneg _, by omega⟩) hs.2 ht.2
        have HO0 := hko ko (Nat.le_refl _)
        obtain ⟨⟨u, v, ok⟩, hst⟩ : ∃ z, z = spec_owFar.Stp s sg ((i : Int) / (s.size : Int)) ((i : Int) % (s.size : Int)) ((sg[i / s.size % sg.size].toNat : Nat) : Int) := ⟨_, rfl⟩
        rw [← hst] at HO0
        have HO := am (show ∀ W : World, Calls Try.prog 37 #[.agg #[.string s, .string sg], .int .i64 (wrap64 ((i : Int) / (s.size : Int))), .int .i64 ((i : Int).tmod (s.size : Int)), .int .u8 ((sg[i / s.size % sg.size].toNat : Nat) : Int)] W (fun e w' => e = .returned (.tuple #[.int .i64 u, .int .i64 v, .bool ok]) ∧ Below W.heap.size W w') from fun W => by
         rw [e0, e2, Int.natCast_ediv, Int.natCast_emod]
         exact spec_owStep.calls ko s sg _ _ _ u v ok W HO0)
        have HST := am hst
        clear HO0 hst hko
        go_wp2
        have HB1 := am (HB.out.below (below_drew1 (Below.refl _ _)))
        have HP1 := am (spec_owRun.But.drew HP.out)
        have HW1 := am (show wr.drew.heap[w.heap.size]? = some (.cells #[.string s, .string sg] 25 (0, 0)) from HW.out)
        have hb0 : wr.drew.cell? ⟨w.heap.size, 0, none⟩ = some (.string s) := (blk_cell HW1.out 0).trans rfl
        have hb1 : wr.drew.cell? ⟨w.heap.size, 1, none⟩ = some (.string sg) := (blk_cell HW1.out 1).trans rfl
        refine start_ (n := 16) (S := fun w' => w'.cell? ⟨w.heap.size, 0, none⟩ = some (.string s) ∧ w'.cell? ⟨w.heap.size, 1, none⟩ = some (.string sg)) (ds := []) #[false, false, false, false, false, false, false, false, false, false, false, false, false, false, false, false] (by kernel_rfl) rfl rfl ⟨hb0, hb1⟩ (fun hHeld => ?_); refine with_tabW spec_owRun.tab12 spec_owRun.bits12 (fun HT_ HW_ => ?_)
        generalize wr.drew = w5 at HB1 HP1 HW1 hb0 hb1 hHeld ⊢
        refine tk_ 0 45 (fl_ 16 1) HT_ HW_ hHeld ?_ (hy := by rintro w' ⟨s0, s1⟩; go_simp; with_reducible rfl)
        refine pu_ 1 46 (fl_ 16 3) HT_ ?_
        refine pu_ 2 47 (fl_ 16 7) HT_ ?_
        refine pu_ 3 48 (fl_ 16 15) HT_ ?_
        refine pu_ 4 49 (fl_ 16 31) HT_ ?_
        refine pu_ 5 50 (fl_ 16 63) HT_ ?_
        refine pu_ 6 51 (fl_ 16 127) HT_ ?_
        refine pu_ 7 52 (fl_ 16 255) HT_ ?_
        refine on_ 8 53 (fl_ 16 511) HT_ fun K hK => ?_
        refine gs_ Try.func37 #[.agg #[.string s, .string sg], .int .i64 (wrap64 ((i : Int) / (s.size : Int))), .int .i64 ((i : Int).tmod (s.size : Int)), .int .u8 (((sg[i / s.size % sg.size].toNat : Nat) : Int))] ?_
        with_reducible refine (HO.out _).mono ?_
        rintro e w6 ⟨rfl, hb6⟩
        refine ⟨_, rfl, ?_⟩
        have HB6 := am (HB1.out.below hb6)
        have HP6 := am (spec_owRun.But.below HP1.out hb6)
        have HW6 := am ((hb6.block _ (Array.getElem?_eq_some_iff.1 HW1.out).1).trans HW1.out)
        clear hb6
        refine hK.out _ _ ⟨(blk_cell HW6.out 0).trans rfl, (blk_cell HW6.out 1).trans rfl⟩ (fun hHeld => ?_)
        clear hK K
        refine nm_ 53 ?_
        refine pu_ 9 44 (fl_ 16 1023) HT_ ?_
        refine pu_ 10 54 (fl_ 16 2047) HT_ ?_
        refine pu_ 11 55 (fl_ 16 4095) HT_ ?_
        refine pu_ 12 56 (fl_ 16 8191) HT_ ?_
        refine pu_ 13 13 (fl_ 16 16383) HT_ ?_
        refine pu_ 14 14 (fl_ 16 32767) HT_ ?_
        refine pu_ 15 15 (fl_ 16 65535) HT_ ?_
        refine done_ (done_of HT_.out (by kernel_rfl)) ?_
        clear hHeld HT_ HW_ hb0 hb1 hcell
        have HNX := am (show spec_owRun.nx s sg sg false i = if ok = true then some (u * s.size + v).toNat else none by
         unfold spec_owRun.nx
         simp only [Bool.false_eq_true, if_false]
         rw [impl_driveIn.bt_k sg _ l1, Int.natCast_ediv, Int.natCast_emod, ← HST.out])
        have HBD := am (show ok = true → (0 ≤ u ∧ u < sg.size) ∧ (0 ≤ v ∧ v < s.size) from fun e => spec_owRun.ok_bd (s := s) (t := sg) (x := (i : Int) / (s.size : Int)) (y := (i : Int) % (s.size : Int)) (c := ((sg[i / s.size % sg.size].toNat : Nat) : Int)) (by rw [← Int.natCast_ediv]; exact ⟨Int.natCast_nonneg _, by omega⟩) (by rw [← Int.natCast_emod]; exact ⟨Int.natCast_nonneg _, by omega⟩) (by rw [← HST.out, e]))
        clear e0 e1 e2 p1 n1
        cases ok with
        | false =>
         have HR := am (show spec_owRun.pass s sg sg false (N - (i + 1)) (i + 1) (cq, ag) = P by
          have z := HPs.out
          rw [show N - i = (N - (i + 1)) + 1 by omega] at z
          simp only [spec_owRun.pass, spec_owRun.stepF] at z
          rw [if_pos hv, HNX.out] at z
          simpa using z)
         go_wp2
         go_roundw
         case rel => exact ⟨i + 1, ag, cq, rfl, by go_num, by omega, HR, HB6, HP6, HW6⟩
         case measure => simp [intOf]; omega
        | true =>
         obtain ⟨⟨u0, u1⟩, v0, v1⟩ := HBD.out rfl
         obtain ⟨ux, rfl⟩ := Int.eq_ofNat_of_zero_le u0
         obtain ⟨vy, rfl⟩ := Int.eq_ofNat_of_zero_le v0
         obtain ⟨j, hj⟩ : ∃ j, j = ux * s.size + vy := ⟨_, rfl⟩
         have hjN : j < N := by
          have z : (ux + 1) * s.size ≤ sg.size * s.size := Nat.mul_le_mul_right _ (by omega)
          rw [Nat.succ_mul] at z
          rw [HNE.out, Nat.mul_comm s.size sg.size]
          omega
         have hm8 : ux * s.size ≤ 64 := by omega
         have ew1 : wrap64 ((ux : Int) * (s.size : Int)) = (ux : Int) * (s.size : Int) := by
          rw [← Int.natCast_mul]
          exact spec_owRun.small _ (by omega)
         have ew2 : wrap64 ((ux : Int) * (s.size : Int) + (vy : Int)) = (j : Int) := by
          rw [← Int.natCast_mul, ← Int.natCast_add, ← hj]
          exact spec_owRun.small _ (by have := HN.out; omega)
         have ew3 : IntKind.i64.wrap ((ux : Int) * (s.size : Int) + (vy : Int)) = (j : Int) := (i64_w _).trans ew2
         have HNX2 := am (show spec_owRun.nx s sg sg false i = some j by
          rw [HNX.out, if_pos rfl, ← Int.natCast_mul, ← Int.natCast_add, Int.toNat_natCast, hj])
         have hcj := HB6.out.cell j hjN
         have hfj := HB6.out.free j
         have HJ := am hjN
         clear u0 u1 v0 v1 hj hm8 HNX HBD HST HO
         cases hq : cq j with
         | true =>
          rw [hq] at hcj
          have HR := am (show spec_owRun.pass s sg sg false (N - (i + 1)) (i + 1) (cq, ag) = P by
           have z := HPs.out
           rw [show N - i = (N - (i + 1)) + 1 by omega] at z
           simp only [spec_owRun.pass, spec_owRun.stepF] at z
           rw [if_pos hv, HNX2.out] at z
           simpa [hq] using z)
          go_wp2
          go_roundw
          case rel => exact ⟨i + 1, ag, cq, rfl, by go_num, by omega, HR, HB6, HP6, HW6⟩
          case measure => simp [intOf]; omega
         | false =>
          rw [hq] at hcj
          have HR := am (show spec_owRun.pass s sg sg false (N - (i + 1)) (i + 1) ((fun q => if q = j then true else cq q), true) = P by
           have z := HPs.out
           rw [show N - i = (N - (i + 1)) + 1 by omega] at z
           simp only [spec_owRun.pass, spec_owRun.stepF] at z
           rw [if_pos hv, HNX2.out] at z
           simpa [hq] using z)
          have hne : w.heap.size ≠ g := fun e => by
           obtain ⟨cur, z, -⟩ := HB6.out
           rw [← e, HW6.out] at z
           simp at z
          go_wp2
          exact ⟨⟨i + 1, true, _, rfl, by go_num, by omega, HR, ⟨HB6.out.set j hjN true⟩, ⟨spec_owRun.But.set HP6.out j _⟩, ⟨(Below.heap_setCell w6 ⟨g, j, none⟩ _ _ hne).trans HW6.out⟩⟩, by simp [intOf]; omega⟩
     ·obtain rfl : i = N := by omega
      have hd : decide ((i : Int) < (i : Int)) = false := decide_eq_false (by omega)
      have z := HPs.out
      rw [Nat.sub_self] at z
      simp only [spec_owRun.pass] at z
      have h := HH.out
      rw [← z] at h
      have HH2 := am h
      clear h z HH HPs
      go_wp2
      go_roundg k1
      case measure => have := HK.out; omega
      case rel => exact ⟨ag, cq, rfl, ⟨by
       have h := HH2.out
       cases ag with
       | true => rw [if_pos rfl] at h ⊢; exact h
       | false => rw [if_neg (by simp)] at h ⊢; exact Option.some.inj h⟩, ⟨by have := HK.out; omega⟩, HB, HP, HW⟩
end Go.Proofs.Ytdhdkkhbgfcoiaa.MX
