-- The machine side, written by this repo's program mp.py; contracts marked as of this repo are this session's own.
import Derived.Test.YtopbmiedlpkmjaaMRx0
import Derived.Test.YtopbmiedlpkmjaaMRx1
import Derived.Test.YtopbmiedlpkmjaaMRx3
import Derived.Test.YtopbmiedlpkmjaaMRx5
import Derived.Test.YtopbmiedlpkmjaaMRx6
namespace Go.Proofs.Ytopbmiedlpkmjaa.MR
open Go.RowKit Go.Proofs.YtopbmiedlpkmjaaW.PrintWords Go.Proofs.YtopbmiedlpkmjaaW.PrintLast Go.Proofs.YtopbmiedlpkmjaaW.PrintMore
attribute [local go_sem] max2_int min2_int max_two min_two max_three min_three max_four min_four   -- for this text's walks alone
set_option linter.unusedVariables false
set_option linter.unusedSimpArgs false

/-! ### spec_FewestTurns: function 23 (a contract of this repo) -/
/-- The rounds: so many turns. -/
def spec_FewestTurns.rounds (s t : ByteArray) (N goal : Nat) : Nat → Nat → (Nat → Bool) → (Nat → Bool) → Option Int
  | 0, _, _, _ => none
  | k + 1, n, al, ac => if n ≤ 1000 then (spec_owRun.all s t s true N k al).bind fun al' => (spec_owRun.all s t t false N k ac).bind fun ac' => if (al' goal || ac' goal) = true then some (n : Int) else spec_FewestTurns.rounds s t N goal k (n + 1) (fun i => al' i || ac' i) (fun i => al' i || ac' i) else none
theorem spec_FewestTurns.rounds_mono (s t : ByteArray) (N goal : Nat) : ∀ (k n : Nat) (al ac : Nat → Bool), LeO (spec_FewestTurns.rounds s t N goal k n al ac) (spec_FewestTurns.rounds s t N goal (k + 1) n al ac)
  | 0, _, _, _ => fun r h => by simp [spec_FewestTurns.rounds] at h
  | k + 1, n, al, ac => by
    have ih := spec_FewestTurns.rounds_mono s t N goal k
    unfold spec_FewestTurns.rounds
    exact LeO.ite (LeO.bind (spec_owRun.all_mono s t s true N k al) (fun _ => LeO.bind (spec_owRun.all_mono s t t false N k ac) (fun _ => LeO.ite (LeO.refl _) (ih _ _ _)))) (LeO.refl _)
/-- A place of a list, told by its corner. -/
def spec_FewestTurns.at_ (s : ByteArray) (l : List Int) : Nat := (rd l 0).toNat * s.size + (rd l 1).toNat
def spec_FewestTurns.core (k : Nat) (s t : ByteArray) (ca cb : Nat) : Option (Int × Bool) := if ca = cb then some (0, true) else (spec_FewestTurns.rounds s t (s.size * t.size) cb k 0 (fun i => if i = ca then true else false) (fun i => if i = ca then true else false)).bind fun v => some (v, true)
theorem spec_FewestTurns.core_mono (s t : ByteArray) (ca cb : Nat) (k : Nat) : LeO (spec_FewestTurns.core k s t ca cb) (spec_FewestTurns.core (k + 1) s t ca cb) := by
  unfold spec_FewestTurns.core
  exact LeO.ite (LeO.refl _) (LeO.bind (spec_FewestTurns.rounds_mono _ _ _ _ k _ _ _) (fun _ => LeO.refl _))
def spec_FewestTurns.Ok (s t : ByteArray) (l1 l2 : List Int) : Prop := (impl_driveIn.Sized s t ∧ l1.length = 2 ∧ impl_driveIn.At s t (rd l1 0) (rd l1 1)) ∧ l2.length = 2 ∧ impl_driveIn.At s t (rd l2 0) (rd l2 1)
instance (s t : ByteArray) (l1 l2 : List Int) : Decidable (spec_FewestTurns.Ok s t l1 l2) := by unfold spec_FewestTurns.Ok impl_driveIn.Sized impl_driveIn.At; exact inferInstance
def spec_FewestTurns.f (k : Nat) (s t : ByteArray) (l1 l2 : List Int) : Option (Int × Bool) := (spec_owAsked.f k s t l1 l2).bind fun b => if b = true then ((spec_owDistance.f k s t l1 l2).bind fun D => if D < 0 then some (0, false) else if spec_FewestTurns.Ok s t l1 l2 then spec_FewestTurns.core k s t (spec_FewestTurns.at_ s l1) (spec_FewestTurns.at_ s l2) else none) else some (0, false)
theorem spec_FewestTurns.mono : ∀ a0_0 a0_1 a1 a2 k, LeO (spec_FewestTurns.f k a0_0 a0_1 a1 a2) (spec_FewestTurns.f (k + 1) a0_0 a0_1 a1 a2) := fun a0_0 a0_1 a1 a2 k => by
  unfold spec_FewestTurns.f
  refine LeO.bind (spec_owAsked.mono _ _ _ _ k) (fun b => ?_)
  split
  · refine LeO.bind (spec_owDistance.mono _ _ _ _ k) (fun D => ?_)
    split
    · exact LeO.refl _
    · exact LeO.ite (spec_FewestTurns.core_mono _ _ _ _ k) (LeO.refl _)
  · exact LeO.refl _
/-- Two blocks of truths, and what was there before them. -/
def spec_FewestTurns.St (w0 wr : World) (g1 g2 N : Nat) (al ac : Nat → Bool) : Prop := (spec_owRun.Blk wr g1 N al ∧ spec_owRun.Blk wr g2 N ac) ∧ Below w0.heap.size w0 wr ∧ w0.heap.size ≤ g1 ∧ w0.heap.size ≤ g2 ∧ g1 ≠ g2
theorem spec_FewestTurns.St.below {w0 wr w' : World} {g1 g2 N : Nat} {al ac : Nat → Bool} (h : spec_FewestTurns.St w0 wr g1 g2 N al ac) (hb : Below wr.heap.size wr w') : spec_FewestTurns.St w0 w' g1 g2 N al ac :=
  ⟨⟨h.1.1.below hb, h.1.2.below hb⟩, below_then h.2.1 h.2.1.size hb, h.2.2⟩
theorem spec_FewestTurns.St.one {w0 wr w' : World} {g1 g2 N : Nat} {al ac al' : Nat → Bool} (h : spec_FewestTurns.St w0 wr g1 g2 N al ac) (hk : spec_owRun.Blk w' g1 N al') (hb : spec_owRun.But wr w' g1) : spec_FewestTurns.St w0 w' g1 g2 N al' ac :=
  ⟨⟨hk, h.1.2.move (hb.1.2 g2 h.1.2.lt (fun e => h.2.2.2.2 e.symm))⟩, hb.kept h.2.1 h.2.2.1 (Nat.le_refl _), h.2.2⟩
theorem spec_FewestTurns.St.two {w0 wr w' : World} {g1 g2 N : Nat} {al ac ac' : Nat → Bool} (h : spec_FewestTurns.St w0 wr g1 g2 N al ac) (hk : spec_owRun.Blk w' g2 N ac') (hb : spec_owRun.But wr w' g2) : spec_FewestTurns.St w0 w' g1 g2 N al ac' :=
  ⟨⟨h.1.1.move (hb.1.2 g1 h.1.1.lt h.2.2.2.2), hk⟩, hb.kept h.2.1 h.2.2.2.1 (Nat.le_refl _), h.2.2⟩
theorem spec_FewestTurns.St.set1 {w0 wr : World} {g1 g2 N : Nat} {al ac : Nat → Bool} (h : spec_FewestTurns.St w0 wr g1 g2 N al ac) (i : Nat) (hi : i < N) (v : Bool) : spec_FewestTurns.St w0 (wr.setCell ⟨g1, i, none⟩ (.bool v)) g1 g2 N (fun j => if j = i then v else al j) ac :=
  ⟨⟨h.1.1.set i hi v, h.1.2.move (Below.heap_setCell wr ⟨g1, i, none⟩ _ _ (fun e => h.2.2.2.2 e.symm))⟩, h.2.1.setCell (p := ⟨g1, i, none⟩) h.2.2.1 (.bool v), h.2.2⟩
theorem spec_FewestTurns.St.set2 {w0 wr : World} {g1 g2 N : Nat} {al ac : Nat → Bool} (h : spec_FewestTurns.St w0 wr g1 g2 N al ac) (i : Nat) (hi : i < N) (v : Bool) : spec_FewestTurns.St w0 (wr.setCell ⟨g2, i, none⟩ (.bool v)) g1 g2 N al (fun j => if j = i then v else ac j) :=
  ⟨⟨h.1.1.move (Below.heap_setCell wr ⟨g2, i, none⟩ _ _ h.2.2.2.2), h.1.2.set i hi v⟩, h.2.1.setCell (p := ⟨g2, i, none⟩) h.2.2.2.1 (.bool v), h.2.2⟩
theorem spec_FewestTurns.St.ext {w0 wr : World} {g1 g2 N : Nat} {al ac al' ac' : Nat → Bool} (h : spec_FewestTurns.St w0 wr g1 g2 N al ac) (h1 : ∀ i, i < N → al i = al' i) (h2 : ∀ i, i < N → ac i = ac' i) : spec_FewestTurns.St w0 wr g1 g2 N al' ac' :=
  ⟨⟨h.1.1.ext h1, h.1.2.ext h2⟩, h.2⟩
set_option maxHeartbeats 16000000 in
set_option maxRecDepth 100000 in
theorem spec_FewestTurns.calls (k : Nat) (a0_0 : ByteArray) (a0_1 : ByteArray) (A1 : Option Addr) (c1 : Nat) (l1 : List Int) (A2 : Option Addr) (c2 : Nat) (l2 : List Int) (r1 : Int) (r2 : Bool) (w : World) (hr1 : Kd.C (Kd.int .i64) w A1 l1.length l1) (hc1 : l1.length ≤ c1) (hr2 : Kd.C (Kd.int .i64) w A2 l2.length l2) (hc2 : l2.length ≤ c2) (h : spec_FewestTurns.f k a0_0 a0_1 l1 l2 = some (r1, r2)) :
    Calls Try.prog 23 #[.agg #[.string a0_0, .string a0_1], .slice A1 l1.length c1, .slice A2 l2.length c2] w fun e w' => e = .returned (.tuple #[.int .i64 r1, .bool r2]) ∧ Below w.heap.size w w' := by
  unfold spec_FewestTurns.f at h
  obtain ⟨b, hb, h⟩ := Option.bind_eq_some_iff.1 h
  obtain ⟨wb, hwb⟩ : ∃ wb : World, w.alloc (.cells #[.string a0_0, .string a0_1] 27) = wb := ⟨_, rfl⟩
  have HBX := Aside0.mk (show wb.heap[w.heap.size]? = some (.cells #[.string a0_0, .string a0_1] 27 (0, 0)) by rw [← hwb]; exact heap_alloc_new _ _)
  have HB := Aside0.mk (show Below w.heap.size w wb by rw [← hwb]; exact below_alloc (Below.refl _ _) _)
  have HR1 := Aside0.mk (Kd.C_below hr1 HB.out)
  have HR2 := Aside0.mk (Kd.C_below hr2 HB.out)
  have hp0 : wb.cell? ⟨w.heap.size, 0, none⟩ = some (.string a0_0) := (blk_cell HBX.out 0).trans rfl
  have hp1 : wb.cell? ⟨w.heap.size, 1, none⟩ = some (.string a0_1) := (blk_cell HBX.out 1).trans rfl
  have HAs := Aside0.mk (fun (W : World) (h1 : Kd.C (Kd.int .i64) W A1 l1.length l1) (h2 : Kd.C (Kd.int .i64) W A2 l2.length l2) => spec_owAsked.calls k a0_0 a0_1 A1 c1 l1 A2 c2 l2 b W h1 hc1 h2 hc2 hb)
  clear hr1 hr2
  cases b with
  | false =>
    rw [if_neg (by simp)] at h
    simp only [Option.some.injEq, Prod.mk.injEq] at h
    obtain ⟨rfl, rfl⟩ := h
    go_enter Try.func23, Try.ntmps23
    go_wp2_with (go_at_call 48; refine (HAs.out _ HR1.out HR2.out).mono ?_; rintro e w1 ⟨rfl, hb1⟩; have HB1 := Aside0.mk (below_then HB.out HB.out.size hb1); clear hb1)
    go_ret2
    exact ⟨rfl, HB1.out⟩
  | true =>
    rw [if_pos rfl] at h
    obtain ⟨D, hD, h⟩ := Option.bind_eq_some_iff.1 h
    have HDs := Aside0.mk (fun (W : World) (h1 : Kd.C (Kd.int .i64) W A1 l1.length l1) (h2 : Kd.C (Kd.int .i64) W A2 l2.length l2) => spec_owDistance.calls k a0_0 a0_1 A1 c1 l1 A2 c2 l2 D W h1 hc1 h2 hc2 hD)
    by_cases q : D < 0
    · rw [if_pos q] at h
      simp only [Option.some.injEq, Prod.mk.injEq] at h
      obtain ⟨rfl, rfl⟩ := h
      have qb : decide (D < 0) = true := decide_eq_true q
      clear hD q
      go_enter Try.func23, Try.ntmps23
      go_wp2_with (first | (go_at_call 48; refine (HAs.out _ HR1.out HR2.out).mono ?_; rintro e w1 ⟨rfl, hb1⟩; have HB1 := Aside0.mk (below_then HB.out HB.out.size hb1); have HR11 := Aside0.mk (Kd.C_below HR1.out hb1); have HR21 := Aside0.mk (Kd.C_below HR2.out hb1); have hp0 := pw_cell_below hb1 hp0; have hp1 := pw_cell_below hb1 hp1; clear hb1) | (go_at_call 49; refine (HDs.out _ HR11.out HR21.out).mono ?_; rintro e w2 ⟨rfl, hb2⟩; have HB2 := Aside0.mk (below_then HB1.out HB1.out.size hb2); clear hb2))
      go_ret2
      exact ⟨rfl, HB2.out⟩
    · rw [if_neg q] at h
      by_cases c : spec_FewestTurns.Ok a0_0 a0_1 l1 l2
      case neg => rw [if_neg c] at h; cases h
      rw [if_pos c] at h
      obtain ⟨⟨⟨⟨t1, t8⟩, s1, s8⟩, hl, ⟨x0, x1⟩, y0, y1⟩, hl2, ⟨u0, u1⟩, v0, v1⟩ := c
      have qb : decide (D < 0) = false := decide_eq_false q
      have HSz := Aside0.mk (And.intro (show 1 ≤ a0_0.size ∧ a0_0.size ≤ 8 from ⟨s1, s8⟩) (show 1 ≤ a0_1.size ∧ a0_1.size ≤ 8 from ⟨t1, t8⟩))
      obtain ⟨ad, rfl, hx0, hx1⟩ := spec_owDistance.two hl HR1.out
      obtain ⟨bd, rfl, hy0, hy1⟩ := spec_owDistance.two hl2 HR2.out
      unfold spec_FewestTurns.at_ at h
      obtain ⟨x, hx⟩ := Int.eq_ofNat_of_zero_le x0
      obtain ⟨y, hy⟩ := Int.eq_ofNat_of_zero_le y0
      obtain ⟨bx, hbx⟩ := Int.eq_ofNat_of_zero_le u0
      obtain ⟨bY, hbY⟩ := Int.eq_ofNat_of_zero_le v0
      rw [hx] at hx0 x1 h
      rw [hy] at hx1 y1 h
      rw [hbx] at hy0 u1 h
      rw [hbY] at hy1 v1 h
      simp only [Int.toNat_natCast] at h
      have hxt : x < a0_1.size := by omega
      have hys : y < a0_0.size := by omega
      have hbxt : bx < a0_1.size := by omega
      have hbYs : bY < a0_0.size := by omega
      obtain ⟨N, hN⟩ : ∃ N, N = a0_0.size * a0_1.size := ⟨_, rfl⟩
      have hNe : a0_1.size * a0_0.size = N := by rw [hN, Nat.mul_comm]
      have hN0 : 0 < N := by rw [← hNe]; exact Nat.mul_pos (by omega) (by omega)
      have hN64 : N ≤ 64 := by rw [← hNe]; exact Nat.le_trans (Nat.mul_le_mul t8 s8) (by decide)
      obtain ⟨ca, hca⟩ : ∃ ca, ca = x * a0_0.size + y := ⟨_, rfl⟩
      obtain ⟨cb, hcb⟩ : ∃ cb, cb = bx * a0_0.size + bY := ⟨_, rfl⟩
      rw [← hca, ← hcb] at h
      unfold spec_FewestTurns.core at h
      rw [← hN] at h
      have hcaN : ca < N := by rw [hca, ← hNe]; exact spec_owFar.cd_lt _ _ _ _ hxt hys
      have hcbN : cb < N := by rw [hcb, ← hNe]; exact spec_owFar.cd_lt _ _ _ _ hbxt hbYs
      obtain ⟨ma, hma⟩ : ∃ ma, ma = x * a0_0.size := ⟨_, rfl⟩
      obtain ⟨mb, hmb⟩ : ∃ mb, mb = bx * a0_0.size := ⟨_, rfl⟩
      have e1 : IntKind.i64.wrap ((x : Int) * (a0_0.size : Int)) = (ma : Int) := by rw [i64_w, ← Int.natCast_mul, ← hma, Go.Proofs.Ytopbmiedlpkmjaa.Lib.w64] <;> omega
      have e2 : IntKind.i64.wrap ((ma : Int) + (y : Int)) = (ca : Int) := by rw [i64_w, Go.Proofs.Ytopbmiedlpkmjaa.Lib.w64] <;> omega
      have e3 : IntKind.i64.wrap ((bx : Int) * (a0_0.size : Int)) = (mb : Int) := by rw [i64_w, ← Int.natCast_mul, ← hmb, Go.Proofs.Ytopbmiedlpkmjaa.Lib.w64] <;> omega
      have e4 : IntKind.i64.wrap ((mb : Int) + (bY : Int)) = (cb : Int) := by rw [i64_w, Go.Proofs.Ytopbmiedlpkmjaa.Lib.w64] <;> omega
      have e5 : IntKind.i64.wrap ((a0_0.size : Int) * (a0_1.size : Int)) = (N : Int) := by rw [i64_w, ← Int.natCast_mul, ← hN, Go.Proofs.Ytopbmiedlpkmjaa.Lib.w64] <;> omega
      have e6 : wrap64 ((a0_0.size : Int) * (a0_1.size : Int)) = (N : Int) := by rw [← i64_w]; exact e5
      have HE := Aside0.mk (And.intro (And.intro e1 e2) (And.intro e3 e4))
      have HE5 := Aside0.mk (And.intro e5 e6)
      have HX := Aside0.mk (And.intro (And.intro hx0 hx1) (And.intro hy0 hy1))
      have HNN := Aside0.mk hN
      have H := Aside0.mk h
      rw [hl] at HAs HDs HR1 ⊢
      rw [hl2] at HAs HDs HR2 ⊢
      clear hD q hl hl2 hx hy hbx hbY x0 y0 u0 v0 hx0 hx1 hy0 hy1 x1 y1 u1 v1 hb hca hcb hma hmb e1 e2 e3 e4 e5 e6 hNe h hN t1 t8 s1 s8
      go_enter Try.func23, Try.ntmps23
      go_wp2_with (first | (go_at_call 48; refine (HAs.out _ HR1.out HR2.out).mono ?_; rintro e w1 ⟨rfl, hb1⟩; have HB1 := Aside0.mk hb1; have HR11 := Aside0.mk (Kd.C_below HR1.out hb1); have HR21 := Aside0.mk (Kd.C_below HR2.out hb1); have hp0 := pw_cell_below hb1 hp0; have hp1 := pw_cell_below hb1 hp1; clear hb1) | (go_at_call 49; refine (HDs.out _ HR11.out HR21.out).mono ?_; rintro e w2 ⟨rfl, hb2⟩; have HB2 := Aside0.mk (below_then HB1.out HB1.out.size hb2); have hp0 := pw_cell_below hb2 hp0; have hp1 := pw_cell_below hb2 hp1; clear hb2))
      clear qb
      -- what stays
      have HSt := Aside0.mk (show ∀ W : World, Below wb.heap.size wb W → ((W.cell? ad = some (.int .i64 x) ∧ W.cell? { block := ad.block, off := ad.off + 1 } = some (.int .i64 y)) ∧ (W.cell? bd = some (.int .i64 bx) ∧ W.cell? { block := bd.block, off := bd.off + 1 } = some (.int .i64 bY))) ∧ W.cell? ⟨w.heap.size, 0, none⟩ = some (.string a0_0) ∧ W.cell? ⟨w.heap.size, 1, none⟩ = some (.string a0_1) from fun W hW => ⟨⟨⟨(hW.cell (World.block_lt_of_cell? _ _ HX.out.1.1)).trans HX.out.1.1, (hW.cell (World.block_lt_of_cell? _ _ HX.out.1.2)).trans HX.out.1.2⟩, (hW.cell (World.block_lt_of_cell? _ _ HX.out.2.1)).trans HX.out.2.1, (hW.cell (World.block_lt_of_cell? _ _ HX.out.2.2)).trans HX.out.2.2⟩, (blk_cell ((hW.block _ (Array.getElem?_eq_some_iff.1 HBX.out).1).trans HBX.out) 0).trans rfl, (blk_cell ((hW.block _ (Array.getElem?_eq_some_iff.1 HBX.out).1).trans HBX.out) 1).trans rfl⟩)
      clear hp0 hp1 HAs HDs HR1 HR2 HR11 HR21 HB1
      obtain ⟨⟨-, hy0, hy1⟩, -⟩ := HSt.out _ HB2.out
      obtain ⟨-, e3, e4⟩ := HE.out
      go_quiet (fail)
      clear hy0 hy1 e3 e4
      obtain ⟨w3, hw3⟩ : ∃ w3 : World, w3 = w2.drewN nq := ⟨_, rfl⟩
      have HB3 := Aside0.mk (show Below wb.heap.size wb w3 by rw [hw3]; exact pw_below_drewN HB2.out _)
      rw [← hw3]
      clear hw3 HB2
      go_wp2
      obtain ⟨⟨⟨hx0, hx1⟩, -⟩, -⟩ := HSt.out _ HB3.out
      obtain ⟨⟨e1, e2⟩, -⟩ := HE.out
      have h := H.out
      clear H
      by_cases qe : ca = cb
      · rw [if_pos qe] at h
        obtain ⟨rfl, rfl⟩ := Prod.mk.inj (Option.some.inj h)
        have qb : ((ca : Int) == (cb : Int)) = true := by rw [qe]; simp
        clear h qe
        go_quiet (fail)
        go_wp2
        refine bodyPost_ret (results_list (rs := [.tmp 6, .tmp 7]) rfl (by simp) (.tmp (.tmp .nil))) rfl ?_
        exact ⟨rfl, below_then HB.out HB.out.size (pw_below_drewN HB3.out _)⟩
      · rw [if_neg qe] at h
        have qb : ((ca : Int) == (cb : Int)) = false := beq_eq_false_iff_ne.2 (by omega)
        obtain ⟨v, hv, h⟩ := Option.bind_eq_some_iff.1 h
        obtain ⟨rfl, rfl⟩ := Prod.mk.inj (Option.some.inj h)
        have HV := Aside0.mk hv
        clear h qe hv
        go_quiet (fail)
        clear hx0 hx1 e1 e2
        obtain ⟨w4, hw4⟩ : ∃ w4 : World, w4 = w3.drewN nq := ⟨_, rfl⟩
        have HB4 := Aside0.mk (show Below wb.heap.size wb w4 by rw [hw4]; exact pw_below_drewN HB3.out _)
        rw [← hw4]
        clear hw4 HB3
        obtain ⟨-, hp0, hp1⟩ := HSt.out _ HB4.out
        obtain ⟨i0, hi, hz0, hz1, hz2⟩ := info_parts (show (Try.prog.info? 4).map (fun i => (i.zero, i.size, i.bytes)) = some (some (.bool false), 1, 1) from by kernel_rfl)
        have hmk := fun W : World => run_makeSlice (P := Try.prog) (w := W) 58 4 i0 (.bool false) Try.underlying58 hi hz0 .i64 .i64 (N : Int) (N : Int) (by omega) (Int.le_refl _) (by rw [hz1]; omega) (by rw [hz2]; omega) (by omega)
        simp only [Int.toNat_natCast, hz1, Nat.mul_one] at hmk
        obtain ⟨e5, e6⟩ := HE5.out
        clear hi hz0 hz1 hz2
        go_wp2
        clear hmk hp0 hp1 e5 e6 qb
        obtain ⟨w5, hw5⟩ : ∃ w5 : World, w5 = w4.alloc (.cells (madeCells #[Value.bool false] N) 4) := ⟨_, rfl⟩
        have hz5 : spec_owRun.Blk w5 w4.heap.size N (fun _ => false) := by rw [hw5]; exact spec_owRun.Blk.zero w4 N
        have hb5 : Below w4.heap.size w4 w5 := by rw [hw5]; exact below_alloc (Below.refl _ _) _
        try rw [← hw5]
        have hs5 : w5.heap.size = w4.heap.size + 1 := by rw [hw5]; simp
        obtain ⟨w6, hw6⟩ : ∃ w6 : World, w6 = w5.alloc (.cells (madeCells #[Value.bool false] N) 4) := ⟨_, rfl⟩
        have hz6 : spec_owRun.Blk w6 w5.heap.size N (fun _ => false) := by rw [hw6]; exact spec_owRun.Blk.zero w5 N
        have hb6 : Below w5.heap.size w5 w6 := by rw [hw6]; exact below_alloc (Below.refl _ _) _
        try rw [← hw6]
        have HS6 := Aside0.mk (show spec_FewestTurns.St wb w6 w4.heap.size w5.heap.size N (fun _ => false) (fun _ => false) from ⟨⟨hz5.below hb6, hz6⟩, below_then (below_then HB4.out HB4.out.size hb5) (Nat.le_trans HB4.out.size hb5.size) hb6, HB4.out.size, by have := HB4.out.size; omega, by omega⟩)
        have HG5 := Aside0.mk hs5
        clear hz5 hb5 hs5 hw5 hz6 hb6 hw6 HB4
        try simp only [← HG5.out]
        obtain ⟨g1, hg1⟩ : ∃ g1, g1 = w4.heap.size := ⟨_, rfl⟩
        obtain ⟨g2, hg2⟩ : ∃ g2, g2 = w5.heap.size := ⟨_, rfl⟩
        rw [← hg1, ← hg2] at HS6
        try rw [← hg1]
        try rw [← hg2]
        clear HG5 hg1 hg2
        obtain ⟨⟨⟨hx0, hx1⟩, -⟩, -⟩ := HSt.out _ HS6.out.2.1
        obtain ⟨⟨e1, e2⟩, -⟩ := HE.out
        go_quiet (fail)
        clear hx0 hx1 e1 e2
        obtain ⟨w7, hw7⟩ : ∃ w7 : World, w7 = w6.drewN nq := ⟨_, rfl⟩
        have HS7 := Aside0.mk (show spec_FewestTurns.St wb w7 g1 g2 N (fun _ => false) (fun _ => false) by rw [hw7]; exact HS6.out.below (pw_below_drewN (Below.refl _ _) _))
        rw [← hw7]
        clear hw7 HS6
        have hc7 := HS7.out.1.1.cell ca hcaN
        have hf7 := HS7.out.1.1.free ca
        have HS8 := Aside0.mk (HS7.out.set1 ca hcaN true)
        have hc8 := HS8.out.1.2.cell ca hcaN
        have hf8 := HS8.out.1.2.free ca
        have HS9 := Aside0.mk (HS8.out.set2 ca hcaN true)
        go_wp2
        clear hc7 hf7 hc8 hf8 HS7 HS8
        go_loopg [14] k (fun kq nv wr => ∃ (n : Nat) (al ac : Nat → Bool), nv = .int .i64 n ∧ Aside0 (spec_FewestTurns.rounds a0_0 a0_1 N cb kq n al ac = some v) ∧ Aside0 (kq ≤ k) ∧ Aside0 (spec_FewestTurns.St wb wr g1 g2 N al ac))
        case atStart => exact ⟨0, _, _, rfl, HV, ⟨Nat.le_refl _⟩, HS9⟩
        case round =>
          clear HV HS9
          obtain ⟨n, al, ac, rfl, HV, HK, HS⟩ := hrel
          cases gk with
          | zero => exact absurd HV.out (by simp [spec_FewestTurns.rounds])
          | succ k1 =>
            have h := HV.out
            simp only [spec_FewestTurns.rounds] at h
            by_cases hn1 : n ≤ 1000
            case neg => rw [if_neg hn1] at h; cases h
            rw [if_pos hn1] at h
            obtain ⟨al', hal, h⟩ := Option.bind_eq_some_iff.1 h
            obtain ⟨ac', hac, h⟩ := Option.bind_eq_some_iff.1 h
            have HH := Aside0.mk h
            have HRA := Aside0.mk (show ∀ W : World, spec_owRun.Blk W g1 N al → Calls Try.prog 50 #[.agg #[.string a0_0, .string a0_1], .slice (some ⟨g1, 0, none⟩) N N, .string a0_0, .bool true] W (fun e w' => e = .returned (.tuple #[]) ∧ spec_owRun.Blk w' g1 N al' ∧ spec_owRun.But W w' g1) from fun W hb => by
              have z := HNN.out
              subst z
              exact spec_owRun.walk k1 a0_0 a0_1 a0_0 true HSz.out.1 HSz.out.2 rfl g1 al al' W hb hal)
            have HRC := Aside0.mk (show ∀ W : World, spec_owRun.Blk W g2 N ac → Calls Try.prog 50 #[.agg #[.string a0_0, .string a0_1], .slice (some ⟨g2, 0, none⟩) N N, .string a0_1, .bool false] W (fun e w' => e = .returned (.tuple #[]) ∧ spec_owRun.Blk w' g2 N ac' ∧ spec_owRun.But W w' g2) from fun W hb => by
              have z := HNN.out
              subst z
              exact spec_owRun.walk k1 a0_0 a0_1 a0_1 false HSz.out.1 HSz.out.2 rfl g2 ac ac' W hb hac)
            clear h hal hac HV
            obtain ⟨-, hp0, hp1⟩ := HSt.out _ HS.out.2.1
            cases hA : al' cb with
            | true =>
              have h := HH.out
              rw [hA, Bool.true_or, if_pos rfl] at h
              obtain rfl := Option.some.inj h
              clear h HH
              go_wp2_with (first | (go_at_call 50; refine (HRA.out _ HS.out.1.1).mono ?_; rintro e w1 ⟨rfl, hk1, hb1⟩; have HS1 := Aside0.mk (HS.out.one hk1 hb1); have hp0 := (HSt.out _ HS1.out.2.1).2.1; have hp1 := (HSt.out _ HS1.out.2.1).2.2; clear hk1 hb1 HRA) | (go_at_call 50; refine (HRC.out _ HS1.out.1.2).mono ?_; rintro e w2 ⟨rfl, hk2, hb2⟩; have HS2 := Aside0.mk (HS1.out.two hk2 hb2); have hA1 := HS2.out.1.1.cell cb hcbN; rw [hA] at hA1; clear hk2 hb2 HRC))
              refine bodyPost_ret (results_list (rs := [.tmp 6, .tmp 7]) rfl (by simp) (.tmp (.tmp .nil))) rfl ?_
              exact ⟨rfl, below_then HB.out HB.out.size HS2.out.2.1⟩
            | false =>
              cases hC : ac' cb with
              | true =>
                have h := HH.out
                rw [hA, hC, Bool.false_or, if_pos rfl] at h
                obtain rfl := Option.some.inj h
                clear h HH
                go_wp2_with (first | (go_at_call 50; refine (HRA.out _ HS.out.1.1).mono ?_; rintro e w1 ⟨rfl, hk1, hb1⟩; have HS1 := Aside0.mk (HS.out.one hk1 hb1); have hp0 := (HSt.out _ HS1.out.2.1).2.1; have hp1 := (HSt.out _ HS1.out.2.1).2.2; clear hk1 hb1 HRA) | (go_at_call 50; refine (HRC.out _ HS1.out.1.2).mono ?_; rintro e w2 ⟨rfl, hk2, hb2⟩; have HS2 := Aside0.mk (HS1.out.two hk2 hb2); have hA1 := HS2.out.1.1.cell cb hcbN; rw [hA] at hA1; have hC1 := HS2.out.1.2.cell cb hcbN; rw [hC] at hC1; clear hk2 hb2 HRC))
                refine bodyPost_ret (results_list (rs := [.tmp 6, .tmp 7]) rfl (by simp) (.tmp (.tmp .nil))) rfl ?_
                exact ⟨rfl, below_then HB.out HB.out.size HS2.out.2.1⟩
              | false =>
                have h := HH.out
                rw [hA, hC, Bool.false_or, if_neg (by simp)] at h
                have HR := Aside0.mk h
                have ew : IntKind.i64.wrap ((n : Int) + 1) = ((n + 1 : Nat) : Int) := by rw [i64_w, Go.Proofs.Ytopbmiedlpkmjaa.Lib.w64] <;> omega
                have HEW := Aside0.mk ew
                clear h HH ew
                go_wp2_with (first | (go_at_call 50; refine (HRA.out _ HS.out.1.1).mono ?_; rintro e w1 ⟨rfl, hk1, hb1⟩; have HS1 := Aside0.mk (HS.out.one hk1 hb1); have hp0 := (HSt.out _ HS1.out.2.1).2.1; have hp1 := (HSt.out _ HS1.out.2.1).2.2; clear hk1 hb1 HRA) | (go_at_call 50; refine (HRC.out _ HS1.out.1.2).mono ?_; rintro e w2 ⟨rfl, hk2, hb2⟩; have HS2 := Aside0.mk (HS1.out.two hk2 hb2); have hA1 := HS2.out.1.1.cell cb hcbN; rw [hA] at hA1; have hC1 := HS2.out.1.2.cell cb hcbN; rw [hC] at hC1; clear hk2 hb2 HRC))
                clear hA1 hC1 hp0 hp1 hA hC
                go_loopw [101] (fun iv wr => ∃ (i : Nat) (cl cc : Nat → Bool), iv = .int .i64 i ∧ i ≤ N ∧ Aside0 ((∀ j, cl j = if j < i then (al' j || ac' j) else al' j) ∧ ∀ j, cc j = if j < i then (al' j || ac' j) else ac' j) ∧ Aside0 (spec_FewestTurns.St wb wr g1 g2 N cl cc)) (fun iv _ => N - (intOf iv).toNat)
                case atStart => exact ⟨0, al', ac', rfl, by omega, ⟨⟨fun j => by rw [if_neg (by omega)], fun j => by rw [if_neg (by omega)]⟩⟩, HS2⟩
                case round =>
                  clear HS HS1 HS2
                  obtain ⟨i, cl, cc, rfl, hi, HC, HS⟩ := hrel
                  by_cases hlt : i < N
                  · have hd : decide ((i : Int) < (N : Int)) = true := decide_eq_true (by omega)
                    have hcl : cl i = al' i := by rw [HC.out.1 i, if_neg (by omega)]
                    have hcc : cc i = ac' i := by rw [HC.out.2 i, if_neg (by omega)]
                    have hc1 := HS.out.1.1.cell i hlt
                    have hc2 := HS.out.1.2.cell i hlt
                    have hf1 := HS.out.1.1.free i
                    rw [hcl] at hc1
                    rw [hcc] at hc2
                    obtain ⟨o, ho⟩ : ∃ o, o = (al' i || ac' i) := ⟨_, rfl⟩
                    have HS3 := Aside0.mk (HS.out.set1 i hlt o)
                    have hc3 := HS3.out.1.2.cell i hlt
                    have hf3 := HS3.out.1.2.free i
                    have HS4 := Aside0.mk (HS3.out.set2 i hlt o)
                    have HC4 := Aside0.mk (show (∀ j, (fun j => if j = i then o else cl j) j = if j < i + 1 then (al' j || ac' j) else al' j) ∧ ∀ j, (fun j => if j = i then o else cc j) j = if j < i + 1 then (al' j || ac' j) else ac' j from by
                      refine ⟨fun j => ?_, fun j => ?_⟩
                      · by_cases e : j = i
                        · subst e; simp [ho]
                        · simp only [e, if_false]
                          rw [HC.out.1 j]
                          by_cases e2 : j < i
                          · rw [if_pos e2, if_pos (by omega)]
                          · rw [if_neg e2, if_neg (by omega)]
                      · by_cases e : j = i
                        · subst e; simp [ho]
                        · simp only [e, if_false]
                          rw [HC.out.2 j]
                          by_cases e2 : j < i
                          · rw [if_pos e2, if_pos (by omega)]
                          · rw [if_neg e2, if_neg (by omega)])
                    rw [hcc] at hc3
                    generalize al' i = p at hc1 ho
                    generalize ac' i = q at hc2 ho hc3
                    cases p with
                    | true =>
                      rw [Bool.true_or] at ho
                      subst ho
                      clear hcl hcc HC
                      go_wp2
                      go_roundw
                      case rel => exact ⟨i + 1, _, _, by go_num, by omega, HC4, HS4⟩
                      case measure => simp [intOf]; omega
                    | false =>
                      rw [Bool.false_or] at ho
                      subst ho
                      clear hcl hcc HC
                      cases o with
                      | true =>
                        go_wp2
                        go_roundw
                        case rel => exact ⟨i + 1, _, _, by go_num, by omega, HC4, HS4⟩
                        case measure => simp [intOf]; omega
                      | false =>
                        go_wp2
                        go_roundw
                        case rel => exact ⟨i + 1, _, _, by go_num, by omega, HC4, HS4⟩
                        case measure => simp [intOf]; omega
                  · obtain rfl : i = N := by omega
                    have hd : decide ((i : Int) < (i : Int)) = false := decide_eq_false (by omega)
                    have ew := HEW.out
                    go_wp2
                    go_roundg k1
                    case measure => have := HK.out; omega
                    case rel => exact ⟨n + 1, _, _, by go_num, HR, ⟨by have := HK.out; omega⟩, ⟨HS.out.ext (fun j hj => by rw [HC.out.1 j, if_pos hj]) (fun j hj => by rw [HC.out.2 j, if_pos hj])⟩⟩

/-! ### strings_IndexByte: function 69 (a contract of this repo) -/
def strings_IndexByte.f (a0 : ByteArray) (a1 : Int) : Option (Int) := some (Go.Lib.indexByte a0.data.toList a1.toNat.toUInt8)
theorem strings_IndexByte.calls (a0 : ByteArray) (a1 : Int) (r : Int) (w : World) (h : strings_IndexByte.f a0 a1 = some r) :
    Calls Try.prog 69 #[.string a0, .int .u8 a1] w fun e w' => e = .returned (.int .i64 r) ∧ Drawn0 w w' := by
  obtain rfl := Option.some.inj h
  refine (Try.strings_IndexByte a0 a1 w).mono ?_
  rintro e w' ⟨rfl, rfl⟩
  exact ⟨rfl, Drawn0.refl _⟩

/-! ### impl_areSigns: function 65 -/
def impl_areSigns.l0 : Nat → ByteArray → ByteArray → Int → Int → Option (Bool)
  | 0, _, _, _, _ => none
  | k + 1, x0, x1, x7, x8 => if x8 < x7 then (if 0 ≤ x8 then (if x8 < (x0.size : Int) then ((strings_IndexByte.f x1 (bt x0 x8)).bind fun t149 => (if t149 < 0 then (some false) else (impl_areSigns.l0 k x0 x1 x7 (wrap64 (x8 + 1))))) else (none)) else (none)) else ((impl_within.f (x0.size : Int) 2 8).bind fun t150 => (some t150))
def impl_areSigns.f (k : Nat) (a0 : ByteArray) (a1 : ByteArray) : Option (Bool) := impl_areSigns.l0 k a0 a1 (a0.size : Int) 0
theorem impl_areSigns.mono_l : ∀ k, (∀ y0 y1 y2 y3, LeO (impl_areSigns.l0 k y0 y1 y2 y3) (impl_areSigns.l0 (k + 1) y0 y1 y2 y3))
  | 0 => fun _ _ _ _ r h => by simp [impl_areSigns.l0] at h
  | k + 1 => by
    have ih0 := impl_areSigns.mono_l k
    · intro y0 y1 y2 y3
      unfold impl_areSigns.l0
      repeat' first
      | (with_reducible exact ih0 _ _ _ _)
      | (with_reducible exact LeO.refl _)
      | (with_reducible exact LeO.none _)
      | (with_reducible refine LeO.ite ?_ ?_)
      | (with_reducible refine LeO.bind ?_ (fun _ => ?_))
      | exact ih0 _ _ _ _
      | exact LeO.none _
      | refine LeO.ite ?_ ?_
      | refine LeO.bind ?_ (fun _ => ?_)
theorem impl_areSigns.mono : ∀ a0 a1 k, LeO (impl_areSigns.f k a0 a1) (impl_areSigns.f (k + 1) a0 a1) := by
  intro a0 a1 k
  have ih0 := impl_areSigns.mono_l k
  unfold impl_areSigns.f
  repeat' first
      | (with_reducible exact ih0 _ _ _ _)
      | (with_reducible exact LeO.refl _)
      | (with_reducible exact LeO.none _)
      | (with_reducible refine LeO.ite ?_ ?_)
      | (with_reducible refine LeO.bind ?_ (fun _ => ?_))
      | exact ih0 _ _ _ _
      | exact LeO.none _
      | refine LeO.ite ?_ ?_
      | refine LeO.bind ?_ (fun _ => ?_)
set_option maxHeartbeats 8000000 in
set_option maxRecDepth 100000 in
theorem impl_areSigns.calls (k : Nat) (a0 : ByteArray) (a1 : ByteArray) (r : Bool) (w : World) (h : impl_areSigns.f k a0 a1 = some r) :
    Calls Try.prog 65 #[.string a0, .string a1] w fun e w' => e = .returned (.bool r) ∧ Drawn0 w w' := by
  have H : (impl_areSigns.l0 k a0 a1 (a0.size : Int) 0) = some r := h
  clear h
  have H' := Aside0.mk H
  clear H
  go_enter Try.func65, Try.ntmps65
  go_wp2
  go_loopg [8] k (fun kq v8 w' => ∃ (x8_1 : Int), v8 = .int .i64 x8_1 ∧ Aside0 (impl_areSigns.l0 kq a0 a1 (a0.size : Int) x8_1 = some r) ∧ Aside0 (kq ≤ k) ∧ Drawn0 w w')
  case atStart => exact ⟨(0), (by first | rfl | (simp; done) | (simp [*]; done)), H', ⟨Nat.le_refl _⟩, by repeat (first | exact Drawn0.refl _ | apply Drawn0.step)⟩
  case round =>
    clear H'
    try clear p2
    obtain ⟨x8_1, rfl, HA, HK1, ⟨m1, rfl⟩⟩ := hrel
    cases gk with
    | zero => exact absurd HA.out (by simp [impl_areSigns.l0])
    | succ k1 =>
      have H := HA.out
      clear HA
      simp only [impl_areSigns.l0] at H
      by_cases c3 : x8_1 < (a0.size : Int)
      · rw [if_pos c3] at H
        have c3b0 : decide (x8_1 < (a0.size : Int)) = true := decide_eq_true c3
        clear c3
        by_cases c4 : 0 ≤ x8_1
        · rw [if_pos c4] at H
          have c4b0 : decide (0 ≤ x8_1) = true := decide_eq_true c4
          clear c4
          by_cases c5 : x8_1 < (a0.size : Int)
          · rw [if_pos c5] at H
            have c5b0 : decide (x8_1 < (a0.size : Int)) = true := decide_eq_true c5
            clear c5
            replace H := Option.bind_eq_some_iff.mp H
            obtain ⟨t149, A70, H⟩ := H
            replace H : (if t149 < 0 then (some false) else (impl_areSigns.l0 k1 a0 a1 (a0.size : Int) (wrap64 (x8_1 + 1)))) = some r := H
            have A7 := Aside0.mk A70
            clear A70
            by_cases c8 : t149 < 0
            · rw [if_pos c8] at H
              have c8b0 : decide (t149 < 0) = true := decide_eq_true c8
              clear c8
              obtain rfl := Option.some.inj H
              have p6 : 0 ≤ (x8_1 : Int) := of_decide_eq_true (by first | (with_reducible assumption) | assumption)
              have q6 : x8_1 < (a0.size : Int) := of_decide_eq_true (by first | (with_reducible assumption) | assumption)
              have hx6 := bt_at a0 x8_1
              replace p6 := eq_true p6
              replace q6 := eq_true q6
              go_wp2_with (first | ((with_reducible refine gate_callee (f := 69) rfl ?_); refine goesL_ (some 15) rfl rfl Try.func69 (by kernel_rfl) rfl #[.string a1, .int .u8 (bt a0 x8_1)] rfl (by (try simp only [List.map_toArray, List.map_cons, List.map_nil]); first | done | rfl | (simp only [List.length_drop, List.length_take]; rfl)) ?_; (with_reducible refine (strings_IndexByte.calls a1 (bt a0 x8_1) t149 _ A7.out).mono ?_); rintro e w' ⟨rfl, ⟨nd, rfl⟩⟩; refine ⟨_, rfl, ?_⟩))
              go_ret
              exact ⟨by first | rfl | (simp; done) | (simp [*]; done), by repeat (first | exact Drawn0.refl _ | apply Drawn0.step)⟩
            · rw [if_neg c8] at H
              have c8b0 : decide (t149 < 0) = false := decide_eq_false c8
              clear c8
              have H' := Aside0.mk H
              clear H
              have p6 : 0 ≤ (x8_1 : Int) := of_decide_eq_true (by first | (with_reducible assumption) | assumption)
              have q6 : x8_1 < (a0.size : Int) := of_decide_eq_true (by first | (with_reducible assumption) | assumption)
              have hx6 := bt_at a0 x8_1
              replace p6 := eq_true p6
              replace q6 := eq_true q6
              go_wp2_with (first | ((with_reducible refine gate_callee (f := 69) rfl ?_); refine goesL_ (some 15) rfl rfl Try.func69 (by kernel_rfl) rfl #[.string a1, .int .u8 (bt a0 x8_1)] rfl (by (try simp only [List.map_toArray, List.map_cons, List.map_nil]); first | done | rfl | (simp only [List.length_drop, List.length_take]; rfl)) ?_; (with_reducible refine (strings_IndexByte.calls a1 (bt a0 x8_1) t149 _ A7.out).mono ?_); rintro e w' ⟨rfl, ⟨nd, rfl⟩⟩; refine ⟨_, rfl, ?_⟩))
              go_roundg k1
              case measure => have := HK1.out; omega
              case rel => exact ⟨(wrap64 (x8_1 + 1)), (by first | rfl | (simp; done) | (simp [*]; done)), H', ⟨by have := HK1.out; omega⟩, by repeat (first | exact Drawn0.refl _ | apply Drawn0.step)⟩
          · rw [if_neg c5] at H
            exact absurd H (by simp)
        · rw [if_neg c4] at H
          exact absurd H (by simp)
      · rw [if_neg c3] at H
        have c3b0 : decide (x8_1 < (a0.size : Int)) = false := decide_eq_false c3
        clear c3
        replace H := Option.bind_eq_some_iff.mp H
        obtain ⟨t150, A90, H⟩ := H
        replace H : (some t150) = some r := H
        have A9 := Aside0.mk A90
        clear A90
        obtain rfl := Option.some.inj H
        go_wp2_with (first | ((with_reducible refine gate_callee (f := 72) rfl ?_); refine goesL_ (some 20) rfl rfl Try.func72 (by kernel_rfl) rfl #[.int .i64 (a0.size : Int), .int .i64 2, .int .i64 8] rfl (by (try simp only [List.map_toArray, List.map_cons, List.map_nil]); first | done | rfl | (simp only [List.length_drop, List.length_take]; rfl)) ?_; (with_reducible refine (impl_within.calls (a0.size : Int) 2 8 t150 _ A9.out).mono ?_); rintro e w' ⟨rfl, ⟨nd, rfl⟩⟩; refine ⟨_, rfl, ?_⟩))
        go_ret
        exact ⟨by first | rfl | (simp; done) | (simp [*]; done), by repeat (first | exact Drawn0.refl _ | apply Drawn0.step)⟩

/-! ### impl_AreWays: function 41 -/
def impl_AreWays.f (k : Nat) (a0_0 : ByteArray) (a0_1 : ByteArray) : Option (Bool) := (impl_areSigns.f k a0_0 (⟨#[101, 119]⟩ : ByteArray)).bind fun t152 => (if t152 = true then ((impl_areSigns.f k a0_1 (⟨#[110, 115]⟩ : ByteArray)).bind fun t153 => (some t153)) else (some false))
theorem impl_AreWays.mono : ∀ a0 a1 k, LeO (impl_AreWays.f k a0 a1) (impl_AreWays.f (k + 1) a0 a1) := by
  intro a0 a1 k
  unfold impl_AreWays.f
  repeat' first
      | (with_reducible exact impl_areSigns.mono _ _ _)
      | (with_reducible exact LeO.refl _)
      | (with_reducible exact LeO.none _)
      | (with_reducible refine LeO.ite ?_ ?_)
      | (with_reducible refine LeO.bind ?_ (fun _ => ?_))
      | exact impl_areSigns.mono _ _ _
      | exact LeO.none _
      | refine LeO.ite ?_ ?_
      | refine LeO.bind ?_ (fun _ => ?_)
set_option maxHeartbeats 8000000 in
set_option maxRecDepth 100000 in
theorem impl_AreWays.calls (k : Nat) (a0_0 : ByteArray) (a0_1 : ByteArray) (r : Bool) (w : World) (h : impl_AreWays.f k a0_0 a0_1 = some r) :
    Calls Try.prog 41 #[.agg #[.string a0_0, .string a0_1]] w fun e w' => e = .returned (.bool r) ∧ Below w.heap.size w w' := by
  have hu27 := Try.underlying27
  have HB := Aside0.mk (Below.refl w.heap.size w)
  have H : ((impl_areSigns.f k a0_0 (⟨#[101, 119]⟩ : ByteArray)).bind fun t152 => (if t152 = true then ((impl_areSigns.f k a0_1 (⟨#[110, 115]⟩ : ByteArray)).bind fun t153 => (some t153)) else (some false))) = some r := h
  clear h
  replace H := Option.bind_eq_some_iff.mp H
  obtain ⟨t152, A20, H⟩ := H
  replace H : (if t152 = true then ((impl_areSigns.f k a0_1 (⟨#[110, 115]⟩ : ByteArray)).bind fun t153 => (some t153)) else (some false)) = some r := H
  have A2 := Aside0.mk A20
  clear A20
  by_cases c3 : t152 = true
  · subst c3
    have H1 : ((impl_areSigns.f k a0_1 (⟨#[110, 115]⟩ : ByteArray)).bind fun t153 => (some t153)) = some r := by rw [if_pos rfl] at H; exact H
    clear H
    have H := H1
    clear H1
    replace H := Option.bind_eq_some_iff.mp H
    obtain ⟨t153, A40, H⟩ := H
    replace H : (some t153) = some r := H
    have A4 := Aside0.mk A40
    clear A40
    obtain rfl := Option.some.inj H
    go_enter Try.func41, Try.ntmps41
    go_wp2_with (first | ((with_reducible refine gate_dst (N := 1) rfl ?_); refine box_event ?hg (N := 1) ?hd (cs := #[.string a0_0, .string a0_1]) (t := 27) ?hr ?_; (case hd => rfl); (case hg => rfl); (case hr => first | (go_simp; done) | (go_simp; rfl)); intro gb151 hg w5 hbox hb; have n0_ := Aside0.mk (below_step (by repeat (first | (with_reducible first | exact HB.out | apply below_alloc | apply pw_below_drewN | apply below_drew1) | exact HB.out)) hb); have n1_ := Aside0.mk (hbox); have n2_ := Aside0.mk ((by rw [hg]; exact (below_size (by repeat (first | (with_reducible first | exact HB.out | apply below_alloc | apply pw_below_drewN | apply below_drew1) | exact HB.out))) : w.heap.size ≤ gb151)); have n3_ := Aside0.mk ((by rw [hg]; exact (below_size (by repeat (first | (with_reducible first | exact HB.out | apply below_alloc | apply pw_below_drewN | apply below_drew1) | exact HB.out))) : w.heap.size ≤ gb151)); clear HB; have HB := n0_; have BK151 := n1_; have GW151 := n2_; have GE151 := n3_; clear n0_ n1_ n2_ n3_; clear hb hbox hg; have hcz6_0 : w5.cell? ⟨gb151, 0, none⟩ = some (.string a0_0) := (blk_cell BK151.out 0).trans rfl; have hcz6_1 : w5.cell? ⟨gb151, 1, none⟩ = some (.string a0_1) := (blk_cell BK151.out 1).trans rfl; have hfz6_0 := blk_frozen BK151.out 0; have hfz6_1 := blk_frozen BK151.out 1) | ((with_reducible refine gate_callee (f := 65) rfl ?_); refine goesL_ (some 5) rfl rfl Try.func65 (by kernel_rfl) rfl #[.string a0_0, .string (⟨#[101, 119]⟩ : ByteArray)] rfl (by (try simp only [List.map_toArray, List.map_cons, List.map_nil]); first | done | rfl | (simp only [List.length_drop, List.length_take]; rfl)) ?_; (with_reducible refine (impl_areSigns.calls k a0_0 (⟨#[101, 119]⟩ : ByteArray) true _ A2.out).mono ?_); rintro e w' ⟨rfl, ⟨nd, rfl⟩⟩; refine ⟨_, rfl, ?_⟩) | (go_at_call 65; (with_reducible refine (impl_areSigns.calls k a0_1 (⟨#[110, 115]⟩ : ByteArray) t153 _ A4.out).mono ?_); rintro e w' ⟨rfl, ⟨nd, rfl⟩⟩))
    go_ret
    exact ⟨by first | rfl | (simp [errW_none, errW_some] <;> rfl) | (simp [*, errW_none, errW_some] <;> rfl), by repeat (first | (with_reducible first | exact HB.out | apply below_alloc | apply pw_below_drewN | apply below_drew1 | refine below_set ?_ GE151.out) | exact HB.out)⟩
  · replace c3 := Bool.eq_false_iff.mpr c3
    subst c3
    have H1 : (some false) = some r := by rw [if_neg (show ¬ (false = true) by decide)] at H; exact H
    clear H
    have H := H1
    clear H1
    obtain rfl := Option.some.inj H
    go_enter Try.func41, Try.ntmps41
    go_wp2_with (first | ((with_reducible refine gate_dst (N := 1) rfl ?_); refine box_event ?hg (N := 1) ?hd (cs := #[.string a0_0, .string a0_1]) (t := 27) ?hr ?_; (case hd => rfl); (case hg => rfl); (case hr => first | (go_simp; done) | (go_simp; rfl)); intro gb151 hg w7 hbox hb; have n0_ := Aside0.mk (below_step (by repeat (first | (with_reducible first | exact HB.out | apply below_alloc | apply pw_below_drewN | apply below_drew1) | exact HB.out)) hb); have n1_ := Aside0.mk (hbox); have n2_ := Aside0.mk ((by rw [hg]; exact (below_size (by repeat (first | (with_reducible first | exact HB.out | apply below_alloc | apply pw_below_drewN | apply below_drew1) | exact HB.out))) : w.heap.size ≤ gb151)); have n3_ := Aside0.mk ((by rw [hg]; exact (below_size (by repeat (first | (with_reducible first | exact HB.out | apply below_alloc | apply pw_below_drewN | apply below_drew1) | exact HB.out))) : w.heap.size ≤ gb151)); clear HB; have HB := n0_; have BK151 := n1_; have GW151 := n2_; have GE151 := n3_; clear n0_ n1_ n2_ n3_; clear hb hbox hg; have hcz8_0 : w7.cell? ⟨gb151, 0, none⟩ = some (.string a0_0) := (blk_cell BK151.out 0).trans rfl; have hcz8_1 : w7.cell? ⟨gb151, 1, none⟩ = some (.string a0_1) := (blk_cell BK151.out 1).trans rfl; have hfz8_0 := blk_frozen BK151.out 0; have hfz8_1 := blk_frozen BK151.out 1) | ((with_reducible refine gate_callee (f := 65) rfl ?_); refine goesL_ (some 5) rfl rfl Try.func65 (by kernel_rfl) rfl #[.string a0_0, .string (⟨#[101, 119]⟩ : ByteArray)] rfl (by (try simp only [List.map_toArray, List.map_cons, List.map_nil]); first | done | rfl | (simp only [List.length_drop, List.length_take]; rfl)) ?_; (with_reducible refine (impl_areSigns.calls k a0_0 (⟨#[101, 119]⟩ : ByteArray) false _ A2.out).mono ?_); rintro e w' ⟨rfl, ⟨nd, rfl⟩⟩; refine ⟨_, rfl, ?_⟩))
    go_ret
    exact ⟨by first | rfl | (simp [errW_none, errW_some] <;> rfl) | (simp [*, errW_none, errW_some] <;> rfl), by repeat (first | (with_reducible first | exact HB.out | apply below_alloc | apply pw_below_drewN | apply below_drew1 | refine below_set ?_ GE151.out) | exact HB.out)⟩

/-! ### impl_areDriven: function 45 (a contract of this repo) -/
/-- A corner of a city so wide and so high. -/
def impl_areDriven.corner (wide high : Int) (x : List Int) : Bool := decide (x.length = 2) && (decide (0 ≤ rd x 0 ∧ rd x 0 ≤ wide - 1) && decide (0 ≤ rd x 1 ∧ rd x 1 ≤ high - 1))
/-- Sizes of a city. -/
def impl_areDriven.sizes (s a : ByteArray) : Prop := (1 ≤ a.size ∧ a.size ≤ 8) ∧ (1 ≤ s.size ∧ s.size ≤ 8)
instance (s a : ByteArray) : Decidable (impl_areDriven.sizes s a) := by unfold impl_areDriven.sizes; infer_instance
def impl_areDriven.f (k : Nat) (a0_0 a0_1 : ByteArray) (l1 : List (List Int)) : Option Bool := (impl_AreWays.f k a0_0 a0_1).bind fun t => if t = true then (if impl_areDriven.sizes a0_0 a0_1 then some (l1.all (impl_areDriven.corner a0_1.size a0_0.size)) else none) else some false
theorem impl_areDriven.mono : ∀ a0_0 a0_1 a1 k, LeO (impl_areDriven.f k a0_0 a0_1 a1) (impl_areDriven.f (k + 1) a0_0 a0_1 a1) := fun a0_0 a0_1 a1 k => LeO.bind (impl_AreWays.mono _ _ k) (fun _ => LeO.refl _)
theorem impl_areDriven.within (a b c : Int) : impl_within.f a b c = some (decide (b ≤ a ∧ a ≤ c)) := by
  unfold impl_within.f
  by_cases h : a ≥ b
  · rw [if_pos h]; simp [show b ≤ a from h]
  · rw [if_neg h]; simp [show ¬ b ≤ a from h]
/-- What the captured city holds. -/
def impl_areDriven.Box (w : World) (p : Nat) (wide high : Int) : Prop := w.heap[p]? = some (.cells #[.int .i64 wide, .int .i64 high, .slice none 0 0] 80 (0, 0))
theorem impl_areDriven.Box.cell0 {w : World} {p : Nat} {wide high : Int} (h : impl_areDriven.Box w p wide high) : w.cell? ⟨p, 0, none⟩ = some (.int .i64 wide) := by
  simp only [World.cell?, impl_areDriven.Box] at h ⊢; rw [h]; rfl
theorem impl_areDriven.Box.cell1 {w : World} {p : Nat} {wide high : Int} (h : impl_areDriven.Box w p wide high) : w.cell? ⟨p, 1, none⟩ = some (.int .i64 high) := by
  simp only [World.cell?, impl_areDriven.Box] at h ⊢; rw [h]; rfl
theorem impl_areDriven.Box.cell2 {w : World} {p : Nat} {wide high : Int} (h : impl_areDriven.Box w p wide high) : w.cell? ⟨p, 2, none⟩ = some (.slice none 0 0) := by
  simp only [World.cell?, impl_areDriven.Box] at h ⊢; rw [h]; rfl
set_option maxHeartbeats 4000000 in
set_option maxRecDepth 100000 in
theorem impl_areDriven.clo (wide high : Nat) (hw : 1 ≤ wide ∧ wide ≤ 8) (hh : 1 ≤ high ∧ high ≤ 8) (p : Nat) (A : Option Addr) (c : Nat) (x : List Int) (w : World) (hr : Kd.C (Kd.int .i64) w A x.length x) (hc : x.length ≤ c) (hp : impl_areDriven.Box w p wide high) :
    Calls Try.prog 78 #[.slice A x.length c, .pointer (some ⟨p, 0, none⟩)] w fun e w' => e = .returned (.bool (!impl_areDriven.corner wide high x)) ∧ Drawn0 w w' := by
  have h0 := hp.cell0
  have h1 := hp.cell1
  clear hp
  have HR := Aside0.mk hr
  clear hr
  by_cases hl : x.length = 2
  · obtain ⟨ad, hA, hx0⟩ := Kd.at_int HR.out 0 (by omega) (by omega)
    obtain ⟨ad1, hA1, hx1⟩ := Kd.at_int HR.out 1 (by omega) (by omega)
    subst hA
    obtain rfl : ad = ad1 := by injection hA1
    rw [show (0 : Int).toNat = 0 from rfl, Addr.add_zero'] at hx0
    rw [show (1 : Int).toNat = 1 from rfl] at hx1
    have e : (!impl_areDriven.corner wide high x) = (!(decide (0 ≤ rd x 0 ∧ rd x 0 ≤ (wide : Int) - 1)) || !(decide (0 ≤ rd x 1 ∧ rd x 1 ≤ (high : Int) - 1))) := by
      unfold impl_areDriven.corner
      rw [decide_eq_true hl, Bool.true_and, Bool.not_and]
    rw [e]
    clear e HR
    generalize rd x 0 = u at hx0 ⊢
    generalize rd x 1 = v at hx1 ⊢
    rw [hl]
    clear hl
    have W0 := Aside0.mk (impl_areDriven.within u 0 ((wide : Int) - 1))
    have W1 := Aside0.mk (impl_areDriven.within v 0 ((high : Int) - 1))
    have hx1' := hx1
    simp only [show (1 : Int).toNat = 1 from rfl, Nat.reduceMul, Nat.reduceEqDiff, Go.Addr.add, ↓reduceIte] at hx1'
    generalize decide (0 ≤ u ∧ u ≤ (wide : Int) - 1) = b0 at W0 ⊢
    generalize decide (0 ≤ v ∧ v ≤ (high : Int) - 1) = b1 at W1 ⊢
    cases b0 with
    | false =>
      go_enter Try.func78, Try.ntmps78
      go_wp2
      go_quiet (first | (go_at_call 72; (with_reducible refine (impl_within.calls u 0 ((wide : Int) - 1) false _ W0.out).mono ?_); rintro e w' ⟨rfl, ⟨nd, rfl⟩⟩; exact ⟨rfl, _, World.drewN_drewN _ _ _⟩))
      go_wp2
      go_ret
      exact ⟨rfl, ⟨_, rfl⟩⟩
    | true =>
      go_enter Try.func78, Try.ntmps78
      go_wp2
      go_quiet (first | (go_at_call 72; (with_reducible refine (impl_within.calls u 0 ((wide : Int) - 1) true _ W0.out).mono ?_); rintro e w' ⟨rfl, ⟨nd, rfl⟩⟩; exact ⟨rfl, _, World.drewN_drewN _ _ _⟩) | (go_at_call 72; (with_reducible refine (impl_within.calls v 0 ((high : Int) - 1) b1 _ W1.out).mono ?_); rintro e w' ⟨rfl, ⟨nd, rfl⟩⟩; exact ⟨rfl, _, World.drewN_drewN _ _ _⟩))
      go_wp2
      go_ret
      exact ⟨rfl, ⟨_, rfl⟩⟩
  · have e : (!impl_areDriven.corner wide high x) = true := by unfold impl_areDriven.corner; rw [decide_eq_false hl]; rfl
    rw [e]
    have hn : ((x.length : Int) != 2) = true := bne_iff_ne.2 (fun z => hl (by omega))
    go_enter Try.func78, Try.ntmps78
    go_wp2
    go_quiet (fail)
    go_wp2
    go_ret
    exact ⟨rfl, ⟨_, rfl⟩⟩
set_option maxHeartbeats 4000000 in
set_option maxRecDepth 100000 in
theorem impl_areDriven.idx (wide high : Nat) (hw : 1 ≤ wide ∧ wide ≤ 8) (hh : 1 ≤ high ∧ high ≤ 8) (p : Nat) (A1 : Option Addr) (c1 : Nat) (l1 : List (List Int)) (w : World) (hr : Kd.C (Kd.slice 3 (Kd.int .i64)) w A1 l1.length l1) (hc : l1.length ≤ c1) (hp : impl_areDriven.Box w p wide high) :
    Calls Try.prog 86 #[.slice A1 l1.length c1, .func (.func 78) #[] #[.pointer (some ⟨p, 0, none⟩)]] w fun e w' => ∃ r : Int, e = .returned (.int .i64 r) ∧ decide (0 ≤ r) = !(l1.all (impl_areDriven.corner wide high)) ∧ Drawn0 w w' := by
  have HR := Aside0.mk hr
  have HP := Aside0.mk hp
  have HW := Aside0.mk hw
  have HH := Aside0.mk hh
  have hmax : l1.length ≤ 9223372036854775807 := Kd.C_max hr
  clear hr hp hw hh
  go_enter Try.func86, Try.ntmps86
  go_wp2
  go_loopw [8] (fun i wr => ∃ (j m : Nat), j ≤ l1.length ∧ i = .int .i64 j ∧ Aside0 ((l1.take j).all (impl_areDriven.corner wide high) = true) ∧ wr = w.drewN m) (fun i _ => l1.length - (intOf i).toNat)
  case atStart => exact ⟨0, 0, Nat.zero_le _, rfl, ⟨rfl⟩, (World.drewN_zero _).symm⟩
  case round =>
    obtain ⟨j, m, hj, rfl, HA, rfl⟩ := hrel
    by_cases hlt : j < l1.length
    · obtain ⟨ad, cs, hA, hcl, hK, hcc⟩ := Kd.C_get (Kd.C_drewN HR.out m) [] (j : Int) (by omega) (by omega)
      rw [show l1.getD (j : Int).toNat [] = l1[j] by simp [hlt]] at hK
      obtain ⟨A2, c2, hcs, hl2, hC2⟩ := hK
      have hx : (w.drewN m).cell? (ad.add j) = some (.slice A2 (l1[j]).length c2) := by
        have z := hcc 0 (.slice A2 (l1[j]).length c2) (by rw [hcs]; rfl)
        simpa [show (Kd.slice 3 (Kd.int .i64)).sz = 1 from rfl] using z
      have HA2 := Aside0.mk (show (l1.take (j + 1)).all (impl_areDriven.corner wide high) = impl_areDriven.corner wide high l1[j] by
        rw [List.take_succ_eq_append_getElem hlt, List.all_append, HA.out]; simp)
      have HN := Aside0.mk (show impl_areDriven.corner wide high l1[j] = false → l1.all (impl_areDriven.corner wide high) = false from fun h => by
        rw [List.all_eq_false]; exact ⟨l1[j], List.getElem_mem hlt, by rw [h]; simp⟩)
      have HC2 := Aside0.mk hC2
      clear hcs hcl hcc hC2 HA
      generalize l1[j] = x at hx hl2 HA2 HN HC2
      obtain rfl := hA
      have HK := Aside0.mk (impl_areDriven.clo wide high HW.out HH.out p A2 c2 x (w.drewN m) HC2.out hl2 HP.out)
      clear HC2
      generalize impl_areDriven.corner wide high x = b at HA2 HN HK
      cases b with
      | true =>
        go_wp2_with (go_at_call 78; refine HK.out.mono ?_; rintro e w' ⟨rfl, ⟨nd, rfl⟩⟩)
        go_roundw
        case rel => exact ⟨j + 1, m + nd, by omega, by go_num, HA2, rfl⟩
        case measure => simp [intOf]; omega
      | false =>
        have HN2 := HN.out rfl
        go_wp2_with (go_at_call 78; refine HK.out.mono ?_; rintro e w' ⟨rfl, ⟨nd, rfl⟩⟩)
        go_ret
        exact ⟨_, rfl, by rw [HN2]; simp, ⟨_, rfl⟩⟩
    · obtain rfl : j = l1.length := by omega
      have hA := HA.out
      rw [List.take_length] at hA
      clear HA hlt
      go_wp2
      go_ret
      exact ⟨_, rfl, by rw [hA]; rfl, ⟨_, rfl⟩⟩
set_option maxHeartbeats 4000000 in
set_option maxRecDepth 100000 in
theorem impl_areDriven.city (wide high : Nat) (hw : 1 ≤ wide ∧ wide ≤ 8) (hh : 1 ≤ high ∧ high ≤ 8) (w : World) :
    Calls Try.prog 76 #[.agg #[.int .i64 wide, .int .i64 high, .slice none 0 0]] w fun e w' => e = .returned (.bool true) ∧ Below w.heap.size w w' := by
  have hb : impl_areDriven.Box (w.alloc (.cells #[.int .i64 wide, .int .i64 high, .slice none 0 0] 80)) w.heap.size wide high := heap_alloc_new _ _
  have h0 := hb.cell0
  have h1 := hb.cell1
  have h2 := hb.cell2
  have HB := Aside0.mk (below_alloc (Below.refl w.heap.size w) (.cells #[.int .i64 wide, .int .i64 high, .slice none 0 0] 80))
  have W0 := Aside0.mk ((impl_areDriven.within wide 1 8).trans (congrArg some (decide_eq_true (by omega))))
  have W1 := Aside0.mk ((impl_areDriven.within high 1 8).trans (congrArg some (decide_eq_true (by omega))))
  clear hb
  go_enter Try.func76, Try.ntmps76
  go_wp2
  refine wp_loop_rounds 1 ?_
  rw [rounds_succ]
  go_wp2
  go_ret
  exact ⟨rfl, HB.out⟩
set_option maxHeartbeats 4000000 in
set_option maxRecDepth 100000 in
theorem impl_areDriven.cf (wide high : Nat) (hw : 1 ≤ wide ∧ wide ≤ 8) (hh : 1 ≤ high ∧ high ≤ 8) (p : Nat) (A1 : Option Addr) (c1 : Nat) (l1 : List (List Int)) (w : World) (hr : Kd.C (Kd.slice 3 (Kd.int .i64)) w A1 l1.length l1) (hc : l1.length ≤ c1) (hp : impl_areDriven.Box w p wide high) :
    Calls Try.prog 77 #[.slice A1 l1.length c1, .func (.func 78) #[] #[.pointer (some ⟨p, 0, none⟩)]] w fun e w' => e = .returned (.bool (!(l1.all (impl_areDriven.corner wide high)))) ∧ Drawn0 w w' := by
  have HK := Aside0.mk (impl_areDriven.idx wide high hw hh p A1 c1 l1 w hr hc hp)
  clear hr hp
  go_enter Try.func77, Try.ntmps77
  go_wp2_with (go_at_call 86; refine HK.out.mono ?_; rintro e w' ⟨r, rfl, hrr, ⟨nd, rfl⟩⟩)
  go_ret
  exact ⟨by rw [← hrr]; rfl, ⟨_, rfl⟩⟩
set_option maxHeartbeats 4000000 in
set_option maxRecDepth 100000 in
theorem impl_areDriven.corners (wide high : Nat) (hw : 1 ≤ wide ∧ wide ≤ 8) (hh : 1 ≤ high ∧ high ≤ 8) (A1 : Option Addr) (c1 : Nat) (l1 : List (List Int)) (w : World) (hr : Kd.C (Kd.slice 3 (Kd.int .i64)) w A1 l1.length l1) (hc : l1.length ≤ c1) :
    Calls Try.prog 67 #[.agg #[.int .i64 wide, .int .i64 high, .slice none 0 0], .slice A1 l1.length c1] w fun e w' => e = .returned (.bool (l1.all (impl_areDriven.corner wide high))) ∧ Below w.heap.size w w' := by
  have hmf : ∀ (fn : Fn) (first cap : Array Value) (w : World), (Instr.makeFunc fn first cap).run Try.prog w = .ok (.func fn first cap) w := fun _ _ _ _ => rfl
  have hb : impl_areDriven.Box (w.alloc (.cells #[.int .i64 wide, .int .i64 high, .slice none 0 0] 80)) w.heap.size wide high := heap_alloc_new _ _
  have h0 := hb.cell0
  have h1 := hb.cell1
  have h2 := hb.cell2
  have HBx := Aside0.mk hb
  have HR := Aside0.mk (Kd.C_alloc hr (.cells #[.int .i64 wide, .int .i64 high, .slice none 0 0] 80))
  have HB := Aside0.mk (below_alloc (Below.refl w.heap.size w) (.cells #[.int .i64 wide, .int .i64 high, .slice none 0 0] 80))
  have HZ := Aside0.mk (show w.heap.size < (w.alloc (.cells #[.int .i64 wide, .int .i64 high, .slice none 0 0] 80)).heap.size by simp)
  clear hb hr
  go_enter Try.func67, Try.ntmps67
  go_wp2_with (first | (go_at_call 76; refine (impl_areDriven.city wide high hw hh _).mono ?_; rintro e w1 ⟨rfl, hb1⟩) | (go_at_call 77; refine (impl_areDriven.cf wide high hw hh w.heap.size A1 c1 l1 _ (Kd.C_below HR.out hb1) hc ((hb1.block _ HZ.out).trans HBx.out)).mono ?_; rintro e w2 ⟨rfl, ⟨nd, rfl⟩⟩))
  go_ret
  exact ⟨by simp, pw_below_drewN (below_then HB.out HB.out.size hb1) _⟩
set_option maxHeartbeats 4000000 in
set_option maxRecDepth 100000 in
theorem impl_areDriven.calls (k : Nat) (a0_0 a0_1 : ByteArray) (A1 : Option Addr) (c1 : Nat) (l1 : List (List Int)) (r : Bool) (w : World) (hr1 : Kd.C (Kd.slice 3 (Kd.int .i64)) w A1 l1.length l1) (hc1 : l1.length ≤ c1) (h : impl_areDriven.f k a0_0 a0_1 l1 = some r) :
    Calls Try.prog 45 #[.agg #[.string a0_0, .string a0_1], .slice A1 l1.length c1] w fun e w' => e = .returned (.bool r) ∧ Below w.heap.size w w' := by
  unfold impl_areDriven.f at h
  obtain ⟨t, ht, h⟩ := Option.bind_eq_some_iff.1 h
  have HT := Aside0.mk ht
  clear ht
  have hp0 : (w.alloc (.cells #[.string a0_0, .string a0_1] 27)).cell? ⟨w.heap.size, 0, none⟩ = some (.string a0_0) := by
    rw [World.cell?_alloc_at _ _ _ _ rfl]; rfl
  have hp1 : (w.alloc (.cells #[.string a0_0, .string a0_1] 27)).cell? ⟨w.heap.size, 1, none⟩ = some (.string a0_1) := by
    rw [World.cell?_alloc_at _ _ _ _ rfl]; rfl
  have HR := Aside0.mk (Kd.C_alloc hr1 (.cells #[.string a0_0, .string a0_1] 27))
  have HB := Aside0.mk (below_alloc (Below.refl w.heap.size w) (.cells #[.string a0_0, .string a0_1] 27))
  clear hr1
  cases t with
  | false =>
    rw [if_neg (by simp)] at h
    obtain rfl := Option.some.inj h
    go_enter Try.func45, Try.ntmps45
    go_wp2_with (go_at_call 41; refine (impl_AreWays.calls k a0_0 a0_1 false _ HT.out).mono ?_; rintro e w1 ⟨rfl, hb1⟩)
    go_ret
    exact ⟨rfl, below_then HB.out HB.out.size hb1⟩
  | true =>
    rw [if_pos rfl] at h
    by_cases hz : impl_areDriven.sizes a0_0 a0_1
    case neg => rw [if_neg hz] at h; cases h
    rw [if_pos hz] at h
    obtain rfl := Option.some.inj h
    clear h
    obtain ⟨z1, z0⟩ := hz
    go_enter Try.func45, Try.ntmps45
    go_wp2_with (first | (go_at_call 41; refine (impl_AreWays.calls k a0_0 a0_1 true _ HT.out).mono ?_; rintro e w1 ⟨rfl, hb1⟩; have hq0 := (hb1.cell (World.block_lt_of_cell? _ _ hp0)).trans hp0; have hq1 := (hb1.cell (World.block_lt_of_cell? _ _ hp1)).trans hp1) | (go_at_call 67; refine (impl_areDriven.corners a0_1.size a0_0.size z1 z0 A1 c1 l1 _ (Kd.C_below HR.out hb1) hc1).mono ?_; rintro e w2 ⟨rfl, hb2⟩))
    go_ret
    exact ⟨rfl, below_then (below_then HB.out HB.out.size hb1) (Nat.le_trans HB.out.size hb1.size) hb2⟩
/-- A list of one corner, or two, told in a call. -/
theorem impl_areDriven.lit1 {w : World} {g : Nat} {x : List Int} {A : Option Addr} {c : Nat} (h0 : w.cell? ⟨g, 0, none⟩ = some (.slice A x.length c)) (hl : x.length ≤ c) (hC : Kd.C (Kd.int .i64) w A x.length x) : Kd.C (Kd.slice 3 (Kd.int .i64)) w (some ⟨g, 0, none⟩) 1 [x] := by
  refine ⟨rfl, by omega, fun _ => ⟨_, rfl, fun j p hp => ?_⟩⟩
  match j with
  | 0 =>
    obtain rfl : x = p := by simpa using hp
    refine ⟨[.slice A x.length c], rfl, ⟨A, c, rfl, hl, hC⟩, fun i u hu => ?_⟩
    match i with
    | 0 => obtain rfl : Value.slice A x.length c = u := by simpa using hu
           exact h0
    | i + 1 => simp at hu
  | j + 1 => simp at hp
theorem impl_areDriven.lit2 {w : World} {g : Nat} {x y : List Int} {A B : Option Addr} {c d : Nat} (h0 : w.cell? ⟨g, 0, none⟩ = some (.slice A x.length c)) (h1 : w.cell? ⟨g, 1, none⟩ = some (.slice B y.length d)) (hl : x.length ≤ c) (hl2 : y.length ≤ d) (hC : Kd.C (Kd.int .i64) w A x.length x) (hD : Kd.C (Kd.int .i64) w B y.length y) : Kd.C (Kd.slice 3 (Kd.int .i64)) w (some ⟨g, 0, none⟩) 2 [x, y] := by
  refine ⟨rfl, by omega, fun _ => ⟨_, rfl, fun j p hp => ?_⟩⟩
  match j with
  | 0 =>
    obtain rfl : x = p := by simpa using hp
    refine ⟨[.slice A x.length c], rfl, ⟨A, c, rfl, hl, hC⟩, fun i u hu => ?_⟩
    match i with
    | 0 => obtain rfl : Value.slice A x.length c = u := by simpa using hu
           exact h0
    | i + 1 => simp at hu
  | 1 =>
    obtain rfl : y = p := by simpa using hp
    refine ⟨[.slice B y.length d], rfl, ⟨B, d, rfl, hl2, hD⟩, fun i u hu => ?_⟩
    match i with
    | 0 => obtain rfl : Value.slice B y.length d = u := by simpa using hu
           exact h1
    | i + 1 => simp at hu
  | j + 2 => simp at hp

end Go.Proofs.Ytopbmiedlpkmjaa.MR
