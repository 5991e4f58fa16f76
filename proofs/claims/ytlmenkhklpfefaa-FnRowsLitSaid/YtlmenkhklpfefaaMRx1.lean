-- The machine side, written by this repo's program mp.py; contracts marked as of this repo are this session's own.
import Derived.Test.YtlmenkhklpfefaaMRx0
namespace Go.Proofs.Ytlmenkhklpfefaa.MR
open Go.RowKit Go.Proofs.YtlmenkhklpfefaaW.PrintWords Go.Proofs.YtlmenkhklpfefaaW.PrintLast Go.Proofs.YtlmenkhklpfefaaW.PrintMore
attribute [local go_sem] max2_int min2_int max_two min_two max_three min_three max_four min_four   -- for this text's walks alone
set_option linter.unusedVariables false
set_option linter.unusedSimpArgs false

/-! ### laws_big: function 4 -/
def laws_big.f (l0 : List Int) (l1 : List Int) : Option (Bool) := if (l0.length : Int) > 1048576 then (some true) else (some (decide ((l1.length : Int) > (wrap64 (1048576 - (l0.length : Int))))))
set_option maxHeartbeats 8000000 in
set_option maxRecDepth 100000 in
theorem laws_big.calls (A0 : Option Addr) (c0 : Nat) (l0 : List Int) (A1 : Option Addr) (c1 : Nat) (l1 : List Int) (r : Bool) (w : World) (hr0 : Kd.C (Kd.int .u8) w A0 l0.length l0) (hc0 : l0.length ≤ c0) (hr1 : Kd.C (Kd.int .u8) w A1 l1.length l1) (hc1 : l1.length ≤ c1) (h : laws_big.f l0 l1 = some r) :
    Calls Try.prog 4 #[.slice A0 l0.length c0, .slice A1 l1.length c1] w fun e w' => e = .returned (.bool r) ∧ Drawn0 w w' := by
  have HR0 := Aside0.mk hr0
  have HC0 := Aside0.mk hc0
  clear hr0 hc0
  have HR1 := Aside0.mk hr1
  have HC1 := Aside0.mk hc1
  clear hr1 hc1
  have H : (if (l0.length : Int) > 1048576 then (some true) else (some (decide ((l1.length : Int) > (wrap64 (1048576 - (l0.length : Int))))))) = some r := h
  clear h
  by_cases c3 : (l0.length : Int) > 1048576
  · rw [if_pos c3] at H
    have c3b0 : decide (1048576 < (l0.length : Int)) = true := decide_eq_true c3
    have c3b1 : decide (1048576 < l0.length) = true := decide_eq_true (by omega)
    clear c3
    obtain rfl := Option.some.inj H
    go_enter Try.func4, Try.ntmps4
    go_wp2
    go_ret
    exact ⟨by first | rfl | (simp; done) | (simp [*]; done), by repeat (first | exact Drawn0.refl _ | apply Drawn0.step)⟩
  · rw [if_neg c3] at H
    have c3b0 : decide (1048576 < (l0.length : Int)) = false := decide_eq_false c3
    have c3b1 : decide (1048576 < l0.length) = false := decide_eq_false (by omega)
    clear c3
    obtain rfl := Option.some.inj H
    go_enter Try.func4, Try.ntmps4
    go_wp2
    go_ret
    exact ⟨by first | rfl | (simp; done) | (simp [*]; done), by repeat (first | exact Drawn0.refl _ | apply Drawn0.step)⟩

/-! ### spec_l1Cur_next: function 59 (a contract of this repo) -/
/-- The cursor's cells, and those of its code. -/
def spec_l1Cur_next.Cur (w : World) (b : Nat) (A : Option Addr) (c : Nat) (l : List Int) (n : Nat) (s : Int) : Prop :=
  (∃ T, w.heap[b]? = some (.cells #[.slice A l.length c, .int .i64 (n : Int), .int .u64 s] T (0, 0))) ∧ l.length ≤ 1048576 ∧ ∀ j : Nat, j < l.length → (0 ≤ rd l j ∧ rd l j ≤ 255) ∧ ∃ ad, A = some ad ∧ ad.block ≠ b ∧ w.cell? (ad.add j) = some (.int .u8 (rd l j))
/-- All blocks but the cursor's are as they were. -/
structure spec_l1Cur_next.Mv (b : Nat) (w w' : World) : Prop where
  low : Below b w w'
  rest : ∀ k, k < w.heap.size → k ≠ b → w'.heap[k]? = w.heap[k]?
theorem spec_l1Cur_next.Mv.trans {b : Nat} {w w1 w2 : World} (h : spec_l1Cur_next.Mv b w w1) (h' : spec_l1Cur_next.Mv b w1 w2) : spec_l1Cur_next.Mv b w w2 :=
  ⟨h.low.trans h'.low, fun k hk hb => (h'.rest k (Nat.lt_of_lt_of_le hk h.low.size) hb).trans (h.rest k hk hb)⟩
theorem spec_l1Cur_next.Mv.refl (b : Nat) (w : World) : spec_l1Cur_next.Mv b w w := ⟨Below.refl _ _, fun _ _ _ => rfl⟩
theorem spec_l1Cur_next.Mv.of {b : Nat} {w w' : World} (h : Below w.heap.size w w') (hb : b ≤ w.heap.size) : spec_l1Cur_next.Mv b w w' := ⟨h.mono hb, fun k hk _ => h.block k hk⟩
theorem spec_l1Cur_next.cell_of {w w' : World} {p : Addr} (h : w'.heap[p.block]? = w.heap[p.block]?) : w'.cell? p = w.cell? p := by
  simp only [World.cell?, h]
theorem spec_l1Cur_next.cell_lt {w : World} {p : Addr} {v : Value} (h : w.cell? p = some v) : p.block < w.heap.size := by
  by_cases e : p.block < w.heap.size
  · exact e
  · rw [World.cell?, Array.getElem?_eq_none (by omega)] at h
    cases h
theorem spec_l1Cur_next.Cur.lt {w : World} {b : Nat} {A : Option Addr} {c : Nat} {l : List Int} {n : Nat} {s : Int} (h : spec_l1Cur_next.Cur w b A c l n s) : b < w.heap.size := by
  obtain ⟨⟨T, h1⟩, -⟩ := h
  exact (Array.getElem?_eq_some_iff.1 h1).1
theorem spec_l1Cur_next.Cur.move {w w' : World} {b : Nat} {A : Option Addr} {c : Nat} {l : List Int} {n : Nat} {s : Int} (h : spec_l1Cur_next.Cur w b A c l n s) (hw : Below w.heap.size w w') : spec_l1Cur_next.Cur w' b A c l n s := by
  have hb := h.lt
  obtain ⟨⟨T, h1⟩, h2, h3⟩ := h
  refine ⟨⟨T, (hw.block b hb).trans h1⟩, h2, fun j hj => ⟨(h3 j hj).1, ?_⟩⟩
  obtain ⟨ad, e, hne, hc⟩ := (h3 j hj).2
  exact ⟨ad, e, hne, (spec_l1Cur_next.cell_of (hw.block _ (spec_l1Cur_next.cell_lt hc))).trans hc⟩
theorem spec_l1Cur_next.add_block (ad : Addr) (j : Nat) : (ad.add j).block = ad.block := by
  unfold Go.Addr.add
  split <;> rfl
theorem spec_l1Cur_next.Cur.new {w : World} {A : Option Addr} {c : Nat} {l : List Int} {T : TypeId} (hr : Kd.C (Kd.int .u8) w A l.length l) (hl : l.length ≤ 1048576) (hb : ∀ x ∈ l, 0 ≤ x ∧ x ≤ 255) : spec_l1Cur_next.Cur (w.alloc (.cells #[.slice A l.length c, .int .i64 0, .int .u64 0] T)) w.heap.size A c l 0 0 := by
  refine ⟨⟨T, heap_alloc_new _ _⟩, hl, fun j hj => ?_⟩
  obtain ⟨ad, cs, e, -, hK, hc⟩ := Kd.C_get hr 0 (j : Int) (by omega) (by omega)
  have hK : cs = [Value.int .u8 (l.getD j 0)] := hK
  have h0 := hc 0 (Value.int .u8 (l.getD j 0)) (by rw [hK]; rfl)
  rw [show (j : Int).toNat * (Kd.int .u8).sz + 0 = j by show j * 1 + 0 = j; omega] at h0
  have hlt : ad.block < w.heap.size := by have := spec_l1Cur_next.cell_lt h0; rwa [spec_l1Cur_next.add_block] at this
  refine ⟨hb _ (by unfold rd; simp [hj]), ad, e, by omega, ?_⟩
  rw [show rd l j = l.getD j 0 by simp [rd]]
  exact (spec_l1Cur_next.cell_of (Below.heap_alloc w _ _ (by rw [spec_l1Cur_next.add_block]; exact hlt))).trans h0
theorem spec_l1Cur_next.Cur.keep {w0 w w' : World} {b : Nat} {A : Option Addr} {c : Nat} {l : List Int} {n n0 : Nat} {s s0 : Int} (h0 : spec_l1Cur_next.Cur w0 b A c l n0 s0) (h : spec_l1Cur_next.Cur w b A c l n s) (hw : Below w0.heap.size w w') : spec_l1Cur_next.Cur w' b A c l n s := by
  have hb := h0.lt
  obtain ⟨-, -, h4⟩ := h0
  obtain ⟨⟨T, h1⟩, h2, h3⟩ := h
  refine ⟨⟨T, (hw.block b hb).trans h1⟩, h2, fun j hj => ⟨(h3 j hj).1, ?_⟩⟩
  obtain ⟨ad, e, hne, hc⟩ := (h3 j hj).2
  obtain ⟨ad', e', -, hc'⟩ := (h4 j hj).2
  obtain rfl : ad = ad' := Option.some.inj (e.symm.trans e')
  exact ⟨ad, e, hne, (spec_l1Cur_next.cell_of (hw.block _ (spec_l1Cur_next.cell_lt hc'))).trans hc⟩
theorem spec_l1Cur_next.Mv.keep {b : Nat} {w0 w w' : World} (h : spec_l1Cur_next.Mv b w0 w) (hw : Below w0.heap.size w w') (hb : b ≤ w0.heap.size) : spec_l1Cur_next.Mv b w0 w' := ⟨h.low.trans (hw.mono hb), fun k hk hne => (hw.block k hk).trans (h.rest k hk hne)⟩
theorem spec_l1Cur_next.Cur.cells {w : World} {b : Nat} {A : Option Addr} {c : Nat} {l : List Int} {n : Nat} {s : Int} (h : spec_l1Cur_next.Cur w b A c l n s) :
    w.cell? ⟨b, 0, none⟩ = some (.slice A l.length c) ∧ w.cell? ⟨b, 1, none⟩ = some (.int .i64 (n : Int)) ∧ w.cell? ⟨b, 2, none⟩ = some (.int .u64 s) ∧ ∀ j, w.frozen? ⟨b, j, none⟩ = false := by
  obtain ⟨⟨T, h1⟩, -⟩ := h
  refine ⟨?_, ?_, ?_, fun j => ?_⟩
  · simp [World.cell?, h1]
  · simp [World.cell?, h1]
  · simp [World.cell?, h1]
  · simp [World.frozen?, h1]
theorem spec_l1Cur_next.Cur.set1 {w : World} {b : Nat} {A : Option Addr} {c : Nat} {l : List Int} {n : Nat} {s : Int} (h : spec_l1Cur_next.Cur w b A c l n s) (m : Nat) (v : Int) (hv : v = (m : Int)) : spec_l1Cur_next.Cur (w.setCell ⟨b, 1, none⟩ (.int .i64 v)) b A c l m s := by
  subst hv
  obtain ⟨⟨T, h1⟩, h2, h3⟩ := h
  refine ⟨⟨T, by simp [World.setCell, Array.getElem?_modify, h1]⟩, h2, fun j hj => ⟨(h3 j hj).1, ?_⟩⟩
  obtain ⟨ad, e, hne, hc⟩ := (h3 j hj).2
  exact ⟨ad, e, hne, (spec_l1Cur_next.cell_of (p := ad.add j) (Below.heap_setCell w ⟨b, 1, none⟩ _ _ (by rw [spec_l1Cur_next.add_block]; exact hne))).trans hc⟩
theorem spec_l1Cur_next.Cur.set2 {w : World} {b : Nat} {A : Option Addr} {c : Nat} {l : List Int} {n : Nat} {s : Int} (h : spec_l1Cur_next.Cur w b A c l n s) (m : Int) : spec_l1Cur_next.Cur (w.setCell ⟨b, 2, none⟩ (.int .u64 m)) b A c l n m := by
  obtain ⟨⟨T, h1⟩, h2, h3⟩ := h
  refine ⟨⟨T, by simp [World.setCell, Array.getElem?_modify, h1]⟩, h2, fun j hj => ⟨(h3 j hj).1, ?_⟩⟩
  obtain ⟨ad, e, hne, hc⟩ := (h3 j hj).2
  exact ⟨ad, e, hne, (spec_l1Cur_next.cell_of (p := ad.add j) (Below.heap_setCell w ⟨b, 2, none⟩ _ _ (by rw [spec_l1Cur_next.add_block]; exact hne))).trans hc⟩
theorem spec_l1Cur_next.Mv.set {w w' : World} {b : Nat} (h : spec_l1Cur_next.Mv b w w') (i : Nat) (v : Value) : spec_l1Cur_next.Mv b w (w'.setCell ⟨b, i, none⟩ v) :=
  ⟨h.low.setCell (p := ⟨b, i, none⟩) (Nat.le_refl _) v, fun k hk hb => (Below.heap_setCell w' ⟨b, i, none⟩ v k hb).trans (h.rest k hk hb)⟩
/-- A step at a world that is told by what holds there. -/
theorem spec_l1Cur_next.gen {P : Program} {C : Code} {Q : Exit → Act → World → Prop} {a : Act} {w : World} {S : World → Prop} (h : S w) (k : ∀ W, S W → Code.wp P C Q a W) : Code.wp P C Q a w := k w h
def spec_l1Cur_next.byte (l : List Int) (n : Nat) : Int := if n < l.length then rd l n else 0
def spec_l1Cur_next.sd (x s : Int) : Int := IntKind.u64.wrap (IntKind.u64.wrap (IntKind.u64.wrap (s * 6364136223846793005) + x) + 1442695040888963407)
def spec_l1Cur_next.seed (l : List Int) (n : Nat) (s : Int) : Int := spec_l1Cur_next.sd (spec_l1Cur_next.byte l n) s
def spec_l1Cur_next.bits_ (s : Int) : Int := wrap64 (bits .and .u64 (s / 1099511627776) 255)
def spec_l1Cur_next.val (l : List Int) (n : Nat) (s : Int) : Int := if n + 1 ≤ l.length then spec_l1Cur_next.byte l n else spec_l1Cur_next.bits_ (spec_l1Cur_next.seed l n s)
theorem spec_l1Cur_next.Mv.drewN {b : Nat} {w w' : World} (h : spec_l1Cur_next.Mv b w w') (m : Nat) : spec_l1Cur_next.Mv b w (w'.drewN m) := ⟨pw_below_drewN h.low m, fun k hk hb => h.rest k hk hb⟩
theorem spec_l1Cur_next.Cur.drewN {w : World} {b : Nat} {A : Option Addr} {c : Nat} {l : List Int} {n : Nat} {s : Int} (h : spec_l1Cur_next.Cur w b A c l n s) (m : Nat) : spec_l1Cur_next.Cur (w.drewN m) b A c l n s := h
set_option maxHeartbeats 4000000 in
set_option maxRecDepth 100000 in
theorem spec_l1Cur_next.calls (b : Nat) (A : Option Addr) (c : Nat) (l : List Int) (n : Nat) (s : Int) (w : World) (hC : spec_l1Cur_next.Cur w b A c l n s) (hn : n ≤ 1000000) :
    Calls Try.prog 59 #[.pointer (some ⟨b, 0, none⟩)] w fun e w' => e = .returned (.int .i64 (spec_l1Cur_next.val l n s)) ∧ spec_l1Cur_next.Cur w' b A c l (n + 1) (spec_l1Cur_next.seed l n s) ∧ spec_l1Cur_next.Mv b w w' := by
  obtain ⟨c0, c1, c2, fz⟩ := hC.cells
  have hl := hC.2.1
  have e1 : IntKind.i64.wrap ((n : Int) + 1) = (n : Int) + 1 := (i64_w _).trans (by unfold wrap64; omega)
  have HC := Aside0.mk hC
  clear hC
  by_cases hlt : n < l.length
  · obtain ⟨hr, ad, rfl, hne, hc⟩ := HC.out.2.2 n hlt
    have eb : spec_l1Cur_next.byte l n = rd l n := if_pos hlt
    have ev : spec_l1Cur_next.val l n s = rd l n := (if_pos hlt).trans eb
    have es : spec_l1Cur_next.seed l n s = spec_l1Cur_next.sd (rd l n) s := by unfold spec_l1Cur_next.seed; rw [eb]
    rw [ev, es]
    clear ev es eb
    generalize rd l (n : Int) = x at *
    have ex : IntKind.i64.wrap x = x := (i64_w _).trans (by unfold wrap64; omega)
    have hd : decide ((n : Int) < (l.length : Int)) = true := decide_eq_true (by omega)
    have hd2 : decide ((n : Int) + 1 ≤ (l.length : Int)) = true := decide_eq_true (by omega)
    go_enter Try.func59, Try.ntmps59
    go_wp2
    go_quiet (fail)
    go_wp2
    go_quiet (fail)
    go_wp2
    refine spec_l1Cur_next.gen (S := fun W => spec_l1Cur_next.Cur W b (some ad) c l (n + 1) (spec_l1Cur_next.sd x s) ∧ spec_l1Cur_next.Mv b w W) ⟨((HC.out.drewN _).set1 (n + 1) _ rfl).set2 _, ((spec_l1Cur_next.Mv.refl b w).drewN _).set 1 _ |>.set 2 _⟩ (fun W hW => ?_)
    have HW := Aside0.mk hW
    obtain ⟨d0, d1, d2, fz1⟩ := hW.1.cells
    clear hW
    go_quiet (fail)
    go_wp2
    go_ret
    exact ⟨rfl, HW.out.1, HW.out.2.drewN _⟩
  · have eb : spec_l1Cur_next.byte l n = 0 := if_neg hlt
    have ev : spec_l1Cur_next.val l n s = spec_l1Cur_next.bits_ (spec_l1Cur_next.sd 0 s) := by unfold spec_l1Cur_next.val spec_l1Cur_next.seed; rw [if_neg (by omega), eb]
    have es : spec_l1Cur_next.seed l n s = spec_l1Cur_next.sd 0 s := by unfold spec_l1Cur_next.seed; rw [eb]
    rw [ev, es]
    clear ev es eb
    have HE0 := Aside0.mk (show spec_l1Cur_next.sd 0 s = IntKind.u64.wrap (IntKind.u64.wrap (IntKind.u64.wrap (s * 6364136223846793005)) + 1442695040888963407) by unfold spec_l1Cur_next.sd; rw [Int.add_zero])
    have hd : decide ((n : Int) < (l.length : Int)) = false := decide_eq_false (by omega)
    have hd2 : decide ((n : Int) + 1 ≤ (l.length : Int)) = false := decide_eq_false (by omega)
    go_enter Try.func59, Try.ntmps59
    go_wp2
    go_quiet (fail)
    go_wp2
    refine spec_l1Cur_next.gen (S := fun W => spec_l1Cur_next.Cur W b A c l (n + 1) (spec_l1Cur_next.sd 0 s) ∧ spec_l1Cur_next.Mv b w W) ⟨by rw [HE0.out]; exact (((HC.out.drewN _).set1 (n + 1) _ rfl).set2 _), ((spec_l1Cur_next.Mv.refl b w).drewN _).set 1 _ |>.set 2 _⟩ (fun W hW => ?_)
    have HW := Aside0.mk hW
    obtain ⟨d0, d1, d2, fz1⟩ := hW.1.cells
    clear hW
    go_quiet (fail)
    go_wp2
    go_ret
    exact ⟨rfl, HW.out.1, HW.out.2.drewN _⟩

/-! ### spec_l1Cur_pick: function 43 (a contract of this repo) -/
def spec_l1Cur_pick.f (l : List Int) (n : Nat) (s m : Int) : Option (Int × Nat × Int) := if m ≤ 1 then some (0, n, s) else if m ≤ 200 ∧ n ≤ 1000000 then some (Int.tmod (spec_l1Cur_next.val l n s) m, n + 1, spec_l1Cur_next.seed l n s) else none
set_option maxHeartbeats 4000000 in
set_option maxRecDepth 100000 in
theorem spec_l1Cur_pick.calls (b : Nat) (A : Option Addr) (c : Nat) (l : List Int) (n : Nat) (s m : Int) (r1 : Int) (n' : Nat) (s' : Int) (w : World) (hC : spec_l1Cur_next.Cur w b A c l n s) (h : spec_l1Cur_pick.f l n s m = some (r1, n', s')) :
    Calls Try.prog 43 #[.pointer (some ⟨b, 0, none⟩), .int .i64 m] w fun e w' => e = .returned (.int .i64 r1) ∧ spec_l1Cur_next.Cur w' b A c l n' s' ∧ spec_l1Cur_next.Mv b w w' := by
  have HC := Aside0.mk hC
  clear hC
  unfold spec_l1Cur_pick.f at h
  by_cases c1 : m ≤ 1
  · rw [if_pos c1] at h
    obtain ⟨rfl, rfl, rfl⟩ : 0 = r1 ∧ n = n' ∧ s = s' := by simpa using h
    have hd : decide (m ≤ 1) = true := decide_eq_true c1
    clear h c1
    go_enter Try.func43, Try.ntmps43
    go_wp2
    go_ret
    exact ⟨rfl, HC.out, spec_l1Cur_next.Mv.refl _ _⟩
  · rw [if_neg c1] at h
    obtain ⟨⟨h1, h2⟩, h⟩ := Option.ite_none_right_eq_some.1 h
    obtain ⟨rfl, rfl, rfl⟩ : (spec_l1Cur_next.val l n s).tmod m = r1 ∧ n + 1 = n' ∧ spec_l1Cur_next.seed l n s = s' := by simpa using h
    have hd : decide (m ≤ 1) = false := decide_eq_false c1
    have hd2 : decide ((200 : Int) < m) = false := decide_eq_false (by omega)
    have hm : 1 < m := by omega
    clear h c1
    go_enter Try.func43, Try.ntmps43
    go_wp2_with (go_at_call 59; refine (spec_l1Cur_next.calls _ _ _ _ _ _ _ HC.out h2).mono ?_; rintro e w1 ⟨rfl, hC1, hM1⟩; have HC1 := Aside0.mk hC1; have HM1 := Aside0.mk hM1; clear hC1 hM1)
    go_ret
    exact ⟨rfl, HC1.out, HM1.out⟩

/-! ### spec_l1Cur_one: function 38 (a contract of this repo) -/
def spec_l1Cur_one.f (l : List Int) (n : Nat) (s m : Int) : Option (Bool × Nat × Int) := (spec_l1Cur_pick.f l n s m).map fun r => (decide (r.1 = 0), r.2)
set_option maxHeartbeats 4000000 in
set_option maxRecDepth 100000 in
theorem spec_l1Cur_one.calls (b : Nat) (A : Option Addr) (c : Nat) (l : List Int) (n : Nat) (s m : Int) (r1 : Bool) (n' : Nat) (s' : Int) (w : World) (hC : spec_l1Cur_next.Cur w b A c l n s) (h : spec_l1Cur_one.f l n s m = some (r1, n', s')) :
    Calls Try.prog 38 #[.pointer (some ⟨b, 0, none⟩), .int .i64 m] w fun e w' => e = .returned (.bool r1) ∧ spec_l1Cur_next.Cur w' b A c l n' s' ∧ spec_l1Cur_next.Mv b w w' := by
  have HC := Aside0.mk hC
  clear hC
  unfold spec_l1Cur_one.f at h
  obtain ⟨⟨v, q⟩, h1, e⟩ := Option.map_eq_some_iff.1 h
  obtain ⟨rfl, rfl⟩ := Prod.mk.inj e
  have H1 := Aside0.mk h1
  clear h h1 e
  go_enter Try.func38, Try.ntmps38
  go_wp2_with (go_at_call 43; refine (spec_l1Cur_pick.calls _ _ _ _ _ _ _ _ _ _ _ HC.out H1.out).mono ?_; rintro e w1 ⟨rfl, hC1, hM1⟩; have HC1 := Aside0.mk hC1; have HM1 := Aside0.mk hM1; clear hC1 hM1)
  go_ret
  exact ⟨rfl, HC1.out, HM1.out⟩

/-! ### spec_l1Cur_of: function 57 (a contract of this repo) -/
def spec_l1Cur_of.f (l : List Int) (n : Nat) (s : Int) (xs : List ByteArray) : Option (ByteArray × Nat × Int) := (spec_l1Cur_pick.f l n s xs.length).bind fun r => if 0 ≤ r.1 ∧ r.1 < (xs.length : Int) then some (xs.getD r.1.toNat ⟨#[]⟩, r.2) else none
/-- The cells of a list that is told in a call. -/
def spec_l1Cur_of.Lst (w : World) (b g : Nat) (xs : List ByteArray) : Prop := g ≠ b ∧ ∀ j : Nat, j < xs.length → w.cell? ⟨g, j, none⟩ = some (.string (xs.getD j ⟨#[]⟩))
theorem spec_l1Cur_of.lst_new {w : World} {b : Nat} {xs : List ByteArray} {X : Array Value} {T : TypeId} {N : Nat × Nat} (hb : b < w.heap.size) (hX : X = (xs.map Value.string).toArray) : spec_l1Cur_of.Lst (w.alloc (.cells X T N)) b w.heap.size xs := by
  refine ⟨by omega, fun j hj => ?_⟩
  have h : (w.alloc (.cells X T N)).heap[w.heap.size]? = some (.cells X T N) := by
    show (w.heap.push _)[_]? = _
    rw [Array.getElem?_push, if_pos rfl]
  rw [show (w.alloc (.cells X T N)).cell? ⟨w.heap.size, j, none⟩ = X[j]? by simp only [World.cell?, h]; rfl, hX]
  simp [hj]
set_option maxHeartbeats 4000000 in
set_option maxRecDepth 100000 in
theorem spec_l1Cur_of.calls (b : Nat) (A : Option Addr) (c : Nat) (l : List Int) (n : Nat) (s : Int) (g d : Nat) (xs : List ByteArray) (r1 : ByteArray) (n' : Nat) (s' : Int) (w : World) (hC : spec_l1Cur_next.Cur w b A c l n s) (hX : spec_l1Cur_of.Lst w b g xs) (h : spec_l1Cur_of.f l n s xs = some (r1, n', s')) :
    Calls Try.prog 57 #[.pointer (some ⟨b, 0, none⟩), .slice (some ⟨g, 0, none⟩) xs.length d] w fun e w' => e = .returned (.string r1) ∧ spec_l1Cur_next.Cur w' b A c l n' s' ∧ spec_l1Cur_next.Mv b w w' := by
  have HC := Aside0.mk hC
  have HX := Aside0.mk hX
  clear hC hX
  unfold spec_l1Cur_of.f at h
  obtain ⟨⟨v, q⟩, h1, e⟩ := Option.bind_eq_some_iff.1 h
  obtain ⟨⟨h2, h3⟩, e⟩ := Option.ite_none_right_eq_some.1 e
  obtain ⟨rfl, rfl⟩ : xs.getD v.toNat ⟨#[]⟩ = r1 ∧ q = (n', s') := by simpa using e
  have H1 := Aside0.mk h1
  obtain ⟨j, rfl⟩ : ∃ j : Nat, v = (j : Int) := ⟨v.toNat, by omega⟩
  have hj : j < xs.length := by omega
  clear h h1 e h2 h3
  go_enter Try.func57, Try.ntmps57
  go_wp2_with (go_at_call 43; refine (spec_l1Cur_pick.calls _ _ _ _ _ _ _ _ _ _ _ HC.out H1.out).mono ?_; rintro e w1 ⟨rfl, hC1, hM1⟩; have HC1 := Aside0.mk hC1; have hx : w1.cell? ⟨g, j, none⟩ = some (.string (xs.getD j ⟨#[]⟩)) := (spec_l1Cur_next.cell_of (hM1.rest _ (spec_l1Cur_next.cell_lt (HX.out.2 j hj)) HX.out.1)).trans (HX.out.2 j hj); have HM1 := Aside0.mk hM1; clear hC1 hM1)
  go_ret
  refine ⟨?_, HC1.out, HM1.out⟩
  show Ending.returned (.string xs[j]) = _
  simp [hj]

/-! ### spec_l1Cur_lamps: function 36 (a contract of this repo) -/
def spec_l1Cur_lamps.odd : List ByteArray := [⟨#[]⟩, ⟨#[120]⟩, ⟨#[35, 35, 32]⟩, ⟨#[46, 46, 46, 46]⟩, ⟨#[35, 35, 35, 35, 35, 35, 35, 35, 35, 35, 35, 35, 35, 35, 35, 35, 35, 35, 35, 35, 35]⟩]
def spec_l1Cur_lamps.signs : List ByteArray := [⟨#[35]⟩, ⟨#[35]⟩, ⟨#[46]⟩]
def spec_l1Cur_lamps.go (l : List Int) : Nat → ByteArray → Nat → Int → Option (ByteArray × Nat × Int)
  | 0, out, n, s => some (out, n, s)
  | m + 1, out, n, s => (spec_l1Cur_of.f l n s spec_l1Cur_lamps.signs).bind fun r => if out.size + r.1.size ≤ 1000 then spec_l1Cur_lamps.go l m (out ++ r.1) r.2.1 r.2.2 else none
def spec_l1Cur_lamps.f (l : List Int) (n : Nat) (s : Int) : Option (ByteArray × Nat × Int) := (spec_l1Cur_one.f l n s 12).bind fun r => if r.1 = true then spec_l1Cur_of.f l r.2.1 r.2.2 spec_l1Cur_lamps.odd else (spec_l1Cur_pick.f l r.2.1 r.2.2 10).bind fun p => if 0 ≤ p.1 ∧ p.1 ≤ 100 then spec_l1Cur_lamps.go l (p.1.toNat + 1) ⟨#[]⟩ p.2.1 p.2.2 else none
set_option maxHeartbeats 4000000 in
set_option maxRecDepth 100000 in
theorem spec_l1Cur_lamps.calls (b : Nat) (A : Option Addr) (c : Nat) (l : List Int) (n : Nat) (s : Int) (r1 : ByteArray) (n' : Nat) (s' : Int) (w : World) (hC : spec_l1Cur_next.Cur w b A c l n s) (h : spec_l1Cur_lamps.f l n s = some (r1, n', s')) :
    Calls Try.prog 36 #[.pointer (some ⟨b, 0, none⟩)] w fun e w' => e = .returned (.string r1) ∧ spec_l1Cur_next.Cur w' b A c l n' s' ∧ spec_l1Cur_next.Mv b w w' := by
  have HC := Aside0.mk hC
  clear hC
  unfold spec_l1Cur_lamps.f at h
  obtain ⟨⟨v, n1, s1⟩, h1, h⟩ := Option.bind_eq_some_iff.1 h
  have H1 := Aside0.mk h1
  cases v with
  | true =>
    have H := Aside0.mk (show spec_l1Cur_of.f l n1 s1 spec_l1Cur_lamps.odd = some (r1, n', s') from h)
    clear h h1
    go_enter Try.func36, Try.ntmps36
    go_wp2_with (go_at_call 38; refine (spec_l1Cur_one.calls _ _ _ _ _ _ _ _ _ _ _ HC.out H1.out).mono ?_; rintro e w1 ⟨rfl, hC1, hM1⟩; have HC1 := Aside0.mk hC1; have HM1 := Aside0.mk hM1; clear hC1 hM1)
    go_wp2_with (go_at_call 57; refine (spec_l1Cur_of.calls _ _ _ _ _ _ _ _ spec_l1Cur_lamps.odd _ _ _ _ (HC1.out.move (below_alloc (Below.refl _ _) _)) (spec_l1Cur_of.lst_new HC1.out.lt rfl) H.out).mono ?_; rintro e w2 ⟨rfl, hC2, hM2⟩; have HC2 := Aside0.mk hC2; have HM2 := Aside0.mk (HM1.out.trans ((spec_l1Cur_next.Mv.of (below_alloc (Below.refl _ _) _) (Nat.le_of_lt HC1.out.lt)).trans hM2)); clear hC2 hM2)
    go_ret
    exact ⟨rfl, HC2.out, HM2.out⟩
  | false =>
    obtain ⟨⟨p, n2, s2⟩, h2, h⟩ := Option.bind_eq_some_iff.1 (show (spec_l1Cur_pick.f l n1 s1 10).bind _ = _ from h)
    obtain ⟨⟨h3, h4⟩, h⟩ := Option.ite_none_right_eq_some.1 h
    obtain ⟨m, rfl⟩ : ∃ m : Nat, p = (m : Int) := ⟨p.toNat, by omega⟩
    have H2 := Aside0.mk h2
    have H := Aside0.mk (show spec_l1Cur_lamps.go l (m + 1) ⟨#[]⟩ n2 s2 = some (r1, n', s') from h)
    have hm : m ≤ 100 := by omega
    clear h h1 h2 h3 h4
    go_enter Try.func36, Try.ntmps36
    go_wp2_with (go_at_call 38; refine (spec_l1Cur_one.calls _ _ _ _ _ _ _ _ _ _ _ HC.out H1.out).mono ?_; rintro e w1 ⟨rfl, hC1, hM1⟩; have HC1 := Aside0.mk hC1; have HM1 := Aside0.mk hM1; clear hC1 hM1)
    go_wp2_with (go_at_call 43; refine (spec_l1Cur_pick.calls _ _ _ _ _ _ _ _ _ _ _ HC1.out H2.out).mono ?_; rintro e w2 ⟨rfl, hC2, hM2⟩; have HC2 := Aside0.mk hC2; have HM2 := Aside0.mk (HM1.out.trans hM2); clear hC2 hM2)
    go_loopw [3, 4] (fun ov iv wr => ∃ (m : Nat) (out : ByteArray) (n3 : Nat) (s3 : Int), ov = .string out ∧ iv = .int .i64 m ∧ m ≤ 101 ∧ Aside0 (out.size ≤ 1000) ∧ Aside0 (spec_l1Cur_lamps.go l m out n3 s3 = some (r1, n', s')) ∧ Aside0 (spec_l1Cur_next.Cur wr b A c l n3 s3) ∧ Aside0 (spec_l1Cur_next.Mv b w wr)) (fun _ iv _ => (intOf iv).toNat)
    case atStart => exact ⟨m + 1, ⟨#[]⟩, n2, s2, rfl, by go_num, by omega, ⟨by decide⟩, H, HC2, HM2⟩
    case round =>
      clear H HC2 HM2
      obtain ⟨k, out, n3, s3, rfl, rfl, hk, HS, H, HC3, HM3⟩ := hrel
      cases k with
      | zero =>
        obtain ⟨rfl, rfl, rfl⟩ : out = r1 ∧ n3 = n' ∧ s3 = s' := by simpa [spec_l1Cur_lamps.go] using H.out
        go_wp2
        go_ret
        exact ⟨rfl, HC3.out, HM3.out⟩
      | succ k =>
        obtain ⟨⟨t, n4, s4⟩, h5, h6⟩ := Option.bind_eq_some_iff.1 (show (spec_l1Cur_of.f l n3 s3 spec_l1Cur_lamps.signs).bind _ = _ from H.out)
        obtain ⟨h7, h6⟩ := Option.ite_none_right_eq_some.1 h6
        have h7 : out.size + t.size ≤ 1000 := h7
        have H5 := Aside0.mk h5
        have H6 := Aside0.mk h6
        have hz : out.size + t.size ≤ 9223372036854775807 := by omega
        have hd : decide ((0 : Int) < ((k + 1 : Nat) : Int)) = true := decide_eq_true (by omega)
        have H7 := Aside0.mk (show (out ++ t).size ≤ 1000 by rw [ByteArray.size_append]; exact h7)
        clear h5 h6 h7
        go_wp2_with (go_at_call 57; refine (spec_l1Cur_of.calls _ _ _ _ _ _ _ _ spec_l1Cur_lamps.signs _ _ _ _ (HC3.out.move (below_alloc (Below.refl _ _) _)) (spec_l1Cur_of.lst_new HC3.out.lt rfl) H5.out).mono ?_; rintro e w4 ⟨rfl, hC4, hM4⟩; have HC4 := Aside0.mk hC4; have HM4 := Aside0.mk (HM3.out.trans ((spec_l1Cur_next.Mv.of (below_alloc (Below.refl _ _) _) (Nat.le_of_lt HC3.out.lt)).trans hM4)); clear hC4 hM4)
        go_roundw
        case rel => exact ⟨k, out ++ t, n4, s4, rfl, by go_num, by omega, H7, H6, HC4, HM4⟩
        case measure => first | (simp [intOf]; done) | (simp [intOf]; omega)

/-! ### spec_DrawFewestLamps: function 26 (a contract of this repo) -/
def spec_DrawFewestLamps.f (l0 : List Int) : Option (ByteArray × Bool) := if l0.length ≤ 1048576 ∧ (∀ x ∈ l0, 0 ≤ x ∧ x ≤ 255) then (spec_l1Cur_lamps.f l0 0 0).bind fun r => (spec_l1Cur_one.f l0 r.2.1 r.2.2 2).map fun q => (r.1, q.1) else none
set_option maxHeartbeats 4000000 in
set_option maxRecDepth 100000 in
theorem spec_DrawFewestLamps.calls (A0 : Option Addr) (c0 : Nat) (l0 : List Int) (r1 : ByteArray) (r2 : Bool) (w : World) (hr0 : Kd.C (Kd.int .u8) w A0 l0.length l0) (hc0 : l0.length ≤ c0) (h : spec_DrawFewestLamps.f l0 = some (r1, r2)) :
    Calls Try.prog 26 #[.slice A0 l0.length c0] w fun e w' => e = .returned (.tuple #[.string r1, .bool r2]) ∧ Below w.heap.size w w' := by
  have HC0 := Aside0.mk hc0
  unfold spec_DrawFewestLamps.f at h
  obtain ⟨⟨hl, hb⟩, h⟩ := Option.ite_none_right_eq_some.1 h
  have HC := Aside0.mk (fun T => spec_l1Cur_next.Cur.new (c := c0) (T := T) hr0 hl hb)
  have HA := Aside0.mk (fun T => below_alloc (Below.refl w.heap.size w) (.cells #[.slice A0 l0.length c0, .int .i64 0, .int .u64 0] T))
  clear hr0 hc0 hl hb
  obtain ⟨⟨x, n1, s1⟩, h1, h⟩ := Option.bind_eq_some_iff.1 h
  obtain ⟨⟨y, n2, s2⟩, h2, e⟩ := Option.map_eq_some_iff.1 h
  obtain ⟨rfl, rfl⟩ : x = r1 ∧ y = r2 := by simpa using e
  have H1 := Aside0.mk h1
  have H2 := Aside0.mk h2
  clear h h1 h2 e
  go_enter Try.func26, Try.ntmps26
  go_wp2_with (first | (go_at_call 36; refine (spec_l1Cur_lamps.calls _ _ _ _ _ _ _ _ _ _ (HC.out _) H1.out).mono ?_; rintro e w1 ⟨rfl, hC1, hM1⟩; have HC1 := Aside0.mk hC1; have HM1 := Aside0.mk (hM1); clear hC1 hM1) | (go_at_call 38; refine (spec_l1Cur_one.calls _ _ _ _ _ _ _ _ _ _ _ HC1.out H2.out).mono ?_; rintro e w2 ⟨rfl, hC2, hM2⟩; have HC2 := Aside0.mk hC2; have HM2 := Aside0.mk (HM1.out.trans hM2); clear hC2 hM2))
  refine bodyPost_ret (results_list (rs := [.tmp 2, .tmp 3]) rfl (by simp) (.tmp (.tmp .nil))) rfl ?_
  exact ⟨rfl, (HA.out _).trans HM2.out.low⟩

/-! ### spec_DrawFirstLamps: function 5 -/
def spec_DrawFirstLamps.f (l0 : List Int) : Option (ByteArray × Bool) := (spec_DrawFewestLamps.f l0).bind fun bt101 => (some (bt101.1, bt101.2))
set_option maxHeartbeats 8000000 in
set_option maxRecDepth 100000 in
theorem spec_DrawFirstLamps.calls (A0 : Option Addr) (c0 : Nat) (l0 : List Int) (r1 : ByteArray) (r2 : Bool) (w : World) (hr0 : Kd.C (Kd.int .u8) w A0 l0.length l0) (hc0 : l0.length ≤ c0) (h : spec_DrawFirstLamps.f l0 = some (r1, r2)) :
    Calls Try.prog 5 #[.slice A0 l0.length c0] w fun e w' => e = .returned (.tuple #[.string r1, .bool r2]) ∧ Below w.heap.size w w' := by
  have HR0 := Aside0.mk hr0
  have HC0 := Aside0.mk hc0
  clear hr0 hc0
  have HB := Aside0.mk (Below.refl w.heap.size w)
  have H : ((spec_DrawFewestLamps.f l0).bind fun bt101 => (some (bt101.1, bt101.2))) = some (r1, r2) := h
  clear h
  replace H := Option.bind_eq_some_iff.mp H
  obtain ⟨⟨t101, t102⟩, A20, H⟩ := H
  replace H : (some (t101, t102)) = some (r1, r2) := H
  have A2 := Aside0.mk A20
  clear A20
  simp only [Option.some.injEq, Prod.mk.injEq] at H
  obtain ⟨rfl, rfl⟩ := H
  go_enter Try.func5, Try.ntmps5
  go_wp2_with (first | ((with_reducible refine gate_callee (f := 26) rfl ?_); refine goesL_ (some 5) rfl rfl Try.func26 (by kernel_rfl) rfl #[.slice A0 l0.length c0] rfl (by (try simp only [List.map_toArray, List.map_cons, List.map_nil]); first | done | rfl | (simp only [List.length_drop, List.length_take]; rfl)) ?_; (with_reducible refine (spec_DrawFewestLamps.calls _ _ l0 t101 t102 _ ?side1 ?side2 A2.out).mono ?_); (case side1 => repeat (first | exact HR0.out | (with_reducible refine Kd.C_alloc ?_ _) | (with_reducible refine Kd.C_drewN ?_ _) | (with_reducible refine Kd.C_drew ?_))); (case side2 => exact HC0.out); rintro e w3 ⟨rfl, hb⟩; refine ⟨_, rfl, ?_⟩; have n0_ := Aside0.mk (below_step (by repeat (first | (with_reducible first | exact HB.out | apply below_alloc | apply pw_below_drewN | apply below_drew1) | exact HB.out)) hb); clear HB; have HB := n0_; clear n0_; (try clear hb); (try clear hb2); (try clear hk); (try clear hi)))
  go_ret2
  exact ⟨by first | rfl | (simp [errW_none, errW_some] <;> rfl) | (simp [*, errW_none, errW_some] <;> rfl), by repeat (first | (with_reducible first | exact HB.out | apply below_alloc | apply pw_below_drewN | apply below_drew1) | exact HB.out)⟩

/-! ### impl_within: function 35 -/
def impl_within.f (a0 : Int) (a1 : Int) (a2 : Int) : Option (Bool) := if a0 ≥ a1 then (some (decide (a0 ≤ a2))) else (some false)
set_option maxHeartbeats 8000000 in
set_option maxRecDepth 100000 in
theorem impl_within.calls (a0 : Int) (a1 : Int) (a2 : Int) (r : Bool) (w : World) (h : impl_within.f a0 a1 a2 = some r) :
    Calls Try.prog 35 #[.int .i64 a0, .int .i64 a1, .int .i64 a2] w fun e w' => e = .returned (.bool r) ∧ Drawn0 w w' := by
  have H : (if a0 ≥ a1 then (some (decide (a0 ≤ a2))) else (some false)) = some r := h
  clear h
  by_cases c4 : a0 ≥ a1
  · rw [if_pos c4] at H
    have c4b0 : decide (a1 ≤ a0) = true := decide_eq_true c4
    clear c4
    obtain rfl := Option.some.inj H
    go_enter Try.func35, Try.ntmps35
    go_wp2
    go_ret
    exact ⟨by first | rfl | (simp; done) | (simp [*]; done), by repeat (first | exact Drawn0.refl _ | apply Drawn0.step)⟩
  · rw [if_neg c4] at H
    have c4b0 : decide (a1 ≤ a0) = false := decide_eq_false c4
    clear c4
    obtain rfl := Option.some.inj H
    go_enter Try.func35, Try.ntmps35
    go_wp2
    go_ret
    exact ⟨by first | rfl | (simp; done) | (simp [*]; done), by repeat (first | exact Drawn0.refl _ | apply Drawn0.step)⟩

/-! ### impl_isRowLength: function 31 -/
def impl_isRowLength.f (a0 : Int) : Option (Bool) := (impl_within.f a0 1 20).bind fun t103 => (some t103)
set_option maxHeartbeats 8000000 in
set_option maxRecDepth 100000 in
theorem impl_isRowLength.calls (a0 : Int) (r : Bool) (w : World) (h : impl_isRowLength.f a0 = some r) :
    Calls Try.prog 31 #[.int .i64 a0] w fun e w' => e = .returned (.bool r) ∧ Drawn0 w w' := by
  have H : ((impl_within.f a0 1 20).bind fun t103 => (some t103)) = some r := h
  clear h
  replace H := Option.bind_eq_some_iff.mp H
  obtain ⟨t103, A20, H⟩ := H
  replace H : (some t103) = some r := H
  have A2 := Aside0.mk A20
  clear A20
  obtain rfl := Option.some.inj H
  go_enter Try.func31, Try.ntmps31
  go_wp2_with (first | ((with_reducible refine gate_callee (f := 35) rfl ?_); refine goesL_ (some 4) rfl rfl Try.func35 (by kernel_rfl) rfl #[.int .i64 a0, .int .i64 1, .int .i64 20] rfl (by (try simp only [List.map_toArray, List.map_cons, List.map_nil]); first | done | rfl | (simp only [List.length_drop, List.length_take]; rfl)) ?_; (with_reducible refine (impl_within.calls a0 1 20 t103 _ A2.out).mono ?_); rintro e w' ⟨rfl, ⟨nd, rfl⟩⟩; refine ⟨_, rfl, ?_⟩))
  go_ret
  exact ⟨by first | rfl | (simp; done) | (simp [*]; done), by repeat (first | exact Drawn0.refl _ | apply Drawn0.step)⟩

/-! ### impl_IsLitRow: function 13 -/
def impl_IsLitRow.l0 : Nat → ByteArray → Int → Int → Option (Bool)
  | 0, _, _, _ => none
  | k + 1, x0, x5, x6 => if x6 < x5 then (if 0 ≤ x6 then (if x6 < (x0.size : Int) then (if (bt x0 x6) = 35 then (impl_IsLitRow.l0 k x0 x5 (wrap64 (x6 + 1))) else (if (bt x0 x6) = 46 then (impl_IsLitRow.l0 k x0 x5 (wrap64 (x6 + 1))) else (some false))) else (none)) else (none)) else ((impl_isRowLength.f (x0.size : Int)).bind fun t104 => (some t104))
def impl_IsLitRow.f (k : Nat) (a0 : ByteArray) : Option (Bool) := impl_IsLitRow.l0 k a0 (a0.size : Int) 0
theorem impl_IsLitRow.mono_l : ∀ k, (∀ y0 y1 y2, LeO (impl_IsLitRow.l0 k y0 y1 y2) (impl_IsLitRow.l0 (k + 1) y0 y1 y2))
  | 0 => fun _ _ _ r h => by simp [impl_IsLitRow.l0] at h
  | k + 1 => by
    have ih0 := impl_IsLitRow.mono_l k
    · intro y0 y1 y2
      unfold impl_IsLitRow.l0
      repeat' first
      | (with_reducible exact ih0 _ _ _)
      | (with_reducible exact LeO.refl _)
      | (with_reducible exact LeO.none _)
      | (with_reducible refine LeO.ite ?_ ?_)
      | (with_reducible refine LeO.bind ?_ (fun _ => ?_))
      | exact ih0 _ _ _
      | exact LeO.none _
      | refine LeO.ite ?_ ?_
      | refine LeO.bind ?_ (fun _ => ?_)
theorem impl_IsLitRow.mono : ∀ a0 k, LeO (impl_IsLitRow.f k a0) (impl_IsLitRow.f (k + 1) a0) := by
  intro a0 k
  have ih0 := impl_IsLitRow.mono_l k
  unfold impl_IsLitRow.f
  repeat' first
      | (with_reducible exact ih0 _ _ _)
      | (with_reducible exact LeO.refl _)
      | (with_reducible exact LeO.none _)
      | (with_reducible refine LeO.ite ?_ ?_)
      | (with_reducible refine LeO.bind ?_ (fun _ => ?_))
      | exact ih0 _ _ _
      | exact LeO.none _
      | refine LeO.ite ?_ ?_
      | refine LeO.bind ?_ (fun _ => ?_)
set_option maxHeartbeats 8000000 in
set_option maxRecDepth 100000 in
theorem impl_IsLitRow.calls (k : Nat) (a0 : ByteArray) (r : Bool) (w : World) (h : impl_IsLitRow.f k a0 = some r) :
    Calls Try.prog 13 #[.string a0] w fun e w' => e = .returned (.bool r) ∧ Drawn0 w w' := by
  have H : (impl_IsLitRow.l0 k a0 (a0.size : Int) 0) = some r := h
  clear h
  have H' := Aside0.mk H
  clear H
  go_enter Try.func13, Try.ntmps13
  go_wp2
  go_loopg [6] k (fun kq v6 w' => ∃ (x6_1 : Int), v6 = .int .i64 x6_1 ∧ Aside0 (impl_IsLitRow.l0 kq a0 (a0.size : Int) x6_1 = some r) ∧ Aside0 (kq ≤ k) ∧ Drawn0 w w')
  case atStart => exact ⟨(0), (by first | rfl | (simp; done) | (simp [*]; done)), H', ⟨Nat.le_refl _⟩, by repeat (first | exact Drawn0.refl _ | apply Drawn0.step)⟩
  case round =>
    clear H'
    try clear c1
    obtain ⟨x6_1, rfl, HA, HK1, ⟨m1, rfl⟩⟩ := hrel
    cases gk with
    | zero => exact absurd HA.out (by simp [impl_IsLitRow.l0])
    | succ k1 =>
      have H := HA.out
      clear HA
      simp only [impl_IsLitRow.l0] at H
      by_cases c2 : x6_1 < (a0.size : Int)
      · rw [if_pos c2] at H
        have c2b0 : decide (x6_1 < (a0.size : Int)) = true := decide_eq_true c2
        clear c2
        by_cases c3 : 0 ≤ x6_1
        · rw [if_pos c3] at H
          have c3b0 : decide (0 ≤ x6_1) = true := decide_eq_true c3
          clear c3
          by_cases c4 : x6_1 < (a0.size : Int)
          · rw [if_pos c4] at H
            have c4b0 : decide (x6_1 < (a0.size : Int)) = true := decide_eq_true c4
            clear c4
            by_cases c6 : (bt a0 x6_1) = 35
            · rw [if_pos c6] at H
              have c6b0 : ((bt a0 x6_1) == 35) = true := beq_iff_eq.mpr c6
              have c6b1 : ((bt a0 x6_1) != 35) = false := bne_eq_false_iff_eq.mpr c6
              clear c6
              have H' := Aside0.mk H
              clear H
              have p5 : 0 ≤ (x6_1 : Int) := of_decide_eq_true (by first | (with_reducible assumption) | assumption)
              have q5 : x6_1 < (a0.size : Int) := of_decide_eq_true (by first | (with_reducible assumption) | assumption)
              have hx5 := bt_at a0 x6_1
              replace p5 := eq_true p5
              replace q5 := eq_true q5
              go_wp2
              go_roundg k1
              case measure => have := HK1.out; omega
              case rel => exact ⟨(wrap64 (x6_1 + 1)), (by first | rfl | (simp; done) | (simp [*]; done)), H', ⟨by have := HK1.out; omega⟩, by repeat (first | exact Drawn0.refl _ | apply Drawn0.step)⟩
            · rw [if_neg c6] at H
              have c6b0 : ((bt a0 x6_1) == 35) = false := beq_eq_false_iff_ne.mpr c6
              have c6b1 : ((bt a0 x6_1) != 35) = true := bne_iff_ne.mpr c6
              by_cases c8 : (bt a0 x6_1) = 46
              · rw [if_pos c8] at H
                have c8b0 : ((bt a0 x6_1) == 46) = true := beq_iff_eq.mpr c8
                have c8b1 : ((bt a0 x6_1) != 46) = false := bne_eq_false_iff_eq.mpr c8
                clear c8
                have H' := Aside0.mk H
                clear H
                have p5 : 0 ≤ (x6_1 : Int) := of_decide_eq_true (by first | (with_reducible assumption) | assumption)
                have q5 : x6_1 < (a0.size : Int) := of_decide_eq_true (by first | (with_reducible assumption) | assumption)
                have hx5 := bt_at a0 x6_1
                replace p5 := eq_true p5
                replace q5 := eq_true q5
                have p7 : 0 ≤ (x6_1 : Int) := of_decide_eq_true (by first | (with_reducible assumption) | assumption)
                have q7 : x6_1 < (a0.size : Int) := of_decide_eq_true (by first | (with_reducible assumption) | assumption)
                have hx7 := bt_at a0 x6_1
                replace p7 := eq_true p7
                replace q7 := eq_true q7
                go_wp2
                go_roundg k1
                case measure => have := HK1.out; omega
                case rel => exact ⟨(wrap64 (x6_1 + 1)), (by first | rfl | (simp; done) | (simp [*]; done)), H', ⟨by have := HK1.out; omega⟩, by repeat (first | exact Drawn0.refl _ | apply Drawn0.step)⟩
              · rw [if_neg c8] at H
                have c8b0 : ((bt a0 x6_1) == 46) = false := beq_eq_false_iff_ne.mpr c8
                have c8b1 : ((bt a0 x6_1) != 46) = true := bne_iff_ne.mpr c8
                obtain rfl := Option.some.inj H
                have p5 : 0 ≤ (x6_1 : Int) := of_decide_eq_true (by first | (with_reducible assumption) | assumption)
                have q5 : x6_1 < (a0.size : Int) := of_decide_eq_true (by first | (with_reducible assumption) | assumption)
                have hx5 := bt_at a0 x6_1
                replace p5 := eq_true p5
                replace q5 := eq_true q5
                have p7 : 0 ≤ (x6_1 : Int) := of_decide_eq_true (by first | (with_reducible assumption) | assumption)
                have q7 : x6_1 < (a0.size : Int) := of_decide_eq_true (by first | (with_reducible assumption) | assumption)
                have hx7 := bt_at a0 x6_1
                replace p7 := eq_true p7
                replace q7 := eq_true q7
                go_wp2
                go_ret
                exact ⟨by first | rfl | (simp; done) | (simp [*]; done), by repeat (first | exact Drawn0.refl _ | apply Drawn0.step)⟩
          · rw [if_neg c4] at H
            exact absurd H (by simp)
        · rw [if_neg c3] at H
          exact absurd H (by simp)
      · rw [if_neg c2] at H
        have c2b0 : decide (x6_1 < (a0.size : Int)) = false := decide_eq_false c2
        clear c2
        replace H := Option.bind_eq_some_iff.mp H
        obtain ⟨t104, A90, H⟩ := H
        replace H : (some t104) = some r := H
        have A9 := Aside0.mk A90
        clear A90
        obtain rfl := Option.some.inj H
        go_wp2_with (first | ((with_reducible refine gate_callee (f := 31) rfl ?_); refine goesL_ (some 22) rfl rfl Try.func31 (by kernel_rfl) rfl #[.int .i64 (a0.size : Int)] rfl (by (try simp only [List.map_toArray, List.map_cons, List.map_nil]); first | done | rfl | (simp only [List.length_drop, List.length_take]; rfl)) ?_; (with_reducible refine (impl_isRowLength.calls (a0.size : Int) t104 _ A9.out).mono ?_); rintro e w' ⟨rfl, ⟨nd, rfl⟩⟩; refine ⟨_, rfl, ?_⟩))
        go_ret
        exact ⟨by first | rfl | (simp; done) | (simp [*]; done), by repeat (first | exact Drawn0.refl _ | apply Drawn0.step)⟩

/-! ### slices_Repeat_int_int: function 45 (a contract of this repo) -/
/-- The first cells of a row of so many hold a number. -/
def slices_Repeat_int_int.Row (w : World) (g n k : Nat) (x : Int) : Prop := ∃ cur : Array Value, w.heap[g]? = some (.cells cur 3 (0, 0)) ∧ cur.size = n ∧ ∀ j, j < k → cur[j]? = some (.int .i64 x)
theorem slices_Repeat_int_int.copy (w : World) (g n k m : Nat) (x : Int) (a : Addr) (sl sc : Nat) (dc : Nat) (hk : k + m ≤ n) (hm : m = Nat.min sl (n - k)) (hR : slices_Repeat_int_int.Row w g n k x) (hs : ∀ j, j < m → w.cell? (a.add j) = some (.int .i64 x)) :
    ∃ w', (Builtin.copy_ #[26, 26] 3 #[.slice (some ⟨g, k, none⟩) (n - k) dc, .slice (some a) sl sc]).run Try.prog w = .ok (.int .i64 m) w' ∧ slices_Repeat_int_int.Row w' g n (k + m) x ∧ (∀ B, B ≤ g → Below B w w') := by
  obtain ⟨cur, hg, hn, hc⟩ := hR
  have hinfo : (Try.prog.info? 3).map (·.size) = some 1 := by
    have := info3
    cases h : Try.prog.info? 3 with
    | none => rw [h] at this; simp at this
    | some i => rw [h] at this; simp at this; simp [this.2.1]
  have h := run_copy_row (P := Try.prog) w 26 26 3 3 g k (n - k) dc a sl sc cur 3 (List.replicate m (.int .i64 x)) Try.underlying26 hinfo hg (by simpa using hm) (fun j v hj => by
    have hjm : j < m := by have := (List.getElem?_eq_some_iff.1 hj).1; simpa using this
    rw [hs j hjm]
    rw [List.getElem?_replicate, if_pos hjm] at hj
    exact hj) (by simp; omega) (fun v hv => by rw [List.eq_of_mem_replicate hv]; rfl)
  rw [List.length_replicate] at h
  refine ⟨_, h, ⟨_, setRow_heap w g cur _ 3 _ hg, ?_, fun j hj => ?_⟩, fun B hB => ?_⟩
  · simp; omega
  · simp only [List.getElem?_toArray]
    by_cases c : j < k
    · rw [List.append_assoc, List.getElem?_append_left (by simp; omega), List.getElem?_take, if_pos c]
      simpa using hc j c
    · rw [List.append_assoc, List.getElem?_append_right (by simp; omega), List.getElem?_append_left (by simp; omega), List.getElem?_replicate, if_pos (by simp; omega)]
  · exact below_setRow (Below.refl _ _) hB _
set_option maxHeartbeats 4000000 in
set_option maxRecDepth 100000 in
theorem slices_Repeat_int_int.one (A : Option Addr) (c : Nat) (x : Int) (n : Nat) (hn : 1 ≤ n ∧ n ≤ 1048576) (w : World) (hr : Kd.C (Kd.int .i64) w A 1 [x]) :
    Calls Try.prog 45 #[.slice A 1 c, .int .i64 n] w fun e w' => e = .returned (.slice (some ⟨w.heap.size, 0, none⟩) n n) ∧ slices_Repeat_int_int.Row w' w.heap.size n n x ∧ Below w.heap.size w w' := by
  have hneg : decide ((n : Int) < 0) = false := decide_eq_false (by omega)
  obtain ⟨ad, hA, hx⟩ := Kd.at_int hr 0 (by omega) (by omega)
  rw [show (0 : Int).toNat = 0 from rfl, Addr.add_zero', show rd [x] 0 = x from rfl] at hx
  subst hA
  clear hr
  obtain ⟨i0, hi, hz0, hz1, hz2⟩ := info_parts info3
  have hmk := run_makeSlice (P := Try.prog) (w := w) 26 3 i0 (.int .i64 0) Try.underlying26 hi hz0 .i64 .i64 (n : Int) (n : Int) (by omega) (Int.le_refl _) (by rw [hz1]; omega) (by rw [hz2]; omega) (by omega)
  rw [Int.toNat_natCast, hz1, Nat.mul_one] at hmk
  obtain ⟨w1, hw1⟩ : ∃ w1 : World, w1 = w.alloc (.cells (madeCells (Value.int .i64 0).cells n) 3) := ⟨_, rfl⟩
  rw [← hw1] at hmk
  have hR1 : slices_Repeat_int_int.Row w1 w.heap.size n 0 x := by
    rw [hw1]
    exact ⟨_, heap_alloc_new _ _, by rw [size_madeCells], fun j hj => by omega⟩
  have hB1 : Below w.heap.size w w1 := by rw [hw1]; exact below_alloc (Below.refl _ _) _
  have hx1 : w1.cell? ad = some (.int .i64 x) := (hB1.cell (World.block_lt_of_cell? _ _ hx)).trans hx
  obtain ⟨w2, hcp, hR2, hB2⟩ := slices_Repeat_int_int.copy w1 w.heap.size n 0 1 x ad 1 c n (by omega) (Nat.min_eq_left (by omega)).symm hR1 (fun j hj => by
    obtain rfl : j = 0 := by omega
    rw [Addr.add_zero']; exact hx1)
  rw [Nat.sub_zero] at hcp
  have HB := Aside0.mk (hB1.trans (hB2 _ (Nat.le_refl _)))
  have HR := Aside0.mk hR2
  clear hR1 hB1 hx1 hR2 hB2 hx hw1 hi hz0 hz1 hz2
  go_enter Try.func45, Try.ntmps45
  go_wp2_with (go_at_call 51; refine (Try.bits_Mul 1 n (by omega) (by omega) _).mono ?_; rintro e w' ⟨rfl, hw⟩; cases hw.symm; rw [Nat.one_mul, Nat.div_eq_of_lt (by omega), Nat.mod_eq_of_lt (by omega)])
  clear hcp hmk
  rw [Nat.zero_add] at HR
  go_loopw [8] (fun k wr => ∃ q : Nat, 1 ≤ q ∧ q ≤ n ∧ k = .int .i64 q ∧ Aside0 (slices_Repeat_int_int.Row wr w.heap.size n q x) ∧ Aside0 (Below w.heap.size w wr)) (fun k _ => n - (intOf k).toNat)
  case atStart => exact ⟨1, by omega, by omega, rfl, HR, HB⟩
  case round =>
    clear HR HB
    obtain ⟨q, q1, qn, rfl, HR, HB⟩ := hrel
    by_cases hlt : q < n
    · obtain ⟨w2, hw2⟩ : ∃ w2 : World, wr.drew = w2 := ⟨_, rfl⟩
      have hR2 : slices_Repeat_int_int.Row w2 w.heap.size n q x := by rw [← hw2]; exact HR.out
      have hB2 : Below w.heap.size w w2 := by rw [← hw2]; exact below_drew1 HB.out
      obtain ⟨w3, hcp, hR3, hB3⟩ := slices_Repeat_int_int.copy w2 w.heap.size n q (Nat.min q (n - q)) x ⟨w.heap.size, 0, none⟩ q n (n - q) (by have h : Nat.min q (n - q) ≤ n - q := Nat.min_le_right q (n - q); omega) rfl hR2 (fun j hj => by
        obtain ⟨cur, h1, h2, h3⟩ := hR2
        have hjq : j < q := Nat.lt_of_lt_of_le hj (Nat.min_le_left _ _)
        rw [Addr.add_lit]
        simp only [World.cell?, h1]
        simpa using h3 j hjq)
      have HR3 := Aside0.mk hR3
      have HB3 := Aside0.mk (hB2.trans (hB3 _ (Nat.le_refl _)))
      have HM := Aside0.mk (show 1 ≤ Nat.min q (n - q) ∧ q + Nat.min q (n - q) ≤ n by
        have h : Nat.min q (n - q) ≤ n - q := Nat.min_le_right q (n - q)
        exact ⟨Nat.le_min.2 ⟨q1, by omega⟩, by omega⟩)
      have HCP := Aside0.mk hcp
      generalize Nat.min q (n - q) = m at HCP HR3 HM
      clear hcp hR3 hB3 hR2 hB2 HR HB
      have hcp1 := HCP.out
      rw [← hw2] at hcp1
      have hcp2 : (Builtin.copy_ #[26, 26] 3 #[.slice (if n = q then some ⟨w.heap.size, 0, none⟩ else some ⟨w.heap.size, q, none⟩) (n - q) (n - q), .slice (some ⟨w.heap.size, 0, none⟩) q n]).run Try.prog wr.drew = .ok (.int .i64 m) w3 := by rw [if_neg (by omega)]; exact hcp1
      clear hw2
      have hm := HM.out
      go_wp2
      go_region
      all_goals go_wp2
      go_roundw
      case rel => exact ⟨q + m, by omega, by omega, by go_num, HR3, HB3⟩
      case measure => simp [intOf]; omega
    · obtain rfl : q = n := by omega
      clear hlt
      go_wp2
      go_ret
      exact ⟨rfl, HR.out, HB.out⟩
/-- At one number, and a count of no less than 1. -/
def slices_Repeat_int_int.f (l0 : List Int) (a1 : Int) : Option (List Int) := if l0.length = 1 ∧ 1 ≤ a1 ∧ a1 ≤ 1048576 then some (List.replicate a1.toNat (rd l0 0)) else none
theorem slices_Repeat_int_int.calls (A0 : Option Addr) (c0 : Nat) (l0 : List Int) (a1 : Int) (r : List Int) (w : World) (hr0 : Kd.C (Kd.int .i64) w A0 l0.length l0) (hc0 : l0.length ≤ c0) (h : slices_Repeat_int_int.f l0 a1 = some r) :
    Calls Try.prog 45 #[.slice A0 l0.length c0, .int .i64 a1] w fun e w' => ∃ v0_ : Value, e = .returned (v0_) ∧ Kd.R (Kd.int .i64) 3 w' w.heap.size (fun _ => True) v0_ r ∧ Below w.heap.size w w' := by
  unfold slices_Repeat_int_int.f at h
  split at h
  · rename_i c
    obtain rfl := Option.some.inj h
    obtain ⟨n, rfl⟩ := Int.eq_ofNat_of_zero_le (show 0 ≤ a1 by omega)
    match l0, c.1 with
    | [x], _ =>
      refine (slices_Repeat_int_int.one A0 c0 x n (by omega) w hr0).mono ?_
      rintro e w' ⟨rfl, ⟨cur, h1, h2, h3⟩, hb⟩
      refine ⟨_, rfl, ?_, hb⟩
      have henc : encs (Value.int .i64) (List.replicate n (rd [x] 0)) = List.replicate n (Value.int .i64 x) := by simp [encs, rd]
      rw [Int.toNat_natCast]
      refine Kd.R_of_own (enc := Value.int .i64) ?_ (fun _ _ => trivial)
      rw [henc]
      refine ⟨by simp, .inr ⟨w.heap.size, n, cur, by simp, Nat.le_refl _, h1, by simp, by simp [maxLen]; omega, by omega, ?_⟩⟩
      refine List.ext_getElem? (fun j => ?_)
      by_cases hj : j < n
      · rw [List.getElem?_take, if_pos (by simp; omega)]
        have z := h3 j hj
        rw [← Array.getElem?_toList] at z
        rw [z]
        simp [hj, rd]
      · rw [List.getElem?_eq_none (by simp; omega), List.getElem?_eq_none (by simp; omega)]
  · cases h

/-! ### impl_free: function 27 -/
def impl_free.f (a0 : ByteArray) : Option (List Int) := (slices_Repeat_int_int.f (([(-1)] : List Int)) (a0.size : Int)).bind fun t108 => (some t108)
set_option maxHeartbeats 8000000 in
set_option maxRecDepth 100000 in
theorem impl_free.calls (a0 : ByteArray) (r : List Int) (w : World) (h : impl_free.f a0 = some r) :
    Calls Try.prog 27 #[.string a0] w fun e w' => ∃ v0_ : Value, e = .returned (v0_) ∧ Kd.R (Kd.int .i64) 3 w' w.heap.size (fun _ => True) v0_ r ∧ Below w.heap.size w w' := by
  have HB := Aside0.mk (Below.refl w.heap.size w)
  have H : ((slices_Repeat_int_int.f (([(-1)] : List Int)) (a0.size : Int)).bind fun t108 => (some t108)) = some r := h
  clear h
  obtain ⟨y105, hy105⟩ : ∃ y_ : List Int, y_ = (([(-1)] : List Int)) := ⟨_, rfl⟩
  replace H : ((slices_Repeat_int_int.f y105 (a0.size : Int)).bind fun t108 => (some t108)) = some r := by first | (rw [hy105]; with_reducible exact H) | (have H2_ := (Option.bind_some _ _).symm.trans H; rw [hy105]; with_reducible exact H2_) | (have H2_ := (Option.bind_some _ _).symm.trans H; with_reducible exact H2_) | with_reducible exact H | (rw [hy105]; exact H) | exact H
  have Ny105 := Aside0.mk hy105
  clear hy105
  replace H := Option.bind_eq_some_iff.mp H
  obtain ⟨t108, A20, H⟩ := H
  replace H : (some t108) = some r := H
  have A2 := Aside0.mk A20
  clear A20
  obtain rfl := Option.some.inj H
  go_enter Try.func27, Try.ntmps27
  go_wp2_with (first | ((with_reducible refine gate_dst (N := 3) rfl ?_); refine Kd.R_lit (Kd.int .i64) _ 3 ?hg (N := 3) ?hd (xs := ([(-1)] : List Int)) (inner := [.int .i64 (-1)]) (ok := fun _ => True) (okp := fun _ => True) ?hr ?hp (fun _ hk => hk) trivial (Below.refl _ _) (Nat.le_refl _) (by simp) ?_; (case hd => rfl); (case hg => rfl); (case hr => first | (go_simp; done) | (go_simp; rfl)); (case hp => exact (Reps.one (show Kd.M (Kd.int .i64) _ _ _ (-1) [.int .i64 (-1)] from rfl) (Reps.none _ _))); intro v106 w3 ho4 hb hg_ hnew_; clear hg_ hnew_; (first | rw [← Ny105.out] at ho4 | (simp only [Int.reduceToNat] at ho4; rw [← Ny105.out] at ho4)); have n0_ := Aside0.mk (Kd.R_lower ho4 (below_size (by repeat (first | (with_reducible first | exact HB.out | apply below_alloc | apply pw_below_drewN | apply below_drew1) | exact HB.out)))); have n1_ := Aside0.mk (below_step (by repeat (first | (with_reducible first | exact HB.out | apply below_alloc | apply pw_below_drewN | apply below_drew1) | exact HB.out)) hb); clear HB; have HO107 := n0_; have HB := n1_; clear n0_ n1_; clear hb ho4; obtain ⟨Ao5, co5, eo5⟩ := Kd.R_slice HO107.out; subst eo5) | ((with_reducible refine gate_callee (f := 45) rfl ?_); refine goesL_ (some 6) rfl rfl Try.func45 (by kernel_rfl) rfl #[.slice Ao5 y105.length co5, .int .i64 (a0.size : Int)] rfl (by (try simp only [List.map_toArray, List.map_cons, List.map_nil]); first | done | rfl | (simp only [List.length_drop, List.length_take]; rfl)) ?_; (with_reducible refine (slices_Repeat_int_int.calls _ _ y105 (a0.size : Int) t108 _ ?side1 ?side2 A2.out).mono ?_); (case side1 => repeat (first | exact (Kd.R_reads' HO107.out).2.2 | (with_reducible refine Kd.C_alloc ?_ _) | (with_reducible refine Kd.C_drewN ?_ _) | (with_reducible refine Kd.C_drew ?_))); (case side2 => exact (Kd.R_reads' HO107.out).2.1); rintro e w6 ⟨v109, rfl, ho0, hb⟩; refine ⟨_, rfl, ?_⟩; have n0_ := Aside0.mk (Kd.R_elder' (by (with_reducible repeat (first | apply Kd.R_alloc | apply Kd.R_drewN | apply Kd.R_drew)); exact HO107.out) (Kd.R_base ho0) hb); have n1_ := Aside0.mk (Kd.R_lower (Kd.R_new' ho0 (Kd.R_lt (by (with_reducible repeat (first | apply Kd.R_alloc | apply Kd.R_drewN | apply Kd.R_drew)); exact HO107.out))) (below_size (by repeat (first | (with_reducible first | exact HB.out | apply below_alloc | apply pw_below_drewN | apply below_drew1) | exact HB.out)))); have n2_ := Aside0.mk (below_step (by repeat (first | (with_reducible first | exact HB.out | apply below_alloc | apply pw_below_drewN | apply below_drew1) | exact HB.out)) hb); clear HO107; clear HB; have HO107 := n0_; have HO110 := n1_; have HB := n2_; clear n0_ n1_ n2_; (try clear hb); (try clear hb2); (try clear hk); (try clear hi); (try clear ho0)))
  go_ret
  exact ⟨_, by first | rfl | (simp [errW_none, errW_some] <;> rfl) | (simp [*, errW_none, errW_some] <;> rfl), by (with_reducible repeat (first | apply Kd.R_alloc | apply Kd.R_drewN | apply Kd.R_drew)); exact Kd.R_mono HO110.out (fun _ hk => trivial), by repeat (first | (with_reducible first | exact HB.out | apply below_alloc | apply pw_below_drewN | apply below_drew1) | exact HB.out)⟩

/-! ### impl_isRing: function 34 -/
def impl_isRing.f (a0 : Int) (a1 : Bool) : Option (Bool) := if a1 = true then (some (decide (a0 > 2))) else (some false)
set_option maxHeartbeats 8000000 in
set_option maxRecDepth 100000 in
theorem impl_isRing.calls (a0 : Int) (a1 : Bool) (r : Bool) (w : World) (h : impl_isRing.f a0 a1 = some r) :
    Calls Try.prog 34 #[.int .i64 a0, .bool a1] w fun e w' => e = .returned (.bool r) ∧ Drawn0 w w' := by
  have H : (if a1 = true then (some (decide (a0 > 2))) else (some false)) = some r := h
  clear h
  by_cases c3 : a1 = true
  · subst c3
    have H1 : (some (decide (a0 > 2))) = some r := by rw [if_pos rfl] at H; exact H
    clear H
    have H := H1
    clear H1
    obtain rfl := Option.some.inj H
    go_enter Try.func34, Try.ntmps34
    go_wp2
    go_ret
    exact ⟨by first | rfl | (simp; done) | (simp [*]; done), by repeat (first | exact Drawn0.refl _ | apply Drawn0.step)⟩
  · replace c3 := Bool.eq_false_iff.mpr c3
    subst c3
    have H1 : (some false) = some r := by rw [if_neg (show ¬ (false = true) by decide)] at H; exact H
    clear H
    have H := H1
    clear H1
    obtain rfl := Option.some.inj H
    go_enter Try.func34, Try.ntmps34
    go_wp2
    go_ret
    exact ⟨by first | rfl | (simp; done) | (simp [*]; done), by repeat (first | exact Drawn0.refl _ | apply Drawn0.step)⟩

end Go.Proofs.Ytlmenkhklpfefaa.MR
