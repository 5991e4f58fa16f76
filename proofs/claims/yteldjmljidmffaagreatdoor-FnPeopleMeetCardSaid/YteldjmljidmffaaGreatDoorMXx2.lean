-- The machine side, written by this repo's program mp.py; contracts marked as of this repo are this session's own.
import Derived.Test.YteldjmljidmffaaGreatDoorMXx0
import Derived.Test.YteldjmljidmffaaGreatDoorMXx1
namespace Go.Proofs.YteldjmljidmffaaGreatDoor.MX
open Go.RowKit Go.Proofs.YteldjmljidmffaaGreatDoorW.PrintWords Go.Proofs.YteldjmljidmffaaGreatDoorW.PrintLast Go.Proofs.YteldjmljidmffaaGreatDoorW.PrintMore
attribute [local go_sem] max2_int min2_int max_two min_two max_three min_three max_four min_four   -- for this text's walks alone
set_option linter.unusedVariables false
set_option linter.unusedSimpArgs false

/-! ### spec_l1Cur_people: function 58 (a contract of this repo) -/
/-- The lists that are no people, one of which is drawn at times. -/
def spec_l1Cur_people.rows : List (List Int) := [[], [0, 0], [-1, 2], [1001], List.replicate 61 0, [1000, 0, 1]]
/-- Drawn on up to twenty houses. -/
def spec_l1Cur_people.more (s0 : List Int) : Nat → List Int → Int → Int → Option (List Int × Int × Int)
  | 0, _, _, _ => none
  | d + 1, o, s1, s2 => if o.length < 20 then (spec_l1Cur_pick.f s0 s1 s2 3).bind fun b => spec_l1Cur_people.more s0 d (o ++ [b.1]) b.2.1 b.2.2 else some (o, s1, s2)
def spec_l1Cur_people.rest (s0 : List Int) (o : List Int) (v s1 s2 : Int) : Option (List Int × Int × Int) := if v = 0 then (spec_l1Cur_pick.f s0 s1 s2 6).bind fun q => if 0 ≤ q.1 ∧ q.1 < 6 then some (spec_l1Cur_people.rows.getD q.1.toNat [], q.2.1, q.2.2) else none else if v = 1 then spec_l1Cur_people.more s0 21 o s1 s2 else some (o, s1, s2)
def spec_l1Cur_people.f (k : Nat) (s0_0 : List Int) (s0_1 s0_2 : Int) : Option (List Int × Int × Int) := (spec_l1Cur_surePeople.f k s0_0 s0_1 s0_2).bind fun o => (spec_l1Cur_pick.f s0_0 o.2.1 o.2.2 16).bind fun p => spec_l1Cur_people.rest s0_0 o.1 p.1 p.2.1 p.2.2
/-- A region whose orders are all open: what holds whatever has come up. -/
theorem spec_l1Cur_people.any_inv {P : Program} {ops : Array Oper} {Q : Exit → Act → World → Prop} {Inv : Array Bool → Act → World → Prop} (n : Nat) (hn : ops.size = n)
    (size : ∀ l a w, Inv l a w → l.size = n)
    (step : ∀ l a w i, Inv l a w → i ∈ Region.ready .any ops l → wpOp P ops Q i (fun a' w' => Inv (l.setIfInBounds i true) a' w') a w)
    (stop : ∀ l a w, Inv l a w → Region.ready .any ops l = [] → Q .normal a w) :
    ∀ (fuel : Nat) (l : Array Bool) (a : Act) (w : World), (l.toList.filter (fun b => !b)).length ≤ fuel → Inv l a w → wpAny P .any ops Q fuel l a w := by
  have up : ∀ l i, i ∈ Region.ready .any ops l → l.size = n → i < l.size ∧ l.getD i true = false := fun l i hi hs => by
    obtain ⟨h1, h2⟩ := List.mem_filter.1 hi
    have h1 := List.mem_range.1 h1
    refine ⟨by omega, ?_⟩
    have h3 := (Bool.and_eq_true _ _ ▸ h2).1
    simpa using h3
  intro fuel
  induction fuel with
  | zero =>
    intro l a w hl hI
    have hr : Region.ready .any ops l = [] := by
      cases hc : Region.ready .any ops l with
      | nil => rfl
      | cons i is =>
        obtain ⟨h1, h2⟩ := up l i (by rw [hc]; simp) (size l a w hI)
        have h3 : false ∈ l.toList := by
          rw [Array.getD_eq_getD_getElem?, Array.getElem?_eq_getElem h1] at h2
          have h2 : l[i] = false := h2
          rw [← h2]
          simp
        have h4 : false ∈ l.toList.filter (fun b => !b) := List.mem_filter.2 ⟨h3, rfl⟩
        have := List.length_pos_of_mem h4
        omega
    exact ⟨hr, stop l a w hI hr⟩
  | succ fuel ih =>
    intro l a w hl hI
    refine ⟨fun hr => stop l a w hI hr, fun i hi => wpOp_mono (fun a' w' h' => ih _ a' w' ?_ h') (step l a w i hI hi)⟩
    obtain ⟨h1, h2⟩ := up l i hi (size l a w hI)
    have key : ∀ (L : List Bool) (j : Nat) (hj : j < L.length), L[j] = false → ((L.set j true).filter (fun b => !b)).length + 1 = (L.filter (fun b => !b)).length := by
      intro L
      induction L with
      | nil => intro j hj; simp at hj
      | cons x L ihL =>
        intro j hj hx
        cases j with
        | zero =>
          have hx : x = false := hx
          subst hx
          simp
        | succ j =>
          have := ihL j (by simpa using hj) (by simpa using hx)
          simp only [List.set_cons_succ, List.filter_cons]
          cases x <;> simp <;> omega
    have h3 := key l.toList i (by simpa using h1) (by
      rw [Array.getD_eq_getD_getElem?, Array.getElem?_eq_getElem h1] at h2
      simpa using h2)
    rw [Array.toList_setIfInBounds]
    omega
/-- An operation that comes to a value. -/
theorem spec_l1Cur_people.op_event {P : Program} {ops : Array Oper} {Q : Exit → Act → World → Prop} {K : Act → World → Prop} {i : Nat} {o : Oper} {a : Act} {w w' : World} {v : Value} (hi : ops[i]? = some o) (hg : o.guard = none) (hrun : (execOp a.eval o).run P w = .ok (.value v) w') (hK : K (a.put o.dst v) w') : wpOp P ops Q i K a w := by
  unfold wpOp
  rw [hi]
  simp only [Region.wanted, hg, if_true]
  refine .inl ?_
  unfold Oper.wp
  rw [hrun]
  exact hK
theorem spec_l1Cur_people.op_call {P : Program} {ops : Array Oper} {Q : Exit → Act → World → Prop} {K : Act → World → Prop} {i : Nat} {o : Oper} {a : Act} {w : World} (hi : ops[i]? = some o) (h : if Region.wanted o (yielded ops a.tmps) = true then Oper.wp P o a w K Q else K (a.put o.dst undef) w) : wpOp P ops Q i K a w := by
  unfold wpOp
  rw [hi]
  by_cases hw : Region.wanted o (yielded ops a.tmps) = true
  · rw [if_pos hw] at h
    simp only [hw, if_true]
    exact .inl h
  · rw [if_neg hw] at h
    simp only [if_neg hw]
    exact h
/-- A row of whole numbers of the call's own, apart from the cursor. -/
def spec_l1Cur_people.RW (W : World) (B g : Nat) (v : Value) (xs : List Int) : Prop := Kd.R (Kd.int .i64) 3 W B (fun k => k ≠ g) v xs
theorem spec_l1Cur_people.RW.alloc {W : World} {B g : Nat} {v : Value} {xs : List Int} (h : spec_l1Cur_people.RW W B g v xs) (o : Obj) : spec_l1Cur_people.RW (W.alloc o) B g v xs := Kd.R_below h (below_alloc (Below.refl _ _) o)
theorem spec_l1Cur_people.RW.keep {W W' : World} {B g : Nat} {v : Value} {xs : List Int} (h : spec_l1Cur_people.RW W B g v xs) (hk : KeepBut W W' g none) : spec_l1Cur_people.RW W' B g v xs := Kd.R_keep h hk (fun _ hk => hk)
theorem spec_l1Cur_people.RW.of {W : World} {B g : Nat} {v : Value} {xs : List Int} (h : Kd.R (Kd.int .i64) 3 W B (fun _ => True) v xs) (hg : g < B) : spec_l1Cur_people.RW W B g v xs := Kd.R_mono (Kd.R_bound h) (fun k hk => by have := hk.2.1; omega)
theorem spec_l1Cur_people.keep_low {w W W' : World} {g : Nat} (h : KeepBut w W g none) (hb : Below w.heap.size W W') : KeepBut w W' g none := ⟨Nat.le_trans h.1 hb.size, fun i hi hg hn => (hb.block i hi).trans (h.2 i hi hg hn)⟩
theorem spec_l1Cur_people.is_low {w0 w W W' : World} {g : Nat} {s0 : List Int} {s1 s2 : Int} (h : IsS62 w0 W g s0 s1 s2) (hb : Below w.heap.size W W') (hg : g < w.heap.size) : IsS62 w0 W' g s0 s1 s2 := by
  obtain ⟨A0, c0, h1, h2⟩ := h
  exact ⟨A0, c0, (hb.block g hg).trans h1, h2⟩
theorem spec_l1Cur_people.RW.lit {W : World} {B g n : Nat} {X : Array Value} {xs : List Int} (hB : B ≤ W.heap.size) (hg : g < W.heap.size) (hX : X = (encs (Value.int .i64) xs).toArray) (hn : n = xs.length := by rfl) (hm : xs.length ≤ 1000 := by decide) : spec_l1Cur_people.RW (W.alloc (.cells X 3)) B g (.slice (some ⟨W.heap.size, 0, none⟩) n n) xs := by
  subst hX
  subst hn
  refine ⟨fun k hk => ?_, ?_⟩
  · have : W.heap.size = k := by simpa [Value.ownBlock] using hk
    omega
  · exact OwnRow.lit W B (Kd.reps_scalar xs) hB (by omega)
theorem spec_l1Cur_people.made_eq (m : Nat) : madeCells #[Value.int .i64 0] m = (encs (Value.int .i64) (List.replicate m 0)).toArray := by
  refine Array.toList_inj.1 (List.ext_getElem ?_ (fun i h1 h2 => ?_))
  · simp [encs, madeCells]
  · simp [encs, madeCells, Nat.mod_one]
/-- The row that is drawn. -/
def spec_l1Cur_people.sel (q : Nat) (x10 x11 x12 x13 x14 : Value) : Value := match q with
  | 0 => .slice none 0 0
  | 1 => x10
  | 2 => x11
  | 3 => x12
  | 4 => x13
  | _ => x14
/-- What holds whatever has come up of the region: b.. tells what has. -/
structure spec_l1Cur_people.Inv (w0 w : World) (g q : Nat) (s0 : List Int) (u1 u2 n1 n2 : Int) (v3 : Value) (b0 b1 b2 b3 b4 b5 b6 b7 b8 b9 b10 : Bool) (x2 x10 x11 x12 x13 x14 x15 x16 x17 x18 x19 : Value) (W : World) : Prop where
  r0 : b0 = true → spec_l1Cur_people.RW W w.heap.size g x10 [0, 0]
  r1 : b1 = true → spec_l1Cur_people.RW W w.heap.size g x11 [-1, 2]
  r2 : b2 = true → spec_l1Cur_people.RW W w.heap.size g x12 [1001]
  r3 : b3 = true → spec_l1Cur_people.RW W w.heap.size g x13 (List.replicate 61 0)
  r4 : b4 = true → spec_l1Cur_people.RW W w.heap.size g x14 [1000, 0, 1]
  o5 : b5 = true → ∃ p, x15 = .slice (some ⟨p, 0, none⟩) 6 6 ∧ p ≠ g ∧ W.heap[p]? = some (.cells #[.slice none 0 0, x10, x11, x12, x13, x14] 24 (0, 0)) ∧ (b8 = true → x18 = .pointer (some ⟨p, q, none⟩))
  c5 : b5 = true → b0 = true ∧ b1 = true ∧ b2 = true ∧ b3 = true ∧ b4 = true
  m6 : b6 = true → x16 = .pointer (some ⟨g, 0, none⟩)
  m7 : b7 = true → x17 = .int .i64 (q : Int) ∧ IsS62 w0 W g s0 n1 n2
  n7 : b7 = false → IsS62 w0 W g s0 u1 u2
  c8 : b8 = true → b5 = true ∧ b7 = true
  m9 : b9 = true → x19 = spec_l1Cur_people.sel q x10 x11 x12 x13 x14 ∧ b8 = true
  m10 : b10 = true → x2 = spec_l1Cur_people.sel q x10 x11 x12 x13 x14 ∧ b9 = true
  low : Below w0.heap.size w0 W
  keep : KeepBut w W g none
  here : g < W.heap.size

theorem spec_l1Cur_people.Inv.s0 {w0 w : World} {g q : Nat} {s0 : List Int} {u1 u2 n1 n2 : Int} {v3 : Value} {b0 b1 b2 b3 b4 b5 b6 b7 b8 b9 b10 : Bool} {x2 x10 x11 x12 x13 x14 x15 x16 x17 x18 x19 : Value} {W : World} (h : spec_l1Cur_people.Inv w0 w g q s0 u1 u2 n1 n2 v3 b0 b1 b2 b3 b4 b5 b6 b7 b8 b9 b10 x2 x10 x11 x12 x13 x14 x15 x16 x17 x18 x19 W) (hb : b0 = false) (hw : w.heap.size ≤ W.heap.size) : spec_l1Cur_people.Inv w0 w g q s0 u1 u2 n1 n2 v3 true b1 b2 b3 b4 b5 b6 b7 b8 b9 b10 x2 (.slice (some ⟨W.heap.size, 0, none⟩) 2 2) x11 x12 x13 x14 x15 x16 x17 x18 x19 (W.alloc (.cells #[.int .i64 0, .int .i64 0] 3)) := by
  have h5 : b5 = false := by
    cases e : b5 with
    | false => rfl
    | true => exact absurd (h.c5 e).1 (by rw [hb]; exact Bool.false_ne_true)
  have hg := h.here
  subst h5
  exact ⟨fun _ => spec_l1Cur_people.RW.lit hw hg (by rfl), fun e => (h.r1 e).alloc _, fun e => (h.r2 e).alloc _, fun e => (h.r3 e).alloc _, fun e => (h.r4 e).alloc _, fun e => absurd e Bool.false_ne_true, fun e => absurd e Bool.false_ne_true, h.m6, fun e => ⟨(h.m7 e).1, (h.m7 e).2.alloc _⟩, fun e => (h.n7 e).alloc _, h.c8, fun e => absurd (h.c8 (h.m9 e).2).1 Bool.false_ne_true, fun e => absurd (h.c8 (h.m9 (h.m10 e).2).2).1 Bool.false_ne_true, below_alloc h.low _, keep_alloc h.keep _, by simp; omega⟩
theorem spec_l1Cur_people.Inv.s1 {w0 w : World} {g q : Nat} {s0 : List Int} {u1 u2 n1 n2 : Int} {v3 : Value} {b0 b1 b2 b3 b4 b5 b6 b7 b8 b9 b10 : Bool} {x2 x10 x11 x12 x13 x14 x15 x16 x17 x18 x19 : Value} {W : World} (h : spec_l1Cur_people.Inv w0 w g q s0 u1 u2 n1 n2 v3 b0 b1 b2 b3 b4 b5 b6 b7 b8 b9 b10 x2 x10 x11 x12 x13 x14 x15 x16 x17 x18 x19 W) (hb : b1 = false) (hw : w.heap.size ≤ W.heap.size) : spec_l1Cur_people.Inv w0 w g q s0 u1 u2 n1 n2 v3 b0 true b2 b3 b4 b5 b6 b7 b8 b9 b10 x2 x10 (.slice (some ⟨W.heap.size, 0, none⟩) 2 2) x12 x13 x14 x15 x16 x17 x18 x19 (W.alloc (.cells #[.int .i64 (-1), .int .i64 2] 3)) := by
  have h5 : b5 = false := by
    cases e : b5 with
    | false => rfl
    | true => exact absurd (h.c5 e).2.1 (by rw [hb]; exact Bool.false_ne_true)
  have hg := h.here
  subst h5
  exact ⟨fun e => (h.r0 e).alloc _, fun _ => spec_l1Cur_people.RW.lit hw hg (by rfl), fun e => (h.r2 e).alloc _, fun e => (h.r3 e).alloc _, fun e => (h.r4 e).alloc _, fun e => absurd e Bool.false_ne_true, fun e => absurd e Bool.false_ne_true, h.m6, fun e => ⟨(h.m7 e).1, (h.m7 e).2.alloc _⟩, fun e => (h.n7 e).alloc _, h.c8, fun e => absurd (h.c8 (h.m9 e).2).1 Bool.false_ne_true, fun e => absurd (h.c8 (h.m9 (h.m10 e).2).2).1 Bool.false_ne_true, below_alloc h.low _, keep_alloc h.keep _, by simp; omega⟩
theorem spec_l1Cur_people.Inv.s2 {w0 w : World} {g q : Nat} {s0 : List Int} {u1 u2 n1 n2 : Int} {v3 : Value} {b0 b1 b2 b3 b4 b5 b6 b7 b8 b9 b10 : Bool} {x2 x10 x11 x12 x13 x14 x15 x16 x17 x18 x19 : Value} {W : World} (h : spec_l1Cur_people.Inv w0 w g q s0 u1 u2 n1 n2 v3 b0 b1 b2 b3 b4 b5 b6 b7 b8 b9 b10 x2 x10 x11 x12 x13 x14 x15 x16 x17 x18 x19 W) (hb : b2 = false) (hw : w.heap.size ≤ W.heap.size) : spec_l1Cur_people.Inv w0 w g q s0 u1 u2 n1 n2 v3 b0 b1 true b3 b4 b5 b6 b7 b8 b9 b10 x2 x10 x11 (.slice (some ⟨W.heap.size, 0, none⟩) 1 1) x13 x14 x15 x16 x17 x18 x19 (W.alloc (.cells #[.int .i64 1001] 3)) := by
  have h5 : b5 = false := by
    cases e : b5 with
    | false => rfl
    | true => exact absurd (h.c5 e).2.2.1 (by rw [hb]; exact Bool.false_ne_true)
  have hg := h.here
  subst h5
  exact ⟨fun e => (h.r0 e).alloc _, fun e => (h.r1 e).alloc _, fun _ => spec_l1Cur_people.RW.lit hw hg (by rfl), fun e => (h.r3 e).alloc _, fun e => (h.r4 e).alloc _, fun e => absurd e Bool.false_ne_true, fun e => absurd e Bool.false_ne_true, h.m6, fun e => ⟨(h.m7 e).1, (h.m7 e).2.alloc _⟩, fun e => (h.n7 e).alloc _, h.c8, fun e => absurd (h.c8 (h.m9 e).2).1 Bool.false_ne_true, fun e => absurd (h.c8 (h.m9 (h.m10 e).2).2).1 Bool.false_ne_true, below_alloc h.low _, keep_alloc h.keep _, by simp; omega⟩
theorem spec_l1Cur_people.Inv.s3 {w0 w : World} {g q : Nat} {s0 : List Int} {u1 u2 n1 n2 : Int} {v3 : Value} {b0 b1 b2 b3 b4 b5 b6 b7 b8 b9 b10 : Bool} {x2 x10 x11 x12 x13 x14 x15 x16 x17 x18 x19 : Value} {W : World} (h : spec_l1Cur_people.Inv w0 w g q s0 u1 u2 n1 n2 v3 b0 b1 b2 b3 b4 b5 b6 b7 b8 b9 b10 x2 x10 x11 x12 x13 x14 x15 x16 x17 x18 x19 W) (hb : b3 = false) (hw : w.heap.size ≤ W.heap.size) : spec_l1Cur_people.Inv w0 w g q s0 u1 u2 n1 n2 v3 b0 b1 b2 true b4 b5 b6 b7 b8 b9 b10 x2 x10 x11 x12 (.slice (some ⟨W.heap.size, 0, none⟩) 61 61) x14 x15 x16 x17 x18 x19 (W.alloc (.cells (madeCells #[Value.int .i64 0] 61) 3)) := by
  have h5 : b5 = false := by
    cases e : b5 with
    | false => rfl
    | true => exact absurd (h.c5 e).2.2.2.1 (by rw [hb]; exact Bool.false_ne_true)
  have hg := h.here
  subst h5
  exact ⟨fun e => (h.r0 e).alloc _, fun e => (h.r1 e).alloc _, fun e => (h.r2 e).alloc _, fun _ => spec_l1Cur_people.RW.lit hw hg (by exact spec_l1Cur_people.made_eq 61), fun e => (h.r4 e).alloc _, fun e => absurd e Bool.false_ne_true, fun e => absurd e Bool.false_ne_true, h.m6, fun e => ⟨(h.m7 e).1, (h.m7 e).2.alloc _⟩, fun e => (h.n7 e).alloc _, h.c8, fun e => absurd (h.c8 (h.m9 e).2).1 Bool.false_ne_true, fun e => absurd (h.c8 (h.m9 (h.m10 e).2).2).1 Bool.false_ne_true, below_alloc h.low _, keep_alloc h.keep _, by simp; omega⟩
theorem spec_l1Cur_people.Inv.s4 {w0 w : World} {g q : Nat} {s0 : List Int} {u1 u2 n1 n2 : Int} {v3 : Value} {b0 b1 b2 b3 b4 b5 b6 b7 b8 b9 b10 : Bool} {x2 x10 x11 x12 x13 x14 x15 x16 x17 x18 x19 : Value} {W : World} (h : spec_l1Cur_people.Inv w0 w g q s0 u1 u2 n1 n2 v3 b0 b1 b2 b3 b4 b5 b6 b7 b8 b9 b10 x2 x10 x11 x12 x13 x14 x15 x16 x17 x18 x19 W) (hb : b4 = false) (hw : w.heap.size ≤ W.heap.size) : spec_l1Cur_people.Inv w0 w g q s0 u1 u2 n1 n2 v3 b0 b1 b2 b3 true b5 b6 b7 b8 b9 b10 x2 x10 x11 x12 x13 (.slice (some ⟨W.heap.size, 0, none⟩) 3 3) x15 x16 x17 x18 x19 (W.alloc (.cells #[.int .i64 1000, .int .i64 0, .int .i64 1] 3)) := by
  have h5 : b5 = false := by
    cases e : b5 with
    | false => rfl
    | true => exact absurd (h.c5 e).2.2.2.2 (by rw [hb]; exact Bool.false_ne_true)
  have hg := h.here
  subst h5
  exact ⟨fun e => (h.r0 e).alloc _, fun e => (h.r1 e).alloc _, fun e => (h.r2 e).alloc _, fun e => (h.r3 e).alloc _, fun _ => spec_l1Cur_people.RW.lit hw hg (by rfl), fun e => absurd e Bool.false_ne_true, fun e => absurd e Bool.false_ne_true, h.m6, fun e => ⟨(h.m7 e).1, (h.m7 e).2.alloc _⟩, fun e => (h.n7 e).alloc _, h.c8, fun e => absurd (h.c8 (h.m9 e).2).1 Bool.false_ne_true, fun e => absurd (h.c8 (h.m9 (h.m10 e).2).2).1 Bool.false_ne_true, below_alloc h.low _, keep_alloc h.keep _, by simp; omega⟩

theorem spec_l1Cur_people.sel_cell {W : World} {p q : Nat} {x10 x11 x12 x13 x14 : Value} {T : TypeId} (h : W.heap[p]? = some (.cells #[.slice none 0 0, x10, x11, x12, x13, x14] T (0, 0))) (hq : q < 6) : W.cell? ⟨p, q, none⟩ = some (spec_l1Cur_people.sel q x10 x11 x12 x13 x14) := by
  have e : W.cell? ⟨p, q, none⟩ = (#[Value.slice none 0 0, x10, x11, x12, x13, x14])[q]? := by simp only [World.cell?, h]; rfl
  rw [e]
  rcases (show q = 0 ∨ q = 1 ∨ q = 2 ∨ q = 3 ∨ q = 4 ∨ q = 5 by omega) with rfl | rfl | rfl | rfl | rfl | rfl <;> rfl
theorem spec_l1Cur_people.sel_row {W : World} {B g q : Nat} {x10 x11 x12 x13 x14 : Value} (hq : q < 6) (h0 : spec_l1Cur_people.RW W B g x10 [0, 0]) (h1 : spec_l1Cur_people.RW W B g x11 [-1, 2]) (h2 : spec_l1Cur_people.RW W B g x12 [1001]) (h3 : spec_l1Cur_people.RW W B g x13 (List.replicate 61 0)) (h4 : spec_l1Cur_people.RW W B g x14 [1000, 0, 1]) : spec_l1Cur_people.RW W B g (spec_l1Cur_people.sel q x10 x11 x12 x13 x14) (spec_l1Cur_people.rows.getD q []) := by
  rcases (show q = 0 ∨ q = 1 ∨ q = 2 ∨ q = 3 ∨ q = 4 ∨ q = 5 by omega) with rfl | rfl | rfl | rfl | rfl | rfl
  · exact Kd.R_nil _ _ _ _ _
  · exact h0
  · exact h1
  · exact h2
  · exact h3
  · exact h4
theorem spec_l1Cur_people.mono : ∀ a0 a1 a2 k, LeO (spec_l1Cur_people.f k a0 a1 a2) (spec_l1Cur_people.f (k + 1) a0 a1 a2) := fun a0 a1 a2 k => LeO.bind (spec_l1Cur_surePeople.mono _ _ _ k) (fun _ => LeO.refl _)
set_option maxHeartbeats 4000000 in
set_option maxRecDepth 100000 in
theorem spec_l1Cur_people.calls (k : Nat) (g : Nat) (s0_0 : List Int) (s0_1 : Int) (s0_2 : Int) (r1 : List Int) (r2 : Int) (r3 : Int) (w0 w : World) (hI : IsS62 w0 w g s0_0 s0_1 s0_2) (hB : Below w0.heap.size w0 w) (h : spec_l1Cur_people.f k s0_0 s0_1 s0_2 = some (r1, r2, r3)) :
    Calls Tryz.prog 58 #[.pointer (some ⟨g, 0, none⟩)] w fun e w' => ∃ v0_ : Value, e = .returned (v0_) ∧ Kd.R (Kd.int .i64) 3 w' w.heap.size (fun _ => True) v0_ r1 ∧ IsS62 w0 w' g s0_0 r2 r3 ∧ Below w0.heap.size w0 w' ∧ KeepBut w w' g none := by
  have HI := Aside0.mk hI
  have HB := Aside0.mk hB
  have HGS := Aside0.mk hI.lt
  clear hI hB
  unfold spec_l1Cur_people.f at h
  obtain ⟨⟨o, t1, t2⟩, h1, h⟩ := Option.bind_eq_some_iff.1 h
  obtain ⟨⟨v, u1, u2⟩, h2, h⟩ := Option.bind_eq_some_iff.1 h
  have H1 := Aside0.mk h1
  have H2 := Aside0.mk h2
  have H := Aside0.mk (show spec_l1Cur_people.rest s0_0 o v u1 u2 = some (r1, r2, r3) from h)
  clear h h1 h2
  by_cases c0 : v = 0
  · subst c0
    go_enter Tryz.func58, Tryz.ntmps58
    go_upto_region 4 with (first | (go_at_call 66; refine (spec_l1Cur_surePeople.calls k g s0_0 s0_1 s0_2 o t1 t2 w0 _ HI.out HB.out H1.out).mono ?_; rintro e w1 ⟨v3, rfl, hR, hI1, hB1, hK1⟩; have HR1 := Aside0.mk hR; have HI1 := Aside0.mk hI1; have HB1 := Aside0.mk hB1; have HK1 := Aside0.mk hK1; clear hR hI1 hB1 hK1) | (go_at_call 59; refine (spec_l1Cur_pick.calls g s0_0 t1 t2 16 _ u1 u2 w0 _ HI1.out HB1.out H2.out).mono ?_; rintro e w2 ⟨rfl, hI2, hB2, hK2⟩; have HI2 := Aside0.mk hI2; have HB2 := Aside0.mk hB2; have HK2 := Aside0.mk (HK1.out.trans hK2 (.inl rfl)); clear hI2 hB2 hK2))
    obtain ⟨⟨q', n1, n2⟩, h3, h4⟩ := Option.bind_eq_some_iff.1 (show (spec_l1Cur_pick.f s0_0 u1 u2 6).bind _ = some (r1, r2, r3) from by have z := H.out; unfold spec_l1Cur_people.rest at z; rw [if_pos rfl] at z; exact z)
    obtain ⟨⟨hq0, hq6⟩, h4⟩ := Option.ite_none_right_eq_some.1 h4
    obtain ⟨q, rfl⟩ : ∃ q : Nat, q' = (q : Int) := ⟨q'.toNat, by have hq0 : 0 ≤ q' := hq0; omega⟩
    have hq : q < 6 := by have hq6 : (q : Int) < 6 := hq6; omega
    have HQ := Aside0.mk h3
    obtain ⟨rfl, rfl, rfl⟩ : spec_l1Cur_people.rows.getD q [] = r1 ∧ n1 = r2 ∧ n2 = r3 := by simpa using h4
    clear h3 h4 hq0 hq6 H
    refine wp_region_any (by kernel_rfl) ?_
    refine spec_l1Cur_people.any_inv (Inv := fun l a W => ∃ (b0 b1 b2 b3 b4 b5 b6 b7 b8 b9 b10 : Bool) (x2 x10 x11 x12 x13 x14 x15 x16 x17 x18 x19 : Value), l = #[b0, b1, b2, b3, b4, b5, b6, b7, b8, b9, b10] ∧ a = ⟨#[.pointer (some ⟨g, 0, none⟩), undef, x2, v3, .pointer (some ⟨g, 0, none⟩), v3, .pointer (some ⟨g, 0, none⟩), .int .i64 0, .bool true, .bool true, x10, x11, x12, x13, x14, x15, x16, x17, x18, x19, undef, undef, undef, undef, undef, undef, undef, undef, undef, undef, undef], []⟩ ∧ spec_l1Cur_people.Inv w0 w g q s0_0 u1 u2 n1 n2 v3 b0 b1 b2 b3 b4 b5 b6 b7 b8 b9 b10 x2 x10 x11 x12 x13 x14 x15 x16 x17 x18 x19 W) 11 (by rfl) ?_ ?_ ?_ 11 _ _ _ (by decide) ?_
    · rintro l a W ⟨b0, b1, b2, b3, b4, b5, b6, b7, b8, b9, b10, x2, x10, x11, x12, x13, x14, x15, x16, x17, x18, x19, rfl, rfl, hI⟩
      rfl
    · rintro l a W i ⟨b0, b1, b2, b3, b4, b5, b6, b7, b8, b9, b10, x2, x10, x11, x12, x13, x14, x15, x16, x17, x18, x19, rfl, rfl, hI⟩ hi
      obtain ⟨hr, hc⟩ := List.mem_filter.1 hi
      have hr : i < 11 := List.mem_range.1 hr
      rcases (show i = 0 ∨ i = 1 ∨ i = 2 ∨ i = 3 ∨ i = 4 ∨ i = 5 ∨ i = 6 ∨ i = 7 ∨ i = 8 ∨ i = 9 ∨ i = 10 by omega) with rfl | rfl | rfl | rfl | rfl | rfl | rfl | rfl | rfl | rfl | rfl
      · simp [Region.binds] at hc
        refine spec_l1Cur_people.op_event (by rfl) rfl (v := .slice (some ⟨W.heap.size, 0, none⟩) 2 2) (w' := W.alloc (.cells #[.int .i64 0, .int .i64 0] 3)) (by go_simp) ?_
        exact ⟨true, b1, b2, b3, b4, b5, b6, b7, b8, b9, b10, x2, (.slice (some ⟨W.heap.size, 0, none⟩) 2 2), x11, x12, x13, x14, x15, x16, x17, x18, x19, rfl, rfl, hI.s0 hc hI.keep.1⟩
      · simp [Region.binds] at hc
        refine spec_l1Cur_people.op_event (by rfl) rfl (v := .slice (some ⟨W.heap.size, 0, none⟩) 2 2) (w' := W.alloc (.cells #[.int .i64 (-1), .int .i64 2] 3)) (by go_simp) ?_
        exact ⟨b0, true, b2, b3, b4, b5, b6, b7, b8, b9, b10, x2, x10, (.slice (some ⟨W.heap.size, 0, none⟩) 2 2), x12, x13, x14, x15, x16, x17, x18, x19, rfl, rfl, hI.s1 hc hI.keep.1⟩
      · simp [Region.binds] at hc
        refine spec_l1Cur_people.op_event (by rfl) rfl (v := .slice (some ⟨W.heap.size, 0, none⟩) 1 1) (w' := W.alloc (.cells #[.int .i64 1001] 3)) (by go_simp) ?_
        exact ⟨b0, b1, true, b3, b4, b5, b6, b7, b8, b9, b10, x2, x10, x11, (.slice (some ⟨W.heap.size, 0, none⟩) 1 1), x13, x14, x15, x16, x17, x18, x19, rfl, rfl, hI.s2 hc hI.keep.1⟩
      · simp [Region.binds] at hc
        refine spec_l1Cur_people.op_event (by rfl) rfl (v := .slice (some ⟨W.heap.size, 0, none⟩) 61 61) (w' := W.alloc (.cells (madeCells #[Value.int .i64 0] 61) 3)) (by have z := print_make_of (P := Tryz.prog) 24 3 (.int .i64 0) 8 Tryz.underlying24 info3 rfl (by decide) 61 (by decide) W; go_simp; rw [show Sem.run Tryz.prog (Instr.makeSlice 24 (Value.int .i64 61) (Value.int .i64 61)) W = _ from z]; rfl) ?_
        exact ⟨b0, b1, b2, true, b4, b5, b6, b7, b8, b9, b10, x2, x10, x11, x12, (.slice (some ⟨W.heap.size, 0, none⟩) 61 61), x14, x15, x16, x17, x18, x19, rfl, rfl, hI.s3 hc hI.keep.1⟩
      · simp [Region.binds] at hc
        refine spec_l1Cur_people.op_event (by rfl) rfl (v := .slice (some ⟨W.heap.size, 0, none⟩) 3 3) (w' := W.alloc (.cells #[.int .i64 1000, .int .i64 0, .int .i64 1] 3)) (by go_simp) ?_
        exact ⟨b0, b1, b2, b3, true, b5, b6, b7, b8, b9, b10, x2, x10, x11, x12, x13, (.slice (some ⟨W.heap.size, 0, none⟩) 3 3), x15, x16, x17, x18, x19, rfl, rfl, hI.s4 hc hI.keep.1⟩
      · simp [Region.binds] at hc
        obtain ⟨rfl, hc⟩ := hc
        obtain ⟨A10, c10, rfl⟩ := Kd.R_slice (hI.r0 hc.1)
        obtain ⟨A11, c11, rfl⟩ := Kd.R_slice (hI.r1 hc.2.1)
        obtain ⟨A12, c12, rfl⟩ := Kd.R_slice (hI.r2 hc.2.2.1)
        obtain ⟨A13, c13, rfl⟩ := Kd.R_slice (hI.r3 hc.2.2.2.1)
        obtain ⟨A14, c14, rfl⟩ := Kd.R_slice (hI.r4 hc.2.2.2.2)
        have hg := hI.here
        refine spec_l1Cur_people.op_event (by rfl) rfl (v := .slice (some ⟨W.heap.size, 0, none⟩) 6 6) (w' := W.alloc (.cells _ 24)) (by go_simp; try rfl) ?_
        exact ⟨b0, b1, b2, b3, b4, true, b6, b7, b8, b9, b10, x2, _, _, _, _, _, (.slice (some ⟨W.heap.size, 0, none⟩) 6 6), x16, x17, x18, x19, rfl, rfl, ⟨fun e => (hI.r0 e).alloc _, fun e => (hI.r1 e).alloc _, fun e => (hI.r2 e).alloc _, fun e => (hI.r3 e).alloc _, fun e => (hI.r4 e).alloc _, fun _ => ⟨W.heap.size, rfl, by omega, heap_alloc_new _ _, fun e => absurd (hI.c8 e).1 Bool.false_ne_true⟩, fun _ => hc, hI.m6, fun e => ⟨(hI.m7 e).1, (hI.m7 e).2.alloc _⟩, fun e => (hI.n7 e).alloc _, fun e => absurd (hI.c8 e).1 Bool.false_ne_true, hI.m9, hI.m10, below_alloc hI.low _, keep_alloc hI.keep _, by simp; omega⟩⟩
      · simp [Region.binds] at hc
        refine spec_l1Cur_people.op_event (by rfl) rfl (v := .pointer (some ⟨g, 0, none⟩)) (w' := W) (by go_simp) ?_
        exact ⟨b0, b1, b2, b3, b4, b5, true, b7, b8, b9, b10, x2, x10, x11, x12, x13, x14, x15, (.pointer (some ⟨g, 0, none⟩)), x17, x18, x19, rfl, rfl, ⟨hI.r0, hI.r1, hI.r2, hI.r3, hI.r4, hI.o5, hI.c5, fun _ => rfl, hI.m7, hI.n7, hI.c8, hI.m9, hI.m10, hI.low, hI.keep, hI.here⟩⟩
      · simp [Region.binds] at hc
        obtain ⟨rfl, h6⟩ := hc
        obtain rfl := hI.m6 h6
        refine spec_l1Cur_people.op_call (by rfl) ?_
        refine goes_ Tryz.func59 (by kernel_rfl) rfl #[.pointer (some ⟨g, 0, none⟩), .int .i64 6] (by rfl) rfl rfl (by simp only [List.map_toArray, List.map_cons, List.map_nil]; rfl) ?_
        refine (spec_l1Cur_pick.calls g s0_0 u1 u2 6 q n1 n2 w0 _ (hI.n7 rfl) hI.low HQ.out).mono ?_
        rintro e W' ⟨rfl, hI2, hB2, hK2⟩
        refine ⟨_, rfl, ?_⟩
        refine ⟨b0, b1, b2, b3, b4, b5, b6, true, b8, b9, b10, x2, x10, x11, x12, x13, x14, x15, (.pointer (some ⟨g, 0, none⟩)), (.int .i64 (q : Int)), x18, x19, rfl, rfl, ⟨fun e => (hI.r0 e).keep hK2, fun e => (hI.r1 e).keep hK2, fun e => (hI.r2 e).keep hK2, fun e => (hI.r3 e).keep hK2, fun e => (hI.r4 e).keep hK2, fun e => ?_, hI.c5, fun _ => rfl, fun _ => ⟨rfl, hI2⟩, fun e => absurd e.symm Bool.false_ne_true, fun e => absurd (hI.c8 e).2 Bool.false_ne_true, fun e => absurd (hI.c8 (hI.m9 e).2).2 Bool.false_ne_true, fun e => absurd (hI.c8 (hI.m9 (hI.m10 e).2).2).2 Bool.false_ne_true, hB2, hI.keep.trans hK2 (.inl rfl), Nat.lt_of_lt_of_le hI.here hK2.1⟩⟩
        obtain ⟨p, h1, h2, h3, h4⟩ := hI.o5 e
        exact ⟨p, h1, h2, (hK2.2 p (Array.getElem?_eq_some_iff.1 h3).1 h2 (by simp)).trans h3, h4⟩
      · simp [Region.binds] at hc
        obtain ⟨rfl, h5, h7⟩ := hc
        obtain ⟨p, rfl, hp, hh, -⟩ := hI.o5 h5
        obtain ⟨rfl, h7b⟩ := hI.m7 h7
        have d1 : decide ((0 : Int) ≤ (q : Int)) = true := decide_eq_true (by omega)
        have d2 : decide ((q : Int) < 6) = true := decide_eq_true (by omega)
        refine spec_l1Cur_people.op_event (by rfl) rfl (v := .pointer (some ⟨p, q, none⟩)) (w' := W) (by go_simp; intro h; omega) ?_
        exact ⟨b0, b1, b2, b3, b4, b5, b6, b7, true, b9, b10, x2, x10, x11, x12, x13, x14, (.slice (some ⟨p, 0, none⟩) 6 6), x16, (.int .i64 (q : Int)), (.pointer (some ⟨p, q, none⟩)), x19, rfl, rfl, ⟨hI.r0, hI.r1, hI.r2, hI.r3, hI.r4, fun _ => ⟨p, rfl, hp, hh, fun _ => rfl⟩, hI.c5, hI.m6, hI.m7, hI.n7, fun _ => ⟨h5, h7⟩, fun e => absurd (hI.m9 e).2 Bool.false_ne_true, fun e => absurd (hI.m9 (hI.m10 e).2).2 Bool.false_ne_true, hI.low, hI.keep, hI.here⟩⟩
      · simp [Region.binds] at hc
        obtain ⟨rfl, h8⟩ := hc
        obtain ⟨p, rfl, hp, hh, h18⟩ := hI.o5 (hI.c8 h8).1
        obtain rfl := h18 h8
        have hcell : W.cell? ⟨p, q, none⟩ = some (spec_l1Cur_people.sel q x10 x11 x12 x13 x14) := spec_l1Cur_people.sel_cell hh hq
        refine spec_l1Cur_people.op_event (by rfl) rfl (v := spec_l1Cur_people.sel q x10 x11 x12 x13 x14) (w' := W) (by go_simp) ?_
        exact ⟨b0, b1, b2, b3, b4, b5, b6, b7, b8, true, b10, x2, x10, x11, x12, x13, x14, (.slice (some ⟨p, 0, none⟩) 6 6), x16, x17, (.pointer (some ⟨p, q, none⟩)), (spec_l1Cur_people.sel q x10 x11 x12 x13 x14), rfl, rfl, ⟨hI.r0, hI.r1, hI.r2, hI.r3, hI.r4, hI.o5, hI.c5, hI.m6, hI.m7, hI.n7, hI.c8, fun _ => ⟨rfl, h8⟩, fun e => absurd (hI.m10 e).2 Bool.false_ne_true, hI.low, hI.keep, hI.here⟩⟩
      · simp [Region.binds] at hc
        have h9 : b9 = true := by simp_all
        refine spec_l1Cur_people.op_event (by rfl) rfl (v := x19) (w' := W) (by go_simp) ?_
        exact ⟨b0, b1, b2, b3, b4, b5, b6, b7, b8, b9, true, x19, x10, x11, x12, x13, x14, x15, x16, x17, x18, x19, rfl, rfl, ⟨hI.r0, hI.r1, hI.r2, hI.r3, hI.r4, hI.o5, hI.c5, hI.m6, hI.m7, hI.n7, hI.c8, hI.m9, fun _ => ⟨(hI.m9 h9).1, h9⟩, hI.low, hI.keep, hI.here⟩⟩
    · rintro l a W ⟨b0, b1, b2, b3, b4, b5, b6, b7, b8, b9, b10, x2, x10, x11, x12, x13, x14, x15, x16, x17, x18, x19, rfl, rfl, hI⟩ hr
      have key := fun i hi => List.filter_eq_nil_iff.1 hr i (List.mem_range.2 hi)
      obtain rfl : b0 = true := by simpa [Region.binds] using key 0 (by decide)
      obtain rfl : b1 = true := by simpa [Region.binds] using key 1 (by decide)
      obtain rfl : b2 = true := by simpa [Region.binds] using key 2 (by decide)
      obtain rfl : b3 = true := by simpa [Region.binds] using key 3 (by decide)
      obtain rfl : b4 = true := by simpa [Region.binds] using key 4 (by decide)
      obtain rfl : b6 = true := by simpa [Region.binds] using key 6 (by decide)
      obtain rfl : b5 = true := by simpa [Region.binds] using key 5 (by decide)
      obtain rfl : b7 = true := by simpa [Region.binds] using key 7 (by decide)
      obtain rfl : b8 = true := by simpa [Region.binds] using key 8 (by decide)
      obtain rfl : b9 = true := by simpa [Region.binds] using key 9 (by decide)
      obtain rfl : b10 = true := by simpa [Region.binds] using key 10 (by decide)
      obtain ⟨rfl, -⟩ := hI.m10 rfl
      have HR := Aside0.mk (spec_l1Cur_people.sel_row hq (hI.r0 rfl) (hI.r1 rfl) (hI.r2 rfl) (hI.r3 rfl) (hI.r4 rfl))
      have HI7 := Aside0.mk (hI.m7 rfl).2
      have HLO := Aside0.mk hI.low
      have HKE := Aside0.mk hI.keep
      clear key hr hI
      go_wp2
      go_ret
      exact ⟨_, rfl, Kd.R_mono HR.out (fun _ _ => trivial), HI7.out, HLO.out, HKE.out⟩
    · refine ⟨false, false, false, false, false, false, false, false, false, false, false, .slice none 0 0, undef, undef, undef, undef, undef, undef, undef, undef, undef, undef, rfl, rfl, ?_⟩
      have ff : ∀ {p : Prop}, false = true → p := fun e => absurd e Bool.false_ne_true
      exact ⟨ff, ff, ff, ff, ff, ff, ff, ff, ff, fun _ => HI2.out, ff, ff, ff, below_drew1 HB2.out, HK2.out, Nat.lt_of_lt_of_le HGS.out HK2.out.1⟩
  · have d0 : (v == 0) = false := beq_eq_false_iff_ne.2 c0
    by_cases c1 : v = 1
    · subst c1
      have HM := Aside0.mk (show spec_l1Cur_people.more s0_0 21 o u1 u2 = some (r1, r2, r3) from by have z := H.out; unfold spec_l1Cur_people.rest at z; rw [if_neg (by omega), if_pos rfl] at z; exact z)
      have HLW := Aside0.mk HB.out.size
      clear H c0
      go_enter Tryz.func58, Tryz.ntmps58
      go_wp2_with (first | (go_at_call 66; refine (spec_l1Cur_surePeople.calls k g s0_0 s0_1 s0_2 o t1 t2 w0 _ HI.out HB.out H1.out).mono ?_; rintro e w1 ⟨v3, rfl, hR, hI1, hB1, hK1⟩; have HR1 := Aside0.mk (spec_l1Cur_people.RW.of hR HGS.out); have HI1 := Aside0.mk hI1; have HB1 := Aside0.mk hB1; have HK1 := Aside0.mk hK1; clear hR hI1 hB1 hK1) | (go_at_call 59; refine (spec_l1Cur_pick.calls g s0_0 t1 t2 16 _ u1 u2 w0 _ HI1.out HB1.out H2.out).mono ?_; rintro e w2 ⟨rfl, hI2, hB2, hK2⟩; have HR2 := Aside0.mk (HR1.out.keep hK2); have HI2 := Aside0.mk hI2; have HB2 := Aside0.mk hB2; have HK2 := Aside0.mk (HK1.out.trans hK2 (.inl rfl)); clear hI2 hB2 hK2))
      go_loopg [3] 21 (fun kq v3 w' => ∃ (oo : List Int) (m1 m2 : Int), Aside0 (spec_l1Cur_people.more s0_0 kq oo m1 m2 = some (r1, r2, r3)) ∧ Aside0 (kq ≤ 21) ∧ Aside0 (spec_l1Cur_people.RW w' w.heap.size g v3 oo) ∧ Aside0 (IsS62 w0 w' g s0_0 m1 m2) ∧ Aside0 (Below w0.heap.size w0 w') ∧ Aside0 (KeepBut w w' g none))
      case atStart => exact ⟨o, u1, u2, HM, ⟨Nat.le_refl _⟩, HR2, HI2, HB2, HK2⟩
      case round =>
        clear HM HR2 HI2 HB2 HK2 HR1 HI1 HB1 HK1
        obtain ⟨oo, m1, m2, HM, HK1, HR3, HI3, HB3, HK3⟩ := hrel
        obtain ⟨Ao, co, eo⟩ := Kd.R_slice HR3.out
        subst eo
        cases gk with
        | zero => exact absurd HM.out (by simp [spec_l1Cur_people.more])
        | succ k1 =>
          have hM := HM.out
          simp only [spec_l1Cur_people.more] at hM
          by_cases c2 : oo.length < 20
          · rw [if_pos c2] at hM
            obtain ⟨⟨b, n1, n2⟩, h3, h4⟩ := Option.bind_eq_some_iff.1 hM
            have H3 := Aside0.mk h3
            have H4 := Aside0.mk (show spec_l1Cur_people.more s0_0 k1 (oo ++ [b]) n1 n2 = some (r1, r2, r3) from h4)
            have HLEN := Aside0.mk c2
            have d2 : decide ((oo.length : Int) < 20) = true := decide_eq_true (by omega)
            clear hM h3 h4 HM c2
            go_wp2_with (first | (go_at_call 59; refine (spec_l1Cur_pick.calls g s0_0 m1 m2 3 b n1 n2 w0 _ HI3.out HB3.out H3.out).mono ?_; rintro e w4 ⟨rfl, hI4, hB4, hK4⟩; have HR4 := Aside0.mk (HR3.out.keep hK4); have HI4 := Aside0.mk hI4; have HB4 := Aside0.mk hB4; have HK4 := Aside0.mk (HK3.out.trans hK4 (.inl rfl)); clear hI4 hB4 hK4) | ((with_reducible refine gate_builtin (b := .append) (xs := #[.tmp 25, .tmp 28]) rfl ?_); at_builtin; refine Kd.R_append (Kd.int .i64) (w0 := w4) w.heap.size rfl (.tmp 25) (.tmp 28) 24 3 (.int .i64 0) 8 rfl Tryz.underlying24 info3 rfl (by decide) (by omega) (.slice Ao oo.length co) oo b [.int .i64 b] (fun k => k ≠ g) (fun _ => False) rfl rfl ?aP (fun _ hk => hk.elim) ?aF ?aO ?aB ?aS ?aL ?_; (case aP => exact rfl); (case aB => exact Below.refl _ _); (case aF => exact (fun k hk => by have := HGS.out; have := HK4.out.1; omega)); (case aO => exact HR4.out); (case aS => exact HK4.out.1); (case aL => have := HLEN.out; omega); intro v9 w9 ho hb hg hat; have HI9 := Aside0.mk (spec_l1Cur_people.is_low HI4.out hb HGS.out); have HB9 := Aside0.mk (HB4.out.trans (hb.mono HLW.out)); have HK9 := Aside0.mk (spec_l1Cur_people.keep_low HK4.out hb); have HR9 := Aside0.mk ho; clear ho hb hg hat))
            go_roundg k1
            case measure => have := HK1.out; omega
            case rel => exact ⟨oo ++ [b], n1, n2, H4, ⟨by have := HK1.out; omega⟩, HR9, HI9, HB9, HK9⟩
          · rw [if_neg c2] at hM
            obtain ⟨rfl, rfl, rfl⟩ : oo = r1 ∧ m1 = r2 ∧ m2 = r3 := by simpa using hM
            have d2 : decide ((oo.length : Int) < 20) = false := decide_eq_false (by omega)
            clear hM HM c2
            go_wp2
            go_ret
            exact ⟨_, rfl, Kd.R_mono HR3.out (fun _ _ => trivial), HI3.out, HB3.out, HK3.out⟩
    · have d1 : (v == 1) = false := beq_eq_false_iff_ne.2 c1
      obtain ⟨rfl, rfl, rfl⟩ : o = r1 ∧ u1 = r2 ∧ u2 = r3 := by
        have z := H.out
        unfold spec_l1Cur_people.rest at z
        rw [if_neg c0, if_neg c1] at z
        simpa using z
      clear H c0 c1
      go_enter Tryz.func58, Tryz.ntmps58
      go_wp2_with (first | (go_at_call 66; refine (spec_l1Cur_surePeople.calls k g s0_0 s0_1 s0_2 o t1 t2 w0 _ HI.out HB.out H1.out).mono ?_; rintro e w1 ⟨v3, rfl, hR, hI1, hB1, hK1⟩; have HR1 := Aside0.mk (spec_l1Cur_people.RW.of hR HGS.out); have HI1 := Aside0.mk hI1; have HB1 := Aside0.mk hB1; have HK1 := Aside0.mk hK1; clear hR hI1 hB1 hK1) | (go_at_call 59; refine (spec_l1Cur_pick.calls g s0_0 t1 t2 16 _ u1 u2 w0 _ HI1.out HB1.out H2.out).mono ?_; rintro e w2 ⟨rfl, hI2, hB2, hK2⟩; have HR2 := Aside0.mk (HR1.out.keep hK2); have HI2 := Aside0.mk hI2; have HB2 := Aside0.mk hB2; have HK2 := Aside0.mk (HK1.out.trans hK2 (.inl rfl)); clear hI2 hB2 hK2))
      go_ret
      exact ⟨_, rfl, Kd.R_mono HR2.out (fun _ _ => trivial), HI2.out, HB2.out, HK2.out⟩

/-! ### spec_DrawArePeople: function 36 -/
def spec_DrawArePeople.in_ (k : Nat) (s0_0 : List Int) (s0_1 : Int) (s0_2 : Int) : Option (List Int × Int × Int) := (spec_l1Cur_people.f k s0_0 s0_1 s0_2).bind fun bt130 => (some (bt130.1, bt130.2.1, bt130.2.2))
theorem spec_DrawArePeople.mono_in : ∀ a0 a1 a2 k, LeO (spec_DrawArePeople.in_ k a0 a1 a2) (spec_DrawArePeople.in_ (k + 1) a0 a1 a2) := by
  intro a0 a1 a2 k
  unfold spec_DrawArePeople.in_
  repeat' first
      | (with_reducible exact spec_l1Cur_people.mono _ _ _ _)
      | (with_reducible exact LeO.refl _)
      | (with_reducible exact LeO.none _)
      | (with_reducible refine LeO.ite ?_ ?_)
      | (with_reducible refine LeO.bind ?_ (fun _ => ?_))
      | exact spec_l1Cur_people.mono _ _ _ _
      | exact LeO.none _
      | refine LeO.ite ?_ ?_
      | refine LeO.bind ?_ (fun _ => ?_)
def spec_DrawArePeople.f (k : Nat) (l0 : List Int) : Option (List Int) := (spec_DrawArePeople.in_ k l0 0 0).bind fun r => some (r.1)
theorem spec_DrawArePeople.mono : ∀ a0 k, LeO (spec_DrawArePeople.f k a0) (spec_DrawArePeople.f (k + 1) a0) := fun a0 k => LeO.bind (spec_DrawArePeople.mono_in _ _ _ k) (fun _ => LeO.refl _)
set_option maxHeartbeats 8000000 in
set_option maxRecDepth 100000 in
theorem spec_DrawArePeople.calls (k : Nat) (A0 : Option Addr) (c0 : Nat) (l0 : List Int) (r1 : List Int) (w0 : World) (hr0 : Kd.C (Kd.int .u8) w0 A0 l0.length l0) (hc0 : l0.length ≤ c0) (h : spec_DrawArePeople.f k l0 = some (r1)) :
    Calls Tryz.prog 36 #[.slice A0 l0.length c0] w0 fun e w' => ∃ v0_ : Value, e = .returned (v0_) ∧ Kd.R (Kd.int .i64) 3 w' w0.heap.size (fun _ => True) v0_ r1 ∧ Below w0.heap.size w0 w' := by
  unfold spec_DrawArePeople.f at h
  obtain ⟨⟨y0_, r2, r3⟩, h1_, h⟩ := Option.bind_eq_some_iff.1 h
  obtain rfl : y0_ = r1 := by simpa using h
  clear h
  have HIe := Aside0.mk (show IsS62 w0 (w0.alloc (.cells #[.slice A0 l0.length c0, .int .i64 0, .int .u64 0] 62)) w0.heap.size l0 0 0 from ⟨A0, c0, heap_alloc_new _ _, Nat.le_refl _, hr0⟩)
  have HBe := Aside0.mk (below_alloc (Below.refl w0.heap.size w0) (.cells #[.slice A0 l0.length c0, .int .i64 0, .int .u64 0] 62))
  have HKe := Aside0.mk (show KeepBut w0 (w0.alloc (.cells #[.slice A0 l0.length c0, .int .i64 0, .int .u64 0] 62)) (w0.heap.size) none from ⟨HBe.out.size, fun i hi _ _ => HBe.out.block i hi⟩)
  obtain ⟨W_, hW_⟩ : ∃ W_ : World, W_ = (w0.alloc (.cells #[.slice A0 l0.length c0, .int .i64 0, .int .u64 0] 62)) := ⟨_, rfl⟩
  rw [← hW_] at HIe HBe HKe
  obtain ⟨s0_0, hs0_⟩ : ∃ z : List Int, z = l0 := ⟨_, rfl⟩
  obtain ⟨s0_1, hs1_⟩ : ∃ z : Int, z = 0 := ⟨_, rfl⟩
  obtain ⟨s0_2, hs2_⟩ : ∃ z : Int, z = 0 := ⟨_, rfl⟩
  obtain ⟨g, hg⟩ : ∃ z : Nat, z = w0.heap.size := ⟨_, rfl⟩
  have HIf := Aside0.mk (show IsS62 w0 W_ g s0_0 s0_1 s0_2 by rw [hs0_, hs1_, hs2_, hg]; exact HIe.out)
  have HKf := Aside0.mk (show KeepBut w0 W_ g none by rw [hg]; exact HKe.out)
  have h : spec_DrawArePeople.in_ k s0_0 s0_1 s0_2 = some (y0_, r2, r3) := by rw [hs0_, hs1_, hs2_]; exact h1_
  clear hs0_ hs1_ hs2_ h1_ hr0 HIe HKe
  suffices key_ : ∀ Q_ : Ending → World → Prop, (∀ e w', (∃ v0_ : Value, e = .returned (v0_) ∧ Kd.R (Kd.int .i64) 3 w' w0.heap.size (fun _ => True) v0_ y0_ ∧ IsS62 w0 w' g s0_0 r2 r3 ∧ Below w0.heap.size w0 w' ∧ KeepBut w0 w' g none) → Q_ e w') → Calls Tryz.prog 36 #[.slice A0 l0.length c0] w0 Q_ by
    exact key_ _ (fun e w' z_ => by obtain ⟨q0_, p0_, p1_, p2_, p3_, p4_⟩ := z_; exact ⟨q0_, p0_, p1_, p3_⟩)
  intro Q_ hQ_
  have HQ_ := Aside0.mk hQ_
  clear hQ_
  have H : ((spec_l1Cur_people.f k s0_0 s0_1 s0_2).bind fun bt130 => (some (bt130.1, bt130.2.1, bt130.2.2))) = some (y0_, r2, r3) := h
  clear h
  replace H := Option.bind_eq_some_iff.mp H
  obtain ⟨⟨t130, t133, t134⟩, A20, H⟩ := H
  replace H : (some (t130, t133, t134)) = some (y0_, r2, r3) := H
  have A2 := Aside0.mk A20
  clear A20
  simp only [Option.some.injEq, Prod.mk.injEq] at H
  obtain ⟨rfl, rfl, rfl⟩ := H
  go_enter Tryz.func36, Tryz.ntmps36
  go_upto_region 2 with (fail)
  rw [← hW_]
  rw [← hg]
  have HI0 := HIf
  have HK := HKf
  have HB := HBe
  have HL := Aside0.mk (Nat.le_refl w0.heap.size)
  have HW0 := Aside0.mk (Nat.le_refl w0.heap.size)
  clear HIf HKf HBe hW_ hg
  go_wp2_with (first | ((with_reducible refine gate_callee (f := 58) rfl ?_); refine goesL_ (some 8) rfl rfl Tryz.func58 (by kernel_rfl) rfl #[.pointer (some ⟨g, 0, none⟩)] rfl (by (try simp only [List.map_toArray, List.map_cons, List.map_nil]); first | done | rfl | (simp only [List.length_drop, List.length_take]; rfl)) ?_; (with_reducible refine (spec_l1Cur_people.calls k g s0_0 s0_1 s0_2 t130 t133 t134 w0 _ ?side1 ?side2 A2.out).mono ?_); (case side1 => repeat (first | (with_reducible first | exact HI0.out | apply IsS62.alloc | apply IsS62.drewN | apply IsS62.drew | apply IsS62.set_1 | apply IsS62.set_2) | exact HI0.out)); (case side2 => repeat (first | (with_reducible first | exact HB.out | apply below_alloc | apply pw_below_drewN | apply below_drew1 | refine below_set ?_ (IsS62.ge HI0.out)) | exact HB.out)); rintro e w3 ⟨v131, rfl, ho0, hi, hb, hk⟩; refine ⟨_, rfl, ?_⟩; have n0_ := Aside0.mk (Kd.R_lower ho0 (keep_size (w := w0) (g := g) (row := none) (by repeat (first | (with_reducible first | exact HK.out | apply KeepBut.set_ | apply keep_drewN | apply keep_drew | apply keep_alloc) | exact HK.out)))); have n1_ := Aside0.mk (KeepBut.trans (by repeat (first | (with_reducible first | exact HK.out | apply KeepBut.set_ | apply keep_drewN | apply keep_drew | apply keep_alloc) | exact HK.out)) hk (.inl rfl)); have n2_ := Aside0.mk (hb); have n3_ := Aside0.mk (hi); clear HK; clear HB; clear HI0; have HO132 := n0_; have HK := n1_; have HB := n2_; have HI0 := n3_; clear n0_ n1_ n2_ n3_; (try clear hb); (try clear hb2); (try clear hk); (try clear hi); (try clear ho0)))
  try go_ret
  exact HQ_.out _ _ ⟨_, by first | rfl | (simp [errW_none, errW_some] <;> rfl) | (simp [*, errW_none, errW_some] <;> rfl), by (with_reducible repeat (first | apply Kd.R_alloc | apply Kd.R_drewN | apply Kd.R_drew)); exact HO132.out, by repeat (first | (with_reducible first | exact HI0.out | apply IsS62.alloc | apply IsS62.drewN | apply IsS62.drew | apply IsS62.set_1 | apply IsS62.set_2) | exact HI0.out), by repeat (first | (with_reducible first | exact HB.out | apply below_alloc | apply pw_below_drewN | apply below_drew1 | refine below_set ?_ (IsS62.ge HI0.out)) | exact HB.out), by repeat (first | (with_reducible first | exact HK.out | apply KeepBut.set_ | apply keep_drewN | apply keep_drew | apply keep_alloc) | exact HK.out)⟩

/-! ### spec_DrawBestHouses: function 5 -/
def spec_DrawBestHouses.f (k : Nat) (l0 : List Int) : Option (List Int) := (spec_DrawArePeople.f k l0).bind fun t135 => (some t135)
theorem spec_DrawBestHouses.mono : ∀ a0 k, LeO (spec_DrawBestHouses.f k a0) (spec_DrawBestHouses.f (k + 1) a0) := by
  intro a0 k
  unfold spec_DrawBestHouses.f
  repeat' first
      | (with_reducible exact spec_DrawArePeople.mono _ _)
      | (with_reducible exact LeO.refl _)
      | (with_reducible exact LeO.none _)
      | (with_reducible refine LeO.ite ?_ ?_)
      | (with_reducible refine LeO.bind ?_ (fun _ => ?_))
      | exact spec_DrawArePeople.mono _ _
      | exact LeO.none _
      | refine LeO.ite ?_ ?_
      | refine LeO.bind ?_ (fun _ => ?_)
set_option maxHeartbeats 8000000 in
set_option maxRecDepth 100000 in
theorem spec_DrawBestHouses.calls (k : Nat) (A0 : Option Addr) (c0 : Nat) (l0 : List Int) (r : List Int) (w : World) (hr0 : Kd.C (Kd.int .u8) w A0 l0.length l0) (hc0 : l0.length ≤ c0) (h : spec_DrawBestHouses.f k l0 = some r) :
    Calls Tryz.prog 5 #[.slice A0 l0.length c0] w fun e w' => ∃ v0_ : Value, e = .returned (v0_) ∧ Kd.R (Kd.int .i64) 3 w' w.heap.size (fun _ => True) v0_ r ∧ Below w.heap.size w w' := by
  have HR0 := Aside0.mk hr0
  have HC0 := Aside0.mk hc0
  clear hr0 hc0
  have HB := Aside0.mk (Below.refl w.heap.size w)
  have H : ((spec_DrawArePeople.f k l0).bind fun t135 => (some t135)) = some r := h
  clear h
  replace H := Option.bind_eq_some_iff.mp H
  obtain ⟨t135, A20, H⟩ := H
  replace H : (some t135) = some r := H
  have A2 := Aside0.mk A20
  clear A20
  obtain rfl := Option.some.inj H
  go_enter Tryz.func5, Tryz.ntmps5
  go_wp2_with (first | ((with_reducible refine gate_callee (f := 36) rfl ?_); refine goesL_ (some 4) rfl rfl Tryz.func36 (by kernel_rfl) rfl #[.slice A0 l0.length c0] rfl (by (try simp only [List.map_toArray, List.map_cons, List.map_nil]); first | done | rfl | (simp only [List.length_drop, List.length_take]; rfl)) ?_; (with_reducible refine (spec_DrawArePeople.calls k _ _ l0 t135 _ ?side1 ?side2 A2.out).mono ?_); (case side1 => repeat (first | exact HR0.out | (with_reducible refine Kd.C_alloc ?_ _) | (with_reducible refine Kd.C_drewN ?_ _) | (with_reducible refine Kd.C_drew ?_))); (case side2 => exact HC0.out); rintro e w3 ⟨v136, rfl, ho0, hb⟩; refine ⟨_, rfl, ?_⟩; have n0_ := Aside0.mk (Kd.R_lower ho0 (below_size (by repeat (first | (with_reducible first | exact HB.out | apply below_alloc | apply pw_below_drewN | apply below_drew1) | exact HB.out)))); have n1_ := Aside0.mk (below_step (by repeat (first | (with_reducible first | exact HB.out | apply below_alloc | apply pw_below_drewN | apply below_drew1) | exact HB.out)) hb); clear HB; have HO137 := n0_; have HB := n1_; clear n0_ n1_; (try clear hb); (try clear hb2); (try clear hk); (try clear hi); (try clear ho0)))
  go_ret
  exact ⟨_, by first | rfl | (simp [errW_none, errW_some] <;> rfl) | (simp [*, errW_none, errW_some] <;> rfl), by (with_reducible repeat (first | apply Kd.R_alloc | apply Kd.R_drewN | apply Kd.R_drew)); exact HO137.out, by repeat (first | (with_reducible first | exact HB.out | apply below_alloc | apply pw_below_drewN | apply below_drew1) | exact HB.out)⟩

/-! ### impl_sumOf: function 45 -/
def impl_sumOf.l0 : Nat → Int → List Int → Int → Int → Option (Int)
  | 0, _, _, _, _ => none
  | k + 1, x3, x6, x7, x8 => if x8 < x7 then (if 0 ≤ x8 then (if x8 < (x6.length : Int) then (impl_sumOf.l0 k (wrap64 (x3 + (rd x6 x8))) x6 x7 (wrap64 (x8 + 1))) else (none)) else (none)) else (some x3)
def impl_sumOf.f (k : Nat) (l0 : List Int) : Option (Int) := impl_sumOf.l0 k 0 l0 (l0.length : Int) 0
theorem impl_sumOf.mono_l : ∀ k, (∀ y0 y1 y2 y3, LeO (impl_sumOf.l0 k y0 y1 y2 y3) (impl_sumOf.l0 (k + 1) y0 y1 y2 y3))
  | 0 => fun _ _ _ _ r h => by simp [impl_sumOf.l0] at h
  | k + 1 => by
    have ih0 := impl_sumOf.mono_l k
    · intro y0 y1 y2 y3
      unfold impl_sumOf.l0
      repeat' first
      | (with_reducible exact ih0 _ _ _ _)
      | (with_reducible exact LeO.refl _)
      | (with_reducible exact LeO.none _)
      | (with_reducible refine LeO.ite ?_ ?_)
      | (with_reducible refine LeO.bind ?_ (fun _ => ?_))
      | exact ih0 _ _ _ _
      | exact LeO.none _
      | refine LeO.ite ?_ ?_
      | refine LeO.bind ?_ (fun _ => ?_)
theorem impl_sumOf.mono : ∀ a0 k, LeO (impl_sumOf.f k a0) (impl_sumOf.f (k + 1) a0) := by
  intro a0 k
  have ih0 := impl_sumOf.mono_l k
  unfold impl_sumOf.f
  repeat' first
      | (with_reducible exact ih0 _ _ _ _)
      | (with_reducible exact LeO.refl _)
      | (with_reducible exact LeO.none _)
      | (with_reducible refine LeO.ite ?_ ?_)
      | (with_reducible refine LeO.bind ?_ (fun _ => ?_))
      | exact ih0 _ _ _ _
      | exact LeO.none _
      | refine LeO.ite ?_ ?_
      | refine LeO.bind ?_ (fun _ => ?_)
set_option maxHeartbeats 8000000 in
set_option maxRecDepth 100000 in
theorem impl_sumOf.calls (k : Nat) (A0 : Option Addr) (c0 : Nat) (l0 : List Int) (r : Int) (w : World) (hr0 : Kd.C (Kd.int .i64) w A0 l0.length l0) (hc0 : l0.length ≤ c0) (h : impl_sumOf.f k l0 = some r) :
    Calls Tryz.prog 45 #[.slice A0 l0.length c0] w fun e w' => e = .returned (.int .i64 r) ∧ Drawn0 w w' := by
  have HR0 := Aside0.mk hr0
  have HC0 := Aside0.mk hc0
  clear hr0 hc0
  have H : (impl_sumOf.l0 k 0 l0 (l0.length : Int) 0) = some r := h
  clear h
  have H' := Aside0.mk H
  clear H
  go_enter Tryz.func45, Tryz.ntmps45
  go_wp2
  go_loopg [3, 8] k (fun kq v3 v8 w' => ∃ (x3_1 : Int) (x8_1 : Int), v3 = .int .i64 x3_1 ∧ v8 = .int .i64 x8_1 ∧ Aside0 (impl_sumOf.l0 kq x3_1 l0 (l0.length : Int) x8_1 = some r) ∧ Aside0 (kq ≤ k) ∧ Drawn0 w w')
  case atStart => exact ⟨(0), (0), (by first | rfl | (simp; done) | (simp [*]; done)), (by first | rfl | (simp; done) | (simp [*]; done)), H', ⟨Nat.le_refl _⟩, by repeat (first | exact Drawn0.refl _ | apply Drawn0.step)⟩
  case round =>
    clear H'
    obtain ⟨x3_1, x8_1, rfl, rfl, HA, HK1, ⟨m1, rfl⟩⟩ := hrel
    cases gk with
    | zero => exact absurd HA.out (by simp [impl_sumOf.l0])
    | succ k1 =>
      have H := HA.out
      clear HA
      simp only [impl_sumOf.l0] at H
      by_cases c2 : x8_1 < (l0.length : Int)
      · rw [if_pos c2] at H
        have c2b0 : decide (x8_1 < (l0.length : Int)) = true := decide_eq_true c2
        clear c2
        by_cases c3 : 0 ≤ x8_1
        · rw [if_pos c3] at H
          have c3b0 : decide (0 ≤ x8_1) = true := decide_eq_true c3
          clear c3
          by_cases c4 : x8_1 < (l0.length : Int)
          · rw [if_pos c4] at H
            have c4b0 : decide (x8_1 < (l0.length : Int)) = true := decide_eq_true c4
            clear c4
            have H' := Aside0.mk H
            clear H
            have p138 : 0 ≤ (x8_1 : Int) := of_decide_eq_true (by first | (with_reducible assumption) | assumption)
            have q138 : x8_1 < (l0.length : Int) := of_decide_eq_true (by first | (with_reducible assumption) | assumption)
            obtain ⟨ad138, e138, hx138_0⟩ := Kd.at_int HR0.out x8_1 p138 q138
            cases e138
            replace p138 := eq_true p138
            replace q138 := eq_true q138
            go_wp2
            go_roundg k1
            case measure => have := HK1.out; omega
            case rel => exact ⟨(wrap64 (x3_1 + (rd l0 x8_1))), (wrap64 (x8_1 + 1)), (by first | rfl | (simp; done) | (simp [*]; done)), (by first | rfl | (simp; done) | (simp [*]; done)), H', ⟨by have := HK1.out; omega⟩, by repeat (first | exact Drawn0.refl _ | apply Drawn0.step)⟩
          · rw [if_neg c4] at H
            exact absurd H (by simp)
        · rw [if_neg c3] at H
          exact absurd H (by simp)
      · rw [if_neg c2] at H
        have c2b0 : decide (x8_1 < (l0.length : Int)) = false := decide_eq_false c2
        clear c2
        obtain rfl := Option.some.inj H
        go_wp2
        go_ret
        exact ⟨by first | rfl | (simp; done) | (simp [*]; done), by repeat (first | exact Drawn0.refl _ | apply Drawn0.step)⟩

/-! ### impl_within: function 53 -/
def impl_within.f (a0 : Int) (a1 : Int) (a2 : Int) : Option (Bool) := if a0 ≥ a1 then (some (decide (a0 ≤ a2))) else (some false)
set_option maxHeartbeats 8000000 in
set_option maxRecDepth 100000 in
theorem impl_within.calls (a0 : Int) (a1 : Int) (a2 : Int) (r : Bool) (w : World) (h : impl_within.f a0 a1 a2 = some r) :
    Calls Tryz.prog 53 #[.int .i64 a0, .int .i64 a1, .int .i64 a2] w fun e w' => e = .returned (.bool r) ∧ Drawn0 w w' := by
  have H : (if a0 ≥ a1 then (some (decide (a0 ≤ a2))) else (some false)) = some r := h
  clear h
  by_cases c4 : a0 ≥ a1
  · rw [if_pos c4] at H
    have c4b0 : decide (a1 ≤ a0) = true := decide_eq_true c4
    clear c4
    obtain rfl := Option.some.inj H
    go_enter Tryz.func53, Tryz.ntmps53
    go_wp2
    go_ret
    exact ⟨by first | rfl | (simp; done) | (simp [*]; done), by repeat (first | exact Drawn0.refl _ | apply Drawn0.step)⟩
  · rw [if_neg c4] at H
    have c4b0 : decide (a1 ≤ a0) = false := decide_eq_false c4
    clear c4
    obtain rfl := Option.some.inj H
    go_enter Tryz.func53, Tryz.ntmps53
    go_wp2
    go_ret
    exact ⟨by first | rfl | (simp; done) | (simp [*]; done), by repeat (first | exact Drawn0.refl _ | apply Drawn0.step)⟩

/-! ### impl_allWithin: function 54 -/
def impl_allWithin.l0 : Nat → Int → Int → List Int → Int → Int → Option (Bool)
  | 0, _, _, _, _, _ => none
  | k + 1, x1, x2, x9, x10, x11 => if x11 < x10 then (if 0 ≤ x11 then (if x11 < (x9.length : Int) then ((impl_within.f (rd x9 x11) x1 x2).bind fun t140 => (if t140 = true then (impl_allWithin.l0 k x1 x2 x9 x10 (wrap64 (x11 + 1))) else (some false))) else (none)) else (none)) else (some true)
def impl_allWithin.f (k : Nat) (l0 : List Int) (a1 : Int) (a2 : Int) : Option (Bool) := impl_allWithin.l0 k a1 a2 l0 (l0.length : Int) 0
theorem impl_allWithin.mono_l : ∀ k, (∀ y0 y1 y2 y3 y4, LeO (impl_allWithin.l0 k y0 y1 y2 y3 y4) (impl_allWithin.l0 (k + 1) y0 y1 y2 y3 y4))
  | 0 => fun _ _ _ _ _ r h => by simp [impl_allWithin.l0] at h
  | k + 1 => by
    have ih0 := impl_allWithin.mono_l k
    · intro y0 y1 y2 y3 y4
      unfold impl_allWithin.l0
      repeat' first
      | (with_reducible exact ih0 _ _ _ _ _)
      | (with_reducible exact LeO.refl _)
      | (with_reducible exact LeO.none _)
      | (with_reducible refine LeO.ite ?_ ?_)
      | (with_reducible refine LeO.bind ?_ (fun _ => ?_))
      | exact ih0 _ _ _ _ _
      | exact LeO.none _
      | refine LeO.ite ?_ ?_
      | refine LeO.bind ?_ (fun _ => ?_)
theorem impl_allWithin.mono : ∀ a0 a1 a2 k, LeO (impl_allWithin.f k a0 a1 a2) (impl_allWithin.f (k + 1) a0 a1 a2) := by
  intro a0 a1 a2 k
  have ih0 := impl_allWithin.mono_l k
  unfold impl_allWithin.f
  repeat' first
      | (with_reducible exact ih0 _ _ _ _ _)
      | (with_reducible exact LeO.refl _)
      | (with_reducible exact LeO.none _)
      | (with_reducible refine LeO.ite ?_ ?_)
      | (with_reducible refine LeO.bind ?_ (fun _ => ?_))
      | exact ih0 _ _ _ _ _
      | exact LeO.none _
      | refine LeO.ite ?_ ?_
      | refine LeO.bind ?_ (fun _ => ?_)
set_option maxHeartbeats 8000000 in
set_option maxRecDepth 100000 in
theorem impl_allWithin.calls (k : Nat) (A0 : Option Addr) (c0 : Nat) (l0 : List Int) (a1 : Int) (a2 : Int) (r : Bool) (w : World) (hr0 : Kd.C (Kd.int .i64) w A0 l0.length l0) (hc0 : l0.length ≤ c0) (h : impl_allWithin.f k l0 a1 a2 = some r) :
    Calls Tryz.prog 54 #[.slice A0 l0.length c0, .int .i64 a1, .int .i64 a2] w fun e w' => e = .returned (.bool r) ∧ Drawn0 w w' := by
  have HR0 := Aside0.mk hr0
  have HC0 := Aside0.mk hc0
  clear hr0 hc0
  have H : (impl_allWithin.l0 k a1 a2 l0 (l0.length : Int) 0) = some r := h
  clear h
  have H' := Aside0.mk H
  clear H
  go_enter Tryz.func54, Tryz.ntmps54
  go_wp2
  go_loopg [11] k (fun kq v11 w' => ∃ (x11_1 : Int), v11 = .int .i64 x11_1 ∧ Aside0 (impl_allWithin.l0 kq a1 a2 l0 (l0.length : Int) x11_1 = some r) ∧ Aside0 (kq ≤ k) ∧ Drawn0 w w')
  case atStart => exact ⟨(0), (by first | rfl | (simp; done) | (simp [*]; done)), H', ⟨Nat.le_refl _⟩, by repeat (first | exact Drawn0.refl _ | apply Drawn0.step)⟩
  case round =>
    clear H'
    try clear p2
    obtain ⟨x11_1, rfl, HA, HK1, ⟨m1, rfl⟩⟩ := hrel
    cases gk with
    | zero => exact absurd HA.out (by simp [impl_allWithin.l0])
    | succ k1 =>
      have H := HA.out
      clear HA
      simp only [impl_allWithin.l0] at H
      by_cases c4 : x11_1 < (l0.length : Int)
      · rw [if_pos c4] at H
        have c4b0 : decide (x11_1 < (l0.length : Int)) = true := decide_eq_true c4
        clear c4
        by_cases c5 : 0 ≤ x11_1
        · rw [if_pos c5] at H
          have c5b0 : decide (0 ≤ x11_1) = true := decide_eq_true c5
          clear c5
          by_cases c6 : x11_1 < (l0.length : Int)
          · rw [if_pos c6] at H
            have c6b0 : decide (x11_1 < (l0.length : Int)) = true := decide_eq_true c6
            clear c6
            replace H := Option.bind_eq_some_iff.mp H
            obtain ⟨t140, A70, H⟩ := H
            replace H : (if t140 = true then (impl_allWithin.l0 k1 a1 a2 l0 (l0.length : Int) (wrap64 (x11_1 + 1))) else (some false)) = some r := H
            have A7 := Aside0.mk A70
            clear A70
            by_cases c8 : t140 = true
            · subst c8
              have H1 : (impl_allWithin.l0 k1 a1 a2 l0 (l0.length : Int) (wrap64 (x11_1 + 1))) = some r := by rw [if_pos rfl] at H; exact H
              clear H
              have H := H1
              clear H1
              have H' := Aside0.mk H
              clear H
              have p139 : 0 ≤ (x11_1 : Int) := of_decide_eq_true (by first | (with_reducible assumption) | assumption)
              have q139 : x11_1 < (l0.length : Int) := of_decide_eq_true (by first | (with_reducible assumption) | assumption)
              obtain ⟨ad139, e139, hx139_0⟩ := Kd.at_int HR0.out x11_1 p139 q139
              cases e139
              replace p139 := eq_true p139
              replace q139 := eq_true q139
              go_wp2_with (first | ((with_reducible refine gate_callee (f := 53) rfl ?_); refine goesL_ (some 18) rfl rfl Tryz.func53 (by kernel_rfl) rfl #[.int .i64 (rd l0 x11_1), .int .i64 a1, .int .i64 a2] rfl (by (try simp only [List.map_toArray, List.map_cons, List.map_nil]); first | done | rfl | (simp only [List.length_drop, List.length_take]; rfl)) ?_; (with_reducible refine (impl_within.calls (rd l0 x11_1) a1 a2 true _ A7.out).mono ?_); rintro e w' ⟨rfl, ⟨nd, rfl⟩⟩; refine ⟨_, rfl, ?_⟩))
              go_roundg k1
              case measure => have := HK1.out; omega
              case rel => exact ⟨(wrap64 (x11_1 + 1)), (by first | rfl | (simp; done) | (simp [*]; done)), H', ⟨by have := HK1.out; omega⟩, by repeat (first | exact Drawn0.refl _ | apply Drawn0.step)⟩
            · replace c8 := Bool.eq_false_iff.mpr c8
              subst c8
              have H1 : (some false) = some r := by rw [if_neg (show ¬ (false = true) by decide)] at H; exact H
              clear H
              have H := H1
              clear H1
              obtain rfl := Option.some.inj H
              have p139 : 0 ≤ (x11_1 : Int) := of_decide_eq_true (by first | (with_reducible assumption) | assumption)
              have q139 : x11_1 < (l0.length : Int) := of_decide_eq_true (by first | (with_reducible assumption) | assumption)
              obtain ⟨ad139, e139, hx139_0⟩ := Kd.at_int HR0.out x11_1 p139 q139
              cases e139
              replace p139 := eq_true p139
              replace q139 := eq_true q139
              go_wp2_with (first | ((with_reducible refine gate_callee (f := 53) rfl ?_); refine goesL_ (some 18) rfl rfl Tryz.func53 (by kernel_rfl) rfl #[.int .i64 (rd l0 x11_1), .int .i64 a1, .int .i64 a2] rfl (by (try simp only [List.map_toArray, List.map_cons, List.map_nil]); first | done | rfl | (simp only [List.length_drop, List.length_take]; rfl)) ?_; (with_reducible refine (impl_within.calls (rd l0 x11_1) a1 a2 false _ A7.out).mono ?_); rintro e w' ⟨rfl, ⟨nd, rfl⟩⟩; refine ⟨_, rfl, ?_⟩))
              go_ret
              exact ⟨by first | rfl | (simp; done) | (simp [*]; done), by repeat (first | exact Drawn0.refl _ | apply Drawn0.step)⟩
          · rw [if_neg c6] at H
            exact absurd H (by simp)
        · rw [if_neg c5] at H
          exact absurd H (by simp)
      · rw [if_neg c4] at H
        have c4b0 : decide (x11_1 < (l0.length : Int)) = false := decide_eq_false c4
        clear c4
        obtain rfl := Option.some.inj H
        go_wp2
        go_ret
        exact ⟨by first | rfl | (simp; done) | (simp [*]; done), by repeat (first | exact Drawn0.refl _ | apply Drawn0.step)⟩

/-! ### impl_ArePeople: function 19 -/
def impl_ArePeople.f (k : Nat) (l0 : List Int) : Option (Bool) := (impl_within.f (l0.length : Int) 1 60).bind fun t141 => (if t141 = true then ((impl_allWithin.f k l0 0 1000).bind fun t142 => (if t142 = true then ((impl_sumOf.f k l0).bind fun t143 => (some (decide (t143 > 0)))) else (some false))) else (some false))
theorem impl_ArePeople.mono : ∀ a0 k, LeO (impl_ArePeople.f k a0) (impl_ArePeople.f (k + 1) a0) := by
  intro a0 k
  unfold impl_ArePeople.f
  repeat' first
      | (with_reducible exact impl_allWithin.mono _ _ _ _)
      | (with_reducible exact impl_sumOf.mono _ _)
      | (with_reducible exact LeO.refl _)
      | (with_reducible exact LeO.none _)
      | (with_reducible refine LeO.ite ?_ ?_)
      | (with_reducible refine LeO.bind ?_ (fun _ => ?_))
      | exact impl_allWithin.mono _ _ _ _
      | exact impl_sumOf.mono _ _
      | exact LeO.none _
      | refine LeO.ite ?_ ?_
      | refine LeO.bind ?_ (fun _ => ?_)
set_option maxHeartbeats 8000000 in
set_option maxRecDepth 100000 in
theorem impl_ArePeople.calls (k : Nat) (A0 : Option Addr) (c0 : Nat) (l0 : List Int) (r : Bool) (w : World) (hr0 : Kd.C (Kd.int .i64) w A0 l0.length l0) (hc0 : l0.length ≤ c0) (h : impl_ArePeople.f k l0 = some r) :
    Calls Tryz.prog 19 #[.slice A0 l0.length c0] w fun e w' => e = .returned (.bool r) ∧ Drawn0 w w' := by
  have HR0 := Aside0.mk hr0
  have HC0 := Aside0.mk hc0
  clear hr0 hc0
  have H : ((impl_within.f (l0.length : Int) 1 60).bind fun t141 => (if t141 = true then ((impl_allWithin.f k l0 0 1000).bind fun t142 => (if t142 = true then ((impl_sumOf.f k l0).bind fun t143 => (some (decide (t143 > 0)))) else (some false))) else (some false))) = some r := h
  clear h
  replace H := Option.bind_eq_some_iff.mp H
  obtain ⟨t141, A20, H⟩ := H
  replace H : (if t141 = true then ((impl_allWithin.f k l0 0 1000).bind fun t142 => (if t142 = true then ((impl_sumOf.f k l0).bind fun t143 => (some (decide (t143 > 0)))) else (some false))) else (some false)) = some r := H
  have A2 := Aside0.mk A20
  clear A20
  by_cases c3 : t141 = true
  · subst c3
    have H1 : ((impl_allWithin.f k l0 0 1000).bind fun t142 => (if t142 = true then ((impl_sumOf.f k l0).bind fun t143 => (some (decide (t143 > 0)))) else (some false))) = some r := by rw [if_pos rfl] at H; exact H
    clear H
    have H := H1
    clear H1
    replace H := Option.bind_eq_some_iff.mp H
    obtain ⟨t142, A40, H⟩ := H
    replace H : (if t142 = true then ((impl_sumOf.f k l0).bind fun t143 => (some (decide (t143 > 0)))) else (some false)) = some r := H
    have A4 := Aside0.mk A40
    clear A40
    by_cases c5 : t142 = true
    · subst c5
      have H1 : ((impl_sumOf.f k l0).bind fun t143 => (some (decide (t143 > 0)))) = some r := by rw [if_pos rfl] at H; exact H
      clear H
      have H := H1
      clear H1
      replace H := Option.bind_eq_some_iff.mp H
      obtain ⟨t143, A60, H⟩ := H
      replace H : (some (decide (t143 > 0))) = some r := H
      have A6 := Aside0.mk A60
      clear A60
      obtain rfl := Option.some.inj H
      go_enter Tryz.func19, Tryz.ntmps19
      go_wp2_with (first | ((with_reducible refine gate_callee (f := 53) rfl ?_); refine goesL_ (some 5) rfl rfl Tryz.func53 (by kernel_rfl) rfl #[.int .i64 (l0.length : Int), .int .i64 1, .int .i64 60] rfl (by (try simp only [List.map_toArray, List.map_cons, List.map_nil]); first | done | rfl | (simp only [List.length_drop, List.length_take]; rfl)) ?_; (with_reducible refine (impl_within.calls (l0.length : Int) 1 60 true _ A2.out).mono ?_); rintro e w' ⟨rfl, ⟨nd, rfl⟩⟩; refine ⟨_, rfl, ?_⟩) | (go_at_call 54; (with_reducible refine (impl_allWithin.calls k _ _ l0 0 1000 true _ ?side1 ?side2 A4.out).mono ?_); (case side1 => repeat (first | exact HR0.out | (with_reducible refine Kd.C_alloc ?_ _) | (with_reducible refine Kd.C_drewN ?_ _) | (with_reducible refine Kd.C_drew ?_))); (case side2 => exact HC0.out); rintro e w' ⟨rfl, ⟨nd, rfl⟩⟩) | (go_at_call 45; (with_reducible refine (impl_sumOf.calls k _ _ l0 t143 _ ?side1 ?side2 A6.out).mono ?_); (case side1 => repeat (first | exact HR0.out | (with_reducible refine Kd.C_alloc ?_ _) | (with_reducible refine Kd.C_drewN ?_ _) | (with_reducible refine Kd.C_drew ?_))); (case side2 => exact HC0.out); rintro e w' ⟨rfl, ⟨nd, rfl⟩⟩))
      go_ret
      exact ⟨by first | rfl | (simp; done) | (simp [*]; done), by repeat (first | exact Drawn0.refl _ | apply Drawn0.step)⟩
    · replace c5 := Bool.eq_false_iff.mpr c5
      subst c5
      have H1 : (some false) = some r := by rw [if_neg (show ¬ (false = true) by decide)] at H; exact H
      clear H
      have H := H1
      clear H1
      obtain rfl := Option.some.inj H
      go_enter Tryz.func19, Tryz.ntmps19
      go_wp2_with (first | ((with_reducible refine gate_callee (f := 53) rfl ?_); refine goesL_ (some 5) rfl rfl Tryz.func53 (by kernel_rfl) rfl #[.int .i64 (l0.length : Int), .int .i64 1, .int .i64 60] rfl (by (try simp only [List.map_toArray, List.map_cons, List.map_nil]); first | done | rfl | (simp only [List.length_drop, List.length_take]; rfl)) ?_; (with_reducible refine (impl_within.calls (l0.length : Int) 1 60 true _ A2.out).mono ?_); rintro e w' ⟨rfl, ⟨nd, rfl⟩⟩; refine ⟨_, rfl, ?_⟩) | (go_at_call 54; (with_reducible refine (impl_allWithin.calls k _ _ l0 0 1000 false _ ?side1 ?side2 A4.out).mono ?_); (case side1 => repeat (first | exact HR0.out | (with_reducible refine Kd.C_alloc ?_ _) | (with_reducible refine Kd.C_drewN ?_ _) | (with_reducible refine Kd.C_drew ?_))); (case side2 => exact HC0.out); rintro e w' ⟨rfl, ⟨nd, rfl⟩⟩))
      go_ret
      exact ⟨by first | rfl | (simp; done) | (simp [*]; done), by repeat (first | exact Drawn0.refl _ | apply Drawn0.step)⟩
  · replace c3 := Bool.eq_false_iff.mpr c3
    subst c3
    have H1 : (some false) = some r := by rw [if_neg (show ¬ (false = true) by decide)] at H; exact H
    clear H
    have H := H1
    clear H1
    obtain rfl := Option.some.inj H
    go_enter Tryz.func19, Tryz.ntmps19
    go_wp2_with (first | ((with_reducible refine gate_callee (f := 53) rfl ?_); refine goesL_ (some 5) rfl rfl Tryz.func53 (by kernel_rfl) rfl #[.int .i64 (l0.length : Int), .int .i64 1, .int .i64 60] rfl (by (try simp only [List.map_toArray, List.map_cons, List.map_nil]); first | done | rfl | (simp only [List.length_drop, List.length_take]; rfl)) ?_; (with_reducible refine (impl_within.calls (l0.length : Int) 1 60 false _ A2.out).mono ?_); rintro e w' ⟨rfl, ⟨nd, rfl⟩⟩; refine ⟨_, rfl, ?_⟩))
    go_ret
    exact ⟨by first | rfl | (simp; done) | (simp [*]; done), by repeat (first | exact Drawn0.refl _ | apply Drawn0.step)⟩

/-! ### impl_absOf: function 56 -/
def impl_absOf.f (a0 : Int) : Option (Int) := some (mx a0 (wrap64 (-a0)))
set_option maxHeartbeats 8000000 in
set_option maxRecDepth 100000 in
theorem impl_absOf.calls (a0 : Int) (r : Int) (w : World) (h : impl_absOf.f a0 = some r) :
    Calls Tryz.prog 56 #[.int .i64 a0] w fun e w' => e = .returned (.int .i64 r) ∧ Below w.heap.size w w' := by
  have HB := Aside0.mk (Below.refl w.heap.size w)
  have H : (some (mx a0 (wrap64 (-a0)))) = some r := h
  clear h
  obtain ⟨ji2, hji2⟩ : ∃ j_ : Int, (mx a0 (wrap64 (-a0))) = j_ := ⟨_, rfl⟩
  replace H : (some ji2) = some r := by first | (rw [hji2] at H; exact H) | (simp only [hji2] at H ⊢; exact H)
  have hji2_ : (if a0 < (wrap64 (-a0)) then (wrap64 (-a0)) else a0) = ji2 := hji2
  obtain rfl := Option.some.inj H
  go_enter Tryz.func56, Tryz.ntmps56
  go_wp2
  go_ret
  exact ⟨by first | rfl | (simp [errW_none, errW_some] <;> rfl) | (simp only [← hji2]; first | rfl | (simp [errW_none, errW_some] <;> rfl)) | (simp [*, errW_none, errW_some] <;> rfl), by repeat (first | (with_reducible first | exact HB.out | apply below_alloc | apply pw_below_drewN | apply below_drew1) | exact HB.out)⟩

end Go.Proofs.YteldjmljidmffaaGreatDoor.MX
