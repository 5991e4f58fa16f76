-- The machine side, written by this repo's program mp.py; contracts marked as of this repo are this session's own.
import Derived.Test.YtknookofgnandaaMQx0
import Derived.Test.YtknookofgnandaaMQx2
namespace Go.Proofs.Ytknookofgnandaa.MQ
open Go.RowKit Go.Proofs.YtknookofgnandaaW.PrintWords Go.Proofs.YtknookofgnandaaW.PrintLast Go.Proofs.YtknookofgnandaaW.PrintMore
attribute [local go_sem] max2_int min2_int max_two min_two max_three min_three max_four min_four   -- for this text's walks alone
set_option linter.unusedVariables false
set_option linter.unusedSimpArgs false

/-! ### spec_rwPaint: function 46 (a contract of this repo) -/
/-- One colour of the next house, in the reference. -/
def spec_rwPaint.stq (c : Nat) (v : Int) (ln wn : Nat → Int) (d : Nat) (p : Int × Int) : Int × Int :=
  if d = c ∨ ln d = 1000000 then p else if wrap64 (v + ln d) < p.1 then (wrap64 (v + ln d), wn d) else if wrap64 (v + ln d) = p.1 then (p.1, wrap64 (p.2 + wn d)) else p
/-- Whether a house may not have a colour. -/
def spec_rwPaint.bad (n : Nat) (fi : Int) (ring : Bool) (i c : Nat) : Bool := (decide (i = 0) && decide ((c : Int) ≠ fi)) || (decide (i + 1 = n) && ring && decide ((c : Int) = fi))
def spec_rwPaint.P (l : List (List Int)) (n K : Nat) (fi : Int) (ring : Bool) : Nat → Nat → Int × Int
  | 0, c => if spec_rwPaint.bad n fi ring (n - 1) c = true then (1000000, 0) else (impl_paintFrom.dv l (n - 1) c, 1)
  | r + 1, c => if spec_rwPaint.bad n fi ring (n - 1 - (r + 1)) c = true then (1000000, 0) else impl_paintFrom.iter (spec_rwPaint.stq c (impl_paintFrom.dv l (n - 1 - (r + 1)) c) (fun x => (spec_rwPaint.P l n K fi ring r x).1) (fun x => (spec_rwPaint.P l n K fi ring r x).2)) K 0 (1000000, 0)
def spec_rwPaint.E1 (l : List (List Int)) (n K : Nat) (fi : Int) (ring : Bool) (x y : Nat) : Int := (spec_rwPaint.P l n K fi ring (n - 1 - x) y).1
def spec_rwPaint.E2 (l : List (List Int)) (n K : Nat) (fi : Int) (ring : Bool) (x y : Nat) : Int := (spec_rwPaint.P l n K fi ring (n - 1 - x) y).2
def spec_rwPaint.pre (f : Nat → Int) (c : Nat) : List Int := (List.range c).map f
theorem spec_rwPaint.pre_succ (f : Nat → Int) (c : Nat) : spec_rwPaint.pre f c ++ [f c] = spec_rwPaint.pre f (c + 1) := by simp [spec_rwPaint.pre, List.range_succ]
theorem spec_rwPaint.pre_len (f : Nat → Int) (c : Nat) : (spec_rwPaint.pre f c).length = c := by simp [spec_rwPaint.pre]
/-- Blocks that are no table's. -/
def spec_rwPaint.Ok (g1 g2 : Nat) (b1 b2 : Nat → Nat) (n i k : Nat) : Prop := k ≠ g1 ∧ k ≠ g2 ∧ ∀ x, i + 1 ≤ x → x < n → k ≠ b1 x ∧ k ≠ b2 x
/-- Rows that are not there yet. -/
def spec_rwPaint.Nil (w : World) (g1 g2 m : Nat) : Prop := ∀ x, x < m → w.cell? ⟨g1, x, none⟩ = some (.slice none 0 0) ∧ w.cell? ⟨g2, x, none⟩ = some (.slice none 0 0)
/-- The rows of the house at hand. -/
def spec_rwPaint.Cur (w : World) (B g1 g2 : Nat) (b1 b2 : Nat → Nat) (n i : Nat) (v1 v2 : Value) (xs ys : List Int) : Prop :=
  w.cell? ⟨g1, i, none⟩ = some v1 ∧ w.cell? ⟨g2, i, none⟩ = some v2 ∧ Kd.R (Kd.int .i64) 3 w B (fun k => spec_rwPaint.Ok g1 g2 b1 b2 n i k ∧ some k ≠ v2.ownBlock) v1 xs ∧ Kd.R (Kd.int .i64) 3 w B (fun k => spec_rwPaint.Ok g1 g2 b1 b2 n i k ∧ some k ≠ v1.ownBlock) v2 ys
/-- All that is known in a house's round. -/
def spec_rwPaint.St (w0 w : World) (B g1 g2 : Nat) (b1 c1 b2 c2 : Nat → Nat) (n K i : Nat) (d1 d2 : Nat → Nat → Int) (v1 v2 : Value) (xs ys : List Int) : Prop :=
  impl_paintFrom.Ttwo w B g1 g2 b1 c1 b2 c2 n K (i + 1) d1 d2 ∧ spec_rwPaint.Nil w g1 g2 i ∧ spec_rwPaint.Cur w B g1 g2 b1 b2 n i v1 v2 xs ys ∧ Below B w0 w
theorem spec_rwPaint.Nil.below {w w' : World} {g1 g2 m : Nat} (h : spec_rwPaint.Nil w g1 g2 m) (hb : Below w.heap.size w w') : spec_rwPaint.Nil w' g1 g2 m := fun x hx => ⟨pw_cell_below hb (h x hx).1, pw_cell_below hb (h x hx).2⟩
theorem spec_rwPaint.St.below {w0 w w' : World} {B g1 g2 : Nat} {b1 c1 b2 c2 : Nat → Nat} {n K i : Nat} {d1 d2 : Nat → Nat → Int} {v1 v2 : Value} {xs ys : List Int} (h : spec_rwPaint.St w0 w B g1 g2 b1 c1 b2 c2 n K i d1 d2 v1 v2 xs ys) (hs : B ≤ w.heap.size) (hb : Below w.heap.size w w') : spec_rwPaint.St w0 w' B g1 g2 b1 c1 b2 c2 n K i d1 d2 v1 v2 xs ys :=
  ⟨h.1.below hb, h.2.1.below hb, ⟨pw_cell_below hb h.2.2.1.1, pw_cell_below hb h.2.2.1.2.1, Kd.R_below h.2.2.1.2.2.1 hb, Kd.R_below h.2.2.1.2.2.2 hb⟩, below_then h.2.2.2 hs hb⟩
/-- A cell of the outer row ahead of what is there. -/
theorem spec_rwPaint.outer {w : World} {B g : Nat} {bl cp : Nat → Nat} {n K i : Nat} {d : Nat → Nat → Int} (h : impl_paintFrom.Tone w B g bl cp n K (i + 1) d) (v : Value) : impl_paintFrom.Tone (w.setCell ⟨g, i, none⟩ v) B g bl cp n K (i + 1) d := by
  have hne := h.ne
  obtain ⟨⟨cur, a1, a2, a3⟩, gr, inj, gt⟩ := h
  have hold : ∀ k, k ≠ g → (w.setCell ⟨g, i, none⟩ v).heap[k]? = w.heap[k]? := fun k hk => Below.heap_setCell w ⟨g, i, none⟩ _ k hk
  refine ⟨⟨cur.setIfInBounds i v, by simp [World.setCell, Array.getElem?_modify, a1], by simpa using a2, fun x hx hxn => ?_⟩, fun x hx hxn => ?_, inj, gt⟩
  · rw [Array.getElem?_setIfInBounds, if_neg (by omega)]
    exact a3 x hx hxn
  · obtain ⟨c, h1, h2, h3⟩ := gr x hx hxn
    exact ⟨c, by rw [hold _ (fun e => hne x hx hxn e.symm)]; exact h1, h2, h3⟩
theorem spec_rwPaint.set_same {w : World} {g i : Nat} {u v : Value} (h : w.cell? ⟨g, i, none⟩ = some u) : (w.setCell ⟨g, i, none⟩ v).cell? ⟨g, i, none⟩ = some v := by
  simp only [World.cell?] at h ⊢
  cases e : w.heap[g]? with
  | none => rw [e] at h; simp at h
  | some o =>
    cases o with
    | cells c t f =>
      rw [e] at h
      have hi : i < c.size := by
        by_cases q : i < c.size
        · exact q
        · simp [q] at h
      simp [World.setCell, Array.getElem?_modify, e, hi]
    | _ => rw [e] at h; simp at h
theorem spec_rwPaint.set_else {w : World} {g i : Nat} {v : Value} {a : Addr} (h : a.block ≠ g ∨ (a.block = g ∧ a.off ≠ i)) : (w.setCell ⟨g, i, none⟩ v).cell? a = w.cell? a := by
  by_cases q : a.block = g
  · have ho : a.off ≠ i := h.elim (fun z => absurd q z) (fun z => z.2)
    simp only [World.cell?]
    rw [show a.block = g from q]
    cases e : w.heap[g]? with
    | none => simp [World.setCell, Array.getElem?_modify, e]
    | some o =>
      cases o with
      | cells c t f => simp [World.setCell, Array.getElem?_modify, e, Array.getElem?_setIfInBounds, Ne.symm ho]
      | _ => simp [World.setCell, Array.getElem?_modify, e]
  · simp only [World.cell?]
    rw [Below.heap_setCell w ⟨g, i, none⟩ v a.block q]
/-- The first row grown by a number, and laid again. -/
theorem spec_rwPaint.St.app1 {w0 w w5 : World} {B g1 g2 : Nat} {b1 c1 b2 c2 : Nat → Nat} {n K i : Nat} {d1 d2 : Nat → Nat → Int} {v1 v2 v5 : Value} {xs ys zs : List Int} (h : spec_rwPaint.St w0 w B g1 g2 b1 c1 b2 c2 n K i d1 d2 v1 v2 xs ys) (hb5 : Below B w0 w5)
    (ho5 : Kd.R (Kd.int .i64) 3 w5 B (fun k => spec_rwPaint.Ok g1 g2 b1 b2 n i k ∧ some k ≠ v2.ownBlock) v5 zs) (hg5 : w.grownBy w5 v1.ownBlock) (hat5 : v5.ownBlock = v1.ownBlock ∨ ∃ b, v5.ownBlock = some b ∧ w.heap.size ≤ b) :
    spec_rwPaint.St w0 (w5.setCell ⟨g1, i, none⟩ v5) B g1 g2 b1 c1 b2 c2 n K i d1 d2 v5 v2 zs ys ∧ w5.cell? ⟨g1, i, none⟩ = some v1 ∧ w5.frozen? ⟨g1, i, none⟩ = false := by
  obtain ⟨⟨t1, t2, hgg, hx⟩, hN, ⟨k1, k2, r1, r2⟩, hB⟩ := h
  have own1 : ∀ k, some k = v1.ownBlock → spec_rwPaint.Ok g1 g2 b1 b2 n i k := fun k hk => (r1.1 k hk.symm).1
  have ng1 : some g1 ≠ v1.ownBlock := fun e => (own1 g1 e).1 rfl
  have ng2 : some g2 ≠ v1.ownBlock := fun e => (own1 g2 e).2.1 rfl
  have e1 := hg5.block g1 t1.lt.1 ng1
  have e2 := hg5.block g2 t2.lt.1 ng2
  have k1' : w5.cell? ⟨g1, i, none⟩ = some v1 := (World.cell?_of_block (a := ⟨g1, i, none⟩) e1).trans k1
  have t1' := t1.keep (w' := w5) e1 (fun x a b => hg5.block _ (t1.lt.2 x a b) (fun e => (own1 _ e).2.2 x a b |>.1 rfl))
  have t2' := t2.keep (w' := w5) e2 (fun x a b => hg5.block _ (t2.lt.2 x a b) (fun e => (own1 _ e).2.2 x a b |>.2 rfl))
  refine ⟨⟨⟨spec_rwPaint.outer t1' v5, t2'.other ⟨g1, i, none⟩ v5 (fun e => hgg e.symm) (fun x a b e => t1'.cross t2' x a b e.symm), hgg, hx⟩, fun x hx => ⟨?_, ?_⟩, ⟨spec_rwPaint.set_same k1', ?_, ?_, ?_⟩, hb5.setCell (p := ⟨g1, i, none⟩) t1.2.2.2.1 _⟩, k1', ?_⟩
  · rw [spec_rwPaint.set_else (g := g1) (i := i) (a := ⟨g1, x, none⟩) (.inr ⟨rfl, by show x ≠ i; omega⟩)]
    exact (World.cell?_of_block (a := ⟨g1, x, none⟩) e1).trans (hN x hx).1
  · rw [spec_rwPaint.set_else (.inl (fun e => hgg (show g2 = g1 from e).symm))]
    exact (World.cell?_of_block (a := ⟨g2, x, none⟩) e2).trans (hN x hx).2
  · rw [spec_rwPaint.set_else (.inl (fun e => hgg (show g2 = g1 from e).symm))]
    exact (World.cell?_of_block (a := ⟨g2, i, none⟩) e2).trans k2
  · exact Kd.R_far ho5 (fun k hk => hk.1.1) _
  · exact Kd.R_far (Kd.R_after r2 hg5 hat5) (fun k hk => hk.1.1) _
  · rw [World.frozen?_of_block (a := ⟨g1, i, none⟩) e1]
    exact t1.gfree i
/-- The second row grown by a number, and laid again. -/
theorem spec_rwPaint.St.app2 {w0 w w5 : World} {B g1 g2 : Nat} {b1 c1 b2 c2 : Nat → Nat} {n K i : Nat} {d1 d2 : Nat → Nat → Int} {v1 v2 v5 : Value} {xs ys zs : List Int} (h : spec_rwPaint.St w0 w B g1 g2 b1 c1 b2 c2 n K i d1 d2 v1 v2 xs ys) (hb5 : Below B w0 w5)
    (ho5 : Kd.R (Kd.int .i64) 3 w5 B (fun k => spec_rwPaint.Ok g1 g2 b1 b2 n i k ∧ some k ≠ v1.ownBlock) v5 zs) (hg5 : w.grownBy w5 v2.ownBlock) (hat5 : v5.ownBlock = v2.ownBlock ∨ ∃ b, v5.ownBlock = some b ∧ w.heap.size ≤ b) :
    spec_rwPaint.St w0 (w5.setCell ⟨g2, i, none⟩ v5) B g1 g2 b1 c1 b2 c2 n K i d1 d2 v1 v5 xs zs ∧ w5.cell? ⟨g2, i, none⟩ = some v2 ∧ w5.frozen? ⟨g2, i, none⟩ = false := by
  obtain ⟨⟨t1, t2, hgg, hx⟩, hN, ⟨k1, k2, r1, r2⟩, hB⟩ := h
  have own1 : ∀ k, some k = v2.ownBlock → spec_rwPaint.Ok g1 g2 b1 b2 n i k := fun k hk => (r2.1 k hk.symm).1
  have ng1 : some g1 ≠ v2.ownBlock := fun e => (own1 g1 e).1 rfl
  have ng2 : some g2 ≠ v2.ownBlock := fun e => (own1 g2 e).2.1 rfl
  have e1 := hg5.block g1 t1.lt.1 ng1
  have e2 := hg5.block g2 t2.lt.1 ng2
  have k2' : w5.cell? ⟨g2, i, none⟩ = some v2 := (World.cell?_of_block (a := ⟨g2, i, none⟩) e2).trans k2
  have t1' := t1.keep (w' := w5) e1 (fun x a b => hg5.block _ (t1.lt.2 x a b) (fun e => (own1 _ e).2.2 x a b |>.1 rfl))
  have t2' := t2.keep (w' := w5) e2 (fun x a b => hg5.block _ (t2.lt.2 x a b) (fun e => (own1 _ e).2.2 x a b |>.2 rfl))
  refine ⟨⟨⟨t1'.other ⟨g2, i, none⟩ v5 hgg (fun x a b e => t2'.cross t1' x a b e.symm), spec_rwPaint.outer t2' v5, hgg, hx⟩, fun x hx => ⟨?_, ?_⟩, ⟨?_, spec_rwPaint.set_same k2', ?_, ?_⟩, hb5.setCell (p := ⟨g2, i, none⟩) t2.2.2.2.1 _⟩, k2', ?_⟩
  · rw [spec_rwPaint.set_else (.inl (fun e => hgg (show g1 = g2 from e)))]
    exact (World.cell?_of_block (a := ⟨g1, x, none⟩) e1).trans (hN x hx).1
  · rw [spec_rwPaint.set_else (g := g2) (i := i) (a := ⟨g2, x, none⟩) (.inr ⟨rfl, by show x ≠ i; omega⟩)]
    exact (World.cell?_of_block (a := ⟨g2, x, none⟩) e2).trans (hN x hx).2
  · rw [spec_rwPaint.set_else (.inl (fun e => hgg (show g1 = g2 from e)))]
    exact (World.cell?_of_block (a := ⟨g1, i, none⟩) e1).trans k1
  · exact Kd.R_far (Kd.R_after r1 hg5 hat5) (fun k hk => hk.1.2.1) _
  · exact Kd.R_far ho5 (fun k hk => hk.1.2.1) _
  · rw [World.frozen?_of_block (a := ⟨g2, i, none⟩) e2]
    exact t2.gfree i
/-- A row that is whole is the table's. -/
theorem spec_rwPaint.grow {w : World} {B g : Nat} {bl cp : Nat → Nat} {n K i : Nat} {d : Nat → Nat → Int} {ok : Nat → Prop} {v : Value} (h : impl_paintFrom.Tone w B g bl cp n K (i + 1) d) (hi : i < n) (hK : 1 ≤ K) (hv : w.cell? ⟨g, i, none⟩ = some v) (hR : Kd.R (Kd.int .i64) 3 w B ok v (spec_rwPaint.pre (d i) K)) (hne : ∀ k, ok k → ∀ x, i + 1 ≤ x → x < n → k ≠ bl x) :
    ∃ b q, v = .slice (some ⟨b, 0, none⟩) K q ∧ q ≤ maxLen ∧ ok b ∧ impl_paintFrom.Tone w B g (fun x => if x = i then b else bl x) (fun x => if x = i then q else cp x) n K i d := by
  obtain ⟨hl, ho⟩ := Kd.own_of_R (enc := Value.int .i64) hR
  rcases ho with ⟨-, hz⟩ | ⟨b, q, cur, rfl, hB, hcur, hq, hm, hs, ht⟩
  · rw [spec_rwPaint.pre_len] at hz; omega
  · rw [spec_rwPaint.pre_len] at ht hq hv ⊢
    have hok : ok b := hR.1 b rfl
    have hnb := hne b hok
    rw [spec_rwPaint.pre_len] at hR
    obtain ⟨⟨co, a1, a2, a3⟩, gr, inj, gt⟩ := h
    refine ⟨b, q, rfl, hm, hok, ⟨co, a1, a2, fun x hx hxn => ?_⟩, fun x hx hxn => ?_, fun x x' hx hxn hx' hxn' e => ?_, gt.1, fun x hx hxn => ?_⟩
    · by_cases f : x = i
      · subst f
        simp only [World.cell?, a1] at hv
        simpa using hv
      · simpa [f] using a3 x (by omega) hxn
    · by_cases f : x = i
      · subst f
        refine ⟨cur, by simpa using hcur, by simpa using hs, fun y hy => ?_⟩
        have z := congrArg (fun l => l[y]?) ht
        simp only [List.getElem?_take, encs, spec_rwPaint.pre, List.map_map, List.getElem?_map] at z
        rw [if_pos (by omega), List.getElem?_range hy] at z
        simpa using z
      · obtain ⟨c, h1, h2, h3⟩ := gr x (by omega) hxn
        exact ⟨c, by simpa [f] using h1, by simpa [f] using h2, h3⟩
    · by_cases f : x = i <;> by_cases f' : x' = i
      · omega
      · simp only [f, f', if_true, if_false] at e
        exact absurd e (hnb x' (by omega) hxn')
      · simp only [f, f', if_true, if_false] at e
        exact absurd e.symm (hnb x (by omega) hxn)
      · simp only [f, f', if_false] at e
        exact inj x x' (by omega) hxn (by omega) hxn' e
    · by_cases f : x = i
      · simp only [f, if_true]; exact ⟨hB, hq⟩
      · simp only [f, if_false]; exact gt.2 x (by omega) hxn
theorem spec_rwPaint.St.fin {w0 w : World} {B g1 g2 : Nat} {b1 c1 b2 c2 : Nat → Nat} {n K i : Nat} {d1 d2 : Nat → Nat → Int} {v1 v2 : Value} (h : spec_rwPaint.St w0 w B g1 g2 b1 c1 b2 c2 n K i d1 d2 v1 v2 (spec_rwPaint.pre (d1 i) K) (spec_rwPaint.pre (d2 i) K)) (hi : i < n) (hK : 1 ≤ K) (hc : ∀ x, i + 1 ≤ x → x < n → c1 x ≤ maxLen ∧ c2 x ≤ maxLen) :
    ∃ b1' c1' b2' c2', impl_paintFrom.Ttwo w B g1 g2 b1' c1' b2' c2' n K i d1 d2 ∧ (∀ x, i ≤ x → x < n → c1' x ≤ maxLen ∧ c2' x ≤ maxLen) := by
  obtain ⟨⟨t1, t2, hgg, hx⟩, hN, ⟨k1, k2, r1, r2⟩, hB⟩ := h
  obtain ⟨p, q, rfl, hq, okp, T1⟩ := spec_rwPaint.grow t1 hi hK k1 r1 (fun k hk x a b => (hk.1.2.2 x a b).1)
  obtain ⟨p', q', rfl, hq', okp', T2⟩ := spec_rwPaint.grow t2 hi hK k2 r2 (fun k hk x a b => (hk.1.2.2 x a b).2)
  refine ⟨_, _, _, _, ⟨T1, T2, hgg, fun x x' a b a' b' => ?_⟩, fun x a b => ?_⟩
  · by_cases e : x = i <;> by_cases e' : x' = i
    · simp only [e, e', if_true]
      intro z
      exact okp.2 (by rw [z]; rfl)
    · simp only [e, e', if_true, if_false]; exact (okp.1.2.2 x' (by omega) b').2
    · simp only [e, e', if_true, if_false]; exact fun z => (okp'.1.2.2 x (by omega) b).1 z.symm
    · simp only [e, e', if_false]; exact hx x x' (by omega) b (by omega) b'
  · by_cases e : x = i
    · simp only [e, if_true]; exact ⟨hq, hq'⟩
    · simp only [e, if_false]; exact hc x (by omega) b
def spec_rwPaint.f : Nat → List (List Int) → Int → Bool → Option (List (List Int) × List (List Int))
  | 0, _, _, _ => none
  | _ + 1, l, a, b => if ((1 ≤ l.length ∧ l.length ≤ 20) ∧ (1 ≤ (l.getD 0 []).length ∧ (l.getD 0 []).length ≤ 5)) ∧ impl_paintFrom.Rect l l.length (l.getD 0 []).length ∧ 0 ≤ a then some (impl_paintFrom.tab l.length (l.getD 0 []).length (spec_rwPaint.E1 l l.length (l.getD 0 []).length a b), impl_paintFrom.tab l.length (l.getD 0 []).length (spec_rwPaint.E2 l l.length (l.getD 0 []).length a b)) else none
theorem spec_rwPaint.mono : ∀ a0 a1 a2 k, LeO (spec_rwPaint.f k a0 a1 a2) (spec_rwPaint.f (k + 1) a0 a1 a2) := fun a0 a1 a2 k => by
  cases k with
  | zero => exact LeO.none _
  | succ k => exact LeO.refl _
theorem spec_rwPaint.begin_ (l : List (List Int)) (n K : Nat) (fi : Int) (ring : Bool) (i c : Nat) (hi : i < n) (bd : Bool) (hb : bd = spec_rwPaint.bad n fi ring i c) :
    (if decide (bd = false ∧ i + 1 < n) = true then impl_paintFrom.iter (spec_rwPaint.stq c (impl_paintFrom.dv l i c) (fun x => spec_rwPaint.E1 l n K fi ring (i + 1) x) (fun x => spec_rwPaint.E2 l n K fi ring (i + 1) x)) (K - 0) 0 (if bd = false ∧ i + 1 = n then (impl_paintFrom.dv l i c, 1) else (1000000, 0)) else (if bd = false ∧ i + 1 = n then (impl_paintFrom.dv l i c, 1) else (1000000, 0))) = spec_rwPaint.P l n K fi ring (n - 1 - i) c := by
  by_cases q : i + 1 = n
  · rw [if_neg (by simp; omega), show n - 1 - i = 0 by omega]
    have e : i = n - 1 := by omega
    show _ = if spec_rwPaint.bad n fi ring (n - 1) c = true then (1000000, 0) else (impl_paintFrom.dv l (n - 1) c, 1)
    rw [← e, ← hb]
    cases bd with
    | true => rw [if_neg (by simp), if_pos rfl]
    | false => rw [if_pos ⟨rfl, q⟩, if_neg (by simp)]
  · have s : (if bd = false ∧ i + 1 = n then (impl_paintFrom.dv l i c, 1) else (1000000, 0)) = ((1000000, 0) : Int × Int) := if_neg (fun z => q z.2)
    rw [s]
    obtain ⟨r, hr⟩ : ∃ r, n - 1 - i = r + 1 := ⟨n - 1 - (i + 1), by omega⟩
    rw [hr]
    have e : n - 1 - (r + 1) = i := by omega
    have e2 : n - 1 - (i + 1) = r := by omega
    show _ = if spec_rwPaint.bad n fi ring (n - 1 - (r + 1)) c = true then (1000000, 0) else impl_paintFrom.iter (spec_rwPaint.stq c (impl_paintFrom.dv l (n - 1 - (r + 1)) c) (fun x => (spec_rwPaint.P l n K fi ring r x).1) (fun x => (spec_rwPaint.P l n K fi ring r x).2)) K 0 (1000000, 0)
    rw [e, ← hb]
    cases bd with
    | true => rw [if_neg (by simp), if_pos rfl]
    | false =>
      rw [if_pos (decide_eq_true ⟨rfl, by omega⟩), if_neg (by simp)]
      unfold spec_rwPaint.E1 spec_rwPaint.E2
      rw [e2]
      rfl
theorem spec_rwPaint.St.fresh1 {w0 w : World} {B g1 g2 : Nat} {b1 c1 b2 c2 : Nat → Nat} {n K i : Nat} {d1 d2 : Nat → Nat → Int} {v1 v2 : Value} {xs ys : List Int} (h : spec_rwPaint.St w0 w B g1 g2 b1 c1 b2 c2 n K i d1 d2 v1 v2 xs ys) : ∀ k, w.heap.size ≤ k → spec_rwPaint.Ok g1 g2 b1 b2 n i k ∧ some k ≠ v2.ownBlock := fun k hk => by
  have l1 := h.1.1.lt
  have l2 := h.1.2.1.lt
  have lo := Kd.R_lt h.2.2.1.2.2.2
  exact ⟨⟨by omega, by omega, fun x a b => ⟨by have := l1.2 x a b; omega, by have := l2.2 x a b; omega⟩⟩, fun e => by have := lo k e.symm; omega⟩
theorem spec_rwPaint.St.fresh2 {w0 w : World} {B g1 g2 : Nat} {b1 c1 b2 c2 : Nat → Nat} {n K i : Nat} {d1 d2 : Nat → Nat → Int} {v1 v2 : Value} {xs ys : List Int} (h : spec_rwPaint.St w0 w B g1 g2 b1 c1 b2 c2 n K i d1 d2 v1 v2 xs ys) : ∀ k, w.heap.size ≤ k → spec_rwPaint.Ok g1 g2 b1 b2 n i k ∧ some k ≠ v1.ownBlock := fun k hk => by
  have l1 := h.1.1.lt
  have l2 := h.1.2.1.lt
  have lo := Kd.R_lt h.2.2.1.2.2.1
  exact ⟨⟨by omega, by omega, fun x a b => ⟨by have := l1.2 x a b; omega, by have := l2.2 x a b; omega⟩⟩, fun e => by have := lo k e.symm; omega⟩
set_option maxHeartbeats 16000000 in
set_option maxRecDepth 100000 in
theorem spec_rwPaint.walk (l : List (List Int)) (n K : Nat) (hn : 1 ≤ n ∧ n ≤ 20) (hK : 1 ≤ K ∧ K ≤ 5) (fi : Int) (hfi : 0 ≤ fi) (ring : Bool) (b o : Nat) (rl ro rc : Nat → Nat) (c0 : Nat) (w : World) (hRG : impl_paintFrom.RG w b o rl ro rc l n K) :
    Calls Try.prog 46 #[.slice (some ⟨b, o, none⟩) n c0, .int .i64 fi, .bool ring] w fun e w' => ∃ g1 g2 b1 c1 b2 c2, e = .returned (.tuple #[.slice (some ⟨g1, 0, none⟩) n n, .slice (some ⟨g2, 0, none⟩) n n]) ∧ impl_paintFrom.Ttwo w' w.heap.size g1 g2 b1 c1 b2 c2 n K 0 (spec_rwPaint.E1 l n K fi ring) (spec_rwPaint.E2 l n K fi ring) ∧ (∀ x, x < n → c1 x ≤ maxLen ∧ c2 x ≤ maxLen) ∧ Below w.heap.size w w' := by
  have HN := Aside0.mk hn
  have HK := Aside0.mk hK
  have hK5 : K ≤ 5 := hK.2
  have HRs := Aside0.mk (show ∀ W : World, Below w.heap.size w W → impl_paintFrom.RG W b o rl ro rc l n K from fun W hW => hRG.below hW)
  have hmk2 := run_make_row' (P := Try.prog) 22 24 (.slice none 0 0) 24 Try.underlying22 (show (Try.prog.info? 24).map (fun i => (i.zero, i.size, i.bytes)) = some (some (.slice none 0 0), 1, 24) from by kernel_rfl) rfl .i64 .i64 n (by omega) (by omega)
  have hb0 := (hRG 0 (by omega)).1
  rw [Nat.add_zero] at hb0
  have hn0 : 0 < n := by omega
  clear hRG
  have ewn : IntKind.i64.wrap ((n : Int) - 1) = (n : Int) - 1 := by rw [i64_w]; unfold wrap64; omega
  have HEN := Aside0.mk ewn
  go_enter Try.func46, Try.ntmps46
  go_wp2
  go_quiet (fail)
  obtain ⟨wq, hwq⟩ : ∃ wq : World, wq = w.drewN nq := ⟨_, rfl⟩
  have HBq := Aside0.mk (show Below w.heap.size w wq by rw [hwq]; exact pw_below_drewN (Below.refl _ _) _)
  rw [← hwq]
  obtain ⟨g1, hg1⟩ : ∃ g1, g1 = wq.heap.size := ⟨_, rfl⟩
  obtain ⟨wt, hwt⟩ : ∃ wt : World, wt = (wq.alloc (.cells (madeCells #[Value.slice none 0 0] n) 24)).alloc (.cells (madeCells #[Value.slice none 0 0] n) 24) := ⟨_, rfl⟩
  have hsz := HBq.out.size
  have ha_ : wt.heap[g1]? = some (.cells (madeCells #[Value.slice none 0 0] n) 24 (0, 0)) := by rw [hwt, hg1]; exact blk_alloc (heap_alloc_new _ _) _
  have hb_ : wt.heap[g1 + 1]? = some (.cells (madeCells #[Value.slice none 0 0] n) 24 (0, 0)) := by
    have z := heap_alloc_new (wq.alloc (.cells (madeCells #[Value.slice none 0 0] n) 24)) (.cells (madeCells #[Value.slice none 0 0] n) 24)
    rw [hwt, hg1]
    simpa using z
  have HT0 := Aside0.mk (show impl_paintFrom.Ttwo wt w.heap.size g1 (g1 + 1) (fun _ => 0) (fun _ => 0) (fun _ => 0) (fun _ => 0) n K n (spec_rwPaint.E1 l n K fi ring) (spec_rwPaint.E2 l n K fi ring) from ⟨⟨⟨_, ha_, size_madeCells _ _, fun x a b => by omega⟩, fun x a b => by omega, fun x x' a b => by omega, by omega, fun x a b => by omega⟩, ⟨⟨_, hb_, size_madeCells _ _, fun x a b => by omega⟩, fun x a b => by omega, fun x x' a b => by omega, by omega, fun x a b => by omega⟩, by omega, fun x x' a b => by omega⟩)
  have HB0 := Aside0.mk (show Below w.heap.size w wt by rw [hwt]; exact below_then HBq.out hsz (below_alloc (below_alloc (Below.refl _ _) _) _))
  have HN0 := Aside0.mk (show spec_rwPaint.Nil wt g1 (g1 + 1) n from fun x hx => ⟨(blk_cell ha_ x).trans (impl_paintFrom.zeros n _ x hx), (blk_cell hb_ x).trans (impl_paintFrom.zeros n _ x hx)⟩)
  have HG1 := Aside0.mk hg1
  have HWT := Aside0.mk hwt
  clear hsz ha_ hb_ HBq hb0 hwq hg1 hwt
  go_wp2
  rw [← HWT.out, ← HG1.out]
  obtain ⟨g2, hg2⟩ : ∃ g2, g2 = g1 + 1 := ⟨_, rfl⟩
  rw [← hg2] at HT0 HN0 ⊢
  clear hmk2 hg2 ewn
  go_loopw [12] (fun iv wr => ∃ (m : Nat) (b1 c1 b2 c2 : Nat → Nat), iv = .int .i64 ((m : Int) - 1) ∧ m ≤ n ∧ Aside0 (impl_paintFrom.Ttwo wr w.heap.size g1 g2 b1 c1 b2 c2 n K m (spec_rwPaint.E1 l n K fi ring) (spec_rwPaint.E2 l n K fi ring)) ∧ Aside0 (∀ x, m ≤ x → x < n → c1 x ≤ maxLen ∧ c2 x ≤ maxLen) ∧ Aside0 (spec_rwPaint.Nil wr g1 g2 m) ∧ Aside0 (Below w.heap.size w wr)) (fun iv _ => (intOf iv + 1).toNat)
  case atStart => exact ⟨n, _, _, _, _, by first | rfl | (congr 1; omega), Nat.le_refl _, HT0, ⟨fun x a b => by omega⟩, HN0, HB0⟩
  case round =>
    clear HT0 HB0 HN0
    obtain ⟨m, b1, c1, b2, c2, rfl, hmn, HT, HCC, HNil, HB⟩ := hrel
    by_cases hm0 : 1 ≤ m
    · obtain ⟨i, rfl⟩ : ∃ i, m = i + 1 := ⟨m - 1, by omega⟩
      have hin : i < n := by omega
      have HI := Aside0.mk hin
      have ei : ((i + 1 : Nat) : Int) - 1 = (i : Int) := by omega
      have ewi : IntKind.i64.wrap ((i : Int) - 1) = (i : Int) - 1 := by rw [i64_w]; have := HN.out; unfold wrap64; omega
      have HEW := Aside0.mk ewi
      have HS0 := Aside0.mk (show spec_rwPaint.St w wr w.heap.size g1 g2 b1 c1 b2 c2 n K i (spec_rwPaint.E1 l n K fi ring) (spec_rwPaint.E2 l n K fi ring) (.slice none 0 0) (.slice none 0 0) (spec_rwPaint.pre (spec_rwPaint.E1 l n K fi ring i) 0) (spec_rwPaint.pre (spec_rwPaint.E2 l n K fi ring i) 0) from ⟨HT.out, fun x hx => HNil.out x (by omega), ⟨(HNil.out i (by omega)).1, (HNil.out i (by omega)).2, Kd.R_nil _ _ _ _ _, Kd.R_nil _ _ _ _ _⟩, HB.out⟩)
      rw [ei]
      clear hm0 hmn ei ewi HT HNil HB
      go_wp2
      go_loopw [13] (fun cv wr => ∃ (c : Nat) (v1 v2 : Value), cv = .int .i64 c ∧ c ≤ K ∧ Aside0 (spec_rwPaint.St w wr w.heap.size g1 g2 b1 c1 b2 c2 n K i (spec_rwPaint.E1 l n K fi ring) (spec_rwPaint.E2 l n K fi ring) v1 v2 (spec_rwPaint.pre (spec_rwPaint.E1 l n K fi ring i) c) (spec_rwPaint.pre (spec_rwPaint.E2 l n K fi ring i) c))) (fun cv _ => K - (intOf cv).toNat)
      case atStart => exact ⟨0, _, _, rfl, Nat.zero_le _, HS0⟩
      case round =>
        clear HS0
        obtain ⟨c, v1, v2, rfl, hcc, HS⟩ := hrel
        by_cases hcl : c < K
        · have HCL := Aside0.mk hcl
          have ewn := HEN.out
          obtain ⟨bd, hbd⟩ : ∃ bd, bd = spec_rwPaint.bad n fi ring i c := ⟨_, rfl⟩
          have HBD := Aside0.mk hbd
          clear hbd
          go_upto_region 11 with (fail)
          (try simp only [Act.put, List.setIfInBounds_toArray, List.set_cons_zero, List.set_cons_succ])
          go_cut [14, 15, 16] (fun v14 v15 v16 wc => v14 = .int .i64 1000000 ∧ v15 = .int .i64 0 ∧ v16 = .bool bd ∧ wc = wr)
          case first =>
            have z1 : decide (0 ≤ fi) = true := decide_eq_true hfi
            clear HS
            by_cases q0 : i = 0
            · have k0 : ((i : Int) == 0) = true := by rw [beq_iff_eq]; omega
              by_cases q2 : (c : Int) = fi
              · have k2 : ((c : Int) != fi) = false := by rw [bne_eq_false_iff_eq]; exact q2
                have k5 : ((c : Int) == fi) = true := by rw [beq_iff_eq]; exact q2
                by_cases q3 : i + 1 = n
                · have k3 : ((i : Int) == (n : Int) - 1) = true := by rw [beq_iff_eq]; omega
                  cases ring with
                  | false =>
                    have HV := Aside0.mk (show false = bd by rw [HBD.out]; unfold spec_rwPaint.bad; simp [q2])
                    clear q0 q2 q3
                    go_wp2
                    go_meet
                    case rel => exact ⟨rfl, rfl, by rw [← HV.out], rfl⟩
                  | true =>
                    have HV := Aside0.mk (show true = bd by rw [HBD.out]; unfold spec_rwPaint.bad; simp [q2, q3])
                    clear q0 q2 q3
                    go_wp2
                    go_meet
                    case rel => exact ⟨rfl, rfl, by rw [← HV.out], rfl⟩
                · have k3 : ((i : Int) == (n : Int) - 1) = false := by rw [beq_eq_false_iff_ne]; omega
                  have HV := Aside0.mk (show false = bd by rw [HBD.out]; unfold spec_rwPaint.bad; simp [q2, q3])
                  clear q0 q2 q3
                  go_wp2
                  go_meet
                  case rel => exact ⟨rfl, rfl, by rw [← HV.out], rfl⟩
              · have k2 : ((c : Int) != fi) = true := by rw [bne_iff_ne]; exact q2
                have HV := Aside0.mk (show true = bd by rw [HBD.out]; unfold spec_rwPaint.bad; simp [q0, q2])
                clear q0 q2
                go_wp2
                go_meet
                case rel => exact ⟨rfl, rfl, by rw [← HV.out], rfl⟩
            · have k0 : ((i : Int) == 0) = false := by rw [beq_eq_false_iff_ne]; omega
              by_cases q3 : i + 1 = n
              · have k3 : ((i : Int) == (n : Int) - 1) = true := by rw [beq_iff_eq]; omega
                cases ring with
                | false =>
                  have HV := Aside0.mk (show false = bd by rw [HBD.out]; unfold spec_rwPaint.bad; simp [q0])
                  clear q3 q0
                  go_wp2
                  go_meet
                  case rel => exact ⟨rfl, rfl, by rw [← HV.out], rfl⟩
                | true =>
                  by_cases q5 : (c : Int) = fi
                  · have k5 : ((c : Int) == fi) = true := by rw [beq_iff_eq]; exact q5
                    have HV := Aside0.mk (show true = bd by rw [HBD.out]; unfold spec_rwPaint.bad; simp [q3, q5])
                    clear q3 q5 q0
                    go_wp2
                    go_meet
                    case rel => exact ⟨rfl, rfl, by rw [← HV.out], rfl⟩
                  · have k5 : ((c : Int) == fi) = false := by rw [beq_eq_false_iff_ne]; exact q5
                    have HV := Aside0.mk (show false = bd by rw [HBD.out]; unfold spec_rwPaint.bad; simp [q5, q0])
                    clear q3 q5 q0
                    go_wp2
                    go_meet
                    case rel => exact ⟨rfl, rfl, by rw [← HV.out], rfl⟩
              · have k3 : ((i : Int) == (n : Int) - 1) = false := by rw [beq_eq_false_iff_ne]; omega
                have HV := Aside0.mk (show false = bd by rw [HBD.out]; unfold spec_rwPaint.bad; simp [q3, q0])
                clear q3 q0
                go_wp2
                go_meet
                case rel => exact ⟨rfl, rfl, by rw [← HV.out], rfl⟩
          case rest =>
            obtain ⟨rfl, rfl, rfl, rfl⟩ := hcut
            obtain ⟨v, hvv⟩ : ∃ v, v = impl_paintFrom.dv l i c := ⟨_, rfl⟩
            have hv := ((HRs.out _ HS.out.2.2.2) i HI.out)
            have hv2 := hv.2 c HCL.out
            have hv1 := hv.1
            rw [← hvv] at hv2
            have HV := Aside0.mk hvv
            clear hvv hv
            obtain ⟨tst, htst⟩ : ∃ tst : Bool, tst = decide (bd = false ∧ i + 1 = n) := ⟨_, rfl⟩
            have HTST := Aside0.mk htst
            clear htst
            go_upto_region 12 with (fail)
            (try simp only [Act.put, List.setIfInBounds_toArray, List.set_cons_zero, List.set_cons_succ])
            go_cut [76] (fun v76 wd => v76 = .bool tst ∧ wd = wc)
            case first =>
              cases bd with
              | true =>
                have HX := Aside0.mk (show false = tst by rw [HTST.out]; simp)
                go_wp2
                go_meet
                case rel => exact ⟨by rw [← HX.out], rfl⟩
              | false =>
                by_cases q3 : i + 1 = n
                · have k3 : ((i : Int) == (n : Int) - 1) = true := by rw [beq_iff_eq]; omega
                  have HX := Aside0.mk (show true = tst by rw [HTST.out]; simp [q3])
                  clear q3
                  go_wp2
                  go_meet
                  case rel => exact ⟨by rw [← HX.out], rfl⟩
                · have k3 : ((i : Int) == (n : Int) - 1) = false := by rw [beq_eq_false_iff_ne]; omega
                  have HX := Aside0.mk (show false = tst by rw [HTST.out]; simp [q3])
                  clear q3
                  go_wp2
                  go_meet
                  case rel => exact ⟨by rw [← HX.out], rfl⟩
            case rest =>
              obtain ⟨rfl, rfl⟩ := hcut
              obtain ⟨s0, hs0⟩ : ∃ s0 : Int × Int, s0 = if bd = false ∧ i + 1 = n then (v, 1) else (1000000, 0) := ⟨_, rfl⟩
              have HS0 := Aside0.mk hs0
              clear hs0
              go_upto_if 76 with (fail)
              (try simp only [Act.put, List.setIfInBounds_toArray, List.set_cons_zero, List.set_cons_succ])
              go_cut [14, 15] (fun v14 v15 wd => v14 = .int .i64 s0.1 ∧ v15 = .int .i64 s0.2 ∧ wd = wc)
              case first =>
                have hin2 := HI.out
                have hcl2 := HCL.out
                cases tst with
                | true =>
                  have HX := Aside0.mk (show ((v, 1) : Int × Int) = s0 by rw [HS0.out, if_pos (of_decide_eq_true HTST.out.symm)])
                  go_wp2
                  go_meet
                  case rel => exact ⟨by rw [← HX.out], by rw [← HX.out], rfl⟩
                | false =>
                  have HX := Aside0.mk (show ((1000000, 0) : Int × Int) = s0 by rw [HS0.out, if_neg (of_decide_eq_false HTST.out.symm)])
                  go_wp2
                  go_meet
                  case rel => exact ⟨by rw [← HX.out], by rw [← HX.out], rfl⟩
              case rest =>
                obtain ⟨rfl, rfl, rfl⟩ := hcut
                obtain ⟨act, hact⟩ : ∃ act : Bool, act = decide (bd = false ∧ i + 1 < n) := ⟨_, rfl⟩
                obtain ⟨PF, hPF⟩ : ∃ PF, PF = spec_rwPaint.P l n K fi ring (n - 1 - i) c := ⟨_, rfl⟩
                obtain ⟨j, hj⟩ : ∃ j, j = i + 1 := ⟨_, rfl⟩
                have HJ := Aside0.mk hj
                have HI0 := Aside0.mk (show (if act = true then impl_paintFrom.iter (spec_rwPaint.stq c v (fun x => spec_rwPaint.E1 l n K fi ring j x) (fun x => spec_rwPaint.E2 l n K fi ring j x)) (K - 0) 0 s0 else s0) = PF by
                  rw [hPF, HS0.out, hact, hj, HV.out]
                  exact spec_rwPaint.begin_ l n K fi ring i c HI.out bd HBD.out)
                have HACT := Aside0.mk hact
                have HPF := Aside0.mk hPF
                clear hact hPF hj hv1 hv2 ewn
                go_wp2
                go_loopw [14, 15, 17] (fun pv qv dv wr => ∃ (d m : Nat) (p q : Int), pv = .int .i64 p ∧ qv = .int .i64 q ∧ dv = .int .i64 d ∧ d ≤ K ∧ Aside0 ((if act = true then impl_paintFrom.iter (spec_rwPaint.stq c v (fun x => spec_rwPaint.E1 l n K fi ring j x) (fun x => spec_rwPaint.E2 l n K fi ring j x)) (K - d) d (p, q) else (p, q)) = PF) ∧ wr = wc.drewN m) (fun _ _ dv _ => K - (intOf dv).toNat)
                case atStart => exact ⟨0, 0, s0.1, s0.2, rfl, rfl, rfl, Nat.zero_le _, HI0, (World.drewN_zero _).symm⟩
                case round =>
                  clear HI0
                  obtain ⟨d, m, p, q, rfl, rfl, rfl, hdK, HIt, rfl⟩ := hrel
                  obtain ⟨cnt, hcnt⟩ : ∃ cnt : Bool, cnt = (act && decide (d < K)) := ⟨_, rfl⟩
                  have HCNT := Aside0.mk hcnt
                  have ewn := HEN.out
                  clear hcnt
                  go_upto_region 16 with (fail)
                  (try simp only [Act.put, List.setIfInBounds_toArray, List.set_cons_zero, List.set_cons_succ])
                  go_cut [96] (fun v96 wd => v96 = .bool cnt ∧ wd = wc.drewN m)
                  case first =>
                    by_cases q3 : i + 1 < n
                    · have k3 : decide ((i : Int) < (n : Int) - 1) = true := decide_eq_true (by omega)
                      cases bd with
                      | true =>
                        have HX := Aside0.mk (show false = cnt by rw [HCNT.out, HACT.out]; simp)
                        clear q3
                        go_wp2
                        go_meet
                        case rel => exact ⟨by rw [← HX.out], rfl⟩
                      | false =>
                        by_cases q4 : d < K
                        · have k4 : decide ((d : Int) < (K : Int)) = true := decide_eq_true (by omega)
                          have HX := Aside0.mk (show true = cnt by rw [HCNT.out, HACT.out]; simp [q3, q4])
                          clear q3
                          go_wp2
                          go_meet
                          case rel => exact ⟨by rw [← HX.out], rfl⟩
                        · have k4 : decide ((d : Int) < (K : Int)) = false := decide_eq_false (by omega)
                          have HX := Aside0.mk (show false = cnt by rw [HCNT.out, HACT.out]; simp [q4])
                          clear q3
                          go_wp2
                          go_meet
                          case rel => exact ⟨by rw [← HX.out], rfl⟩
                    · have k3 : decide ((i : Int) < (n : Int) - 1) = false := decide_eq_false (by omega)
                      have HX := Aside0.mk (show false = cnt by rw [HCNT.out, HACT.out]; simp [q3])
                      clear q3
                      go_wp2
                      go_meet
                      case rel => exact ⟨by rw [← HX.out], rfl⟩
                  case rest =>
                    obtain ⟨rfl, rfl⟩ := hcut
                    clear ewn
                    cases cnt with
                    | true =>
                      as_aux_lemma =>
                        have h2 := HCNT.out
                        simp only [Bool.true_eq, Bool.and_eq_true, decide_eq_true_eq] at h2
                        obtain ⟨ha, hdl⟩ := h2
                        have hia : i + 1 < n := (of_decide_eq_true (HACT.out.symm.trans ha)).2
                        have HDL := Aside0.mk hdl
                        have hI := HIt.out
                        rw [if_pos ha, impl_paintFrom.iter_step _ _ d hdl] at hI
                        have HIn := Aside0.mk hI
                        have HHA := Aside0.mk ha
                        have hj := HJ.out
                        have ew1 : IntKind.i64.wrap ((i : Int) + 1) = (j : Int) := by rw [i64_w]; have := HN.out; unfold wrap64; omega
                        have hjn : j < n := by omega
                        have HSm := Aside0.mk (HS.out.below HS.out.2.2.2.size (pw_below_drewN (Below.refl wc.heap.size wc) m))
                        have hr1 := HSm.out.1.1.row j (by omega) hjn
                        have hr2 := HSm.out.1.2.1.row j (by omega) hjn
                        have hc1 := HSm.out.1.1.cell j d (by omega) hjn hdl
                        have hc2 := HSm.out.1.2.1.cell j d (by omega) hjn hdl
                        have hv1 := ((HRs.out _ HSm.out.2.2.2) i HI.out).1
                        have hv2 := ((HRs.out _ HSm.out.2.2.2) i HI.out).2 c HCL.out
                        rw [← HV.out] at hv2
                        have hs1 := HS.out.1.1.row j (by omega) hjn
                        have hs2 := HS.out.1.2.1.row j (by omega) hjn
                        have hs3 := HS.out.1.1.cell j d (by omega) hjn hdl
                        have hs4 := HS.out.1.2.1.cell j d (by omega) hjn hdl
                        have hs5 := ((HRs.out _ HS.out.2.2.2) i HI.out).1
                        have hs6 := ((HRs.out _ HS.out.2.2.2) i HI.out).2 c HCL.out
                        rw [← HV.out] at hs6
                        obtain ⟨ln, hln⟩ : ∃ ln, ln = spec_rwPaint.E1 l n K fi ring j d := ⟨_, rfl⟩
                        obtain ⟨wn, hwn⟩ : ∃ wn, wn = spec_rwPaint.E2 l n K fi ring j d := ⟨_, rfl⟩
                        rw [← hln] at hc1 hs3
                        rw [← hwn] at hc2 hs4
                        obtain ⟨sm, hsm⟩ : ∃ sm, sm = wrap64 (v + ln) := ⟨_, rfl⟩
                        have esm : IntKind.i64.wrap (v + ln) = sm := (i64_w _).trans hsm.symm
                        have HQ := Aside0.mk (show spec_rwPaint.stq c v (fun x => spec_rwPaint.E1 l n K fi ring j x) (fun x => spec_rwPaint.E2 l n K fi ring j x) d (p, q) = if d = c ∨ ln = 1000000 then (p, q) else if sm < p then (sm, wn) else if sm = p then (p, wrap64 (q + wn)) else (p, q) by
                          rw [hsm, hln, hwn]
                          rfl)
                        have hin2 := HI.out
                        have hcl2 := HCL.out
                        clear hI hln hwn hsm ha hj
                        by_cases q1 : d = c
                        · have k1 : ((d : Int) == (c : Int)) = true := by rw [beq_iff_eq]; omega
                          have HN2 := Aside0.mk (show (if act = true then impl_paintFrom.iter (spec_rwPaint.stq c v (fun x => spec_rwPaint.E1 l n K fi ring j x) (fun x => spec_rwPaint.E2 l n K fi ring j x)) (K - (d + 1)) (d + 1) (p, q) else (p, q)) = PF by rw [if_pos HHA.out]; have z := HIn.out; rw [HQ.out, if_pos (Or.inl q1)] at z; exact z)
                          clear q1
                          go_wp2
                          go_roundw
                          case rel => exact ⟨d + 1, m, p, q, rfl, rfl, by go_num, by have := HDL.out; omega, HN2, rfl⟩
                          case measure => have := HDL.out; simp [intOf]; omega
                        · have k1 : ((d : Int) == (c : Int)) = false := by rw [beq_eq_false_iff_ne]; omega
                          by_cases q2 : ln = 1000000
                          · have k2 : (ln == 1000000) = true := by rw [beq_iff_eq]; exact q2
                            have HN2 := Aside0.mk (show (if act = true then impl_paintFrom.iter (spec_rwPaint.stq c v (fun x => spec_rwPaint.E1 l n K fi ring j x) (fun x => spec_rwPaint.E2 l n K fi ring j x)) (K - (d + 1)) (d + 1) (p, q) else (p, q)) = PF by rw [if_pos HHA.out]; have z := HIn.out; rw [HQ.out, if_pos (Or.inr q2)] at z; exact z)
                            clear q1 q2
                            go_wp2
                            go_roundw
                            case rel => exact ⟨d + 1, m, p, q, rfl, rfl, by go_num, by have := HDL.out; omega, HN2, rfl⟩
                            case measure => have := HDL.out; simp [intOf]; omega
                          · have k2 : (ln == 1000000) = false := by rw [beq_eq_false_iff_ne]; exact q2
                            have hS := HQ.out
                            rw [if_neg (fun h => h.elim q1 q2)] at hS
                            clear q1 q2
                            by_cases q4 : sm < p
                            · have k4 : decide (sm < p) = true := decide_eq_true q4
                              rw [if_pos q4] at hS
                              have HN2 := Aside0.mk (show (if act = true then impl_paintFrom.iter (spec_rwPaint.stq c v (fun x => spec_rwPaint.E1 l n K fi ring j x) (fun x => spec_rwPaint.E2 l n K fi ring j x)) (K - (d + 1)) (d + 1) (sm, wn) else (sm, wn)) = PF by rw [if_pos HHA.out]; have z := HIn.out; rw [hS] at z; exact z)
                              clear q4 hS
                              go_wp2
                              go_quiet (fail)
                              go_wp2
                              go_roundw
                              case rel => exact ⟨d + 1, m + nq, sm, wn, rfl, rfl, by go_num, by have := HDL.out; omega, HN2, by first | rfl | exact World.drewN_drewN _ _ _⟩
                              case measure => have := HDL.out; simp [intOf]; omega
                            · have k4 : decide (sm < p) = false := decide_eq_false q4
                              rw [if_neg q4] at hS
                              by_cases q5 : sm = p
                              · have k5 : (sm == p) = true := by rw [beq_iff_eq]; exact q5
                                rw [if_pos q5] at hS
                                obtain ⟨qv, hqv⟩ : ∃ qv, qv = wrap64 (q + wn) := ⟨_, rfl⟩
                                have eqv : IntKind.i64.wrap (q + wn) = qv := (i64_w _).trans hqv.symm
                                rw [← hqv] at hS
                                have HN2 := Aside0.mk (show (if act = true then impl_paintFrom.iter (spec_rwPaint.stq c v (fun x => spec_rwPaint.E1 l n K fi ring j x) (fun x => spec_rwPaint.E2 l n K fi ring j x)) (K - (d + 1)) (d + 1) (p, qv) else (p, qv)) = PF by rw [if_pos HHA.out]; have z := HIn.out; rw [hS] at z; exact z)
                                clear q4 q5 hS hqv
                                go_wp2
                                go_quiet (fail)
                                go_wp2
                                go_roundw
                                case rel => exact ⟨d + 1, m + nq, p, qv, rfl, rfl, by go_num, by have := HDL.out; omega, HN2, by first | rfl | exact World.drewN_drewN _ _ _⟩
                                case measure => have := HDL.out; simp [intOf]; omega
                              · have k5 : (sm == p) = false := by rw [beq_eq_false_iff_ne]; exact q5
                                rw [if_neg q5] at hS
                                have HN2 := Aside0.mk (show (if act = true then impl_paintFrom.iter (spec_rwPaint.stq c v (fun x => spec_rwPaint.E1 l n K fi ring j x) (fun x => spec_rwPaint.E2 l n K fi ring j x)) (K - (d + 1)) (d + 1) (p, q) else (p, q)) = PF by rw [if_pos HHA.out]; have z := HIn.out; rw [hS] at z; exact z)
                                clear q4 q5 hS
                                go_wp2
                                go_quiet (fail)
                                go_wp2
                                go_roundw
                                case rel => exact ⟨d + 1, m + nq, p, q, rfl, rfl, by go_num, by have := HDL.out; omega, HN2, by first | rfl | exact World.drewN_drewN _ _ _⟩
                                case measure => have := HDL.out; simp [intOf]; omega
                    | false =>
                      as_aux_lemma =>
                        have hpq : (p, q) = PF := by
                          have z := HIt.out
                          cases act with
                          | false => rw [if_neg (by simp)] at z; exact z
                          | true =>
                            have h2 := HCNT.out
                            simp only [Bool.true_and] at h2
                            have hdk : d = K := by have := of_decide_eq_false h2.symm; omega
                            rw [if_pos rfl, hdk, Nat.sub_self] at z
                            exact z
                        have HPQ := Aside0.mk (show p = spec_rwPaint.E1 l n K fi ring i c ∧ q = spec_rwPaint.E2 l n K fi ring i c by
                          have z := hpq.trans HPF.out
                          exact ⟨congrArg Prod.fst z, congrArg Prod.snd z⟩)
                        clear hpq
                        have HI2 := Aside0.mk (show (Try.prog.info? 3).map (fun i => (i.zero, i.size, i.bytes)) = some (some (.int .i64 0), 1, 8) from by kernel_rfl)
                        obtain ⟨A1, q1, e1⟩ := Kd.R_slice HS.out.2.2.1.2.2.1
                        obtain ⟨A2, q2, e2⟩ := Kd.R_slice HS.out.2.2.1.2.2.2
                        rw [spec_rwPaint.pre_len] at e1 e2
                        subst e1
                        subst e2
                        have HSm := Aside0.mk (HS.out.below HS.out.2.2.2.size (pw_below_drewN (Below.refl wc.heap.size wc) m))
                        have hk1 := HSm.out.2.2.1.1
                        have hk2 := HS.out.2.2.1.1
                        have hin2 := HI.out
                        clear HS
                        go_wp2_with (first | ((with_reducible refine gate_builtin (b := .append) (xs := #[.tmp 161, .tmp 163]) rfl ?_); at_builtin; refine Kd.R_append (Kd.int .i64) (w0 := w) w.heap.size rfl (.tmp 161) (.tmp 163) 24 3 (.int .i64 0) 8 rfl Try.underlying24 HI2.out rfl (by decide) (by omega) _ (spec_rwPaint.pre (spec_rwPaint.E1 l n K fi ring i) c) p [.int .i64 p] (fun k => spec_rwPaint.Ok g1 g2 b1 b2 n i k ∧ some k ≠ (Value.slice A2 c q2).ownBlock) (fun _ => False) rfl ?aX ?aP (fun _ hk => hk.elim) ?aF ?aO ?aB ?aS ?aL ?_; (case aX => first | rfl | (simp; done) | (simp; rfl)); (case aP => exact rfl); (case aF => exact HSm.out.fresh1); (case aO => exact HSm.out.2.2.1.2.2.1); (case aB => exact HSm.out.2.2.2); (case aS => exact HSm.out.2.2.2.size); (case aL => (rw [spec_rwPaint.pre_len]; omega)); intro v5 w5 ho5 hb5 hg5 hat5; have hA := HSm.out.app1 hb5 ho5 hg5 hat5; obtain ⟨A5, q5, e5⟩ := Kd.R_slice ho5; rw [List.length_append, spec_rwPaint.pre_len, List.length_singleton] at e5; subst e5; have hx5 := hA.2.1; have hf5 := hA.2.2; have HA := Aside0.mk hA.1; have hy5 := hA.1.2.2.1.2.1; clear hA ho5 hb5 hg5 hat5) | ((with_reducible refine gate_builtin (b := .append) (xs := #[.tmp 171, .tmp 173]) rfl ?_); at_builtin; refine Kd.R_append (Kd.int .i64) (w0 := w) w.heap.size rfl (.tmp 171) (.tmp 173) 24 3 (.int .i64 0) 8 rfl Try.underlying24 HI2.out rfl (by decide) (by omega) _ (spec_rwPaint.pre (spec_rwPaint.E2 l n K fi ring i) c) q [.int .i64 q] (fun k => spec_rwPaint.Ok g1 g2 b1 b2 n i k ∧ some k ≠ (Value.slice A5 (c + 1) q5).ownBlock) (fun _ => False) rfl ?aX ?aP (fun _ hk => hk.elim) ?aF ?aO ?aB ?aS ?aL ?_; (case aX => first | rfl | (simp; done) | (simp; rfl)); (case aP => exact rfl); (case aF => exact HA.out.fresh2); (case aO => exact HA.out.2.2.1.2.2.2); (case aB => exact HA.out.2.2.2); (case aS => exact HA.out.2.2.2.size); (case aL => (rw [spec_rwPaint.pre_len]; omega)); intro v6 w6 ho6 hb6 hg6 hat6; have hC := HA.out.app2 hb6 ho6 hg6 hat6; obtain ⟨A6, q6, e6⟩ := Kd.R_slice ho6; rw [List.length_append, spec_rwPaint.pre_len, List.length_singleton] at e6; subst e6; have hx6 := hC.2.1; have hf6 := hC.2.2; have HC := Aside0.mk hC.1; clear hC ho6 hb6 hg6 hat6))
                        go_roundw
                        case rel => exact ⟨c + 1, _, _, by go_num, by have := HCL.out; omega, ⟨by have z := HC.out; rw [HPQ.out.1, HPQ.out.2, spec_rwPaint.pre_succ, spec_rwPaint.pre_succ] at z; exact z⟩⟩
                        case measure => have := HCL.out; simp [intOf]; omega
        · obtain rfl : c = K := by omega
          obtain ⟨b1', c1', b2', c2', hT, hC⟩ := HS.out.fin HI.out HK.out.1 HCC.out
          have HT9 := Aside0.mk hT
          have HC9 := Aside0.mk hC
          have HN9 := Aside0.mk HS.out.2.1
          have HB9 := Aside0.mk HS.out.2.2.2
          have ewi := HEW.out
          clear hcl hT hC
          go_wp2
          go_roundw
          case rel => exact ⟨i, b1', c1', b2', c2', rfl, by have := HI.out; omega, HT9, HC9, HN9, HB9⟩
          case measure => first | (simp [intOf]; done) | (simp [intOf]; omega)
    · obtain rfl : m = 0 := by omega
      clear hm0
      go_wp2
      refine bodyPost_ret (results_list (rs := [.tmp 6, .tmp 7]) rfl (by simp) (.tmp (.tmp .nil))) rfl ?_
      exact ⟨g1, g2, b1, c1, b2, c2, rfl, HT.out, fun x hx => HCC.out x (Nat.zero_le _) hx, HB.out⟩
theorem spec_rwPaint.calls (k : Nat) (A0 : Option Addr) (c0 : Nat) (l0 : List (List Int)) (a1 : Int) (a2 : Bool) (r1 r2 : List (List Int)) (w : World) (hr0 : Kd.C (Kd.slice 3 (Kd.int .i64)) w A0 l0.length l0) (hc0 : l0.length ≤ c0) (h : spec_rwPaint.f k l0 a1 a2 = some (r1, r2)) :
    Calls Try.prog 46 #[.slice A0 l0.length c0, .int .i64 a1, .bool a2] w fun e w' => ∃ v0_ v1_ : Value, e = .returned (.tuple #[v0_, v1_]) ∧ Kd.S (Kd.slice 3 (Kd.int .i64)) 24 w' w.heap.size (fun k_ => some k_ ≠ v1_.ownBlock) v0_ r1 ∧ Kd.S (Kd.slice 3 (Kd.int .i64)) 24 w' w.heap.size (fun k_ => some k_ ≠ v0_.ownBlock) v1_ r2 ∧ Below w.heap.size w w' := by
  cases k with
  | zero => cases h
  | succ k =>
    simp only [spec_rwPaint.f] at h
    by_cases c : ((1 ≤ l0.length ∧ l0.length ≤ 20) ∧ (1 ≤ (l0.getD 0 []).length ∧ (l0.getD 0 []).length ≤ 5)) ∧ impl_paintFrom.Rect l0 l0.length (l0.getD 0 []).length ∧ 0 ≤ a1
    case neg => rw [if_neg c] at h; cases h
    rw [if_pos c] at h
    obtain ⟨⟨hn, hcw⟩, hR, h0⟩ := c
    obtain ⟨h1, h2⟩ := Prod.mk.inj (Option.some.inj h)
    subst h1
    subst h2
    obtain ⟨b, o, rl, ro, rc, rfl, hG⟩ := impl_paintFrom.rg hr0 hR (by omega) (by omega)
    refine (spec_rwPaint.walk l0 l0.length (l0.getD 0 []).length hn hcw a1 h0 a2 b o rl ro rc c0 w hG).mono ?_
    rintro e w' ⟨g1, g2, b1, c1, b2, c2, rfl, hT, hcp, hB⟩
    exact ⟨_, _, rfl, hT.1.own2 hT.2.1 hT.2.2.1 hn.2 hcw.2 (fun x hx => (hcp x hx).1), hT.2.1.own2 hT.1 (Ne.symm hT.2.2.1) hn.2 hcw.2 (fun x hx => (hcp x hx).2), hB⟩

end Go.Proofs.Ytknookofgnandaa.MQ
