-- The machine side, written by this repo's program mp.py; contracts marked as of this repo are this session's own.
import Derived.Test.YtdhdkkhbgfcoiaaMXx0
import Derived.Test.YtdhdkkhbgfcoiaaMXx3
import Derived.Test.YtdhdkkhbgfcoiaaMXx4
import Derived.Test.YtdhdkkhbgfcoiaaMXx5
namespace Go.Proofs.Ytdhdkkhbgfcoiaa.MX
open Go.RowKit Go.Proofs.YtdhdkkhbgfcoiaaW.PrintWords Go.Proofs.YtdhdkkhbgfcoiaaW.PrintLast Go.Proofs.YtdhdkkhbgfcoiaaW.PrintMore
attribute [local go_sem] max2_int min2_int max_two min_two max_three min_three max_four min_four   -- for this text's walks alone
set_option maxHeartbeats 8000000
set_option maxRecDepth 100000
set_option linter.unusedVariables false
set_option linter.unusedSimpArgs false
open Go.Proofs.Ytdhdkkhbgfcoiaa.Lib (Far Bfs Leads theFar)
def impl_distancesBy.Grid (w : World) (g : Nat) (bl : Nat → Nat) (wide high : Nat) (d : Nat → Nat → Int) : Prop :=
 (∃ cur : Array Value, w.heap[g]? = some (.cells cur 26 (0, 0)) ∧ cur.size = wide ∧ ∀ x, x < wide → cur[x]? = some (.slice (some ⟨bl x, 0, none⟩) high high)) ∧
 (∀ x, x < wide → ∃ c : Array Value, w.heap[bl x]? = some (.cells c 3 (0, 0)) ∧ c.size = high ∧ ∀ y, y < high → c[y]? = some (.int .i64 (d x y))) ∧
 ∀ x x', x < wide → x' < wide → bl x = bl x' → x = x'
theorem impl_distancesBy.Grid.row {w : World} {g : Nat} {bl : Nat → Nat} {wide high : Nat} {d : Nat → Nat → Int} (h : impl_distancesBy.Grid w g bl wide high d) (x : Nat) (hx : x < wide) : w.cell? ⟨g, x, none⟩ = some (.slice (some ⟨bl x, 0, none⟩) high high) := by
 obtain ⟨⟨cur, h1, h2, h3⟩, -, -⟩ := h
 simp only [World.cell?, h1]
 simpa using h3 x hx
theorem impl_distancesBy.Grid.cell {w : World} {g : Nat} {bl : Nat → Nat} {wide high : Nat} {d : Nat → Nat → Int} (h : impl_distancesBy.Grid w g bl wide high d) (x y : Nat) (hx : x < wide) (hy : y < high) : w.cell? ⟨bl x, y, none⟩ = some (.int .i64 (d x y)) := by
 obtain ⟨c, h1, h2, h3⟩ := h.2.1 x hx
 simp only [World.cell?, h1]
 simpa using h3 y hy
theorem impl_distancesBy.Grid.free {w : World} {g : Nat} {bl : Nat → Nat} {wide high : Nat} {d : Nat → Nat → Int} (h : impl_distancesBy.Grid w g bl wide high d) (x y : Nat) (hx : x < wide) : w.frozen? ⟨bl x, y, none⟩ = false := by
 obtain ⟨c, h1, h2, h3⟩ := h.2.1 x hx
 simp [World.frozen?, h1]
theorem impl_distancesBy.Grid.set {w : World} {g : Nat} {bl : Nat → Nat} {wide high : Nat} {d : Nat → Nat → Int} (h : impl_distancesBy.Grid w g bl wide high d) (x y : Nat) (hx : x < wide) (hy : y < high) (v : Int) : impl_distancesBy.Grid (w.setCell ⟨bl x, y, none⟩ (.int .i64 v)) g bl wide high (fun a b => if a = x ∧ b = y then v else d a b) := by
 obtain ⟨c, h1, h2, h3⟩ := h.2.1 x hx
 obtain ⟨⟨cur, g1, g2, g3⟩, gr, inj⟩ := h
 have hne : g ≠ bl x := by
  intro e
  rw [e, h1] at g1
  simp at g1
 have hold : ∀ k, k ≠ bl x → (w.setCell ⟨bl x, y, none⟩ (.int .i64 v)).heap[k]? = w.heap[k]? := fun k hk => Below.heap_setCell w ⟨bl x, y, none⟩ _ k hk
 refine ⟨⟨cur, by rw [hold g hne]; exact g1, g2, g3⟩, fun a ha => ?_, inj⟩
 by_cases e : a = x
 ·subst e
  refine ⟨c.setIfInBounds y (.int .i64 v), by simp [World.setCell, Array.getElem?_modify, h1], by simpa using h2, fun b hb => ?_⟩
  rw [Array.getElem?_setIfInBounds]
  by_cases f : y = b
  ·subst f; simp [h2, hb]
  ·rw [if_neg f, h3 b hb]
   simp [Ne.symm f]
 ·have hb : bl a ≠ bl x := fun z => e (inj a x ha hx z)
  obtain ⟨c', h1', h2', h3'⟩ := gr a ha
  refine ⟨c', by rw [hold _ hb]; exact h1', h2', fun b hb' => ?_⟩
  rw [h3' b hb']
  simp [e]
theorem impl_distancesBy.Grid.below {w w' : World} {g : Nat} {bl : Nat → Nat} {wide high : Nat} {d : Nat → Nat → Int} (h : impl_distancesBy.Grid w g bl wide high d) (hb : Below w.heap.size w w') : impl_distancesBy.Grid w' g bl wide high d := by
 obtain ⟨⟨cur, g1, g2, g3⟩, gr, inj⟩ := h
 refine ⟨⟨cur, by rw [hb.block g (Array.getElem?_eq_some_iff.1 g1).1]; exact g1, g2, g3⟩, fun a ha => ?_, inj⟩
 obtain ⟨c, h1, h2, h3⟩ := gr a ha
 exact ⟨c, by rw [hb.block _ (Array.getElem?_eq_some_iff.1 h1).1]; exact h1, h2, h3⟩
def impl_distancesBy.Part (w : World) (g : Nat) (bl : Nat → Nat) (wide high j : Nat) (v : Int) : Prop :=
 (∃ cur : Array Value, w.heap[g]? = some (.cells cur 26 (0, 0)) ∧ cur.size = wide ∧ ∀ x, x < j → cur[x]? = some (.slice (some ⟨bl x, 0, none⟩) high high)) ∧
 (∀ x, x < j → ∃ c : Array Value, w.heap[bl x]? = some (.cells c 3 (0, 0)) ∧ c.size = high ∧ ∀ y, y < high → c[y]? = some (.int .i64 v)) ∧
 (∀ x x', x < j → x' < j → bl x = bl x' → x = x') ∧ ∀ x, x < j → g < bl x
theorem impl_distancesBy.Part.below {w w' : World} {g : Nat} {bl : Nat → Nat} {wide high j : Nat} {v : Int} (h : impl_distancesBy.Part w g bl wide high j v) (hb : Below w.heap.size w w') : impl_distancesBy.Part w' g bl wide high j v := by
 obtain ⟨⟨cur, g1, g2, g3⟩, gr, inj, gt⟩ := h
 refine ⟨⟨cur, by rw [hb.block g (Array.getElem?_eq_some_iff.1 g1).1]; exact g1, g2, g3⟩, fun a ha => ?_, inj, gt⟩
 obtain ⟨c, h1, h2, h3⟩ := gr a ha
 exact ⟨c, by rw [hb.block _ (Array.getElem?_eq_some_iff.1 h1).1]; exact h1, h2, h3⟩
theorem impl_distancesBy.Part.put {w : World} {g : Nat} {bl : Nat → Nat} {wide high j : Nat} {v : Int} (h : impl_distancesBy.Part w g bl wide high j v) (hj : j < wide) (b : Nat) (hb : g < b) (hnew : ∀ x, x < j → bl x ≠ b) (c : Array Value) (h1 : w.heap[b]? = some (.cells c 3 (0, 0))) (h2 : c.size = high) (h3 : ∀ y, y < high → c[y]? = some (.int .i64 v)) :
  impl_distancesBy.Part (w.setCell ⟨g, j, none⟩ (.slice (some ⟨b, 0, none⟩) high high)) g (fun x => if x = j then b else bl x) wide high (j + 1) v := by
 obtain ⟨⟨cur, g1, g2, g3⟩, gr, inj, gt⟩ := h
 have hold : ∀ k, k ≠ g → (w.setCell ⟨g, j, none⟩ (.slice (some ⟨b, 0, none⟩) high high)).heap[k]? = w.heap[k]? := fun k hk => Below.heap_setCell w ⟨g, j, none⟩ _ k hk
 refine ⟨⟨cur.setIfInBounds j (.slice (some ⟨b, 0, none⟩) high high), by simp [World.setCell, Array.getElem?_modify, g1], by simpa using g2, fun x hx => ?_⟩, fun x hx => ?_, fun x x' hx hx' e => ?_, fun x hx => ?_⟩
 ·rw [Array.getElem?_setIfInBounds]
  by_cases f : j = x
  ·subst f; simp [g2, hj]
  ·rw [if_neg f, g3 x (by omega)]; simp [Ne.symm f]
 ·by_cases f : x = j
  ·subst f
   refine ⟨c, ?_, h2, h3⟩
   rw [hold _ (by simp; omega)]
   simpa using h1
  ·obtain ⟨c', a1, a2, a3⟩ := gr x (by omega)
   have := gt x (by omega)
   refine ⟨c', ?_, a2, a3⟩
   rw [hold _ (by simp [f]; omega)]
   simpa [f] using a1
 ·by_cases f : x = j <;> by_cases f' : x' = j
  ·omega
  ·simp [f, f'] at e; exact absurd e.symm (hnew x' (by omega))
  ·simp [f, f'] at e; exact absurd e (hnew x (by omega))
  ·simp [f, f'] at e; exact inj x x' (by omega) (by omega) e
 ·by_cases f : x = j
  ·simp [f]; exact hb
  ·simp [f]; exact gt x (by omega)
def impl_distancesBy.pt (p : Nat × Nat) : List Int := [(p.1 : Int), (p.2 : Int)]
def impl_distancesBy.ok (g : Nat) (bl : Nat → Nat) (wide it : Nat) (k : Nat) : Prop := (k ≠ g ∧ ∀ x, x < wide → k ≠ bl x) ∧ k ≠ it
def impl_distancesBy.St (w wr : World) (g : Nat) (bl : Nat → Nat) (wide high it : Nat) (q : List (Nat × Nat)) (d : Nat × Nat → Int) (Q : Value) : Prop :=
 impl_distancesBy.Grid wr g bl wide high (fun x y => d (x, y)) ∧ Kd.N (Kd.slice 3 (Kd.int .i64)) 26 wr w.heap.size (impl_distancesBy.ok g bl wide it) Q (q.map impl_distancesBy.pt) ∧ Below w.heap.size w wr ∧ (w.heap.size ≤ g ∧ ∀ x, x < wide → w.heap.size ≤ bl x)
def impl_distancesBy.Row (wr : World) (g : Nat) (bl : Nat → Nat) (wide it : Nat) (Q : Value) (A : Option Addr) (p : Nat × Nat) : Prop := Kd.F (Kd.int .i64) wr (fun k => impl_distancesBy.ok g bl wide it k ∧ some k ≠ Q.ownBlock) A 2 (impl_distancesBy.pt p)
theorem impl_distancesBy.Grid.move {w w' : World} {g : Nat} {bl : Nat → Nat} {wide high : Nat} {d : Nat → Nat → Int} (h : impl_distancesBy.Grid w g bl wide high d) (hg : w'.heap[g]? = w.heap[g]?) (hb : ∀ x, x < wide → w'.heap[bl x]? = w.heap[bl x]?) : impl_distancesBy.Grid w' g bl wide high d := by
 obtain ⟨⟨cur, g1, g2, g3⟩, gr, inj⟩ := h
 refine ⟨⟨cur, by rw [hg]; exact g1, g2, g3⟩, fun a ha => ?_, inj⟩
 obtain ⟨c, h1, h2, h3⟩ := gr a ha
 exact ⟨c, by rw [hb a ha]; exact h1, h2, h3⟩
theorem impl_distancesBy.Grid.lt {w : World} {g : Nat} {bl : Nat → Nat} {wide high : Nat} {d : Nat → Nat → Int} (h : impl_distancesBy.Grid w g bl wide high d) : g < w.heap.size ∧ ∀ x, x < wide → bl x < w.heap.size := by
 obtain ⟨⟨cur, g1, g2, g3⟩, gr, inj⟩ := h
 refine ⟨(Array.getElem?_eq_some_iff.1 g1).1, fun x hx => ?_⟩
 obtain ⟨c, h1, h2, h3⟩ := gr x hx
 exact (Array.getElem?_eq_some_iff.1 h1).1
theorem impl_distancesBy.Grid.ext {w : World} {g : Nat} {bl : Nat → Nat} {wide high : Nat} {d d' : Nat → Nat → Int} (h : impl_distancesBy.Grid w g bl wide high d) (e : ∀ x y, x < wide → y < high → d x y = d' x y) : impl_distancesBy.Grid w g bl wide high d' := by
 obtain ⟨g1, gr, inj⟩ := h
 refine ⟨g1, fun a ha => ?_, inj⟩
 obtain ⟨c, h1, h2, h3⟩ := gr a ha
 exact ⟨c, h1, h2, fun y hy => by rw [h3 y hy, e a y ha hy]⟩
def impl_distancesBy.tab (wide high : Nat) (d : Nat × Nat → Int) : List (List Int) := (List.range wide).map fun x => (List.range high).map fun y => d (x, y)
open Classical in
theorem impl_distancesBy.Grid.own {w : World} {g : Nat} {bl : Nat → Nat} {wide high : Nat} {d : Nat × Nat → Int} (h : impl_distancesBy.Grid w g bl wide high (fun x y => d (x, y))) (hw : wide ≤ 8) (hh : high ≤ 8) (B : Nat) (hB : B ≤ g ∧ ∀ x, x < wide → B ≤ bl x) :
  Kd.S (Kd.slice 3 (Kd.int .i64)) 26 w B (fun _ => True) (.slice (some ⟨g, 0, none⟩) wide wide) (impl_distancesBy.tab wide high d) := by
 obtain ⟨⟨cur, g1, g2, g3⟩, gr, inj⟩ := h
 have hne : ∀ x, x < wide → g ≠ bl x := fun x hx e => by
  obtain ⟨c, h1, -, -⟩ := gr x hx
  rw [← e, g1] at h1
  simp at h1
 have hlen : (impl_distancesBy.tab wide high d).length = wide := by simp [impl_distancesBy.tab]
 refine ⟨fun k => if h : ∃ x, x < wide ∧ bl x = k then Classical.choose h else 0, fun _ _ => trivial, (List.range wide).map fun x => Value.slice (some ⟨bl x, 0, none⟩) high high, ⟨by simp [impl_distancesBy.tab, Kd.tag, Kd.slice], .inr ⟨g, wide, cur, by rw [List.length_zipIdx, hlen], hB.1, g1, by rw [List.length_zipIdx, hlen]; exact Nat.le_refl _, by simp [maxLen]; omega, by simp [Kd.tag, Kd.slice, g2], ?_⟩⟩, by simp [impl_distancesBy.tab, Kd.tag, Kd.slice], fun j p hj => ?_⟩
 ·rw [List.length_zipIdx, hlen]
  refine List.ext_getElem? (fun j => ?_)
  simp only [Kd.tag, Kd.slice, Nat.mul_one, List.getElem?_take, List.getElem?_map]
  by_cases hj : j < wide
  ·rw [if_pos hj, List.getElem?_range hj]
   have z := g3 j hj
   rw [← Array.getElem?_toList] at z
   rw [z]
   rfl
  ·rw [if_neg hj, List.getElem?_eq_none (by simp; omega)]
   rfl
 ·rw [List.getElem?_zipIdx] at hj
  have hjw : j < wide := by
   by_cases e : j < wide
   ·exact e
   ·rw [List.getElem?_eq_none (by rw [hlen]; omega)] at hj
    simp at hj
  obtain ⟨c, h1, h2, h3⟩ := gr j hjw
  have hp : p = ((List.range high).map fun y => d (j, y), j) := by
   simp only [impl_distancesBy.tab, List.getElem?_map, List.getElem?_range hjw, Option.map_some, Nat.zero_add, Option.some.injEq] at hj
   exact hj.symm
  subst hp
  have hfe : (if h : ∃ x, x < wide ∧ bl x = bl j then Classical.choose h else 0) = j := by
   have e : ∃ x, x < wide ∧ bl x = bl j := ⟨j, hjw, rfl⟩
   rw [dif_pos e]
   have z := Classical.choose_spec e
   exact inj _ _ z.1 hjw z.2
  refine ⟨.slice (some ⟨bl j, 0, none⟩) high high, ?_, ?_⟩
  ·simp only [Kd.tag, Kd.slice, Nat.mul_one]
   refine List.ext_getElem? (fun i => ?_)
   simp only [List.getElem?_take, List.getElem?_drop, List.getElem?_map]
   rcases i with _ | i
   ·rw [if_pos (by omega), List.getElem?_range (by omega)]
    rfl
   ·simp
  ·refine Kd.R_of_own (enc := Value.int .i64) ⟨by simp [encs], .inr ⟨bl j, high, c, by simp, hB.2 j hjw, h1, by simp, by simp [maxLen]; omega, by simp [h2], ?_⟩⟩ (fun k hk => ?_)
   ·refine List.ext_getElem? (fun i => ?_)
    simp only [encs, List.length_map, List.length_range, Nat.mul_one, List.getElem?_take, List.getElem?_map]
    by_cases hi : i < high
    ·rw [if_pos hi, List.getElem?_range hi]
     have z := h3 i hi
     rw [← Array.getElem?_toList] at z
     rw [z]
     rfl
    ·rw [if_neg hi, List.getElem?_eq_none (by simp; omega)]
     rfl
   ·have e : bl j = k := by simpa [Value.ownBlock] using hk
    subst e
    refine ⟨⟨trivial, ?_⟩, hfe⟩
    simp only [Value.ownBlock, ne_eq, Option.some.injEq]
    exact Ne.symm (hne j hjw)
theorem impl_distancesBy.St.below {w wr w' : World} {g : Nat} {bl : Nat → Nat} {wide high it : Nat} {q : List (Nat × Nat)} {d : Nat × Nat → Int} {Q : Value} (h : impl_distancesBy.St w wr g bl wide high it q d Q) (hb : Below wr.heap.size wr w') : impl_distancesBy.St w w' g bl wide high it q d Q :=
 ⟨h.1.below hb, Kd.N_below h.2.1 hb, below_then h.2.2.1 h.2.2.1.size hb, h.2.2.2⟩
theorem impl_distancesBy.St.iter {w wr : World} {g : Nat} {bl : Nat → Nat} {wide high it : Nat} {q : List (Nat × Nat)} {d : Nat × Nat → Int} {Q : Value} (h : impl_distancesBy.St w wr g bl wide high it q d Q) (s : ByteArray) (p n : Nat) (hit : wr.heap[it]? = some (.stringIter s p)) (hle : w.heap.size ≤ it) : impl_distancesBy.St w (wr.iterAt it s n) g bl wide high it q d Q := by
 have hne : g ≠ it := fun e => by
  obtain ⟨cur, g1, -⟩ := h.1.1
  rw [e, hit] at g1
  simp at g1
 have hne2 : ∀ x, x < wide → bl x ≠ it := fun x hx e => by
  obtain ⟨c, h1, -⟩ := h.1.2.1 x hx
  rw [e, hit] at h1
  simp at h1
 exact ⟨h.1.move (Go.Lib.iterAt_other _ _ _ _ _ hne) (fun x hx => Go.Lib.iterAt_other _ _ _ _ _ (hne2 x hx)), Kd.N_step h.2.1 (fun k hk _ => Go.Lib.iterAt_other _ _ _ _ _ hk.2), Go.Lib.below_iterAt h.2.2.1 hle _ _, h.2.2.2⟩
theorem impl_distancesBy.St.store {w wr : World} {g : Nat} {bl : Nat → Nat} {wide high it : Nat} {q : List (Nat × Nat)} {d : Nat × Nat → Int} {Q : Value} (h : impl_distancesBy.St w wr g bl wide high it q d Q) (x y : Nat) (hx : x < wide) (hy : y < high) (v : Int) : impl_distancesBy.St w (wr.setCell ⟨bl x, y, none⟩ (.int .i64 v)) g bl wide high it q (fun c => if c = (x, y) then v else d c) Q :=
 ⟨(h.1.set x y hx hy v).ext (fun a b _ _ => by simp [Prod.ext_iff]), Kd.N_far (p := ⟨bl x, y, none⟩) h.2.1 (fun k hk => hk.1.2 x hx) _, h.2.2.1.setCell (p := ⟨bl x, y, none⟩) (h.2.2.2.2 x hx) _, h.2.2.2⟩
theorem impl_distancesBy.St.grown {w wr w' : World} {g : Nat} {bl : Nat → Nat} {wide high it : Nat} {q q' : List (Nat × Nat)} {d : Nat × Nat → Int} {Q Q' : Value} (h : impl_distancesBy.St w wr g bl wide high it q d Q) (hg : wr.grownBy w' Q.ownBlock) (hN : Kd.N (Kd.slice 3 (Kd.int .i64)) 26 w' w.heap.size (impl_distancesBy.ok g bl wide it) Q' (q'.map impl_distancesBy.pt)) (hB : Below w.heap.size w w') : impl_distancesBy.St w w' g bl wide high it q' d Q' := by
 have hl := h.1.lt
 refine ⟨h.1.move (hg.block g hl.1 (fun e => (h.2.1.1 g e.symm).1.1 rfl)) (fun x hx => hg.block _ (hl.2 x hx) (fun e => (h.2.1.1 _ e.symm).1.2 x hx rfl)), hN, hB, h.2.2.2⟩
theorem impl_distancesBy.Row.below {wr w' : World} {g : Nat} {bl : Nat → Nat} {wide it : Nat} {Q : Value} {A : Option Addr} {p : Nat × Nat} (h : impl_distancesBy.Row wr g bl wide it Q A p) (hb : Below wr.heap.size wr w') : impl_distancesBy.Row w' g bl wide it Q A p := Kd.F_below h hb
theorem impl_distancesBy.Row.iter {wr : World} {g : Nat} {bl : Nat → Nat} {wide it : Nat} {Q : Value} {A : Option Addr} {p : Nat × Nat} (h : impl_distancesBy.Row wr g bl wide it Q A p) (s : ByteArray) (n : Nat) : impl_distancesBy.Row (wr.iterAt it s n) g bl wide it Q A p := Kd.F_step h (fun k hk _ => Go.Lib.iterAt_other _ _ _ _ _ hk.1.2)
theorem impl_distancesBy.Row.store {wr : World} {g : Nat} {bl : Nat → Nat} {wide it : Nat} {Q : Value} {A : Option Addr} {p : Nat × Nat} (h : impl_distancesBy.Row wr g bl wide it Q A p) (x y : Nat) (hx : x < wide) (v : Value) : impl_distancesBy.Row (wr.setCell ⟨bl x, y, none⟩ v) g bl wide it Q A p := Kd.F_far (p := ⟨bl x, y, none⟩) h (fun k hk => hk.1.1.2 x hx) v
theorem impl_distancesBy.Row.grown {wr w' : World} {g : Nat} {bl : Nat → Nat} {wide it : Nat} {Q Q' : Value} {A : Option Addr} {p : Nat × Nat} (h : impl_distancesBy.Row wr g bl wide it Q A p) (hg : wr.grownBy w' Q.ownBlock) (hat : Q'.ownBlock = Q.ownBlock ∨ ∃ b, Q'.ownBlock = some b ∧ wr.heap.size ≤ b) : impl_distancesBy.Row w' g bl wide it Q' A p := Kd.F_after h hg hat
theorem impl_distancesBy.Row.cells {wr : World} {g : Nat} {bl : Nat → Nat} {wide it : Nat} {Q : Value} {A : Option Addr} {p : Nat × Nat} (h : impl_distancesBy.Row wr g bl wide it Q A p) : Kd.C (Kd.int .i64) wr A 2 (impl_distancesBy.pt p) := Kd.F_now h
theorem impl_distancesBy.St.elem {w wr : World} {g : Nat} {bl : Nat → Nat} {wide high it : Nat} {q : List (Nat × Nat)} {d : Nat × Nat → Int} {Q : Value} (h : impl_distancesBy.St w wr g bl wide high it q d Q) (i : Nat) (p : Nat × Nat) (hp : q[i]? = some p) :
  ∃ G c0 A c, Q = .slice (some ⟨G, 0, none⟩) q.length c0 ∧ wr.cell? ⟨G, i, none⟩ = some (.slice A 2 c) ∧ 2 ≤ c ∧ impl_distancesBy.Row wr g bl wide it Q A p := by
 have hil := (List.getElem?_eq_some_iff.1 hp).1
 obtain ⟨G, c0, e, -⟩ := Kd.N_form h.2.1 (by simp; omega)
 rw [List.length_map] at e
 subst e
 obtain ⟨c, hcl, hF, hcc⟩ := Kd.N_get h.2.1 [] (i : Int) (by omega) (by omega)
 rw [Int.toNat_natCast, List.getD_eq_getElem?_getD, List.getElem?_map, hp] at hF
 obtain ⟨A, c', rfl, hl, hR⟩ := Kd.FK_slice_open hF
 have := hcc 0 _ rfl
 rw [Addr.add_lit] at this
 exact ⟨G, c0, A, c', rfl, by simpa [Kd.slice, impl_distancesBy.pt] using this, hl, hR⟩
theorem impl_distancesBy.St.start {w wr : World} {g : Nat} {bl : Nat → Nat} {wide high : Nat} {d : Nat × Nat → Int} (hG : impl_distancesBy.Grid wr g bl wide high (fun x y => d (x, y))) (hb : w.heap.size ≤ g ∧ ∀ x, x < wide → w.heap.size ≤ bl x) (hB : Below w.heap.size w wr) (A : Option Addr) (c : Nat) (a : Nat × Nat) (hr : Kd.C (Kd.int .i64) w A 2 (impl_distancesBy.pt a)) (hc : 2 ≤ c) :
  impl_distancesBy.St w (wr.alloc (.cells #[.slice A 2 c] 26)) g bl wide high g [a] d (.slice (some ⟨wr.heap.size, 0, none⟩) 1 1) := by
 have hl := hG.lt
 have hBa := below_alloc (Below.refl wr.heap.size wr) (.cells #[.slice A 2 c] 26)
 have hB2 := below_then hB hB.size hBa
 have hsz := hB.size
 have hF := Kd.F_old (Kd.C_F (Kd.heap_int .i64) hr) hB2
 refine ⟨hG.below hBa, ⟨fun k hk => ?_, [[.slice A 2 c]], rfl, ⟨fun k hk => hk.symm, [.slice A 2 c], ⟨rfl, .inr ⟨wr.heap.size, 1, _, rfl, hsz, heap_alloc_new _ _, Nat.le_refl _, by decide, rfl, rfl⟩⟩, rfl, fun j p hj => ?_⟩, fun j x cs hx hcs => ?_⟩, hB2, hb⟩
 ·have e : wr.heap.size = k := by simpa [Value.ownBlock] using hk
  subst e
  exact ⟨⟨by omega, fun x hx => by have := hl.2 x hx; omega⟩, by omega⟩
 ·rcases j with _ | j
  ·simp at hj
   subst hj
   exact ⟨rfl, rfl, fun u hu => by obtain rfl := List.mem_singleton.1 (List.mem_of_mem_take hu); rfl⟩
  ·simp at hj
 ·rcases j with _ | j
  ·simp at hx hcs
   subst hx hcs
   refine Foot.imp (Foot.mono hF (fun k hk => ⟨⟨⟨fun e => by omega, fun x hx e => ?_⟩, fun e => by omega⟩, fun e => ?_⟩)) (fun W' hC => ⟨A, c, rfl, hc, hC⟩)
   ·have := hb.2 x hx; omega
   ·have e' : k = wr.heap.size := by simpa [Value.ownBlock] using e
    omega
  ·simp at hx
def impl_distancesBy.stp (back : Bool) (s t : ByteArray) (p : Nat × Nat) (n : Nat) : Option (Nat × Nat) :=
 if ((0 ≤ (p.1 : Int) + impl_driveIn.dx n ∧ (p.1 : Int) + impl_driveIn.dx n ≤ (t.size : Int) - 1) ∧ (0 ≤ (p.2 : Int) + impl_driveIn.dy n ∧ (p.2 : Int) + impl_driveIn.dy n ≤ (s.size : Int) - 1)) ∧ (if back = true then impl_driveIn.can s t ((p.1 : Int) + impl_driveIn.dx n) ((p.2 : Int) + impl_driveIn.dy n) (3 - n) else impl_driveIn.can s t p.1 p.2 n) = true then some (((p.1 : Int) + impl_driveIn.dx n).toNat, ((p.2 : Int) + impl_driveIn.dy n).toNat) else none
theorem impl_distancesBy.grid (wide high : Nat) (hw : 1 ≤ wide ∧ wide ≤ 8) (hh : 1 ≤ high ∧ high ≤ 8) (v : Int) (w : World) :
  Calls Try.prog 63 #[.int .i64 wide, .int .i64 high, .int .i64 v] w fun e w' => ∃ g bl, e = .returned (.slice (some ⟨g, 0, none⟩) wide wide) ∧ impl_distancesBy.Grid w' g bl wide high (fun _ _ => v) ∧ (w.heap.size ≤ g ∧ ∀ x, x < wide → w.heap.size ≤ bl x) ∧ Below w.heap.size w w' := by
 obtain ⟨i0, hi, hz0, hz1, hz2⟩ := info_parts (show (Try.prog.info? 26).map (fun i => (i.zero, i.size, i.bytes)) = some (some (.slice none 0 0), 1, 24) from by kernel_rfl)
 have hmk := run_makeSlice (P := Try.prog) (w := w) 47 26 i0 (.slice none 0 0) Try.underlying47 hi hz0 .i64 .i64 (wide : Int) (wide : Int) (by omega) (Int.le_refl _) (by rw [hz1]; omega) (by rw [hz2]; omega) (by omega)
 rw [Int.toNat_natCast, hz1, Nat.mul_one] at hmk
 obtain ⟨w1, hw1⟩ : ∃ w1 : World, w1 = w.alloc (.cells (madeCells (Value.slice none 0 0).cells wide) 26) := ⟨_, rfl⟩
 rw [← hw1] at hmk
 have HP := am (show impl_distancesBy.Part w1 w.heap.size (fun _ => 0) wide high 0 v by
  rw [hw1]
  exact ⟨⟨_, heap_alloc_new _ _, by rw [size_madeCells], fun x hx => by omega⟩, fun x hx => by omega, fun x x' hx => by omega, fun x hx => by omega⟩)
 have HB := am (show Below w.heap.size w w1 by rw [hw1]; exact below_alloc (Below.refl _ _) _)
 clear hw1 hi hz0 hz1 hz2
 go_enter Try.func63, Try.ntmps63
 go_wp2
 clear hmk
 go_loopw [13] (fun i wr => ∃ (j : Nat) (bl : Nat → Nat), j ≤ wide ∧ i = .int .i64 j ∧ Aside0 (impl_distancesBy.Part wr w.heap.size bl wide high j v) ∧ Aside0 (Below w.heap.size w wr)) (fun i _ => wide - (intOf i).toNat)
 case atStart => exact ⟨0, _, Nat.zero_le _, rfl, HP, HB⟩
 case round =>
  clear HP HB
  obtain ⟨j, bl, hj, rfl, HP, HB⟩ := hrel
  by_cases hlt : j < wide
  ·have hcl : (wr.alloc (.cells #[.int .i64 v] 3)).cell? ⟨wr.heap.size, 0, none⟩ = some (.int .i64 v) := by
    rw [World.cell?_alloc_at _ _ _ _ rfl]; rfl
   have hrd : ReadsInt (wr.alloc (.cells #[.int .i64 v] 3)) .i64 (some ⟨wr.heap.size, 0, none⟩) 1 [v] := by
    refine ⟨rfl, by omega, fun _ => ⟨_, rfl, fun i hi => ?_⟩⟩
    obtain rfl : i = 0 := by simp at hi; omega
    exact hcl
   have HL := am (Kd.C_of_reads (d := (0 : Int)) (h1 := fun _ => rfl) hrd)
   clear hcl hrd
   have HA := am (below_alloc (Below.refl wr.heap.size wr) (.cells #[.int .i64 v] 3))
   have HK := am (show Calls Try.prog 76 #[.slice (some ⟨wr.heap.size, 0, none⟩) 1 1, .int .i64 high] (wr.alloc (.cells #[.int .i64 v] 3)) (fun e w2 => ∃ b c, e = .returned (.slice (some ⟨b, 0, none⟩) high high) ∧ wr.heap.size < b ∧ w2.heap[b]? = some (.cells c 3 (0, 0)) ∧ c.size = high ∧ (∀ y, y < high → c[y]? = some (.int .i64 v)) ∧ Below wr.heap.size wr w2) from (slices_Repeat_int_int.one _ 1 v high (by omega) _ HL.out).mono (by
    rintro e w2 ⟨rfl, ⟨c, h1, h2, h3⟩, hb2⟩
    exact ⟨_, c, rfl, by simp, h1, h2, h3, below_then HA.out HA.out.size hb2⟩))
   go_wp2_with (go_at_call 76; refine HK.out.mono ?_; rintro e w2 ⟨b, c, rfl, hb, h1, h2, h3, hB2⟩; obtain ⟨cur, g1, g2, g3⟩ := (HP.out.below hB2).1; have hcell : w2.cell? ⟨w.heap.size, j, none⟩ = some (cur[j]'(by omega)) := (by simp only [World.cell?, g1]; simp [g2, hlt]); have hfree : w2.frozen? ⟨w.heap.size, j, none⟩ = false := (by simp [World.frozen?, g1]))
   have HN := am (show ∀ x, x < j → bl x ≠ b from fun x hx e => by
    obtain ⟨c', a1, -, -⟩ := HP.out.2.1 x hx
    have := (Array.getElem?_eq_some_iff.1 a1).1
    omega)
   have HG := am (show w.heap.size < b by have := HB.out.size; omega)
   go_roundw
   case rel => exact ⟨j + 1, fun x => if x = j then b else bl x, by omega, by go_num, ⟨(HP.out.below hB2).put hlt b HG.out HN.out c h1 h2 h3⟩, ⟨(below_then HB.out HB.out.size hB2).setCell (p := ⟨w.heap.size, j, none⟩) (by simp) _⟩⟩
   case measure => simp [intOf]; omega
  ·obtain rfl : j = wide := by omega
   clear hlt
   go_wp2
   go_ret
   obtain ⟨p1, p2, p3, p4⟩ := HP.out
   exact ⟨_, bl, rfl, ⟨p1, p2, p3⟩, ⟨Nat.le_refl _, fun x hx => Nat.le_of_lt (p4 x hx)⟩, HB.out⟩
theorem impl_distancesBy.Row.two {wr : World} {g : Nat} {bl : Nat → Nat} {wide it : Nat} {Q : Value} {ad : Addr} {x y : Nat} (h : impl_distancesBy.Row wr g bl wide it Q (some ad) (x, y)) : wr.cell? ad = some (.int .i64 x) ∧ wr.cell? { block := ad.block, off := ad.off + 1 } = some (.int .i64 y) := by
 have hr := h.cells
 obtain ⟨ad0, hA, hx0⟩ := Kd.at_int hr 0 (by omega) (by omega)
 obtain ⟨ad1, hA1, hx1⟩ := Kd.at_int hr 1 (by omega) (by omega)
 obtain rfl : ad = ad0 := by injection hA
 obtain rfl : ad = ad1 := by injection hA1
 rw [show (0 : Int).toNat = 0 from rfl, Addr.add_zero', show rd (impl_distancesBy.pt (x, y)) 0 = (x : Int) from rfl] at hx0
 rw [show rd (impl_distancesBy.pt (x, y)) 1 = (y : Int) from rfl] at hx1
 simp only [show (1 : Int).toNat = 1 from rfl, Nat.reduceMul, Nat.reduceEqDiff, Go.Addr.add, ↓reduceIte] at hx1
 exact ⟨hx0, hx1⟩
theorem impl_distancesBy.ite_and {α : Type} {p q : Prop} [Decidable p] [Decidable q] {o : Option α} {r : α} (hp : p) (h : o = if p ∧ q then some r else none) : o = if q then some r else none := by
 rw [h]
 by_cases z : q
 ·rw [if_pos ⟨hp, z⟩, if_pos z]
 ·rw [if_neg (fun y => z y.2), if_neg z]
theorem impl_distancesBy.len {st : Nat × Nat → Nat → Option (Nat × Nat)} {a : Nat × Nat} {q : List (Nat × Nat)} {i m : Nat} {d : Nat × Nat → Int} {wide high : Nat} (h : Bfs st a q i m d) (hV : ∀ p ∈ q, p.1 < wide ∧ p.2 < high) (hw : wide ≤ 8) (hh : high ≤ 8) : q.length ≤ 64 :=
 h.length (fun p => p.1 * 8 + p.2) 64 (fun p hp r hr e => by
  have := hV p hp
  have := hV r hr
  exact Prod.ext (by omega) (by omega)) (fun p hp => by
  have := hV p hp
  omega)
theorem impl_distancesBy.ipos {w : World} {k : Nat} {s : ByteArray} {p : Nat} (h : w.heap[k]? = some (.stringIter s p)) : w.iterPos k = p := by simp [World.iterPos, h]
theorem impl_distancesBy.stp_uv (back : Bool) (s t : ByteArray) (x y n : Nat) (u v : Int) (hu : u = (x : Int) + impl_driveIn.dx n) (hv : v = (y : Int) + impl_driveIn.dy n) : impl_distancesBy.stp back s t (x, y) n = if ((0 ≤ u ∧ u ≤ (t.size : Int) - 1) ∧ (0 ≤ v ∧ v ≤ (s.size : Int) - 1)) ∧ (if back = true then impl_driveIn.can s t u v (3 - n) else impl_driveIn.can s t x y n) = true then some (u.toNat, v.toNat) else none := by
 subst hu hv
 rfl
theorem impl_distancesBy.wid (m : Nat) (h : m < 4) : (Utf8.decode ⟨#[101, 110, 115, 119]⟩ m).2 = 1 := by
 have c : m = 0 ∨ m = 1 ∨ m = 2 ∨ m = 3 := by omega
 rcases c with rfl | rfl | rfl | rfl <;> (rw [decode_ascii _ _ (by decide) (by decide)])
theorem impl_distancesBy.walk (s t : ByteArray) (hS : impl_driveIn.Sized s t) (back : Bool) (p : Nat) (A : Option Addr) (c : Nat) (a : Nat × Nat) (ha : a.1 < t.size ∧ a.2 < s.size) (hc : 2 ≤ c) (w : World) (hr : Kd.C (Kd.int .i64) w A 2 (impl_distancesBy.pt a)) (hp : w.heap[p]? = some (.cells #[.string s, .string t] 25 (0, 0))) :
  Calls Try.prog 57 #[.int .i64 t.size, .int .i64 s.size, .slice A 2 c, .func (.func 60) #[] #[.pointer (some ⟨p, 0, none⟩)], .bool back] w fun e w' => ∃ g bl d, e = .returned (.slice (some ⟨g, 0, none⟩) t.size t.size) ∧ impl_distancesBy.Grid w' g bl t.size s.size (fun x y => d (x, y)) ∧ (Far (Leads (impl_distancesBy.stp back s t)) a d ∧ (∀ c, 0 ≤ d c → c.1 < t.size ∧ c.2 < s.size) ∧ ∀ c, d c ≤ 64) ∧ (w.heap.size ≤ g ∧ ∀ x, x < t.size → w.heap.size ≤ bl x) ∧ Below w.heap.size w w' := by
 obtain ⟨ax, ay⟩ := a
 obtain ⟨hax, hay⟩ := ha
 have HR := am hr
 have HC := am hc
 have HS := am hS
 have HP := am hp
 have HPL := am (Array.getElem?_eq_some_iff.1 hp).1
 obtain ⟨ad, hA, hx0⟩ := Kd.at_int hr 0 (by omega) (by omega)
 obtain ⟨ad1, hA1, hx1⟩ := Kd.at_int hr 1 (by omega) (by omega)
 subst hA
 obtain rfl : ad = ad1 := by injection hA1
 rw [show (0 : Int).toNat = 0 from rfl, Addr.add_zero', show rd (impl_distancesBy.pt (ax, ay)) 0 = (ax : Int) from rfl] at hx0
 rw [show rd (impl_distancesBy.pt (ax, ay)) 1 = (ay : Int) from rfl] at hx1
 simp only [show (1 : Int).toNat = 1 from rfl, Nat.reduceMul, Nat.reduceEqDiff, Go.Addr.add, ↓reduceIte] at hx1
 have X0 := am hx0
 have X1 := am hx1
 have HG := am (impl_distancesBy.grid t.size s.size hS.1 hS.2 (-1) w)
 have HAX := am hax
 have HAY := am hay
 clear hr hc hS hp hx0 hx1 hA1
 go_enter Try.func57, Try.ntmps57
 go_wp2_with (go_at_call 63; refine HG.out.mono ?_; rintro e w1 ⟨g, bl, rfl, hG, hb, hB⟩; have HG1 := am hG; have HB1 := am hB; have Hb := am hb; clear hG hB hb HG)
 refine wp_region_still_tail 10 (by kernel_rfl) (by kernel_rfl) ?_
 simp only [List.take_succ_cons, List.take_zero, List.drop_succ_cons, List.drop_zero]
 obtain ⟨w2, hw2⟩ : ∃ w2 : World, w1.drew = w2 := ⟨_, rfl⟩
 have HB2 := am (show Below w.heap.size w w2 by rw [← hw2]; exact below_drew1 HB1.out)
 have HG2 := am (show impl_distancesBy.Grid w2 g bl t.size s.size (fun _ _ => -1) by rw [← hw2]; exact HG1.out.below (below_drew1 (Below.refl _ _)))
 have hx0 := (HB2.out.cell (World.block_lt_of_cell? _ _ X0.out)).trans X0.out
 have hx1 := (HB2.out.cell (World.block_lt_of_cell? _ _ X1.out)).trans X1.out
 have hrow := HG2.out.row ax hax
 have hcel := HG2.out.cell ax ay hax hay
 have hfre := HG2.out.free ax ay hax
 change wpStill _ _ w1.drew _ _ _
 rw [hw2]
 have HW2 := am hw2
 clear hw2
 repeat still_step
 refine wpStill_nil ?_
 change wpList _ _ _ _ _ w1.drew
 rw [HW2.out]
 go_wp2
 have HV := am (show w.heap.size ≤ bl ax from Hb.out.2 ax hax)
 have HG3 := am (HG2.out.set ax ay hax hay 0)
 have HB3 := am (HB2.out.setCell (p := ⟨bl ax, ay, none⟩) HV.out (.int .i64 0))
 have HQ := am (impl_distancesBy.St.start (d := fun q => if q = (ax, ay) then 0 else -1) (HG3.out.ext (fun x y _ _ => by simp [Prod.ext_iff])) Hb.out HB3.out (some ad) c (ax, ay) HR.out HC.out)
 have HBf := am (Bfs.start (st := impl_distancesBy.stp back s t) (a := (ax, ay)))
 clear hrow hcel hfre hx0 hx1 HG1 HB1 HW2 HG2 HB2 HG3 HB3 HV
 go_loopw [12, 13] (fun Q i wr => ∃ (k : Nat) (q : List (Nat × Nat)) (d : Nat × Nat → Int), i = .int .i64 k ∧ k ≤ q.length ∧ Aside0 (impl_distancesBy.St w wr g bl t.size s.size g q d Q) ∧ Aside0 (Bfs (impl_distancesBy.stp back s t) (ax, ay) q k 0 d) ∧ Aside0 (∀ p ∈ q, p.1 < t.size ∧ p.2 < s.size)) (fun _ i _ => 65 - (intOf i).toNat)
 case atStart => exact ⟨0, [(ax, ay)], fun q => if q = (ax, ay) then 0 else -1, rfl, by simp, ⟨by have z := HQ.out; rw [show (w2.setCell ⟨bl ax, ay, none⟩ (.int .i64 0)).heap.size = w2.heap.size by simp] at z; exact z⟩, HBf, ⟨fun p hp => by simp at hp; subst hp; exact ⟨HAX.out, HAY.out⟩⟩⟩
 case round =>
  clear HQ HBf X0 X1 HR HC hax hay
  obtain ⟨k, q, d, rfl, hk, HQ, HBf, HV⟩ := hrel
  have hk64 : k ≤ 64 := Nat.le_trans hk (impl_distancesBy.len HBf.out HV.out HS.out.1.2 HS.out.2.2)
  obtain ⟨A0, C0, e0⟩ := Kd.N_slice HQ.out.2.1
  rw [List.length_map] at e0
  subst e0
  by_cases hlt : k < q.length
  ·obtain ⟨⟨x, y⟩, hxy⟩ : ∃ p, q[k]? = some p := ⟨q[k], by simp [hlt]⟩
   obtain ⟨G, c0, Aa, ca, eG, hcell, hca, hRow⟩ := HQ.out.elem k (x, y) hxy
   cases eG
   obtain ⟨ada, hAa, -⟩ := Kd.at_int hRow.cells 0 (by omega) (by omega)
   subst hAa
   have HX := am hxy
   have HRow := am hRow
   have HCa := am hca
   have HKL := am hlt
   clear hxy hRow hca
   go_wp2
   obtain ⟨wo, rfl⟩ : ∃ wo, wo = wr := ⟨wr, rfl⟩
   have HQ1 := am (show impl_distancesBy.St w (wo.iter ⟨#[101, 110, 115, 119]⟩ 0) g bl t.size s.size wo.heap.size q d (.slice (some ⟨G, 0, none⟩) q.length C0) by
    obtain ⟨h1, h2, h3, h4⟩ := HQ.out
    exact ⟨h1.below (below_alloc (Below.refl _ _) _), Kd.N_mono (Kd.N_alloc (Kd.N_elderB h2 wo.heap.size (Nat.le_refl _)) _) (fun k hk => ⟨hk.1.1, hk.2⟩), below_then h3 h3.size (below_alloc (Below.refl _ _) _), h4⟩)
   have HRow1 := am (show impl_distancesBy.Row (wo.iter ⟨#[101, 110, 115, 119]⟩ 0) g bl t.size wo.heap.size (.slice (some ⟨G, 0, none⟩) q.length C0) (some ada) (x, y) from Kd.F_mono (Kd.F_alloc (Kd.F_elderB HRow.out wo.heap.size (Nat.le_refl _)) _) (fun k hk => ⟨⟨hk.1.1.1, hk.2⟩, hk.1.2⟩))
   have HLE := am (show w.heap.size ≤ wo.heap.size from HQ.out.2.2.1.size)
   clear HRow hcell
   go_loopw [12] (fun Q wi => ∃ (m : Nat) (q' : List (Nat × Nat)) (d' : Nat × Nat → Int), m ≤ 4 ∧ wi.heap[wo.heap.size]? = some (.stringIter ⟨#[101, 110, 115, 119]⟩ m) ∧ Aside0 (impl_distancesBy.St w wi g bl t.size s.size wo.heap.size q' d' Q) ∧ Aside0 (Bfs (impl_distancesBy.stp back s t) (ax, ay) q' k m d') ∧ Aside0 (∀ p ∈ q', p.1 < t.size ∧ p.2 < s.size) ∧ Aside0 (impl_distancesBy.Row wi g bl t.size wo.heap.size Q (some ada) (x, y)) ∧ Aside0 (q'[k]? = some (x, y))) (fun _ wi => 4 - wi.iterPos wo.heap.size)
   case atStart => exact ⟨0, q, d, by omega, World.iter_heap _ _ _, HQ1, HBf, HV, HRow1, HX⟩
   case round =>
    clear HQ1 HBf HV HRow1 HX HQ
    obtain ⟨m, q', d', hm, hit, HQ, HBf, HV, HRow, HX⟩ := hrel
    by_cases hm4 : m < 4
    ·have hnx : ∀ ty, (Instr.next (.pointer (some ⟨wo.heap.size, 0, none⟩)) true ty).run Try.prog wr = _ := fun ty => Go.Lib.run_next_any_at wr wo.heap.size ⟨#[101, 110, 115, 119]⟩ m ty hit hm4
     have hit1 := am (Go.Lib.iterAt_heap wr wo.heap.size ⟨#[101, 110, 115, 119]⟩ m (m + 1) hit)
     have HIT := am hit
     have HQ1 := am (HQ.out.iter ⟨#[101, 110, 115, 119]⟩ m (m + 1) hit HLE.out)
     have HRow1 := am (HRow.out.iter ⟨#[101, 110, 115, 119]⟩ (m + 1))
     have HIL := am (show wo.heap.size < (wr.iterAt wo.heap.size ⟨#[101, 110, 115, 119]⟩ (m + 1)).heap.size from (Array.getElem?_eq_some_iff.1 hit1.out).1)
     rw [impl_distancesBy.wid m hm4] at hnx
     clear hit HQ HRow
     obtain ⟨t1, t8, s1, s8⟩ : 1 ≤ t.size ∧ t.size ≤ 8 ∧ 1 ≤ s.size ∧ s.size ≤ 8 := ⟨HS.out.1.1, HS.out.1.2, HS.out.2.1, HS.out.2.2⟩
     have hxy := HV.out _ (List.mem_of_getElem? HX.out)
     have HXY := am hxy
     have HM := am (impl_driveIn.moved x y m (by omega) (by have := hxy.1; simp only at this; omega) (by have := hxy.2; simp only at this; omega))
     obtain ⟨u, hu⟩ : ∃ u, u = (x : Int) + impl_driveIn.dx m := ⟨_, rfl⟩
     obtain ⟨v, hv⟩ : ∃ v, v = (y : Int) + impl_driveIn.dy m := ⟨_, rfl⟩
     rw [← hu, ← hv] at HM
     have HST := impl_distancesBy.stp_uv back s t x y m u v hu hv
     have W0 := am (impl_driveIn.within u 0 ((t.size : Int) - 1))
     have W1 := am (impl_driveIn.within v 0 ((s.size : Int) - 1))
     clear hxy hu hv
     by_cases c0 : 0 ≤ u ∧ u ≤ (t.size : Int) - 1
     ·rw [decide_eq_true c0] at W0
      by_cases c1 : 0 ≤ v ∧ v ≤ (s.size : Int) - 1
      ·rw [decide_eq_true c1] at W1
       obtain ⟨ux, rfl⟩ := Int.eq_ofNat_of_zero_le c0.1
       obtain ⟨vy, rfl⟩ := Int.eq_ofNat_of_zero_le c1.1
       have hux : ux < t.size := by omega
       have hvy : vy < s.size := by omega
       rw [Int.toNat_natCast, Int.toNat_natCast] at HST
       obtain ⟨dv, hdv⟩ : ∃ dv, dv = d' (ux, vy) := ⟨_, rfl⟩
       by_cases c2 : 0 ≤ dv
       ·have HDV := am (show ∀ c, impl_distancesBy.stp back s t (x, y) m = some c → 0 ≤ d' c from fun c hc => by
         rw [HST] at hc
         have hc2 := (Option.ite_none_right_eq_some.1 hc).2
         injection hc2 with hc2
         rw [← hc2, ← hdv]
         exact c2)
        have HDE := am hdv
        have cb : decide (0 ≤ dv) = true := decide_eq_true c2
        clear c0 c1 c2 hdv HST
        go_wp2_with (go_at_call 59; refine (impl_moved.calls _ _ [(x : Int), (y : Int)] (m : Int) _ _ HRow1.out.cells HCa.out HM.out).mono ?_; rintro e W2 ⟨v0, rfl, hR, hB⟩; obtain ⟨A2, c2, e2⟩ := Kd.R_slice hR; rw [show ([(ux : Int), (vy : Int)] : List Int).length = 2 from rfl] at e2; subst e2; have hC2 := (Kd.R_reads' hR).2.2; rw [show ([(ux : Int), (vy : Int)] : List Int).length = 2 from rfl] at hC2; have hl2 := (Kd.R_reads' hR).2.1; obtain ⟨ad2, hA2, hu0⟩ := Kd.at_int hC2 0 (by omega) (by omega); obtain ⟨ad3, hA3, hu1⟩ := Kd.at_int hC2 1 (by omega) (by omega); subst hA2; obtain rfl : ad2 = ad3 := (by injection hA3); rw [show (0 : Int).toNat = 0 from rfl, Addr.add_zero', show rd [(ux : Int), (vy : Int)] 0 = (ux : Int) from rfl] at hu0; rw [show rd [(ux : Int), (vy : Int)] 1 = (vy : Int) from rfl] at hu1; simp only [show (1 : Int).toNat = 1 from rfl, Nat.reduceMul, Nat.reduceEqDiff, Go.Addr.add, ↓reduceIte] at hu1; have HQ2 := am (HQ1.out.below hB); have HRow2 := am (HRow1.out.below hB); have hit2 := am ((hB.block _ HIL.out).trans hit1.out); have HR2 := am hR; clear HQ1 HRow1 hit1 hB hR hC2 hA3; have hrow := HQ2.out.1.row ux hux; have hcel : W2.cell? ⟨bl ux, vy, none⟩ = some (.int .i64 dv) := (by rw [HDE.out]; exact HQ2.out.1.cell ux vy hux hvy))
        go_quiet (first | (go_at_call 61; (with_reducible refine (impl_within.calls (ux : Int) 0 ((t.size : Int) - 1) true _ W0.out).mono ?_); rintro e w' ⟨rfl, ⟨nd, rfl⟩⟩; exact ⟨rfl, _, World.drewN_drewN _ _ _⟩) | (go_at_call 61; (with_reducible refine (impl_within.calls (vy : Int) 0 ((s.size : Int) - 1) true _ W1.out).mono ?_); rintro e w' ⟨rfl, ⟨nd, rfl⟩⟩; exact ⟨rfl, _, World.drewN_drewN _ _ _⟩))
        go_wp2
        go_roundw
        case rel => exact ⟨m + 1, q', d', by omega, hit2.out, ⟨HQ2.out.below (pw_below_drewN (Below.refl _ _) _)⟩, ⟨HBf.out.skip (x, y) HX.out HDV.out⟩, HV, ⟨HRow2.out.below (pw_below_drewN (Below.refl _ _) _)⟩, HX⟩
        case measure => rw [impl_distancesBy.ipos (show (W2.drewN _).heap[wo.heap.size]? = _ from hit2.out), impl_distancesBy.ipos HIT.out]; omega
       ·have cb : decide (0 ≤ dv) = false := decide_eq_false c2
        replace HST := impl_distancesBy.ite_and ⟨c0, c1⟩ HST
        have HDE := am hdv
        have HDN := am (show d' (ux, vy) < 0 by omega)
        have HM3 := am (show ((3 - m : Nat) : Int) = 3 - (m : Int) by omega)
        have em : IntKind.i64.wrap (3 - (m : Int)) = 3 - (m : Int) := (i64_w _).trans (by unfold wrap64; omega)
        have HM4 := am hm4
        have HAT := am (show impl_driveIn.At s t (x : Int) (y : Int) by have := HXY.out; simp only at this; unfold impl_driveIn.At; omega)
        have HAT2 := am (show impl_driveIn.At s t (ux : Int) (vy : Int) by unfold impl_driveIn.At; omega)
        clear c0 c1 c2 hdv
        cases back with
        | true =>
         rw [if_pos rfl] at HST
         cases hcan : impl_driveIn.can s t (ux : Int) (vy : Int) (3 - m) with
         | false =>
          rw [hcan, if_neg (by simp)] at HST
          have HK := am (show ∀ (A2 : Addr) (c2 : Nat) (W : World), Kd.C (Kd.int .i64) W (some A2) 2 (impl_distancesBy.pt (ux, vy)) → 2 ≤ c2 → W.heap[p]? = w.heap[p]? → Calls Try.prog 60 #[.slice (some A2) 2 c2, .int .i64 (3 - (m : Int)), .pointer (some ⟨p, 0, none⟩)] W (fun e w' => e = .returned (.bool false) ∧ Below W.heap.size W w') from fun A2 c2 W hC hl hW => by
           have z := impl_driveIn.clo s t HS.out p (some A2) c2 (ux : Int) (vy : Int) (3 - m) (by omega) W hC hl HAT2.out (hW.trans HP.out)
           rw [HM3.out, hcan] at z
           exact z)
          replace HST := am HST
          clear hcan
          go_wp2_with (go_at_call 59; refine (impl_moved.calls _ _ [(x : Int), (y : Int)] (m : Int) _ _ HRow1.out.cells HCa.out HM.out).mono ?_; rintro e W2 ⟨v0, rfl, hR, hB⟩; obtain ⟨A2, c2, e2⟩ := Kd.R_slice hR; rw [show ([(ux : Int), (vy : Int)] : List Int).length = 2 from rfl] at e2; subst e2; have hC2 := (Kd.R_reads' hR).2.2; rw [show ([(ux : Int), (vy : Int)] : List Int).length = 2 from rfl] at hC2; have hl2 := (Kd.R_reads' hR).2.1; obtain ⟨ad2, hA2, hu0⟩ := Kd.at_int hC2 0 (by omega) (by omega); obtain ⟨ad3, hA3, hu1⟩ := Kd.at_int hC2 1 (by omega) (by omega); subst hA2; obtain rfl : ad2 = ad3 := (by injection hA3); rw [show (0 : Int).toNat = 0 from rfl, Addr.add_zero', show rd [(ux : Int), (vy : Int)] 0 = (ux : Int) from rfl] at hu0; rw [show rd [(ux : Int), (vy : Int)] 1 = (vy : Int) from rfl] at hu1; simp only [show (1 : Int).toNat = 1 from rfl, Nat.reduceMul, Nat.reduceEqDiff, Go.Addr.add, ↓reduceIte] at hu1; have HQ2 := am (HQ1.out.below hB); have HRow2 := am (HRow1.out.below hB); have hit2 := am ((hB.block _ HIL.out).trans hit1.out); have HRb2 := am (show impl_distancesBy.Row W2 g bl t.size wo.heap.size u12 (some ad2) (ux, vy) from Kd.F_mono (Kd.R_F (Kd.R_bound hR)) (fun k hk => ⟨⟨⟨fun e => by have := HQ1.out.1.lt.1; omega, fun x hx e => by have := HQ1.out.1.lt.2 x hx; omega⟩, fun e => by have := HIL.out; omega⟩, fun e => by have := Kd.N_lt HQ1.out.2.1 k e.symm; omega⟩)); clear HQ1 HRow1 hit1 hB hR hC2 hA3; have hrow := HQ2.out.1.row ux hux; have hcel : W2.cell? ⟨bl ux, vy, none⟩ = some (.int .i64 dv) := (by rw [HDE.out]; exact HQ2.out.1.cell ux vy hux hvy))
          go_quiet (first | (go_at_call 61; (with_reducible refine (impl_within.calls (ux : Int) 0 ((t.size : Int) - 1) true _ W0.out).mono ?_); rintro e w' ⟨rfl, ⟨nd, rfl⟩⟩; exact ⟨rfl, _, World.drewN_drewN _ _ _⟩) | (go_at_call 61; (with_reducible refine (impl_within.calls (vy : Int) 0 ((s.size : Int) - 1) true _ W1.out).mono ?_); rintro e w' ⟨rfl, ⟨nd, rfl⟩⟩; exact ⟨rfl, _, World.drewN_drewN _ _ _⟩))
          go_wp2_with (go_at_call 60; refine (HK.out ad2 c2 _ (HRb2.out.below (pw_below_drewN (Below.refl _ _) _)).cells hl2 (HQ2.out.2.2.1.block p HPL.out)).mono ?_; rintro e W4 ⟨rfl, hB4⟩; have HQ4 := am ((HQ2.out.below (pw_below_drewN (Below.refl _ _) _)).below hB4); have HRow4 := am ((HRow2.out.below (pw_below_drewN (Below.refl _ _) _)).below hB4); have HRb4 := am ((HRb2.out.below (pw_below_drewN (Below.refl _ _) _)).below hB4); have hit4 := am ((hB4.block _ (Array.getElem?_eq_some_iff.1 hit2.out).1).trans hit2.out); clear HQ2 HRow2 HRb2 hit2 hB4 hu0 hu1 hrow hcel)
          go_roundw
          case rel => exact ⟨m + 1, q', d', by omega, hit4.out, HQ4, ⟨HBf.out.skip (x, y) HX.out (fun c hc => by rw [HST.out] at hc; cases hc)⟩, HV, HRow4, HX⟩
          case measure => rw [impl_distancesBy.ipos hit4.out, impl_distancesBy.ipos HIT.out]; omega
         | true =>
          rw [hcan, if_pos rfl] at HST
          have HK := am (show ∀ (A2 : Addr) (c2 : Nat) (W : World), Kd.C (Kd.int .i64) W (some A2) 2 (impl_distancesBy.pt (ux, vy)) → 2 ≤ c2 → W.heap[p]? = w.heap[p]? → Calls Try.prog 60 #[.slice (some A2) 2 c2, .int .i64 (3 - (m : Int)), .pointer (some ⟨p, 0, none⟩)] W (fun e w' => e = .returned (.bool true) ∧ Below W.heap.size W w') from fun A2 c2 W hC hl hW => by
           have z := impl_driveIn.clo s t HS.out p (some A2) c2 (ux : Int) (vy : Int) (3 - m) (by omega) W hC hl HAT2.out (hW.trans HP.out)
           rw [HM3.out, hcan] at z
           exact z)
          replace HST := am HST
          obtain ⟨da, hda⟩ : ∃ da, da = d' (x, y) := ⟨_, rfl⟩
          have HDA := am hda
          have HL64 := am (impl_distancesBy.len HBf.out HV.out t8 s8)
          have hda1 : 0 ≤ da ∧ da ≤ 64 := by
           have z1 := (HBf.out.mem (x, y)).2 (List.mem_of_getElem? HX.out)
           have z2 := HBf.out.deep k (x, y) HX.out
           have z3 := (List.getElem?_eq_some_iff.1 HX.out).1
           have z4 := HL64.out
           rw [hda]
           omega
          have ew : IntKind.i64.wrap (da + 1) = da + 1 := (i64_w _).trans (by unfold wrap64; omega)
          clear hcan hda hda1
          go_wp2_with (go_at_call 59; refine (impl_moved.calls _ _ [(x : Int), (y : Int)] (m : Int) _ _ HRow1.out.cells HCa.out HM.out).mono ?_; rintro e W2 ⟨v0, rfl, hR, hB⟩; obtain ⟨A2, c2, e2⟩ := Kd.R_slice hR; rw [show ([(ux : Int), (vy : Int)] : List Int).length = 2 from rfl] at e2; subst e2; have hC2 := (Kd.R_reads' hR).2.2; rw [show ([(ux : Int), (vy : Int)] : List Int).length = 2 from rfl] at hC2; have hl2 := (Kd.R_reads' hR).2.1; obtain ⟨ad2, hA2, hu0⟩ := Kd.at_int hC2 0 (by omega) (by omega); obtain ⟨ad3, hA3, hu1⟩ := Kd.at_int hC2 1 (by omega) (by omega); subst hA2; obtain rfl : ad2 = ad3 := (by injection hA3); rw [show (0 : Int).toNat = 0 from rfl, Addr.add_zero', show rd [(ux : Int), (vy : Int)] 0 = (ux : Int) from rfl] at hu0; rw [show rd [(ux : Int), (vy : Int)] 1 = (vy : Int) from rfl] at hu1; simp only [show (1 : Int).toNat = 1 from rfl, Nat.reduceMul, Nat.reduceEqDiff, Go.Addr.add, ↓reduceIte] at hu1; have HQ2 := am (HQ1.out.below hB); have HRow2 := am (HRow1.out.below hB); have hit2 := am ((hB.block _ HIL.out).trans hit1.out); have HRb2 := am (show impl_distancesBy.Row W2 g bl t.size wo.heap.size u12 (some ad2) (ux, vy) from Kd.F_mono (Kd.R_F (Kd.R_bound hR)) (fun k hk => ⟨⟨⟨fun e => by have := HQ1.out.1.lt.1; omega, fun x hx e => by have := HQ1.out.1.lt.2 x hx; omega⟩, fun e => by have := HIL.out; omega⟩, fun e => by have := Kd.N_lt HQ1.out.2.1 k e.symm; omega⟩)); clear HQ1 HRow1 hit1 hB hR hC2 hA3; have hrow := HQ2.out.1.row ux hux; have hcel : W2.cell? ⟨bl ux, vy, none⟩ = some (.int .i64 dv) := (by rw [HDE.out]; exact HQ2.out.1.cell ux vy hux hvy))
          go_quiet (first | (go_at_call 61; (with_reducible refine (impl_within.calls (ux : Int) 0 ((t.size : Int) - 1) true _ W0.out).mono ?_); rintro e w' ⟨rfl, ⟨nd, rfl⟩⟩; exact ⟨rfl, _, World.drewN_drewN _ _ _⟩) | (go_at_call 61; (with_reducible refine (impl_within.calls (vy : Int) 0 ((s.size : Int) - 1) true _ W1.out).mono ?_); rintro e w' ⟨rfl, ⟨nd, rfl⟩⟩; exact ⟨rfl, _, World.drewN_drewN _ _ _⟩))
          go_wp2_with (go_at_call 60; refine (HK.out ad2 c2 _ (HRb2.out.below (pw_below_drewN (Below.refl _ _) _)).cells hl2 (HQ2.out.2.2.1.block p HPL.out)).mono ?_; rintro e W4 ⟨rfl, hB4⟩; have HQ4 := am ((HQ2.out.below (pw_below_drewN (Below.refl _ _) _)).below hB4); have HRow4 := am ((HRow2.out.below (pw_below_drewN (Below.refl _ _) _)).below hB4); have HRb4 := am ((HRb2.out.below (pw_below_drewN (Below.refl _ _) _)).below hB4); have hit4 := am ((hB4.block _ (Array.getElem?_eq_some_iff.1 hit2.out).1).trans hit2.out); clear HQ2 HRow2 HRb2 hit2 hB4 hu0 hu1 hrow hcel)
          refine wp_region_still_tail 21 (by kernel_rfl) (by kernel_rfl) ?_
          simp only [List.take_succ_cons, List.take_zero, List.drop_succ_cons, List.drop_zero]
          obtain ⟨w5, hw5⟩ : ∃ w5 : World, W4.drew = w5 := ⟨_, rfl⟩
          have HQ5 := am (show impl_distancesBy.St w w5 g bl t.size s.size wo.heap.size q' d' u12 by rw [← hw5]; exact HQ4.out.below (below_drew1 (Below.refl _ _)))
          have HRow5 := am (show impl_distancesBy.Row w5 g bl t.size wo.heap.size u12 (some ada) (x, y) by rw [← hw5]; exact HRow4.out.below (below_drew1 (Below.refl _ _)))
          have HRb5 := am (show impl_distancesBy.Row w5 g bl t.size wo.heap.size u12 (some ad2) (ux, vy) by rw [← hw5]; exact HRb4.out.below (below_drew1 (Below.refl _ _)))
          have hit5 := am (show w5.heap[wo.heap.size]? = some (.stringIter ⟨#[101, 110, 115, 119]⟩ (m + 1)) by rw [← hw5]; exact hit4.out)
          obtain ⟨ha0, ha1⟩ := HRow5.out.two
          obtain ⟨hb0, hb1⟩ := HRb5.out.two
          have hxw : x < t.size := HXY.out.1
          have hyh : y < s.size := HXY.out.2
          have hrowb := HQ5.out.1.row ux hux
          have hrowa := HQ5.out.1.row x hxw
          have hcela : w5.cell? ⟨bl x, y, none⟩ = some (.int .i64 da) := by rw [HDA.out]; exact HQ5.out.1.cell x y hxw hyh
          have hcelb : w5.cell? ⟨bl ux, vy, none⟩ = some (.int .i64 dv) := by rw [HDE.out]; exact HQ5.out.1.cell ux vy hux hvy
          have hfreb := HQ5.out.1.free ux vy hux
          have HQ6 := am (HQ5.out.store ux vy hux hvy (da + 1))
          have HRow6 := am (HRow5.out.store ux vy hux (.int .i64 (da + 1)))
          have HRb6 := am (HRb5.out.store ux vy hux (.int .i64 (da + 1)))
          have hit6 := am ((Below.heap_setCell w5 ⟨bl ux, vy, none⟩ (.int .i64 (da + 1)) wo.heap.size (fun e => by
           obtain ⟨c, z, -⟩ := HQ5.out.1.2.1 ux hux
           have e' : wo.heap.size = bl ux := e
           rw [← e', hit5.out] at z
           simp at z)).trans hit5.out)
          change wpStill _ _ W4.drew _ _ _
          rw [hw5]
          have HW5 := am hw5
          clear hw5
          repeat still_step
          refine wpStill_nil ?_
          change wpList _ _ _ _ _ W4.drew
          rw [HW5.out]
          have HI := am (show (Try.prog.info? 26).map (fun i => (i.zero, i.size, i.bytes)) = some (some (.slice none 0 0), 1, 24) from by kernel_rfl)
          clear HQ5 HRow5 HRb5 hit5 ha0 ha1 hb0 hb1 hrowa hcela HQ4 HRow4 HRb4 hit4
          go_wp2_with ((with_reducible refine gate_builtin (b := .append) (xs := #[.tmp 119, .tmp 121]) rfl ?_); at_builtin; refine Kd.N_append (Kd.slice 3 (Kd.int .i64)) (w0 := w) w.heap.size rfl (.tmp 119) (.tmp 121) 47 26 (.slice none 0 0) 24 rfl Try.underlying47 HI.out rfl (by decide) (by omega) u12 (q'.map impl_distancesBy.pt) (impl_distancesBy.pt (ux, vy)) [.slice (some ad2) 2 c2] (impl_distancesBy.ok g bl t.size wo.heap.size) (fun k => impl_distancesBy.ok g bl t.size wo.heap.size k ∧ some k ≠ u12.ownBlock) rfl ?aX ?aP (fun _ hk => hk) ?aF ?aO ?aB ?aS ?aL ?_; (case aX => simp; rfl); (case aP => exact Foot.imp HRb6.out (fun W' hC => ⟨some ad2, c2, rfl, hl2, hC⟩)); (case aF => exact (fun k hk => ⟨⟨fun e => by have := HQ6.out.1.lt.1; omega, fun x hx e => by have := HQ6.out.1.lt.2 x hx; omega⟩, fun e => by have := (Array.getElem?_eq_some_iff.1 hit6.out).1; omega⟩)); (case aO => exact HQ6.out.2.1); (case aB => exact HQ6.out.2.2.1); (case aS => exact HQ6.out.2.2.1.size); (case aL => (have := HL64.out; simp; omega)); intro v7 W7 hN hB7 hg hat; have HQ7 := am (HQ6.out.grown (q' := q' ++ [(ux, vy)]) hg (by rw [List.map_append]; exact hN) hB7); have HRow7 := am (HRow6.out.grown hg hat); have hit7 := am ((hg.block wo.heap.size (Array.getElem?_eq_some_iff.1 hit6.out).1 (fun e => (HQ6.out.2.1.1 _ e.symm).2 rfl)).trans hit6.out); clear HQ6 HRow6 HRb6 hit6 hN hB7 hg hat)
          go_roundw
          case rel => exact ⟨m + 1, q' ++ [(ux, vy)], fun c => if c = (ux, vy) then da + 1 else d' c, by omega, hit7.out, HQ7, ⟨by have z := HBf.out.add HM4.out (x, y) HX.out (ux, vy) HST.out HDN.out; rw [← HDA.out] at z; exact z⟩, ⟨fun r hr => (List.mem_append.1 hr).elim (HV.out r) (fun h => by rw [List.mem_singleton.1 h]; exact ⟨hux, hvy⟩)⟩, HRow7, ⟨by rw [List.getElem?_append_left (List.getElem?_eq_some_iff.1 HX.out).1]; exact HX.out⟩⟩
          case measure => rw [impl_distancesBy.ipos hit7.out, impl_distancesBy.ipos HIT.out]; omega
        | false =>
         rw [if_neg (show ¬ (false = true) by simp)] at HST
         cases hcan : impl_driveIn.can s t (x : Int) (y : Int) m with
         | false =>
          rw [hcan, if_neg (by simp)] at HST
          have HK := am (show ∀ (A2 : Addr) (c2 : Nat) (W : World), Kd.C (Kd.int .i64) W (some A2) 2 (impl_distancesBy.pt (x, y)) → 2 ≤ c2 → W.heap[p]? = w.heap[p]? → Calls Try.prog 60 #[.slice (some A2) 2 c2, .int .i64 ((m : Int)), .pointer (some ⟨p, 0, none⟩)] W (fun e w' => e = .returned (.bool false) ∧ Below W.heap.size W w') from fun A2 c2 W hC hl hW => by
           have z := impl_driveIn.clo s t HS.out p (some A2) c2 (x : Int) (y : Int) m (by omega) W hC hl HAT.out (hW.trans HP.out)
           rw [hcan] at z
           exact z)
          replace HST := am HST
          clear hcan
          go_wp2_with (go_at_call 59; refine (impl_moved.calls _ _ [(x : Int), (y : Int)] (m : Int) _ _ HRow1.out.cells HCa.out HM.out).mono ?_; rintro e W2 ⟨v0, rfl, hR, hB⟩; obtain ⟨A2, c2, e2⟩ := Kd.R_slice hR; rw [show ([(ux : Int), (vy : Int)] : List Int).length = 2 from rfl] at e2; subst e2; have hC2 := (Kd.R_reads' hR).2.2; rw [show ([(ux : Int), (vy : Int)] : List Int).length = 2 from rfl] at hC2; have hl2 := (Kd.R_reads' hR).2.1; obtain ⟨ad2, hA2, hu0⟩ := Kd.at_int hC2 0 (by omega) (by omega); obtain ⟨ad3, hA3, hu1⟩ := Kd.at_int hC2 1 (by omega) (by omega); subst hA2; obtain rfl : ad2 = ad3 := (by injection hA3); rw [show (0 : Int).toNat = 0 from rfl, Addr.add_zero', show rd [(ux : Int), (vy : Int)] 0 = (ux : Int) from rfl] at hu0; rw [show rd [(ux : Int), (vy : Int)] 1 = (vy : Int) from rfl] at hu1; simp only [show (1 : Int).toNat = 1 from rfl, Nat.reduceMul, Nat.reduceEqDiff, Go.Addr.add, ↓reduceIte] at hu1; have HQ2 := am (HQ1.out.below hB); have HRow2 := am (HRow1.out.below hB); have hit2 := am ((hB.block _ HIL.out).trans hit1.out); have HRb2 := am (show impl_distancesBy.Row W2 g bl t.size wo.heap.size u12 (some ad2) (ux, vy) from Kd.F_mono (Kd.R_F (Kd.R_bound hR)) (fun k hk => ⟨⟨⟨fun e => by have := HQ1.out.1.lt.1; omega, fun x hx e => by have := HQ1.out.1.lt.2 x hx; omega⟩, fun e => by have := HIL.out; omega⟩, fun e => by have := Kd.N_lt HQ1.out.2.1 k e.symm; omega⟩)); clear HQ1 HRow1 hit1 hB hR hC2 hA3; have hrow := HQ2.out.1.row ux hux; have hcel : W2.cell? ⟨bl ux, vy, none⟩ = some (.int .i64 dv) := (by rw [HDE.out]; exact HQ2.out.1.cell ux vy hux hvy))
          go_quiet (first | (go_at_call 61; (with_reducible refine (impl_within.calls (ux : Int) 0 ((t.size : Int) - 1) true _ W0.out).mono ?_); rintro e w' ⟨rfl, ⟨nd, rfl⟩⟩; exact ⟨rfl, _, World.drewN_drewN _ _ _⟩) | (go_at_call 61; (with_reducible refine (impl_within.calls (vy : Int) 0 ((s.size : Int) - 1) true _ W1.out).mono ?_); rintro e w' ⟨rfl, ⟨nd, rfl⟩⟩; exact ⟨rfl, _, World.drewN_drewN _ _ _⟩))
          go_wp2_with (go_at_call 60; refine (HK.out ada ca _ (HRow2.out.below (pw_below_drewN (Below.refl _ _) _)).cells HCa.out (HQ2.out.2.2.1.block p HPL.out)).mono ?_; rintro e W4 ⟨rfl, hB4⟩; have HQ4 := am ((HQ2.out.below (pw_below_drewN (Below.refl _ _) _)).below hB4); have HRow4 := am ((HRow2.out.below (pw_below_drewN (Below.refl _ _) _)).below hB4); have HRb4 := am ((HRb2.out.below (pw_below_drewN (Below.refl _ _) _)).below hB4); have hit4 := am ((hB4.block _ (Array.getElem?_eq_some_iff.1 hit2.out).1).trans hit2.out); clear HQ2 HRow2 HRb2 hit2 hB4 hu0 hu1 hrow hcel)
          go_roundw
          case rel => exact ⟨m + 1, q', d', by omega, hit4.out, HQ4, ⟨HBf.out.skip (x, y) HX.out (fun c hc => by rw [HST.out] at hc; cases hc)⟩, HV, HRow4, HX⟩
          case measure => rw [impl_distancesBy.ipos hit4.out, impl_distancesBy.ipos HIT.out]; omega
         | true =>
          rw [hcan, if_pos rfl] at HST
          have HK := am (show ∀ (A2 : Addr) (c2 : Nat) (W : World), Kd.C (Kd.int .i64) W (some A2) 2 (impl_distancesBy.pt (x, y)) → 2 ≤ c2 → W.heap[p]? = w.heap[p]? → Calls Try.prog 60 #[.slice (some A2) 2 c2, .int .i64 ((m : Int)), .pointer (some ⟨p, 0, none⟩)] W (fun e w' => e = .returned (.bool true) ∧ Below W.heap.size W w') from fun A2 c2 W hC hl hW => by
           have z := impl_driveIn.clo s t HS.out p (some A2) c2 (x : Int) (y : Int) m (by omega) W hC hl HAT.out (hW.trans HP.out)
           rw [hcan] at z
           exact z)
          replace HST := am HST
          obtain ⟨da, hda⟩ : ∃ da, da = d' (x, y) := ⟨_, rfl⟩
          have HDA := am hda
          have HL64 := am (impl_distancesBy.len HBf.out HV.out t8 s8)
          have hda1 : 0 ≤ da ∧ da ≤ 64 := by
           have z1 := (HBf.out.mem (x, y)).2 (List.mem_of_getElem? HX.out)
           have z2 := HBf.out.deep k (x, y) HX.out
           have z3 := (List.getElem?_eq_some_iff.1 HX.out).1
           have z4 := HL64.out
           rw [hda]
           omega
          have ew : IntKind.i64.wrap (da + 1) = da + 1 := (i64_w _).trans (by unfold wrap64; omega)
          clear hcan hda hda1
          go_wp2_with (go_at_call 59; refine (impl_moved.calls _ _ [(x : Int), (y : Int)] (m : Int) _ _ HRow1.out.cells HCa.out HM.out).mono ?_; rintro e W2 ⟨v0, rfl, hR, hB⟩; obtain ⟨A2, c2, e2⟩ := Kd.R_slice hR; rw [show ([(ux : Int), (vy : Int)] : List Int).length = 2 from rfl] at e2; subst e2; have hC2 := (Kd.R_reads' hR).2.2; rw [show ([(ux : Int), (vy : Int)] : List Int).length = 2 from rfl] at hC2; have hl2 := (Kd.R_reads' hR).2.1; obtain ⟨ad2, hA2, hu0⟩ := Kd.at_int hC2 0 (by omega) (by omega); obtain ⟨ad3, hA3, hu1⟩ := Kd.at_int hC2 1 (by omega) (by omega); subst hA2; obtain rfl : ad2 = ad3 := (by injection hA3); rw [show (0 : Int).toNat = 0 from rfl, Addr.add_zero', show rd [(ux : Int), (vy : Int)] 0 = (ux : Int) from rfl] at hu0; rw [show rd [(ux : Int), (vy : Int)] 1 = (vy : Int) from rfl] at hu1; simp only [show (1 : Int).toNat = 1 from rfl, Nat.reduceMul, Nat.reduceEqDiff, Go.Addr.add, ↓reduceIte] at hu1; have HQ2 := am (HQ1.out.below hB); have HRow2 := am (HRow1.out.below hB); have hit2 := am ((hB.block _ HIL.out).trans hit1.out); have HRb2 := am (show impl_distancesBy.Row W2 g bl t.size wo.heap.size u12 (some ad2) (ux, vy) from Kd.F_mono (Kd.R_F (Kd.R_bound hR)) (fun k hk => ⟨⟨⟨fun e => by have := HQ1.out.1.lt.1; omega, fun x hx e => by have := HQ1.out.1.lt.2 x hx; omega⟩, fun e => by have := HIL.out; omega⟩, fun e => by have := Kd.N_lt HQ1.out.2.1 k e.symm; omega⟩)); clear HQ1 HRow1 hit1 hB hR hC2 hA3; have hrow := HQ2.out.1.row ux hux; have hcel : W2.cell? ⟨bl ux, vy, none⟩ = some (.int .i64 dv) := (by rw [HDE.out]; exact HQ2.out.1.cell ux vy hux hvy))
          go_quiet (first | (go_at_call 61; (with_reducible refine (impl_within.calls (ux : Int) 0 ((t.size : Int) - 1) true _ W0.out).mono ?_); rintro e w' ⟨rfl, ⟨nd, rfl⟩⟩; exact ⟨rfl, _, World.drewN_drewN _ _ _⟩) | (go_at_call 61; (with_reducible refine (impl_within.calls (vy : Int) 0 ((s.size : Int) - 1) true _ W1.out).mono ?_); rintro e w' ⟨rfl, ⟨nd, rfl⟩⟩; exact ⟨rfl, _, World.drewN_drewN _ _ _⟩))
          go_wp2_with (go_at_call 60; refine (HK.out ada ca _ (HRow2.out.below (pw_below_drewN (Below.refl _ _) _)).cells HCa.out (HQ2.out.2.2.1.block p HPL.out)).mono ?_; rintro e W4 ⟨rfl, hB4⟩; have HQ4 := am ((HQ2.out.below (pw_below_drewN (Below.refl _ _) _)).below hB4); have HRow4 := am ((HRow2.out.below (pw_below_drewN (Below.refl _ _) _)).below hB4); have HRb4 := am ((HRb2.out.below (pw_below_drewN (Below.refl _ _) _)).below hB4); have hit4 := am ((hB4.block _ (Array.getElem?_eq_some_iff.1 hit2.out).1).trans hit2.out); clear HQ2 HRow2 HRb2 hit2 hB4 hu0 hu1 hrow hcel)
          refine wp_region_still_tail 21 (by kernel_rfl) (by kernel_rfl) ?_
          simp only [List.take_succ_cons, List.take_zero, List.drop_succ_cons, List.drop_zero]
          obtain ⟨w5, hw5⟩ : ∃ w5 : World, W4.drew = w5 := ⟨_, rfl⟩
          have HQ5 := am (show impl_distancesBy.St w w5 g bl t.size s.size wo.heap.size q' d' u12 by rw [← hw5]; exact HQ4.out.below (below_drew1 (Below.refl _ _)))
          have HRow5 := am (show impl_distancesBy.Row w5 g bl t.size wo.heap.size u12 (some ada) (x, y) by rw [← hw5]; exact HRow4.out.below (below_drew1 (Below.refl _ _)))
          have HRb5 := am (show impl_distancesBy.Row w5 g bl t.size wo.heap.size u12 (some ad2) (ux, vy) by rw [← hw5]; exact HRb4.out.below (below_drew1 (Below.refl _ _)))
          have hit5 := am (show w5.heap[wo.heap.size]? = some (.stringIter ⟨#[101, 110, 115, 119]⟩ (m + 1)) by rw [← hw5]; exact hit4.out)
          obtain ⟨ha0, ha1⟩ := HRow5.out.two
          obtain ⟨hb0, hb1⟩ := HRb5.out.two
          have hxw : x < t.size := HXY.out.1
          have hyh : y < s.size := HXY.out.2
          have hrowb := HQ5.out.1.row ux hux
          have hrowa := HQ5.out.1.row x hxw
          have hcela : w5.cell? ⟨bl x, y, none⟩ = some (.int .i64 da) := by rw [HDA.out]; exact HQ5.out.1.cell x y hxw hyh
          have hcelb : w5.cell? ⟨bl ux, vy, none⟩ = some (.int .i64 dv) := by rw [HDE.out]; exact HQ5.out.1.cell ux vy hux hvy
          have hfreb := HQ5.out.1.free ux vy hux
          have HQ6 := am (HQ5.out.store ux vy hux hvy (da + 1))
          have HRow6 := am (HRow5.out.store ux vy hux (.int .i64 (da + 1)))
          have HRb6 := am (HRb5.out.store ux vy hux (.int .i64 (da + 1)))
          have hit6 := am ((Below.heap_setCell w5 ⟨bl ux, vy, none⟩ (.int .i64 (da + 1)) wo.heap.size (fun e => by
           obtain ⟨c, z, -⟩ := HQ5.out.1.2.1 ux hux
           have e' : wo.heap.size = bl ux := e
           rw [← e', hit5.out] at z
           simp at z)).trans hit5.out)
          change wpStill _ _ W4.drew _ _ _
          rw [hw5]
          have HW5 := am hw5
          clear hw5
          repeat still_step
          refine wpStill_nil ?_
          change wpList _ _ _ _ _ W4.drew
          rw [HW5.out]
          have HI := am (show (Try.prog.info? 26).map (fun i => (i.zero, i.size, i.bytes)) = some (some (.slice none 0 0), 1, 24) from by kernel_rfl)
          clear HQ5 HRow5 HRb5 hit5 ha0 ha1 hb0 hb1 hrowa hcela HQ4 HRow4 HRb4 hit4
          go_wp2_with ((with_reducible refine gate_builtin (b := .append) (xs := #[.tmp 119, .tmp 121]) rfl ?_); at_builtin; refine Kd.N_append (Kd.slice 3 (Kd.int .i64)) (w0 := w) w.heap.size rfl (.tmp 119) (.tmp 121) 47 26 (.slice none 0 0) 24 rfl Try.underlying47 HI.out rfl (by decide) (by omega) u12 (q'.map impl_distancesBy.pt) (impl_distancesBy.pt (ux, vy)) [.slice (some ad2) 2 c2] (impl_distancesBy.ok g bl t.size wo.heap.size) (fun k => impl_distancesBy.ok g bl t.size wo.heap.size k ∧ some k ≠ u12.ownBlock) rfl ?aX ?aP (fun _ hk => hk) ?aF ?aO ?aB ?aS ?aL ?_; (case aX => simp; rfl); (case aP => exact Foot.imp HRb6.out (fun W' hC => ⟨some ad2, c2, rfl, hl2, hC⟩)); (case aF => exact (fun k hk => ⟨⟨fun e => by have := HQ6.out.1.lt.1; omega, fun x hx e => by have := HQ6.out.1.lt.2 x hx; omega⟩, fun e => by have := (Array.getElem?_eq_some_iff.1 hit6.out).1; omega⟩)); (case aO => exact HQ6.out.2.1); (case aB => exact HQ6.out.2.2.1); (case aS => exact HQ6.out.2.2.1.size); (case aL => (have := HL64.out; simp; omega)); intro v7 W7 hN hB7 hg hat; have HQ7 := am (HQ6.out.grown (q' := q' ++ [(ux, vy)]) hg (by rw [List.map_append]; exact hN) hB7); have HRow7 := am (HRow6.out.grown hg hat); have hit7 := am ((hg.block wo.heap.size (Array.getElem?_eq_some_iff.1 hit6.out).1 (fun e => (HQ6.out.2.1.1 _ e.symm).2 rfl)).trans hit6.out); clear HQ6 HRow6 HRb6 hit6 hN hB7 hg hat)
          go_roundw
          case rel => exact ⟨m + 1, q' ++ [(ux, vy)], fun c => if c = (ux, vy) then da + 1 else d' c, by omega, hit7.out, HQ7, ⟨by have z := HBf.out.add HM4.out (x, y) HX.out (ux, vy) HST.out HDN.out; rw [← HDA.out] at z; exact z⟩, ⟨fun r hr => (List.mem_append.1 hr).elim (HV.out r) (fun h => by rw [List.mem_singleton.1 h]; exact ⟨hux, hvy⟩)⟩, HRow7, ⟨by rw [List.getElem?_append_left (List.getElem?_eq_some_iff.1 HX.out).1]; exact HX.out⟩⟩
          case measure => rw [impl_distancesBy.ipos hit7.out, impl_distancesBy.ipos HIT.out]; omega
      ·rw [decide_eq_false c1] at W1
       rw [if_neg (fun z => c1 z.1.2)] at HST
       have HST := am HST
       clear c0 c1
       go_wp2_with (go_at_call 59; refine (impl_moved.calls _ _ [(x : Int), (y : Int)] (m : Int) _ _ HRow1.out.cells HCa.out HM.out).mono ?_; rintro e W2 ⟨v0, rfl, hR, hB⟩; obtain ⟨A2, c2, e2⟩ := Kd.R_slice hR; rw [show ([u, v] : List Int).length = 2 from rfl] at e2; subst e2; have hC2 := (Kd.R_reads' hR).2.2; rw [show ([u, v] : List Int).length = 2 from rfl] at hC2; have hl2 := (Kd.R_reads' hR).2.1; obtain ⟨ad2, hA2, hu0⟩ := Kd.at_int hC2 0 (by omega) (by omega); obtain ⟨ad3, hA3, hu1⟩ := Kd.at_int hC2 1 (by omega) (by omega); subst hA2; obtain rfl : ad2 = ad3 := (by injection hA3); rw [show (0 : Int).toNat = 0 from rfl, Addr.add_zero', show rd [u, v] 0 = u from rfl] at hu0; rw [show rd [u, v] 1 = v from rfl] at hu1; simp only [show (1 : Int).toNat = 1 from rfl, Nat.reduceMul, Nat.reduceEqDiff, Go.Addr.add, ↓reduceIte] at hu1; have HQ2 := am (HQ1.out.below hB); have HRow2 := am (HRow1.out.below hB); have hit2 := am ((hB.block _ HIL.out).trans hit1.out); have HR2 := am hR; clear HQ1 HRow1 hit1 hB hR hC2 hA3)
       go_quiet (first | (go_at_call 61; (with_reducible refine (impl_within.calls u 0 ((t.size : Int) - 1) true _ W0.out).mono ?_); rintro e w' ⟨rfl, ⟨nd, rfl⟩⟩; exact ⟨rfl, _, World.drewN_drewN _ _ _⟩) | (go_at_call 61; (with_reducible refine (impl_within.calls v 0 ((s.size : Int) - 1) false _ W1.out).mono ?_); rintro e w' ⟨rfl, ⟨nd, rfl⟩⟩; exact ⟨rfl, _, World.drewN_drewN _ _ _⟩))
       go_wp2
       go_roundw
       case rel => exact ⟨m + 1, q', d', by omega, hit2.out, ⟨HQ2.out.below (pw_below_drewN (Below.refl _ _) _)⟩, ⟨HBf.out.skip (x, y) HX.out (fun c hc => by rw [HST.out] at hc; cases hc)⟩, HV, ⟨HRow2.out.below (pw_below_drewN (Below.refl _ _) _)⟩, HX⟩
       case measure => rw [impl_distancesBy.ipos (show (W2.drewN _).heap[wo.heap.size]? = _ from hit2.out), impl_distancesBy.ipos HIT.out]; omega
     ·rw [decide_eq_false c0] at W0
      rw [if_neg (fun z => c0 z.1.1)] at HST
      have HST := am HST
      clear c0 W1
      go_wp2_with (go_at_call 59; refine (impl_moved.calls _ _ [(x : Int), (y : Int)] (m : Int) _ _ HRow1.out.cells HCa.out HM.out).mono ?_; rintro e W2 ⟨v0, rfl, hR, hB⟩; obtain ⟨A2, c2, e2⟩ := Kd.R_slice hR; rw [show ([u, v] : List Int).length = 2 from rfl] at e2; subst e2; have hC2 := (Kd.R_reads' hR).2.2; rw [show ([u, v] : List Int).length = 2 from rfl] at hC2; have hl2 := (Kd.R_reads' hR).2.1; obtain ⟨ad2, hA2, hu0⟩ := Kd.at_int hC2 0 (by omega) (by omega); obtain ⟨ad3, hA3, hu1⟩ := Kd.at_int hC2 1 (by omega) (by omega); subst hA2; obtain rfl : ad2 = ad3 := (by injection hA3); rw [show (0 : Int).toNat = 0 from rfl, Addr.add_zero', show rd [u, v] 0 = u from rfl] at hu0; rw [show rd [u, v] 1 = v from rfl] at hu1; simp only [show (1 : Int).toNat = 1 from rfl, Nat.reduceMul, Nat.reduceEqDiff, Go.Addr.add, ↓reduceIte] at hu1; have HQ2 := am (HQ1.out.below hB); have HRow2 := am (HRow1.out.below hB); have hit2 := am ((hB.block _ HIL.out).trans hit1.out); have HR2 := am hR; clear HQ1 HRow1 hit1 hB hR hC2 hA3)
      go_quiet ((go_at_call 61; (with_reducible refine (impl_within.calls u 0 ((t.size : Int) - 1) false _ W0.out).mono ?_); rintro e w' ⟨rfl, ⟨nd, rfl⟩⟩; exact ⟨rfl, _, World.drewN_drewN _ _ _⟩))
      go_wp2
      go_roundw
      case rel => exact ⟨m + 1, q', d', by omega, hit2.out, ⟨HQ2.out.below (pw_below_drewN (Below.refl _ _) _)⟩, ⟨HBf.out.skip (x, y) HX.out (fun c hc => by rw [HST.out] at hc; cases hc)⟩, HV, ⟨HRow2.out.below (pw_below_drewN (Below.refl _ _) _)⟩, HX⟩
      case measure => rw [impl_distancesBy.ipos (show (W2.drewN _).heap[wo.heap.size]? = _ from hit2.out), impl_distancesBy.ipos HIT.out]; omega
    ·obtain rfl : m = 4 := by omega
     have hnx : ∀ ty, (Instr.next (.pointer (some ⟨wo.heap.size, 0, none⟩)) true ty).run Try.prog wr = _ := fun ty => Go.Lib.run_next_end_at wr wo.heap.size ⟨#[101, 110, 115, 119]⟩ 4 ty hit (by decide)
     have HN := am (HBf.out.next (List.getElem?_eq_some_iff.1 HX.out).1)
     go_wp2
     go_roundw
     case rel => exact ⟨k + 1, q', d', by go_num, (List.getElem?_eq_some_iff.1 HX.out).1, ⟨by obtain ⟨h1, h2, h3, h4⟩ := HQ.out; exact ⟨h1, Kd.N_mono h2 (fun k hk => ⟨hk.1, hk.1.1⟩), h3, h4⟩⟩, HN, HV⟩
     case measure =>
      have h64 := impl_distancesBy.len HBf.out HV.out HS.out.1.2 HS.out.2.2
      have hkl := (List.getElem?_eq_some_iff.1 HX.out).1
      simp [intOf]
      omega
  ·obtain rfl : k = q.length := by omega
   clear hlt
   go_wp2
   go_ret
   refine ⟨g, bl, d, rfl, HQ.out.1, ⟨HBf.out.done rfl, fun c hc => HV.out c ((HBf.out.mem c).1 hc), fun c => ?_⟩, Hb.out, HQ.out.2.2.1⟩
   by_cases z : 0 ≤ d c
   ·obtain ⟨j, hj, e⟩ := List.getElem_of_mem ((HBf.out.mem c).1 z)
    have := HBf.out.deep j c (by rw [List.getElem?_eq_getElem hj, e])
    omega
   ·omega
def impl_distancesBy.nodes (s t : ByteArray) : List (Nat × Nat) := (List.range t.size).flatMap fun x => (List.range s.size).map fun y => (x, y)
theorem impl_distancesBy.mem_nodes {s t : ByteArray} {c : Nat × Nat} (h : c.1 < t.size ∧ c.2 < s.size) : c ∈ impl_distancesBy.nodes s t := List.mem_flatMap.2 ⟨c.1, List.mem_range.2 h.1, List.mem_map.2 ⟨c.2, List.mem_range.2 h.2, rfl⟩⟩
def impl_distancesBy.dist (back : Bool) (s t : ByteArray) (a : Nat × Nat) : Nat × Nat → Int := theFar (impl_distancesBy.stp back s t) (impl_distancesBy.nodes s t) 64 a
theorem impl_distancesBy.dists (s t : ByteArray) (hS : impl_driveIn.Sized s t) (back : Bool) (p : Nat) (A : Option Addr) (c : Nat) (a : Nat × Nat) (ha : a.1 < t.size ∧ a.2 < s.size) (hc : 2 ≤ c) (w : World) (hr : Kd.C (Kd.int .i64) w A 2 (impl_distancesBy.pt a)) (hp : w.heap[p]? = some (.cells #[.string s, .string t] 25 (0, 0))) :
  Calls Try.prog 57 #[.int .i64 t.size, .int .i64 s.size, .slice A 2 c, .func (.func 60) #[] #[.pointer (some ⟨p, 0, none⟩)], .bool back] w fun e w' => ∃ v, e = .returned v ∧ Kd.S (Kd.slice 3 (Kd.int .i64)) 26 w' w.heap.size (fun _ => True) v (impl_distancesBy.tab t.size s.size (impl_distancesBy.dist back s t a)) ∧ Far (Leads (impl_distancesBy.stp back s t)) a (impl_distancesBy.dist back s t a) ∧ Below w.heap.size w w' := by
 refine (impl_distancesBy.walk s t hS back p A c a ha hc w hr hp).mono ?_
 rintro e w' ⟨g, bl, d, rfl, hG, ⟨h1, h2, h3⟩, hb, hB⟩
 have e : impl_distancesBy.dist back s t a = d := h1.the _ (fun p hp => impl_distancesBy.mem_nodes (h2 p hp)) 64 h3
 rw [e]
 exact ⟨_, rfl, hG.own hS.1.2 hS.2.2 _ hb, h1, hB⟩
def impl_distancesBy.f : Nat → Int → Int → List Int → ByteArray × ByteArray → Bool → Option (List (List Int))
 | 0, _, _, _, _, _ => none
 | _ + 1, a0, a1, l2, a3, a4 => if ((a0 = a3.2.size ∧ a1 = a3.1.size) ∧ l2.length = 2) ∧ impl_driveIn.Sized a3.1 a3.2 ∧ impl_driveIn.At a3.1 a3.2 (rd l2 0) (rd l2 1) then some (impl_distancesBy.tab a3.2.size a3.1.size (impl_distancesBy.dist a4 a3.1 a3.2 ((rd l2 0).toNat, (rd l2 1).toNat))) else none
theorem impl_distancesBy.calls (k : Nat) (a0 a1 : Int) (A2 : Option Addr) (c2 : Nat) (l2 : List Int) (a3 : ByteArray × ByteArray) (a4 : Bool) (r : List (List Int)) (w : World) (hr2 : Kd.C (Kd.int .i64) w A2 l2.length l2) (hc2 : l2.length ≤ c2) (h : impl_distancesBy.f k a0 a1 l2 a3 a4 = some r) (p : Nat) (hp : w.heap[p]? = some (.cells #[.string a3.1, .string a3.2] 25 (0, 0))) :
  Calls Try.prog 57 #[.int .i64 a0, .int .i64 a1, .slice A2 l2.length c2, .func (.func 60) #[] #[.pointer (some ⟨p, 0, none⟩)], .bool a4] w fun e w' => ∃ v0_ : Value, e = .returned (v0_) ∧ Kd.S (Kd.slice 3 (Kd.int .i64)) 26 w' w.heap.size (fun _ => True) v0_ r ∧ Below w.heap.size w w' := by
 cases k with
 | zero => cases h
 | succ k =>
 simp only [impl_distancesBy.f] at h
 by_cases c : ((a0 = a3.2.size ∧ a1 = a3.1.size) ∧ l2.length = 2) ∧ impl_driveIn.Sized a3.1 a3.2 ∧ impl_driveIn.At a3.1 a3.2 (rd l2 0) (rd l2 1)
 ·rw [if_pos c] at h
  obtain ⟨⟨⟨rfl, rfl⟩, hl⟩, hS, ⟨x0, x1⟩, y0, y1⟩ := c
  have e : l2 = impl_distancesBy.pt ((rd l2 0).toNat, (rd l2 1).toNat) := by
   match l2, hl with
   | [x, y], _ =>
    show [x, y] = [((x.toNat : Nat) : Int), ((y.toNat : Nat) : Int)]
    have x0' : 0 ≤ x := x0
    have y0' : 0 ≤ y := y0
    rw [Int.toNat_of_nonneg x0', Int.toNat_of_nonneg y0']
  rw [hl] at hr2 hc2 ⊢
  refine (impl_distancesBy.dists a3.1 a3.2 hS a4 p A2 c2 ((rd l2 0).toNat, (rd l2 1).toNat) ⟨by show (rd l2 0).toNat < _; omega, by show (rd l2 1).toNat < _; omega⟩ hc2 w (by rw [← e]; exact hr2) hp).mono ?_
  rintro e' w' ⟨v, rfl, hs, -, hb⟩
  rw [← Option.some.inj h]
  exact ⟨v, rfl, hs, hb⟩
 ·rw [if_neg c] at h
  cases h
def impl_drivesTo.f (k : Nat) (a0_0 : ByteArray) (a0_1 : ByteArray) (l1 : List Int) : Option ((List (List Int))) := (impl_driveIn.f a0_0 a0_1).bind fun t247 => ((impl_distancesBy.f k (a0_1.size : Int) (a0_0.size : Int) l1 t247 true).bind fun t248 => (some t248))
def impl_drivesTo.T1 : Bool × List (List Nat × List Nat) := (true, [([], []), ([0], [0]), ([1], [1]), ([], []), ([3], [3]), ([4], [4]), ([], []), ([], []), ([7], [7]), ([2, 5, 6, 8, 8], [2, 5, 6, 8]), ([9, 9, 0, 1, 2, 3, 4, 5, 6, 7, 8, 9], [9])])
def impl_drivesTo.B1 : List Nat := [0, 1, 3, 0, 8, 24, 0, 0, 128, 511, 1023]
theorem impl_drivesTo.tab1 : rtab .any (opsOf Try.f30 1) = impl_drivesTo.T1 := by kernel_rfl
theorem impl_drivesTo.bits1 : waitsOk impl_drivesTo.T1.2 impl_drivesTo.B1 = true := by kernel_rfl
theorem impl_drivesTo.calls (k : Nat) (a0_0 : ByteArray) (a0_1 : ByteArray) (A1 : Option Addr) (c1 : Nat) (l1 : List Int) (r : List (List Int)) (w : World) (hr1 : Kd.C (Kd.int .i64) w A1 l1.length l1) (hc1 : l1.length ≤ c1) (h : impl_drivesTo.f k a0_0 a0_1 l1 = some r) :
  Calls Try.prog 30 #[.agg #[.string a0_0, .string a0_1], .slice A1 l1.length c1] w fun e w' => ∃ v0_ : Value, e = .returned (v0_) ∧ Kd.S (Kd.slice 3 (Kd.int .i64)) 26 w' w.heap.size (fun _ => True) v0_ r ∧ Below w.heap.size w w' := by
 have hu25 := Try.underlying25
 have HR1 := am hr1
 have HC1 := am hc1
 clear hr1 hc1
 have HB := am (Below.refl w.heap.size w)
 unfold impl_drivesTo.f at h
 have H := h
 clear h
 obtain ⟨t247, A3, H⟩ := bnd_ H
 try dsimp only at H
 obtain ⟨t248, A4, H⟩ := bnd_ H
 try dsimp only at H
 obtain rfl := Option.some.inj H
 go_enter Try.func30, Try.ntmps30
 try go_wp2_with ((with_reducible refine gate_dst (N := 2) rfl ?_); refine bx_ 2 (#[.string a0_0, .string a0_1]) 25 ?_; intro gb246 hg w5 hbox hb; have BK246 := am (hbox); have GW246 := am ((by rw [hg]; exact (below_size HB.out) : w.heap.size ≤ gb246)); have GE246 := am ((by rw [hg]; exact (below_size HB.out) : w.heap.size ≤ gb246)); replace HB := am (below_step HB.out hb); clear hb hbox hg)
 replace BK246 := am (blk_drew BK246.out)
 replace HB := am (below_drew1 HB.out)
 refine start_ (n := 11) (S := fun w' => w'.cell? ⟨gb246, 0, none⟩ = some (.string a0_0) ∧ w'.cell? ⟨gb246, 1, none⟩ = some (.string a0_1)) (ds := []) #[false, false, false, false, false, false, false, false, false, false, false] (by kernel_rfl) rfl rfl ⟨(blk_cell BK246.out 0).trans rfl, (blk_cell BK246.out 1).trans rfl⟩ (fun hHeld => ?_); refine with_tabW impl_drivesTo.tab1 impl_drivesTo.bits1 (fun HT_ HW_ => ?_)
 generalize w5.drew = w6 at BK246 HB hHeld ⊢
 refine pu_ 0 5 (fl_ 11 1) HT_ ?_
 refine pu_ 3 8 (fl_ 11 9) HT_ ?_
 refine pu_ 6 11 (fl_ 11 73) HT_ ?_
 refine tk_ 1 6 (fl_ 11 75) HT_ HW_ hHeld ?_ (hy := by rintro w' ⟨s0, s1⟩; go_simp; with_reducible rfl)
 refine pu_ 2 7 (fl_ 11 79) HT_ ?_
 refine tk_ 4 9 (fl_ 11 95) HT_ HW_ hHeld ?_ (hy := by rintro w' ⟨s0, s1⟩; go_simp; with_reducible rfl)
 refine pu_ 5 10 (fl_ 11 127) HT_ ?_
 refine tk_ 7 12 (fl_ 11 255) HT_ HW_ hHeld ?_ (hy := by rintro w' ⟨s0, s1⟩; go_simp; with_reducible rfl)
 refine on_ 8 13 (fl_ 11 511) HT_ fun K hK => ?_
 refine gs_ Try.func32 #[.agg #[.string a0_0, .string a0_1]] ?_
 with_reducible refine (impl_driveIn.calls a0_0 a0_1 t247 _ A3.out).mono ?_
 rintro e w7 ⟨p247, rfl, HP247, hb⟩
 refine ⟨_, rfl, ?_⟩
 replace BK246 := am (blk_below BK246.out hb)
 replace HB := am (below_step HB.out hb)
 (try clear hb)
 refine hK.out _ _ ⟨(blk_cell BK246.out 0).trans rfl, (blk_cell BK246.out 1).trans rfl⟩ (fun hHeld => ?_)
 clear hK K
 refine nm_ 13 ?_
 refine on_ 9 14 (fl_ 11 1023) HT_ fun K hK => ?_
 refine gs_ Try.func57 #[.int .i64 (a0_1.size : Int), .int .i64 (a0_0.size : Int), .slice A1 l1.length c1, .func (.func 60) #[] #[.pointer (some ⟨p247, 0, none⟩)], .bool true] ?_
 with_reducible refine (impl_distancesBy.calls k (a0_1.size : Int) (a0_0.size : Int) _ _ l1 t247 true t248 _ ?side1 ?side2 A4.out _ HP247).mono ?_
 (case side1 => repeat (exact (Kd.C_below HR1.out HB.out)))
 (case side2 => exact HC1.out)
 rintro e w8 ⟨v249, rfl, ho0, hb⟩
 refine ⟨_, rfl, ?_⟩
 have HO250 := am (Kd.S_lower ho0 (below_size HB.out))
 replace BK246 := am (blk_below BK246.out hb)
 replace HB := am (below_step HB.out hb)
 (try clear hb)
 (try clear ho0)
 refine hK.out _ _ ⟨(blk_cell BK246.out 0).trans rfl, (blk_cell BK246.out 1).trans rfl⟩ (fun hHeld => ?_)
 clear hK K
 refine nm_ 14 ?_
 refine pu_ 10 4 (fl_ 11 2047) HT_ ?_
 refine done_ (done_of HT_.out (by kernel_rfl)) ?_
 try go_wp2
 go_ret
 exact ⟨_, by rfl, by (with_reducible skip); exact HO250.out, by exact HB.out⟩
end Go.Proofs.Ytdhdkkhbgfcoiaa.MX
