-- The machine side, written by this repo's program mp.py; contracts marked as of this repo are this session's own.
import Derived.Test.YtdhdkkhbgfcoiaaMXx0
import Derived.Test.YtdhdkkhbgfcoiaaMXx5
import Derived.Test.YtdhdkkhbgfcoiaaMXx6
import Derived.Test.YtdhdkkhbgfcoiaaMXx7
import Derived.Test.YtdhdkkhbgfcoiaaMXx8
namespace Go.Proofs.Ytdhdkkhbgfcoiaa.MX
open Go.RowKit Go.Proofs.YtdhdkkhbgfcoiaaW.PrintWords Go.Proofs.YtdhdkkhbgfcoiaaW.PrintLast Go.Proofs.YtdhdkkhbgfcoiaaW.PrintMore
attribute [local go_sem] max2_int min2_int max_two min_two max_three min_three max_four min_four   -- for this text's walks alone
set_option maxHeartbeats 8000000
set_option maxRecDepth 100000
set_option linter.unusedVariables false
set_option linter.unusedSimpArgs false
open Go.Proofs.Ytdhdkkhbgfcoiaa.Lib (Far Bfs Leads theFar succ now pos neg w64 wsub1)
def spec_owFar.Signs (s t : ByteArray) : Prop := impl_driveIn.Sized s t ∧ (∀ j : Nat, j < s.size → bt s j = 101 ∨ bt s j = 119) ∧ ∀ j : Nat, j < t.size → bt t j = 110 ∨ bt t j = 115
instance (s t : ByteArray) : Decidable (spec_owFar.Signs s t) := by unfold spec_owFar.Signs; infer_instance
def spec_owFar.Stp (s t : ByteArray) (x y c : Int) : Int × Int × Bool :=
 if c = bt s y then (if c = 101 then x + 1 else x - 1, y, decide (0 ≤ (if c = 101 then x + 1 else x - 1) ∧ (if c = 101 then x + 1 else x - 1) ≤ (t.size : Int) - 1) && decide (0 ≤ y ∧ y ≤ (s.size : Int) - 1))
 else if c = bt t x then (x, if c = 110 then y + 1 else y - 1, decide (0 ≤ x ∧ x ≤ (t.size : Int) - 1) && decide (0 ≤ (if c = 110 then y + 1 else y - 1) ∧ (if c = 110 then y + 1 else y - 1) ≤ (s.size : Int) - 1))
 else (0, 0, false)
theorem spec_owFar.spec_in (a b c : Int) : spec_l1In.f a b c = some (decide (b ≤ a ∧ a ≤ c)) := by
 unfold spec_l1In.f
 by_cases h : a ≥ b
 ·rw [if_pos h]; simp [show b ≤ a from h]
 ·rw [if_neg h]; simp [show ¬ b ≤ a from h]
theorem spec_owFar.pair_bool {α β : Type} (a : α) (b : β) (p q : Bool) : (if p = true then some (a, b, q) else some (a, b, false)) = some (a, b, p && q) := by cases p <;> simp
theorem spec_owFar.step_f (s t : ByteArray) (x y c : Int) (hx : 0 ≤ x ∧ x < t.size) (hy : 0 ≤ y ∧ y < s.size) (hs : s.size ≤ 8) (ht : t.size ≤ 8) : Ev (fun k => spec_owStep.f k s t x y c) (spec_owFar.Stp s t x y c) := by
 unfold spec_owStep.f spec_owFar.Stp
 refine pos hy.1 (pos hy.2 ?_)
 have e1 : wrap64 (x + 1) = x + 1 := w64 (by omega) (by omega)
 have e2 : wrap64 (x - 1) = x - 1 := w64 (by omega) (by omega)
 have e3 : wrap64 (y + 1) = y + 1 := w64 (by omega) (by omega)
 have e4 : wrap64 (y - 1) = y - 1 := w64 (by omega) (by omega)
 have e5 : wrap64 ((t.size : Int) - 1) = (t.size : Int) - 1 := wsub1 (by omega)
 have e6 : wrap64 ((s.size : Int) - 1) = (s.size : Int) - 1 := wsub1 (by omega)
 by_cases a : c = bt s y
 ·rw [if_pos a]
  refine pos a (succ ?_)
  simp only [spec_owStep.j0, spec_owFar.spec_in, Option.bind_some, e1, e2, e5, e6, spec_owFar.pair_bool]
  by_cases b : c = 101
  ·rw [if_pos b]
   exact pos (by simpa using b) (now _)
  ·rw [if_neg b]
   exact neg (by simpa using b) (pos hy.1 (pos hy.2 (pos a (now _))))
 ·rw [if_neg a]
  refine neg a (succ ?_)
  simp only [spec_owStep.j0, spec_owFar.spec_in, Option.bind_some, e1, e2, e5, e6, spec_owFar.pair_bool]
  refine neg (by simp) (pos hy.1 (pos hy.2 (neg a (pos hx.1 (pos hx.2 ?_)))))
  by_cases d : c = bt t x
  ·rw [if_pos d]
   refine pos d (succ ?_)
   simp only [spec_owStep.j1, spec_owFar.spec_in, Option.bind_some, e3, e4, e5, e6, spec_owFar.pair_bool]
   by_cases b : c = 110
   ·rw [if_pos b]
    exact pos (by simpa using b) (now _)
   ·rw [if_neg b]
    exact neg (by simpa using b) (pos hx.1 (pos hx.2 (pos d (now _))))
  ·rw [if_neg d]
   refine neg d (succ ?_)
   simp only [spec_owStep.j1]
   exact neg (by simp) (pos hx.1 (pos hx.2 (neg d (now _))))
theorem spec_owFar.one (s t : ByteArray) (hg : spec_owFar.Signs s t) (x y n : Nat) (hn : n ≤ 3) (hx : x < t.size) (hy : y < s.size) : ∃ (k : Nat) (u v : Int), spec_owStep.f k s t x y (impl_driveIn.sg n) = some (u, v, impl_driveIn.can s t x y n) ∧ (impl_driveIn.can s t x y n = true → u = (x : Int) + impl_driveIn.dx n ∧ v = (y : Int) + impl_driveIn.dy n) := by
 obtain ⟨⟨⟨t1, t8⟩, s1, s8⟩, hs, ht⟩ := hg
 have hS := hs y hy
 have hT := ht x hx
 obtain ⟨k, hk⟩ := Ev.rounds (spec_owFar.step_f s t x y (impl_driveIn.sg n) (by omega) (by omega) s8 t8)
 have c : n = 0 ∨ n = 1 ∨ n = 2 ∨ n = 3 := by omega
 have c2 : impl_driveIn.can s t x y n = (spec_owFar.Stp s t x y (impl_driveIn.sg n)).2.2 := by
  unfold impl_driveIn.can spec_owFar.Stp impl_driveIn.sg impl_driveIn.dx impl_driveIn.dy
  rw [Bool.eq_iff_iff]
  rcases c with rfl | rfl | rfl | rfl <;> rcases hS with a | a <;> rcases hT with b | b <;> rw [a, b] <;> simp <;> omega
 refine ⟨k, (spec_owFar.Stp s t x y (impl_driveIn.sg n)).1, (spec_owFar.Stp s t x y (impl_driveIn.sg n)).2.1, by rw [c2]; exact hk, fun h => ?_⟩
 rw [h] at c2
 revert c2
 unfold spec_owFar.Stp impl_driveIn.sg impl_driveIn.dx impl_driveIn.dy
 rcases c with rfl | rfl | rfl | rfl <;> rcases hS with a | a <;> rcases hT with b | b <;> rw [a, b] <;> simp <;> omega
def spec_owFar.Fa (w : World) (g n k : Nat) (d : Nat → Int) : Prop := ∃ cur : Array Value, w.heap[g]? = some (.cells cur 3 (0, 0)) ∧ cur.size = n ∧ ∀ j, j < k → cur[j]? = some (.int .i64 (d j))
theorem spec_owFar.Fa.move {w w' : World} {g n k : Nat} {d : Nat → Int} (h : spec_owFar.Fa w g n k d) (e : w'.heap[g]? = w.heap[g]?) : spec_owFar.Fa w' g n k d := by
 obtain ⟨cur, h1, h2⟩ := h
 exact ⟨cur, e.trans h1, h2⟩
theorem spec_owFar.Fa.lt {w : World} {g n k : Nat} {d : Nat → Int} (h : spec_owFar.Fa w g n k d) : g < w.heap.size := by
 obtain ⟨cur, h1, h2⟩ := h
 exact (Array.getElem?_eq_some_iff.1 h1).1
theorem spec_owFar.Fa.below {w w' : World} {g n k : Nat} {d : Nat → Int} (h : spec_owFar.Fa w g n k d) (hb : Below w.heap.size w w') : spec_owFar.Fa w' g n k d := h.move (hb.block g h.lt)
theorem spec_owFar.Fa.cell {w : World} {g n k : Nat} {d : Nat → Int} (h : spec_owFar.Fa w g n k d) (j : Nat) (hj : j < k) : w.cell? ⟨g, j, none⟩ = some (.int .i64 (d j)) := by
 obtain ⟨cur, h1, h2, h3⟩ := h
 simp only [World.cell?, h1]
 simpa using h3 j hj
theorem spec_owFar.Fa.any {w : World} {g n k : Nat} {d : Nat → Int} (h : spec_owFar.Fa w g n k d) (j : Nat) (hj : j < n) : ∃ v, w.cell? ⟨g, j, none⟩ = some v := by
 obtain ⟨cur, h1, h2, h3⟩ := h
 refine ⟨cur[j]'(by omega), ?_⟩
 simp only [World.cell?, h1]
 simp [h2, hj]
theorem spec_owFar.Fa.free {w : World} {g n k : Nat} {d : Nat → Int} (h : spec_owFar.Fa w g n k d) (j : Nat) : w.frozen? ⟨g, j, none⟩ = false := by
 obtain ⟨cur, h1, h2, h3⟩ := h
 simp [World.frozen?, h1]
theorem spec_owFar.Fa.set {w : World} {g n k : Nat} {d : Nat → Int} (h : spec_owFar.Fa w g n k d) (j : Nat) (hj : j < n) (v : Int) : spec_owFar.Fa (w.setCell ⟨g, j, none⟩ (.int .i64 v)) g n (if j = k then k + 1 else k) (fun i => if i = j then v else d i) := by
 obtain ⟨cur, h1, h2, h3⟩ := h
 refine ⟨cur.setIfInBounds j (.int .i64 v), by simp [World.setCell, Array.getElem?_modify, h1], by simpa using h2, fun i hi => ?_⟩
 rw [Array.getElem?_setIfInBounds]
 by_cases f : j = i
 ·subst f; simp [h2, hj]
 ·rw [if_neg f, h3 i (by split at hi <;> omega)]
  simp [Ne.symm f]
theorem spec_owFar.Fa.ext {w : World} {g n k : Nat} {d d' : Nat → Int} (h : spec_owFar.Fa w g n k d) (e : ∀ j, j < k → d j = d' j) : spec_owFar.Fa w g n k d' := by
 obtain ⟨cur, h1, h2, h3⟩ := h
 exact ⟨cur, h1, h2, fun j hj => by rw [h3 j hj, e j hj]⟩
theorem spec_owFar.Fa.own {w : World} {g n : Nat} {d : Nat → Int} (h : spec_owFar.Fa w g n n d) (hn : n ≤ 64) (B : Nat) (hB : B ≤ g) : Kd.R (Kd.int .i64) 3 w B (fun _ => True) (.slice (some ⟨g, 0, none⟩) n n) ((List.range n).map d) := by
 obtain ⟨cur, h1, h2, h3⟩ := h
 refine Kd.R_of_own (enc := Value.int .i64) ⟨by simp [encs], .inr ⟨g, n, cur, by simp, hB, h1, by simp, by simp [maxLen]; omega, by simp [h2], ?_⟩⟩ (fun _ _ => trivial)
 refine List.ext_getElem? (fun i => ?_)
 simp only [encs, List.length_map, List.length_range, Nat.mul_one, List.getElem?_take, List.getElem?_map]
 by_cases hi : i < n
 ·rw [if_pos hi, List.getElem?_range hi]
  have z := h3 i hi
  rw [← Array.getElem?_toList] at z
  rw [z]
  rfl
 ·rw [if_neg hi, List.getElem?_eq_none (by simp; omega)]
  rfl
def spec_owFar.cd (H : Nat) (p : Nat × Nat) : Int := ((p.1 * H + p.2 : Nat) : Int)
theorem spec_owFar.cd_div (H x y : Nat) (hy : y < H) : (x * H + y) / H = x ∧ (x * H + y) % H = y := by
 rw [Nat.mul_comm]
 exact ⟨by rw [Nat.mul_add_div (by omega), Nat.div_eq_of_lt hy, Nat.add_zero], by rw [Nat.mul_add_mod, Nat.mod_eq_of_lt hy]⟩
theorem spec_owFar.cd_lt (H W x y : Nat) (hx : x < W) (hy : y < H) : x * H + y < W * H := by
 have : (x + 1) * H ≤ W * H := Nat.mul_le_mul_right _ hx
 rw [Nat.add_mul, Nat.one_mul] at this
 omega
def spec_owFar.flat (W H : Nat) (d : Nat × Nat → Int) : List Int := (List.range (W * H)).map fun j => d (j / H, j % H)
def spec_owFar.f : Nat → ByteArray → ByteArray → List Int → Option (List Int)
 | 0, _, _, _ => none
 | _ + 1, s, t, l1 => if (spec_owFar.Signs s t ∧ l1.length = 2) ∧ impl_driveIn.At s t (rd l1 0) (rd l1 1) then some (spec_owFar.flat t.size s.size (impl_distancesBy.dist false s t ((rd l1 0).toNat, (rd l1 1).toNat))) else none
def spec_owFar.St (w wr : World) (g W H : Nat) (q : List (Nat × Nat)) (d : Nat × Nat → Int) (Q : Value) : Prop :=
 spec_owFar.Fa wr g (W * H) (W * H) (fun j => d (j / H, j % H)) ∧ Kd.R (Kd.int .i64) 3 wr w.heap.size (fun k => k ≠ g) Q (q.map (spec_owFar.cd H)) ∧ Below w.heap.size w wr ∧ w.heap.size ≤ g
theorem spec_owFar.St.below {w wr w' : World} {g W H : Nat} {q : List (Nat × Nat)} {d : Nat × Nat → Int} {Q : Value} (h : spec_owFar.St w wr g W H q d Q) (hb : Below wr.heap.size wr w') : spec_owFar.St w w' g W H q d Q :=
 ⟨h.1.below hb, Kd.R_below h.2.1 hb, below_then h.2.2.1 h.2.2.1.size hb, h.2.2.2⟩
theorem spec_owFar.St.store {w wr : World} {g W H : Nat} {q : List (Nat × Nat)} {d : Nat × Nat → Int} {Q : Value} (h : spec_owFar.St w wr g W H q d Q) (x y : Nat) (hx : x < W) (hy : y < H) (v : Int) : spec_owFar.St w (wr.setCell ⟨g, x * H + y, none⟩ (.int .i64 v)) g W H q (fun c => if c = (x, y) then v else d c) Q := by
 have hlt := spec_owFar.cd_lt H W x y hx hy
 refine ⟨?_, Kd.R_far (p := ⟨g, x * H + y, none⟩) h.2.1 (fun k hk => hk) _, h.2.2.1.setCell (p := ⟨g, x * H + y, none⟩) h.2.2.2 _, h.2.2.2⟩
 have z := h.1.set (x * H + y) hlt v
 rw [if_neg (by omega)] at z
 refine z.ext (fun j hj => ?_)
 by_cases e : j = x * H + y
 ·subst e
  rw [(spec_owFar.cd_div H x y hy).1, (spec_owFar.cd_div H x y hy).2, if_pos rfl]
  simp
 ·rw [if_neg e]
  have hne : ¬ ((j / H, j % H) = (x, y)) := fun z => e (by
   injection z with z1 z2
   have := Nat.div_add_mod j H
   rw [z1, z2, Nat.mul_comm] at this
   exact this.symm)
  show d (j / H, j % H) = if (j / H, j % H) = (x, y) then v else d (j / H, j % H)
  rw [if_neg hne]
theorem spec_owFar.St.grown {w wr w' : World} {g W H : Nat} {q q' : List (Nat × Nat)} {d : Nat × Nat → Int} {Q Q' : Value} (h : spec_owFar.St w wr g W H q d Q) (hg : wr.grownBy w' Q.ownBlock) (hR : Kd.R (Kd.int .i64) 3 w' w.heap.size (fun k => k ≠ g) Q' (q'.map (spec_owFar.cd H))) (hB : Below w.heap.size w w') : spec_owFar.St w w' g W H q' d Q' :=
 ⟨h.1.move (hg.block g h.1.lt (fun e => h.2.1.1 g e.symm rfl)), hR, hB, h.2.2.2⟩
def spec_owFar.T17 : Bool × List (List Nat × List Nat) := (true, [([], []), ([], []), ([], []), ([1, 2], [1, 2]), ([], []), ([], []), ([4, 5], [4, 5]), ([], []), ([0, 3, 6, 7], [0, 3, 6, 7]), ([8], [8]), ([9], [9]), ([9], [9]), ([9], [9]), ([10, 8, 0, 1, 2, 3, 4, 5, 6, 7, 8, 9, 10], [10]), ([11, 13, 0, 1, 2, 3, 4, 5, 6, 7, 8, 9, 10, 11, 13], [11]), ([12, 14, 0, 1, 2, 3, 4, 5, 6, 7, 8, 9, 10, 11, 12, 13, 14], [12])])
def spec_owFar.B17 : List Nat := [0, 0, 0, 6, 0, 0, 48, 0, 255, 511, 1023, 1023, 1023, 2047, 12287, 32767]
theorem spec_owFar.tab17 : rtab .any (opsOf Try.f35 17) = spec_owFar.T17 := by kernel_rfl
theorem spec_owFar.bits17 : waitsOk spec_owFar.T17.2 spec_owFar.B17 = true := by kernel_rfl
theorem spec_owFar.walk (s t : ByteArray) (hG : spec_owFar.Signs s t) (A : Option Addr) (c : Nat) (a : Nat × Nat) (ha : a.1 < t.size ∧ a.2 < s.size) (hc : 2 ≤ c) (w : World) (hr : Kd.C (Kd.int .i64) w A 2 (impl_distancesBy.pt a)) :
  Calls Try.prog 35 #[.agg #[.string s, .string t], .slice A 2 c] w fun e w' => ∃ g d, e = .returned (.slice (some ⟨g, 0, none⟩) (t.size * s.size) (t.size * s.size)) ∧ spec_owFar.Fa w' g (t.size * s.size) (t.size * s.size) (fun j => d (j / s.size, j % s.size)) ∧ (Far (Leads (impl_distancesBy.stp false s t)) a d ∧ (∀ c, 0 ≤ d c → c.1 < t.size ∧ c.2 < s.size) ∧ ∀ c, d c ≤ 64) ∧ w.heap.size ≤ g ∧ Below w.heap.size w w' := by
 obtain ⟨ax, ay⟩ := a
 obtain ⟨hax, hay⟩ := ha
 obtain ⟨t1, t8, s1, s8⟩ : 1 ≤ t.size ∧ t.size ≤ 8 ∧ 1 ≤ s.size ∧ s.size ≤ 8 := ⟨hG.1.1.1, hG.1.1.2, hG.1.2.1, hG.1.2.2⟩
 have HGd := am hG
 have HAX := am (And.intro hax hay)
 obtain ⟨n, hn⟩ : ∃ n, n = t.size * s.size := ⟨_, rfl⟩
 have hn64 : n ≤ 64 := by rw [hn]; exact Nat.le_trans (Nat.mul_le_mul t8 s8) (by decide)
 have HN := am hn
 have emul : IntKind.i64.wrap ((s.size : Int) * (t.size : Int)) = (n : Int) := by
  rw [i64_w, w64, hn, Int.natCast_mul, Int.mul_comm] <;> rw [← Int.natCast_mul, Nat.mul_comm, ← hn] <;> omega
 rw [← hn]
 obtain ⟨ad, hA, hx0⟩ := Kd.at_int hr 0 (by omega) (by omega)
 obtain ⟨ad1, hA1, hx1⟩ := Kd.at_int hr 1 (by omega) (by omega)
 subst hA
 obtain rfl : ad = ad1 := by injection hA1
 rw [show (0 : Int).toNat = 0 from rfl, Addr.add_zero', show rd (impl_distancesBy.pt (ax, ay)) 0 = (ax : Int) from rfl] at hx0
 rw [show rd (impl_distancesBy.pt (ax, ay)) 1 = (ay : Int) from rfl] at hx1
 simp only [show (1 : Int).toNat = 1 from rfl, Nat.reduceMul, Nat.reduceEqDiff, Go.Addr.add, ↓reduceIte] at hx1
 have X0 := am hx0
 have X1 := am hx1
 clear hr hx0 hx1 hA1 hG hn
 obtain ⟨wb, hwb⟩ : ∃ wb : World, w.alloc (.cells #[.string s, .string t] 25) = wb := ⟨_, rfl⟩
 have hsz : wb.heap.size = w.heap.size + 1 := by rw [← hwb]; simp
 have HBX0 := am (show wb.heap[w.heap.size]? = some (.cells #[.string s, .string t] 25 (0, 0)) by rw [← hwb]; exact heap_alloc_new _ _)
 have HB0 := am (show Below w.heap.size w wb by rw [← hwb]; exact below_alloc (Below.refl _ _) _)
 have hp0 : wb.cell? ⟨w.heap.size, 0, none⟩ = some (.string s) := (blk_cell HBX0.out 0).trans rfl
 have hp1 : wb.cell? ⟨w.heap.size, 1, none⟩ = some (.string t) := (blk_cell HBX0.out 1).trans rfl
 obtain ⟨i0, hi, hz0, hz1, hz2⟩ := info_parts info3
 have hmk := run_makeSlice (P := Try.prog) (w := wb) 26 3 i0 (.int .i64 0) Try.underlying26 hi hz0 .i64 .i64 (n : Int) (n : Int) (by omega) (Int.le_refl _) (by rw [hz1]; omega) (by rw [hz2]; omega) (by omega)
 rw [Int.toNat_natCast, hz1, Nat.mul_one] at hmk
 obtain ⟨w1, hw1⟩ : ∃ w1 : World, w1 = wb.alloc (.cells (madeCells (Value.int .i64 0).cells n) 3) := ⟨_, rfl⟩
 rw [← hw1] at hmk
 obtain ⟨g, hg⟩ : ∃ g, g = wb.heap.size := ⟨_, rfl⟩
 rw [← hg] at hmk
 have HF := am (show spec_owFar.Fa w1 g n 0 (fun _ => -1) by
  rw [hw1, hg]
  exact ⟨_, heap_alloc_new _ _, by rw [size_madeCells], fun j hj => by omega⟩)
 have HB := am (show Below w.heap.size w w1 by rw [hw1]; exact below_then HB0.out HB0.out.size (below_alloc (Below.refl _ _) _))
 have HBX := am (show w1.heap[w.heap.size]? = some (.cells #[.string s, .string t] 25 (0, 0)) by rw [hw1]; exact ((below_alloc (Below.refl wb.heap.size wb) _).block _ (by omega)).trans HBX0.out)
 have HGB := am (show w.heap.size < g by omega)
 clear hw1 hi hz0 hz1 hz2 HBX0 HB0 hsz hg
 go_enter Try.func35, Try.ntmps35
 go_wp2
 clear hmk hwb hp0 hp1 emul
 go_loopw [28] (fun i wr => ∃ k : Nat, k ≤ n ∧ i = .int .i64 k ∧ Aside0 (spec_owFar.Fa wr g n k (fun _ => -1)) ∧ Aside0 (Below w.heap.size w wr) ∧ Aside0 (wr.heap[w.heap.size]? = some (.cells #[.string s, .string t] 25 (0, 0)))) (fun i _ => n - (intOf i).toNat)
 case atStart => exact ⟨0, Nat.zero_le _, rfl, HF, HB, HBX⟩
 case round =>
  clear HF HB HBX
  obtain ⟨k, hk, rfl, HF, HB, HBX⟩ := hrel
  by_cases hlt : k < n
  ·obtain ⟨ov, hcell⟩ := HF.out.any k hlt
   have hfree := HF.out.free k
   have HF2 := am (show spec_owFar.Fa (wr.setCell ⟨g, k, none⟩ (.int .i64 (-1))) g n (k + 1) (fun _ => -1) by
    have z := HF.out.set k hlt (-1)
    rw [if_pos rfl] at z
    exact z.ext (fun j _ => by simp))
   have HB2 := am (HB.out.setCell (p := ⟨g, k, none⟩) (by have := HGB.out; simp; omega) (.int .i64 (-1)))
   have HBX2 := am ((Below.heap_setCell wr ⟨g, k, none⟩ (.int .i64 (-1)) w.heap.size (by have := HGB.out; simp; omega)).trans HBX.out)
   go_wp2
   go_roundw
   case rel => exact ⟨k + 1, by omega, by go_num, HF2, HB2, HBX2⟩
   case measure => simp [intOf]; omega
  ·obtain rfl : n = k := by omega
   clear hlt
   go_wp2
   obtain ⟨c0, hc0⟩ : ∃ c0, c0 = ax * s.size + ay := ⟨_, rfl⟩
   have hc0n : c0 < n := by rw [hc0, HN.out]; exact spec_owFar.cd_lt _ _ _ _ hax hay
   obtain ⟨m1, hm1⟩ : ∃ m1, m1 = ax * s.size := ⟨_, rfl⟩
   have hm1n : m1 ≤ c0 := by omega
   have e1 : IntKind.i64.wrap ((ax : Int) * (s.size : Int)) = (m1 : Int) := by rw [i64_w, ← Int.natCast_mul, ← hm1, w64] <;> omega
   have e2 : IntKind.i64.wrap ((m1 : Int) + (ay : Int)) = (c0 : Int) := by rw [i64_w, w64] <;> omega
   have HC0 := am hc0
   refine wp_region_still_tail 11 (by kernel_rfl) (by kernel_rfl) ?_
   simp only [List.take_succ_cons, List.take_zero, List.drop_succ_cons, List.drop_zero]
   obtain ⟨w2, hw2⟩ : ∃ w2 : World, wr.drew = w2 := ⟨_, rfl⟩
   have HB2 := am (show Below w.heap.size w w2 by rw [← hw2]; exact below_drew1 HB.out)
   have HF2 := am (show spec_owFar.Fa w2 g n n (fun _ => -1) by rw [← hw2]; exact HF.out.below (below_drew1 (Below.refl _ _)))
   have HBX2 := am (show w2.heap[w.heap.size]? = some (.cells #[.string s, .string t] 25 (0, 0)) by rw [← hw2]; exact HBX.out)
   have hx0 := (HB2.out.cell (World.block_lt_of_cell? _ _ X0.out)).trans X0.out
   have hx1 := (HB2.out.cell (World.block_lt_of_cell? _ _ X1.out)).trans X1.out
   have hcel := HF2.out.cell c0 hc0n
   have hfre := HF2.out.free c0
   change wpStill _ _ wr.drew _ _ _
   rw [hw2]
   have HW2 := am hw2
   clear hw2 hm1 hc0
   repeat still_step
   refine wpStill_nil ?_
   change wpList _ _ _ _ _ wr.drew
   rw [HW2.out]
   have HF3 := am (show spec_owFar.Fa (w2.setCell ⟨g, c0, none⟩ (.int .i64 0)) g n n (fun i => if i = c0 then 0 else -1) by
    have z := HF2.out.set c0 hc0n 0
    rw [if_neg (by omega)] at z
    exact z)
   have HB3 := am (HB2.out.setCell (p := ⟨g, c0, none⟩) (by have := HGB.out; simp; omega) (.int .i64 0))
   have HBX3 := am ((Below.heap_setCell w2 ⟨g, c0, none⟩ (.int .i64 0) w.heap.size (by have := HGB.out; simp; omega)).trans HBX2.out)
   go_wp2
   clear hx0 hx1 hcel hfre HB2 HF2 HBX2 HW2
   refine wp_region_still_tail 9 (by kernel_rfl) (by kernel_rfl) ?_
   simp only [List.take_succ_cons, List.take_zero, List.drop_succ_cons, List.drop_zero]
   obtain ⟨w4, hw4⟩ : ∃ w4 : World, (w2.setCell ⟨g, c0, none⟩ (.int .i64 0)).drew = w4 := ⟨_, rfl⟩
   have HB4 := am (show Below w.heap.size w w4 by rw [← hw4]; exact below_drew1 HB3.out)
   have HF4 := am (show spec_owFar.Fa w4 g n n (fun i => if i = c0 then 0 else -1) by rw [← hw4]; exact HF3.out.below (below_drew1 (Below.refl _ _)))
   have HBX4 := am (show w4.heap[w.heap.size]? = some (.cells #[.string s, .string t] 25 (0, 0)) by rw [← hw4]; exact HBX3.out)
   have hx0 := (HB4.out.cell (World.block_lt_of_cell? _ _ X0.out)).trans X0.out
   have hx1 := (HB4.out.cell (World.block_lt_of_cell? _ _ X1.out)).trans X1.out
   change wpStill _ _ (w2.setCell ⟨g, c0, none⟩ (.int .i64 0)).drew _ _ _
   rw [hw4]
   have HW4 := am hw4
   clear hw4
   repeat still_step
   refine wpStill_nil ?_
   change wpList _ _ _ _ _ (w2.setCell ⟨g, c0, none⟩ (.int .i64 0)).drew
   rw [HW4.out]
   go_wp2
   have HQ := am (show spec_owFar.St w (w4.alloc (.cells #[.int .i64 c0] 3)) g t.size s.size [(ax, ay)] (fun q => if q = (ax, ay) then 0 else -1) (.slice (some ⟨w4.heap.size, 0, none⟩) 1 1) by
    have hlt := HF4.out.lt
    have hsz := HB4.out.size
    refine ⟨?_, ?_, below_then HB4.out HB4.out.size (below_alloc (Below.refl _ _) _), by have := HGB.out; omega⟩
    ·rw [← HN.out]
     refine (HF4.out.below (below_alloc (Below.refl _ _) _)).ext (fun j hj => ?_)
     by_cases e : j = c0
     ·subst e
      rw [HC0.out, (spec_owFar.cd_div s.size ax ay HAX.out.2).1, (spec_owFar.cd_div s.size ax ay HAX.out.2).2, if_pos rfl]
      simp
     ·rw [if_neg e]
      have hne : ¬ ((j / s.size, j % s.size) = (ax, ay)) := fun z => e (by
       injection z with z1 z2
       have := Nat.div_add_mod j s.size
       rw [z1, z2, Nat.mul_comm] at this
       rw [HC0.out]
       exact this.symm)
      show -1 = if (j / s.size, j % s.size) = (ax, ay) then (0 : Int) else -1
      rw [if_neg hne]
    ·refine Kd.R_of_own (enc := Value.int .i64) ⟨by simp [encs], .inr ⟨w4.heap.size, 1, _, rfl, hsz, heap_alloc_new _ _, Nat.le_refl _, by decide, rfl, ?_⟩⟩ (fun k hk => ?_)
     ·simp [encs, spec_owFar.cd, HC0.out]
     ·have e : w4.heap.size = k := by simpa [Value.ownBlock] using hk
      subst e
      show w4.heap.size ≠ g
      omega)
   have HBX := am (show (w4.alloc (.cells #[.int .i64 c0] 3)).heap[w.heap.size]? = some (.cells #[.string s, .string t] 25 (0, 0)) from (blk_alloc HBX4.out _))
   have HBf := am (Bfs.start (st := impl_distancesBy.stp false s t) (a := (ax, ay)))
   clear HB3 HF3 HBX3 hx0 hx1 HB4 HF4 HBX4 HW4 e1 e2 X0 X1 hc0n hm1n HC0 HF HB
   go_loopw [8, 9] (fun Q i wr => ∃ (k : Nat) (q : List (Nat × Nat)) (d : Nat × Nat → Int), i = .int .i64 k ∧ k ≤ q.length ∧ Aside0 (spec_owFar.St w wr g t.size s.size q d Q) ∧ Aside0 (Bfs (impl_distancesBy.stp false s t) (ax, ay) q k 0 d) ∧ Aside0 (∀ p ∈ q, p.1 < t.size ∧ p.2 < s.size) ∧ Aside0 (wr.heap[w.heap.size]? = some (.cells #[.string s, .string t] 25 (0, 0)))) (fun _ i _ => 65 - (intOf i).toNat)
   case atStart => exact ⟨0, [(ax, ay)], fun q => if q = (ax, ay) then 0 else -1, rfl, by simp, HQ, HBf, ⟨fun p hp => by simp at hp; subst hp; exact HAX.out⟩, HBX⟩
   case round =>
    clear HQ HBf HBX
    obtain ⟨k, q, d, rfl, hk, HQ, HBf, HV, HBX⟩ := hrel
    have hk64 : k ≤ 64 := Nat.le_trans hk (impl_distancesBy.len HBf.out HV.out t8 s8)
    obtain ⟨A0, C0, e0⟩ := Kd.R_slice HQ.out.2.1
    rw [List.length_map] at e0
    subst e0
    by_cases hlt : k < q.length
    ·obtain ⟨⟨x, y⟩, hxy⟩ : ∃ p, q[k]? = some p := ⟨q[k], by simp [hlt]⟩
     obtain ⟨G0, hG0, hcell⟩ := Kd.at_int (Kd.R_reads' HQ.out.2.1).2.2 (k : Int) (by omega) (by simp; omega)
     subst hG0
     obtain ⟨G, rfl⟩ := Kd.R_head HQ.out.2.1
     obtain ⟨cn, hcn⟩ : ∃ cn, cn = x * s.size + y := ⟨_, rfl⟩
     rw [Int.toNat_natCast, Addr.add_lit, Nat.zero_add, show rd (q.map (spec_owFar.cd s.size)) (k : Int) = (cn : Int) by simp [rd, hxy, spec_owFar.cd, hcn]] at hcell
     have hxyV := HV.out _ (List.mem_of_getElem? hxy)
     have HXY := am hxyV
     have HX := am hxy
     have HCN := am hcn
     have hcnn : cn < n := by rw [hcn, HN.out]; exact spec_owFar.cd_lt _ _ _ _ hxyV.1 hxyV.2
     have ED := am (show wrap64 ((cn : Int) / (s.size : Int)) = (x : Int) by
      rw [← Int.natCast_ediv, hcn, (spec_owFar.cd_div s.size x y hxyV.2).1, w64] <;> (have := hxyV.1; simp only at this; omega))
     have EM := am (show Int.tmod (cn : Int) (s.size : Int) = (y : Int) by
      rw [← Int.ofNat_tmod, hcn, (spec_owFar.cd_div s.size x y hxyV.2).2])
     have kc := fun (w : World) (C : Array Value) (n c : Nat) => Go.Lib.run_convert_bytes_const (P := Try.prog) w 22 5 C n c Try.underlying22 Try.underlying5
     clear hxy hcn hxyV
     go_wp2
     clear kc hcell
     obtain ⟨wo, rfl⟩ : ∃ wo, wo = wr := ⟨wr, rfl⟩
     have HBa := am (below_alloc (Below.refl wo.heap.size wo) (Obj.cells #[.int .u8 101, .int .u8 110, .int .u8 115, .int .u8 119] 5 (4, 5)))
     have HQ1 := am (HQ.out.below HBa.out)
     have HY := am (show (wo.alloc (Obj.cells #[.int .u8 101, .int .u8 110, .int .u8 115, .int .u8 119] 5 (4, 5))).heap[wo.heap.size]? = some (.cells #[.int .u8 101, .int .u8 110, .int .u8 115, .int .u8 119] 5 (4, 5)) from heap_alloc_new _ _)
     have HBX1 := am ((HBa.out.block _ (Array.getElem?_eq_some_iff.1 HBX.out).1).trans HBX.out)
     have HLE := am (show w.heap.size < wo.heap.size ∧ g < wo.heap.size from ⟨(Array.getElem?_eq_some_iff.1 HBX.out).1, HQ.out.1.lt⟩)
     have HNY := am (show (Value.slice (some ⟨G, 0, none⟩) q.length C0).ownBlock ≠ some wo.heap.size from fun e => by have := Kd.R_lt HQ.out.2.1 _ e; omega)
     clear HBa HBX
     go_loopw [8, 69] (fun Q i wr => ∃ (m : Nat) (q' : List (Nat × Nat)) (d' : Nat × Nat → Int), i = .int .i64 m ∧ m ≤ 4 ∧ Aside0 (spec_owFar.St w wr g t.size s.size q' d' Q) ∧ Aside0 (Bfs (impl_distancesBy.stp false s t) (ax, ay) q' k m d') ∧ Aside0 (∀ p ∈ q', p.1 < t.size ∧ p.2 < s.size) ∧ Aside0 (q'[k]? = some (x, y)) ∧ Aside0 (wr.heap[w.heap.size]? = some (.cells #[.string s, .string t] 25 (0, 0))) ∧ Aside0 (wr.heap[wo.heap.size]? = some (.cells #[.int .u8 101, .int .u8 110, .int .u8 115, .int .u8 119] 5 (4, 5))) ∧ Aside0 (Q.ownBlock ≠ some wo.heap.size)) (fun _ i _ => 4 - (intOf i).toNat)
     case atStart => exact ⟨0, q, d, rfl, by omega, HQ1, HBf, HV, HX, HBX1, HY, HNY⟩
     case round =>
      clear HQ HQ1 HBf HV HX HBX1 HY HNY
      obtain ⟨m, q', d', rfl, hm, HQ, HBf, HV, HX, HBX, HY, HNY⟩ := hrel
      by_cases hm4 : m < 4
      ·have hsg : wr.cell? ⟨wo.heap.size, m, none⟩ = some (.int .u8 (impl_driveIn.sg m)) := by
        have cm : m = 0 ∨ m = 1 ∨ m = 2 ∨ m = 3 := by omega
        simp only [World.cell?, HY.out]
        rcases cm with rfl | rfl | rfl | rfl <;> rfl
       have HM4 := am hm4
       obtain ⟨ko, u, v, HO, hmv⟩ := spec_owFar.one s t HGd.out x y m (by omega) HXY.out.1 HXY.out.2
       replace HO := am HO
       have hz : ((s.size : Int) == 0) = false := beq_eq_false_iff_ne.2 (by omega)
       have hz2 : ¬ s = ByteArray.empty := fun e => by rw [e] at s1; simp at s1
       obtain ⟨Aq, Cq, eq⟩ := Kd.R_slice HQ.out.2.1
       rw [List.length_map] at eq
       subst eq
       cases hcan : impl_driveIn.can s t x y m with
       | false =>
        have HST := am (show impl_distancesBy.stp false s t (x, y) m = none by
         rw [impl_distancesBy.stp_uv false s t x y m _ _ rfl rfl, if_neg (fun z => by have := z.2; rw [if_neg (show ¬ (false = true) by simp), hcan] at this; cases this)])
        rw [hcan] at HO
        clear hcan hmv
        go_wp2
        have HQn := am (show spec_owFar.St w wr.drew g t.size s.size q' d' (.slice Aq q'.length Cq) from HQ.out.below (below_drew1 (Below.refl _ _)))
        have HYn := am (show wr.drew.heap[wo.heap.size]? = some (.cells #[.int .u8 101, .int .u8 110, .int .u8 115, .int .u8 119] 5 (4, 5)) from HY.out)
        have HBXn := am (show wr.drew.heap[w.heap.size]? = some (.cells #[.string s, .string t] 25 (0, 0)) from HBX.out)
        have hq0 : wr.drew.cell? ⟨w.heap.size, 0, none⟩ = some (.string s) := (blk_cell HBXn.out 0).trans rfl
        have hq1 : wr.drew.cell? ⟨w.heap.size, 1, none⟩ = some (.string t) := (blk_cell HBXn.out 1).trans rfl
        clear hsg
        refine start_ (n := 16) (S := fun w' => w'.cell? ⟨w.heap.size, 0, none⟩ = some (.string s) ∧ w'.cell? ⟨w.heap.size, 1, none⟩ = some (.string t)) (ds := []) #[false, false, false, false, false, false, false, false, false, false, false, false, false, false, false, false] (by kernel_rfl) rfl rfl ⟨hq0, hq1⟩ (fun hHeld => ?_); refine with_tabW spec_owFar.tab17 spec_owFar.bits17 (fun HT_ HW_ => ?_)
        clear hq0 hq1
        generalize wr.drew = wn at HQn HYn HBXn hHeld ⊢
        refine pu_ 1 75 (fl_ 16 2) HT_ ?_
        refine pu_ 2 76 (fl_ 16 6) HT_ ?_
        refine pu_ 3 77 (fl_ 16 14) HT_ ?_
        refine pu_ 4 78 (fl_ 16 30) HT_ ?_
        refine pu_ 5 79 (fl_ 16 62) HT_ ?_
        refine pu_ 6 80 (fl_ 16 126) HT_ ?_
        refine pu_ 7 81 (fl_ 16 254) HT_ ?_
        refine tk_ 0 74 (fl_ 16 255) HT_ HW_ hHeld ?_ (hy := by rintro w' ⟨s0, s1⟩; go_simp; with_reducible rfl)
        refine on_ 8 82 (fl_ 16 511) HT_ fun K hK => ?_
        refine gs_ Try.func37 #[.agg #[.string s, .string t], .int .i64 (wrap64 ((cn : Int) / (s.size : Int))), .int .i64 (Int.tmod (cn : Int) (s.size : Int)), .int .u8 (impl_driveIn.sg m)] ?_
        rw [ED.out, EM.out]
        with_reducible refine (spec_owStep.calls ko s t (x : Int) (y : Int) (impl_driveIn.sg m) u v false _ HO.out).mono ?_
        rintro e w4 ⟨rfl, hb4⟩
        refine ⟨_, rfl, ?_⟩
        have HQ4 := am (HQn.out.below hb4)
        have HY4 := am ((hb4.block _ (Array.getElem?_eq_some_iff.1 HYn.out).1).trans HYn.out)
        have HBX4 := am ((hb4.block _ (Array.getElem?_eq_some_iff.1 HBXn.out).1).trans HBXn.out)
        have hq4 : w4.cell? ⟨w.heap.size, 0, none⟩ = some (.string s) ∧ w4.cell? ⟨w.heap.size, 1, none⟩ = some (.string t) := ⟨(blk_cell HBX4.out 0).trans rfl, (blk_cell HBX4.out 1).trans rfl⟩
        clear hb4
        refine hK.out _ _ ⟨hq4.1, hq4.2⟩ (fun hHeld => ?_)
        clear hK K
        refine nm_ 82 ?_
        refine pu_ 9 73 (fl_ 16 1023) HT_ ?_
        refine pu_ 10 83 (fl_ 16 2047) HT_ ?_
        refine pu_ 11 84 (fl_ 16 4095) HT_ ?_
        refine pu_ 12 85 (fl_ 16 8191) HT_ ?_
        refine pu_ 13 13 (fl_ 16 16383) HT_ ?_
        refine pu_ 14 14 (fl_ 16 32767) HT_ ?_
        refine pu_ 15 15 (fl_ 16 65535) HT_ ?_
        refine done_ (done_of HT_.out (by kernel_rfl)) ?_
        go_wp2
        go_roundw
        case rel => exact ⟨m + 1, q', d', by go_num, by omega, HQ4, ⟨HBf.out.skip (x, y) HX.out (fun c hc => by rw [HST.out] at hc; cases hc)⟩, HV, HX, HBX4, HY4, HNY⟩
        case measure => simp [intOf]; omega
       | true =>
        obtain ⟨hu, hv⟩ := hmv hcan
        have hat := hcan
        unfold impl_driveIn.can at hat
        rw [Bool.and_eq_true, decide_eq_true_eq, ← hu, ← hv] at hat
        obtain ⟨ux, rfl⟩ := Int.eq_ofNat_of_zero_le hat.1.1.1
        obtain ⟨vy, rfl⟩ := Int.eq_ofNat_of_zero_le hat.1.2.1
        have hux : ux < t.size := by have := hat.1.1.2; omega
        have hvy : vy < s.size := by have := hat.1.2.2; omega
        have HST := am (show impl_distancesBy.stp false s t (x, y) m = some (ux, vy) by
         rw [impl_distancesBy.stp_uv false s t x y m _ _ hu hv, if_pos ⟨hat.1, by rw [if_neg (show ¬ (false = true) by simp), hcan]⟩, Int.toNat_natCast, Int.toNat_natCast])
        rw [hcan] at HO
        obtain ⟨nx, hnx⟩ : ∃ nx, nx = ux * s.size + vy := ⟨_, rfl⟩
        have hnxn : nx < n := by rw [hnx, HN.out]; exact spec_owFar.cd_lt _ _ _ _ hux hvy
        obtain ⟨m2, hm2⟩ : ∃ m2, m2 = ux * s.size := ⟨_, rfl⟩
        have hm2n : m2 ≤ nx := by omega
        have e3 : IntKind.i64.wrap ((ux : Int) * (s.size : Int)) = (m2 : Int) := by rw [i64_w, ← Int.natCast_mul, ← hm2, w64] <;> omega
        have e4 : IntKind.i64.wrap ((m2 : Int) + (vy : Int)) = (nx : Int) := by rw [i64_w, w64] <;> omega
        have e5 : wrap64 ((ux : Int) * (s.size : Int)) = (m2 : Int) := (i64_w _).symm.trans e3
        have e6 : wrap64 ((m2 : Int) + (vy : Int)) = (nx : Int) := (i64_w _).symm.trans e4
        have HNX := am hnx
        have HUV := am (And.intro hux hvy)
        clear hcan hmv hat hu hv hux hvy hnx hm2
        obtain ⟨dv, hdv⟩ : ∃ dv, dv = d' (ux, vy) := ⟨_, rfl⟩
        have HDV := am hdv
        by_cases c2 : dv < 0
        ·have cb : decide (dv < 0) = true := decide_eq_true c2
         have HDN := am (show d' (ux, vy) < 0 by rw [← hdv]; exact c2)
         obtain ⟨da, hda⟩ : ∃ da, da = d' (x, y) := ⟨_, rfl⟩
         have HDA := am hda
         have HL64 := am (impl_distancesBy.len HBf.out HV.out t8 s8)
         have hda1 : 0 ≤ da ∧ da ≤ 64 := by
          have z1 := (HBf.out.mem (x, y)).2 (List.mem_of_getElem? HX.out)
          have z2 := HBf.out.deep k (x, y) HX.out
          have z3 := (List.getElem?_eq_some_iff.1 HX.out).1
          have z4 := HL64.out
          rw [hda]
          omega
         have ew : IntKind.i64.wrap (da + 1) = da + 1 := (i64_w _).trans (by unfold wrap64; omega)
         have ew2 : wrap64 (da + 1) = da + 1 := (by unfold wrap64; omega)
         clear c2 hdv hda hda1
         go_wp2
         have HQn := am (show spec_owFar.St w wr.drew g t.size s.size q' d' (.slice Aq q'.length Cq) from HQ.out.below (below_drew1 (Below.refl _ _)))
         have HYn := am (show wr.drew.heap[wo.heap.size]? = some (.cells #[.int .u8 101, .int .u8 110, .int .u8 115, .int .u8 119] 5 (4, 5)) from HY.out)
         have HBXn := am (show wr.drew.heap[w.heap.size]? = some (.cells #[.string s, .string t] 25 (0, 0)) from HBX.out)
         have hq0 : wr.drew.cell? ⟨w.heap.size, 0, none⟩ = some (.string s) := (blk_cell HBXn.out 0).trans rfl
         have hq1 : wr.drew.cell? ⟨w.heap.size, 1, none⟩ = some (.string t) := (blk_cell HBXn.out 1).trans rfl
         clear hsg
         refine start_ (n := 16) (S := fun w' => w'.cell? ⟨w.heap.size, 0, none⟩ = some (.string s) ∧ w'.cell? ⟨w.heap.size, 1, none⟩ = some (.string t)) (ds := []) #[false, false, false, false, false, false, false, false, false, false, false, false, false, false, false, false] (by kernel_rfl) rfl rfl ⟨hq0, hq1⟩ (fun hHeld => ?_); refine with_tabW spec_owFar.tab17 spec_owFar.bits17 (fun HT_ HW_ => ?_)
         clear hq0 hq1
         generalize wr.drew = wn at HQn HYn HBXn hHeld ⊢
         refine pu_ 1 75 (fl_ 16 2) HT_ ?_
         refine pu_ 2 76 (fl_ 16 6) HT_ ?_
         refine pu_ 3 77 (fl_ 16 14) HT_ ?_
         refine pu_ 4 78 (fl_ 16 30) HT_ ?_
         refine pu_ 5 79 (fl_ 16 62) HT_ ?_
         refine pu_ 6 80 (fl_ 16 126) HT_ ?_
         refine pu_ 7 81 (fl_ 16 254) HT_ ?_
         refine tk_ 0 74 (fl_ 16 255) HT_ HW_ hHeld ?_ (hy := by rintro w' ⟨s0, s1⟩; go_simp; with_reducible rfl)
         refine on_ 8 82 (fl_ 16 511) HT_ fun K hK => ?_
         refine gs_ Try.func37 #[.agg #[.string s, .string t], .int .i64 (wrap64 ((cn : Int) / (s.size : Int))), .int .i64 (Int.tmod (cn : Int) (s.size : Int)), .int .u8 (impl_driveIn.sg m)] ?_
         rw [ED.out, EM.out]
         with_reducible refine (spec_owStep.calls ko s t (x : Int) (y : Int) (impl_driveIn.sg m) (ux : Int) (vy : Int) true _ HO.out).mono ?_
         rintro e w4 ⟨rfl, hb4⟩
         refine ⟨_, rfl, ?_⟩
         have HQ4 := am (HQn.out.below hb4)
         have HY4 := am ((hb4.block _ (Array.getElem?_eq_some_iff.1 HYn.out).1).trans HYn.out)
         have HBX4 := am ((hb4.block _ (Array.getElem?_eq_some_iff.1 HBXn.out).1).trans HBXn.out)
         have hq4 : w4.cell? ⟨w.heap.size, 0, none⟩ = some (.string s) ∧ w4.cell? ⟨w.heap.size, 1, none⟩ = some (.string t) := ⟨(blk_cell HBX4.out 0).trans rfl, (blk_cell HBX4.out 1).trans rfl⟩
         clear hb4
         refine hK.out _ _ ⟨hq4.1, hq4.2⟩ (fun hHeld => ?_)
         clear hK K
         refine nm_ 82 ?_
         refine pu_ 9 73 (fl_ 16 1023) HT_ ?_
         refine pu_ 10 83 (fl_ 16 2047) HT_ ?_
         refine pu_ 11 84 (fl_ 16 4095) HT_ ?_
         refine pu_ 12 85 (fl_ 16 8191) HT_ ?_
         refine pu_ 13 13 (fl_ 16 16383) HT_ ?_
         refine pu_ 14 14 (fl_ 16 32767) HT_ ?_
         refine pu_ 15 15 (fl_ 16 65535) HT_ ?_
         refine done_ (done_of HT_.out (by kernel_rfl)) ?_
         have hcelb : w4.cell? ⟨g, nx, none⟩ = some (.int .i64 dv) := by
          rw [HDV.out]
          have z := HQ4.out.1.cell nx (by rw [← HN.out]; exact hnxn)
          rw [HNX.out, (spec_owFar.cd_div s.size ux vy HUV.out.2).1, (spec_owFar.cd_div s.size ux vy HUV.out.2).2, ← HNX.out] at z
          exact z
         have hcela : w4.cell? ⟨g, cn, none⟩ = some (.int .i64 da) := by
          rw [HDA.out]
          have z := HQ4.out.1.cell cn (by rw [← HN.out]; exact hcnn)
          rw [HCN.out, (spec_owFar.cd_div s.size x y HXY.out.2).1, (spec_owFar.cd_div s.size x y HXY.out.2).2, ← HCN.out] at z
          exact z
         have hfreb := HQ4.out.1.free nx
         have HQ6 := am (show spec_owFar.St w (w4.setCell ⟨g, nx, none⟩ (.int .i64 (da + 1))) g t.size s.size q' (fun c => if c = (ux, vy) then da + 1 else d' c) (.slice Aq q'.length Cq) by
          rw [HNX.out]
          exact HQ4.out.store ux vy HUV.out.1 HUV.out.2 (da + 1))
         have HY6 := am ((Below.heap_setCell w4 ⟨g, nx, none⟩ (.int .i64 (da + 1)) wo.heap.size (by have := HLE.out.2; simp; omega)).trans HY4.out)
         have HBX6 := am ((Below.heap_setCell w4 ⟨g, nx, none⟩ (.int .i64 (da + 1)) w.heap.size (by have := HGB.out; simp; omega)).trans HBX4.out)
         have HYL := am (show wo.heap.size < (w4.setCell ⟨g, nx, none⟩ (.int .i64 (da + 1))).heap.size from (Array.getElem?_eq_some_iff.1 HY6.out).1)
         have HGL := am HQ6.out.1.lt
         clear HY4 HBX4 HQ4
         go_wp2_with ((with_reducible refine gate_builtin (b := .append) (xs := #[.tmp 107, .tmp 109]) rfl ?_); at_builtin; refine Kd.R_append (Kd.int .i64) (w0 := w) w.heap.size rfl (.tmp 107) (.tmp 109) 26 3 (.int .i64 0) 8 rfl Try.underlying26 info3 rfl (by decide) (by omega) (.slice Aq q'.length Cq) (q'.map (spec_owFar.cd s.size)) (nx : Int) [.int .i64 (nx : Int)] (fun k => k ≠ g) (fun _ => False) rfl ?aX ?aP (fun _ hk => hk.elim) ?aF ?aO ?aB ?aS ?aL ?_; (case aX => simp; rfl); (case aP => exact rfl); (case aF => exact (fun k hk => by have := HGL.out; omega)); (case aO => exact HQ6.out.2.1); (case aB => exact HQ6.out.2.2.1); (case aS => exact HQ6.out.2.2.1.size); (case aL => (have := HL64.out; simp; omega)); intro v7 W7 hR7 hB7 hg7 hat7; have HQ7 := am (HQ6.out.grown (q' := q' ++ [(ux, vy)]) hg7 (by rw [List.map_append, show [(ux, vy)].map (spec_owFar.cd s.size) = [(nx : Int)] by simp [spec_owFar.cd, HNX.out]]; exact hR7) hB7); have HY7 := am ((hg7.block wo.heap.size HYL.out (fun e => HNY.out e.symm)).trans HY6.out); have HBX7 := am ((hg7.block w.heap.size (by have := HLE.out.1; have := HYL.out; omega) (fun e => by have z := HQ6.out.2.1; have := Kd.R_base z _ e.symm; exact absurd (Kd.R_typed z _ e.symm) (by rintro ⟨cells, hc⟩; rw [HBX6.out] at hc; simp at hc))).trans HBX6.out); have HNY7 := am (show v7.ownBlock ≠ some wo.heap.size from hat7.elim (fun e => by rw [e]; exact HNY.out) (fun ⟨b, e, hb⟩ => by rw [e]; intro z; injection z with z; have := HYL.out; omega)); clear HQ6 HY6 HBX6 hR7 hB7 hg7 hat7)
         go_roundw
         case rel => exact ⟨m + 1, q' ++ [(ux, vy)], fun c => if c = (ux, vy) then da + 1 else d' c, by go_num, by omega, HQ7, ⟨by have z := HBf.out.add HM4.out (x, y) HX.out (ux, vy) HST.out HDN.out; rw [← HDA.out] at z; exact z⟩, ⟨fun r hr => (List.mem_append.1 hr).elim (HV.out r) (fun h => by rw [List.mem_singleton.1 h]; exact HUV.out)⟩, ⟨by rw [List.getElem?_append_left (List.getElem?_eq_some_iff.1 HX.out).1]; exact HX.out⟩, HBX7, HY7, HNY7⟩
         case measure => simp [intOf]; omega
        ·have cb : decide (dv < 0) = false := decide_eq_false c2
         have HDN := am (show 0 ≤ d' (ux, vy) by rw [← hdv]; omega)
         clear c2 hdv
         go_wp2
         have HQn := am (show spec_owFar.St w wr.drew g t.size s.size q' d' (.slice Aq q'.length Cq) from HQ.out.below (below_drew1 (Below.refl _ _)))
         have HYn := am (show wr.drew.heap[wo.heap.size]? = some (.cells #[.int .u8 101, .int .u8 110, .int .u8 115, .int .u8 119] 5 (4, 5)) from HY.out)
         have HBXn := am (show wr.drew.heap[w.heap.size]? = some (.cells #[.string s, .string t] 25 (0, 0)) from HBX.out)
         have hq0 : wr.drew.cell? ⟨w.heap.size, 0, none⟩ = some (.string s) := (blk_cell HBXn.out 0).trans rfl
         have hq1 : wr.drew.cell? ⟨w.heap.size, 1, none⟩ = some (.string t) := (blk_cell HBXn.out 1).trans rfl
         clear hsg
         refine start_ (n := 16) (S := fun w' => w'.cell? ⟨w.heap.size, 0, none⟩ = some (.string s) ∧ w'.cell? ⟨w.heap.size, 1, none⟩ = some (.string t)) (ds := []) #[false, false, false, false, false, false, false, false, false, false, false, false, false, false, false, false] (by kernel_rfl) rfl rfl ⟨hq0, hq1⟩ (fun hHeld => ?_); refine with_tabW spec_owFar.tab17 spec_owFar.bits17 (fun HT_ HW_ => ?_)
         clear hq0 hq1
         generalize wr.drew = wn at HQn HYn HBXn hHeld ⊢
         refine pu_ 1 75 (fl_ 16 2) HT_ ?_
         refine pu_ 2 76 (fl_ 16 6) HT_ ?_
         refine pu_ 3 77 (fl_ 16 14) HT_ ?_
         refine pu_ 4 78 (fl_ 16 30) HT_ ?_
         refine pu_ 5 79 (fl_ 16 62) HT_ ?_
         refine pu_ 6 80 (fl_ 16 126) HT_ ?_
         refine pu_ 7 81 (fl_ 16 254) HT_ ?_
         refine tk_ 0 74 (fl_ 16 255) HT_ HW_ hHeld ?_ (hy := by rintro w' ⟨s0, s1⟩; go_simp; with_reducible rfl)
         refine on_ 8 82 (fl_ 16 511) HT_ fun K hK => ?_
         refine gs_ Try.func37 #[.agg #[.string s, .string t], .int .i64 (wrap64 ((cn : Int) / (s.size : Int))), .int .i64 (Int.tmod (cn : Int) (s.size : Int)), .int .u8 (impl_driveIn.sg m)] ?_
         rw [ED.out, EM.out]
         with_reducible refine (spec_owStep.calls ko s t (x : Int) (y : Int) (impl_driveIn.sg m) (ux : Int) (vy : Int) true _ HO.out).mono ?_
         rintro e w4 ⟨rfl, hb4⟩
         refine ⟨_, rfl, ?_⟩
         have HQ4 := am (HQn.out.below hb4)
         have HY4 := am ((hb4.block _ (Array.getElem?_eq_some_iff.1 HYn.out).1).trans HYn.out)
         have HBX4 := am ((hb4.block _ (Array.getElem?_eq_some_iff.1 HBXn.out).1).trans HBXn.out)
         have hq4 : w4.cell? ⟨w.heap.size, 0, none⟩ = some (.string s) ∧ w4.cell? ⟨w.heap.size, 1, none⟩ = some (.string t) := ⟨(blk_cell HBX4.out 0).trans rfl, (blk_cell HBX4.out 1).trans rfl⟩
         clear hb4
         refine hK.out _ _ ⟨hq4.1, hq4.2⟩ (fun hHeld => ?_)
         clear hK K
         refine nm_ 82 ?_
         refine pu_ 9 73 (fl_ 16 1023) HT_ ?_
         refine pu_ 10 83 (fl_ 16 2047) HT_ ?_
         refine pu_ 11 84 (fl_ 16 4095) HT_ ?_
         refine pu_ 12 85 (fl_ 16 8191) HT_ ?_
         refine pu_ 13 13 (fl_ 16 16383) HT_ ?_
         refine pu_ 14 14 (fl_ 16 32767) HT_ ?_
         refine pu_ 15 15 (fl_ 16 65535) HT_ ?_
         refine done_ (done_of HT_.out (by kernel_rfl)) ?_
         have hcelb : w4.cell? ⟨g, nx, none⟩ = some (.int .i64 dv) := by
          rw [HDV.out]
          have z := HQ4.out.1.cell nx (by rw [← HN.out]; exact hnxn)
          rw [HNX.out, (spec_owFar.cd_div s.size ux vy HUV.out.2).1, (spec_owFar.cd_div s.size ux vy HUV.out.2).2, ← HNX.out] at z
          exact z
         go_wp2
         go_roundw
         case rel => exact ⟨m + 1, q', d', by go_num, by omega, HQ4, ⟨HBf.out.skip (x, y) HX.out (fun c hc => by rw [HST.out] at hc; injection hc with hc; rw [← hc]; exact HDN.out)⟩, HV, HX, HBX4, HY4, HNY⟩
         case measure => simp [intOf]; omega
      ·obtain rfl : m = 4 := by omega
       have HNx := am (HBf.out.next (List.getElem?_eq_some_iff.1 HX.out).1)
       go_wp2
       go_roundw
       case rel => exact ⟨k + 1, q', d', by go_num, (List.getElem?_eq_some_iff.1 HX.out).1, HQ, HNx, HV, HBX⟩
       case measure =>
        have h64 := impl_distancesBy.len HBf.out HV.out t8 s8
        have hkl := (List.getElem?_eq_some_iff.1 HX.out).1
        simp [intOf]
        omega
    ·obtain rfl : k = q.length := by omega
     clear hlt
     go_wp2
     go_ret
     refine ⟨g, d, rfl, by rw [HN.out]; exact HQ.out.1, ⟨HBf.out.done rfl, fun c hc => HV.out c ((HBf.out.mem c).1 hc), fun c => ?_⟩, HQ.out.2.2.2, HQ.out.2.2.1⟩
     by_cases z : 0 ≤ d c
     ·obtain ⟨j, hj, e⟩ := List.getElem_of_mem ((HBf.out.mem c).1 z)
      have := HBf.out.deep j c (by rw [List.getElem?_eq_getElem hj, e])
      omega
     ·omega
theorem spec_owFar.calls (k : Nat) (a0_0 : ByteArray) (a0_1 : ByteArray) (A1 : Option Addr) (c1 : Nat) (l1 : List Int) (r : List Int) (w : World) (hr1 : Kd.C (Kd.int .i64) w A1 l1.length l1) (hc1 : l1.length ≤ c1) (h : spec_owFar.f k a0_0 a0_1 l1 = some r) :
  Calls Try.prog 35 #[.agg #[.string a0_0, .string a0_1], .slice A1 l1.length c1] w fun e w' => ∃ v0_ : Value, e = .returned (v0_) ∧ Kd.R (Kd.int .i64) 3 w' w.heap.size (fun _ => True) v0_ r ∧ Below w.heap.size w w' := by
 cases k with
 | zero => cases h
 | succ k =>
 simp only [spec_owFar.f] at h
 by_cases c : (spec_owFar.Signs a0_0 a0_1 ∧ l1.length = 2) ∧ impl_driveIn.At a0_0 a0_1 (rd l1 0) (rd l1 1)
 ·rw [if_pos c] at h
  obtain ⟨⟨hG, hl⟩, ⟨x0, x1⟩, y0, y1⟩ := c
  have e : l1 = impl_distancesBy.pt ((rd l1 0).toNat, (rd l1 1).toNat) := by
   match l1, hl with
   | [x, y], _ =>
    show [x, y] = [((x.toNat : Nat) : Int), ((y.toNat : Nat) : Int)]
    have x0' : 0 ≤ x := x0
    have y0' : 0 ≤ y := y0
    rw [Int.toNat_of_nonneg x0', Int.toNat_of_nonneg y0']
  rw [hl] at hr1 hc1 ⊢
  refine (spec_owFar.walk a0_0 a0_1 hG A1 c1 ((rd l1 0).toNat, (rd l1 1).toNat) ⟨by show (rd l1 0).toNat < _; omega, by show (rd l1 1).toNat < _; omega⟩ hc1 w (by rw [← e]; exact hr1)).mono ?_
  rintro e' w' ⟨g, d, rfl, hF, ⟨h1, h2, h3⟩, hb, hB⟩
  have hd : impl_distancesBy.dist false a0_0 a0_1 ((rd l1 0).toNat, (rd l1 1).toNat) = d := h1.the _ (fun p hp => impl_distancesBy.mem_nodes (h2 p hp)) 64 h3
  rw [← Option.some.inj h, hd]
  exact ⟨_, rfl, hF.own (Nat.le_trans (Nat.mul_le_mul hG.1.1.2 hG.1.2.2) (by decide)) _ hb, hB⟩
 ·rw [if_neg c] at h
  cases h
end Go.Proofs.Ytdhdkkhbgfcoiaa.MX
