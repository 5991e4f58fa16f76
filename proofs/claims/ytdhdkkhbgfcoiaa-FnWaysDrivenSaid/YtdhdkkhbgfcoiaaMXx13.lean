-- The machine side, written by this repo's program mp.py; contracts marked as of this repo are this session's own.
import Derived.Test.YtdhdkkhbgfcoiaaMXx0
import Derived.Test.YtdhdkkhbgfcoiaaMXx4
import Derived.Test.YtdhdkkhbgfcoiaaMXx5
namespace Go.Proofs.Ytdhdkkhbgfcoiaa.MX
open Go.RowKit Go.Proofs.YtdhdkkhbgfcoiaaW.PrintWords Go.Proofs.YtdhdkkhbgfcoiaaW.PrintLast Go.Proofs.YtdhdkkhbgfcoiaaW.PrintMore
attribute [local go_sem] max2_int min2_int max_two min_two max_three min_three max_four min_four   -- for this text's walks alone
set_option maxHeartbeats 8000000
set_option maxRecDepth 100000
set_option linter.unusedVariables false
set_option linter.unusedSimpArgs false
def impl_fewestTurns.T7 : Bool × List (List Nat × List Nat) := (true, [([], []), ([], []), ([1], [1]), ([2], [2]), ([], []), ([4], [4]), ([5], [5]), ([], []), ([3, 6, 7], [3, 6, 7]), ([8], [8]), ([0, 9], [0, 9]), ([10, 10, 0, 1, 2, 3, 4, 5, 6, 7, 8, 9, 10], [0, 10])])
def impl_fewestTurns.B7 : List Nat := [0, 0, 2, 6, 0, 16, 48, 0, 254, 510, 1023, 2047]
theorem impl_fewestTurns.tab7 : rtab .any (opsOf Try.f39 7) = impl_fewestTurns.T7 := by kernel_rfl
theorem impl_fewestTurns.bits7 : waitsOk impl_fewestTurns.T7.2 impl_fewestTurns.B7 = true := by kernel_rfl
def impl_fewestTurns.T23 : Bool × List (List Nat × List Nat) := (true, [([], []), ([], []), ([1], [1]), ([2], [2]), ([], []), ([4], [4]), ([5], [5]), ([], []), ([7], [7]), ([3, 6, 8], [3, 6, 8]), ([9], [9]), ([0, 10], [0, 10]), ([11, 11, 0, 1, 2, 3, 4, 5, 6, 7, 8, 9, 10, 11], [0, 11])])
def impl_fewestTurns.B23 : List Nat := [0, 0, 2, 6, 0, 16, 48, 0, 128, 510, 1022, 2047, 4095]
theorem impl_fewestTurns.tab23 : rtab .any (opsOf Try.f39 23) = impl_fewestTurns.T23 := by kernel_rfl
theorem impl_fewestTurns.bits23 : waitsOk impl_fewestTurns.T23.2 impl_fewestTurns.B23 = true := by kernel_rfl
theorem impl_fewestTurns.tsize : Try.prog.types.size = (Try.prog.types.size - 1) + 1 := by
 have : decide (0 < Try.prog.types.size) = true := by kernel_rfl
 have := of_decide_eq_true this
 omega
theorem impl_fewestTurns.ints3 (m : Nat) (a : Int) (ha : (Lit.int .i64 a).wf = true) : Try.prog.keyLits (m + 1) 3 [.int .i64 a] = some [.int .i64 a] := by
 have h : Try.prog.underlying 3 = some (.int .i64) := by kernel_rfl
 simp [Program.keyLits, h, ha]
theorem impl_fewestTurns.laidOut : laidOutB Try.prog = true := by kernel_rfl
theorem impl_fewestTurns.keyed : Go.Maps.Keyed Try.prog 92 := Go.Maps.Keyed.of_law (deep_law_laid impl_fewestTurns.laidOut (m := 3) (by omega) (of_decide_eq_true (by kernel_rfl)) (by kernel_rfl) (by kernel_rfl))
theorem impl_fewestTurns.key3 (a b c : Int) (ha : (Lit.int .i64 a).wf = true) (hb : (Lit.int .i64 b).wf = true) (hc : (Lit.int .i64 c).wf = true) : ∃ l, keyOf Try.prog 92 (.agg #[.int .i64 a, .int .i64 b, .int .i64 c]) = some l := by
 have hk : Try.prog.keyType 92 = true := by kernel_rfl
 have hcells : Try.prog.cellsOf 92 = 3 := by kernel_rfl
 have hc3 : Try.prog.cellsOf 3 = 1 := by kernel_rfl
 have hf : (Value.agg #[.int .i64 a, .int .i64 b, .int .i64 c]).formed Try.prog 92 = true := by
  simp [Value.formed, Try.underlying92, hcells]
 have h1 := impl_fewestTurns.ints3 (Try.prog.types.size - 1) a ha
 have h2 := impl_fewestTurns.ints3 (Try.prog.types.size - 1) b hb
 have h3 := impl_fewestTurns.ints3 (Try.prog.types.size - 1) c hc
 have hl : Try.prog.keyLits (Try.prog.types.size + 1) 92 (Value.agg #[.int .i64 a, .int .i64 b, .int .i64 c]).cells.toList = some [.int .i64 a, .int .i64 b, .int .i64 c] := by
  have h3u : Try.prog.underlying 3 = some (.int .i64) := by kernel_rfl
  rw [impl_fewestTurns.tsize]
  generalize Try.prog.types.size - 1 = m
  show Try.prog.keyLits (m + 1 + 1) 92 [.int .i64 a, .int .i64 b, .int .i64 c] = _
  simp [Program.keyLits, Try.underlying92, h3u, hcells, hc3, ha, hb, hc]
 refine ⟨.string (keyBytes [.int .i64 a, .int .i64 b, .int .i64 c]), ?_⟩
 unfold keyOf
 rw [Try.underlying92]
 simp only [hk, hf, hl, Bool.and_self, if_true, Option.map_some]
def impl_fewestTurns.MapS (w : World) (g : Nat) (S : List (Nat × Nat × Nat)) : Prop :=
 ∃ D : DataW Unit, w.ownsMap Try.prog 92 (plainElem Try.prog 4) g S.length D ∧ ∀ p : Nat × Nat × Nat, (p.1 < 8 ∧ p.2.1 < 8 ∧ p.2.2 < 4) → ∀ l, keyOf Try.prog 92 (.agg #[.int .i64 p.1, .int .i64 p.2.1, .int .i64 p.2.2]) = some l → D.atKey l (.lit (.bool false)) = .lit (.bool (decide (p ∈ S)))
theorem impl_fewestTurns.wf8 (n : Nat) (h : n < 8) : (Lit.int .i64 (n : Int)).wf = true := by
 have e1 : IntKind.i64.min = -9223372036854775808 := rfl
 have e2 : IntKind.i64.max = 9223372036854775807 := rfl
 simp [Lit.wf, e1, e2]
 omega
theorem impl_fewestTurns.keyp (p : Nat × Nat × Nat) (h : p.1 < 8 ∧ p.2.1 < 8 ∧ p.2.2 < 4) : ∃ l, keyOf Try.prog 92 (.agg #[.int .i64 p.1, .int .i64 p.2.1, .int .i64 p.2.2]) = some l := impl_fewestTurns.key3 _ _ _ (impl_fewestTurns.wf8 _ h.1) (impl_fewestTurns.wf8 _ h.2.1) (impl_fewestTurns.wf8 _ (by omega))
theorem impl_fewestTurns.MapS.look {w : World} {g : Nat} {S : List (Nat × Nat × Nat)} (h : impl_fewestTurns.MapS w g S) (p : Nat × Nat × Nat) (hp : p.1 < 8 ∧ p.2.1 < 8 ∧ p.2.2 < 4) :
  (Instr.lookup 89 (.map (some g)) (.agg #[.int .i64 p.1, .int .i64 p.2.1, .int .i64 p.2.2]) false).run Try.prog w = .ok (.bool (decide (p ∈ S))) w := by
 obtain ⟨D, ho, hD⟩ := h
 obtain ⟨l, hl⟩ := impl_fewestTurns.keyp p hp
 have hz : (zeroValue 4).run Try.prog w = .ok (.bool false) w := by kernel_rfl
 obtain ⟨v, ps, hrun, hv⟩ := ho.lookup impl_fewestTurns.keyed Try.underlying89 hz (plainElem_bool (by kernel_rfl) false) hl
 rw [hD p hp l hl] at hv
 rw [hrun]
 have e : v = .bool (decide (p ∈ S)) := by
  have h4 : Try.prog.underlying 4 = some .bool := by kernel_rfl
  unfold plainElem at hv
  rw [h4] at hv
  cases v <;> simp at hv
  rw [hv.1]
 rw [e]
theorem impl_fewestTurns.MapS.put {w : World} {g : Nat} {S : List (Nat × Nat × Nat)} (h : impl_fewestTurns.MapS w g S) (p : Nat × Nat × Nat) (hp : p.1 < 8 ∧ p.2.1 < 8 ∧ p.2.2 < 4) (hS : S.length ≤ 1000) :
  ∃ w', (Instr.mapUpdate 89 (.map (some g)) (.agg #[.int .i64 p.1, .int .i64 p.2.1, .int .i64 p.2.2]) (.bool true)).run Try.prog w = .ok () w' ∧ impl_fewestTurns.MapS w' g (p :: S) ∧ w.grownBy w' (some g) := by
 obtain ⟨D, ho, hD⟩ := h
 obtain ⟨l, hl⟩ := impl_fewestTurns.keyp p hp
 obtain ⟨w', hrun, ho', hg⟩ := ho.update impl_fewestTurns.keyed Try.underlying89 (by simp [maxLen]; omega) hl (plainElem_bool (by kernel_rfl) true)
 refine ⟨w', hrun, ⟨_, ho', fun q hq l' hl' => ?_⟩, hg⟩
 by_cases e : q = p
 ·subst e
  obtain rfl : l = l' := Option.some.inj (hl.symm.trans hl')
  rw [Go.Maps.atKey_put_same ho.isMap (impl_fewestTurns.keyed.key hl)]
  simp
 ·have hne : l' ≠ l := fun e2 => e (by
   subst e2
   have z := impl_fewestTurns.keyed.inj hl' hl
   simp at z
   exact Prod.ext (by omega) (Prod.ext (by omega) (by omega)))
  rw [Go.Maps.atKey_put_other hne, hD q hq l' hl']
  simp [e]
theorem impl_fewestTurns.MapS.start (w : World) : impl_fewestTurns.MapS (w.alloc (.map #[] 0)) w.heap.size [] := by
 refine ⟨_, World.ownsMap_made w _ _ _, fun p hp l hl => ?_⟩
 rfl
theorem impl_fewestTurns.MapS.grown {w w' : World} {g : Nat} {S : List (Nat × Nat × Nat)} (h : impl_fewestTurns.MapS w g S) {row : Option Nat} (hg : w.grownBy w' row) (hne : some g ≠ row) : impl_fewestTurns.MapS w' g S := by
 obtain ⟨D, ho, hD⟩ := h
 exact ⟨D, ho.kept hg hne, hD⟩
theorem impl_fewestTurns.MapS.lt {w : World} {g : Nat} {S : List (Nat × Nat × Nat)} (h : impl_fewestTurns.MapS w g S) : g < w.heap.size := by
 obtain ⟨D, ho, -⟩ := h
 exact ho.lt
def impl_fewestTurns.cells (p : Nat × Nat × Nat) : List Value := [.int .i64 p.1, .int .i64 p.2.1, .int .i64 p.2.2]
def impl_fewestTurns.K : Kd (Nat × Nat × Nat) where
 sz := 3
 E := []
 K := fun _ p cs => cs = impl_fewestTurns.cells p
 M := fun _ _ _ p cs => cs = impl_fewestTurns.cells p
 K_len := fun h => by rw [h]; rfl
 K_one := fun h => by
  intro u hu
  rw [h] at hu
  simp [impl_fewestTurns.cells] at hu
  rcases hu with rfl | rfl | rfl <;> rfl
 K_below := fun _ h => h
 K_of_M := fun h => h
 M_mono := fun _ h => h
 M_bound := fun h => h
 M_move := fun _ h => h
 M_lower := fun _ h => h
def impl_fewestTurns.mv (p : Nat × Nat × Nat) : Nat × Nat × Nat := (((p.1 : Int) + impl_driveIn.dx p.2.2).toNat, ((p.2.1 : Int) + impl_driveIn.dy p.2.2).toNat, p.2.2)
def impl_fewestTurns.tk (p : Nat × Nat × Nat) (m : Nat) : List (Nat × Nat × Nat) := ((List.range m).filter fun n => decide (n ≠ p.2.2 ∧ n ≠ 3 - p.2.2)).map fun n => (p.1, p.2.1, n)
def impl_fewestTurns.lvl (s a : ByteArray) (b : Nat × Nat) : Nat → List (Nat × Nat × Nat) → Nat → List (Nat × Nat × Nat) → List (Nat × Nat × Nat) → Option (Bool × List (Nat × Nat × Nat) × List (Nat × Nat × Nat))
 | 0, _, _, _, _ => none
 | k + 1, q, i, seen, nx => if q.length ≤ 1000 ∧ nx.length ≤ 1000 ∧ seen.length ≤ 1000 ∧ i ≤ q.length then (match q[i]? with
  | none => some (false, seen, nx)
  | some p => if p.1 = b.1 ∧ p.2.1 = b.2 then some (true, seen, nx) else if p ∈ seen then impl_fewestTurns.lvl s a b k q (i + 1) seen nx else impl_fewestTurns.lvl s a b k (if impl_driveIn.can s a p.1 p.2.1 p.2.2 = true then q ++ [impl_fewestTurns.mv p] else q) (i + 1) (p :: seen) (nx ++ impl_fewestTurns.tk p 4)) else none
def impl_fewestTurns.run (s a : ByteArray) (b : Nat × Nat) : Nat → Nat → List (Nat × Nat × Nat) → List (Nat × Nat × Nat) → Option (Int × Bool)
 | 0, _, _, _ => none
 | k + 1, t, now, seen => if t ≤ 1000 then (if now = [] then some (0, false) else (impl_fewestTurns.lvl s a b k now 0 seen []).bind fun r => if r.1 = true then some ((t : Int), true) else impl_fewestTurns.run s a b k (t + 1) r.2.2 r.2.1) else none
def impl_fewestTurns.first (p : Nat × Nat) (m : Nat) : List (Nat × Nat × Nat) := (List.range m).map fun n => (p.1, p.2, n)
def impl_fewestTurns.f (k : Nat) (a0_0 a0_1 : ByteArray) (l1 l2 : List Int) : Option (Int × Bool) :=
 if impl_driveIn.Sized a0_0 a0_1 ∧ (l1.length = 2 ∧ impl_driveIn.At a0_0 a0_1 (rd l1 0) (rd l1 1)) ∧ (l2.length = 2 ∧ impl_driveIn.At a0_0 a0_1 (rd l2 0) (rd l2 1)) then impl_fewestTurns.run a0_0 a0_1 ((rd l2 0).toNat, (rd l2 1).toNat) k 0 (impl_fewestTurns.first ((rd l1 0).toNat, (rd l1 1).toNat) 4) [] else none
def impl_fewestTurns.St (w wr : World) (g p : Nat) (s a : ByteArray) (no : Nat → Prop) (Q X : Value) (q nx seen : List (Nat × Nat × Nat)) : Prop :=
 (impl_fewestTurns.MapS wr g seen ∧ wr.heap[p]? = some (.cells #[.string s, .string a] 25 (0, 0))) ∧
 (Kd.R impl_fewestTurns.K 92 wr w.heap.size (fun k => (¬ no k ∧ k ≠ g) ∧ some k ≠ X.ownBlock) Q q ∧ Kd.R impl_fewestTurns.K 92 wr w.heap.size (fun k => (¬ no k ∧ k ≠ g) ∧ some k ≠ Q.ownBlock) X nx) ∧
 Below w.heap.size w wr ∧ w.heap.size ≤ g
theorem impl_fewestTurns.St.ne_p {w wr : World} {g p : Nat} {s a : ByteArray} {no : Nat → Prop} {Q X : Value} {q nx seen : List (Nat × Nat × Nat)} (h : impl_fewestTurns.St w wr g p s a no Q X q nx seen) : some p ≠ Q.ownBlock ∧ some p ≠ X.ownBlock ∧ p ≠ g := by
 refine ⟨Kd.R_ne h.2.1.1 h.1.2 (by decide), Kd.R_ne h.2.1.2 h.1.2 (by decide), fun e => ?_⟩
 obtain ⟨D, ⟨es, clock, hb, -⟩, -⟩ := h.1.1
 rw [← e, h.1.2] at hb
 simp at hb
theorem impl_fewestTurns.St.ne_g {w wr : World} {g p : Nat} {s a : ByteArray} {no : Nat → Prop} {Q X : Value} {q nx seen : List (Nat × Nat × Nat)} (h : impl_fewestTurns.St w wr g p s a no Q X q nx seen) : some g ≠ Q.ownBlock ∧ some g ≠ X.ownBlock :=
 ⟨Kd.R_away h.2.1.1 (fun k hk => hk.1.2), Kd.R_away h.2.1.2 (fun k hk => hk.1.2)⟩
theorem impl_fewestTurns.St.below {w wr w' : World} {g p : Nat} {s a : ByteArray} {no : Nat → Prop} {Q X : Value} {q nx seen : List (Nat × Nat × Nat)} (h : impl_fewestTurns.St w wr g p s a no Q X q nx seen) (hb : Below wr.heap.size wr w') : impl_fewestTurns.St w w' g p s a no Q X q nx seen := by
 refine ⟨⟨?_, (hb.block p (Array.getElem?_eq_some_iff.1 h.1.2).1).trans h.1.2⟩, ⟨Kd.R_below h.2.1.1 hb, Kd.R_below h.2.1.2 hb⟩, below_then h.2.2.1 h.2.2.1.size hb, h.2.2.2⟩
 obtain ⟨D, ⟨es, clock, h1, h2⟩, h3⟩ := h.1.1
 exact ⟨D, ⟨es, clock, (hb.block g (Array.getElem?_eq_some_iff.1 h1).1).trans h1, h2⟩, h3⟩
theorem impl_fewestTurns.St.mark {w wr w' : World} {g p : Nat} {s a : ByteArray} {no : Nat → Prop} {Q X : Value} {q nx seen seen' : List (Nat × Nat × Nat)} (h : impl_fewestTurns.St w wr g p s a no Q X q nx seen) (hm : impl_fewestTurns.MapS w' g seen') (hg : wr.grownBy w' (some g)) : impl_fewestTurns.St w w' g p s a no Q X q nx seen' := by
 have hp := h.ne_p
 refine ⟨⟨hm, (hg.block p (Array.getElem?_eq_some_iff.1 h.1.2).1 (fun e => hp.2.2 (Option.some.inj e))).trans h.1.2⟩, ⟨Kd.R_grown h.2.1.1 hg (fun k hk e => hk.1.2 (Option.some.inj e)), Kd.R_grown h.2.1.2 hg (fun k hk e => hk.1.2 (Option.some.inj e))⟩, ?_, h.2.2.2⟩
 exact h.2.2.1.grown hg h.2.2.1.size (fun k e => by have := Option.some.inj e; have := h.2.2.2; omega)
theorem impl_fewestTurns.St.growQ {w wr w' : World} {g p : Nat} {s a : ByteArray} {no : Nat → Prop} {Q Q' X : Value} {q q' nx seen : List (Nat × Nat × Nat)} (h : impl_fewestTurns.St w wr g p s a no Q X q nx seen) (hQ : Kd.R impl_fewestTurns.K 92 w' w.heap.size (fun k => (¬ no k ∧ k ≠ g) ∧ some k ≠ X.ownBlock) Q' q') (hB : Below w.heap.size w w') (hg : wr.grownBy w' Q.ownBlock) (hat : Q'.ownBlock = Q.ownBlock ∨ ∃ b, Q'.ownBlock = some b ∧ wr.heap.size ≤ b) : impl_fewestTurns.St w w' g p s a no Q' X q' nx seen :=
 ⟨⟨h.1.1.grown hg h.ne_g.1, (hg.block p (Array.getElem?_eq_some_iff.1 h.1.2).1 h.ne_p.1).trans h.1.2⟩, ⟨hQ, Kd.R_after (ok := fun k => ¬ no k ∧ k ≠ g) h.2.1.2 hg hat⟩, hB, h.2.2.2⟩
theorem impl_fewestTurns.St.growX {w wr w' : World} {g p : Nat} {s a : ByteArray} {no : Nat → Prop} {Q X X' : Value} {q nx nx' seen : List (Nat × Nat × Nat)} (h : impl_fewestTurns.St w wr g p s a no Q X q nx seen) (hX : Kd.R impl_fewestTurns.K 92 w' w.heap.size (fun k => (¬ no k ∧ k ≠ g) ∧ some k ≠ Q.ownBlock) X' nx') (hB : Below w.heap.size w w') (hg : wr.grownBy w' X.ownBlock) (hat : X'.ownBlock = X.ownBlock ∨ ∃ b, X'.ownBlock = some b ∧ wr.heap.size ≤ b) : impl_fewestTurns.St w w' g p s a no Q X' q nx' seen :=
 ⟨⟨h.1.1.grown hg h.ne_g.2, (hg.block p (Array.getElem?_eq_some_iff.1 h.1.2).1 h.ne_p.2.1).trans h.1.2⟩, ⟨Kd.R_after (ok := fun k => ¬ no k ∧ k ≠ g) h.2.1.1 hg hat, hX⟩, hB, h.2.2.2⟩
theorem impl_fewestTurns.St.more {w wr : World} {g p : Nat} {s a : ByteArray} {no : Nat → Prop} {Q X : Value} {q nx seen : List (Nat × Nat × Nat)} (h : impl_fewestTurns.St w wr g p s a no Q X q nx seen) (b : Nat) (hb : wr.heap.size ≤ b) : impl_fewestTurns.St w wr g p s a (fun k => no k ∨ k = b) Q X q nx seen :=
 ⟨h.1, ⟨Kd.R_mono (Kd.R_bound h.2.1.1) (fun k hk => ⟨⟨fun e => e.elim hk.1.1.1 (fun e => by have := hk.2.2.1; omega), hk.1.1.2⟩, hk.1.2⟩), Kd.R_mono (Kd.R_bound h.2.1.2) (fun k hk => ⟨⟨fun e => e.elim hk.1.1.1 (fun e => by have := hk.2.2.1; omega), hk.1.1.2⟩, hk.1.2⟩)⟩, h.2.2⟩
theorem impl_fewestTurns.St.less {w wr : World} {g p : Nat} {s a : ByteArray} {no no' : Nat → Prop} {Q X : Value} {q nx seen : List (Nat × Nat × Nat)} (h : impl_fewestTurns.St w wr g p s a no Q X q nx seen) (hn : ∀ k, no' k → no k) : impl_fewestTurns.St w wr g p s a no' Q X q nx seen :=
 ⟨h.1, ⟨Kd.R_mono h.2.1.1 (fun k hk => ⟨⟨fun e => hk.1.1 (hn k e), hk.1.2⟩, hk.2⟩), Kd.R_mono h.2.1.2 (fun k hk => ⟨⟨fun e => hk.1.1 (hn k e), hk.1.2⟩, hk.2⟩)⟩, h.2.2⟩
theorem impl_fewestTurns.St.turn {w wr : World} {g p : Nat} {s a : ByteArray} {Q X : Value} {q nx seen : List (Nat × Nat × Nat)} (h : impl_fewestTurns.St w wr g p s a (fun _ => False) Q X q nx seen) : impl_fewestTurns.St w wr g p s a (fun _ => False) X (.slice none 0 0) nx [] seen :=
 ⟨h.1, ⟨Kd.R_mono h.2.1.2 (fun k hk => ⟨hk.1, by simp [Value.ownBlock]⟩), Kd.R_nil _ _ _ _ _⟩, h.2.2⟩
theorem impl_fewestTurns.St.iter {w wr : World} {g p : Nat} {s a : ByteArray} {no : Nat → Prop} {Q X : Value} {q nx seen : List (Nat × Nat × Nat)} (h : impl_fewestTurns.St w wr g p s a no Q X q nx seen) (it : Nat) (hno : no it) (sb : ByteArray) (pp n : Nat) (hit : wr.heap[it]? = some (.stringIter sb pp)) (hle : w.heap.size ≤ it) : impl_fewestTurns.St w (wr.iterAt it sb n) g p s a no Q X q nx seen := by
 have hp : p ≠ it := fun e => by
  have z := h.1.2
  rw [e, hit] at z
  simp at z
 refine ⟨⟨?_, (Go.Lib.iterAt_other _ _ _ _ _ hp).trans h.1.2⟩, ⟨Kd.R_step h.2.1.1 (fun k hk _ => Go.Lib.iterAt_other _ _ _ _ _ (fun e => hk.1.1 (by rw [e]; exact hno))), Kd.R_step h.2.1.2 (fun k hk _ => Go.Lib.iterAt_other _ _ _ _ _ (fun e => hk.1.1 (by rw [e]; exact hno)))⟩, Go.Lib.below_iterAt h.2.2.1 hle _ _, h.2.2.2⟩
 obtain ⟨D, ⟨es, clock, h1, h2⟩, h3⟩ := h.1.1
 have hg : g ≠ it := fun e => by
  rw [e, hit] at h1
  simp at h1
 exact ⟨D, ⟨es, clock, (Go.Lib.iterAt_other _ _ _ _ _ hg).trans h1, h2⟩, h3⟩
theorem impl_fewestTurns.ipos {w : World} {k : Nat} {s : ByteArray} {p : Nat} (h : w.heap[k]? = some (.stringIter s p)) : w.iterPos k = p := by simp [World.iterPos, h]
theorem impl_fewestTurns.wid (m : Nat) (h : m < 4) : (Utf8.decode ⟨#[101, 110, 115, 119]⟩ m).2 = 1 := by
 have c : m = 0 ∨ m = 1 ∨ m = 2 ∨ m = 3 := by omega
 rcases c with rfl | rfl | rfl | rfl <;> (rw [decode_ascii _ _ (by decide) (by decide)])
theorem impl_fewestTurns.tk_succ (p : Nat × Nat × Nat) (m : Nat) : impl_fewestTurns.tk p (m + 1) = if m ≠ p.2.2 ∧ m ≠ 3 - p.2.2 then impl_fewestTurns.tk p m ++ [(p.1, p.2.1, m)] else impl_fewestTurns.tk p m := by
 unfold impl_fewestTurns.tk
 rw [List.range_succ, List.filter_append, List.map_append]
 by_cases h : m ≠ p.2.2 ∧ m ≠ 3 - p.2.2
 ·rw [if_pos h]; simp [h]
 ·rw [if_neg h]; simp [h]
theorem impl_fewestTurns.first_succ (p : Nat × Nat) (m : Nat) : impl_fewestTurns.first p (m + 1) = impl_fewestTurns.first p m ++ [(p.1, p.2, m)] := by
 unfold impl_fewestTurns.first
 rw [List.range_succ, List.map_append]
 rfl
theorem impl_fewestTurns.walk (k : Nat) (s t : ByteArray) (hS : impl_driveIn.Sized s t) (A : Option Addr) (c : Nat) (ax ay : Nat) (B : Option Addr) (cb : Nat) (bx yb : Nat) (w : World) (hr : Kd.C (Kd.int .i64) w A 2 [(ax : Int), (ay : Int)]) (hc : 2 ≤ c) (hax : ax < t.size) (hay : ay < s.size) (hrb : Kd.C (Kd.int .i64) w B 2 [(bx : Int), (yb : Int)]) (hcb : 2 ≤ cb) (r1 : Int) (r2 : Bool) (h : impl_fewestTurns.run s t (bx, yb) k 0 (impl_fewestTurns.first (ax, ay) 4) [] = some (r1, r2)) :
  Calls Try.prog 39 #[.agg #[.string s, .string t], .slice A 2 c, .slice B 2 cb] w fun e w' => e = .returned (.tuple #[.int .i64 r1, .bool r2]) ∧ Below w.heap.size w w' := by
 obtain ⟨⟨t1, t8⟩, s1, s8⟩ := hS
 have HS := am (show impl_driveIn.Sized s t from ⟨⟨t1, t8⟩, s1, s8⟩)
 have HC := am hc
 have HCB := am hcb
 obtain ⟨ad, hA, hx0⟩ := Kd.at_int hr 0 (by omega) (by omega)
 obtain ⟨ad1, hA1, hx1⟩ := Kd.at_int hr 1 (by omega) (by omega)
 subst hA
 obtain rfl : ad = ad1 := by injection hA1
 rw [show (0 : Int).toNat = 0 from rfl, Addr.add_zero', show rd [(ax : Int), (ay : Int)] 0 = (ax : Int) from rfl] at hx0
 rw [show rd [(ax : Int), (ay : Int)] 1 = (ay : Int) from rfl] at hx1
 simp only [show (1 : Int).toNat = 1 from rfl, Nat.reduceMul, Nat.reduceEqDiff, Go.Addr.add, ↓reduceIte] at hx1
 obtain ⟨bd, hB, hy0⟩ := Kd.at_int hrb 0 (by omega) (by omega)
 obtain ⟨bd1, hB1, hy1⟩ := Kd.at_int hrb 1 (by omega) (by omega)
 subst hB
 obtain rfl : bd = bd1 := by injection hB1
 rw [show (0 : Int).toNat = 0 from rfl, Addr.add_zero', show rd [(bx : Int), (yb : Int)] 0 = (bx : Int) from rfl] at hy0
 rw [show rd [(bx : Int), (yb : Int)] 1 = (yb : Int) from rfl] at hy1
 simp only [show (1 : Int).toNat = 1 from rfl, Nat.reduceMul, Nat.reduceEqDiff, Go.Addr.add, ↓reduceIte] at hy1
 have HXs := am (show ∀ W : World, Below w.heap.size w W → (W.cell? ad = some (.int .i64 ax) ∧ W.cell? { block := ad.block, off := ad.off + 1 } = some (.int .i64 ay)) ∧ (W.cell? bd = some (.int .i64 bx) ∧ W.cell? { block := bd.block, off := bd.off + 1 } = some (.int .i64 yb)) from fun W hW => ⟨⟨(hW.cell (World.block_lt_of_cell? _ _ hx0)).trans hx0, (hW.cell (World.block_lt_of_cell? _ _ hx1)).trans hx1⟩, (hW.cell (World.block_lt_of_cell? _ _ hy0)).trans hy0, (hW.cell (World.block_lt_of_cell? _ _ hy1)).trans hy1⟩)
 have H := am h
 have HM := am (fun W : World => impl_driveIn.calls s t (s, t) W rfl)
 have HI := am (show (Try.prog.info? 92).map (fun i => (i.zero, i.size, i.bytes)) = some (some (.agg #[.int .i64 0, .int .i64 0, .int .i64 0]), 3, 24) from by kernel_rfl)
 have hmk : ∀ W : World, (Instr.makeMap 89 none).run Try.prog W = .ok (.map (some W.heap.size)) (W.alloc (.map #[] 0)) := fun W => rfl
 clear hr hrb hc hcb h hx0 hx1 hy0 hy1 hA1 hB1
 go_enter Try.func39, Try.ntmps39
 go_wp2_with (go_at_call 32; refine (HM.out _).mono ?_; rintro e w1 ⟨p, rfl, hp, hB⟩; have HP := am hp; have HB1 := am (below_then (below_alloc (Below.refl w.heap.size w) (.cells #[.string s, .string t] 25)) (by simp) hB); clear hp hB)
 have HS0 := am (show impl_fewestTurns.St w ((w1.alloc (.map #[] 0)).iter ⟨#[101, 110, 115, 119]⟩ 0) w1.heap.size p s t (fun k => k = w1.heap.size + 1) (.slice none 0 0) (.slice none 0 0) [] [] [] by
  have hB2 := below_then HB1.out HB1.out.size (below_alloc (Below.refl w1.heap.size w1) (.map #[] 0))
  have h0 : impl_fewestTurns.St w (w1.alloc (.map #[] 0)) w1.heap.size p s t (fun k => k = w1.heap.size + 1) (.slice none 0 0) (.slice none 0 0) [] [] [] :=
   ⟨⟨impl_fewestTurns.MapS.start w1, blk_alloc HP.out _⟩, ⟨Kd.R_nil _ _ _ _ _, Kd.R_nil _ _ _ _ _⟩, hB2, HB1.out.size⟩
  exact h0.below (below_alloc (Below.refl _ _) _))
 clear HP
 go_wp2
 go_loopw [10] (fun Q wi => ∃ m : Nat, m ≤ 4 ∧ wi.heap[w1.heap.size + 1]? = some (.stringIter ⟨#[101, 110, 115, 119]⟩ m) ∧ Aside0 (impl_fewestTurns.St w wi w1.heap.size p s t (fun k => k = w1.heap.size + 1) Q (.slice none 0 0) (impl_fewestTurns.first (ax, ay) m) [] [])) (fun _ wi => 4 - wi.iterPos (w1.heap.size + 1))
 case atStart => exact ⟨0, by omega, by simpa using World.iter_heap (w1.alloc (.map #[] 0)) ⟨#[101, 110, 115, 119]⟩ 0, HS0⟩
 case round =>
  clear HS0
  obtain ⟨m, hm, hit, HQ⟩ := hrel
  by_cases hm4 : m < 4
  ·have hnx : ∀ ty, (Instr.next (.pointer (some ⟨w1.heap.size + 1, 0, none⟩)) true ty).run Try.prog wr = _ := fun ty => Go.Lib.run_next_any_at wr (w1.heap.size + 1) ⟨#[101, 110, 115, 119]⟩ m ty hit hm4
   have hit1 := am (Go.Lib.iterAt_heap wr (w1.heap.size + 1) ⟨#[101, 110, 115, 119]⟩ m (m + 1) hit)
   have HIT := am hit
   have HM4 := am hm4
   have HQ1 := am (HQ.out.iter (w1.heap.size + 1) rfl ⟨#[101, 110, 115, 119]⟩ m (m + 1) hit (by have := HB1.out.size; omega))
   rw [impl_fewestTurns.wid m hm4] at hnx
   clear hit HQ
   obtain ⟨A0, C0, e0⟩ := Kd.R_slice HQ1.out.2.1.1
   subst e0
   go_wp2
   have HQ5 := am (HQ1.out.below (below_drew1 (Below.refl _ _)))
   have hit5 := am (show (wr.iterAt (w1.heap.size + 1) ⟨#[101, 110, 115, 119]⟩ (m + 1)).drew.heap[w1.heap.size + 1]? = some (.stringIter ⟨#[101, 110, 115, 119]⟩ (m + 1)) from hit1.out)
   obtain ⟨⟨hx0, hx1⟩, -⟩ := HXs.out _ HQ5.out.2.2.1
   have HL := am (show (impl_fewestTurns.first (ax, ay) m).length = m by simp [impl_fewestTurns.first])
   clear HQ1 hit1
   refine start_ (n := 12) (S := fun w' => w'.cell? ad = some (.int .i64 (ax : Int)) ∧ w'.cell? { block := ad.block, off := ad.off + 1 } = some (.int .i64 (ay : Int))) (ds := []) #[false, false, false, false, false, false, false, false, false, false, false, false] (by kernel_rfl) rfl rfl ⟨hx0, hx1⟩ (fun hHeld => ?_); refine with_tabW impl_fewestTurns.tab7 impl_fewestTurns.bits7 (fun HT_ HW_ => ?_)
   generalize (wr.iterAt (w1.heap.size + 1) ⟨#[101, 110, 115, 119]⟩ (m + 1)).drew = w5 at HQ5 hit5 hHeld ⊢
   have HG := am (show w1.heap.size + 1 < w5.heap.size from (Array.getElem?_eq_some_iff.1 hit5.out).1)
   refine pu_ 0 26 (fl_ 12 1) HT_ ?_
   refine pu_ 1 27 (fl_ 12 3) HT_ ?_
   refine pu_ 2 28 (fl_ 12 7) HT_ ?_
   refine tk_ 3 29 (fl_ 12 15) HT_ HW_ hHeld ?_ (hy := by rintro w' ⟨s0, s1⟩; go_simp; with_reducible rfl)
   refine pu_ 4 30 (fl_ 12 31) HT_ ?_
   refine pu_ 5 31 (fl_ 12 63) HT_ ?_
   refine tk_ 6 32 (fl_ 12 127) HT_ HW_ hHeld ?_ (hy := by rintro w' ⟨s0, s1⟩; go_simp; with_reducible rfl)
   refine pu_ 7 33 (fl_ 12 255) HT_ ?_
   refine pu_ 8 34 (fl_ 12 511) HT_ ?_
   refine on_ 9 35 (fl_ 12 1023) HT_ fun K hK => ?_
   refine value_ (w1 := (w5.alloc (.cells #[.int .i64 (ax : Int), .int .i64 (ay : Int), .int .i64 (m : Int)] 92))) (v := .slice (some ⟨w5.heap.size, 0, none⟩) 1 1) (by rfl) rfl ?_ ?_
   ·first | (go_simp; done)
   refine hK.out _ _ (HXs.out _ (below_then HQ5.out.2.2.1 HQ5.out.2.2.1.size (below_alloc (Below.refl _ _) _))).1 (fun hHeld => ?_)
   clear hK K
   refine nm_ 35 ?_
   refine on_ 10 36 (fl_ 12 2047) HT_ fun K hK => ?_
   refine Kd.R_append_step impl_fewestTurns.K (w0 := w) w.heap.size (by rfl) (.tmp 26) (.tmp 35) 90 92 (.agg #[.int .i64 0, .int .i64 0, .int .i64 0]) 24 rfl Try.underlying90 HI.out rfl (by decide) (by omega) (.slice A0 (impl_fewestTurns.first (ax, ay) m).length C0) (impl_fewestTurns.first (ax, ay) m) (ax, ay, m) (impl_fewestTurns.cells (ax, ay, m)) (fun k => (¬ (k = w1.heap.size + 1) ∧ k ≠ w1.heap.size) ∧ some k ≠ (Value.slice none 0 0).ownBlock) (fun _ => False) rfl ?aX ?aP (fun _ hk => hk.elim) ?aF ?aO ?aB ?aS ?aL ?_
   case aX => first | rfl
   case aP => exact rfl
   case aF => exact (fun k hk => by have := HG.out; exact ⟨⟨by omega, by omega⟩, by simp [Value.ownBlock]⟩)
   case aO => exact HQ5.out.2.1.1
   case aB => exact HQ5.out.2.2.1
   case aS => exact HQ5.out.2.2.1.size
   case aL => (have := HL.out; omega)
   intro v6 w6 hr6 hb6 hg6 hat6
   have HQ6 := am (HQ5.out.growQ hr6 hb6 hg6 hat6)
   have hit6 := am ((hg6.block _ (Array.getElem?_eq_some_iff.1 hit5.out).1 (Kd.R_away HQ5.out.2.1.1 (fun k hk => hk.1.1))).trans hit5.out)
   clear hr6 hb6 hg6 hat6
   refine hK.out _ _ (HXs.out _ HQ6.out.2.2.1).1 (fun hHeld => ?_)
   clear hK K
   refine nm_ 36 ?_
   refine pu_ 11 10 (fl_ 12 4095) HT_ ?_
   refine done_ (done_of HT_.out (by kernel_rfl)) ?_
   clear hHeld HT_ HW_ HQ5 hit5
   go_wp2
   go_roundw
   case rel => exact ⟨m + 1, by have := HM4.out; omega, hit6.out, ⟨by have z := HQ6.out; rw [← impl_fewestTurns.first_succ] at z; exact z⟩⟩
   case measure => rw [impl_fewestTurns.ipos hit6.out, impl_fewestTurns.ipos HIT.out]; have := HM4.out; omega
  ·obtain rfl : m = 4 := by omega
   have hnx : ∀ ty, (Instr.next (.pointer (some ⟨w1.heap.size + 1, 0, none⟩)) true ty).run Try.prog wr = _ := fun ty => Go.Lib.run_next_end_at wr (w1.heap.size + 1) ⟨#[101, 110, 115, 119]⟩ 4 ty hit (by decide)
   clear hit hm hm4
   have HQ0 := am (HQ.out.less (no' := fun _ => False) (fun _ e => e.elim))
   go_wp2
   clear hnx HQ
   go_loopg [10, 12] k (fun kq Q tv wq => ∃ (n : Nat) (q seen : List (Nat × Nat × Nat)), tv = .int .i64 n ∧ Aside0 (impl_fewestTurns.run s t (bx, yb) kq n q seen = some (r1, r2)) ∧ Aside0 (kq ≤ k) ∧ Aside0 (impl_fewestTurns.St w wq w1.heap.size p s t (fun _ => False) Q (.slice none 0 0) q [] seen) ∧ Aside0 (∀ z ∈ q, z.1 < t.size ∧ z.2.1 < s.size ∧ z.2.2 < 4))
   case atStart => exact ⟨0, impl_fewestTurns.first (ax, ay) 4, [], rfl, H, ⟨Nat.le_refl _⟩, HQ0, ⟨fun z hz => by
    simp only [impl_fewestTurns.first, List.mem_map, List.mem_range] at hz
    obtain ⟨n, hn, rfl⟩ := hz
    exact ⟨hax, hay, hn⟩⟩⟩
   case round =>
    clear H HQ0
    obtain ⟨n, q, seen, rfl, H, HK, HQ, HV⟩ := hrel
    cases gk with
    | zero => exact absurd H.out (by simp [impl_fewestTurns.run])
    | succ k1 =>
     have h := H.out
     simp only [impl_fewestTurns.run] at h
     by_cases c0 : n ≤ 1000
     case neg => rw [if_neg c0] at h; cases h
     rw [if_pos c0] at h
     clear H
     obtain ⟨A0, C0, e0⟩ := Kd.R_slice HQ.out.2.1.1
     subst e0
     by_cases c1 : q = []
     ·rw [if_pos c1] at h
      subst c1
      obtain ⟨rfl, rfl⟩ := Prod.mk.inj (Option.some.inj h)
      clear h
      go_wp2
      refine bodyPost_ret (results_list (rs := [.tmp 6, .tmp 7]) rfl (by simp) (.tmp (.tmp .nil))) rfl ?_
      exact ⟨rfl, HQ.out.2.2.1⟩
     ·rw [if_neg c1] at h
      obtain ⟨⟨fd, sn, nxs⟩, h1, h2⟩ := Option.bind_eq_some_iff.1 h
      have H1 := am h1
      have H2 := am h2
      have hlen : 0 < q.length := List.length_pos_iff.2 c1
      have HN := am c0
      clear h h1 h2 c1 c0
      go_wp2
      clear hlen
      go_loopg [10, 13, 14] k1 (fun kq Q X iv wq => ∃ (i : Nat) (q nx seen : List (Nat × Nat × Nat)), iv = .int .i64 i ∧ Aside0 (impl_fewestTurns.lvl s t (bx, yb) kq q i seen nx = some (fd, sn, nxs)) ∧ Aside0 (kq ≤ k1) ∧ Aside0 (impl_fewestTurns.St w wq w1.heap.size p s t (fun _ => False) Q X q nx seen) ∧ Aside0 (∀ z ∈ q, z.1 < t.size ∧ z.2.1 < s.size ∧ z.2.2 < 4) ∧ Aside0 (∀ z ∈ nx, z.1 < t.size ∧ z.2.1 < s.size ∧ z.2.2 < 4))
      case atStart => exact ⟨0, q, [], seen, rfl, H1, ⟨Nat.le_refl _⟩, HQ, HV, ⟨fun z hz => by cases hz⟩⟩
      case round =>
       clear H1 HQ HV
       obtain ⟨i, q, nx, seen, rfl, H, HKi, HQ, HV, HVx⟩ := hrel
       cases gk with
       | zero => exact absurd H.out (by simp [impl_fewestTurns.lvl])
       | succ k2 =>
        have h := H.out
        simp only [impl_fewestTurns.lvl] at h
        by_cases c0 : q.length ≤ 1000 ∧ nx.length ≤ 1000 ∧ seen.length ≤ 1000 ∧ i ≤ q.length
        case neg => rw [if_neg c0] at h; cases h
        rw [if_pos c0] at h
        obtain ⟨c1, c2, c3, c4⟩ := c0
        clear H
        obtain ⟨A0, C0, e0⟩ := Kd.R_slice HQ.out.2.1.1
        subst e0
        obtain ⟨AX, CX, eX⟩ := Kd.R_slice HQ.out.2.1.2
        subst eX
        by_cases hi : i < q.length
        ·obtain ⟨⟨x, y, sg⟩, hxy⟩ : ∃ z, q[i]? = some z := ⟨q[i], by simp [hi]⟩
         rw [hxy] at h
         have HX := am hxy
         have HH := am h
         have HL := am (show q.length ≤ 1000 ∧ nx.length ≤ 1000 ∧ seen.length ≤ 1000 from ⟨c1, c2, c3⟩)
         have hi1 : decide ((i : Int) < (q.length : Int)) = true := decide_eq_true (by omega)
         clear h hxy c1 c2 c3 c4
         obtain ⟨G, CG, eG, -⟩ := Kd.R_form HQ.out.2.1.1 (by omega)
         cases eG
         obtain ⟨cz, hcl, hM, hcc⟩ := Kd.R_getA HQ.out.2.1.1 (x, y, sg) (i : Int) (by omega) (by omega)
         rw [Int.toNat_natCast, List.getD_eq_getElem?_getD, HX.out] at hM
         obtain rfl : cz = [.int .i64 (x : Int), .int .i64 (y : Int), .int .i64 (sg : Int)] := hM
         have hz0 := hcc 0 _ rfl
         have hz1 := hcc 1 _ rfl
         have hz2 := hcc 2 _ rfl
         simp only [show (impl_fewestTurns.K).sz = 3 from rfl, Int.toNat_natCast, Addr.add_lit, Nat.zero_add, Nat.add_zero] at hz0 hz1 hz2
         clear hcc hcl
         go_wp2
         clear hz0 hz1 hz2 hi1
         obtain ⟨sb, hsb⟩ : ∃ sb, sb = wr.heap.size := ⟨_, rfl⟩
         have HQ1 := am ((HQ.out.more sb (by omega)).less (no' := fun k => k = sb) (fun k e => .inr e))
         have HQ2 := am (HQ1.out.below (below_alloc (Below.refl _ _) (.cells #[.int .i64 (x : Int), .int .i64 (y : Int), .int .i64 (sg : Int)] 92)))
         have HSB := am (show (wr.alloc (.cells #[.int .i64 (x : Int), .int .i64 (y : Int), .int .i64 (sg : Int)] 92)).heap[sb]? = some (.cells #[.int .i64 (x : Int), .int .i64 (y : Int), .int .i64 (sg : Int)] 92 (0, 0)) by rw [hsb]; exact heap_alloc_new _ _)
         rw [← hsb]
         have HLE := am (show w.heap.size ≤ sb by have := HQ.out.2.2.1.size; omega)
         clear HQ HQ1 hsb
         generalize wr.alloc (.cells #[.int .i64 (x : Int), .int .i64 (y : Int), .int .i64 (sg : Int)] 92) = wb at HQ2 HSB ⊢
         go_cut [65] (fun v65 wc => v65 = .bool (decide (x = bx) && decide (y = yb)) ∧ Aside0 (impl_fewestTurns.St w wc w1.heap.size p s t (fun k => k = sb) (.slice (some ⟨G, 0, none⟩) q.length C0) (.slice AX nx.length CX) q nx seen) ∧ Aside0 (wc.heap[sb]? = some (.cells #[.int .i64 (x : Int), .int .i64 (y : Int), .int .i64 (sg : Int)] 92 (0, 0))))
         case first =>
          have hs0 : wb.cell? ⟨sb, 0, none⟩ = some (.int .i64 (x : Int)) := (blk_cell HSB.out 0).trans rfl
          have hs1 : wb.cell? ⟨sb, 1, none⟩ = some (.int .i64 (y : Int)) := (blk_cell HSB.out 1).trans rfl
          obtain ⟨-, hy0, hy1⟩ := HXs.out _ HQ2.out.2.2.1
          by_cases e1 : x = bx
          ·have q1 : ((x : Int) == (bx : Int)) = true := beq_iff_eq.2 (by omega)
           have d1 : decide (x = bx) = true := decide_eq_true e1
           by_cases e2 : y = yb
           ·have q2 : ((y : Int) == (yb : Int)) = true := beq_iff_eq.2 (by omega)
            have d2 : decide (y = yb) = true := decide_eq_true e2
            clear e1 e2
            go_quiet (fail)
            go_wp2
            go_meet
            case rel => exact ⟨by rw [d1, d2]; rfl, ⟨HQ2.out.below (pw_below_drewN (Below.refl _ _) _)⟩, HSB⟩
           ·have q2 : ((y : Int) == (yb : Int)) = false := beq_eq_false_iff_ne.2 (by omega)
            have d2 : decide (y = yb) = false := decide_eq_false e2
            clear e1 e2
            go_quiet (fail)
            go_wp2
            go_meet
            case rel => exact ⟨by rw [d1, d2]; rfl, ⟨HQ2.out.below (pw_below_drewN (Below.refl _ _) _)⟩, HSB⟩
          ·have q1 : ((x : Int) == (bx : Int)) = false := beq_eq_false_iff_ne.2 (by omega)
           have d1 : decide (x = bx) = false := decide_eq_false e1
           clear e1
           go_quiet (fail)
           go_wp2
           go_meet
           case rel => exact ⟨by rw [d1]; rfl, ⟨HQ2.out.below (pw_below_drewN (Below.refl _ _) _)⟩, HSB⟩
         case rest =>
          clear HQ2 HSB
          obtain ⟨rfl, HQ, HSB⟩ := hcut
          have h := HH.out
          have HVi := am (show x < t.size ∧ y < s.size ∧ sg < 4 from HV.out _ (List.mem_of_getElem? HX.out))
          by_cases e1 : x = bx ∧ y = yb
          ·rw [if_pos e1] at h
           have z := Option.some.inj h
           obtain rfl : fd = true := (Prod.mk.inj z).1.symm
           have h2 := H2.out
           rw [if_pos rfl] at h2
           obtain ⟨rfl, rfl⟩ := Prod.mk.inj (Option.some.inj h2)
           have d1 : (decide (x = bx) && decide (y = yb)) = true := by simp [e1]
           clear h z h2
           rw [d1]
           go_wp2
           refine bodyPost_ret (results_list (rs := [.tmp 6, .tmp 7]) rfl (by simp) (.tmp (.tmp .nil))) rfl ?_
           exact ⟨rfl, HQ.out.2.2.1⟩
          ·rw [if_neg e1] at h
           have d1 : (decide (x = bx) && decide (y = yb)) = false := by
            rw [Bool.and_eq_false_iff]
            by_cases e2 : x = bx
            ·exact .inr (decide_eq_false (fun e3 => e1 ⟨e2, e3⟩))
            ·exact .inl (decide_eq_false e2)
           have HH := am h
           clear h e1
           rw [d1]
           have hlk := impl_fewestTurns.MapS.look HQ.out.1.1 (x, y, sg) (by have := HVi.out; show x < 8 ∧ y < 8 ∧ sg < 4; omega)
           have hs0 : wc.cell? ⟨sb, 0, none⟩ = some (.int .i64 (x : Int)) := (blk_cell HSB.out 0).trans rfl
           have hs1 : wc.cell? ⟨sb, 1, none⟩ = some (.int .i64 (y : Int)) := (blk_cell HSB.out 1).trans rfl
           have hs2 : wc.cell? ⟨sb, 2, none⟩ = some (.int .i64 (sg : Int)) := (blk_cell HSB.out 2).trans rfl
           by_cases e2 : (x, y, sg) ∈ seen
           ·have h := HH.out
            rw [if_pos e2] at h
            rw [decide_eq_true e2] at hlk
            have HR2 := am h
            clear h e2
            go_wp2
            go_wp2
            rw [show wrap64 ((i : Int) + 1) = ((i + 1 : Nat) : Int) by have := HL.out; have := (List.getElem?_eq_some_iff.1 HX.out).1; unfold wrap64; omega]
            go_roundg k2
            case measure => have := HKi.out; omega
            case rel => exact ⟨i + 1, q, nx, seen, rfl, HR2, ⟨by have := HKi.out; omega⟩, ⟨HQ.out.less (fun _ e => e.elim)⟩, HV, HVx⟩
           ·have h := HH.out
            rw [if_neg e2] at h
            rw [decide_eq_false e2] at hlk
            have HR2 := am h
            clear h e2 HH
            obtain ⟨w2, hput, hM2, hg2⟩ := impl_fewestTurns.MapS.put HQ.out.1.1 (x, y, sg) (by have := HVi.out; show x < 8 ∧ y < 8 ∧ sg < 4; omega) HL.out.2.2
            have HQ2 := am (HQ.out.mark hM2 hg2)
            have HSB2 := am ((hg2.block sb (Array.getElem?_eq_some_iff.1 HSB.out).1 (fun e => by
             obtain ⟨D, ⟨es, clock, z, -⟩, -⟩ := HQ.out.1.1
             rw [← Option.some.inj e, HSB.out] at z
             simp at z)).trans HSB.out)
            have hs20 : w2.cell? ⟨sb, 0, none⟩ = some (.int .i64 (x : Int)) := (blk_cell HSB2.out 0).trans rfl
            have hs21 : w2.cell? ⟨sb, 1, none⟩ = some (.int .i64 (y : Int)) := (blk_cell HSB2.out 1).trans rfl
            have hs22 : w2.cell? ⟨sb, 2, none⟩ = some (.int .i64 (sg : Int)) := (blk_cell HSB2.out 2).trans rfl
            have hs32 : (w2.alloc (.cells #[.int .i64 (x : Int), .int .i64 (y : Int)] 3)).cell? ⟨sb, 2, none⟩ = some (.int .i64 (sg : Int)) := (blk_cell (blk_alloc HSB2.out _) 2).trans rfl
            obtain ⟨cn, hcn⟩ : ∃ cn, cn = impl_driveIn.can s t (x : Int) (y : Int) sg := ⟨_, rfl⟩
            have HCN := am hcn
            have hrow : (w2.alloc (.cells #[.int .i64 (x : Int), .int .i64 (y : Int)] 3)).heap[w2.heap.size]? = some (.cells #[.int .i64 (x : Int), .int .i64 (y : Int)] 3 (0, 0)) := heap_alloc_new _ _
            have hC : Kd.C (Kd.int .i64) (w2.alloc (.cells #[.int .i64 (x : Int), .int .i64 (y : Int)] 3)) (some ⟨w2.heap.size, 0, none⟩) 2 [(x : Int), (y : Int)] := by
             refine Kd.C_of_reads (d := (0 : Int)) (h1 := fun _ => rfl) ⟨rfl, by omega, fun _ => ⟨_, rfl, fun i hi => ?_⟩⟩
             rw [Addr.add_lit]
             have c : i = 0 ∨ i = 1 := by first | omega
             rcases c with rfl | rfl
             ·exact (blk_cell hrow 0).trans rfl
             ·exact (blk_cell hrow 1).trans rfl
            have HK2 := am (show Calls Try.prog 60 #[.slice (some ⟨w2.heap.size, 0, none⟩) 2 2, .int .i64 (sg : Int), .pointer (some ⟨p, 0, none⟩)] (w2.alloc (.cells #[.int .i64 (x : Int), .int .i64 (y : Int)] 3)) (fun e w' => e = .returned (.bool cn) ∧ Below (w2.alloc (.cells #[.int .i64 (x : Int), .int .i64 (y : Int)] 3)).heap.size (w2.alloc (.cells #[.int .i64 (x : Int), .int .i64 (y : Int)] 3)) w') from by
             rw [hcn]
             exact impl_driveIn.clo s t HS.out p (some ⟨w2.heap.size, 0, none⟩) 2 x y sg (by have := HVi.out; omega) _ hC (by omega) (by have := HVi.out; unfold impl_driveIn.At; omega) (blk_alloc HQ2.out.1.2 _))
            have HROW := am hrow
            have HB3 := am (below_alloc (Below.refl w2.heap.size w2) (.cells #[.int .i64 (x : Int), .int .i64 (y : Int)] 3))
            clear hM2 hg2 HQ HSB hrow hC hcn
            go_upto_if 81 with (go_at_call 60; refine HK2.out.mono ?_; rintro e w4 ⟨rfl, hb4⟩; have HQ4 := am ((HQ2.out.below HB3.out).below hb4); have HSB4 := am ((hb4.block sb (Array.getElem?_eq_some_iff.1 (blk_alloc HSB2.out _)).1).trans (blk_alloc HSB2.out _)); have HR4 := am ((hb4.block w2.heap.size (Array.getElem?_eq_some_iff.1 HROW.out).1).trans HROW.out); clear hb4)
            go_cut [10] (fun v10 wd => Aside0 (impl_fewestTurns.St w wd w1.heap.size p s t (fun k => k = sb) v10 (.slice AX nx.length CX) (if cn = true then q ++ [impl_fewestTurns.mv (x, y, sg)] else q) nx ((x, y, sg) :: seen)) ∧ Aside0 (wd.heap[sb]? = some (.cells #[.int .i64 (x : Int), .int .i64 (y : Int), .int .i64 (sg : Int)] 92 (0, 0))))
            case first =>
             cases cn with
             | false =>
              go_wp2
              go_meet
              case rel => exact ⟨by rw [if_neg (by simp)]; exact HQ4, HSB4⟩
             | true =>
              have hs42 : w4.cell? ⟨sb, 2, none⟩ = some (.int .i64 (sg : Int)) := (blk_cell HSB4.out 2).trans rfl
              obtain ⟨ux, vy, hu, hv, hmv⟩ : ∃ ux vy : Nat, (x : Int) + impl_driveIn.dx sg = ux ∧ (y : Int) + impl_driveIn.dy sg = vy ∧ impl_fewestTurns.mv (x, y, sg) = (ux, vy, sg) := by
               have z := HCN.out.symm
               unfold impl_driveIn.can at z
               rw [Bool.and_eq_true] at z
               have z1 := of_decide_eq_true z.1
               refine ⟨((x : Int) + impl_driveIn.dx sg).toNat, ((y : Int) + impl_driveIn.dy sg).toNat, ?_, ?_, rfl⟩ <;> omega
              have HMV := am hmv
              have HM2 := am (impl_driveIn.moved x y sg (by have := HVi.out; omega) (by have := HVi.out; omega) (by have := HVi.out; omega))
              rw [hu, hv] at HM2
              have hC4 : Kd.C (Kd.int .i64) w4 (some ⟨w2.heap.size, 0, none⟩) 2 [(x : Int), (y : Int)] := by
               refine Kd.C_of_reads (d := (0 : Int)) (h1 := fun _ => rfl) ⟨rfl, by omega, fun _ => ⟨_, rfl, fun i hi => ?_⟩⟩
               rw [Addr.add_lit]
               have c : i = 0 ∨ i = 1 := by first | omega
               rcases c with rfl | rfl
               ·exact (blk_cell HR4.out 0).trans rfl
               ·exact (blk_cell HR4.out 1).trans rfl
              have HC4 := am hC4
              clear hu hv hmv hC4
              go_wp2_with (go_at_call 59; refine (impl_moved.calls _ _ [(x : Int), (y : Int)] (sg : Int) _ _ HC4.out (by simp) HM2.out).mono ?_; rintro e w5 ⟨v0, rfl, hR5, hB5⟩; obtain ⟨A2, c2, e2⟩ := Kd.R_slice hR5; rw [show ([(ux : Int), (vy : Int)] : List Int).length = 2 from rfl] at e2; subst e2; have hC5 := (Kd.R_reads' hR5).2.2; rw [show ([(ux : Int), (vy : Int)] : List Int).length = 2 from rfl] at hC5; have hl5 := (Kd.R_reads' hR5).2.1; have HC5 := am hC5; have HBS5 := am (Kd.R_base hR5); have HQ5 := am (HQ4.out.below hB5); have HSB5 := am ((hB5.block sb (Array.getElem?_eq_some_iff.1 HSB4.out).1).trans HSB4.out); clear hC5 hR5 hB5)
              obtain ⟨ad2, hA2, hu0⟩ := Kd.at_int HC5.out 0 (by omega) (by omega)
              obtain ⟨ad3, hA3, hu1⟩ := Kd.at_int HC5.out 1 (by omega) (by omega)
              subst hA2
              obtain rfl : ad2 = ad3 := by injection hA3
              rw [show (0 : Int).toNat = 0 from rfl, Addr.add_zero', show rd [(ux : Int), (vy : Int)] 0 = (ux : Int) from rfl] at hu0
              rw [show rd [(ux : Int), (vy : Int)] 1 = (vy : Int) from rfl] at hu1
              simp only [show (1 : Int).toNat = 1 from rfl, Nat.reduceMul, Nat.reduceEqDiff, Go.Addr.add, ↓reduceIte] at hu1
              have hs52 : w5.cell? ⟨sb, 2, none⟩ = some (.int .i64 (sg : Int)) := (blk_cell HSB5.out 2).trans rfl
              have HNE := am (show ad2.block ≠ G from fun e => by
               have z := HBS5.out ad2.block (by simp [Value.ownBlock])
               have z2 := Kd.R_lt HQ4.out.2.1.1 G (by simp [Value.ownBlock])
               omega)
              have HSG := am (show sb ≠ G from fun e => Kd.R_away HQ4.out.2.1.1 (fun k hk => hk.1.1) (by rw [e]; simp [Value.ownBlock]))
              have HQ6 := am (HQ5.out.below (below_drew1 (Below.refl _ _)))
              have HSB6 := am (show w5.drew.heap[sb]? = some (.cells #[.int .i64 (x : Int), .int .i64 (y : Int), .int .i64 (sg : Int)] 92 (0, 0)) from HSB5.out)
              have HU := am (show w5.drew.cell? ad2 = some (.int .i64 (ux : Int)) ∧ w5.drew.cell? { block := ad2.block, off := ad2.off + 1 } = some (.int .i64 (vy : Int)) ∧ w5.drew.cell? ⟨sb, 2, none⟩ = some (.int .i64 (sg : Int)) from ⟨hu0, hu1, hs52⟩)
              clear hu0 hu1 hs52 HQ5 HSB5 HC5 HBS5 HC4
              refine start_ (n := 13) (S := fun w' => w'.cell? ad2 = some (.int .i64 (ux : Int)) ∧ w'.cell? { block := ad2.block, off := ad2.off + 1 } = some (.int .i64 (vy : Int)) ∧ w'.cell? ⟨sb, 2, none⟩ = some (.int .i64 (sg : Int))) (ds := []) #[false, false, false, false, false, false, false, false, false, false, false, false, false] (by kernel_rfl) rfl rfl HU.out (fun hHeld => ?_); refine with_tabW impl_fewestTurns.tab23 impl_fewestTurns.bits23 (fun HT_ HW_ => ?_)
              generalize w5.drew = w6 at HQ6 HSB6 HU hHeld ⊢
              refine pu_ 0 86 (fl_ 13 1) HT_ ?_
              refine pu_ 1 87 (fl_ 13 3) HT_ ?_
              refine pu_ 2 88 (fl_ 13 7) HT_ ?_
              refine tk_ 3 89 (fl_ 13 15) HT_ HW_ hHeld ?_ (hy := by rintro w' ⟨s0, s1, s2⟩; go_simp; with_reducible rfl)
              refine pu_ 4 90 (fl_ 13 31) HT_ ?_
              refine pu_ 5 91 (fl_ 13 63) HT_ ?_
              refine tk_ 6 92 (fl_ 13 127) HT_ HW_ hHeld ?_ (hy := by rintro w' ⟨s0, s1, s2⟩; go_simp; with_reducible rfl)
              refine pu_ 7 93 (fl_ 13 255) HT_ ?_
              refine tk_ 8 94 (fl_ 13 511) HT_ HW_ hHeld ?_ (hy := by rintro w' ⟨s0, s1, s2⟩; go_simp; with_reducible rfl)
              refine pu_ 9 95 (fl_ 13 1023) HT_ ?_
              have HA7 := am (below_alloc (Below.refl w6.heap.size w6) (.cells #[.int .i64 (ux : Int), .int .i64 (vy : Int), .int .i64 (sg : Int)] 92))
              refine on_ 10 96 (fl_ 13 2047) HT_ fun K hK => ?_
              refine value_ (w1 := (w6.alloc (.cells #[.int .i64 (ux : Int), .int .i64 (vy : Int), .int .i64 (sg : Int)] 92))) (v := .slice (some ⟨w6.heap.size, 0, none⟩) 1 1) (by rfl) rfl ?_ ?_
              ·first | (go_simp; done)
              refine hK.out _ _ ⟨(HA7.out.cell (World.block_lt_of_cell? _ _ HU.out.1)).trans HU.out.1, (HA7.out.cell (World.block_lt_of_cell? _ _ HU.out.2.1)).trans HU.out.2.1, (HA7.out.cell (World.block_lt_of_cell? _ _ HU.out.2.2)).trans HU.out.2.2⟩ (fun hHeld => ?_)
              clear hK K
              refine nm_ 96 ?_
              have HSL := am (show sb < w6.heap.size from (Array.getElem?_eq_some_iff.1 HSB6.out).1)
              have HGL := am (show w1.heap.size < w6.heap.size from impl_fewestTurns.MapS.lt HQ6.out.1.1)
              have HXL := am (Kd.R_lt HQ6.out.2.1.2)
              have HQL := am HL.out.1
              refine on_ 11 97 (fl_ 13 4095) HT_ fun K hK => ?_
              refine Kd.R_append_step impl_fewestTurns.K (w0 := w) w.heap.size (by rfl) (.tmp 86) (.tmp 96) 90 92 (.agg #[.int .i64 0, .int .i64 0, .int .i64 0]) 24 rfl Try.underlying90 HI.out rfl (by decide) (by omega) (.slice (some ⟨G, 0, none⟩) q.length C0) q (ux, vy, sg) (impl_fewestTurns.cells (ux, vy, sg)) (fun k => (¬ (k = sb) ∧ k ≠ w1.heap.size) ∧ some k ≠ (Value.slice AX nx.length CX).ownBlock) (fun _ => False) rfl ?aX ?aP (fun _ hk => hk.elim) ?aF ?aO ?aB ?aS ?aL ?_
              case aX => first | rfl
              case aP => exact rfl
              case aF => exact (fun k hk => by have := HSL.out; have := HGL.out; exact ⟨⟨by omega, by omega⟩, fun e => by have := HXL.out k e.symm; omega⟩)
              case aO => exact HQ6.out.2.1.1
              case aB => exact HQ6.out.2.2.1
              case aS => exact HQ6.out.2.2.1.size
              case aL => (have := HQL.out; omega)
              intro v8 w8 hr8 hb8 hg8 hat8
              have HQ8 := am (HQ6.out.growQ hr8 hb8 hg8 hat8)
              have HSB8 := am ((hg8.block sb HSL.out (fun e => HSG.out (by simpa [Value.ownBlock] using e))).trans HSB6.out)
              have hn2 : some ad2.block ≠ (Value.slice (some (⟨G, 0, none⟩ : Addr)) q.length C0).ownBlock := fun e => HNE.out (by simpa [Value.ownBlock] using e)
              have hU8 : w8.cell? ad2 = some (.int .i64 (ux : Int)) ∧ w8.cell? { block := ad2.block, off := ad2.off + 1 } = some (.int .i64 (vy : Int)) ∧ w8.cell? ⟨sb, 2, none⟩ = some (.int .i64 (sg : Int)) := ⟨(World.cell?_of_block (w := w6) (hg8.block ad2.block (World.block_lt_of_cell? _ _ HU.out.1) hn2)).trans HU.out.1, (World.cell?_of_block (w := w6) (a := { block := ad2.block, off := ad2.off + 1 }) (hg8.block ad2.block (World.block_lt_of_cell? _ _ HU.out.1) hn2)).trans HU.out.2.1, (blk_cell HSB8.out 2).trans rfl⟩
              clear hr8 hb8 hg8 hat8 hn2
              refine hK.out _ _ hU8 (fun hHeld => ?_)
              clear hK K
              refine nm_ 97 ?_
              refine pu_ 12 10 (fl_ 13 8191) HT_ ?_
              refine done_ (done_of HT_.out (by kernel_rfl)) ?_
              clear hHeld HT_ HW_
              go_wp2
              go_meet
              case rel => exact ⟨⟨by have z := HQ8.out; rw [← HMV.out] at z; first | (rw [if_pos trivial]; exact z)⟩, HSB8⟩
            case rest =>
             clear HQ4 HSB4 HR4
             obtain ⟨HQ5, HSB5⟩ := hcut
             have h := HR2.out
             rw [← HCN.out] at h
             have HR3 := am h
             clear h HR2
             obtain ⟨q', hq'⟩ : ∃ q', q' = (if cn = true then q ++ [impl_fewestTurns.mv (x, y, sg)] else q) := ⟨_, rfl⟩
             have HVq := am (show ∀ z ∈ q', z.1 < t.size ∧ z.2.1 < s.size ∧ z.2.2 < 4 from by
              rw [hq']
              cases cn with
              | false => rw [if_neg (by simp)]; exact HV.out
              | true =>
               rw [if_pos rfl]
               intro z hz
               rcases List.mem_append.1 hz with hz | hz
               ·exact HV.out z hz
               ·obtain rfl := List.mem_singleton.1 hz
                have z := HCN.out.symm
                unfold impl_driveIn.can at z
                rw [Bool.and_eq_true] at z
                have z1 := of_decide_eq_true z.1
                have := HVi.out
                refine ⟨?_, ?_, this.2.2⟩
                ·show ((x : Int) + impl_driveIn.dx sg).toNat < t.size
                 omega
                ·show ((y : Int) + impl_driveIn.dy sg).toNat < s.size
                 omega)
             rw [← hq'] at HQ5 HR3
             have HLX := am HL.out.2.1
             clear hq' HV HCN HK2 HQ2 HSB2 HROW HB3 hs20 hs21 hs22 hs32 hput hlk hs0 hs1 hs2
             obtain ⟨AQ, CQ, eQ⟩ := Kd.R_slice HQ5.out.2.1.1
             subst eQ
             obtain ⟨it, hit0⟩ : ∃ it, it = wc.heap.size := ⟨_, rfl⟩
             have HS0 := am (show impl_fewestTurns.St w (wc.iter ⟨#[101, 110, 115, 119]⟩ 0) w1.heap.size p s t (fun k => k = sb ∨ k = it) (.slice AQ q'.length CQ) (.slice AX nx.length CX) q' (nx ++ impl_fewestTurns.tk (x, y, sg) 0) ((x, y, sg) :: seen) by
              rw [show nx ++ impl_fewestTurns.tk (x, y, sg) 0 = nx by simp [impl_fewestTurns.tk]]
              exact (HQ5.out.more it (by omega)).below (below_alloc (Below.refl _ _) _))
             have HSBi := am (show (wc.iter ⟨#[101, 110, 115, 119]⟩ 0).heap[sb]? = some (.cells #[.int .i64 (x : Int), .int .i64 (y : Int), .int .i64 (sg : Int)] 92 (0, 0)) from blk_alloc HSB5.out _)
             have HIT0 := am (show (wc.iter ⟨#[101, 110, 115, 119]⟩ 0).heap[it]? = some (.stringIter ⟨#[101, 110, 115, 119]⟩ 0) by rw [hit0]; exact World.iter_heap _ _ _)
             have HLEi := am (show w.heap.size ≤ it by have := HQ5.out.2.2.1.size; omega)
             clear HQ5 HSB5
             go_wp2
             rw [← hit0]
             clear hit0
             go_loopw [13] (fun X wi => ∃ m : Nat, m ≤ 4 ∧ wi.heap[it]? = some (.stringIter ⟨#[101, 110, 115, 119]⟩ m) ∧ Aside0 (wi.heap[sb]? = some (.cells #[.int .i64 (x : Int), .int .i64 (y : Int), .int .i64 (sg : Int)] 92 (0, 0))) ∧ Aside0 (impl_fewestTurns.St w wi w1.heap.size p s t (fun k => k = sb ∨ k = it) (.slice AQ q'.length CQ) X q' (nx ++ impl_fewestTurns.tk (x, y, sg) m) ((x, y, sg) :: seen))) (fun _ wi => 4 - wi.iterPos it)
             case atStart => exact ⟨0, by omega, HIT0.out, HSBi, HS0⟩
             case round =>
              clear HS0 HSBi HIT0
              obtain ⟨m, hm, hit, HSB, HQ⟩ := hrel
              by_cases hm4 : m < 4
              ·have hnx : ∀ ty, (Instr.next (.pointer (some ⟨it, 0, none⟩)) true ty).run Try.prog wr = _ := fun ty => Go.Lib.run_next_any_at wr it ⟨#[101, 110, 115, 119]⟩ m ty hit hm4
               have hit1 := am (Go.Lib.iterAt_heap wr it ⟨#[101, 110, 115, 119]⟩ m (m + 1) hit)
               have HIT := am hit
               have HM4 := am hm4
               have hsi : sb ≠ it := fun e => by
                have z := HSB.out
                rw [e, hit] at z
                simp at z
               have HSB1 := am (show (wr.iterAt it ⟨#[101, 110, 115, 119]⟩ (m + 1)).heap[sb]? = some (.cells #[.int .i64 (x : Int), .int .i64 (y : Int), .int .i64 (sg : Int)] 92 (0, 0)) from (Go.Lib.iterAt_other _ _ _ _ _ hsi).trans HSB.out)
               have HQ1 := am (HQ.out.iter it (.inr rfl) ⟨#[101, 110, 115, 119]⟩ m (m + 1) hit HLEi.out)
               rw [impl_fewestTurns.wid m hm4] at hnx
               obtain ⟨AX2, CX2, eX2⟩ := Kd.R_slice HQ1.out.2.1.2
               subst eX2
               have hc0 : (wr.iterAt it ⟨#[101, 110, 115, 119]⟩ (m + 1)).cell? ⟨sb, 0, none⟩ = some (.int .i64 (x : Int)) := (blk_cell HSB1.out 0).trans rfl
               have hc1 : (wr.iterAt it ⟨#[101, 110, 115, 119]⟩ (m + 1)).cell? ⟨sb, 1, none⟩ = some (.int .i64 (y : Int)) := (blk_cell HSB1.out 1).trans rfl
               have hc2 : (wr.iterAt it ⟨#[101, 110, 115, 119]⟩ (m + 1)).cell? ⟨sb, 2, none⟩ = some (.int .i64 (sg : Int)) := (blk_cell HSB1.out 2).trans rfl
               have em : IntKind.i64.wrap (3 - (sg : Int)) = ((3 - sg : Nat) : Int) := (i64_w _).trans (by have := HVi.out; unfold wrap64; omega)
               clear hit HQ HSB hsi hm4
               by_cases e1 : m = sg
               ·have q1 : ((m : Int) != (sg : Int)) = false := bne_eq_false_iff_eq.2 (by omega)
                have HT := am (show impl_fewestTurns.tk (x, y, sg) (m + 1) = impl_fewestTurns.tk (x, y, sg) m by rw [impl_fewestTurns.tk_succ, if_neg (fun h => h.1 e1)])
                clear e1
                go_wp2
                go_roundw
                case rel => exact ⟨m + 1, by have := HM4.out; omega, hit1.out, HSB1, ⟨by rw [HT.out]; exact HQ1.out⟩⟩
                case measure => rw [impl_fewestTurns.ipos hit1.out, impl_fewestTurns.ipos HIT.out]; have := HM4.out; omega
               ·have q1 : ((m : Int) != (sg : Int)) = true := bne_iff_ne.2 (by omega)
                by_cases e2 : m = 3 - sg
                ·have q2 : ((m : Int) != ((3 - sg : Nat) : Int)) = false := bne_eq_false_iff_eq.2 (by omega)
                 have HT := am (show impl_fewestTurns.tk (x, y, sg) (m + 1) = impl_fewestTurns.tk (x, y, sg) m by rw [impl_fewestTurns.tk_succ, if_neg (fun h => h.2 e2)])
                 clear e1 e2
                 go_wp2
                 go_roundw
                 case rel => exact ⟨m + 1, by have := HM4.out; omega, hit1.out, HSB1, ⟨by rw [HT.out]; exact HQ1.out⟩⟩
                 case measure => rw [impl_fewestTurns.ipos hit1.out, impl_fewestTurns.ipos HIT.out]; have := HM4.out; omega
                ·have q2 : ((m : Int) != ((3 - sg : Nat) : Int)) = true := bne_iff_ne.2 (by omega)
                 have HT := am (show nx ++ impl_fewestTurns.tk (x, y, sg) (m + 1) = (nx ++ impl_fewestTurns.tk (x, y, sg) m) ++ [(x, y, m)] by rw [impl_fewestTurns.tk_succ, if_pos ⟨e1, e2⟩, List.append_assoc])
                 have HSL := am (show sb < (wr.iterAt it ⟨#[101, 110, 115, 119]⟩ (m + 1)).heap.size from (Array.getElem?_eq_some_iff.1 HSB1.out).1)
                 have HIL := am (show it < (wr.iterAt it ⟨#[101, 110, 115, 119]⟩ (m + 1)).heap.size from (Array.getElem?_eq_some_iff.1 hit1.out).1)
                 have HGL := am (impl_fewestTurns.MapS.lt HQ1.out.1.1)
                 have HQLt := am (Kd.R_lt HQ1.out.2.1.1)
                 have HTL := am (show (nx ++ impl_fewestTurns.tk (x, y, sg) m).length ≤ 2000 by
                  have z1 := HLX.out
                  have z2 : (impl_fewestTurns.tk (x, y, sg) m).length ≤ m := by
                   unfold impl_fewestTurns.tk
                   rw [List.length_map]
                   exact Nat.le_trans (List.length_filter_le _ _) (by simp)
                  have := HM4.out
                  rw [List.length_append]
                  omega)
                 clear e1 e2
                 go_wp2_with ((with_reducible refine gate_builtin (b := .append) (xs := #[.tmp 113, .tmp 120]) rfl ?_); at_builtin; refine Kd.R_append impl_fewestTurns.K (w0 := w) w.heap.size rfl (.tmp 113) (.tmp 120) 90 92 (.agg #[.int .i64 0, .int .i64 0, .int .i64 0]) 24 rfl Try.underlying90 HI.out rfl (by decide) (by omega) (.slice AX2 (nx ++ impl_fewestTurns.tk (x, y, sg) m).length CX2) (nx ++ impl_fewestTurns.tk (x, y, sg) m) (x, y, m) (impl_fewestTurns.cells (x, y, m)) (fun k => (¬ (k = sb ∨ k = it) ∧ k ≠ w1.heap.size) ∧ some k ≠ (Value.slice AQ q'.length CQ).ownBlock) (fun _ => False) rfl ?aX ?aP (fun _ hk => hk.elim) ?aF ?aO ?aB ?aS ?aL ?_; (case aX => rfl); (case aP => exact rfl); (case aF => exact (fun k hk => by have := HSL.out; have := HIL.out; have := HGL.out; exact ⟨⟨fun e => by omega, by omega⟩, fun e => by have := HQLt.out k e.symm; omega⟩)); (case aO => exact HQ1.out.2.1.2); (case aB => exact HQ1.out.2.2.1); (case aS => exact HQ1.out.2.2.1.size); (case aL => (have := HTL.out; omega)); intro v6 w6 hr6 hb6 hg6 hat6; have HQ6 := am (HQ1.out.growX hr6 hb6 hg6 hat6); have hit6 := am ((hg6.block _ HIL.out (Kd.R_away HQ1.out.2.1.2 (fun k hk e => hk.1.1 (.inr e)))).trans hit1.out); have HSB6 := am ((hg6.block _ HSL.out (Kd.R_away HQ1.out.2.1.2 (fun k hk e => hk.1.1 (.inl e)))).trans HSB1.out); clear hr6 hb6 hg6 hat6)
                 go_roundw
                 case rel => exact ⟨m + 1, by have := HM4.out; omega, hit6.out, HSB6, ⟨by rw [HT.out]; exact HQ6.out⟩⟩
                 case measure => rw [impl_fewestTurns.ipos hit6.out, impl_fewestTurns.ipos HIT.out]; have := HM4.out; omega
              ·obtain rfl : m = 4 := by omega
               have hnx : ∀ ty, (Instr.next (.pointer (some ⟨it, 0, none⟩)) true ty).run Try.prog wr = _ := fun ty => Go.Lib.run_next_end_at wr it ⟨#[101, 110, 115, 119]⟩ 4 ty hit (by decide)
               clear hit hm hm4
               go_wp2
               clear hnx
               rw [show wrap64 ((i : Int) + 1) = ((i + 1 : Nat) : Int) by have := HL.out; have := (List.getElem?_eq_some_iff.1 HX.out).1; unfold wrap64; omega]
               go_roundg k2
               case measure => have := HKi.out; omega
               case rel => exact ⟨i + 1, q', nx ++ impl_fewestTurns.tk (x, y, sg) 4, (x, y, sg) :: seen, rfl, HR3, ⟨by have := HKi.out; omega⟩, ⟨HQ.out.less (fun _ e => e.elim)⟩, HVq, ⟨fun z hz => by
                rcases List.mem_append.1 hz with hz | hz
                ·exact HVx.out z hz
                ·unfold impl_fewestTurns.tk at hz
                 simp only [List.mem_map, List.mem_filter, List.mem_range] at hz
                 obtain ⟨n', ⟨hn', -⟩, rfl⟩ := hz
                 exact ⟨HVi.out.1, HVi.out.2.1, hn'⟩⟩⟩
        ·obtain rfl : i = q.length := by omega
         rw [List.getElem?_eq_none (Nat.le_refl _)] at h
         obtain ⟨rfl, rfl, rfl⟩ : fd = false ∧ sn = seen ∧ nxs = nx := by
          have z := Option.some.inj h
          exact ⟨(Prod.mk.inj z).1.symm, (Prod.mk.inj (Prod.mk.inj z).2).1.symm, (Prod.mk.inj (Prod.mk.inj z).2).2.symm⟩
         have hi1 : decide ((q.length : Int) < (q.length : Int)) = false := decide_eq_false (by omega)
         clear h c1 c2 c3 c4 hi
         have h2 := H2.out
         rw [if_neg (by simp)] at h2
         have HR2 := am h2
         have ew : wrap64 ((n : Int) + 1) = ((n + 1 : Nat) : Int) := by have := HN.out; unfold wrap64; omega
         have HW := am ew
         clear h2 ew
         go_wp2
         rw [HW.out]
         go_roundg k1
         case measure => have := HK.out; omega
         case rel => exact ⟨n + 1, nxs, sn, rfl, HR2, ⟨by have := HK.out; omega⟩, ⟨HQ.out.turn⟩, HVx⟩
theorem impl_fewestTurns.lvl_mono (s a : ByteArray) (b : Nat × Nat) : ∀ (k : Nat) (q : List (Nat × Nat × Nat)) (i : Nat) (seen nx : List (Nat × Nat × Nat)), LeO (impl_fewestTurns.lvl s a b k q i seen nx) (impl_fewestTurns.lvl s a b (k + 1) q i seen nx)
 | 0, _, _, _, _ => fun r h => by simp [impl_fewestTurns.lvl] at h
 | k + 1, q, i, seen, nx => by
  have ih := impl_fewestTurns.lvl_mono s a b k
  unfold impl_fewestTurns.lvl
  refine LeO.ite ?_ (LeO.refl _)
  cases q[i]? with
  | none => exact LeO.refl _
  | some p => exact LeO.ite (LeO.refl _) (LeO.ite (ih _ _ _ _) (ih _ _ _ _))
theorem impl_fewestTurns.calls (k : Nat) (a0_0 a0_1 : ByteArray) (A1 : Option Addr) (c1 : Nat) (l1 : List Int) (A2 : Option Addr) (c2 : Nat) (l2 : List Int) (r1 : Int) (r2 : Bool) (w : World) (hr1 : Kd.C (Kd.int .i64) w A1 l1.length l1) (hc1 : l1.length ≤ c1) (hr2 : Kd.C (Kd.int .i64) w A2 l2.length l2) (hc2 : l2.length ≤ c2) (h : impl_fewestTurns.f k a0_0 a0_1 l1 l2 = some (r1, r2)) :
  Calls Try.prog 39 #[.agg #[.string a0_0, .string a0_1], .slice A1 l1.length c1, .slice A2 l2.length c2] w fun e w' => e = .returned (.tuple #[.int .i64 r1, .bool r2]) ∧ Below w.heap.size w w' := by
 unfold impl_fewestTurns.f at h
 by_cases c : impl_driveIn.Sized a0_0 a0_1 ∧ (l1.length = 2 ∧ impl_driveIn.At a0_0 a0_1 (rd l1 0) (rd l1 1)) ∧ (l2.length = 2 ∧ impl_driveIn.At a0_0 a0_1 (rd l2 0) (rd l2 1))
 case neg => rw [if_neg c] at h; cases h
 rw [if_pos c] at h
 obtain ⟨hS, ⟨e1, ⟨x0, x1⟩, y0, y1⟩, e2, ⟨u0, u1⟩, v0, v1⟩ := c
 match l1, e1, l2, e2 with
 | [p, q], _, [m, n], _ =>
  have ep : rd [p, q] 0 = p := rfl
  have eq : rd [p, q] 1 = q := rfl
  have em : rd [m, n] 0 = m := rfl
  have en : rd [m, n] 1 = n := rfl
  rw [ep] at x0 x1 h
  rw [eq] at y0 y1 h
  rw [em] at u0 u1 h
  rw [en] at v0 v1 h
  obtain ⟨p, rfl⟩ := Int.eq_ofNat_of_zero_le x0
  obtain ⟨q, rfl⟩ := Int.eq_ofNat_of_zero_le y0
  obtain ⟨m, rfl⟩ := Int.eq_ofNat_of_zero_le u0
  obtain ⟨n, rfl⟩ := Int.eq_ofNat_of_zero_le v0
  simp only [Int.toNat_natCast] at h
  exact impl_fewestTurns.walk k a0_0 a0_1 hS A1 c1 p q A2 c2 m n w hr1 hc1 (by omega) (by omega) hr2 hc2 r1 r2 h
end Go.Proofs.Ytdhdkkhbgfcoiaa.MX
