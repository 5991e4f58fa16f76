/- Drives are driven as told, sign by sign; there and back are two drives; turns are those of words; no word has fewer turns than the fewest. -/
import Derived.Test.YtdhdkkhbgfcoiaaMXx23
import Derived.Test.YtdhdkkhbgfcoiaaLib
import Derived.Laws.BitsAllLaws
import Derived.Test.YtdhdkkhbgfcoiaaBfs
namespace Go.Proofs.Ytdhdkkhbgfcoiaa.Pure
open Go.RowKit Go.Proofs.Ytdhdkkhbgfcoiaa.MX Go.Proofs.YtdhdkkhbgfcoiaaW.PrintWords Go.Proofs.YtdhdkkhbgfcoiaaW.PrintLast Go.Proofs.YtdhdkkhbgfcoiaaW.PrintMore Go.Proofs.Ytdhdkkhbgfcoiaa.Lib
set_option linter.unusedVariables false
set_option linter.unusedSimpArgs false
theorem spec_in (a b c : Int) : spec_l1In.f a b c = some (decide (b ≤ a ∧ a ≤ c)) := by
 unfold spec_l1In.f
 by_cases h : a ≥ b
 ·rw [if_pos h]; simp [show b ≤ a from h]
 ·rw [if_neg h]; simp [show ¬ b ≤ a from h]
theorem impl_in (a b c : Int) : impl_within.f a b c = some (decide (b ≤ a ∧ a ≤ c)) := by
 unfold impl_within.f
 by_cases h : a ≥ b
 ·rw [if_pos h]; simp [show b ≤ a from h]
 ·rw [if_neg h]; simp [show ¬ b ≤ a from h]
def Signs (s : ByteArray) (a b : Int) (i : Nat) : Prop := ∀ j : Nat, i ≤ j → j < s.size → bt s j = a ∨ bt s j = b
theorem signs_end (s : ByteArray) (a b : Int) : Signs s a b s.size := fun j h1 h2 => by omega
theorem signs_step (s : ByteArray) (a b : Int) (i : Nat) (hi : i < s.size) : Signs s a b i ↔ (bt s i = a ∨ bt s i = b) ∧ Signs s a b (i + 1) := by
 constructor
 ·intro g; exact ⟨g i (Nat.le_refl _) hi, fun j h1 h2 => g j (by omega) h2⟩
 ·rintro ⟨g, r⟩ j h1 h2
  by_cases e : j = i
  ·subst e; exact g
  ·exact r j (by omega) h2
def Way (s : ByteArray) (a b : Int) : Prop := (2 ≤ s.size ∧ s.size ≤ 8) ∧ Signs s a b 0
def Good (s t : ByteArray) : Prop := Way s 101 119 ∧ Way t 110 115
open Classical in
noncomputable def good (s t : ByteArray) : Bool := decide (Good s t)
theorem good_iff (s t : ByteArray) : good s t = true ↔ Good s t := by unfold good; simp
open Classical in
theorem spec_owText_l0 (s : ByteArray) (a b : Int) (hs : s.size ≤ 9223372036854775807) : ∀ i : Nat, i ≤ s.size → Ev (fun k => spec_owText.l0 k s a b i) (decide (Signs s a b i)) := by
 refine down s.size ?_ ?_
 ·refine succ ?_
  simp only [spec_owText.l0]
  exact neg (by omega) (conv (now _) (by simp [signs_end]))
 ·intro i hi ih
  refine succ ?_
  simp only [spec_owText.l0]
  rw [wnat (by omega)]
  refine pos (by omega) (pos (by omega) ?_)
  by_cases c1 : bt s i = a
  ·exact pos c1 (conv ih (by rw [decide_eq_decide, signs_step s a b i hi]; exact ⟨fun g => ⟨.inl c1, g⟩, fun g => g.2⟩))
  ·refine neg c1 ?_
   by_cases c2 : bt s i = b
   ·exact pos c2 (conv ih (by rw [decide_eq_decide, signs_step s a b i hi]; exact ⟨fun g => ⟨.inr c2, g⟩, fun g => g.2⟩))
   ·exact neg c2 (conv (now _) (Eq.symm (decide_eq_false (by rw [signs_step s a b i hi]; exact fun g => g.1.elim c1 c2))))
open Classical in
theorem spec_owText_f (s : ByteArray) (a b : Int) (hs : s.size ≤ 9223372036854775807) : Ev (fun k => spec_owText.f k s a b) (decide (Way s a b)) := by
 unfold spec_owText.f
 simp only [spec_in, Option.bind_some]
 by_cases c : 2 ≤ (s.size : Int) ∧ (s.size : Int) ≤ 8
 ·refine pos (by simpa using c) (conv (spec_owText_l0 s a b hs 0 (by omega)) ?_)
  rw [decide_eq_decide]
  exact ⟨fun g => ⟨by omega, g⟩, fun g => g.2⟩
 ·exact neg (by simpa using c) (conv (now _) (Eq.symm (decide_eq_false (fun g => c (by have := g.1; omega)))))
open Classical in
theorem spec_owGood_f (s t : ByteArray) (hs : s.size ≤ 9223372036854775807) (ht : t.size ≤ 9223372036854775807) : Ev (fun k => spec_owGood.f k s t) (good s t) := by
 unfold spec_owGood.f
 refine bind (spec_owText_f s _ _ hs) ?_
 by_cases c : Way s 101 119
 ·refine pos (by simpa using c) (conv (bind (spec_owText_f t _ _ ht) (now _)) ?_)
  unfold good Good
  rw [decide_eq_decide]
  exact ⟨fun g => ⟨c, g⟩, fun g => g.2⟩
 ·refine neg (by simpa using c) (conv (now _) ?_)
  exact Eq.symm (decide_eq_false (fun g => c g.1))
theorem indexByte_two (a b : UInt8) (x : Int) (h0 : 0 ≤ x) (h1 : x ≤ 255) : Go.Lib.indexByte [a, b] x.toNat.toUInt8 < 0 ↔ ¬ (x = (a.toNat : Int) ∨ x = (b.toNat : Int)) := by
 have hx : x.toNat.toUInt8.toNat = x.toNat := by simp; omega
 have ea : (a == x.toNat.toUInt8) = decide (x = (a.toNat : Int)) := by
  rw [Bool.eq_iff_iff, beq_iff_eq, decide_eq_true_eq, ← UInt8.toNat_inj, hx]; omega
 have eb : (b == x.toNat.toUInt8) = decide (x = (b.toNat : Int)) := by
  rw [Bool.eq_iff_iff, beq_iff_eq, decide_eq_true_eq, ← UInt8.toNat_inj, hx]; omega
 simp only [Go.Lib.indexByte, ea, eb]
 by_cases c1 : x = (a.toNat : Int)
 ·rw [if_pos (by simpa using c1)]
  simp [c1]
 ·rw [if_neg (by simpa using c1)]
  by_cases c2 : x = (b.toNat : Int)
  ·have e : decide (x = (b.toNat : Int)) = true := by simpa using c2
   rw [e]
   simp [c2]
  ·have e : decide (x = (b.toNat : Int)) = false := by simpa using c2
   rw [e]
   simp [c1, c2]
open Classical in
theorem impl_areSigns_l0 (s : ByteArray) (a b : UInt8) (hs : s.size ≤ 9223372036854775807) : ∀ i : Nat, i ≤ s.size → Ev (fun k => impl_areSigns.l0 k s ⟨#[a, b]⟩ s.size i) (decide (Signs s a.toNat b.toNat i ∧ 2 ≤ s.size ∧ s.size ≤ 8)) := by
 refine down s.size ?_ ?_
 ·refine succ ?_
  simp only [impl_areSigns.l0, impl_in, Option.bind_some]
  refine neg (by omega) (conv (now _) ?_)
  rw [decide_eq_decide]
  exact ⟨fun g => ⟨signs_end _ _ _, by omega⟩, fun g => by have := g.2; omega⟩
 ·intro i hi ih
  refine succ ?_
  simp only [impl_areSigns.l0, strings_IndexByte.f, Option.bind_some]
  rw [wnat (by omega)]
  refine pos (by omega) (pos (by omega) (pos (by omega) ?_))
  have hr := bt_range s i
  have e := indexByte_two a b (bt s i) hr.1 hr.2
  by_cases c : bt s i = (a.toNat : Int) ∨ bt s i = (b.toNat : Int)
  ·refine neg (fun g => e.1 g c) (conv ih ?_)
   rw [decide_eq_decide, signs_step s _ _ i hi]
   exact ⟨fun g => ⟨⟨c, g.1⟩, g.2⟩, fun g => ⟨g.1.2, g.2⟩⟩
  ·refine pos (e.2 c) (conv (now _) (Eq.symm (decide_eq_false ?_)))
   rw [signs_step s _ _ i hi]
   exact fun g => c g.1.1
open Classical in
theorem impl_areSigns_f (s : ByteArray) (a b : UInt8) (hs : s.size ≤ 9223372036854775807) : Ev (fun k => impl_areSigns.f k s ⟨#[a, b]⟩) (decide (Way s a.toNat b.toNat)) := by
 unfold impl_areSigns.f
 refine conv (impl_areSigns_l0 s a b hs 0 (by omega)) ?_
 rw [decide_eq_decide]
 exact ⟨fun g => ⟨g.2, g.1⟩, fun g => ⟨g.2, g.1⟩⟩
open Classical in
theorem impl_AreWays_f (s t : ByteArray) (hs : s.size ≤ 9223372036854775807) (ht : t.size ≤ 9223372036854775807) : Ev (fun k => impl_AreWays.f k s t) (good s t) := by
 unfold impl_AreWays.f
 refine bind (impl_areSigns_f s 101 119 hs) ?_
 by_cases c : Way s 101 119
 ·refine pos (by simpa using c) (conv (bind (impl_areSigns_f t 110 115 ht) (now _)) ?_)
  unfold good Good
  rw [decide_eq_decide]
  exact ⟨fun g => ⟨c, g⟩, fun g => g.2⟩
 ·refine neg (by simpa using c) (conv (now _) ?_)
  exact Eq.symm (decide_eq_false (fun g => c g.1))
theorem flat_len (W H : Nat) (d : Nat × Nat → Int) : (spec_owFar.flat W H d).length = W * H := by simp [spec_owFar.flat]
theorem tab_len (W H : Nat) (d : Nat × Nat → Int) : (impl_distancesBy.tab W H d).length = W := by simp [impl_distancesBy.tab]
def InC (s t : ByteArray) (p : Nat × Nat) : Prop := p.1 < t.size ∧ p.2 < s.size
theorem stp_some {back : Bool} {s t : ByteArray} {p : Nat × Nat} {n : Nat} {c : Nat × Nat} (h : impl_distancesBy.stp back s t p n = some c) :
  (c.1 : Int) = (p.1 : Int) + impl_driveIn.dx n ∧ (c.2 : Int) = (p.2 : Int) + impl_driveIn.dy n ∧ InC s t c ∧ (if back = true then impl_driveIn.can s t ((p.1 : Int) + impl_driveIn.dx n) ((p.2 : Int) + impl_driveIn.dy n) (3 - n) else impl_driveIn.can s t p.1 p.2 n) = true := by
 unfold impl_distancesBy.stp at h
 obtain ⟨⟨h0, h1⟩, h2⟩ := Option.ite_none_right_eq_some.1 h
 injection h2 with h2
 subst h2
 refine ⟨Int.toNat_of_nonneg h0.1.1, Int.toNat_of_nonneg h0.2.1, ⟨?_, ?_⟩, h1⟩
 ·show (Int.toNat _) < _
  omega
 ·show (Int.toNat _) < _
  omega
theorem far_ex (back : Bool) (s t : ByteArray) (hs : s.size ≤ 8) (ht : t.size ≤ 8) (a : Nat × Nat) (ha : InC s t a) : Far (Leads (impl_distancesBy.stp back s t)) a (impl_distancesBy.dist back s t a) ∧ (∀ c, 0 ≤ impl_distancesBy.dist back s t a c → InC s t c) ∧ ∀ c, impl_distancesBy.dist back s t a c ≤ 64 := by
 obtain ⟨d, h1, h2, h3⟩ := Bfs.run (st := impl_distancesBy.stp back s t) (a := a) (InC s t) ha (fun p n c _ h => (stp_some h).2.2.1) (fun p => p.1 * 8 + p.2) 64 (fun x y hx hy e => Prod.ext (by have := hx.2; have := hy.2; have e' : x.1 * 8 + x.2 = y.1 * 8 + y.2 := e; omega) (by have := hx.2; have := hy.2; have e' : x.1 * 8 + x.2 = y.1 * 8 + y.2 := e; omega)) (fun x hx => by have := hx.1; have := hx.2; show x.1 * 8 + x.2 < 64; omega)
 have e : impl_distancesBy.dist back s t a = d := h1.the _ (fun p hp => impl_distancesBy.mem_nodes (h2 p hp)) 64 h3
 rw [e]
 exact ⟨h1, h2, h3⟩
theorem far_in {α : Type} {E : α → α → Prop} {a : α} {d : α → Int} (h : Far E a d) (V : α → Prop) (hV : ∀ c, 0 ≤ d c → V c) : Far (fun x y => V x ∧ V y ∧ E x y) a d :=
 ⟨h.zero, h.low, fun c c' z e => h.next c c' z e.2.2, fun c z n => by
  obtain ⟨k, p, hp, hd⟩ := h.back c z n
  exact ⟨k, p, ⟨hV p (by omega), hV c z, hp⟩, hd⟩⟩
theorem dx_turn (n : Nat) (h : n < 4) : impl_driveIn.dx (3 - n) = - impl_driveIn.dx n ∧ impl_driveIn.dy (3 - n) = - impl_driveIn.dy n := by
 have c : n = 0 ∨ n = 1 ∨ n = 2 ∨ n = 3 := by omega
 rcases c with rfl | rfl | rfl | rfl <;> simp [impl_driveIn.dx, impl_driveIn.dy]
theorem leads_turn (s t : ByteArray) (back : Bool) (x y : Nat × Nat) (hx : InC s t x) (h : Leads (impl_distancesBy.stp back s t) x y) : Leads (impl_distancesBy.stp (!back) s t) y x := by
 obtain ⟨n, hn, hs⟩ := h
 obtain ⟨h1, h2, h3, h4⟩ := stp_some hs
 obtain ⟨d1, d2⟩ := dx_turn n hn
 refine ⟨3 - n, by omega, ?_⟩
 have e1 : (y.1 : Int) + impl_driveIn.dx (3 - n) = x.1 := by omega
 have e2 : (y.2 : Int) + impl_driveIn.dy (3 - n) = x.2 := by omega
 unfold impl_distancesBy.stp
 rw [e1, e2, if_pos]
 ·simp
 ·have := hx.1
  have := hx.2
  refine ⟨⟨⟨by omega, by omega⟩, by omega, by omega⟩, ?_⟩
  rw [show 3 - (3 - n) = n by omega]
  cases back with
  | false => simpa using h4
  | true =>
   rw [if_pos rfl, ← h1, ← h2] at h4
   simpa using h4
theorem dist_turn (s t : ByteArray) (hs : s.size ≤ 8) (ht : t.size ≤ 8) (a b : Nat × Nat) (ha : InC s t a) (hb : InC s t b) : impl_distancesBy.dist false s t a b = impl_distancesBy.dist true s t b a := by
 obtain ⟨h1, h2, -⟩ := far_ex false s t hs ht a ha
 obtain ⟨k1, k2, -⟩ := far_ex true s t hs ht b hb
 exact (far_in h1 _ h2).turn (far_in k1 _ k2) (fun x y => ⟨fun h => ⟨h.2.1, h.1, leads_turn s t false x y h.1 h.2.2⟩, fun h => ⟨h.2.1, h.1, leads_turn s t true y x h.1 h.2.2⟩⟩)
theorem flat_rd (W H : Nat) (d : Nat × Nat → Int) (x y : Nat) (hx : x < W) (hy : y < H) : rd (spec_owFar.flat W H d) ((x * H + y : Nat) : Int) = d (x, y) := by
 have hlt := spec_owFar.cd_lt H W x y hx hy
 rw [rd_lt _ _ (by rw [flat_len]; exact hlt)]
 simp only [spec_owFar.flat, List.getElem_map, List.getElem_range]
 rw [(spec_owFar.cd_div H x y hy).1, (spec_owFar.cd_div H x y hy).2]
theorem tab_row (W H : Nat) (d : Nat × Nat → Int) (x : Nat) (hx : x < W) : rd_L3 (impl_distancesBy.tab W H d) (x : Int) = (List.range H).map fun y => d (x, y) := by
 unfold rd_L3
 rw [Int.toNat_natCast, List.getD_eq_getElem?_getD, List.getElem?_eq_getElem (by rw [tab_len]; exact hx)]
 simp [impl_distancesBy.tab]
theorem tab_rd (W H : Nat) (d : Nat × Nat → Int) (x y : Nat) (hx : x < W) (hy : y < H) : rd (rd_L3 (impl_distancesBy.tab W H d) (x : Int)) (y : Int) = d (x, y) := by
 rw [tab_row W H d x hx, rd_lt _ _ (by simpa using hy)]
 simp
theorem signs_of {s t : ByteArray} (h : Good s t) : spec_owFar.Signs s t :=
 ⟨⟨⟨by have := h.2.1.1; omega, h.2.1.2⟩, by have := h.1.1.1; omega, h.1.1.2⟩, fun j hj => h.1.2 j (Nat.zero_le _) hj, fun j hj => h.2.2 j (Nat.zero_le _) hj⟩
def crn (xs : List Int) : Nat × Nat := ((rd xs 0).toNat, (rd xs 1).toNat)
theorem crn_in {s t : ByteArray} {xs : List Int} (h : impl_driveIn.At s t (rd xs 0) (rd xs 1)) : InC s t (crn xs) ∧ rd xs 0 = ((crn xs).1 : Int) ∧ rd xs 1 = ((crn xs).2 : Int) := by
 obtain ⟨⟨x0, x1⟩, y0, y1⟩ := h
 refine ⟨⟨?_, ?_⟩, (Int.toNat_of_nonneg x0).symm, (Int.toNat_of_nonneg y0).symm⟩
 ·show (rd xs 0).toNat < _
  omega
 ·show (rd xs 1).toNat < _
  omega
theorem owFar_some (s t : ByteArray) (hg : Good s t) (xs : List Int) (hl : xs.length = 2) (ha : impl_driveIn.At s t (rd xs 0) (rd xs 1)) : Ev (fun k => spec_owFar.f k s t xs) (spec_owFar.flat t.size s.size (impl_distancesBy.dist false s t (crn xs))) := by
 refine succ ?_
 simp only [spec_owFar.f]
 exact pos ⟨⟨signs_of hg, hl⟩, ha⟩ (now _)
theorem dists_some (s t : ByteArray) (hg : Good s t) (xs : List Int) (hl : xs.length = 2) (ha : impl_driveIn.At s t (rd xs 0) (rd xs 1)) (back : Bool) : Ev (fun k => impl_distancesBy.f k (t.size : Int) (s.size : Int) xs (s, t) back) (impl_distancesBy.tab t.size s.size (impl_distancesBy.dist back s t (crn xs))) := by
 refine succ ?_
 simp only [impl_distancesBy.f]
 exact pos ⟨⟨⟨trivial, trivial⟩, hl⟩, (signs_of hg).1, ha⟩ (now _)
theorem corner_iff (s t : ByteArray) (xs : List Int) : spec_owCorner.corner t.size s.size xs = true ↔ xs.length = 2 ∧ impl_driveIn.At s t (rd xs 0) (rd xs 1) := by
 simp only [spec_owCorner.corner, impl_driveIn.At, Bool.and_eq_true, decide_eq_true_eq]
 omega
theorem owDistance_f (s t : ByteArray) (hg : Good s t) (xs ys : List Int) (hx : xs.length = 2 ∧ impl_driveIn.At s t (rd xs 0) (rd xs 1)) (hy : ys.length = 2 ∧ impl_driveIn.At s t (rd ys 0) (rd ys 1)) : Ev (fun k => spec_owDistance.f k s t xs ys) (impl_distancesBy.dist false s t (crn xs) (crn ys)) := by
 unfold spec_owDistance.f
 obtain ⟨hi, e0, e1⟩ := crn_in hy.2
 refine bind (owFar_some s t hg xs hx.1 hx.2) (pos ⟨⟨⟨hy.1, (signs_of hg).1⟩, hy.2⟩, flat_len _ _ _⟩ (conv (now _) ?_))
 exact flat_rd _ _ _ _ _ hi.1 hi.2
theorem tab_getD (W H : Nat) (d : Nat × Nat → Int) (x : Nat) (hx : x < W) : (impl_distancesBy.tab W H d).getD x [] = (List.range H).map fun y => d (x, y) := by
 rw [List.getD_eq_getElem?_getD, List.getElem?_eq_getElem (by rw [tab_len]; exact hx)]
 simp [impl_distancesBy.tab]
theorem tab_val (s t : ByteArray) (hg : Good s t) (xs : List Int) (hx : xs.length = 2 ∧ impl_driveIn.At s t (rd xs 0) (rd xs 1)) (d : Nat × Nat → Int) : impl_DriveDistance.Q (impl_distancesBy.tab t.size s.size d) xs ∧ impl_DriveDistance.val (impl_distancesBy.tab t.size s.size d) xs = d (crn xs) := by
 obtain ⟨hi, e0, e1⟩ := crn_in hx.2
 obtain ⟨i1, i2⟩ := hi
 have z2 := hg.2.1
 have er : (impl_distancesBy.tab t.size s.size d).getD (rd xs 0).toNat [] = (List.range s.size).map fun y => d ((crn xs).1, y) := tab_getD _ _ _ _ i1
 refine ⟨⟨⟨hx.1, by rw [tab_len]; omega⟩, ⟨by omega, by rw [tab_len]; omega⟩, by omega, ?_⟩, ?_⟩
 ·rw [er, e1]
  simpa using i2
 ·unfold impl_DriveDistance.val
  rw [er, e1, rd_lt _ _ (by simpa using i2)]
  simp
theorem drivesTo_some (s t : ByteArray) (hg : Good s t) (xs : List Int) (hx : xs.length = 2 ∧ impl_driveIn.At s t (rd xs 0) (rd xs 1)) : Ev (fun k => impl_drivesTo.f k s t xs) (impl_distancesBy.tab t.size s.size (impl_distancesBy.dist true s t (crn xs))) := by
 unfold impl_drivesTo.f impl_driveIn.f
 exact bindSome rfl (bind (dists_some s t hg xs hx.1 hx.2 true) (now _))
theorem owAsked_f (s t : ByteArray) (xs ys : List Int) (hs : s.size ≤ 1048576) (ht : t.size ≤ 1048576) : Ev (fun k => spec_owAsked.f k s t xs ys) (good s t && (spec_owCorner.corner t.size s.size xs && spec_owCorner.corner t.size s.size ys)) := by
 unfold spec_owAsked.f spec_owCorner.f
 refine bind (spec_owGood_f s t (by omega) (by omega)) ?_
 by_cases g : good s t = true
 ·rw [g]
  refine pos rfl (bind (pos ⟨hs, ht⟩ (now _)) ?_)
  by_cases c : spec_owCorner.corner t.size s.size xs = true
  ·rw [c]
   exact pos rfl (bind (pos ⟨hs, ht⟩ (now _)) (now _))
  ·exact neg c (conv (now _) (by simp [c]))
 ·exact neg g (conv (now _) (by simp [g]))
theorem areDriven_f (s t : ByteArray) (l : List (List Int)) (hs : s.size ≤ 1048576) (ht : t.size ≤ 1048576) : Ev (fun k => impl_areDriven.f k s t l) (good s t && l.all (spec_owCorner.corner t.size s.size)) := by
 unfold impl_areDriven.f
 refine bind (impl_AreWays_f s t (by omega) (by omega)) ?_
 by_cases g : good s t = true
 ·have G := (good_iff s t).1 g
  have z1 := G.1.1
  have z2 := G.2.1
  rw [g]
  exact pos rfl (pos ⟨by omega, by omega⟩ (conv (now _) (by rw [Bool.true_and]; rfl)))
 ·exact neg g (conv (now _) (by simp [g]))
def axis (n : Nat) : Bool := decide (n = 0 ∨ n = 3)
inductive Dr (st : Nat × Nat → Nat → Option (Nat × Nat)) (a : Nat × Nat) : Nat → Nat × Nat → Bool → Prop
 | start (ax : Bool) : Dr st a 0 a ax
 | drive {n : Nat} {p q : Nat × Nat} {m : Nat} (h : Dr st a n p (axis m)) (hm : m < 4) (hs : st p m = some q) : Dr st a n q (axis m)
 | turn {n : Nat} {p : Nat × Nat} {ax : Bool} (h : Dr st a n p ax) : Dr st a (n + 1) p (!ax)
 | more {n : Nat} {p : Nat × Nat} {ax : Bool} (h : Dr st a n p ax) : Dr st a (n + 1) p ax
theorem Dr.up {st : Nat × Nat → Nat → Option (Nat × Nat)} {a : Nat × Nat} {n m : Nat} {p : Nat × Nat} {ax : Bool} (h : Dr st a n p ax) (hm : n ≤ m) : Dr st a m p ax := by
 induction hm with
 | refl => exact h
 | step _ ih => exact ih.more
def Cmp (st : Nat × Nat → Nat → Option (Nat × Nat)) (seen : List (Nat × Nat × Nat)) (p : Nat × Nat) (ax : Bool) : Prop :=
 (∃ m, m < 4 ∧ axis m = ax ∧ (p.1, p.2, m) ∈ seen) ∧ ∀ m r, m < 4 → axis m = ax → st p m = some r → (p.1, p.2, m) ∈ seen
structure Steps (W : Nat × Nat → Prop) (s t : ByteArray) (st : Nat × Nat → Nat → Option (Nat × Nat)) : Prop where
 small : ∀ p, W p → p.1 < 8 ∧ p.2 < 8
 stay : ∀ p m q, m < 4 → st p m = some q → W q
 one : ∀ p m q r n, W p → st p m = some q → st q n = some r → m < 4 → n < 4 → axis n = axis m → n = m
 can : ∀ p : Nat × Nat × Nat, W (p.1, p.2.1) → p.2.2 < 4 → st (p.1, p.2.1) p.2.2 = if impl_driveIn.can s t p.1 p.2.1 p.2.2 = true then some ((impl_fewestTurns.mv p).1, (impl_fewestTurns.mv p).2.1) else none
def Sta (W : Nat × Nat → Prop) (st : Nat × Nat → Nat → Option (Nat × Nat)) (a : Nat × Nat) (n : Nat) (p : Nat × Nat × Nat) : Prop := W (p.1, p.2.1) ∧ p.2.2 < 4 ∧ Dr st a n (p.1, p.2.1) (axis p.2.2)
theorem states_le {l : List (Nat × Nat × Nat)} (hn : l.Nodup) (h : ∀ p ∈ l, p.1 < 8 ∧ p.2.1 < 8 ∧ p.2.2 < 4) : l.length ≤ 256 := by
 have h1 : (l.map fun p => p.1 * 32 + p.2.1 * 4 + p.2.2).Nodup := by
  rw [List.Nodup, List.pairwise_map]
  refine hn.imp_of_mem (fun {x y} hx hy hxy e => hxy ?_)
  have := h x hx
  have := h y hy
  exact Prod.ext (by omega) (Prod.ext (by omega) (by omega))
 have h3 := nodup_le 256 _ h1 (fun v hv => by
  obtain ⟨p, hp, rfl⟩ := List.mem_map.1 hv
  have := h p hp
  omega)
 simpa using h3
theorem tk_mem {p : Nat × Nat × Nat} (hp : p.2.2 < 4) {r : Nat × Nat × Nat} : r ∈ impl_fewestTurns.tk p 4 ↔ ∃ m, m < 4 ∧ axis m = !axis p.2.2 ∧ r = (p.1, p.2.1, m) := by
 unfold impl_fewestTurns.tk
 simp only [List.mem_map, List.mem_filter, List.mem_range, decide_eq_true_eq]
 obtain ⟨x, y, n⟩ := p
 have c : n = 0 ∨ n = 1 ∨ n = 2 ∨ n = 3 := by simp only at hp; omega
 constructor
 ·rintro ⟨m, ⟨hm, h⟩, rfl⟩
  refine ⟨m, hm, ?_, rfl⟩
  have c' : m = 0 ∨ m = 1 ∨ m = 2 ∨ m = 3 := by omega
  rcases c with rfl | rfl | rfl | rfl <;> rcases c' with rfl | rfl | rfl | rfl <;> simp_all [axis]
 ·rintro ⟨m, hm, h, rfl⟩
  refine ⟨m, ⟨hm, ?_⟩, rfl⟩
  have c' : m = 0 ∨ m = 1 ∨ m = 2 ∨ m = 3 := by omega
  rcases c with rfl | rfl | rfl | rfl <;> rcases c' with rfl | rfl | rfl | rfl <;> simp_all [axis]
theorem tk_len {p : Nat × Nat × Nat} (hp : p.2.2 < 4) : (impl_fewestTurns.tk p 4).length = 2 := by
 obtain ⟨x, y, n⟩ := p
 have c : n = 0 ∨ n = 1 ∨ n = 2 ∨ n = 3 := by simp only at hp; omega
 rcases c with rfl | rfl | rfl | rfl <;> rfl
theorem first_mem {a : Nat × Nat} {r : Nat × Nat × Nat} : r ∈ impl_fewestTurns.first a 4 ↔ ∃ m, m < 4 ∧ r = (a.1, a.2, m) := by
 unfold impl_fewestTurns.first
 simp only [List.mem_map, List.mem_range]
 exact ⟨fun ⟨m, h, e⟩ => ⟨m, h, e.symm⟩, fun ⟨m, h, e⟩ => ⟨m, h, e.symm⟩⟩
structure Lv (W : Nat × Nat → Prop) (st : Nat × Nat → Nat → Option (Nat × Nat)) (a b : Nat × Nat) (t : Nat) (seen0 q0 q : List (Nat × Nat × Nat)) (i : Nat) (seen nx : List (Nat × Nat × Nat)) : Prop where
 qs : ∀ p ∈ q, Sta W st a t p
 ss : ∀ p ∈ seen, Sta W st a t p
 done : ∀ j p, j < i → q[j]? = some p → p ∈ seen
 go : ∀ p ∈ seen, ∀ r, st (p.1, p.2.1) p.2.2 = some r → (r.1, r.2, p.2.2) ∈ seen ∨ (r.1, r.2, p.2.2) ∈ q
 tu : ∀ p ∈ seen, ∀ m, m < 4 → axis m = (!axis p.2.2) → (p.1, p.2.1, m) ∈ seen ∨ (p.1, p.2.1, m) ∈ q ∨ (p.1, p.2.1, m) ∈ nx
 ns : ∀ p ∈ nx, Sta W st a (t + 1) p
 sub : ∀ p ∈ seen0, p ∈ seen
 pre : ∀ p ∈ q0, p ∈ q
 nb : ∀ p ∈ seen, (p.1, p.2.1) ≠ b
 nd : seen.Nodup
 lq : q.length + seen0.length ≤ q0.length + seen.length
 ln : nx.length + 2 * seen0.length ≤ 2 * seen.length
 il : i ≤ q.length
theorem Lv.seen_le {W : Nat × Nat → Prop} {s t' : ByteArray} {st : Nat × Nat → Nat → Option (Nat × Nat)} (hst : Steps W s t' st) {a b : Nat × Nat} {t : Nat} {seen0 q0 q : List (Nat × Nat × Nat)} {i : Nat} {seen nx : List (Nat × Nat × Nat)} (h : Lv W st a b t seen0 q0 q i seen nx) : seen.length ≤ 256 :=
 states_le h.nd (fun p hp => by
  obtain ⟨w, m, -⟩ := h.ss p hp
  have := hst.small _ w
  exact ⟨this.1, this.2, m⟩)
theorem lvl_some {W : Nat × Nat → Prop} {s t' : ByteArray} {st : Nat × Nat → Nat → Option (Nat × Nat)} (hst : Steps W s t' st) {a b : Nat × Nat} {t : Nat} {seen0 q0 : List (Nat × Nat × Nat)} (h0 : q0.length ≤ 512) : ∀ (k : Nat) (q : List (Nat × Nat × Nat)) (i : Nat) (seen nx : List (Nat × Nat × Nat)), Lv W st a b t seen0 q0 q i seen nx → (q.length - i) + 2 * (256 - seen.length) < k →
  ∃ hit seen' nx', impl_fewestTurns.lvl s t' b k q i seen nx = some (hit, seen', nx') ∧ (hit = true → ∃ ax, Dr st a t b ax) ∧ (hit = false → ∃ q', Lv W st a b t seen0 q0 q' q'.length seen' nx') := by
 intro k
 induction k with
 | zero => intro q i seen nx h hk; omega
 | succ k ih =>
  intro q i seen nx h hk
  have hs := h.seen_le hst
  have h1 := h.lq
  have h2 := h.ln
  have hi := h.il
  unfold impl_fewestTurns.lvl
  rw [if_pos ⟨by omega, by omega, by omega, hi⟩]
  by_cases hlt : i < q.length
  ·obtain ⟨p, hp⟩ : ∃ p, q[i]? = some p := ⟨q[i], by simp [hlt]⟩
   have hpq : p ∈ q := List.mem_of_getElem? hp
   have hS := h.qs p hpq
   rw [hp]
   simp only
   by_cases hb : p.1 = b.1 ∧ p.2.1 = b.2
   ·rw [if_pos hb]
    refine ⟨true, seen, nx, rfl, fun _ => ⟨axis p.2.2, ?_⟩, fun z => by cases z⟩
    have e : (p.1, p.2.1) = b := Prod.ext hb.1 hb.2
    rw [← e]
    exact hS.2.2
   ·rw [if_neg hb]
    by_cases hm : p ∈ seen
    ·rw [if_pos hm]
     refine ih q (i + 1) seen nx ⟨h.qs, h.ss, fun j r hj hr => ?_, h.go, h.tu, h.ns, h.sub, h.pre, h.nb, h.nd, h.lq, h.ln, by omega⟩ (by omega)
     by_cases e : j = i
     ·subst e
      rw [hp] at hr
      obtain rfl := Option.some.inj hr
      exact hm
     ·exact h.done j r (by omega) hr
    ·rw [if_neg hm]
     have hc := hst.can p hS.1 hS.2.1
     obtain ⟨q', hq'⟩ : ∃ q', q' = (if impl_driveIn.can s t' p.1 p.2.1 p.2.2 = true then q ++ [impl_fewestTurns.mv p] else q) := ⟨_, rfl⟩
     rw [← hq']
     have hsub : ∀ r ∈ q, r ∈ q' := fun r hr => by
      rw [hq']
      split
      ·exact List.mem_append_left _ hr
      ·exact hr
     have hnth : ∀ j r, j ≤ i → q'[j]? = some r → q[j]? = some r := fun j r hj hr => by
      rw [hq'] at hr
      split at hr
      ·rwa [List.getElem?_append_left (by omega)] at hr
      ·exact hr
     have hql : q'.length ≤ q.length + 1 ∧ q.length ≤ q'.length := by
      rw [hq']
      split
      ·simp
      ·exact ⟨by omega, by omega⟩
     have hnew : ∀ r, st (p.1, p.2.1) p.2.2 = some r → (r.1, r.2, p.2.2) ∈ q' := fun r hr => by
      rw [hc] at hr
      rw [hq']
      split at hr
      ·rename_i hcan
       rw [if_pos hcan]
       obtain rfl := Option.some.inj hr
       exact List.mem_append_right _ (by simp [impl_fewestTurns.mv])
      ·cases hr
     have hqs : ∀ r ∈ q', Sta W st a t r := fun r hr => by
      rw [hq'] at hr
      split at hr
      ·rename_i hcan
       rcases List.mem_append.1 hr with hr | hr
       ·exact h.qs r hr
       ·have e : r = impl_fewestTurns.mv p := by simpa using hr
        subst e
        rw [if_pos hcan] at hc
        exact ⟨hst.stay _ _ _ hS.2.1 hc, hS.2.1, Dr.drive hS.2.2 hS.2.1 hc⟩
      ·exact h.qs r hr
     have hns : seen.length < 256 := by
      have z := states_le (l := p :: seen) (List.nodup_cons.2 ⟨hm, h.nd⟩) (fun r hr => by
       have hr' : Sta W st a t r := (List.mem_cons.1 hr).elim (fun e => e ▸ hS) (fun e => h.ss r e)
       have := hst.small _ hr'.1
       exact ⟨this.1, this.2, hr'.2.1⟩)
      simp at z
      omega
     refine ih q' (i + 1) (p :: seen) (nx ++ impl_fewestTurns.tk p 4) ⟨hqs, ?_, ?_, ?_, ?_, ?_, ?_, ?_, ?_, ?_, ?_, ?_, by omega⟩ (by simp only [List.length_cons]; omega)
     ·exact fun r hr => (List.mem_cons.1 hr).elim (fun e => e ▸ hS) (fun e => h.ss r e)
     ·intro j r hj hr
      have hr' := hnth j r (by omega) hr
      by_cases e : j = i
      ·subst e
       rw [hp] at hr'
       obtain rfl := Option.some.inj hr'
       exact List.mem_cons_self
      ·exact List.mem_cons_of_mem _ (h.done j r (by omega) hr')
     ·intro r hr z hz
      rcases List.mem_cons.1 hr with e | hr
      ·subst e
       exact .inr (hnew z hz)
      ·exact (h.go r hr z hz).imp (List.mem_cons_of_mem _) (hsub _)
     ·intro r hr m hm4 hax
      rcases List.mem_cons.1 hr with e | hr
      ·subst e
       exact .inr (.inr (List.mem_append_right _ ((tk_mem hS.2.1).2 ⟨m, hm4, hax, rfl⟩)))
      ·rcases h.tu r hr m hm4 hax with z | z | z
       ·exact .inl (List.mem_cons_of_mem _ z)
       ·exact .inr (.inl (hsub _ z))
       ·exact .inr (.inr (List.mem_append_left _ z))
     ·intro r hr
      rcases List.mem_append.1 hr with hr | hr
      ·exact h.ns r hr
      ·obtain ⟨m, hm4, hax, rfl⟩ := (tk_mem hS.2.1).1 hr
       refine ⟨hS.1, hm4, ?_⟩
       show Dr st a (t + 1) (p.1, p.2.1) (axis m)
       rw [hax]
       exact hS.2.2.turn
     ·exact fun r hr => List.mem_cons_of_mem _ (h.sub r hr)
     ·exact fun r hr => hsub _ (h.pre r hr)
     ·intro r hr
      rcases List.mem_cons.1 hr with e | hr
      ·subst e
       intro e2
       exact hb ⟨congrArg Prod.fst e2, congrArg Prod.snd e2⟩
      ·exact h.nb r hr
     ·exact List.nodup_cons.2 ⟨hm, h.nd⟩
     ·simp only [List.length_cons]; omega
     ·simp only [List.length_cons, List.length_append, tk_len hS.2.1]; omega
  ·have hp : q[i]? = none := List.getElem?_eq_none (by omega)
   rw [hp]
   refine ⟨false, seen, nx, rfl, fun z => Bool.noConfusion z, fun _ => ⟨q, ?_⟩⟩
   have e : q.length = i := by omega
   rw [e]
   exact h
structure En (W : Nat × Nat → Prop) (st : Nat × Nat → Nat → Option (Nat × Nat)) (a b : Nat × Nat) (t : Nat) (now seen : List (Nat × Nat × Nat)) : Prop where
 ss : ∀ p ∈ seen, Sta W st a t p
 go : ∀ p ∈ seen, ∀ r, st (p.1, p.2.1) p.2.2 = some r → (r.1, r.2, p.2.2) ∈ seen
 tu : ∀ p ∈ seen, ∀ m, m < 4 → axis m = (!axis p.2.2) → (p.1, p.2.1, m) ∈ seen ∨ (p.1, p.2.1, m) ∈ now
 ns : ∀ p ∈ now, Sta W st a t p
 st0 : ∀ m, m < 4 → (a.1, a.2, m) ∈ seen ∨ (a.1, a.2, m) ∈ now
 nb : ∀ p ∈ seen, (p.1, p.2.1) ≠ b
 nd : seen.Nodup
 cm : ∀ u, u + 1 = t → ∀ p ax, Dr st a u p ax → Cmp st seen p ax
 ln : now.length ≤ 512
 few : t ≤ seen.length + (if now = [] then 1 else 0)
theorem axis_ex (ax : Bool) : ∃ m, m < 4 ∧ axis m = ax := by
 cases ax
 ·exact ⟨1, by omega, rfl⟩
 ·exact ⟨0, by omega, rfl⟩
theorem cmp_drive {W : Nat × Nat → Prop} {s t' : ByteArray} {st : Nat × Nat → Nat → Option (Nat × Nat)} (hst : Steps W s t' st) {seen : List (Nat × Nat × Nat)} (hss : ∀ p ∈ seen, W (p.1, p.2.1)) (hgo : ∀ p ∈ seen, ∀ r, st (p.1, p.2.1) p.2.2 = some r → (r.1, r.2, p.2.2) ∈ seen) {p q : Nat × Nat} {m : Nat} (hm : m < 4) (hs : st p m = some q) (h : Cmp st seen p (axis m)) : Cmp st seen q (axis m) := by
 have h1 := h.2 m q hm rfl hs
 have h2 := hgo _ h1 q hs
 refine ⟨⟨m, hm, rfl, h2⟩, fun n r hn hax hr => ?_⟩
 obtain rfl := hst.one p m q r n (hss _ h1) hs hr hm hn hax
 exact h2
theorem cmp_all {st : Nat × Nat → Nat → Option (Nat × Nat)} {seen : List (Nat × Nat × Nat)} {p : Nat × Nat} {ax : Bool} (h : ∀ m, m < 4 → axis m = ax → (p.1, p.2, m) ∈ seen) : Cmp st seen p ax := by
 obtain ⟨m, hm, he⟩ := axis_ex ax
 exact ⟨⟨m, hm, he, h m hm he⟩, fun n r hn hax _ => h n hn hax⟩
theorem En.last {W : Nat × Nat → Prop} {s t' : ByteArray} {st : Nat × Nat → Nat → Option (Nat × Nat)} (hst : Steps W s t' st) {a b : Nat × Nat} {t : Nat} {seen : List (Nat × Nat × Nat)} (h : En W st a b t [] seen) {n : Nat} {p : Nat × Nat} {ax : Bool} (hd : Dr st a n p ax) : Cmp st seen p ax := by
 induction hd with
 | start ax => exact cmp_all (fun m hm _ => (h.st0 m hm).elim id (fun z => by cases z))
 | drive _ hm hs ih => exact cmp_drive hst (fun p hp => (h.ss p hp).1) h.go hm hs ih
 | turn _ ih =>
  obtain ⟨⟨m, hm, he, hp⟩, -⟩ := ih
  exact cmp_all (fun n hn hax => (h.tu _ hp n hn (by rw [hax, ← he])).elim id (fun z => by cases z))
 | more _ ih => exact ih
theorem En.next {W : Nat × Nat → Prop} {s t' : ByteArray} {st : Nat × Nat → Nat → Option (Nat × Nat)} (hst : Steps W s t' st) {a b : Nat × Nat} {t : Nat} {now seen q seen' nx' : List (Nat × Nat × Nat)} (h : En W st a b t now seen) (hn : now ≠ []) (hl : Lv W st a b t seen now q q.length seen' nx') : En W st a b (t + 1) nx' seen' := by
 have hq : ∀ p ∈ q, p ∈ seen' := fun p hp => by
  obtain ⟨j, hj, e⟩ := List.mem_iff_getElem.1 hp
  exact hl.done j p hj (by rw [← e]; simp [hj])
 have hgo : ∀ p ∈ seen', ∀ r, st (p.1, p.2.1) p.2.2 = some r → (r.1, r.2, p.2.2) ∈ seen' := fun p hp r hr => (hl.go p hp r hr).elim id (hq _)
 have h1 := hl.ln
 have h2 := hl.seen_le hst
 have h3 := h.few
 rw [if_neg hn] at h3
 refine ⟨fun p hp => ⟨(hl.ss p hp).1, (hl.ss p hp).2.1, (hl.ss p hp).2.2.more⟩, hgo, fun p hp m hm hax => ?_, hl.ns, fun m hm => .inl ?_, hl.nb, hl.nd, ?_, by omega, ?_⟩
 ·rcases hl.tu p hp m hm hax with z | z | z
  ·exact .inl z
  ·exact .inl (hq _ z)
  ·exact .inr z
 ·exact (h.st0 m hm).elim (hl.sub _) (fun z => hq _ (hl.pre _ z))
 ·intro u hu p ax hd
  obtain rfl : u = t := by omega
  clear hu
  have key : ∀ n p ax, Dr st a n p ax → n ≤ u → Cmp st seen' p ax := by
   intro n p ax hd
   induction hd with
   | start ax => exact fun _ => cmp_all (fun m hm _ => (h.st0 m hm).elim (hl.sub _) (fun z => hq _ (hl.pre _ z)))
   | drive _ hm hs ih => exact fun hu => cmp_drive hst (fun p hp => (hl.ss p hp).1) hgo hm hs (ih hu)
   | turn hd2 _ =>
    intro hu
    obtain ⟨v, rfl⟩ : ∃ v, u = v + 1 := ⟨u - 1, by omega⟩
    obtain ⟨⟨m, hm, he, hp⟩, -⟩ := h.cm v rfl _ _ (hd2.up (m := v) (by omega))
    exact cmp_all (fun n hn hax => (h.tu _ hp n hn (by rw [hax, ← he])).elim (hl.sub _) (fun z => hq _ (hl.pre _ z)))
   | more _ ih => exact fun hu => ih (by omega)
  exact key u p ax hd (Nat.le_refl _)
 ·by_cases e : nx' = []
  ·rw [if_pos e]
   have : seen.length ≤ seen'.length := by omega
   omega
  ·rw [if_neg e]
   have : 0 < nx'.length := List.length_pos_iff.2 e
   omega
def Fewest (st : Nat × Nat → Nat → Option (Nat × Nat)) (a b : Nat × Nat) (v : Int × Bool) : Prop :=
 (∃ T : Nat, v = ((T : Int), true) ∧ T ≤ 1000 ∧ (∃ ax, Dr st a T b ax) ∧ ∀ u, u < T → ∀ ax, ¬ Dr st a u b ax) ∨ (v = (0, false) ∧ ∀ u ax, ¬ Dr st a u b ax)
theorem run_some {W : Nat × Nat → Prop} {s t' : ByteArray} {st : Nat × Nat → Nat → Option (Nat × Nat)} (hst : Steps W s t' st) {a b : Nat × Nat} : ∀ (m t : Nat) (now seen : List (Nat × Nat × Nat)), En W st a b t now seen → 300 ≤ t + m → ∃ v, Fewest st a b v ∧ ∀ k, 3000 ≤ k + t → impl_fewestTurns.run s t' b k t now seen = some v := by
 intro m
 induction m with
 | zero =>
  intro t now seen h hm
  have h1 := states_le h.nd (fun p hp => by
   obtain ⟨w, m, -⟩ := h.ss p hp
   have := hst.small _ w
   exact ⟨this.1, this.2, m⟩)
  have h2 := h.few
  split at h2 <;> omega
 | succ m ih =>
  intro t now seen h hm
  have h1 := states_le h.nd (fun p hp => by
   obtain ⟨w, m, -⟩ := h.ss p hp
   have := hst.small _ w
   exact ⟨this.1, this.2, m⟩)
  have h2 := h.few
  have ht : t ≤ 257 := by split at h2 <;> omega
  by_cases hn : now = []
  ·refine ⟨(0, false), .inr ⟨rfl, fun u ax hd => ?_⟩, fun k hk => ?_⟩
   ·subst hn
    obtain ⟨⟨m, -, -, hp⟩, -⟩ := h.last hst hd
    exact h.nb _ hp rfl
   ·obtain ⟨k, rfl⟩ : ∃ j, k = j + 1 := ⟨k - 1, by omega⟩
    unfold impl_fewestTurns.run
    rw [if_pos (by omega), if_pos hn]
  ·have hlv : Lv W st a b t seen now now 0 seen [] := ⟨h.ns, h.ss, fun j p hj => by omega, fun p hp r hr => .inl (h.go p hp r hr), fun p hp m hm hax => (h.tu p hp m hm hax).imp id .inl, fun p hp => (by cases hp), fun p hp => hp, fun p hp => hp, h.nb, h.nd, by omega, by simp, by omega⟩
   have hln := h.ln
   obtain ⟨hit, seen', nx', e1, e2, e3⟩ := lvl_some hst hln 1500 now 0 seen [] hlv (by omega)
   have e4 : ∀ k, 1500 ≤ k → impl_fewestTurns.lvl s t' b k now 0 seen [] = some (hit, seen', nx') := fun k hk => by
    obtain ⟨hit', seen'', nx'', f1, -, -⟩ := lvl_some hst hln k now 0 seen [] hlv (by omega)
    have mono : ∀ d, impl_fewestTurns.lvl s t' b (1500 + d) now 0 seen [] = some (hit, seen', nx') := fun d => by
     induction d with
     | zero => exact e1
     | succ d ih => exact impl_fewestTurns.lvl_mono s t' b (1500 + d) now 0 seen [] _ ih
    have z := mono (k - 1500)
    rwa [show 1500 + (k - 1500) = k by omega] at z
   cases hit with
   | true =>
    refine ⟨((t : Int), true), .inl ⟨t, rfl, by omega, e2 rfl, fun u hu ax hd => ?_⟩, fun k hk => ?_⟩
    ·obtain ⟨v, rfl⟩ : ∃ v, t = v + 1 := ⟨t - 1, by omega⟩
     obtain ⟨⟨m, -, -, hp⟩, -⟩ := h.cm v rfl _ _ (hd.up (show u ≤ v by omega))
     exact h.nb _ hp rfl
    ·obtain ⟨k, rfl⟩ : ∃ j, k = j + 1 := ⟨k - 1, by omega⟩
     unfold impl_fewestTurns.run
     rw [if_pos (by omega), if_neg hn, e4 k (by omega)]
     rfl
   | false =>
    obtain ⟨q', hq'⟩ := e3 rfl
    obtain ⟨v, hv, hr⟩ := ih (t + 1) nx' seen' (h.next hst hn hq') (by omega)
    refine ⟨v, hv, fun k hk => ?_⟩
    obtain ⟨k, rfl⟩ : ∃ j, k = j + 1 := ⟨k - 1, by omega⟩
    unfold impl_fewestTurns.run
    rw [if_pos (by omega), if_neg hn, e4 k (by omega)]
    exact hr k (by omega)
theorem fewest_some {W : Nat × Nat → Prop} {s t' : ByteArray} {st : Nat × Nat → Nat → Option (Nat × Nat)} (hst : Steps W s t' st) (a b : Nat × Nat) (ha : W a) : ∃ v, Fewest st a b v ∧ ∀ k, 3000 ≤ k → impl_fewestTurns.run s t' b k 0 (impl_fewestTurns.first a 4) [] = some v := by
 have hns : ∀ p ∈ impl_fewestTurns.first a 4, Sta W st a 0 p := fun p hp => by
  obtain ⟨m, hm, rfl⟩ := first_mem.1 hp
  exact ⟨ha, hm, .start _⟩
 obtain ⟨v, h1, h2⟩ := run_some hst 300 0 (impl_fewestTurns.first a 4) [] (b := b) (a := a) ⟨fun p hp => (by cases hp), fun p hp => (by cases hp), fun p hp => (by cases hp), hns, fun m hm => .inr (first_mem.2 ⟨m, hm, rfl⟩), fun p hp => (by cases hp), List.nodup_nil, fun u hu => by omega, by simp [impl_fewestTurns.first], by omega⟩ (by omega)
 exact ⟨v, h1, fun k hk => h2 k (by omega)⟩
inductive Rch (N : Nat) (f : Nat → Option Nat) (c : Nat → Bool) : Nat → Prop
 | base {i : Nat} (hi : i < N) (h : c i = true) : Rch N f c i
 | step {i j : Nat} (h : Rch N f c i) (hj : f i = some j) : Rch N f c j
theorem pass_some (s t sg : ByteArray) (al : Bool) (N : Nat) (hf : ∀ i j, i < N → spec_owRun.nx s t sg al i = some j → j < N) (P : Nat → Prop) (hP : ∀ i j, P i → spec_owRun.nx s t sg al i = some j → P j) : ∀ (r i : Nat) (p : (Nat → Bool) × Bool), i + r = N → (∀ j, j < N → p.1 j = true → P j) →
  (∀ j, p.1 j = true → (spec_owRun.pass s t sg al r i p).1 j = true) ∧ (∀ j, j < N → (spec_owRun.pass s t sg al r i p).1 j = true → P j) ∧ (p.2 = true → (spec_owRun.pass s t sg al r i p).2 = true) ∧
  ((spec_owRun.pass s t sg al r i p).2 = false → (spec_owRun.pass s t sg al r i p).1 = p.1 ∧ ∀ j, i ≤ j → j < N → p.1 j = true → ∀ q, spec_owRun.nx s t sg al j = some q → p.1 q = true) ∧
  (p.2 = false → (spec_owRun.pass s t sg al r i p).2 = true → ∃ j, j < N ∧ p.1 j = false ∧ (spec_owRun.pass s t sg al r i p).1 j = true) := by
 intro r
 induction r with
 | zero =>
  intro i p hi hp
  exact ⟨fun j h => h, hp, fun h => h, fun _ => ⟨rfl, fun j h1 h2 => by omega⟩, fun h1 h2 => by rw [show spec_owRun.pass s t sg al 0 i p = p from rfl, h1] at h2; cases h2⟩
 | succ r ih =>
  intro i p hi hp
  have key : spec_owRun.stepF s t sg al i p = p ∧ (p.1 i = true → ∀ q, spec_owRun.nx s t sg al i = some q → p.1 q = true) ∨ ∃ j, j < N ∧ p.1 j = false ∧ P j ∧ spec_owRun.stepF s t sg al i p = ((fun q => if q = j then true else p.1 q), true) := by
   unfold spec_owRun.stepF
   by_cases h : p.1 i = true
   ·rw [if_pos h]
    cases hn : spec_owRun.nx s t sg al i with
    | none => exact .inl ⟨rfl, fun _ q hq => by cases hq⟩
    | some j =>
     simp only
     by_cases hj : p.1 j = false
     ·rw [if_pos hj]
      exact .inr ⟨j, hf i j (by omega) hn, hj, hP i j (hp i (by omega) h) hn, rfl⟩
     ·rw [if_neg hj]
      exact .inl ⟨rfl, fun _ q hq => by obtain rfl := Option.some.inj hq; simpa using hj⟩
   ·rw [if_neg h]
    exact .inl ⟨rfl, fun z => absurd z h⟩
  rw [show spec_owRun.pass s t sg al (r + 1) i p = spec_owRun.pass s t sg al r (i + 1) (spec_owRun.stepF s t sg al i p) from rfl]
  rcases key with ⟨e, hc⟩ | ⟨j, hj, hpj, hPj, e⟩
  ·rw [e]
   obtain ⟨h1, h2, h3, h4, h5⟩ := ih (i + 1) p (by omega) hp
   refine ⟨h1, h2, h3, fun hz => ⟨(h4 hz).1, fun j a b c q hq => ?_⟩, h5⟩
   by_cases ej : j = i
   ·subst ej; exact hc c q hq
   ·exact (h4 hz).2 j (by omega) b c q hq
  ·rw [e]
   obtain ⟨h1, h2, h3, h4, h5⟩ := ih (i + 1) ((fun q => if q = j then true else p.1 q), true) (by omega) (fun q hq h => by
    by_cases eq : q = j
    ·subst eq; exact hPj
    ·simp only [eq, if_false] at h; exact hp q hq h)
   refine ⟨fun q hq => h1 q (by simp [hq]), h2, fun _ => h3 rfl, fun hz => ?_, fun _ _ => ⟨j, hj, hpj, h1 j (by simp)⟩⟩
   rw [h3 rfl] at hz
   cases hz
def cnt (c : Nat → Bool) : Nat → Nat
 | 0 => 0
 | n + 1 => cnt c n + (if c n = true then 1 else 0)
theorem cnt_le (c : Nat → Bool) : ∀ n, cnt c n ≤ n
 | 0 => Nat.le_refl _
 | n + 1 => by
  have := cnt_le c n
  unfold cnt
  split <;> omega
theorem cnt_mono {c c' : Nat → Bool} (h : ∀ j, c j = true → c' j = true) : ∀ n, cnt c n ≤ cnt c' n
 | 0 => Nat.le_refl _
 | n + 1 => by
  have := cnt_mono h n
  unfold cnt
  by_cases e : c n = true
  ·rw [if_pos e, if_pos (h n e)]; omega
  ·rw [if_neg e]; split <;> omega
theorem cnt_lt {c c' : Nat → Bool} (h : ∀ j, c j = true → c' j = true) (j : Nat) (h0 : c j = false) (h1 : c' j = true) : ∀ n, j < n → cnt c n < cnt c' n
 | 0, hj => by omega
 | n + 1, hj => by
  have z := cnt_mono h n
  unfold cnt
  by_cases e : j = n
  ·subst e
   rw [if_neg (by rw [h0]; simp), if_pos h1]; omega
  ·have := cnt_lt h j h0 h1 n (by omega)
   by_cases e : c n = true
   ·rw [if_pos e, if_pos (h n e)]; omega
   ·rw [if_neg e]; split <;> omega
theorem all_some (s t sg : ByteArray) (al : Bool) (N : Nat) (hf : ∀ i j, i < N → spec_owRun.nx s t sg al i = some j → j < N) (c0 : Nat → Bool) : ∀ (m : Nat) (c : Nat → Bool), N - cnt c N ≤ m → (∀ j, j < N → c j = true → Rch N (spec_owRun.nx s t sg al) c0 j) → (∀ j, c0 j = true → c j = true) →
  ∃ c', (∀ j, j < N → (c' j = true ↔ Rch N (spec_owRun.nx s t sg al) c0 j)) ∧ ∀ k, m + 1 ≤ k → spec_owRun.all s t sg al N k c = some c' := by
 intro m
 induction m with
 | zero =>
  intro c hm hs h0
  obtain ⟨h1, h2, h3, h4, h5⟩ := pass_some s t sg al N hf _ (fun i j => Rch.step) N 0 (c, false) (by omega) hs
  cases hq : (spec_owRun.pass s t sg al N 0 (c, false)).2 with
  | true =>
   obtain ⟨j, hj, hj0, hj1⟩ := h5 rfl hq
   have z := cnt_lt h1 j hj0 hj1 N hj
   have := cnt_le (spec_owRun.pass s t sg al N 0 (c, false)).1 N
   have e : cnt (c, false).1 N = cnt c N := rfl
   omega
  | false =>
   obtain ⟨e, hc⟩ := h4 hq
   refine ⟨c, fun j hj => ⟨hs j hj, fun h => ?_⟩, fun k hk => ?_⟩
   ·have key : ∀ j, Rch N (spec_owRun.nx s t sg al) c0 j → j < N ∧ c j = true := by
     intro j h
     induction h with
     | base hi h => exact ⟨hi, h0 _ h⟩
     | step _ hj ih => exact ⟨hf _ _ ih.1 hj, hc _ (Nat.zero_le _) ih.1 ih.2 _ hj⟩
    exact (key j h).2
   ·obtain ⟨k, rfl⟩ : ∃ q, k = q + 1 := ⟨k - 1, by omega⟩
    unfold spec_owRun.all
    rw [if_neg (by rw [hq]; simp), e]
 | succ m ih =>
  intro c hm hs h0
  obtain ⟨h1, h2, h3, h4, h5⟩ := pass_some s t sg al N hf _ (fun i j => Rch.step) N 0 (c, false) (by omega) hs
  cases hq : (spec_owRun.pass s t sg al N 0 (c, false)).2 with
  | true =>
   obtain ⟨j, hj, hj0, hj1⟩ := h5 rfl hq
   have z := cnt_lt h1 j hj0 hj1 N hj
   have e : cnt (c, false).1 N = cnt c N := rfl
   obtain ⟨c', h6, h7⟩ := ih (spec_owRun.pass s t sg al N 0 (c, false)).1 (by omega) h2 (fun j hj => h1 j (h0 j hj))
   refine ⟨c', h6, fun k hk => ?_⟩
   obtain ⟨k, rfl⟩ : ∃ q, k = q + 1 := ⟨k - 1, by omega⟩
   unfold spec_owRun.all
   rw [if_pos hq]
   exact h7 k (by omega)
  | false =>
   obtain ⟨e, hc⟩ := h4 hq
   refine ⟨c, fun j hj => ⟨hs j hj, fun h => ?_⟩, fun k hk => ?_⟩
   ·have key : ∀ j, Rch N (spec_owRun.nx s t sg al) c0 j → j < N ∧ c j = true := by
     intro j h
     induction h with
     | base hi h => exact ⟨hi, h0 _ h⟩
     | step _ hj ih => exact ⟨hf _ _ ih.1 hj, hc _ (Nat.zero_le _) ih.1 ih.2 _ hj⟩
    exact (key j h).2
   ·obtain ⟨k, rfl⟩ : ∃ q, k = q + 1 := ⟨k - 1, by omega⟩
    unfold spec_owRun.all
    rw [if_neg (by rw [hq]; simp), e]
structure Cor (W : Nat × Nat → Prop) (s t : ByteArray) (st : Nat × Nat → Nat → Option (Nat × Nat)) (N H : Nat) : Prop where
 inn : ∀ i, i < N → W (i / H, i % H)
 idx : ∀ p, W p → p.1 * H + p.2 < N ∧ (p.1 * H + p.2) / H = p.1 ∧ (p.1 * H + p.2) % H = p.2
 nx : ∀ (al : Bool) i, i < N → ∀ j, spec_owRun.nx s t (if al = true then s else t) al i = some j ↔ ∃ n q, n < 4 ∧ axis n = al ∧ st (i / H, i % H) n = some q ∧ j = q.1 * H + q.2
theorem Cor.lt {W : Nat × Nat → Prop} {s t : ByteArray} {st : Nat × Nat → Nat → Option (Nat × Nat)} {N H : Nat} (h : Cor W s t st N H) (hst : Steps W s t st) (al : Bool) (i j : Nat) (hi : i < N) (hn : spec_owRun.nx s t (if al = true then s else t) al i = some j) : j < N := by
 obtain ⟨n, q, hn4, -, hs, rfl⟩ := (h.nx al i hi j).1 hn
 exact (h.idx q (hst.stay _ _ _ hn4 hs)).1
def Ahd (st : Nat × Nat → Nat → Option (Nat × Nat)) (a : Nat × Nat) (n : Nat) (p : Nat × Nat) : Prop := (n = 0 ∧ p = a) ∨ ∃ u, u + 1 = n ∧ ∃ ax, Dr st a u p ax
theorem dr_in {W : Nat × Nat → Prop} {s t : ByteArray} {st : Nat × Nat → Nat → Option (Nat × Nat)} (hst : Steps W s t st) {a : Nat × Nat} (ha : W a) {n : Nat} {p : Nat × Nat} {ax : Bool} (hd : Dr st a n p ax) : W p := by
 induction hd with
 | start => exact ha
 | drive _ hm hs _ => exact hst.stay _ _ _ hm hs
 | turn _ ih => exact ih
 | more _ ih => exact ih
theorem rch_iff {W : Nat × Nat → Prop} {s t : ByteArray} {st : Nat × Nat → Nat → Option (Nat × Nat)} {N H : Nat} (h : Cor W s t st N H) (hst : Steps W s t st) {a : Nat × Nat} (ha : W a) (al : Bool) (n : Nat) (c : Nat → Bool) (hc : ∀ i, i < N → (c i = true ↔ Ahd st a n (i / H, i % H))) (i : Nat) (hi : i < N) : Rch N (spec_owRun.nx s t (if al = true then s else t) al) c i ↔ Dr st a n (i / H, i % H) al := by
 constructor
 ·intro hr
  have key : ∀ i, Rch N (spec_owRun.nx s t (if al = true then s else t) al) c i → i < N ∧ Dr st a n (i / H, i % H) al := by
   intro i hr
   induction hr with
   | base hi hb =>
    refine ⟨hi, ?_⟩
    rcases (hc _ hi).1 hb with ⟨rfl, e⟩ | ⟨u, rfl, ax, hd⟩
    ·rw [e]; exact .start _
    ·by_cases e : ax = al
     ·subst e; exact hd.more
     ·have : al = !ax := by cases al <;> cases ax <;> simp_all
      rw [this]
      exact hd.turn
   | step _ hj ih =>
    obtain ⟨m, q, hm, hax, hs, rfl⟩ := (h.nx al _ ih.1 _).1 hj
    have hq := h.idx q (hst.stay _ _ _ hm hs)
    refine ⟨hq.1, ?_⟩
    rw [hq.2.1, hq.2.2]
    have z := ih.2
    rw [← hax] at z ⊢
    exact .drive z hm hs
  exact (key i hr).2
 ·intro hd
  have key : ∀ n' p al', Dr st a n' p al' → n' = n → al' = al → W p ∧ Rch N (spec_owRun.nx s t (if al = true then s else t) al) c (p.1 * H + p.2) := by
   intro n' p al' hd
   have stay : W p := dr_in hst ha hd
   have bs : ∀ p, W p → Ahd st a n p → Rch N (spec_owRun.nx s t (if al = true then s else t) al) c (p.1 * H + p.2) := fun p hp hA => by
    have hq := h.idx p hp
    refine .base hq.1 ((hc _ hq.1).2 ?_)
    rw [hq.2.1, hq.2.2]
    exact hA
   induction hd with
   | start => rintro rfl -; exact ⟨ha, bs _ ha (.inl ⟨rfl, rfl⟩)⟩
   | drive hd2 hm hs ih =>
    intro hn hax
    have stay2 := dr_in hst ha hd2
    obtain ⟨-, hr⟩ := ih stay2 hn hax
    have hq := h.idx _ stay2
    refine ⟨stay, .step hr ((h.nx al _ hq.1 _).2 ⟨_, _, hm, hax, ?_, rfl⟩)⟩
    rw [hq.2.1, hq.2.2]
    exact hs
   | turn hd2 _ => rintro rfl hax; exact ⟨stay, bs _ stay (.inr ⟨_, rfl, _, hd2⟩)⟩
   | more hd2 _ => rintro rfl hax; exact ⟨stay, bs _ stay (.inr ⟨_, rfl, _, hd2⟩)⟩
  have hh := (key n _ al hd rfl rfl).2
  have e : i / H * H + i % H = i := by rw [Nat.mul_comm]; exact Nat.div_add_mod i H
  simp only at hh
  rwa [e] at hh
theorem rounds_some {W : Nat × Nat → Prop} {s t : ByteArray} {st : Nat × Nat → Nat → Option (Nat × Nat)} {N H : Nat} (h : Cor W s t st N H) (hst : Steps W s t st) {a b : Nat × Nat} (ha : W a) (hb : W b) (T : Nat) (hT : T ≤ 1000) (hx : ∃ ax, Dr st a T b ax) (hl : ∀ u, u < T → ∀ ax, ¬ Dr st a u b ax) : ∀ (m n : Nat) (al ac : Nat → Bool), n + m = T → (∀ i, i < N → (al i = true ↔ Ahd st a n (i / H, i % H))) → (∀ i, i < N → (ac i = true ↔ Ahd st a n (i / H, i % H))) → ∀ k, m + N + 2 ≤ k → spec_FewestTurns.rounds s t N (b.1 * H + b.2) k n al ac = some (T : Int) := by
 intro m
 have hq := h.idx b hb
 induction m with
 | zero =>
  intro n al ac hn h1 h2 k hk
  obtain rfl : n = T := by omega
  obtain ⟨k, rfl⟩ : ∃ j, k = j + 1 := ⟨k - 1, by omega⟩
  obtain ⟨al', a1, a2⟩ := all_some s t s true N (h.lt hst true) al N al (by omega) (fun j hj hc => .base hj hc) (fun j hj => hj)
  obtain ⟨ac', c1, c2⟩ := all_some s t t false N (h.lt hst false) ac N ac (by omega) (fun j hj hc => .base hj hc) (fun j hj => hj)
  unfold spec_FewestTurns.rounds
  rw [if_pos hT, a2 k (by omega), c2 k (by omega)]
  simp only [Option.bind_some]
  rw [if_pos]
  obtain ⟨ax, hd⟩ := hx
  rw [Bool.or_eq_true]
  have e : ((b.1 * H + b.2) / H, (b.1 * H + b.2) % H) = b := Prod.ext hq.2.1 hq.2.2
  cases ax with
  | true => exact .inl ((a1 _ hq.1).2 ((rch_iff h hst ha true n al h1 _ hq.1).2 (by rw [e]; exact hd)))
  | false => exact .inr ((c1 _ hq.1).2 ((rch_iff h hst ha false n ac h2 _ hq.1).2 (by rw [e]; exact hd)))
 | succ m ih =>
  intro n al ac hn h1 h2 k hk
  obtain ⟨k, rfl⟩ : ∃ j, k = j + 1 := ⟨k - 1, by omega⟩
  obtain ⟨al', a1, a2⟩ := all_some s t s true N (h.lt hst true) al N al (by omega) (fun j hj hc => .base hj hc) (fun j hj => hj)
  obtain ⟨ac', c1, c2⟩ := all_some s t t false N (h.lt hst false) ac N ac (by omega) (fun j hj hc => .base hj hc) (fun j hj => hj)
  have r1 := fun i hi => (a1 i hi).trans (rch_iff h hst ha true n al h1 i hi)
  have r2 := fun i hi => (c1 i hi).trans (rch_iff h hst ha false n ac h2 i hi)
  have e : ((b.1 * H + b.2) / H, (b.1 * H + b.2) % H) = b := Prod.ext hq.2.1 hq.2.2
  unfold spec_FewestTurns.rounds
  rw [if_pos (by omega), a2 k (by omega), c2 k (by omega)]
  simp only [Option.bind_some]
  have hor : ∀ i, i < N → ((al' i || ac' i) = true ↔ Ahd st a (n + 1) (i / H, i % H)) := fun i hi => by
   rw [Bool.or_eq_true, r1 i hi, r2 i hi]
   constructor
   ·rintro (z | z)
    ·exact .inr ⟨n, rfl, _, z⟩
    ·exact .inr ⟨n, rfl, _, z⟩
   ·rintro (⟨z, -⟩ | ⟨u, hu, ax, z⟩)
    ·omega
    ·obtain rfl : u = n := by omega
     cases ax
     ·exact .inr z
     ·exact .inl z
  rw [if_neg]
  ·exact ih (n + 1) _ _ (by omega) hor hor k (by omega)
  ·intro z
   rcases (hor _ hq.1).1 z with ⟨z, -⟩ | ⟨u, hu, ax, hd⟩
   ·omega
   ·rw [e] at hd
    exact hl u (by omega) ax hd
theorem can_sign {s t : ByteArray} (hg : spec_owFar.Signs s t) {x y n : Nat} (hx : x < t.size) (hy : y < s.size) (hn : n < 4) (h : impl_driveIn.can s t x y n = true) : impl_driveIn.sg n = if axis n = true then bt s y else bt t x := by
 unfold impl_driveIn.can at h
 rw [Bool.and_eq_true, Bool.or_eq_true, decide_eq_true_eq, decide_eq_true_eq, decide_eq_true_eq] at h
 have c : n = 0 ∨ n = 1 ∨ n = 2 ∨ n = 3 := by omega
 have h1 := hg.2.1 y hy
 have h2 := hg.2.2 x hx
 have h3 := h.2
 rcases c with rfl | rfl | rfl | rfl <;> simp only [impl_driveIn.sg, axis] at h3 ⊢ <;> simp at h3 ⊢ <;> omega
theorem sg_inj {n m : Nat} (hn : n < 4) (hm : m < 4) (h : impl_driveIn.sg n = impl_driveIn.sg m) : n = m := by
 have c : n = 0 ∨ n = 1 ∨ n = 2 ∨ n = 3 := by omega
 have c' : m = 0 ∨ m = 1 ∨ m = 2 ∨ m = 3 := by omega
 rcases c with rfl | rfl | rfl | rfl <;> rcases c' with rfl | rfl | rfl | rfl <;> simp [impl_driveIn.sg] at h ⊢
theorem stp_can (s t : ByteArray) (p : Nat × Nat) (n : Nat) : impl_distancesBy.stp false s t p n = if impl_driveIn.can s t p.1 p.2 n = true then some (((p.1 : Int) + impl_driveIn.dx n).toNat, ((p.2 : Int) + impl_driveIn.dy n).toNat) else none := by
 unfold impl_distancesBy.stp
 by_cases h : impl_driveIn.can s t p.1 p.2 n = true
 ·have h' := h
  unfold impl_driveIn.can at h'
  rw [Bool.and_eq_true, decide_eq_true_eq] at h'
  rw [if_pos h, if_pos ⟨h'.1, by simpa using h⟩]
 ·rw [if_neg h, if_neg (fun z => h (by simpa using z.2))]
theorem stp_in {s t : ByteArray} {p q : Nat × Nat} {n : Nat} (h : impl_distancesBy.stp false s t p n = some q) : impl_driveIn.can s t p.1 p.2 n = true ∧ InC s t q ∧ (q.1 : Int) = p.1 + impl_driveIn.dx n ∧ (q.2 : Int) = p.2 + impl_driveIn.dy n := by
 rw [stp_can] at h
 obtain ⟨h1, h2⟩ := Option.ite_none_right_eq_some.1 h
 have h' := h1
 unfold impl_driveIn.can at h'
 rw [Bool.and_eq_true, decide_eq_true_eq] at h'
 obtain ⟨⟨⟨a1, a2⟩, a3, a4⟩, -⟩ := h'
 have e := Option.some.inj h2
 subst e
 refine ⟨h1, ⟨?_, ?_⟩, Int.toNat_of_nonneg a1, Int.toNat_of_nonneg a3⟩
 ·show (Int.toNat _) < _
  omega
 ·show (Int.toNat _) < _
  omega
theorem steps_of {s t : ByteArray} (hg : spec_owFar.Signs s t) : Steps (InC s t) s t (impl_distancesBy.stp false s t) where
 small := fun p hp => by
  have := hp.1
  have := hp.2
  have := hg.1.1.2
  have := hg.1.2.2
  omega
 stay := fun p m q _ h => (stp_in h).2.1
 one := fun p m q r n p1 h1 h2 hm hn hax => by
  obtain ⟨c1, i1, e1, e2⟩ := stp_in h1
  obtain ⟨c2, i2, e3, e4⟩ := stp_in h2
  have s1 := can_sign hg p1.1 p1.2 hm c1
  have s2 := can_sign hg i1.1 i1.2 hn c2
  refine sg_inj hn hm ?_
  rw [s1, s2, hax]
  have c : m = 0 ∨ m = 1 ∨ m = 2 ∨ m = 3 := by omega
  rcases c with rfl | rfl | rfl | rfl
  ·rw [if_pos (by simp [axis]), if_pos (by simp [axis]), show q.2 = p.2 by simp [impl_driveIn.dy] at e2; omega]
  ·rw [if_neg (by simp [axis]), if_neg (by simp [axis]), show q.1 = p.1 by simp [impl_driveIn.dx] at e1; omega]
  ·rw [if_neg (by simp [axis]), if_neg (by simp [axis]), show q.1 = p.1 by simp [impl_driveIn.dx] at e1; omega]
  ·rw [if_pos (by simp [axis]), if_pos (by simp [axis]), show q.2 = p.2 by simp [impl_driveIn.dy] at e2; omega]
 can := fun p _ _ => stp_can s t (p.1, p.2.1) p.2.2
theorem stp_true {s t : ByteArray} (hg : spec_owFar.Signs s t) (al : Bool) {x y : Nat} (hx : x < t.size) (hy : y < s.size) : ∃ n, n < 4 ∧ axis n = al ∧ impl_driveIn.sg n = (if al = true then bt s y else bt t x) ∧ (spec_owFar.Stp s t x y (impl_driveIn.sg n)).2.2 = impl_driveIn.can s t x y n ∧ (impl_driveIn.can s t x y n = true → (spec_owFar.Stp s t x y (impl_driveIn.sg n)).1 = (x : Int) + impl_driveIn.dx n ∧ (spec_owFar.Stp s t x y (impl_driveIn.sg n)).2.1 = (y : Int) + impl_driveIn.dy n) := by
 have h1 := hg.2.1 y hy
 have h2 := hg.2.2 x hx
 obtain ⟨n, hn, hax, hs⟩ : ∃ n, n < 4 ∧ axis n = al ∧ impl_driveIn.sg n = (if al = true then bt s y else bt t x) := by
  cases al with
  | true => exact h1.elim (fun e => ⟨0, by omega, rfl, by rw [if_pos rfl, e]; rfl⟩) (fun e => ⟨3, by omega, rfl, by rw [if_pos rfl, e]; rfl⟩)
  | false => exact h2.elim (fun e => ⟨1, by omega, rfl, by rw [if_neg (by simp), e]; rfl⟩) (fun e => ⟨2, by omega, rfl, by rw [if_neg (by simp), e]; rfl⟩)
 refine ⟨n, hn, hax, hs, ?_⟩
 have c : n = 0 ∨ n = 1 ∨ n = 2 ∨ n = 3 := by omega
 unfold impl_driveIn.can spec_owFar.Stp impl_driveIn.dx impl_driveIn.dy
 rcases c with rfl | rfl | rfl | rfl <;> subst hax <;> simp [axis, impl_driveIn.sg] at hs ⊢ <;> rcases h1 with a | a <;> rcases h2 with b | b <;> rw [a, b] at * <;> simp at hs ⊢ <;> constructor <;> first | omega | (rw [Bool.eq_iff_iff]; simp; omega)
theorem cor_of {s t : ByteArray} (hg : spec_owFar.Signs s t) : Cor (InC s t) s t (impl_distancesBy.stp false s t) (s.size * t.size) s.size where
 inn := fun i hi => ⟨Nat.div_lt_of_lt_mul hi, Nat.mod_lt _ (by have := hg.1.2.1; omega)⟩
 idx := fun p hp => ⟨by rw [Nat.mul_comm s.size]; exact spec_owFar.cd_lt _ _ _ _ hp.1 hp.2, spec_owFar.cd_div _ _ _ hp.2⟩
 nx := fun al i hi j => by
  have hx : i / s.size < t.size := Nat.div_lt_of_lt_mul hi
  have hy : i % s.size < s.size := Nat.mod_lt _ (by have := hg.1.2.1; omega)
  obtain ⟨n, hn, hax, hs, hc, hv⟩ := stp_true hg al hx hy
  have e : (bt (if al = true then s else t) ((if al = true then i % s.size else i / s.size % (if al = true then s else t).size : Nat) : Int)) = impl_driveIn.sg n := by
   rw [hs]
   cases al with
   | true => rfl
   | false => simp only [Bool.false_eq_true, if_false]; rw [Nat.mod_eq_of_lt hx]
  unfold spec_owRun.nx
  rw [e, hc]
  constructor
  ·intro h
   obtain ⟨h1, h2⟩ := Option.ite_none_right_eq_some.1 h
   refine ⟨n, _, hn, hax, by rw [stp_can, if_pos h1], ?_⟩
   have e2 := Option.some.inj h2
   rw [(hv h1).1, (hv h1).2] at e2
   have hi2 := stp_in (s := s) (t := t) (p := (i / s.size, i % s.size)) (n := n) (q := _) (by rw [stp_can, if_pos h1])
   obtain ⟨-, -, e3, e4⟩ := hi2
   simp only at e3 e4 ⊢
   rw [← e2, ← e3, ← e4, ← Int.natCast_mul, ← Int.natCast_add, Int.toNat_natCast]
   simp only [Int.toNat_natCast]
  ·rintro ⟨m, q, hm, hax2, hq, rfl⟩
   obtain ⟨h1, h2, e3, e4⟩ := stp_in hq
   have hnm : n = m := sg_inj hn hm (by rw [hs, can_sign hg hx hy hm h1, hax2])
   subst hnm
   rw [if_pos h1, (hv h1).1, (hv h1).2]
   simp only at e3 e4
   rw [← e3, ← e4, ← Int.natCast_mul, ← Int.natCast_add, Int.toNat_natCast]
theorem pos_val (x : Int) (h0 : 0 ≤ x) (h1 : x ≤ 255) : impl_TurnsOfWord.pos x = if x = 101 then 0 else if x = 110 then 1 else if x = 119 then 2 else if x = 115 then 3 else -1 := by
 have key : ∀ u : UInt8, (u == x.toNat.toUInt8) = decide (x = (u.toNat : Int)) := by
  intro u
  have hx : x.toNat.toUInt8.toNat = x.toNat := by simp; omega
  rw [Bool.eq_iff_iff, beq_iff_eq, decide_eq_true_eq, ← UInt8.toNat_inj, hx]
  omega
 unfold impl_TurnsOfWord.pos
 simp only [Go.Lib.indexByte, key]
 have e1 : ((101 : UInt8).toNat : Int) = 101 := rfl
 have e2 : ((110 : UInt8).toNat : Int) = 110 := rfl
 have e3 : ((119 : UInt8).toNat : Int) = 119 := rfl
 have e4 : ((115 : UInt8).toNat : Int) = 115 := rfl
 rw [e1, e2, e3, e4]
 by_cases c1 : x = 101
 ·simp [c1]
 ·by_cases c2 : x = 110
  ·simp [c2]
  ·by_cases c3 : x = 119
   ·simp [c3]
   ·by_cases c4 : x = 115
    ·simp [c4]
    ·simp [c1, c2, c3, c4]
theorem owSign_pos (x : Int) (h0 : 0 ≤ x) (h1 : x ≤ 255) : spec_owSign.f x = some (decide (0 ≤ impl_TurnsOfWord.pos x)) := by
 rw [pos_val x h0 h1]
 unfold spec_owSign.f
 by_cases c1 : x = 101
 ·simp [c1]
 ·by_cases c2 : x = 110
  ·simp [c2]
  ·by_cases c3 : x = 119
   ·simp [c3]
   ·by_cases c4 : x = 115
    ·simp [c4]
    ·simp [c1, c2, c3, c4]
theorem owWay_pos (x : Int) (h0 : 0 ≤ x) (h1 : x ≤ 255) : spec_owWay.f x = some (impl_TurnsOfWord.pos x) := by
 rw [pos_val x h0 h1]
 unfold spec_owWay.f
 by_cases c1 : x = 101
 ·simp [c1]
 ·by_cases c2 : x = 110
  ·simp [c2]
  ·by_cases c3 : x = 119
   ·simp [c3]
   ·by_cases c4 : x = 115
    ·simp [c4]
    ·simp [c1, c2, c3, c4]
theorem pos_le (x : Int) : -1 ≤ impl_TurnsOfWord.pos x ∧ impl_TurnsOfWord.pos x ≤ 3 := impl_TurnsOfWord.pos_range x
def PrevOk (s : ByteArray) (i : Nat) : Prop := 0 < i → 0 ≤ impl_TurnsOfWord.pos (bt s ((i : Int) - 1))
theorem prevOk_step {s : ByteArray} {i : Nat} (h : 0 ≤ impl_TurnsOfWord.pos (bt s i)) : PrevOk s (i + 1) := by
 intro _
 rw [show ((i + 1 : Nat) : Int) - 1 = (i : Int) by omega]
 exact h
theorem about (s : ByteArray) (hs : s.size ≤ 100) : ∀ i : Nat, i ≤ s.size → PrevOk s i → ∀ t0 t1 t2 t3 : Int, 0 ≤ t0 → t0 ≤ i → 0 ≤ t1 → t1 ≤ i → 0 < t2 → t2 ≤ i → 0 ≤ t3 → t3 ≤ i →
  impl_TurnsOfWord.l (101 - i) s i t0 t1 t2 t3 = some (0, 0, false) := by
 refine down s.size ?_ ?_
 ·intro _ t0 t1 t2 t3 _ _ _ _ h _ _ _
  rw [show 101 - s.size = (100 - s.size) + 1 by omega]
  simp only [impl_TurnsOfWord.l]
  rw [if_neg (by omega), if_pos h]
 ·intro i hi ih hp t0 t1 t2 t3 a0 b0 a1 b1 a2 b2 a3 b3
  rw [show 101 - i = (100 - i) + 1 by omega]
  simp only [impl_TurnsOfWord.l]
  rw [if_pos hi]
  by_cases c : impl_TurnsOfWord.pos (bt s i) < 0
  ·rw [if_pos c]
  ·rw [if_neg c]
   have ih := ih (prevOk_step (by omega))
   rw [show 101 - (i + 1) = 100 - i by omega] at ih
   by_cases z : 0 < i
   ·rw [if_pos z]
    have q := hp z
    have r1 := pos_le (bt s i)
    have r2 := pos_le (bt s ((i : Int) - 1))
    generalize impl_TurnsOfWord.pos (bt s i) = p at c r1
    generalize impl_TurnsOfWord.pos (bt s ((i : Int) - 1)) = u at q r2
    have hj : (p - u + 4).tmod 4 = 0 ∨ (p - u + 4).tmod 4 = 1 ∨ (p - u + 4).tmod 4 = 2 ∨ (p - u + 4).tmod 4 = 3 := by
     rw [Int.tmod_eq_emod_of_nonneg (by omega)]; omega
    rcases hj with e | e | e | e
    ·rw [if_pos e, w64 (by omega) (by omega)]
     exact ih _ _ _ _ (by omega) (by omega) a1 (by omega) a2 (by omega) a3 (by omega)
    ·rw [if_neg (by omega), if_pos e, w64 (by omega) (by omega)]
     exact ih _ _ _ _ a0 (by omega) (by omega) (by omega) a2 (by omega) a3 (by omega)
    ·rw [if_neg (by omega), if_neg (by omega), if_pos e, w64 (by omega) (by omega)]
     exact ih _ _ _ _ a0 (by omega) a1 (by omega) (by omega) (by omega) a3 (by omega)
    ·rw [if_neg (by omega), if_neg (by omega), if_neg (by omega), if_pos e, w64 (by omega) (by omega)]
     exact ih _ _ _ _ a0 (by omega) a1 (by omega) a2 (by omega) (by omega) (by omega)
   ·rw [if_neg z]
    exact ih _ _ _ _ a0 (by omega) a1 (by omega) a2 (by omega) a3 (by omega)
theorem turns_same (s : ByteArray) (hs : s.size ≤ 100) : ∀ i : Nat, i ≤ s.size → PrevOk s i → ∀ t0 t1 t3 : Int, 0 ≤ t0 → t0 ≤ i → 0 ≤ t1 → t1 ≤ i → 0 ≤ t3 → t3 ≤ i →
  ∃ v, impl_TurnsOfWord.l (101 - i) s i t0 t1 0 t3 = some v ∧ Ev (fun k => spec_TurnsOfWord.l0 k s t1 t3 i) v := by
 refine down s.size ?_ ?_
 ·intro _ t0 t1 t3 _ _ _ _ _ _
  refine ⟨(t1, t3, true), ?_, succ ?_⟩
  ·rw [show 101 - s.size = (100 - s.size) + 1 by omega]
   simp only [impl_TurnsOfWord.l]
   rw [if_neg (by omega), if_neg (by omega)]
  ·simp only [spec_TurnsOfWord.l0]
   exact neg (by omega) (now _)
 ·intro i hi ih hp t0 t1 t3 a0 b0 a1 b1 a3 b3
  have hb := bt_range s i
  have hb2 := bt_range s ((i : Int) - 1)
  have s1 := owSign_pos (bt s i) hb.1 hb.2
  have s2 := owWay_pos (bt s i) hb.1 hb.2
  have s3 := owWay_pos (bt s ((i : Int) - 1)) hb2.1 hb2.2
  have i1 : ∀ t2, impl_TurnsOfWord.l (101 - i) s i t0 t1 t2 t3 = impl_TurnsOfWord.l ((100 - i) + 1) s i t0 t1 t2 t3 := fun t2 => by rw [show 101 - i = (100 - i) + 1 by omega]
  have ab := about s hs (i + 1) (by omega)
  rw [show 101 - (i + 1) = 100 - i by omega] at ih ab
  have r1 := pos_le (bt s i)
  have r2 := pos_le (bt s ((i : Int) - 1))
  by_cases c : impl_TurnsOfWord.pos (bt s i) < 0
  ·refine ⟨(0, 0, false), ?_, succ ?_⟩
   ·rw [i1]; simp only [impl_TurnsOfWord.l]; rw [if_pos hi, if_pos c]
   ·simp only [spec_TurnsOfWord.l0]
    exact pos (by omega) (pos (by omega) (bindSome s1 (neg (by simp; omega) (now _))))
  ·have hp1 := prevOk_step (s := s) (i := i) (by omega)
   by_cases z : 0 < i
   ·have q := hp z
    have hj : (impl_TurnsOfWord.pos (bt s i) - impl_TurnsOfWord.pos (bt s ((i : Int) - 1)) + 4).tmod 4 = 0 ∨ (impl_TurnsOfWord.pos (bt s i) - impl_TurnsOfWord.pos (bt s ((i : Int) - 1)) + 4).tmod 4 = 1 ∨ (impl_TurnsOfWord.pos (bt s i) - impl_TurnsOfWord.pos (bt s ((i : Int) - 1)) + 4).tmod 4 = 2 ∨ (impl_TurnsOfWord.pos (bt s i) - impl_TurnsOfWord.pos (bt s ((i : Int) - 1)) + 4).tmod 4 = 3 := by
     rw [Int.tmod_eq_emod_of_nonneg (by omega)]; omega
    have w1 : wrap64 (wrap64 (4 + impl_TurnsOfWord.pos (bt s i)) - impl_TurnsOfWord.pos (bt s ((i : Int) - 1))) = impl_TurnsOfWord.pos (bt s i) - impl_TurnsOfWord.pos (bt s ((i : Int) - 1)) + 4 := by unfold wrap64; omega
    have spec : ∀ v, Ev (fun k => if (impl_TurnsOfWord.pos (bt s i) - impl_TurnsOfWord.pos (bt s ((i : Int) - 1)) + 4).tmod 4 = 1 then spec_TurnsOfWord.l0 k s (wrap64 (t1 + 1)) t3 ((i + 1 : Nat) : Int) else if (impl_TurnsOfWord.pos (bt s i) - impl_TurnsOfWord.pos (bt s ((i : Int) - 1)) + 4).tmod 4 = 2 then some (0, 0, false) else if (impl_TurnsOfWord.pos (bt s i) - impl_TurnsOfWord.pos (bt s ((i : Int) - 1)) + 4).tmod 4 = 3 then spec_TurnsOfWord.l0 k s t1 (wrap64 (t3 + 1)) ((i + 1 : Nat) : Int) else spec_TurnsOfWord.l0 k s t1 t3 ((i + 1 : Nat) : Int)) v → Ev (fun k => spec_TurnsOfWord.l0 k s t1 t3 i) v := by
     intro v h
     refine succ ?_
     simp only [spec_TurnsOfWord.l0]
     rw [wnat (by omega), wsub1 (by omega)]
     refine pos (by omega) (pos (by omega) (bindSome s1 (pos (by simp; omega) (neg (by omega) (bindSome s2 (pos (by omega) (pos (by omega) (bindSome s3 ?_))))))))
     rw [w1]
     exact h
    rcases hj with e | e | e | e
    ·obtain ⟨v, g1, g2⟩ := ih hp1 (t0 + 1) t1 t3 (by omega) (by omega) a1 (by omega) a3 (by omega)
     refine ⟨v, ?_, spec v (neg (by omega) (neg (by omega) (neg (by omega) g2)))⟩
     rw [i1]; simp only [impl_TurnsOfWord.l]
     rw [if_pos hi, if_neg c, if_pos z, if_pos e, w64 (by omega) (by omega)]
     exact g1
    ·obtain ⟨v, g1, g2⟩ := ih hp1 t0 (t1 + 1) t3 a0 (by omega) (by omega) (by omega) a3 (by omega)
     refine ⟨v, ?_, spec v (pos e ?_)⟩
     ·rw [i1]; simp only [impl_TurnsOfWord.l]
      rw [if_pos hi, if_neg c, if_pos z, if_neg (by omega), if_pos e, w64 (by omega) (by omega)]
      exact g1
     ·rw [w64 (by omega) (by omega)]; exact g2
    ·refine ⟨(0, 0, false), ?_, spec _ (neg (by omega) (pos e (now _)))⟩
     rw [i1]; simp only [impl_TurnsOfWord.l]
     rw [if_pos hi, if_neg c, if_pos z, if_neg (by omega), if_neg (by omega), if_pos e, w64 (by omega) (by omega)]
     exact ab hp1 t0 t1 _ t3 a0 (by omega) a1 (by omega) (by omega) (by omega) a3 (by omega)
    ·obtain ⟨v, g1, g2⟩ := ih hp1 t0 t1 (t3 + 1) a0 (by omega) a1 (by omega) (by omega) (by omega)
     refine ⟨v, ?_, spec v (neg (by omega) (neg (by omega) (pos e ?_)))⟩
     ·rw [i1]; simp only [impl_TurnsOfWord.l]
      rw [if_pos hi, if_neg c, if_pos z, if_neg (by omega), if_neg (by omega), if_neg (by omega), if_pos e, w64 (by omega) (by omega)]
      exact g1
     ·rw [w64 (by omega) (by omega)]; exact g2
   ·obtain ⟨v, g1, g2⟩ := ih hp1 t0 t1 t3 a0 (by omega) a1 (by omega) a3 (by omega)
    refine ⟨v, ?_, succ ?_⟩
    ·rw [i1]; simp only [impl_TurnsOfWord.l]
     rw [if_pos hi, if_neg c, if_neg z]
     exact g1
    ·simp only [spec_TurnsOfWord.l0]
     rw [wnat (by omega)]
     exact pos (by omega) (pos (by omega) (bindSome s1 (pos (by simp; omega) (pos (by omega) g2))))
def wk (s t : ByteArray) : Nat × Nat → List Nat → Option (Nat × Nat)
 | p, [] => some p
 | p, m :: l => if m < 4 then (impl_distancesBy.stp false s t p m).bind fun q => wk s t q l else none
theorem wk_cons {s t : ByteArray} {p : Nat × Nat} {m : Nat} {l : List Nat} {r : Nat × Nat} (h : wk s t p (m :: l) = some r) : m < 4 ∧ ∃ q, impl_distancesBy.stp false s t p m = some q ∧ wk s t q l = some r := by
 simp only [wk] at h
 obtain ⟨h1, h2⟩ := Option.ite_none_right_eq_some.1 h
 obtain ⟨q, h3, h4⟩ := Option.bind_eq_some_iff.1 h2
 exact ⟨h1, q, h3, h4⟩
theorem wk_mk {s t : ByteArray} {p q r : Nat × Nat} {m : Nat} {l : List Nat} (hm : m < 4) (h : impl_distancesBy.stp false s t p m = some q) (h2 : wk s t q l = some r) : wk s t p (m :: l) = some r := by
 simp only [wk]
 rw [if_pos hm, h, Option.bind_some, h2]
theorem wk_in {s t : ByteArray} : ∀ (l : List Nat) (p r : Nat × Nat), InC s t p → wk s t p l = some r → InC s t r := by
 intro l
 induction l with
 | nil => intro p r hp h; simp only [wk] at h; exact Option.some.inj h ▸ hp
 | cons m l ih =>
  intro p r hp h
  obtain ⟨hm, q, h1, h2⟩ := wk_cons h
  exact ih q r (stp_in h1).2.1 h2
theorem wk_path {s t : ByteArray} : ∀ (l : List Nat) (p r : Nat × Nat), wk s t p l = some r → Path (Leads (impl_distancesBy.stp false s t)) l.length p r := by
 intro l
 induction l with
 | nil => intro p r h; simp only [wk] at h; rw [Option.some.inj h]; exact .nil r
 | cons m l ih =>
  intro p r h
  obtain ⟨hm, q, h1, h2⟩ := wk_cons h
  exact Path.cons ⟨m, hm, h1⟩ (ih q r h2)
def tc : List Nat → Nat
 | [] => 0
 | [_] => 0
 | m :: m' :: l => (if m = m' then 0 else 1) + tc (m' :: l)
theorem wk_dr {s t : ByteArray} (hg : spec_owFar.Signs s t) (A : Nat × Nat) : ∀ (l : List Nat) (m0 u : Nat) (p' p r : Nat × Nat), m0 < 4 → InC s t p' → impl_distancesBy.stp false s t p' m0 = some p → Dr (impl_distancesBy.stp false s t) A u p (axis m0) → wk s t p l = some r → ∃ ax, Dr (impl_distancesBy.stp false s t) A (u + tc (m0 :: l)) r ax := by
 intro l
 induction l with
 | nil => intro m0 u p' p r _ _ _ hd h; simp only [wk] at h; rw [← Option.some.inj h]; exact ⟨_, hd⟩
 | cons m l ih =>
  intro m0 u p' p r hm0 hp' hs hd h
  obtain ⟨hm, q, h1, h2⟩ := wk_cons h
  have hp := (stp_in hs).2.1
  simp only [tc]
  by_cases e : m0 = m
  ·subst e
   rw [if_pos rfl, Nat.zero_add]
   exact ih m0 u p q r hm hp h1 (.drive hd hm h1) h2
  ·rw [if_neg e]
   have hax : axis m = !axis m0 := by
    have hne : axis m ≠ axis m0 := fun z => e ((steps_of hg).one p' m0 p q m hp' hs h1 hm0 hm z).symm
    cases a : axis m <;> cases b : axis m0 <;> simp_all
   have z := hd.turn
   rw [← hax] at z
   have w := ih m (u + 1) p q r hm hp h1 (.drive z hm h1) h2
   rw [show u + (1 + tc (m :: l)) = u + 1 + tc (m :: l) by omega]
   exact w
theorem wk_turns {s t : ByteArray} (hg : spec_owFar.Signs s t) (l : List Nat) (p r : Nat × Nat) (hp : InC s t p) (h : wk s t p l = some r) : ∃ ax, Dr (impl_distancesBy.stp false s t) p (tc l) r ax := by
 cases l with
 | nil => simp only [wk] at h; rw [← Option.some.inj h]; exact ⟨true, .start true⟩
 | cons m l =>
  obtain ⟨hm, q, h1, h2⟩ := wk_cons h
  have z := wk_dr hg p l m 0 p q r hm hp h1 (.drive (.start (axis m)) hm h1) h2
  rwa [Nat.zero_add] at z
theorem wk_adj {s t : ByteArray} (hg : spec_owFar.Signs s t) : ∀ (l : List Nat) (p r : Nat × Nat), InC s t p → wk s t p l = some r → ∀ j, (h : j + 1 < l.length) → l[j]'(by omega) = l[j + 1] ∨ axis (l[j]'(by omega)) ≠ axis l[j + 1] := by
 intro l
 induction l with
 | nil => intro p r _ _ j h; simp at h
 | cons m l ih =>
  intro p r hp h j hj
  obtain ⟨hm, q, h1, h2⟩ := wk_cons h
  cases j with
  | succ j => exact ih q r (stp_in h1).2.1 h2 j (by simpa using hj)
  | zero =>
   cases l with
   | nil => simp at hj
   | cons m' l =>
    obtain ⟨hm', q', h3, h4⟩ := wk_cons h2
    by_cases z : axis m' = axis m
    ·exact .inl ((steps_of hg).one p m q q' m' hp h1 h3 hm hm' z).symm
    ·exact .inr (fun e => z e.symm)
def Spell (w : ByteArray) (l : List Nat) : Prop := w.size = l.length ∧ ∀ j, (h : j < l.length) → l[j] < 4 ∧ bt w (j : Int) = impl_driveIn.sg l[j]
theorem idx_of (m : Nat) (h : m < 4) : impl_DriveWord.idx (impl_driveIn.sg m) = (m : Int) := by
 have c : m = 0 ∨ m = 1 ∨ m = 2 ∨ m = 3 := by omega
 rcases c with rfl | rfl | rfl | rfl <;> rfl
theorem idx_back (c : Int) (h : 0 ≤ impl_DriveWord.idx c) : ∃ n : Nat, n < 4 ∧ impl_DriveWord.idx c = n ∧ impl_driveIn.sg n = c := by
 unfold impl_DriveWord.idx at h ⊢
 split
 ·rename_i e; exact ⟨0, by omega, rfl, e.symm⟩
 split
 ·rename_i e; exact ⟨1, by omega, rfl, e.symm⟩
 split
 ·rename_i e; exact ⟨2, by omega, rfl, e.symm⟩
 split
 ·rename_i e; exact ⟨3, by omega, rfl, e.symm⟩
 ·rename_i e1 e2 e3 e4; rw [if_neg e1, if_neg e2, if_neg e3, if_neg e4] at h; omega
theorem path_wk (s t w : ByteArray) : ∀ (n i : Nat) (p : Nat × Nat) (X Y : Int), impl_DriveWord.path s t w n i p.1 p.2 = some (X, Y) → ∃ l : List Nat, l.length = n ∧ (∀ j, (h : j < l.length) → l[j] < 4 ∧ bt w ((i + j : Nat) : Int) = impl_driveIn.sg l[j]) ∧ ∃ q, wk s t p l = some q ∧ X = q.1 ∧ Y = q.2 := by
 intro n
 induction n with
 | zero =>
  intro i p X Y h
  simp only [impl_DriveWord.path] at h
  have e := Option.some.inj h
  refine ⟨[], rfl, fun j hj => by simp at hj, p, rfl, ?_, ?_⟩
  ·exact (congrArg Prod.fst e).symm
  ·exact (congrArg Prod.snd e).symm
 | succ n ih =>
  intro i p X Y h
  simp only [impl_DriveWord.path] at h
  obtain ⟨h1, h⟩ := Option.ite_none_right_eq_some.1 h
  obtain ⟨h2, h⟩ := Option.ite_none_right_eq_some.1 h
  obtain ⟨m, hm, e1, e2⟩ := idx_back _ h1
  rw [e1, Int.toNat_natCast] at h2 h
  have hs : impl_distancesBy.stp false s t p m = some (((p.1 : Int) + impl_driveIn.dx m).toNat, ((p.2 : Int) + impl_driveIn.dy m).toNat) := by rw [stp_can, if_pos h2]
  obtain ⟨-, -, g1, g2⟩ := stp_in hs
  rw [← g1, ← g2] at h
  obtain ⟨l, hl, hb, q, hq, hX, hY⟩ := ih (i + 1) _ X Y h
  refine ⟨m :: l, by simp [hl], fun j hj => ?_, q, wk_mk hm hs hq, hX, hY⟩
  cases j with
  | zero => exact ⟨hm, e2.symm⟩
  | succ j =>
   have z := hb j (by simpa using hj)
   rw [show i + (j + 1) = i + 1 + j by omega]
   exact z
theorem wk_to_path (s t w : ByteArray) : ∀ (l : List Nat) (i : Nat) (p q : Nat × Nat), (∀ j, (h : j < l.length) → l[j] < 4 ∧ bt w ((i + j : Nat) : Int) = impl_driveIn.sg l[j]) → wk s t p l = some q → impl_DriveWord.path s t w l.length i p.1 p.2 = some ((q.1 : Int), (q.2 : Int)) := by
 intro l
 induction l with
 | nil => intro i p q _ h; simp only [wk] at h; rw [← Option.some.inj h]; rfl
 | cons m l ih =>
  intro i p q hb h
  obtain ⟨hm, r, h1, h2⟩ := wk_cons h
  obtain ⟨hc, -, g1, g2⟩ := stp_in h1
  have e0 := (hb 0 (by simp)).2
  rw [Nat.add_zero] at e0
  have e0' : bt w (i : Int) = impl_driveIn.sg m := e0
  simp only [List.length_cons, impl_DriveWord.path]
  rw [e0', idx_of m hm, if_pos (by omega), Int.toNat_natCast, if_pos hc, ← g1, ← g2]
  exact ih (i + 1) r q (fun j hj => by
   have z := hb (j + 1) (by simpa using hj)
   rw [show i + (j + 1) = i + 1 + j by omega] at z
   exact z) h2
theorem pos_of (m : Nat) (h : m < 4) : impl_TurnsOfWord.pos (impl_driveIn.sg m) = if m = 0 then 0 else if m = 1 then 1 else if m = 3 then 2 else 3 := by
 have c : m = 0 ∨ m = 1 ∨ m = 2 ∨ m = 3 := by omega
 rcases c with rfl | rfl | rfl | rfl <;> rw [pos_val _ (by decide) (by decide)] <;> rfl
theorem turns_l (w : ByteArray) (hw : w.size ≤ 100) (l : List Nat) (hl : Spell w l) (ha : ∀ j, (h : j + 1 < l.length) → l[j]'(by omega) = l[j + 1] ∨ axis (l[j]'(by omega)) ≠ axis l[j + 1]) : ∀ i : Nat, i ≤ w.size → 0 < i → ∀ t0 t1 t3 : Int, 0 ≤ t0 → t0 ≤ i → 0 ≤ t1 → t1 ≤ i → 0 ≤ t3 → t3 ≤ i →
  ∃ a b : Nat, impl_TurnsOfWord.l (101 - i) w i t0 t1 0 t3 = some (t1 + a, t3 + b, true) ∧ a + b = tc (l.drop (i - 1)) ∧ a + b ≤ w.size - i := by
 refine down w.size ?_ ?_
 ·intro h0 t0 t1 t3 _ _ _ _ _ _
  refine ⟨0, 0, ?_, ?_, by omega⟩
  ·rw [show 101 - w.size = (100 - w.size) + 1 by omega]
   simp only [impl_TurnsOfWord.l]
   rw [if_neg (by omega), if_neg (by omega)]
   simp
  ·rw [List.drop_eq_getElem_cons (by have := hl.1; omega), show w.size - 1 + 1 = w.size by omega, List.drop_of_length_le (by have := hl.1; omega)]
   rfl
 ·intro i hi ih h0 t0 t1 t3 a0 b0 a1 b1 a3 b3
  have hil : i < l.length := by have := hl.1; omega
  obtain ⟨m4, e1⟩ := hl.2 i hil
  obtain ⟨m4', e2⟩ := hl.2 (i - 1) (by omega)
  rw [show ((i - 1 : Nat) : Int) = (i : Int) - 1 by omega] at e2
  have hadj := ha (i - 1) (by omega)
  simp only [show i - 1 + 1 = i by omega] at hadj
  have htc : tc (l.drop (i - 1)) = (if l[i - 1] = l[i] then 0 else 1) + tc (l.drop i) := by
   rw [List.drop_eq_getElem_cons (show i - 1 < l.length by omega), show i - 1 + 1 = i by omega, List.drop_eq_getElem_cons hil]
   rfl
  rw [htc, show 101 - i = (100 - i) + 1 by omega]
  simp only [impl_TurnsOfWord.l]
  rw [e1, e2, pos_of _ m4, pos_of _ m4', if_pos hi, if_neg (by split <;> (try split) <;> (try split) <;> omega), if_pos h0]
  have ih := ih (by omega)
  rw [show 101 - (i + 1) = 100 - i by omega, show i + 1 - 1 = i by omega] at ih
  generalize l[i] = m at *
  generalize l[i - 1] = m' at *
  have c : m = 0 ∨ m = 1 ∨ m = 2 ∨ m = 3 := by omega
  have c' : m' = 0 ∨ m' = 1 ∨ m' = 2 ∨ m' = 3 := by omega
  have same : ∃ a b : Nat, impl_TurnsOfWord.l (100 - i) w (i + 1) (wrap64 (t0 + 1)) t1 0 t3 = some (t1 + a, t3 + b, true) ∧ a + b = 0 + tc (l.drop i) ∧ a + b ≤ w.size - i := by
   obtain ⟨a, b, g1, g2, g3⟩ := ih (t0 + 1) t1 t3 (by omega) (by omega) a1 (by omega) a3 (by omega)
   exact ⟨a, b, by rw [w64 (by omega) (by omega)]; exact g1, by omega, by omega⟩
  have left : ∃ a b : Nat, impl_TurnsOfWord.l (100 - i) w (i + 1) t0 (wrap64 (t1 + 1)) 0 t3 = some (t1 + a, t3 + b, true) ∧ a + b = 1 + tc (l.drop i) ∧ a + b ≤ w.size - i := by
   obtain ⟨a, b, g1, g2, g3⟩ := ih t0 (t1 + 1) t3 a0 (by omega) (by omega) (by omega) a3 (by omega)
   exact ⟨a + 1, b, by rw [w64 (by omega) (by omega), g1, show t1 + 1 + (a : Int) = t1 + ((a + 1 : Nat) : Int) by omega], by omega, by omega⟩
  have right : ∃ a b : Nat, impl_TurnsOfWord.l (100 - i) w (i + 1) t0 t1 0 (wrap64 (t3 + 1)) = some (t1 + a, t3 + b, true) ∧ a + b = 1 + tc (l.drop i) ∧ a + b ≤ w.size - i := by
   obtain ⟨a, b, g1, g2, g3⟩ := ih t0 t1 (t3 + 1) a0 (by omega) a1 (by omega) (by omega) (by omega)
   exact ⟨a, b + 1, by rw [w64 (by omega) (by omega), g1, show t3 + 1 + (b : Int) = t3 + ((b + 1 : Nat) : Int) by omega], by omega, by omega⟩
  rcases c with rfl | rfl | rfl | rfl <;> rcases c' with rfl | rfl | rfl | rfl <;> first
   | (simp [axis] at hadj; done)
   | exact same
   | exact left
   | exact right
theorem turns_of (w : ByteArray) (hw : w.size ≤ 100) (l : List Nat) (hl : Spell w l) (ha : ∀ j, (h : j + 1 < l.length) → l[j]'(by omega) = l[j + 1] ∨ axis (l[j]'(by omega)) ≠ axis l[j + 1]) : ∃ a b : Nat, impl_TurnsOfWord.f w = some ((a : Int), (b : Int), true) ∧ a + b = tc l ∧ a + b ≤ 100 := by
 unfold impl_TurnsOfWord.f
 rw [if_neg (by omega)]
 by_cases h : 0 < w.size
 ·obtain ⟨m4, e1⟩ := hl.2 0 (by have := hl.1; omega)
  obtain ⟨a, b, g1, g2, g3⟩ := turns_l w hw l hl ha 1 (by omega) (by omega) 0 0 0 (by omega) (by omega) (by omega) (by omega) (by omega) (by omega)
  refine ⟨a, b, ?_, by simpa using g2, by omega⟩
  obtain ⟨K, hK⟩ : ∃ K : Nat, K + 1 = 101 := ⟨100, rfl⟩
  rw [show 101 - 1 = K by omega] at g1
  rw [← hK]
  simp only [impl_TurnsOfWord.l]
  have h0l : 0 < l.length := by have := hl.1; omega
  have e1' : bt w ((0 : Nat) : Int) = impl_driveIn.sg (l[0]'h0l) := e1
  rw [if_pos h, e1', pos_of _ m4, if_neg (by split <;> (try split) <;> (try split) <;> omega), if_neg (by omega)]
  simpa using g1
 ·have e : l = [] := List.length_eq_zero_iff.1 (by have := hl.1; omega)
  subst e
  refine ⟨0, 0, ?_, rfl, by omega⟩
  obtain ⟨K, hK⟩ : ∃ K : Nat, K + 1 = 101 := ⟨100, rfl⟩
  rw [← hK]
  simp only [impl_TurnsOfWord.l]
  rw [if_neg h]
  rfl
def mapB (g : UInt8 → UInt8) (s : ByteArray) : ByteArray := ⟨(s.data.toList.map g).toArray⟩
def ge (u : UInt8) : UInt8 := if u = 101 then 119 else 101
def gn (u : UInt8) : UInt8 := if u = 110 then 115 else 110
theorem ba_ext {a b : ByteArray} (h : a.data.toList = b.data.toList) : a = b := by
 obtain ⟨a⟩ := a; obtain ⟨b⟩ := b
 simp only at h
 rw [Array.toList_inj.1 h]
theorem mapB_list (g : UInt8 → UInt8) (s : ByteArray) : (mapB g s).data.toList = s.data.toList.map g := rfl
theorem mapB_size (g : UInt8 → UInt8) (s : ByteArray) : (mapB g s).size = s.size := by
 show (s.data.toList.map g).toArray.size = s.data.size
 simp
theorem list_get (s : ByteArray) (i : Nat) (h : i < s.size) : s.data.toList[i]'(by rw [Array.length_toList]; exact h) = s[i] := rfl
theorem list_len (s : ByteArray) : s.data.toList.length = s.size := Array.length_toList
theorem bt_eq (s : ByteArray) (i : Nat) (h : i < s.size) (u : UInt8) : bt s (i : Int) = (u.toNat : Int) ↔ s.data.toList[i]'(by rw [list_len]; exact h) = u := by
 rw [bt_lt s i h, list_get s i h, ← UInt8.toNat_inj]
 omega
theorem way_bytes {s : ByteArray} {a b : UInt8} (h : Way s a.toNat b.toNat) : ∀ u ∈ s.data.toList, u = a ∨ u = b := by
 intro u hu
 obtain ⟨i, hi, rfl⟩ := List.getElem_of_mem hu
 have hi' : i < s.size := by rw [← list_len]; exact hi
 rcases h.2 i (by omega) hi' with g | g
 ·exact .inl ((bt_eq s i hi' a).1 g)
 ·exact .inr ((bt_eq s i hi' b).1 g)
def accB (g : UInt8 → UInt8) (s : ByteArray) (i : Nat) : ByteArray := ⟨((s.data.toList.take i).map g).toArray⟩
theorem accB_size (g : UInt8 → UInt8) (s : ByteArray) (i : Nat) (h : i ≤ s.size) : (accB g s i).size = i := by
 show ((s.data.toList.take i).map g).toArray.size = i
 rw [List.size_toArray, List.length_map, List.length_take, list_len]; omega
theorem accB_step (g : UInt8 → UInt8) (s : ByteArray) (i : Nat) (h : i < s.size) (u : UInt8) (hu : g (s.data.toList[i]'(by rw [list_len]; exact h)) = u) : accB g s i ++ (⟨#[u]⟩ : ByteArray) = accB g s (i + 1) := by
 refine ba_ext ?_
 rw [ByteArray.data_append, Array.toList_append]
 show (s.data.toList.take i).map g ++ [u] = (s.data.toList.take (i + 1)).map g
 rw [List.take_succ_eq_append_getElem (by rw [list_len]; exact h), List.map_append, List.map_cons, List.map_nil, hu]
theorem accB_zero (g : UInt8 → UInt8) (s : ByteArray) : accB g s 0 = ⟨#[]⟩ := by simp [accB]
theorem accB_end (g : UInt8 → UInt8) (s : ByteArray) : accB g s s.size = mapB g s := by
 unfold accB mapB
 rw [List.take_of_length_le (by rw [list_len]; omega)]
theorem owBack_l1 (s t acc : ByteArray) (ht : t.size ≤ 1048576) : ∀ i : Nat, i ≤ t.size → Ev (fun k => spec_owBack.l1 k i s t acc (accB gn t i)) (acc, mapB gn t) := by
 refine down t.size ?_ ?_
 ·refine succ ?_
  simp only [spec_owBack.l1]
  exact neg (by omega) (conv (now _) (by rw [accB_end]))
 ·intro i hi ih
  refine succ ?_
  simp only [spec_owBack.l1]
  rw [wnat (by omega)]
  have z := accB_size gn t i (by omega)
  refine pos (by omega) (pos (by omega) ?_)
  by_cases c : bt t i = 110
  ·refine pos c (pos (by omega) ?_)
   rw [accB_step gn t i hi 115 (by rw [(bt_eq t i hi 110).1 c]; rfl)]
   exact ih
  ·refine neg c (pos (by omega) ?_)
   rw [accB_step gn t i hi 110 (by unfold gn; rw [if_neg (fun h => c ((bt_eq t i hi 110).2 h))])]
   exact ih
theorem owBack_l0 (s t : ByteArray) (hs : s.size ≤ 1048576) (ht : t.size ≤ 1048576) : ∀ i : Nat, i ≤ s.size → Ev (fun k => spec_owBack.l0 k i s t (accB ge s i) ⟨#[]⟩) (mapB ge s, mapB gn t) := by
 refine down s.size ?_ ?_
 ·refine succ ?_
  simp only [spec_owBack.l0]
  refine neg (by omega) ?_
  rw [accB_end]
  have := owBack_l1 s t (mapB ge s) ht 0 (by omega)
  rw [accB_zero] at this
  exact this
 ·intro i hi ih
  refine succ ?_
  simp only [spec_owBack.l0]
  rw [wnat (by omega)]
  have z := accB_size ge s i (by omega)
  refine pos (by omega) (pos (by omega) ?_)
  by_cases c : bt s i = 101
  ·refine pos c (pos (by omega) ?_)
   rw [accB_step ge s i hi 119 (by rw [(bt_eq s i hi 101).1 c]; rfl)]
   exact ih
  ·refine neg c (pos (by omega) ?_)
   rw [accB_step ge s i hi 101 (by unfold ge; rw [if_neg (fun h => c ((bt_eq s i hi 101).2 h))])]
   exact ih
theorem owBack_f (s t : ByteArray) (hs : s.size ≤ 1048576) (ht : t.size ≤ 1048576) : Ev (fun k => spec_owBack.f k s t) (mapB ge s, mapB gn t) := by
 unfold spec_owBack.f
 have := owBack_l0 s t hs ht 0 (by omega)
 rw [accB_zero] at this
 exact this
theorem nums_sign {s : ByteArray} (h : ∀ u ∈ s.data.toList, u = 101 ∨ u = 110 ∨ u = 115 ∨ u = 119) : (impl_turnedSigns.nums s).all impl_turnedSigns.sign = true := by
 rw [List.all_eq_true]
 intro x hx
 obtain ⟨u, hu, rfl⟩ := List.mem_map.1 hx
 rcases h u hu with rfl | rfl | rfl | rfl <;> rfl
theorem turned_list (s : ByteArray) : (strOfNums ((impl_turnedSigns.nums s).map impl_turnedSigns.turn)).data.toList = s.data.toList.map fun u => UInt8.ofNat (impl_turnedSigns.turn (u.toNat : Int)).toNat := by
 rw [strOfNums_data]
 simp [impl_turnedSigns.nums]
theorem turned_of {s : ByteArray} (g : UInt8 → UInt8) (a b : UInt8) (hs : ∀ u ∈ s.data.toList, u = a ∨ u = b) (hz : s.size ≤ 1048576)
  (ha : a = 101 ∨ a = 110 ∨ a = 115 ∨ a = 119) (hb : b = 101 ∨ b = 110 ∨ b = 115 ∨ b = 119)
  (ga : UInt8.ofNat (impl_turnedSigns.turn (a.toNat : Int)).toNat = g a) (gb : UInt8.ofNat (impl_turnedSigns.turn (b.toNat : Int)).toNat = g b) : impl_turnedSigns.f s = some (mapB g s) := by
 unfold impl_turnedSigns.f
 rw [if_pos ⟨nums_sign (fun u hu => by rcases hs u hu with rfl | rfl; exact ha; exact hb), hz⟩]
 congr 1
 refine ba_ext ?_
 rw [turned_list, mapB_list]
 refine List.map_congr_left (fun u hu => ?_)
 rcases hs u hu with rfl | rfl
 ·exact ga
 ·exact gb
theorem turned_e {s : ByteArray} (h : ∀ u ∈ s.data.toList, u = 101 ∨ u = 119) (hz : s.size ≤ 1048576) : impl_turnedSigns.f s = some (mapB ge s) :=
 turned_of ge 101 119 h hz (.inl rfl) (.inr (.inr (.inr rfl))) rfl rfl
theorem turned_n {s : ByteArray} (h : ∀ u ∈ s.data.toList, u = 110 ∨ u = 115) (hz : s.size ≤ 1048576) : impl_turnedSigns.f s = some (mapB gn s) :=
 turned_of gn 110 115 h hz (.inr (.inl rfl)) (.inr (.inr (.inl rfl))) rfl rfl
theorem bt_mapB (g : UInt8 → UInt8) (s : ByteArray) (i : Nat) (h : i < s.size) : bt (mapB g s) (i : Int) = ((g (s[i]'h)).toNat : Int) := by
 have h' : i < (mapB g s).size := by rw [mapB_size]; exact h
 rw [bt_lt _ i h', ← list_get _ i h']
 simp only [mapB_list, List.getElem_map]
 rw [list_get s i h]
theorem bt_ge (s : ByteArray) (i : Nat) (h : i < s.size) : bt (mapB ge s) (i : Int) = if bt s i = 101 then 119 else 101 := by
 rw [bt_mapB ge s i h, bt_lt s i h]
 unfold ge
 by_cases c : s[i] = 101
 ·rw [if_pos c, if_pos (by rw [c]; rfl)]; rfl
 ·have hne : ¬ ((s[i].toNat : Int) = 101) := fun e => by
   have e2 : s[i].toNat = 101 := by omega
   exact c (UInt8.toNat_inj.1 e2)
  rw [if_neg c, if_neg hne]; rfl
theorem bt_gn (s : ByteArray) (i : Nat) (h : i < s.size) : bt (mapB gn s) (i : Int) = if bt s i = 110 then 115 else 110 := by
 rw [bt_mapB gn s i h, bt_lt s i h]
 unfold gn
 by_cases c : s[i] = 110
 ·rw [if_pos c, if_pos (by rw [c]; rfl)]; rfl
 ·have hne : ¬ ((s[i].toNat : Int) = 110) := fun e => by
   have e2 : s[i].toNat = 110 := by omega
   exact c (UInt8.toNat_inj.1 e2)
  rw [if_neg c, if_neg hne]; rfl
theorem good_back {s t : ByteArray} (h : Good s t) : Good (mapB ge s) (mapB gn t) := by
 refine ⟨⟨by rw [mapB_size]; exact h.1.1, fun j _ hj => ?_⟩, by rw [mapB_size]; exact h.2.1, fun j _ hj => ?_⟩
 ·rw [mapB_size] at hj
  rw [bt_ge s j hj]
  split
  ·exact .inr rfl
  ·exact .inl rfl
 ·rw [mapB_size] at hj
  rw [bt_gn t j hj]
  split
  ·exact .inr rfl
  ·exact .inl rfl
theorem back_can (s t : ByteArray) (hg : Good s t) (x y n : Nat) (hn : n < 4) (hx : x < t.size) (hy : y < s.size) (hin : (0 ≤ (x : Int) + impl_driveIn.dx n ∧ (x : Int) + impl_driveIn.dx n ≤ (t.size : Int) - 1) ∧ (0 ≤ (y : Int) + impl_driveIn.dy n ∧ (y : Int) + impl_driveIn.dy n ≤ (s.size : Int) - 1)) :
  impl_driveIn.can (mapB ge s) (mapB gn t) x y n = impl_driveIn.can s t ((x : Int) + impl_driveIn.dx n) ((y : Int) + impl_driveIn.dy n) (3 - n) := by
 have hS := hg.1.2 y (Nat.zero_le _) hy
 have hT := hg.2.2 x (Nat.zero_le _) hx
 have bS := bt_ge s y hy
 have bT := bt_gn t x hx
 have hU : bt t ((x : Int) + impl_driveIn.dx n) = 110 ∨ bt t ((x : Int) + impl_driveIn.dx n) = 115 := by
  obtain ⟨u, hu⟩ := Int.eq_ofNat_of_zero_le hin.1.1
  rw [hu]
  exact hg.2.2 u (Nat.zero_le _) (by have := hin.1.2; omega)
 have hV : bt s ((y : Int) + impl_driveIn.dy n) = 101 ∨ bt s ((y : Int) + impl_driveIn.dy n) = 119 := by
  obtain ⟨u, hu⟩ := Int.eq_ofNat_of_zero_le hin.2.1
  rw [hu]
  exact hg.1.2 u (Nat.zero_le _) (by have := hin.2.2; omega)
 obtain ⟨d1, d2⟩ := dx_turn n hn
 unfold impl_driveIn.can
 rw [mapB_size, mapB_size, decide_eq_true hin, d1, d2, decide_eq_true (show (0 ≤ (x : Int) + impl_driveIn.dx n + -impl_driveIn.dx n ∧ (x : Int) + impl_driveIn.dx n + -impl_driveIn.dx n ≤ (t.size : Int) - 1) ∧ (0 ≤ (y : Int) + impl_driveIn.dy n + -impl_driveIn.dy n ∧ (y : Int) + impl_driveIn.dy n + -impl_driveIn.dy n ≤ (s.size : Int) - 1) by omega), bS, bT]
 have c : n = 0 ∨ n = 1 ∨ n = 2 ∨ n = 3 := by omega
 rcases c with rfl | rfl | rfl | rfl
 ·simp only [impl_driveIn.dx, impl_driveIn.dy, if_true, Int.add_zero, show (0 : Nat) ≠ 1 by decide, show (0 : Nat) ≠ 2 by decide, if_false] at hU hV ⊢
  rcases hS with a | a <;> rcases hT with b | b <;> rcases hU with e | e <;> simp [impl_driveIn.sg, a, b, e]
 ·simp only [impl_driveIn.dx, impl_driveIn.dy, if_true, Int.add_zero, show (1 : Nat) ≠ 0 by decide, show (1 : Nat) ≠ 3 by decide, if_false] at hU hV ⊢
  rcases hS with a | a <;> rcases hT with b | b <;> rcases hV with e | e <;> simp [impl_driveIn.sg, a, b, e]
 ·simp only [impl_driveIn.dx, impl_driveIn.dy, if_true, Int.add_zero, show (2 : Nat) ≠ 0 by decide, show (2 : Nat) ≠ 3 by decide, show (2 : Nat) ≠ 1 by decide, if_false] at hU hV ⊢
  rcases hS with a | a <;> rcases hT with b | b <;> rcases hV with e | e <;> simp [impl_driveIn.sg, a, b, e]
 ·simp only [impl_driveIn.dx, impl_driveIn.dy, if_true, Int.add_zero, show (3 : Nat) ≠ 0 by decide, show (3 : Nat) ≠ 1 by decide, show (3 : Nat) ≠ 2 by decide, if_false] at hU hV ⊢
  rcases hS with a | a <;> rcases hT with b | b <;> rcases hU with e | e <;> simp [impl_driveIn.sg, a, b, e]
theorem back_stp (s t : ByteArray) (hg : Good s t) (x : Nat × Nat) (n : Nat) (hn : n < 4) (hx : InC s t x) : impl_distancesBy.stp false (mapB ge s) (mapB gn t) x n = impl_distancesBy.stp true s t x n := by
 unfold impl_distancesBy.stp
 rw [mapB_size, mapB_size]
 by_cases hin : (0 ≤ (x.1 : Int) + impl_driveIn.dx n ∧ (x.1 : Int) + impl_driveIn.dx n ≤ (t.size : Int) - 1) ∧ (0 ≤ (x.2 : Int) + impl_driveIn.dy n ∧ (x.2 : Int) + impl_driveIn.dy n ≤ (s.size : Int) - 1)
 ·rw [if_neg (show ¬ (false = true) by simp), back_can s t hg x.1 x.2 n hn hx.1 hx.2 hin, if_pos (show true = true from rfl)]
 ·rw [if_neg (fun z => hin z.1), if_neg (fun z => hin z.1)]
theorem dist_back (s t : ByteArray) (hg : Good s t) (a : Nat × Nat) (ha : InC s t a) : impl_distancesBy.dist false (mapB ge s) (mapB gn t) a = impl_distancesBy.dist true s t a := by
 have z1 := hg.1.1
 have z2 := hg.2.1
 have hb := good_back hg
 have e : ∀ p, InC (mapB ge s) (mapB gn t) p ↔ InC s t p := fun p => by unfold InC; rw [mapB_size, mapB_size]
 obtain ⟨h1, h2, -⟩ := far_ex false (mapB ge s) (mapB gn t) (by rw [mapB_size]; omega) (by rw [mapB_size]; omega) a ((e a).2 ha)
 obtain ⟨k1, k2, -⟩ := far_ex true s t (by omega) (by omega) a ha
 refine (far_in h1 (InC s t) (fun c hc => (e c).1 (h2 c hc))).uniq ((far_in k1 _ k2).congr (fun x y => ?_))
 constructor
 ·rintro ⟨hx, hy, n, hn, hs⟩
  exact ⟨hx, hy, n, hn, by rw [back_stp s t hg x n hn hx]; exact hs⟩
 ·rintro ⟨hx, hy, n, hn, hs⟩
  exact ⟨hx, hy, n, hn, by rw [← back_stp s t hg x n hn hx]; exact hs⟩
theorem tab_dv (s t : ByteArray) (d : Nat × Nat → Int) (x y : Nat) (hx : x < t.size) (hy : y < s.size) : impl_firstWay.dv (impl_distancesBy.tab t.size s.size d) x y = d (x, y) := by
 unfold impl_firstWay.dv
 rw [Int.toNat_natCast, tab_getD _ _ _ _ hx, rd_lt _ _ (by simpa using hy)]
 simp
theorem tab_rect (s t : ByteArray) (d : Nat × Nat → Int) (hd : ∀ c, -1 ≤ d c ∧ d c ≤ 64) : impl_firstWay.Rect (impl_distancesBy.tab t.size s.size d) t.size s.size := by
 refine ⟨tab_len _ _ _, fun r hr => ?_⟩
 obtain ⟨x, -, rfl⟩ := List.mem_map.1 hr
 refine ⟨by simp, fun v hv => ?_⟩
 obtain ⟨y, -, rfl⟩ := List.mem_map.1 hv
 exact hd _
theorem ok_nr (s t : ByteArray) (d : Nat × Nat → Int) (n : Nat) (p : Nat × Nat) (hp : InC s t p) (hd : d p = ((n + 1 : Nat) : Int)) (m : Nat) : spec_FirstDrive.ok (spec_owFar.flat t.size s.size d) s t n p.1 p.2 m = impl_firstWay.nr (impl_distancesBy.tab t.size s.size d) s t p.1 p.2 m := by
 unfold spec_FirstDrive.ok impl_firstWay.nr
 cases hc : impl_driveIn.can s t p.1 p.2 m with
 | false => simp
 | true =>
  have hat := impl_firstWay.can_at hc
  obtain ⟨u, hu⟩ := Int.eq_ofNat_of_zero_le hat.1.1
  obtain ⟨v, hv⟩ := Int.eq_ofNat_of_zero_le hat.2.1
  have hut : u < t.size := by have := hat.1.2; omega
  have hvs : v < s.size := by have := hat.2.2; omega
  rw [hu, hv, tab_dv s t d u v hut hvs, tab_dv s t d p.1 p.2 hp.1 hp.2, ← Int.natCast_mul, ← Int.natCast_add, flat_rd _ _ _ _ _ hut hvs, hd, Bool.true_and, Bool.true_and, decide_eq_decide]
  omega
def Asked (s t : ByteArray) (xs ys : List Int) : Prop := good s t = true ∧ spec_owCorner.corner t.size s.size xs = true ∧ spec_owCorner.corner t.size s.size ys = true
theorem Asked.of {s t : ByteArray} {xs ys : List Int} (h : Asked s t xs ys) : Good s t ∧ (xs.length = 2 ∧ impl_driveIn.At s t (rd xs 0) (rd xs 1)) ∧ (ys.length = 2 ∧ impl_driveIn.At s t (rd ys 0) (rd ys 1)) := by
 obtain ⟨g, cx, cy⟩ := h
 exact ⟨(good_iff s t).1 g, (corner_iff s t xs).1 cx, (corner_iff s t ys).1 cy⟩
theorem Asked.back {s t : ByteArray} {xs ys : List Int} (h : Asked s t xs ys) : Asked s t ys xs := ⟨h.1, h.2.2, h.2.1⟩
theorem asked_spec {s t : ByteArray} {xs ys : List Int} (hs : s.size ≤ 1048576) (ht : t.size ≤ 1048576) (h : Asked s t xs ys) : Ev (fun k => spec_owAsked.f k s t xs ys) true := by
 obtain ⟨g, cx, cy⟩ := h
 exact conv (owAsked_f s t xs ys hs ht) (by simp [g, cx, cy])
theorem asked_impl {s t : ByteArray} {xs ys : List Int} (hs : s.size ≤ 1048576) (ht : t.size ≤ 1048576) (h : Asked s t xs ys) : Ev (fun k => impl_areDriven.f k s t [xs, ys]) true := by
 obtain ⟨g, cx, cy⟩ := h
 exact conv (areDriven_f s t [xs, ys] hs ht) (by simp [g, cx, cy])
theorem unasked_spec {s t : ByteArray} {xs ys : List Int} (hs : s.size ≤ 1048576) (ht : t.size ≤ 1048576) (h : ¬ Asked s t xs ys) : Ev (fun k => spec_owAsked.f k s t xs ys) false :=
 conv (owAsked_f s t xs ys hs ht) (by unfold Asked at h; cases g : good s t <;> cases cx : spec_owCorner.corner t.size s.size xs <;> cases cy : spec_owCorner.corner t.size s.size ys <;> simp_all)
theorem unasked_impl {s t : ByteArray} {xs ys : List Int} (hs : s.size ≤ 1048576) (ht : t.size ≤ 1048576) (h : ¬ Asked s t xs ys) : Ev (fun k => impl_areDriven.f k s t [xs, ys]) false :=
 conv (areDriven_f s t [xs, ys] hs ht) (by unfold Asked at h; cases g : good s t <;> cases cx : spec_owCorner.corner t.size s.size xs <;> cases cy : spec_owCorner.corner t.size s.size ys <;> simp_all)
def Dis (s t : ByteArray) (xs ys : List Int) : Int := impl_distancesBy.dist false s t (crn xs) (crn ys)
theorem dd_no (s t : ByteArray) (xs ys : List Int) (hs : s.size ≤ 1048576) (ht : t.size ≤ 1048576) (h : ¬ Asked s t xs ys) : Ev (fun k => spec_DriveDistance.f k s t xs ys) (0, false) ∧ Ev (fun k => impl_DriveDistance.f k s t xs ys) (0, false) := by
 unfold spec_DriveDistance.f impl_DriveDistance.f
 exact ⟨bind (unasked_spec hs ht h) (neg (by simp) (now _)), bind (unasked_impl hs ht h) (neg (by simp) (now _))⟩
theorem dd_yes (s t : ByteArray) (xs ys : List Int) (hs : s.size ≤ 1048576) (ht : t.size ≤ 1048576) (h : Asked s t xs ys) : Ev (fun k => spec_DriveDistance.f k s t xs ys) (mx 0 (Dis s t xs ys), decide (Dis s t xs ys ≥ 0)) ∧ Ev (fun k => impl_DriveDistance.f k s t xs ys) (mx 0 (Dis s t xs ys), decide (Dis s t xs ys ≥ 0)) := by
 unfold spec_DriveDistance.f impl_DriveDistance.f
 obtain ⟨G, hx, hy⟩ := h.of
 have z1 := G.1.1
 have z2 := G.2.1
 obtain ⟨ix, ex0, ex1⟩ := crn_in hx.2
 obtain ⟨iy, -, -⟩ := crn_in hy.2
 have hd := dist_turn s t (by omega) (by omega) _ _ ix iy
 have q1 := owDistance_f s t G xs ys hx hy
 unfold Dis
 obtain ⟨D, hD⟩ : ∃ D, impl_distancesBy.dist false s t (crn xs) (crn ys) = D := ⟨_, rfl⟩
 rw [hD] at hd q1 ⊢
 refine ⟨bind (asked_spec hs ht h) (pos rfl ?_), bind (asked_impl hs ht h) (pos rfl ?_)⟩
 ·refine bind q1 ?_
  by_cases q : D < 0
  ·refine pos q (conv (now _) ?_)
   unfold mx
   rw [if_neg (by omega), decide_eq_false (by omega)]
  ·refine neg q (bind q1 (conv (now _) ?_))
   unfold mx
   rw [decide_eq_true (by omega)]
   by_cases q0 : 0 < D
   ·rw [if_pos q0]
   ·rw [if_neg q0, show D = 0 by omega]
 ·obtain ⟨hq, hv⟩ := tab_val s t G xs hx (impl_distancesBy.dist true s t (crn ys))
  refine bind (drivesTo_some s t G ys hy) (pos hq (conv (now _) ?_))
  rw [hv, ← hd]
theorem dd_ok (s t : ByteArray) (xs ys : List Int) (hs : s.size ≤ 1048576) (ht : t.size ≤ 1048576) (h : Asked s t xs ys) (h0 : 0 ≤ Dis s t xs ys) : Ev (fun k => spec_DriveDistance.f k s t xs ys) (Dis s t xs ys, true) ∧ Ev (fun k => impl_DriveDistance.f k s t xs ys) (Dis s t xs ys, true) := by
 have z := dd_yes s t xs ys hs ht h
 rw [show mx 0 (Dis s t xs ys) = Dis s t xs ys by unfold mx; split <;> omega, decide_eq_true (by omega)] at z
 exact z
theorem tb_no (s t : ByteArray) (xs ys : List Int) (hs : s.size ≤ 1048576) (ht : t.size ≤ 1048576) (h : ¬ Asked s t xs ys) : Ev (fun k => spec_ThereAndBack.f k s t xs ys) (0, false) ∧ Ev (fun k => impl_ThereAndBack.f k s t xs ys) (0, false) := by
 unfold spec_ThereAndBack.f impl_ThereAndBack.f
 refine ⟨bind (unasked_spec hs ht h) (neg (by simp) (succ ?_)), bind (unasked_impl hs ht h) (neg (by simp) (now _))⟩
 simp only [spec_ThereAndBack.j0]
 exact pos (by simp) (now _)
theorem tb_yes (s t : ByteArray) (xs ys : List Int) (hs : s.size ≤ 1048576) (ht : t.size ≤ 1048576) (h : Asked s t xs ys) : Ev (fun k => spec_ThereAndBack.f k s t xs ys) (if Dis s t xs ys < 0 then (0, false) else if Dis s t ys xs < 0 then (0, false) else (wrap64 (Dis s t xs ys + Dis s t ys xs), true)) ∧ Ev (fun k => impl_ThereAndBack.f k s t xs ys) (if Dis s t xs ys < 0 then (0, false) else if Dis s t ys xs < 0 then (0, false) else (wrap64 (Dis s t xs ys + Dis s t ys xs), true)) := by
 unfold spec_ThereAndBack.f impl_ThereAndBack.f
 have stop : Ev (fun k => spec_ThereAndBack.j0 k xs ys true s t) (0, false) := by
  refine succ ?_
  simp only [spec_ThereAndBack.j0]
  exact pos (by simp) (now _)
 obtain ⟨G, hx, hy⟩ := h.of
 have z1 := G.1.1
 have z2 := G.2.1
 obtain ⟨ix, ex0, ex1⟩ := crn_in hx.2
 obtain ⟨iy, ey0, ey1⟩ := crn_in hy.2
 have hd := dist_turn s t (by omega) (by omega) _ _ ix iy
 have he := dist_turn s t (by omega) (by omega) _ _ iy ix
 have q1 := owDistance_f s t G xs ys hx hy
 have q2 := owDistance_f s t G ys xs hy hx
 unfold Dis
 obtain ⟨D, hD⟩ : ∃ D, impl_distancesBy.dist false s t (crn xs) (crn ys) = D := ⟨_, rfl⟩
 obtain ⟨E, hE⟩ : ∃ E, impl_distancesBy.dist false s t (crn ys) (crn xs) = E := ⟨_, rfl⟩
 rw [hD] at hd q1
 rw [hE] at he q2
 rw [hD, hE]
 refine ⟨bind (asked_spec hs ht h) (pos rfl ?_), bind (asked_impl hs ht h) (pos rfl ?_)⟩
 ·refine bind q1 ?_
  by_cases q : D < 0
  ·rw [if_pos q]
   exact pos q stop
  ·rw [if_neg q]
   refine neg q (bind q2 (succ ?_))
   simp only [spec_ThereAndBack.j0]
   by_cases p : E < 0
   ·rw [if_pos p]
    exact pos (by simpa using p) (now _)
   ·rw [if_neg p]
    exact neg (by simpa using p) (bind q1 (bind q2 (now _)))
 ·obtain ⟨hq, hv⟩ := tab_val s t G xs hx (impl_distancesBy.dist true s t (crn ys))
  obtain ⟨hq2, hv2⟩ := tab_val s t G ys hy (impl_distancesBy.dist true s t (crn xs))
  refine bind (drivesTo_some s t G ys hy) (bind (drivesTo_some s t G xs hx) (pos ⟨hq, hq2⟩ ?_))
  rw [hv, hv2, ← hd, ← he]
  by_cases q : D < 0
  ·exact pos q (conv (now _) (by rw [if_pos q]))
  ·refine neg q ?_
   by_cases p : E < 0
   ·exact pos p (conv (now _) (by rw [if_neg q, if_pos p]))
   ·exact neg p (conv (now _) (by rw [if_neg q, if_neg p]))
theorem ways_same (s t : ByteArray) (hs : s.size ≤ 8) (ht : t.size ≤ 8) (b : Nat × Nat) (hb : InC s t b) : ∀ (n : Nat) (p : Nat × Nat), InC s t p → impl_distancesBy.dist true s t b p = (n : Int) →
  ∃ l, spec_FirstDrive.fd (spec_owFar.flat t.size s.size (impl_distancesBy.dist true s t b)) s t n p.1 p.2 = some l ∧ impl_firstWay.fw (impl_distancesBy.tab t.size s.size (impl_distancesBy.dist true s t b)) s t n p.1 p.2 = some l ∧ wk s t p l = some b ∧ l.length = n := by
 obtain ⟨hF, hI, hM⟩ := far_ex true s t hs ht b hb
 intro n
 induction n with
 | zero =>
  intro p hp hd
  refine ⟨[], rfl, ?_, ?_, rfl⟩
  rotate_left
  ·have e : p = b := by
    by_cases e : p = b
    ·exact e
    ·have z := (hF.back p (by omega) e).1
     omega
   rw [e]; rfl
  simp only [impl_firstWay.fw]
  rw [tab_dv s t _ p.1 p.2 hp.1 hp.2, if_pos (by rw [hd]; omega)]
 | succ n ih =>
  intro p hp hd
  have hok := ok_nr s t (impl_distancesBy.dist true s t b) n p hp hd
  have hne : p ≠ b := fun e => by have := hF.zero; rw [e] at hd; omega
  obtain ⟨-, q, hq, hqd⟩ := hF.back p (by omega) hne
  have hqI : InC s t q := hI q (by omega)
  obtain ⟨m, m4, hst⟩ := leads_turn s t true q p hqI hq
  obtain ⟨e1, e2, hin, hcan⟩ := stp_some hst
  have hnm : impl_firstWay.nr (impl_distancesBy.tab t.size s.size (impl_distancesBy.dist true s t b)) s t p.1 p.2 m = true := by
   unfold impl_firstWay.nr
   rw [if_neg (by simp)] at hcan
   rw [hcan, ← e1, ← e2, tab_dv s t _ q.1 q.2 hqI.1 hqI.2, tab_dv s t _ p.1 p.2 hp.1 hp.2, Bool.true_and, decide_eq_true_eq]
   have : impl_distancesBy.dist true s t b (q.1, q.2) = impl_distancesBy.dist true s t b q := rfl
   have : impl_distancesBy.dist true s t b (p.1, p.2) = impl_distancesBy.dist true s t b p := rfl
   omega
  have step : ∀ j, j < 4 → impl_firstWay.nr (impl_distancesBy.tab t.size s.size (impl_distancesBy.dist true s t b)) s t p.1 p.2 j = true → ∃ l, spec_FirstDrive.fd (spec_owFar.flat t.size s.size (impl_distancesBy.dist true s t b)) s t n ((p.1 : Int) + impl_driveIn.dx j) ((p.2 : Int) + impl_driveIn.dy j) = some l ∧ impl_firstWay.fw (impl_distancesBy.tab t.size s.size (impl_distancesBy.dist true s t b)) s t n ((p.1 : Int) + impl_driveIn.dx j) ((p.2 : Int) + impl_driveIn.dy j) = some l ∧ wk s t p (j :: l) = some b ∧ l.length = n := by
   intro j j4 hj
   unfold impl_firstWay.nr at hj
   rw [Bool.and_eq_true, decide_eq_true_eq] at hj
   have hat := impl_firstWay.can_at hj.1
   obtain ⟨u, hu⟩ := Int.eq_ofNat_of_zero_le hat.1.1
   obtain ⟨v, hv⟩ := Int.eq_ofNat_of_zero_le hat.2.1
   have hut : u < t.size := by have := hat.1.2; omega
   have hvs : v < s.size := by have := hat.2.2; omega
   rw [hu, hv, tab_dv s t _ u v hut hvs, tab_dv s t _ p.1 p.2 hp.1 hp.2] at hj
   have hst : impl_distancesBy.stp false s t p j = some (u, v) := by
    rw [stp_can, if_pos hj.1, hu, hv]
    rfl
   rw [hu, hv]
   obtain ⟨l, g1, g2, g3, g4⟩ := ih (u, v) ⟨hut, hvs⟩ (by
    have : impl_distancesBy.dist true s t b (p.1, p.2) = impl_distancesBy.dist true s t b p := rfl
    have := hj.2
    omega)
   exact ⟨l, g1, g2, wk_mk j4 hst g3, g4⟩
  simp only [spec_FirstDrive.fd, impl_firstWay.fw, hok]
  rw [if_neg (show ¬ impl_firstWay.dv (impl_distancesBy.tab t.size s.size (impl_distancesBy.dist true s t b)) p.1 p.2 ≤ 0 by
   rw [tab_dv s t _ p.1 p.2 hp.1 hp.2]
   have : impl_distancesBy.dist true s t b (p.1, p.2) = impl_distancesBy.dist true s t b p := rfl
   omega)]
  by_cases c0 : impl_firstWay.nr (impl_distancesBy.tab t.size s.size (impl_distancesBy.dist true s t b)) s t p.1 p.2 0 = true
  ·obtain ⟨l, h1, h2, h3, h4⟩ := step 0 (by omega) c0
   exact ⟨0 :: l, by rw [if_pos c0, h1]; rfl, by rw [if_pos c0, h2]; rfl, h3, by simp [h4]⟩
  rw [if_neg c0, if_neg c0]
  by_cases c1 : impl_firstWay.nr (impl_distancesBy.tab t.size s.size (impl_distancesBy.dist true s t b)) s t p.1 p.2 1 = true
  ·obtain ⟨l, h1, h2, h3, h4⟩ := step 1 (by omega) c1
   exact ⟨1 :: l, by rw [if_pos c1, h1]; rfl, by rw [if_pos c1, h2]; rfl, h3, by simp [h4]⟩
  rw [if_neg c1, if_neg c1]
  by_cases c2 : impl_firstWay.nr (impl_distancesBy.tab t.size s.size (impl_distancesBy.dist true s t b)) s t p.1 p.2 2 = true
  ·obtain ⟨l, h1, h2, h3, h4⟩ := step 2 (by omega) c2
   exact ⟨2 :: l, by rw [if_pos c2, h1]; rfl, by rw [if_pos c2, h2]; rfl, h3, by simp [h4]⟩
  rw [if_neg c2, if_neg c2]
  by_cases c3 : impl_firstWay.nr (impl_distancesBy.tab t.size s.size (impl_distancesBy.dist true s t b)) s t p.1 p.2 3 = true
  ·obtain ⟨l, h1, h2, h3, h4⟩ := step 3 (by omega) c3
   exact ⟨3 :: l, by rw [if_pos c3, h1]; rfl, by rw [if_pos c3, h2]; rfl, h3, by simp [h4]⟩
  exfalso
  have cm : m = 0 ∨ m = 1 ∨ m = 2 ∨ m = 3 := by omega
  rcases cm with rfl | rfl | rfl | rfl
  ·exact c0 hnm
  ·exact c1 hnm
  ·exact c2 hnm
  ·exact c3 hnm
theorem fw_ge (rows : List (List Int)) (s t : ByteArray) (n : Nat) (x y : Int) (l : List Nat) (h : impl_firstWay.fw rows s t n x y = some l) : ∀ j, impl_firstWay.fw rows s t (n + j) x y = some l := by
 intro j
 induction j with
 | zero => exact h
 | succ j ih => exact impl_firstWay.fw_mono rows s t (n + j) x y l ih
theorem fd_no (s t : ByteArray) (xs ys : List Int) (hs : s.size ≤ 1048576) (ht : t.size ≤ 1048576) (h : ¬ Asked s t xs ys) : Ev (fun k => spec_FirstDrive.f k s t xs ys) (⟨#[]⟩, false) ∧ Ev (fun k => impl_FirstDrive.f k s t xs ys) (⟨#[]⟩, false) := by
 unfold spec_FirstDrive.f impl_FirstDrive.f
 exact ⟨bind (unasked_spec hs ht h) (neg (by simp) (now _)), bind (unasked_impl hs ht h) (neg (by simp) (now _))⟩
theorem fd_yes (s t : ByteArray) (xs ys : List Int) (hs : s.size ≤ 1048576) (ht : t.size ≤ 1048576) (h : Asked s t xs ys) : (Dis s t xs ys < 0 → Ev (fun k => spec_FirstDrive.f k s t xs ys) (⟨#[]⟩, false) ∧ Ev (fun k => impl_FirstDrive.f k s t xs ys) (⟨#[]⟩, false)) ∧ (0 ≤ Dis s t xs ys → ∃ l, (wk s t (crn xs) l = some (crn ys) ∧ (l.length : Int) = Dis s t xs ys) ∧ Ev (fun k => spec_FirstDrive.f k s t xs ys) (spec_FirstDrive.word l, true) ∧ Ev (fun k => impl_FirstDrive.f k s t xs ys) (spec_FirstDrive.word l, true)) := by
 unfold spec_FirstDrive.f impl_FirstDrive.f
 have hA := h
 obtain ⟨G, hx, hy⟩ := h.of
 have z1 := G.1.1
 have z2 := G.2.1
 obtain ⟨ix, ex0, ex1⟩ := crn_in hx.2
 obtain ⟨iy, -, -⟩ := crn_in hy.2
 have hd := dist_turn s t (by omega) (by omega) _ _ ix iy
 have hsm := far_ex true s t (by omega) (by omega) (crn ys) iy
 unfold Dis
 obtain ⟨D, hD⟩ : ∃ D, impl_distancesBy.dist false s t (crn xs) (crn ys) = D := ⟨_, rfl⟩
 rw [hD]
 rw [hD] at hd
 have q1 := owDistance_f s t G xs ys hx hy
 rw [hD] at q1
 have i1 := ix.1
 have i2 := ix.2
 have er : rd_L3 (impl_distancesBy.tab t.size s.size (impl_distancesBy.dist true s t (crn ys))) ((crn xs).1 : Int) = (List.range s.size).map fun y => impl_distancesBy.dist true s t (crn ys) ((crn xs).1, y) := tab_row _ _ _ _ i1
 have ev : rd (rd_L3 (impl_distancesBy.tab t.size s.size (impl_distancesBy.dist true s t (crn ys))) ((crn xs).1 : Int)) ((crn xs).2 : Int) = D := by
  rw [tab_rd _ _ _ _ _ i1 i2, hd]
 have drv : ∀ v, Ev (fun k => if D < 0 then some (⟨#[]⟩, false) else (impl_driveIn.f s t).bind fun t174 => (impl_firstWay.f k (impl_distancesBy.tab t.size s.size (impl_distancesBy.dist true s t (crn ys))) xs t174).bind fun t175 => some (t175, true)) v → Ev (fun k => impl_FirstDrive.f k s t xs ys) v := by
  intro v hv
  unfold impl_FirstDrive.f
  refine bind (asked_impl hs ht hA) (pos rfl (bind (drivesTo_some s t G ys hy) ?_))
  rw [ex0, ex1, tab_len, ev, er]
  exact pos (by omega) (pos (by omega) (pos (by omega) (pos (by omega) (pos (by omega) (pos (by simp; omega) hv)))))
 refine ⟨fun q => ?_, fun q0 => ?_⟩
 ·exact ⟨bind (asked_spec hs ht hA) (pos rfl (bind q1 (pos q (now _)))), by have z := drv _ (pos q (now _)); unfold impl_FirstDrive.f at z; exact z⟩
 ·have q : ¬ D < 0 := by omega
  obtain ⟨n, hn⟩ := Int.eq_ofNat_of_zero_le q0
  have hD64 : D ≤ 64 := by rw [hd]; exact hsm.2.2 _
  obtain ⟨l, h1, h2, h3, h4⟩ := ways_same s t (by omega) (by omega) (crn ys) iy n (crn xs) ix (by rw [← hd, hn])
  have hyb : ys.length = 2 ∧ impl_driveIn.At (mapB ge s) (mapB gn t) (rd ys 0) (rd ys 1) := ⟨hy.1, by unfold impl_driveIn.At; rw [mapB_size, mapB_size]; exact hy.2⟩
  have q2 := owFar_some (mapB ge s) (mapB gn t) (good_back G) ys hyb.1 hyb.2
  rw [mapB_size, mapB_size, dist_back s t G (crn ys) iy] at q2
  refine ⟨l, ⟨h3, by omega⟩, bind (asked_spec hs ht hA) (pos rfl (bind q1 (neg q (bind (owBack_f s t (by omega) (by omega)) (bind q2 (pos ⟨⟨⟨signs_of G, hx.1⟩, hx.2⟩, flat_len _ _ _, hD64⟩ (ofEq ?_))))))), ?_⟩
  ·have e : D.toNat = n := by omega
   rw [e, ex0, ex1, h1]
   rfl
  ·have hfw : Ev (fun k => impl_firstWay.f k (impl_distancesBy.tab t.size s.size (impl_distancesBy.dist true s t (crn ys))) xs (s, t)) (spec_FirstDrive.word l) := by
    refine ⟨n, fun k hk => ?_⟩
    have e : k = n + (k - n) := by omega
    unfold impl_firstWay.f
    dsimp only
    rw [if_pos ⟨⟨tab_rect s t _ (fun c => ⟨hsm.1.low c, hsm.2.2 c⟩), (signs_of G).1⟩, hx.1, hx.2⟩, ex0, ex1, e, fw_ge _ _ _ _ _ _ _ h2]
    rfl
   have z := drv _ (neg q (bindSome rfl (bind hfw (now _))))
   unfold impl_FirstDrive.f at z
   exact z
open impl_countWays (iter)
theorem iter_inv {σ : Type} (f : Nat → σ → σ) (P : Nat → σ → Prop) : ∀ (n i : Nat) (c : σ), (∀ j c, i ≤ j → j < i + n → P j c → P (j + 1) (f j c)) → P i c → P (i + n) (iter f n i c)
 | 0, i, c, _, h => h
 | n + 1, i, c, hs, h => by
  have z := iter_inv f P n (i + 1) (f i c) (fun j c h1 h2 => hs j c (by omega) (by omega)) (hs i c (Nat.le_refl _) (by omega) h)
  rw [show i + (n + 1) = i + 1 + n by omega]
  exact z
def Bd (n : Nat) : Int := if n = 0 then 1 else ((2 ^ (n - 1) : Nat) : Int)
theorem Bd_pos (n : Nat) : 1 ≤ Bd n := by
 unfold Bd
 split
 ·omega
 ·have := Nat.two_pow_pos (n - 1)
  omega
theorem Bd_two (n : Nat) : Bd (n + 2) = 2 * Bd (n + 1) := by
 unfold Bd
 rw [if_neg (by omega), if_neg (by omega), show n + 2 - 1 = (n + 1 - 1) + 1 by omega, Nat.pow_succ]
 omega
theorem Bd_le (n : Nat) (h : n ≤ 62) : Bd n ≤ 2305843009213693952 := by
 unfold Bd
 split
 ·omega
 ·have e : 2 ^ (n - 1) ≤ 2 ^ 61 := Nat.pow_le_pow_right (by decide) (by omega)
  have e2 : (2 : Nat) ^ 61 = 2305843009213693952 := by decide
  omega
theorem far_chain {α : Type} {E : α → α → Prop} {a : α} {d : α → Int} (h : Far E a d) : ∀ (n : Nat) (c : α), d c = n → ∃ l : List α, l.length = n + 1 ∧ (∀ x ∈ l, 0 ≤ d x ∧ d x ≤ n) ∧ l.Nodup := by
 intro n
 induction n with
 | zero => intro c hc; exact ⟨[c], rfl, fun x hx => by simp at hx; subst hx; omega, by simp⟩
 | succ n ih =>
  intro c hc
  have hne : c ≠ a := fun e => by have := h.zero; rw [e] at hc; omega
  obtain ⟨-, p, -, hd⟩ := h.back c (by omega) hne
  obtain ⟨l, h1, h2, h3⟩ := ih p (by omega)
  refine ⟨c :: l, by simp [h1], fun x hx => ?_, List.nodup_cons.2 ⟨fun hm => ?_, h3⟩⟩
  ·rcases List.mem_cons.1 hx with rfl | hx
   ·omega
   ·have := h2 x hx; omega
  ·have := h2 c hm; omega
theorem dist63 (back : Bool) (s t : ByteArray) (hs : s.size ≤ 8) (ht : t.size ≤ 8) (a : Nat × Nat) (ha : InC s t a) (c : Nat × Nat) : impl_distancesBy.dist back s t a c ≤ 63 := by
 obtain ⟨hF, hI, -⟩ := far_ex back s t hs ht a ha
 by_cases h : 0 ≤ impl_distancesBy.dist back s t a c
 ·obtain ⟨n, hn⟩ := Int.eq_ofNat_of_zero_le h
  obtain ⟨l, h1, h2, h3⟩ := far_chain hF n c hn
  have hb := nodup_le 64 (l.map fun p => p.1 * 8 + p.2) (by
   rw [List.Nodup, List.pairwise_map]
   refine h3.imp_of_mem (fun {x y} hx hy hxy e => hxy ?_)
   have u := hI x (h2 x hx).1
   have v := hI y (h2 y hy).1
   have := u.1
   have := u.2
   have := v.1
   have := v.2
   exact Prod.ext (by omega) (Prod.ext_iff.1 (Prod.ext (by omega) rfl : ((x.2, ()) : Nat × Unit) = (y.2, ()))).1) (fun x hx => by
   obtain ⟨p, hp, rfl⟩ := List.mem_map.1 hx
   have u := hI p (h2 p hp).1
   have := u.1
   have := u.2
   omega)
  simp at hb
  omega
 ·omega
def add1 (d : Nat × Nat → Int) (s t : ByteArray) (c : Nat × Nat → Int) (x y m : Nat) : Int := if impl_firstWay.nr (impl_distancesBy.tab t.size s.size d) s t x y m = true then c (((x : Int) + impl_driveIn.dx m).toNat, ((y : Int) + impl_driveIn.dy m).toNat) else 0
theorem nr_next {s t : ByteArray} {d : Nat × Nat → Int} {x y m : Nat} (hx : x < t.size) (hy : y < s.size) (h : impl_firstWay.nr (impl_distancesBy.tab t.size s.size d) s t x y m = true) : impl_driveIn.can s t x y m = true ∧ ∃ u v : Nat, (u : Int) = (x : Int) + impl_driveIn.dx m ∧ (v : Int) = (y : Int) + impl_driveIn.dy m ∧ u < t.size ∧ v < s.size ∧ d (u, v) = d (x, y) - 1 := by
 unfold impl_firstWay.nr at h
 rw [Bool.and_eq_true, decide_eq_true_eq] at h
 have hat := impl_firstWay.can_at h.1
 obtain ⟨u, hu⟩ := Int.eq_ofNat_of_zero_le hat.1.1
 obtain ⟨v, hv⟩ := Int.eq_ofNat_of_zero_le hat.2.1
 have hut : u < t.size := by have := hat.1.2; omega
 have hvs : v < s.size := by have := hat.2.2; omega
 refine ⟨h.1, u, v, hu.symm, hv.symm, hut, hvs, ?_⟩
 have z := h.2
 rw [hu, hv, tab_dv s t _ u v hut hvs, tab_dv s t _ x y hx hy] at z
 exact z
theorem add1_range {s t : ByteArray} {d : Nat × Nat → Int} {c : Nat × Nat → Int} {x y m n : Nat} (hx : x < t.size) (hy : y < s.size) (hd : d (x, y) = ((n + 1 : Nat) : Int)) (hc : ∀ u v, u < t.size → v < s.size → d (u, v) = (n : Int) → 1 ≤ c (u, v) ∧ c (u, v) ≤ Bd n) : 0 ≤ add1 d s t c x y m ∧ add1 d s t c x y m ≤ Bd n ∧ (impl_firstWay.nr (impl_distancesBy.tab t.size s.size d) s t x y m = true → 1 ≤ add1 d s t c x y m) ∧ (¬ impl_driveIn.can s t x y m = true → add1 d s t c x y m = 0) := by
 have hB := Bd_pos n
 unfold add1
 by_cases h : impl_firstWay.nr (impl_distancesBy.tab t.size s.size d) s t x y m = true
 ·obtain ⟨h1, u, v, hu, hv, hut, hvs, hduv⟩ := nr_next hx hy h
  rw [if_pos h, ← hu, ← hv, Int.toNat_natCast, Int.toNat_natCast]
  have z := hc u v hut hvs (by omega)
  exact ⟨by omega, z.2, fun _ => z.1, fun k => absurd h1 k⟩
 ·rw [if_neg h]
  exact ⟨by omega, by omega, fun k => absurd k h, fun _ => rfl⟩
theorem can_two {s t : ByteArray} (hg : Good s t) {x y : Nat} (hx : x < t.size) (hy : y < s.size) : (impl_driveIn.can s t x y 0 = true → ¬ impl_driveIn.can s t x y 3 = true) ∧ (impl_driveIn.can s t x y 1 = true → ¬ impl_driveIn.can s t x y 2 = true) := by
 have S := signs_of hg
 refine ⟨fun h k => ?_, fun h k => ?_⟩
 ·have a := can_sign S hx hy (by omega : 0 < 4) h
  have b := can_sign S hx hy (by omega : 3 < 4) k
  rw [if_pos (by decide)] at a b
  rw [← a] at b
  exact absurd b (by decide)
 ·have a := can_sign S hx hy (by omega : 1 < 4) h
  have b := can_sign S hx hy (by omega : 2 < 4) k
  rw [if_neg (by decide)] at a b
  rw [← a] at b
  exact absurd b (by decide)
theorem cell_sum {s t : ByteArray} (hg : Good s t) {d : Nat × Nat → Int} {c : Nat × Nat → Int} {x y n : Nat} (hx : x < t.size) (hy : y < s.size) (hn : n ≤ 62) (hd : d (x, y) = ((n + 1 : Nat) : Int)) (h0 : c (x, y) = 0) (hc : ∀ u v, u < t.size → v < s.size → d (u, v) = (n : Int) → 1 ≤ c (u, v) ∧ c (u, v) ≤ Bd n)
  (hb : ∀ m m', m < 4 → m' < 4 → n = 0 → impl_firstWay.nr (impl_distancesBy.tab t.size s.size d) s t x y m = true → impl_firstWay.nr (impl_distancesBy.tab t.size s.size d) s t x y m' = true → m = m')
  (hex : ∃ m, m < 4 ∧ impl_firstWay.nr (impl_distancesBy.tab t.size s.size d) s t x y m = true) :
  ∃ v, iter (impl_countWays.sgF (impl_distancesBy.tab t.size s.size d) s t (n + 1) x y) 4 0 c = impl_countWays.upd c (x, y) v ∧ 1 ≤ v ∧ v ≤ Bd (n + 1) := by
 have hBl := Bd_le n (by omega)
 have hBp := Bd_pos n
 obtain ⟨A, hA⟩ : ∃ A, A = add1 d s t c x y := ⟨_, rfl⟩
 have r := fun m => add1_range (m := m) hx hy hd hc
 rw [← hA] at r
 have step : ∀ (m : Nat) (v : Int), 0 ≤ v → v ≤ 4 * Bd n → 0 ≤ A m → A m ≤ Bd n → v + A m ≤ 2 * Bd n → impl_countWays.sgF (impl_distancesBy.tab t.size s.size d) s t (n + 1) x y m (impl_countWays.upd c (x, y) v) = impl_countWays.upd c (x, y) (v + A m) := by
  intro m v v0 v1 a0 a1 a2
  unfold impl_countWays.sgF
  by_cases h : impl_firstWay.nr (impl_distancesBy.tab t.size s.size d) s t x y m = true
  ·rw [if_pos ⟨by omega, h⟩]
   obtain ⟨h1, u, w, hu, hw, hut, hvs, hduv⟩ := nr_next hx hy h
   have hne : ((u, w) : Nat × Nat) ≠ (x, y) := fun e => by rw [e] at hduv; omega
   have hAm : A m = c (u, w) := by rw [hA]; unfold add1; rw [if_pos h, ← hu, ← hw, Int.toNat_natCast, Int.toNat_natCast]
   rw [← hu, ← hw, Int.toNat_natCast, Int.toNat_natCast]
   have e1 : impl_countWays.upd c (x, y) v (x, y) = v := by unfold impl_countWays.upd; rw [if_pos rfl]
   have e2 : impl_countWays.upd c (x, y) v (u, w) = c (u, w) := by unfold impl_countWays.upd; rw [if_neg hne]
   rw [e1, e2, ← hAm, w64 (by omega) (by omega)]
   funext q
   unfold impl_countWays.upd
   by_cases e : q = (x, y)
   ·rw [if_pos e, if_pos e]
   ·rw [if_neg e, if_neg e, if_neg e]
  ·rw [if_neg (fun z => h z.2)]
   have hAm : A m = 0 := by rw [hA]; unfold add1; rw [if_neg h]
   rw [hAm, Int.add_zero]
 have r0 := r 0
 have r1 := r 1
 have r2 := r 2
 have r3 := r 3
 have ct := can_two hg hx hy
 have t03 : A 0 + A 3 ≤ Bd n := by
  by_cases k : impl_driveIn.can s t x y 0 = true
  ·have := r3.2.2.2 (ct.1 k); omega
  ·have := r0.2.2.2 k; omega
 have t12 : A 1 + A 2 ≤ Bd n := by
  by_cases k : impl_driveIn.can s t x y 1 = true
  ·have := r2.2.2.2 (ct.2 k); omega
  ·have := r1.2.2.2 k; omega
 have c0 : c = impl_countWays.upd c (x, y) 0 := by
  funext q
  unfold impl_countWays.upd
  by_cases e : q = (x, y)
  ·rw [if_pos e, e, h0]
  ·rw [if_neg e]
 refine ⟨0 + A 0 + A 1 + A 2 + A 3, ?_, ?_, ?_⟩
 ·show impl_countWays.sgF _ s t (n + 1) x y 3 (impl_countWays.sgF _ s t (n + 1) x y 2 (impl_countWays.sgF _ s t (n + 1) x y 1 (impl_countWays.sgF _ s t (n + 1) x y 0 c))) = _
  conv => lhs; rw [c0]
  rw [step 0 0 (by omega) (by omega) r0.1 r0.2.1 (by omega), step 1 _ (by omega) (by omega) r1.1 r1.2.1 (by omega), step 2 _ (by omega) (by omega) r2.1 r2.2.1 (by omega), step 3 _ (by omega) (by omega) r3.1 r3.2.1 (by omega)]
 ·obtain ⟨m, hm, hnr⟩ := hex
  have c4 : m = 0 ∨ m = 1 ∨ m = 2 ∨ m = 3 := by omega
  rcases c4 with rfl | rfl | rfl | rfl
  ·have := r0.2.2.1 hnr; omega
  ·have := r1.2.2.1 hnr; omega
  ·have := r2.2.2.1 hnr; omega
  ·have := r3.2.2.1 hnr; omega
 ·cases n with
  | succ n => rw [Bd_two]; omega
  | zero =>
   have e0 : Bd 0 = 1 := rfl
   have e1 : Bd (0 + 1) = 1 := rfl
   rw [e1]
   rw [e0] at r0 r1 r2 r3 t03 t12
   obtain ⟨m, hm, hnr⟩ := hex
   have other : ∀ m', m' < 4 → m' ≠ m → A m' = 0 := fun m' h4 hne => by
    by_cases k : impl_firstWay.nr (impl_distancesBy.tab t.size s.size d) s t x y m' = true
    ·exact absurd (hb m' m h4 hm rfl k hnr) hne
    ·rw [hA]; unfold add1; rw [if_neg k]
   have c4 : m = 0 ∨ m = 1 ∨ m = 2 ∨ m = 3 := by omega
   rcases c4 with rfl | rfl | rfl | rfl
   ·rw [other 1 (by omega) (by omega), other 2 (by omega) (by omega), other 3 (by omega) (by omega)]; omega
   ·rw [other 0 (by omega) (by omega), other 2 (by omega) (by omega), other 3 (by omega) (by omega)]; omega
   ·rw [other 0 (by omega) (by omega), other 1 (by omega) (by omega), other 3 (by omega) (by omega)]; omega
   ·rw [other 0 (by omega) (by omega), other 1 (by omega) (by omega), other 2 (by omega) (by omega)]; omega
def Cd (s t : ByteArray) (d : Nat × Nat → Int) (n : Nat) (c : Nat × Nat → Int) : Prop := ∀ u v, u < t.size → v < s.size → (∀ k : Nat, k ≤ n → d (u, v) = (k : Int) → 1 ≤ c (u, v) ∧ c (u, v) ≤ Bd k) ∧ ((n : Int) < d (u, v) → c (u, v) = 0)
theorem lev_cd {s t : ByteArray} (hg : Good s t) {d : Nat × Nat → Int} {n : Nat} (hn : n ≤ 62)
  (hb : ∀ x y, x < t.size → y < s.size → d (x, y) = ((n + 1 : Nat) : Int) → ∀ m m', m < 4 → m' < 4 → n = 0 → impl_firstWay.nr (impl_distancesBy.tab t.size s.size d) s t x y m = true → impl_firstWay.nr (impl_distancesBy.tab t.size s.size d) s t x y m' = true → m = m')
  (hex : ∀ x y, x < t.size → y < s.size → d (x, y) = ((n + 1 : Nat) : Int) → ∃ m, m < 4 ∧ impl_firstWay.nr (impl_distancesBy.tab t.size s.size d) s t x y m = true)
  {c : Nat × Nat → Int} (h : Cd s t d n c) : Cd s t d (n + 1) (impl_countWays.levF (impl_distancesBy.tab t.size s.size d) s t (n + 1) c) := by
 let J : (Nat → Nat → Prop) → (Nat × Nat → Int) → Prop := fun D c' => ∀ u v, u < t.size → v < s.size → (d (u, v) ≠ ((n + 1 : Nat) : Int) → c' (u, v) = c (u, v)) ∧ (d (u, v) = ((n + 1 : Nat) : Int) → (D u v → 1 ≤ c' (u, v) ∧ c' (u, v) ≤ Bd (n + 1)) ∧ (¬ D u v → c' (u, v) = 0))
 have z := iter_inv (impl_countWays.rowF (impl_distancesBy.tab t.size s.size d) s t (n + 1)) (fun x c' => J (fun u _ => u < x) c') t.size 0 c (fun x c' _ hx hJ => by
  have w := iter_inv (impl_countWays.cellF (impl_distancesBy.tab t.size s.size d) s t (n + 1) x) (fun y c' => J (fun u v => u < x ∨ (u = x ∧ v < y)) c') s.size 0 c' (fun y c' _ hy hJ => by
   have hx' : x < t.size := by omega
   have hy' : y < s.size := by omega
   unfold impl_countWays.cellF
   rw [tab_dv s t d x y hx' hy']
   by_cases e : d (x, y) = ((n + 1 : Nat) : Int)
   ·rw [if_pos e, if_neg (by omega)]
    have hxy := (hJ x y hx' hy').2 e
    obtain ⟨v, hv, v1, v2⟩ := cell_sum hg (c := c') hx' hy' hn e (hxy.2 (by omega)) (fun a b ha hb' hd => by
     rw [((hJ a b ha hb').1 (by omega))]
     exact (h a b ha hb').1 n (Nat.le_refl _) hd) (hb x y hx' hy' e) (hex x y hx' hy' e)
    rw [hv]
    intro a b ha hb'
    unfold impl_countWays.upd
    by_cases q : ((a, b) : Nat × Nat) = (x, y)
    ·obtain ⟨rfl, rfl⟩ := Prod.mk.inj q
     rw [if_pos rfl]
     exact ⟨fun k => absurd e k, fun _ => ⟨fun _ => ⟨v1, v2⟩, fun k => absurd (Or.inr ⟨rfl, Nat.lt_succ_self _⟩) k⟩⟩
    ·rw [if_neg q]
     have g := hJ a b ha hb'
     refine ⟨g.1, fun k => ⟨fun D => (g.2 k).1 ?_, fun D => (g.2 k).2 (fun D' => D ?_)⟩⟩
     ·rcases D with D | ⟨D, D'⟩
      ·exact .inl D
      ·refine .inr ⟨D, ?_⟩
       by_cases q2 : b = y
       ·exact absurd (Prod.ext D q2) q
       ·omega
     ·rcases D' with D' | ⟨D', D''⟩
      ·exact .inl D'
      ·exact .inr ⟨D', by omega⟩
   ·rw [if_neg e]
    intro a b ha hb'
    have g := hJ a b ha hb'
    refine ⟨g.1, fun k => ⟨fun D => (g.2 k).1 ?_, fun D => (g.2 k).2 (fun D' => D ?_)⟩⟩
    ·rcases D with D | ⟨D, D'⟩
     ·exact .inl D
     ·refine .inr ⟨D, ?_⟩
      by_cases q2 : b = y
      ·rw [D, q2] at k; exact absurd k e
      ·omega
    ·rcases D' with D' | ⟨D', D''⟩
     ·exact .inl D'
     ·exact .inr ⟨D', by omega⟩) (fun a b ha hb' => by
    have g := hJ a b ha hb'
    refine ⟨g.1, fun k => ⟨fun D => (g.2 k).1 ?_, fun D => (g.2 k).2 (fun D' => D ?_)⟩⟩
    ·rcases D with D | ⟨D, D'⟩
     ·exact D
     ·omega
    ·exact .inl D')
  intro a b ha hb'
  have g := w a b ha hb'
  refine ⟨g.1, fun k => ⟨fun D => (g.2 k).1 ?_, fun D => (g.2 k).2 (fun D' => D ?_)⟩⟩
  ·by_cases q2 : a = x
   ·exact .inr ⟨q2, by omega⟩
   ·exact .inl (by omega)
  ·rcases D' with D' | ⟨D', D''⟩
   ·omega
   ·omega) (fun a b ha hb' => ⟨fun _ => rfl, fun k => ⟨fun D => by omega, fun _ => (h a b ha hb').2 (by omega)⟩⟩)
 intro a b ha hb'
 have g := z a b ha hb'
 refine ⟨fun k hk hd => ?_, fun hd => ?_⟩
 ·by_cases e : k = n + 1
  ·subst e
   exact (g.2 hd).1 (by omega)
  ·have e2 := g.1 (by omega)
   unfold impl_countWays.levF
   rw [e2]
   exact (h a b ha hb').1 k (by omega) hd
 ·have e2 := g.1 (by omega)
  unfold impl_countWays.levF
  rw [e2]
  exact (h a b ha hb').2 (by omega)
theorem iter_snoc {σ : Type} (f : Nat → σ → σ) : ∀ (n i : Nat) (c : σ), iter f (n + 1) i c = f (i + n) (iter f n i c)
 | 0, i, c => rfl
 | n + 1, i, c => by
  show iter f (n + 1) (i + 1) (f i c) = _
  rw [iter_snoc f n (i + 1) (f i c)]
  show f (i + 1 + n) _ = f (i + (n + 1)) _
  rw [show i + 1 + n = i + (n + 1) by omega]
  rfl
theorem iter_rel {σ τ : Type} (R : σ → τ → Prop) (f : Nat → σ → σ) (g : Nat → τ → τ) : ∀ (n i : Nat) (c : σ) (c' : τ), (∀ j c c', i ≤ j → j < i + n → R c c' → R (f j c) (g j c')) → R c c' → R (iter f n i c) (iter g n i c')
 | 0, _, _, _, _, h => h
 | n + 1, i, c, c', hs, h => iter_rel R f g n (i + 1) _ _ (fun j c c' h1 h2 => hs j c c' (by omega) (by omega)) (hs i c c' (Nat.le_refl _) (by omega) h)
theorem iter_shift {σ : Type} (f : Nat → σ → σ) (a : Nat) : ∀ (n i : Nat) (c : σ), iter (fun j => f (a + j)) n i c = iter f n (a + i) c
 | 0, _, _ => rfl
 | n + 1, i, c => by
  show iter (fun j => f (a + j)) n (i + 1) (f (a + i) c) = iter f n (a + i + 1) (f (a + i) c)
  rw [iter_shift f a n (i + 1) _]
  rfl
theorem iter_add {σ : Type} (f : Nat → σ → σ) (b : Nat) : ∀ (n i : Nat) (c : σ), iter f (n + b) i c = iter f b (i + n) (iter f n i c)
 | 0, i, c => by rw [Nat.zero_add]; rfl
 | n + 1, i, c => by
  rw [show n + 1 + b = (n + b) + 1 by omega]
  show iter f (n + b) (i + 1) (f i c) = iter f b (i + (n + 1)) (iter f n (i + 1) (f i c))
  rw [iter_add f b n (i + 1) _, show i + 1 + n = i + (n + 1) by omega]
theorem iter_nest {σ : Type} (f : Nat → σ → σ) (H : Nat) : ∀ (W : Nat) (c : σ), iter f (W * H) 0 c = iter (fun x c => iter (fun y => f (x * H + y)) H 0 c) W 0 c
 | 0, c => by rw [Nat.zero_mul]; rfl
 | W + 1, c => by
  rw [iter_snoc, ← iter_nest f H W c, show (W + 1) * H = W * H + H by rw [Nat.add_mul, Nat.one_mul], iter_add, Nat.zero_add, Nat.zero_add, iter_shift]
  rfl
def Same (W H : Nat) (c : Nat × Nat → Int) (c' : Nat → Int) : Prop := ∀ x y, x < W → y < H → c (x, y) = c' (x * H + y)
theorem cd_inj {H x y x' y' : Nat} (hy : y < H) (hy' : y' < H) (h : x * H + y = x' * H + y') : x = x' ∧ y = y' := by
 have a := spec_owFar.cd_div H x y hy
 have b := spec_owFar.cd_div H x' y' hy'
 rw [h] at a
 exact ⟨a.1.symm.trans b.1, a.2.symm.trans b.2⟩
theorem Same.upd {W H : Nat} {c : Nat × Nat → Int} {c' : Nat → Int} (h : Same W H c c') (x y : Nat) (hy : y < H) (v : Int) : Same W H (impl_countWays.upd c (x, y) v) (spec_CountDrives.upd c' (x * H + y) v) := by
 intro u z hu hz
 unfold impl_countWays.upd spec_CountDrives.upd
 by_cases e : (u, z) = (x, y)
 ·obtain ⟨rfl, rfl⟩ := Prod.mk.inj e
  rw [if_pos rfl, if_pos rfl]
 ·rw [if_neg e, if_neg (fun q => e (by obtain ⟨rfl, rfl⟩ := cd_inj hz hy q; rfl))]
  exact h u z hu hz
theorem sg_same (s t : ByteArray) (d : Nat × Nat → Int) (n x y m : Nat) (hx : x < t.size) (hy : y < s.size) (hd : d (x, y) = ((n + 1 : Nat) : Int)) {c : Nat × Nat → Int} {c' : Nat → Int} (h : Same t.size s.size c c') :
  Same t.size s.size (impl_countWays.sgF (impl_distancesBy.tab t.size s.size d) s t (n + 1) x y m c) (spec_CountDrives.sgF (spec_owFar.flat t.size s.size d) s t (n + 1) (x * s.size + y) m c') := by
 unfold impl_countWays.sgF spec_CountDrives.sgF
 obtain ⟨e1, e2⟩ := spec_owFar.cd_div s.size x y hy
 have hok := ok_nr s t d n (x, y) ⟨hx, hy⟩ hd m
 rw [e1, e2, show ((n + 1 : Nat) : Int) - 1 = (n : Int) by omega, hok]
 cases hn : impl_firstWay.nr (impl_distancesBy.tab t.size s.size d) s t x y m with
 | false =>
  rw [if_neg (by simp), if_neg (by simp)]
  exact h
 | true =>
  rw [if_pos ⟨by omega, rfl⟩, if_pos rfl]
  unfold impl_firstWay.nr at hn
  rw [Bool.and_eq_true] at hn
  have hat := impl_firstWay.can_at hn.1
  obtain ⟨u, hu⟩ := Int.eq_ofNat_of_zero_le hat.1.1
  obtain ⟨v, hv⟩ := Int.eq_ofNat_of_zero_le hat.2.1
  have hut : u < t.size := by have := hat.1.2; omega
  have hvs : v < s.size := by have := hat.2.2; omega
  rw [hu, hv, ← Int.natCast_mul, ← Int.natCast_add, Int.toNat_natCast, Int.toNat_natCast, Int.toNat_natCast, h x y hx hy, h u v hut hvs]
  exact h.upd x y hy _
theorem flat_get (s t : ByteArray) (d : Nat × Nat → Int) (x y : Nat) (hx : x < t.size) (hy : y < s.size) : rd (spec_owFar.flat t.size s.size d) ((x * s.size + y : Nat) : Int) = d (x, y) := flat_rd _ _ _ _ _ hx hy
theorem lev_same (s t : ByteArray) (d : Nat × Nat → Int) (n : Nat) {c : Nat × Nat → Int} {c' : Nat → Int} (h : Same t.size s.size c c') :
  Same t.size s.size (impl_countWays.levF (impl_distancesBy.tab t.size s.size d) s t (n + 1) c) (spec_CountDrives.levF (spec_owFar.flat t.size s.size d) s t (n + 1) c') := by
 unfold impl_countWays.levF spec_CountDrives.levF
 rw [iter_nest]
 refine iter_rel _ _ _ _ _ _ _ (fun x c c' _ hx h => ?_) h
 refine iter_rel _ _ _ _ _ _ _ (fun y c c' _ hy h => ?_) h
 have hx' : x < t.size := by omega
 have hy' : y < s.size := by omega
 unfold impl_countWays.cellF spec_CountDrives.cellF
 rw [flat_get s t d x y hx' hy', tab_dv s t d x y hx' hy']
 by_cases e : d (x, y) = ((n + 1 : Nat) : Int)
 ·rw [if_pos e, if_pos e, if_neg (by omega)]
  exact iter_rel _ _ _ _ _ _ _ (fun m c c' _ _ h => sg_same s t d n x y m hx' hy' e h) h
 ·rw [if_neg e, if_neg e]
  exact h
theorem lev_zero (s t : ByteArray) (d : Nat × Nat → Int) (b : Nat × Nat) (hb : InC s t b) (hz : ∀ p, InC s t p → (d p = 0 ↔ p = b)) :
  Same t.size s.size (impl_countWays.levF (impl_distancesBy.tab t.size s.size d) s t 0 (fun _ => 0)) (spec_CountDrives.upd (fun _ => 0) (b.1 * s.size + b.2) 1) := by
 have key : Same t.size s.size (impl_countWays.levF (impl_distancesBy.tab t.size s.size d) s t 0 (fun _ => 0)) (iter (fun q c => if q = b.1 * s.size + b.2 then spec_CountDrives.upd c q 1 else c) (t.size * s.size) 0 (fun _ => 0)) := by
  unfold impl_countWays.levF
  rw [iter_nest]
  refine iter_rel _ _ _ _ _ _ _ (fun x c c' _ hx h => ?_) (fun _ _ _ _ => rfl)
  refine iter_rel _ _ _ _ _ _ _ (fun y c c' _ hy h => ?_) h
  have hx' : x < t.size := by omega
  have hy' : y < s.size := by omega
  unfold impl_countWays.cellF
  rw [tab_dv s t d x y hx' hy', show ((0 : Nat) : Int) = 0 from rfl]
  have e := hz (x, y) ⟨hx', hy'⟩
  by_cases q : d (x, y) = 0
  ·have hbe := e.1 q
   rw [if_pos q, if_pos rfl, if_pos (by rw [← hbe])]
   have z : iter (impl_countWays.sgF (impl_distancesBy.tab t.size s.size d) s t 0 x y) 4 0 (impl_countWays.upd c (x, y) 1) = impl_countWays.upd c (x, y) 1 := by
    simp [impl_countWays.iter, impl_countWays.sgF]
   rw [z]
   exact h.upd x y hy' 1
  ·rw [if_neg q, if_neg (fun w => q (e.2 (by obtain ⟨h1, h2⟩ := cd_inj hy' hb.2 w; exact Prod.ext h1 h2)))]
   exact h
 have fin : ∀ n, iter (fun q c => if q = b.1 * s.size + b.2 then spec_CountDrives.upd c q 1 else c) n 0 (fun _ => (0 : Int)) = if b.1 * s.size + b.2 < n then spec_CountDrives.upd (fun _ => 0) (b.1 * s.size + b.2) 1 else fun _ => 0 := by
  intro n
  induction n with
  | zero => rfl
  | succ n ih =>
   rw [iter_snoc, ih, Nat.zero_add]
   by_cases e : n = b.1 * s.size + b.2
   ·rw [if_pos e, if_neg (by omega), if_pos (by omega), e]
   ·rw [if_neg e]
    by_cases q : b.1 * s.size + b.2 < n
    ·rw [if_pos q, if_pos (by omega)]
    ·rw [if_neg q, if_neg (by omega)]
 rw [fin, if_pos (spec_owFar.cd_lt _ _ _ _ hb.1 hb.2)] at key
 exact key
theorem total_same (s t : ByteArray) (hs : s.size ≤ 8) (ht : t.size ≤ 8) (a b : Nat × Nat) (ha : InC s t a) (hb : InC s t b) (D : Nat) :
  impl_countWays.total (impl_distancesBy.tab t.size s.size (impl_distancesBy.dist true s t b)) s t D a = spec_CountDrives.total (spec_owFar.flat t.size s.size (impl_distancesBy.dist true s t b)) s t D (b.1 * s.size + b.2) (a.1 * s.size + a.2) := by
 obtain ⟨hF, hI, hM⟩ := far_ex true s t hs ht b hb
 have hz : ∀ p, InC s t p → (impl_distancesBy.dist true s t b p = 0 ↔ p = b) := by
  intro p hp
  constructor
  ·intro h
   by_cases e : p = b
   ·exact e
   ·have z := (hF.back p (by omega) e).1
    omega
  ·intro h
   rw [h]
   exact hF.zero
 have key : Same t.size s.size (iter (impl_countWays.levF (impl_distancesBy.tab t.size s.size (impl_distancesBy.dist true s t b)) s t) D 1 (impl_countWays.levF (impl_distancesBy.tab t.size s.size (impl_distancesBy.dist true s t b)) s t 0 (fun _ => 0))) (iter (spec_CountDrives.levF (spec_owFar.flat t.size s.size (impl_distancesBy.dist true s t b)) s t) D 1 (spec_CountDrives.upd (fun _ => 0) (b.1 * s.size + b.2) 1)) := by
  refine iter_rel _ _ _ _ _ _ _ (fun n c c' h1 _ h => ?_) (lev_zero s t _ b hb hz)
  obtain ⟨m, rfl⟩ : ∃ m, n = m + 1 := ⟨n - 1, by omega⟩
  exact lev_same s t _ m h
 exact key a.1 a.2 ha.1 ha.2
theorem cd_no (s t : ByteArray) (xs ys : List Int) (hs : s.size ≤ 1048576) (ht : t.size ≤ 1048576) (h : ¬ Asked s t xs ys) : Ev (fun k => spec_CountDrives.f k s t xs ys) (0, false) ∧ Ev (fun k => impl_CountDrives.f k s t xs ys) (0, false) := by
 unfold spec_CountDrives.f impl_CountDrives.f
 exact ⟨bind (unasked_spec hs ht h) (neg (by simp) (now _)), bind (unasked_impl hs ht h) (neg (by simp) (now _))⟩
theorem total_pos (s t : ByteArray) (hg : Good s t) (a b : Nat × Nat) (ha : InC s t a) (hb : InC s t b) (D : Nat) (hD : impl_distancesBy.dist true s t b a = (D : Int)) : 1 ≤ impl_countWays.total (impl_distancesBy.tab t.size s.size (impl_distancesBy.dist true s t b)) s t D a := by
 have z1 := hg.1.1
 have z2 := hg.2.1
 obtain ⟨hF, hI, hM⟩ := far_ex true s t (by omega) (by omega) b hb
 have h63 := dist63 true s t (by omega) (by omega) b hb a
 have hz : ∀ p, InC s t p → (impl_distancesBy.dist true s t b p = 0 ↔ p = b) := by
  intro p hp
  constructor
  ·intro h
   by_cases e : p = b
   ·exact e
   ·have z := (hF.back p (by omega) e).1
    omega
  ·intro h
   rw [h]
   exact hF.zero
 have h0 : Cd s t (impl_distancesBy.dist true s t b) 0 (impl_countWays.levF (impl_distancesBy.tab t.size s.size (impl_distancesBy.dist true s t b)) s t 0 (fun _ => 0)) := by
  intro u v hu hv
  have e := lev_zero s t (impl_distancesBy.dist true s t b) b hb hz u v hu hv
  rw [e]
  unfold spec_CountDrives.upd
  refine ⟨fun k hk hd => ?_, fun hd => ?_⟩
  ·obtain rfl : k = 0 := by omega
   have e2 := (hz (u, v) ⟨hu, hv⟩).1 hd
   rw [if_pos (by rw [← e2])]
   exact ⟨by omega, Bd_pos 0⟩
  ·rw [if_neg (fun w => ?_)]
   obtain ⟨h1, h2⟩ := cd_inj hv hb.2 w
   have e3 := (hz (u, v) ⟨hu, hv⟩).2 (Prod.ext h1 h2)
   omega
 have key : ∀ n : Nat, n ≤ 63 → Cd s t (impl_distancesBy.dist true s t b) n (iter (impl_countWays.levF (impl_distancesBy.tab t.size s.size (impl_distancesBy.dist true s t b)) s t) (n + 1) 0 (fun _ => 0)) := by
  intro n
  induction n with
  | zero => intro _; exact h0
  | succ n ih =>
   intro hn
   rw [iter_snoc, Nat.zero_add]
   refine lev_cd hg (by omega) (fun x y hx hy hd m m' hm hm' hn0 h1 h2 => ?_) (fun x y hx hy hd => ?_) (ih (by omega))
   ·subst hn0
    obtain ⟨g1, u, v, hu, hv, hut, hvs, hduv⟩ := nr_next hx hy h1
    obtain ⟨g2, u', v', hu', hv', hut', hvs', hduv'⟩ := nr_next hx hy h2
    have e1 := (hz (u, v) ⟨hut, hvs⟩).1 (by omega)
    have e2 := (hz (u', v') ⟨hut', hvs'⟩).1 (by omega)
    rw [← e2] at e1
    obtain ⟨rfl, rfl⟩ := Prod.mk.inj e1
    have c : m = 0 ∨ m = 1 ∨ m = 2 ∨ m = 3 := by omega
    have c' : m' = 0 ∨ m' = 1 ∨ m' = 2 ∨ m' = 3 := by omega
    rcases c with rfl | rfl | rfl | rfl <;> rcases c' with rfl | rfl | rfl | rfl <;> simp [impl_driveIn.dx, impl_driveIn.dy] at hu hv hu' hv' ⊢ <;> omega
   ·have hne : ((x, y) : Nat × Nat) ≠ b := fun e => by have := hF.zero; rw [e] at hd; omega
    obtain ⟨-, q, hq, hqd⟩ := hF.back (x, y) (by omega) hne
    have hqI : InC s t q := hI q (by omega)
    obtain ⟨m, m4, hst⟩ := leads_turn s t true q (x, y) hqI hq
    obtain ⟨e1, e2, hin, hcan⟩ := stp_some hst
    refine ⟨m, m4, ?_⟩
    unfold impl_firstWay.nr
    rw [if_neg (by simp)] at hcan
    have e1' : (q.1 : Int) = (x : Int) + impl_driveIn.dx m := e1
    have e2' : (q.2 : Int) = (y : Int) + impl_driveIn.dy m := e2
    rw [hcan, ← e1', ← e2', tab_dv s t _ q.1 q.2 hqI.1 hqI.2, tab_dv s t _ x y hx hy, Bool.true_and, decide_eq_true_eq]
    have : impl_distancesBy.dist true s t b (q.1, q.2) = impl_distancesBy.dist true s t b q := rfl
    omega
 exact ((key D (by omega) a.1 a.2 ha.1 ha.2).1 D (Nat.le_refl _) hD).1
theorem cd_yes (s t : ByteArray) (xs ys : List Int) (hs : s.size ≤ 1048576) (ht : t.size ≤ 1048576) (h : Asked s t xs ys) : (Dis s t xs ys < 0 → Ev (fun k => spec_CountDrives.f k s t xs ys) (0, false) ∧ Ev (fun k => impl_CountDrives.f k s t xs ys) (0, false)) ∧ (0 ≤ Dis s t xs ys → ∃ T : Int, 1 ≤ T ∧ Ev (fun k => spec_CountDrives.f k s t xs ys) (T, true) ∧ Ev (fun k => impl_CountDrives.f k s t xs ys) (T, true)) := by
 unfold spec_CountDrives.f impl_CountDrives.f
 have hA := h
 obtain ⟨G, hx, hy⟩ := h.of
 have z1 := G.1.1
 have z2 := G.2.1
 obtain ⟨ix, ex0, ex1⟩ := crn_in hx.2
 obtain ⟨iy, -, -⟩ := crn_in hy.2
 have hd := dist_turn s t (by omega) (by omega) _ _ ix iy
 have hsm := far_ex true s t (by omega) (by omega) (crn ys) iy
 unfold Dis
 obtain ⟨D, hD⟩ : ∃ D, impl_distancesBy.dist false s t (crn xs) (crn ys) = D := ⟨_, rfl⟩
 rw [hD]
 rw [hD] at hd
 have q1 := owDistance_f s t G xs ys hx hy
 rw [hD] at q1
 have i1 := ix.1
 have i2 := ix.2
 have er : rd_L3 (impl_distancesBy.tab t.size s.size (impl_distancesBy.dist true s t (crn ys))) ((crn xs).1 : Int) = (List.range s.size).map fun y => impl_distancesBy.dist true s t (crn ys) ((crn xs).1, y) := tab_row _ _ _ _ i1
 have ev : rd (rd_L3 (impl_distancesBy.tab t.size s.size (impl_distancesBy.dist true s t (crn ys))) ((crn xs).1 : Int)) ((crn xs).2 : Int) = D := by
  rw [tab_rd _ _ _ _ _ i1 i2, hd]
 have drv : ∀ v, Ev (fun k => if D < 0 then some (0, false) else (impl_driveIn.f s t).bind fun t174 => (impl_countWays.f k (impl_distancesBy.tab t.size s.size (impl_distancesBy.dist true s t (crn ys))) xs t174).bind fun t175 => some (t175, true)) v → Ev (fun k => impl_CountDrives.f k s t xs ys) v := by
  intro v hv
  unfold impl_CountDrives.f
  refine bind (asked_impl hs ht hA) (pos rfl (bind (drivesTo_some s t G ys hy) ?_))
  rw [ex0, ex1, tab_len, ev, er]
  exact pos (by omega) (pos (by omega) (pos (by omega) (pos (by omega) (pos (by omega) (pos (by simp; omega) hv)))))
 refine ⟨fun q => ?_, fun q0 => ?_⟩
 ·exact ⟨bind (asked_spec hs ht hA) (pos rfl (bind q1 (pos q (now _)))), by have z := drv _ (pos q (now _)); unfold impl_CountDrives.f at z; exact z⟩
 ·have q : ¬ D < 0 := by omega
  obtain ⟨n, hn⟩ := Int.eq_ofNat_of_zero_le q0
  have hTp := total_pos s t G (crn xs) (crn ys) ix iy n (by rw [← hd, hn])
  have hD64 : D ≤ 64 := by rw [hd]; exact hsm.2.2 _
  have hyb : ys.length = 2 ∧ impl_driveIn.At (mapB ge s) (mapB gn t) (rd ys 0) (rd ys 1) := ⟨hy.1, by unfold impl_driveIn.At; rw [mapB_size, mapB_size]; exact hy.2⟩
  have q2 := owFar_some (mapB ge s) (mapB gn t) (good_back G) ys hyb.1 hyb.2
  rw [mapB_size, mapB_size, dist_back s t G (crn ys) iy] at q2
  obtain ⟨iy2, ey0, ey1⟩ := crn_in hy.2
  have hE := total_same s t (by omega) (by omega) (crn xs) (crn ys) ix iy n
  obtain ⟨T, hT⟩ : ∃ T, spec_CountDrives.total (spec_owFar.flat t.size s.size (impl_distancesBy.dist true s t (crn ys))) s t n ((crn ys).1 * s.size + (crn ys).2) ((crn xs).1 * s.size + (crn xs).2) = T := ⟨_, rfl⟩
  have e : D.toNat = n := by omega
  refine ⟨T, by rw [← hT, ← hE]; exact hTp, bind (asked_spec hs ht hA) (pos rfl (bind q1 (neg q (bind (owBack_f s t (by omega) (by omega)) (bind q2 (pos ⟨⟨⟨⟨signs_of G, hx.1⟩, hx.2⟩, hy.1, hy.2⟩, flat_len _ _ _, hD64⟩ (conv (now _) ?_))))))), ?_⟩
  ·rw [e, ex0, ex1, ey0, ey1]
   simp only [Int.toNat_natCast]
   rw [hT]
  ·have hcw : Ev (fun k => impl_countWays.f k (impl_distancesBy.tab t.size s.size (impl_distancesBy.dist true s t (crn ys))) xs (s, t)) T := by
    refine ⟨1, fun k hk => ?_⟩
    obtain ⟨k, rfl⟩ : ∃ j, k = j + 1 := ⟨k - 1, by omega⟩
    have edv : impl_firstWay.dv (impl_distancesBy.tab t.size s.size (impl_distancesBy.dist true s t (crn ys))) ((crn xs).1 : Int) ((crn xs).2 : Int) = D := by
     rw [tab_dv s t _ _ _ i1 i2, hd]
    unfold impl_countWays.f
    dsimp only
    rw [if_pos ⟨⟨⟨tab_rect s t _ (fun c => ⟨hsm.1.low c, hsm.2.2 c⟩), (signs_of G).1⟩, hx.1, hx.2⟩, by rw [ex0, ex1, edv]; omega⟩, ex0, ex1, edv, e, Int.toNat_natCast, Int.toNat_natCast, hE, hT]
   have z := drv _ (neg q (bindSome rfl (bind hcw (now _))))
   unfold impl_CountDrives.f at z
   exact z
theorem path_dr {st : Nat × Nat → Nat → Option (Nat × Nat)} {a : Nat × Nat} {n : Nat} {a' p : Nat × Nat} (h : Path (Leads st) n a' p) : a' = a → ∃ u ax, Dr st a u p ax := by
 induction h with
 | nil b => rintro rfl; exact ⟨0, true, .start _⟩
 | snoc _ e ih =>
  intro ha
  obtain ⟨u, ax, hd⟩ := ih ha
  obtain ⟨m, hm, hs⟩ := e
  by_cases q : ax = axis m
  ·subst q; exact ⟨u, _, .drive hd hm hs⟩
  ·have q2 : axis m = !ax := by cases ax <;> cases h : axis m <;> simp_all
   have z := hd.turn
   rw [← q2] at z
   exact ⟨u + 1, _, .drive z hm hs⟩
theorem dr_far {st : Nat × Nat → Nat → Option (Nat × Nat)} {a : Nat × Nat} {d : Nat × Nat → Int} (hf : Far (Leads st) a d) {u : Nat} {p : Nat × Nat} {ax : Bool} (h : Dr st a u p ax) : 0 ≤ d p := by
 induction h with
 | start => rw [hf.zero]; exact Int.le_refl _
 | drive _ hm hs ih => exact (hf.next _ _ ih ⟨_, hm, hs⟩).1
 | turn _ ih => exact ih
 | more _ ih => exact ih
theorem at_crn (s : ByteArray) (xs : List Int) : spec_FewestTurns.at_ s xs = (crn xs).1 * s.size + (crn xs).2 := rfl
theorem impl_some (s t : ByteArray) (hg : Good s t) (xs ys : List Int) (hx : xs.length = 2 ∧ impl_driveIn.At s t (rd xs 0) (rd xs 1)) (hy : ys.length = 2 ∧ impl_driveIn.At s t (rd ys 0) (rd ys 1)) : ∃ v, Fewest (impl_distancesBy.stp false s t) (crn xs) (crn ys) v ∧ Ev (fun k => impl_fewestTurns.f k s t xs ys) v := by
 obtain ⟨v, h1, h2⟩ := fewest_some (steps_of (signs_of hg)) (crn xs) (crn ys) (crn_in hx.2).1
 refine ⟨v, h1, ⟨3000, fun k hk => ?_⟩⟩
 show impl_fewestTurns.f k s t xs ys = some v
 unfold impl_fewestTurns.f
 rw [if_pos ⟨(signs_of hg).1, hx, hy⟩]
 exact h2 k hk
theorem start_ahd {s t : ByteArray} (hg : spec_owFar.Signs s t) {a : Nat × Nat} (ha : InC s t a) (i : Nat) (hi : i < s.size * t.size) : ((fun i => if i = a.1 * s.size + a.2 then true else false) i = true ↔ Ahd (impl_distancesBy.stp false s t) a 0 (i / s.size, i % s.size)) := by
 have hq := (cor_of hg).idx a ha
 constructor
 ·intro h
  have e : i = a.1 * s.size + a.2 := by
   by_cases e : i = a.1 * s.size + a.2
   ·exact e
   ·simp [e] at h
  refine .inl ⟨rfl, ?_⟩
  rw [e, hq.2.1, hq.2.2]
 ·rintro (⟨-, h⟩ | ⟨u, hu, -⟩)
  ·have e : i / s.size * s.size + i % s.size = i := by rw [Nat.mul_comm]; exact Nat.div_add_mod i s.size
   rw [← h]
   simp only [e, if_true]
  ·omega
theorem spec_some (s t : ByteArray) (hg : Good s t) (xs ys : List Int) (hx : xs.length = 2 ∧ impl_driveIn.At s t (rd xs 0) (rd xs 1)) (hy : ys.length = 2 ∧ impl_driveIn.At s t (rd ys 0) (rd ys 1)) (v : Int × Bool) (hv : Fewest (impl_distancesBy.stp false s t) (crn xs) (crn ys) v) : Ev (fun k => (spec_owDistance.f k s t xs ys).bind fun D => if D < 0 then some (0, false) else if spec_FewestTurns.Ok s t xs ys then spec_FewestTurns.core k s t (spec_FewestTurns.at_ s xs) (spec_FewestTurns.at_ s ys) else none) v := by
 have S := signs_of hg
 obtain ⟨ix, ex0, ex1⟩ := crn_in hx.2
 obtain ⟨iy, ey0, ey1⟩ := crn_in hy.2
 obtain ⟨hf, -, -⟩ := far_ex false s t S.1.2.2 S.1.1.2 (crn xs) ix
 refine bind (owDistance_f s t hg xs ys hx hy) ?_
 rcases hv with ⟨T, rfl, hT, hex, hl⟩ | ⟨rfl, hn⟩
 ·have h0 : 0 ≤ impl_distancesBy.dist false s t (crn xs) (crn ys) := by
   obtain ⟨ax, hd⟩ := hex
   exact dr_far hf hd
  refine neg (by omega) (pos ⟨⟨S.1, hx⟩, hy⟩ ?_)
  rw [at_crn, at_crn]
  unfold spec_FewestTurns.core
  have qx := (cor_of S).idx _ ix
  have qy := (cor_of S).idx _ iy
  by_cases e : (crn xs).1 * s.size + (crn xs).2 = (crn ys).1 * s.size + (crn ys).2
  ·have e2 : crn xs = crn ys := by
    refine Prod.ext ?_ ?_
    ·rw [← qx.2.1, ← qy.2.1, e]
    ·rw [← qx.2.2, ← qy.2.2, e]
   have hT0 : T = 0 := by
    cases T with
    | zero => rfl
    | succ n => exact absurd (e2 ▸ Dr.start true) (hl 0 (by omega) true)
   subst hT0
   exact pos e (now _)
  ·refine neg e (bind (a := (T : Int)) ?_ (now _))
   refine ⟨T + s.size * t.size + 2, fun k hk => ?_⟩
   exact rounds_some (cor_of S) (steps_of S) ix iy T hT hex hl T 0 _ _ (by omega) (start_ahd S ix) (start_ahd S ix) k hk
 ·refine pos ?_ (now _)
  have hlow := hf.low (crn ys)
  by_cases h : impl_distancesBy.dist false s t (crn xs) (crn ys) < 0
  ·exact h
  ·obtain ⟨u, ax, hd⟩ := path_dr (hf.path (impl_distancesBy.dist false s t (crn xs) (crn ys)).toNat (crn ys) (by omega)) rfl
   exact absurd hd (hn u ax)
theorem ft_no (s t : ByteArray) (xs ys : List Int) (hs : s.size ≤ 1048576) (ht : t.size ≤ 1048576) (h : ¬ Asked s t xs ys) : Ev (fun k => spec_FewestTurns.f k s t xs ys) (0, false) ∧ Ev (fun k => impl_FewestTurns.f k s t xs ys) (0, false) := by
 unfold spec_FewestTurns.f impl_FewestTurns.f
 exact ⟨bind (unasked_spec hs ht h) (neg (by simp) (now _)), bind (unasked_impl hs ht h) (neg (by simp) (now _))⟩
theorem ft_yes (s t : ByteArray) (xs ys : List Int) (hs : s.size ≤ 1048576) (ht : t.size ≤ 1048576) (h : Asked s t xs ys) : (Dis s t xs ys < 0 → Ev (fun k => spec_FewestTurns.f k s t xs ys) (0, false) ∧ Ev (fun k => impl_FewestTurns.f k s t xs ys) (0, false)) ∧ (0 ≤ Dis s t xs ys → ∃ T : Nat, (∀ k ax, Dr (impl_distancesBy.stp false s t) (crn xs) k (crn ys) ax → T ≤ k) ∧ T ≤ 1000 ∧ Ev (fun k => spec_FewestTurns.f k s t xs ys) ((T : Int), true) ∧ Ev (fun k => impl_FewestTurns.f k s t xs ys) ((T : Int), true)) := by
 obtain ⟨G, hx, hy⟩ := h.of
 have S := signs_of G
 obtain ⟨ix, -, -⟩ := crn_in hx.2
 obtain ⟨hf, -, -⟩ := far_ex false s t S.1.2.2 S.1.1.2 (crn xs) ix
 obtain ⟨v, h1, h2⟩ := impl_some s t G xs ys hx hy
 have e1 : Ev (fun k => spec_FewestTurns.f k s t xs ys) v := by
  unfold spec_FewestTurns.f
  exact bind (asked_spec hs ht h) (pos rfl (spec_some s t G xs ys hx hy v h1))
 have e2 : Ev (fun k => impl_FewestTurns.f k s t xs ys) v := by
  unfold impl_FewestTurns.f
  exact bind (asked_impl hs ht h) (pos rfl (bind h2 (now _)))
 rcases h1 with ⟨T, rfl, hT, hex, hl⟩ | ⟨rfl, hn⟩
 ·refine ⟨fun q => ?_, fun q => ⟨T, fun k ax hd => ?_, hT, e1, e2⟩⟩
  ·obtain ⟨ax, hd⟩ := hex
   have z := dr_far hf hd
   unfold Dis at q
   omega
  ·by_cases z : T ≤ k
   ·exact z
   ·exact absurd hd (hl k (by omega) ax)
 ·refine ⟨fun _ => ⟨e1, e2⟩, fun q => ?_⟩
  unfold Dis at q
  obtain ⟨u, ax, hd⟩ := path_dr (hf.path (impl_distancesBy.dist false s t (crn xs) (crn ys)).toNat (crn ys) (by omega)) rfl
  exact absurd hd (hn u ax)
def Stp (s t : ByteArray) (x y c : Int) : Int × Int × Bool :=
 if c = bt s y then (if c = 101 then x + 1 else x - 1, y, decide (0 ≤ (if c = 101 then x + 1 else x - 1) ∧ (if c = 101 then x + 1 else x - 1) ≤ (t.size : Int) - 1) && decide (0 ≤ y ∧ y ≤ (s.size : Int) - 1))
 else if c = bt t x then (x, if c = 110 then y + 1 else y - 1, decide (0 ≤ x ∧ x ≤ (t.size : Int) - 1) && decide (0 ≤ (if c = 110 then y + 1 else y - 1) ∧ (if c = 110 then y + 1 else y - 1) ≤ (s.size : Int) - 1))
 else (0, 0, false)
theorem pair_bool {α β : Type} (a : α) (b : β) (p q : Bool) : (if p = true then some (a, b, q) else some (a, b, false)) = some (a, b, p && q) := by cases p <;> simp
theorem step_f (s t : ByteArray) (x y c : Int) (hx : 0 ≤ x ∧ x < t.size) (hy : 0 ≤ y ∧ y < s.size) (hs : s.size ≤ 8) (ht : t.size ≤ 8) : Ev (fun k => spec_owStep.f k s t x y c) (Stp s t x y c) := by
 unfold spec_owStep.f Stp
 refine pos hy.1 (pos hy.2 ?_)
 have e1 : wrap64 (x + 1) = x + 1 := w64 (by omega) (by omega)
 have e2 : wrap64 (x - 1) = x - 1 := w64 (by omega) (by omega)
 have e3 : wrap64 (y + 1) = y + 1 := w64 (by omega) (by omega)
 have e4 : wrap64 (y - 1) = y - 1 := w64 (by omega) (by omega)
 have e5 : wrap64 ((t.size : Int) - 1) = (t.size : Int) - 1 := wsub1 (by omega)
 have e6 : wrap64 ((s.size : Int) - 1) = (s.size : Int) - 1 := wsub1 (by omega)
 by_cases a : c = bt s y
 ·rw [if_pos a]
  refine pos a (succ ?_)
  simp only [spec_owStep.j0, spec_in, Option.bind_some, e1, e2, e5, e6, pair_bool]
  by_cases b : c = 101
  ·rw [if_pos b]
   exact pos (by simpa using b) (now _)
  ·rw [if_neg b]
   exact neg (by simpa using b) (pos hy.1 (pos hy.2 (pos a (now _))))
 ·rw [if_neg a]
  refine neg a (succ ?_)
  simp only [spec_owStep.j0, spec_in, Option.bind_some, e1, e2, e5, e6, pair_bool]
  refine neg (by simp) (pos hy.1 (pos hy.2 (neg a (pos hx.1 (pos hx.2 ?_)))))
  by_cases d : c = bt t x
  ·rw [if_pos d]
   refine pos d (succ ?_)
   simp only [spec_owStep.j1, spec_in, Option.bind_some, e3, e4, e5, e6, pair_bool]
   by_cases b : c = 110
   ·rw [if_pos b]
    exact pos (by simpa using b) (now _)
   ·rw [if_neg b]
    exact neg (by simpa using b) (pos hx.1 (pos hx.2 (pos d (now _))))
  ·rw [if_neg d]
   refine neg d (succ ?_)
   simp only [spec_owStep.j1]
   exact neg (by simp) (pos hx.1 (pos hx.2 (neg d (now _))))
theorem can_step (s t : ByteArray) (hg : Good s t) (x y : Int) (n : Nat) (hn : n ≤ 3) (hx : 0 ≤ x ∧ x < t.size) (hy : 0 ≤ y ∧ y < s.size) : impl_driveIn.can s t x y n = (Stp s t x y (impl_driveIn.sg n)).2.2 := by
 have hS : bt s y = 101 ∨ bt s y = 119 := by
  obtain ⟨m, rfl⟩ := Int.eq_ofNat_of_zero_le hy.1
  exact hg.1.2 m (Nat.zero_le _) (by omega)
 have hT : bt t x = 110 ∨ bt t x = 115 := by
  obtain ⟨m, rfl⟩ := Int.eq_ofNat_of_zero_le hx.1
  exact hg.2.2 m (Nat.zero_le _) (by omega)
 have c : n = 0 ∨ n = 1 ∨ n = 2 ∨ n = 3 := by omega
 unfold impl_driveIn.can Stp impl_driveIn.sg impl_driveIn.dx impl_driveIn.dy
 rw [Bool.eq_iff_iff]
 rcases c with rfl | rfl | rfl | rfl <;> rcases hS with a | a <;> rcases hT with b | b <;> rw [a, b] <;> simp <;> omega
def idx (b : Int) : Int := if b = 101 then 0 else if b = 110 then 1 else if b = 115 then 2 else if b = 119 then 3 else -1
theorem index_sign (b : UInt8) : Go.Lib.indexByte [101, 110, 115, 119] b = idx (b.toNat : Int) := by
 have key : ∀ n : Fin 256, Go.Lib.indexByte [101, 110, 115, 119] (UInt8.ofNat n.val) = idx (n.val : Int) := by decide +kernel
 have h := key ⟨b.toNat, UInt8.toNat_lt b⟩
 simpa using h
theorem one_byte {s : ByteArray} (h : s.size = 1) : ∃ b : UInt8, s = ⟨#[b]⟩ ∧ bt s 0 = (b.toNat : Int) := by
 obtain ⟨⟨l⟩⟩ := s
 match l, h with
 | [b], _ => exact ⟨b, rfl, rfl⟩
theorem can_move (s t : ByteArray) (hg : Good s t) (x y : Int) (n : Nat) (hn : n ≤ 3) (hx : 0 ≤ x ∧ x < t.size) (hy : 0 ≤ y ∧ y < s.size) (h : impl_driveIn.can s t x y n = true) : Stp s t x y (impl_driveIn.sg n) = (x + impl_driveIn.dx n, y + impl_driveIn.dy n, true) := by
 have hS : bt s y = 101 ∨ bt s y = 119 := by
  obtain ⟨m, rfl⟩ := Int.eq_ofNat_of_zero_le hy.1
  exact hg.1.2 m (Nat.zero_le _) (by omega)
 have hT : bt t x = 110 ∨ bt t x = 115 := by
  obtain ⟨m, rfl⟩ := Int.eq_ofNat_of_zero_le hx.1
  exact hg.2.2 m (Nat.zero_le _) (by omega)
 have c2 := can_step s t hg x y n hn hx hy
 rw [h] at c2
 have key : (Stp s t x y (impl_driveIn.sg n)).1 = x + impl_driveIn.dx n ∧ (Stp s t x y (impl_driveIn.sg n)).2.1 = y + impl_driveIn.dy n := by
  have c : n = 0 ∨ n = 1 ∨ n = 2 ∨ n = 3 := by omega
  revert c2
  unfold Stp impl_driveIn.sg impl_driveIn.dx impl_driveIn.dy
  rcases c with rfl | rfl | rfl | rfl <;> rcases hS with a | a <;> rcases hT with b | b <;> rw [a, b] <;> simp <;> omega
 refine Prod.ext key.1 (Prod.ext key.2 c2.symm)
theorem no_sign (s t : ByteArray) (hg : Good s t) (x y c : Int) (hx : 0 ≤ x ∧ x < t.size) (hy : 0 ≤ y ∧ y < s.size) (h : ¬ 0 ≤ impl_DriveWord.idx c) : Stp s t x y c = (0, 0, false) := by
 have hS : bt s y = 101 ∨ bt s y = 119 := by
  obtain ⟨m, rfl⟩ := Int.eq_ofNat_of_zero_le hy.1
  exact hg.1.2 m (Nat.zero_le _) (by omega)
 have hT : bt t x = 110 ∨ bt t x = 115 := by
  obtain ⟨m, rfl⟩ := Int.eq_ofNat_of_zero_le hx.1
  exact hg.2.2 m (Nat.zero_le _) (by omega)
 have q : ¬ c = 101 ∧ ¬ c = 110 ∧ ¬ c = 115 ∧ ¬ c = 119 := by
  unfold impl_DriveWord.idx at h
  refine ⟨?_, ?_, ?_, ?_⟩ <;> intro e <;> rw [e] at h <;> exact h (by decide)
 unfold Stp
 rw [if_neg (by omega), if_neg (by omega)]
theorem idx_sg (c : Int) (h : 0 ≤ impl_DriveWord.idx c) : ∃ n : Nat, n ≤ 3 ∧ impl_DriveWord.idx c = n ∧ impl_driveIn.sg n = c := by
 unfold impl_DriveWord.idx at h ⊢
 split
 ·rename_i e; exact ⟨0, by omega, rfl, e.symm⟩
 split
 ·rename_i e; exact ⟨1, by omega, rfl, e.symm⟩
 split
 ·rename_i e; exact ⟨2, by omega, rfl, e.symm⟩
 split
 ·rename_i e; exact ⟨3, by omega, rfl, e.symm⟩
 ·rename_i e1 e2 e3 e4; rw [if_neg e1, if_neg e2, if_neg e3, if_neg e4] at h; omega
theorem word_l0 (s t word : ByteArray) (hg : Good s t) (hw : word.size ≤ 100) : ∀ i : Nat, i ≤ word.size → ∀ x y : Int, 0 ≤ x ∧ x < t.size → 0 ≤ y ∧ y < s.size → Ev (fun k => spec_DriveWord.l0 k word x y i s t) (impl_DriveWord.tell (impl_DriveWord.path s t word (word.size - i) i x y)) := by
 have z1 := hg.1.1
 have z2 := hg.2.1
 refine down word.size ?_ ?_
 ·intro x y hx hy
  refine succ ?_
  simp only [spec_DriveWord.l0]
  rw [Nat.sub_self]
  exact neg (by omega) (now _)
 ·intro i hi ih x y hx hy
  refine succ ?_
  simp only [spec_DriveWord.l0]
  rw [wnat (by omega), show word.size - i = (word.size - (i + 1)) + 1 by omega]
  simp only [impl_DriveWord.path]
  refine pos (by omega) (pos (by omega) (bind (step_f s t x y _ hx hy (by omega) (by omega)) ?_))
  by_cases q : 0 ≤ impl_DriveWord.idx (bt word i)
  ·obtain ⟨n, n3, hn, hsg⟩ := idx_sg _ q
   rw [if_pos q, hn, Int.toNat_natCast, ← hsg]
   by_cases c : impl_driveIn.can s t x y n = true
   ·rw [if_pos c, can_move s t hg x y n n3 hx hy c]
    have a := impl_DriveWord.can_at c
    exact pos rfl (ih _ _ ⟨a.1.1, a.1.2⟩ ⟨a.2.1, a.2.2⟩)
   ·rw [if_neg c]
    have cs := can_step s t hg x y n n3 hx hy
    exact neg (by rw [← cs]; exact c) (now _)
  ·rw [if_neg q, no_sign s t hg x y _ hx hy q]
   exact neg (by simp) (now _)
theorem dw_no (s t : ByteArray) (xs : List Int) (w : ByteArray) (hs : s.size ≤ 1048576) (ht : t.size ≤ 1048576) (h : ¬ (good s t = true ∧ spec_owCorner.corner t.size s.size xs = true ∧ w.size ≤ 100)) (hw : w.size ≤ 1048576) : Ev (fun k => spec_DriveWord.f k s t xs w) ([], false) ∧ Ev (fun k => impl_DriveWord.f k s t xs w) ([], false) := by
 unfold spec_DriveWord.f impl_DriveWord.f spec_owCorner.f
 have stop : Ev (fun k => spec_DriveWord.j0 k xs w true s t) ([], false) := by
  refine succ ?_
  simp only [spec_DriveWord.j0]
  exact pos (by simp) (now _)
 by_cases g : good s t = true
 case neg =>
  exact ⟨bind (spec_owGood_f s t (by omega) (by omega)) (neg g stop), bind (areDriven_f s t [xs] hs ht) (neg (by simp [g]) (now _))⟩
 by_cases c : spec_owCorner.corner t.size s.size xs = true
 case neg =>
  exact ⟨bind (spec_owGood_f s t (by omega) (by omega)) (pos g (bind (pos ⟨hs, ht⟩ (now _)) (neg c stop))), bind (areDriven_f s t [xs] hs ht) (neg (by simp [g, c]) (now _))⟩
 have one : ¬ w.size ≤ 100 := fun z => h ⟨g, c, z⟩
 refine ⟨bind (spec_owGood_f s t (by omega) (by omega)) (pos g (bind (pos ⟨hs, ht⟩ (now _)) (pos c (succ ?_)))), bind (areDriven_f s t [xs] hs ht) (pos (by simp [g, c]) (neg one (now _)))⟩
 simp only [spec_DriveWord.j0]
 exact pos (by rw [decide_eq_true_eq]; omega) (now _)
theorem dw_yes (s t : ByteArray) (xs : List Int) (w : ByteArray) (hs : s.size ≤ 1048576) (ht : t.size ≤ 1048576) (g : good s t = true) (c : spec_owCorner.corner t.size s.size xs = true) (one : w.size ≤ 100) : Ev (fun k => spec_DriveWord.f k s t xs w) (impl_DriveWord.tell (impl_DriveWord.path s t w w.size 0 (rd xs 0) (rd xs 1))) ∧ Ev (fun k => impl_DriveWord.f k s t xs w) (impl_DriveWord.tell (impl_DriveWord.path s t w w.size 0 (rd xs 0) (rd xs 1))) := by
 unfold spec_DriveWord.f impl_DriveWord.f spec_owCorner.f
 have G := (good_iff s t).1 g
 have z1 := G.1.1
 have z2 := G.2.1
 have hx := (corner_iff s t xs).1 c
 obtain ⟨hl, ⟨x0, x1⟩, y0, y1⟩ := hx
 refine ⟨bind (spec_owGood_f s t (by omega) (by omega)) (pos g (bind (pos ⟨hs, ht⟩ (now _)) (pos c (succ ?_)))), bind (areDriven_f s t [xs] hs ht) (pos (by simp [g, c]) (pos one (pos ⟨hl, (signs_of G).1, ⟨x0, x1⟩, y0, y1⟩ (now _))))⟩
 simp only [spec_DriveWord.j0]
 exact neg (by rw [decide_eq_true_eq]; omega) (pos (by omega) (pos (by omega) (word_l0 s t w G one 0 (by omega) _ _ ⟨by omega, by omega⟩ ⟨by omega, by omega⟩)))
theorem cn_same (s t : ByteArray) (xs : List Int) (sg : ByteArray) (hs : s.size ≤ 1048576) (ht : t.size ≤ 1048576) (hx : xs.length ≤ 1048576) : ∃ v, Ev (fun k => spec_CanDrive.f k s t xs sg) v ∧ Ev (fun k => impl_CanDrive.f k s t xs sg) v := by
 unfold spec_CanDrive.f impl_CanDrive.f impl_areDriven.f spec_owCorner.f
 by_cases g : good s t = true
 case neg =>
  exact ⟨(false, false), bind (spec_owGood_f s t (by omega) (by omega)) (neg g (now _)), bind (bind (impl_AreWays_f s t (by omega) (by omega)) (neg g (now _))) (neg (by simp) (now _))⟩
 have G := (good_iff s t).1 g
 have z1 := G.1.1
 have z2 := G.2.1
 have hz : impl_areDriven.sizes s t := ⟨by omega, by omega⟩
 by_cases c : spec_owCorner.corner t.size s.size xs = true
 case neg =>
  refine ⟨(false, false), bind (spec_owGood_f s t (by omega) (by omega)) (pos g (bind (pos ⟨hs, ht⟩ (now _)) (neg c (now _)))), bind (bind (impl_AreWays_f s t (by omega) (by omega)) (pos g (pos hz (now _)))) (neg ?_ (now _))⟩
  simpa [impl_areDriven.corner, spec_owCorner.corner] using c
 have hc2 : ([xs].all (impl_areDriven.corner t.size s.size)) = true := by simpa [impl_areDriven.corner, spec_owCorner.corner] using c
 have c' := c
 simp only [spec_owCorner.corner, Bool.and_eq_true, decide_eq_true_eq] at c'
 obtain ⟨hl, ⟨x0, x1⟩, y0, y1⟩ := c'
 by_cases one : sg.size = 1
 case neg =>
  exact ⟨(false, false), bind (spec_owGood_f s t (by omega) (by omega)) (pos g (bind (pos ⟨hs, ht⟩ (now _)) (pos c (neg (by omega) (now _))))), bind (bind (impl_AreWays_f s t (by omega) (by omega)) (pos g (pos hz (now _)))) (pos hc2 (neg one (now _)))⟩
 obtain ⟨b, rfl, hb⟩ := one_byte one
 have hI : strings_Index.f ⟨#[101, 110, 115, 119]⟩ ⟨#[b]⟩ = some (idx (b.toNat : Int)) := by
  show some (Go.Lib.indexByte [101, 110, 115, 119] b) = _
  rw [index_sign]
 have hC : strings_Contains.f ⟨#[101, 110, 115, 119]⟩ ⟨#[b]⟩ = some (decide (idx (b.toNat : Int) ≥ 0)) := by
  unfold strings_Contains.f
  rw [hI]; rfl
 by_cases q : idx (b.toNat : Int) ≥ 0
 case neg =>
  have q' : ¬ (b.toNat : Int) = 101 ∧ ¬ (b.toNat : Int) = 110 ∧ ¬ (b.toNat : Int) = 115 ∧ ¬ (b.toNat : Int) = 119 := by
   unfold idx at q
   refine ⟨?_, ?_, ?_, ?_⟩ <;> intro e <;> rw [e] at q <;> exact q (by decide)
  have hO : spec_owSign.f (b.toNat : Int) = some false := by
   unfold spec_owSign.f
   rw [if_neg q'.1, if_neg q'.2.1, if_neg q'.2.2.2]
   simp [q'.2.2.1]
  refine ⟨(false, false), bind (spec_owGood_f s t (by omega) (by omega)) (pos g (bind (pos ⟨hs, ht⟩ (now _)) (pos c (pos (by omega) (pos (by omega) ?_))))), bind (bind (impl_AreWays_f s t (by omega) (by omega)) (pos g (pos hz (now _)))) (pos hc2 (pos one (bindSome hC (neg (by simpa using q) (now _)))))⟩
  rw [hb]
  exact bindSome hO (neg (by simp) (now _))
 have qs : ∃ n : Nat, n ≤ 3 ∧ idx (b.toNat : Int) = n ∧ impl_driveIn.sg n = (b.toNat : Int) ∧ spec_owSign.f (b.toNat : Int) = some true := by
  unfold idx at q ⊢
  unfold spec_owSign.f
  split
  ·rename_i e; exact ⟨0, by omega, rfl, e.symm, by first | rfl | (simp [e]; done)⟩
  split
  ·rename_i e; exact ⟨1, by omega, rfl, e.symm, by first | rfl | (simp [e]; done)⟩
  split
  ·rename_i e; exact ⟨2, by omega, rfl, e.symm, by first | rfl | (simp [e]; done)⟩
  split
  ·rename_i e; exact ⟨3, by omega, rfl, e.symm, by first | rfl | (simp [e]; done)⟩
  ·rename_i e1 e2 e3 e4; rw [if_neg e1, if_neg e2, if_neg e3, if_neg e4] at q; omega
 obtain ⟨n, n3, hn, hsg, hO⟩ := qs
 have cs := can_step s t G (rd xs 0) (rd xs 1) n n3 (by omega) (by omega)
 refine ⟨((Stp s t (rd xs 0) (rd xs 1) (b.toNat : Int)).2.2, true), bind (spec_owGood_f s t (by omega) (by omega)) (pos g (bind (pos ⟨hs, ht⟩ (now _)) (pos c (pos (by omega) (pos (by omega) ?_))))), bind (bind (impl_AreWays_f s t (by omega) (by omega)) (pos g (pos hz (now _)))) (pos hc2 (pos one (bindSome hC (pos (by simpa using q) (bindSome hI ?_)))))⟩
 ·rw [hb]
  exact bindSome hO (pos rfl (pos (by omega) (pos (by omega) (bind (step_f s t _ _ _ (by omega) (by omega) (by omega) (by omega)) (now _)))))
 ·rw [hn]
  refine pos ⟨⟨⟨by omega, by omega⟩, hl⟩, ⟨by omega, by omega⟩, ⟨by omega, by omega⟩⟩ ?_
  rw [Int.toNat_natCast, cs, hsg]
  exact now _
theorem cn_yes (s t : ByteArray) (xs : List Int) (w : ByteArray) (hs : s.size ≤ 1048576) (ht : t.size ≤ 1048576) (g : good s t = true) (c : spec_owCorner.corner t.size s.size xs = true) (m : Nat) (hm : m < 4) (one : w.size = 1) (hb : bt w 0 = impl_driveIn.sg m) : Ev (fun k => impl_CanDrive.f k s t xs w) (impl_driveIn.can s t (rd xs 0) (rd xs 1) m, true) := by
 unfold impl_CanDrive.f
 have G := (good_iff s t).1 g
 have hx := (corner_iff s t xs).1 c
 obtain ⟨b, rfl, hb'⟩ := one_byte one
 have e : ((b.toNat : Nat) : Int) = impl_driveIn.sg m := by rw [← hb']; exact hb
 have q : idx (b.toNat : Int) = (m : Int) := by rw [e]; exact idx_of m hm
 have hI : strings_Index.f ⟨#[101, 110, 115, 119]⟩ ⟨#[b]⟩ = some (idx (b.toNat : Int)) := by
  show some (Go.Lib.indexByte [101, 110, 115, 119] b) = _
  rw [index_sign]
 have hC : strings_Contains.f ⟨#[101, 110, 115, 119]⟩ ⟨#[b]⟩ = some (decide (idx (b.toNat : Int) ≥ 0)) := by
  unfold strings_Contains.f
  rw [hI]; rfl
 refine bind (areDriven_f s t [xs] hs ht) (pos (by simp [g, c]) (pos one (bindSome hC (pos (by rw [q]; simp) (bindSome hI (pos ⟨⟨⟨by omega, by omega⟩, hx.1⟩, (signs_of G).1, hx.2⟩ (conv (now _) ?_))))))) 
 rw [q, Int.toNat_natCast]
def Bytes (l : List Int) : Prop := l.length ≤ 1048576 ∧ ∀ x ∈ l, 0 ≤ x ∧ x ≤ 255
theorem u64_range (x : Int) : 0 ≤ IntKind.u64.wrap x ∧ IntKind.u64.wrap x < 18446744073709551616 := by
 simp [IntKind.wrap, IntKind.bits, IntKind.signed]
 omega
theorem low_bits (y : Int) : 0 ≤ wrap64 (Go.bits .and .u64 (IntKind.u64.wrap y / 1099511627776) 255) ∧ wrap64 (Go.bits .and .u64 (IntKind.u64.wrap y / 1099511627776) 255) ≤ 255 := by
 have hs := u64_range y
 generalize IntKind.u64.wrap y = x at hs
 have h2 : 0 ≤ x / 1099511627776 ∧ x / 1099511627776 < 18446744073709551616 := by omega
 rw [u64_and _ _ h2.1 h2.2 (by omega) (by omega)]
 have h3 : ((x / 1099511627776).toNat &&& (255 : Int).toNat) ≤ 255 := Nat.and_le_right
 rw [w64 (by omega) (by omega)]
 omega
theorem next_ok {l : List Int} (h : Bytes l) {n : Int} (s : Int) (hn : 0 ≤ n ∧ n ≤ 1000000) : ∃ v s', spec_l1Cur_next.f l n s = some (v, n + 1, s') ∧ 0 ≤ v ∧ v ≤ 255 := by
 unfold spec_l1Cur_next.f
 rw [w64 (x := n + 1) (by omega) (by omega)]
 obtain ⟨m, rfl⟩ : ∃ m : Nat, n = (m : Int) := ⟨n.toNat, by omega⟩
 by_cases c : (m : Int) < (l.length : Int)
 ·have hb := h.2 _ (rd_mem l m (by omega))
  rw [if_pos c, if_pos (by omega), w64 (x := rd l m) (by omega) (by omega)]
  by_cases d : (m : Int) + 1 ≤ (l.length : Int)
  ·rw [if_pos d]
   exact ⟨_, _, rfl, hb⟩
  ·rw [if_neg d]
   exact ⟨_, _, rfl, low_bits _⟩
 ·rw [if_neg c]
  by_cases d : (m : Int) + 1 ≤ (l.length : Int)
  ·rw [if_pos d]
   exact ⟨_, _, rfl, by omega, by omega⟩
  ·rw [if_neg d]
   exact ⟨_, _, rfl, low_bits _⟩
theorem pick_ok {l : List Int} (h : Bytes l) {n : Int} (s : Int) {m : Int} (hn : 0 ≤ n ∧ n ≤ 1000000) (hm : 1 ≤ m ∧ m ≤ 200) : ∃ v n' s', spec_l1Cur_pick.f l n s m = some (v, n', s') ∧ (0 ≤ v ∧ v < m) ∧ (n ≤ n' ∧ n' ≤ n + 1) := by
 unfold spec_l1Cur_pick.f
 by_cases c : m ≤ 1
 ·exact ⟨0, n, s, by rw [if_pos c], by omega, by omega⟩
 ·obtain ⟨v, s', e, h0, h1⟩ := next_ok h s hn
  refine ⟨_, n + 1, s', by rw [if_neg c, e, Option.bind_some, if_neg (by omega), if_neg (by omega)], ?_, by omega⟩
  show 0 ≤ Int.tmod v m ∧ Int.tmod v m < m
  rw [Int.tmod_eq_emod_of_nonneg h0]
  exact ⟨Int.emod_nonneg _ (by omega), Int.emod_lt_of_pos _ (by omega)⟩
theorem one_ok {l : List Int} (h : Bytes l) {n : Int} (s : Int) {m : Int} (hn : 0 ≤ n ∧ n ≤ 1000000) (hm : 1 ≤ m ∧ m ≤ 200) : ∃ v n' s', spec_l1Cur_one.f l n s m = some (v, n', s') ∧ (n ≤ n' ∧ n' ≤ n + 1) := by
 obtain ⟨v, n', s', e, -, h2⟩ := pick_ok h s hn hm
 refine ⟨v == 0, n', s', ?_, h2⟩
 unfold spec_l1Cur_one.f
 rw [e]
 rfl
theorem str_pick {l : List Int} (h : Bytes l) {n : Int} (s : Int) (hn : 0 ≤ n ∧ n ≤ 1000000) {xs : List ByteArray} (hx : 1 ≤ xs.length ∧ xs.length ≤ 200) : ∃ v n' s', spec_l1Cur_of.f l n s xs = some (v, n', s') ∧ v ∈ xs ∧ (n ≤ n' ∧ n' ≤ n + 1) := by
 obtain ⟨v, n', s', e, h1, h2⟩ := pick_ok h s (m := (xs.length : Int)) hn (by omega)
 unfold spec_l1Cur_of.f
 rw [e]
 obtain ⟨j, rfl⟩ : ∃ j : Nat, v = (j : Int) := ⟨v.toNat, by omega⟩
 refine ⟨_, n', s', by rw [Option.bind_some, if_pos h1.1, if_pos h1.2], ?_, h2⟩
 have hj : j < xs.length := by omega
 show rdOf ByteArray.empty xs (j : Int) ∈ xs
 unfold rdOf
 rw [Int.toNat_natCast, List.getD_eq_getElem?_getD, List.getElem?_eq_getElem hj]
 exact List.getElem_mem hj
theorem ex_size (x : ByteArray) (a b : Nat) (h : b ≤ x.size) : (x.extract a b).size = b - a := by
 rw [ByteArray.size_extract]; omega
theorem sure_l1 {l : List Int} (h : Bytes l) : ∀ (d : Nat) (n s : Int) (x y : ByteArray), d ≤ 8 → 0 ≤ n ∧ n + d ≤ 2000 → 2 ≤ x.size ∧ x.size ≤ 5 → 2 ≤ y.size + d ∧ y.size + d ≤ 5 → ∃ x' y' n' s', Ev (fun k => spec_l1Cur_sureWays.l1 k (d : Int) l n s x y) (x', y', n', s') ∧ (x'.size ≤ 5 ∧ y'.size ≤ 5) ∧ (n ≤ n' ∧ n' ≤ n + d + 1) := by
 intro d
 induction d with
 | zero =>
  intro n s x y _ hn hx hy
  obtain ⟨v, n1, s1, e, hn1⟩ := one_ok h s (n := n) (m := 3) (by omega) (by omega)
  cases v with
  | false =>
   refine ⟨x, y, n1, s1, succ ?_, by omega, by omega⟩
   simp only [spec_l1Cur_sureWays.l1]
   exact neg (by omega) (bindSome e (neg (by simp) (now _)))
  | true =>
   have ex : wrap64 ((x.size : Int) - 1) = ((x.size - 1 : Nat) : Int) := by unfold wrap64; omega
   have ey : wrap64 ((y.size : Int) - 1) = ((y.size - 1 : Nat) : Int) := by unfold wrap64; omega
   have zx := ex_size x 1 (x.size - 1) (by omega)
   have zy := ex_size y 1 (y.size - 1) (by omega)
   have c1 : ∀ u : UInt8, (⟨#[u]⟩ : ByteArray).size = 1 := fun u => rfl
   refine ⟨((⟨#[101]⟩ : ByteArray) ++ x.extract 1 (x.size - 1)) ++ (⟨#[119]⟩ : ByteArray), ((⟨#[115]⟩ : ByteArray) ++ y.extract 1 (y.size - 1)) ++ (⟨#[110]⟩ : ByteArray), n1, s1, succ ?_, ?_, by omega⟩
   ·simp only [spec_l1Cur_sureWays.l1]
    refine neg (by omega) (bindSome e (pos rfl ?_))
    rw [ex, ey]
    simp only [Int.toNat_natCast]
    refine pos (by omega) (pos (by omega) (pos ?_ (pos ?_ (pos (by omega) (pos (by omega) (pos ?_ (pos ?_ (now _))))))))
    ·rw [zx]; omega
    ·rw [ByteArray.size_append, zx, c1]; omega
    ·rw [zy]; omega
    ·rw [ByteArray.size_append, zy, c1]; omega
   ·simp only [ByteArray.size_append, zx, zy, c1]; omega
 | succ d ih =>
  intro n s x y hd hn hx hy
  obtain ⟨v, n1, s1, e, hv, hn1⟩ := str_pick h s (n := n) (by omega) (xs := [(⟨#[110]⟩ : ByteArray), (⟨#[115]⟩ : ByteArray)]) (by simp)
  have hv1 : v.size = 1 := by
   simp at hv
   rcases hv with rfl | rfl <;> rfl
  obtain ⟨x', y', n', s', e', h2, h3⟩ := ih n1 s1 x (y ++ v) (by omega) (by omega) hx (by rw [ByteArray.size_append]; omega)
  refine ⟨x', y', n', s', succ ?_, h2, by omega⟩
  simp only [spec_l1Cur_sureWays.l1]
  refine pos (by omega) (bindSome e (pos (by show ByteArray.size _ + v.size ≤ _; omega) ?_))
  rw [show wrap64 (((d + 1 : Nat) : Int) - 1) = (d : Int) by unfold wrap64; omega]
  exact e'
theorem sure_l0 {l : List Int} (h : Bytes l) : ∀ (d : Nat) (n s : Int) (x : ByteArray), d ≤ 8 → 0 ≤ n ∧ n + d ≤ 1500 → 2 ≤ x.size + d ∧ x.size + d ≤ 5 → ∃ x' y' n' s', Ev (fun k => spec_l1Cur_sureWays.l0 k (d : Int) l n s x ⟨#[]⟩) (x', y', n', s') ∧ (x'.size ≤ 5 ∧ y'.size ≤ 5) ∧ (n ≤ n' ∧ n' ≤ n + d + 10) := by
 intro d
 induction d with
 | zero =>
  intro n s x _ hn hx
  obtain ⟨v, n1, s1, e, hv, hn1⟩ := pick_ok h s (n := n) (m := 4) (by omega) (by omega)
  obtain ⟨u, rfl⟩ : ∃ u : Nat, v = (u : Int) := ⟨v.toNat, by omega⟩
  obtain ⟨x', y', n', s', e', h2, h3⟩ := sure_l1 h (2 + u) n1 s1 x ⟨#[]⟩ (by omega) (by omega) (by omega) (by
   have : (⟨#[]⟩ : ByteArray).size = 0 := rfl
   omega)
  refine ⟨x', y', n', s', succ ?_, h2, by omega⟩
  simp only [spec_l1Cur_sureWays.l0]
  refine neg (by omega) (bindSome e ?_)
  rw [show wrap64 (2 + (u : Int)) = ((2 + u : Nat) : Int) by unfold wrap64; omega]
  exact e'
 | succ d ih =>
  intro n s x hd hn hx
  obtain ⟨v, n1, s1, e, hv, hn1⟩ := str_pick h s (n := n) (by omega) (xs := [(⟨#[101]⟩ : ByteArray), (⟨#[119]⟩ : ByteArray)]) (by simp)
  have hv1 : v.size = 1 := by
   simp at hv
   rcases hv with rfl | rfl <;> rfl
  obtain ⟨x', y', n', s', e', h2, h3⟩ := ih n1 s1 (x ++ v) (by omega) (by omega) (by rw [ByteArray.size_append]; omega)
  refine ⟨x', y', n', s', succ ?_, h2, by omega⟩
  simp only [spec_l1Cur_sureWays.l0]
  refine pos (by omega) (bindSome e (pos (by show ByteArray.size _ + v.size ≤ _; omega) ?_))
  rw [show wrap64 (((d + 1 : Nat) : Int) - 1) = (d : Int) by unfold wrap64; omega]
  exact e'
theorem sureWays_ok {l : List Int} (h : Bytes l) {n : Int} (s : Int) (hn : 0 ≤ n ∧ n ≤ 1000) : ∃ x y n' s', Ev (fun k => spec_l1Cur_sureWays.f k l n s) (x, y, n', s') ∧ (x.size ≤ 5 ∧ y.size ≤ 5) ∧ (n ≤ n' ∧ n' ≤ n + 20) := by
 obtain ⟨v, n1, s1, e, hv, hn1⟩ := pick_ok h s (n := n) (m := 4) (by omega) (by omega)
 obtain ⟨u, rfl⟩ : ∃ u : Nat, v = (u : Int) := ⟨v.toNat, by omega⟩
 obtain ⟨x', y', n', s', e', h2, h3⟩ := sure_l0 h (2 + u) n1 s1 ⟨#[]⟩ (by omega) (by omega) (by
  have : (⟨#[]⟩ : ByteArray).size = 0 := rfl
  omega)
 refine ⟨x', y', n', s', ?_, h2, by omega⟩
 unfold spec_l1Cur_sureWays.f
 refine bindSome e ?_
 rw [show wrap64 (2 + (u : Int)) = ((2 + u : Nat) : Int) by unfold wrap64; omega]
 exact e'
theorem ways_ok {l : List Int} (h : Bytes l) {n : Int} (s : Int) (hn : 0 ≤ n ∧ n ≤ 1000) : ∃ x y n' s', Ev (fun k => spec_l1Cur_ways.f k l n s) (x, y, n', s') ∧ (x.size ≤ 9 ∧ y.size ≤ 9) ∧ (n ≤ n' ∧ n' ≤ n + 22) := by
 obtain ⟨x, y, n1, s1, e1, hz, hn1⟩ := sureWays_ok h s hn
 obtain ⟨v, n2, s2, e2, hv, hn2⟩ := pick_ok h s1 (n := n1) (m := 18) (by omega) (by omega)
 by_cases c0 : v = 0
 ·obtain ⟨u, n3, s3, e3, hu, hn3⟩ := str_pick h s2 (n := n2) (by omega) (xs := [(⟨#[]⟩ : ByteArray), (⟨#[101]⟩ : ByteArray), (⟨#[101, 110]⟩ : ByteArray), (⟨#[101, 101, 101, 101, 101, 101, 101, 101, 101]⟩ : ByteArray), (⟨#[119, 119, 119, 119, 119, 119, 119, 119]⟩ : ByteArray)]) (by simp)
  have hu9 : u.size ≤ 9 := by
   simp at hu
   rcases hu with rfl | rfl | rfl | rfl | rfl <;> decide
  refine ⟨u, y, n3, s3, ?_, by omega, by omega⟩
  unfold spec_l1Cur_ways.f
  exact bind e1 (bindSome e2 (pos c0 (bindSome e3 (now _))))
 ·by_cases c1 : v = 1
  ·obtain ⟨u, n3, s3, e3, hu, hn3⟩ := str_pick h s2 (n := n2) (by omega) (xs := [(⟨#[]⟩ : ByteArray), (⟨#[110]⟩ : ByteArray), (⟨#[110, 101]⟩ : ByteArray), (⟨#[110, 110, 110, 110, 110, 110, 110, 110, 110]⟩ : ByteArray), (⟨#[115, 115, 115, 115, 115, 115, 115, 115]⟩ : ByteArray)]) (by simp)
   have hu9 : u.size ≤ 9 := by
    simp at hu
    rcases hu with rfl | rfl | rfl | rfl | rfl <;> decide
   refine ⟨x, u, n3, s3, ?_, by omega, by omega⟩
   unfold spec_l1Cur_ways.f
   exact bind e1 (bindSome e2 (neg c0 (pos c1 (bindSome e3 (now _)))))
  ·refine ⟨x, y, n2, s2, ?_, by omega, by omega⟩
   unfold spec_l1Cur_ways.f
   exact bind e1 (bindSome e2 (neg c0 (neg c1 (now _))))
theorem most_one (x : Int) (h : 0 ≤ x ∧ x ≤ 100) : ∃ m, spec_l1Most.f 1 x = some m ∧ 1 ≤ m ∧ m ≤ 200 := by
 unfold spec_l1Most.f
 by_cases c : (1 : Int) > x
 ·exact ⟨1, by rw [if_pos c], by omega, by omega⟩
 ·exact ⟨x, by rw [if_neg c], by omega, by omega⟩
theorem crossing_ok {l : List Int} (h : Bytes l) {n : Int} (s : Int) (hn : 0 ≤ n ∧ n ≤ 100000) (x y : ByteArray) (hz : x.size ≤ 9 ∧ y.size ≤ 9) : ∃ a n' s', spec_l1Cur_crossing.f l n s x y = some (a, n', s') ∧ a.length ≤ 3 ∧ (n ≤ n' ∧ n' ≤ n + 3) := by
 obtain ⟨v, n1, s1, e1, hn1⟩ := one_ok h s (n := n) (m := 14) (by omega) (by omega)
 cases v with
 | true =>
  obtain ⟨u, n2, s2, e2, hu, hn2⟩ := pick_ok h s1 (n := n1) (m := 6) (by omega) (by omega)
  obtain ⟨j, rfl⟩ : ∃ j : Nat, u = (j : Int) := ⟨u.toNat, by omega⟩
  have key : ∃ a, spec_l1Cur_crossing.f l n s x y = some (a, n2, s2) ∧ a.length ≤ 3 := by
   unfold spec_l1Cur_crossing.f
   rw [e1, Option.bind_some, if_pos rfl, Option.bind_some, e2, Option.bind_some, if_pos hu.1, if_pos (by simpa using hu.2)]
   refine ⟨_, rfl, ?_⟩
   rcases (show j = 0 ∨ j = 1 ∨ j = 2 ∨ j = 3 ∨ j = 4 ∨ j = 5 by omega) with rfl | rfl | rfl | rfl | rfl | rfl <;> (dsimp only; decide)
  obtain ⟨a, ea, la⟩ := key
  exact ⟨a, n2, s2, ea, la, by omega⟩
 | false =>
  obtain ⟨m1, f1, g1⟩ := most_one (y.size : Int) (by omega)
  obtain ⟨m2, f2, g2⟩ := most_one (x.size : Int) (by omega)
  obtain ⟨u, n2, s2, e2, hu, hn2⟩ := pick_ok h s1 (n := n1) (m := m1) (by omega) g1
  obtain ⟨v, n3, s3, e3, hv, hn3⟩ := pick_ok h s2 (n := n2) (m := m2) (by omega) g2
  refine ⟨[u, v], n3, s3, ?_, by simp, by omega⟩
  unfold spec_l1Cur_crossing.f
  rw [e1, Option.bind_some, if_neg (by simp), f1, Option.bind_some, e2, Option.bind_some, f2, Option.bind_some, e3, Option.bind_some]
theorem driven_ok {l : List Int} (h : Bytes l) {n : Int} (s : Int) (hn : 0 ≤ n ∧ n ≤ 1000) : ∃ x y a b n' s', Ev (fun k => spec_l1Cur_driven.f k l n s) (x, y, a, b, n', s') ∧ ((x.size ≤ 9 ∧ y.size ≤ 9) ∧ a.length ≤ 3 ∧ b.length ≤ 3) ∧ (n ≤ n' ∧ n' ≤ n + 28) := by
 obtain ⟨x, y, n1, s1, e1, hz, hn1⟩ := ways_ok h s hn
 obtain ⟨a, n2, s2, e2, ha, hn2⟩ := crossing_ok h s1 (n := n1) (by omega) x y hz
 obtain ⟨b, n3, s3, e3, hb, hn3⟩ := crossing_ok h s2 (n := n2) (by omega) x y hz
 refine ⟨x, y, a, b, n3, s3, ?_, ⟨hz, ha, hb⟩, by omega⟩
 unfold spec_l1Cur_driven.f
 exact bind e1 (bindSome e2 (bindSome e3 (now _)))
theorem str_one (v : Int) : (strOfNums [v]).size = 1 := by simp [strOfNums, ByteArray.size]
theorem spoilt_l0 {l : List Int} (h : Bytes l) (x2 : ByteArray) (h2 : 1 ≤ x2.size ∧ x2.size ≤ 10) : ∀ (d : Nat) (n s : Int) (x : ByteArray), d ≤ 2 → 0 ≤ n ∧ n + 3 * d ≤ 5000 → x.size + d ≤ 30 → ∃ y n' s', Ev (fun k => spec_l1Cur_spoilt.l0 k x x2 (d : Int) l n s) (y, n', s') ∧ y.size ≤ x.size + d ∧ (n ≤ n' ∧ n' ≤ n + 3 * d) := by
 intro d
 induction d with
 | zero =>
  intro n s x _ hn hx
  refine ⟨x, n, s, succ ?_, by omega, by omega⟩
  simp only [spec_l1Cur_spoilt.l0]
  refine neg (by omega) (succ ?_)
  simp only [spec_l1Cur_spoilt.j1]
  exact neg (by simp) (now _)
 | succ d ih =>
  intro n s x hd hn hx
  by_cases c : x.size = 0
  ·refine ⟨x, n, s, succ ?_, by omega, by omega⟩
   simp only [spec_l1Cur_spoilt.l0]
   refine pos (by omega) (succ ?_)
   simp only [spec_l1Cur_spoilt.j1]
   exact neg (by rw [decide_eq_true_eq]; omega) (now _)
  obtain ⟨i, n1, s1, e1, hi, hn1⟩ := pick_ok h s (n := n) (m := (x.size : Int)) (by omega) (by omega)
  obtain ⟨j, n2, s2, e2, hj, hn2⟩ := pick_ok h s1 (n := n1) (m := (x2.size : Int)) (by omega) (by omega)
  obtain ⟨q, n3, s3, e3, hq, hn3⟩ := pick_ok h s2 (n := n2) (m := 3) (by omega) (by omega)
  obtain ⟨i, rfl⟩ : ∃ u : Nat, i = (u : Int) := ⟨i.toNat, by omega⟩
  have wi : Aside0 (wrap64 ((i : Int) + 1) = ((i + 1 : Nat) : Int)) := ⟨by unfold wrap64; omega⟩
  have wd : Aside0 (wrap64 (((d + 1 : Nat) : Int) - 1) = (d : Int)) := ⟨by unfold wrap64; omega⟩
  have z0 := ex_size x 0 i (by omega)
  have z1 := ex_size x i x.size (Nat.le_refl _)
  have z2 := ex_size x (i + 1) x.size (Nat.le_refl _)
  have zs := str_one (bt x2 j)
  have go : ∀ z : ByteArray, z.size ≤ x.size + 1 → (∀ v, Ev (fun k => spec_l1Cur_spoilt.l0 k z x2 (d : Int) l n3 s3) v → Ev (fun k => spec_l1Cur_spoilt.l0 k x x2 ((d + 1 : Nat) : Int) l n s) v) → ∃ y n' s', Ev (fun k => spec_l1Cur_spoilt.l0 k x x2 ((d + 1 : Nat) : Int) l n s) (y, n', s') ∧ y.size ≤ x.size + (d + 1) ∧ (n ≤ n' ∧ n' ≤ n + 3 * (d + 1 : Nat)) := by
   intro z hz f
   obtain ⟨y, n', s', e', g1, g2⟩ := ih n3 s3 z (by omega) (by omega) (by omega)
   exact ⟨y, n', s', f _ e', by omega, by omega⟩
  by_cases q0 : q = 0
  ·refine go ((x.extract 0 i ++ strOfNums [bt x2 j]) ++ x.extract i x.size) (by simp only [ByteArray.size_append]; omega) (fun v hv => succ ?_)
   simp only [spec_l1Cur_spoilt.l0]
   refine pos (by omega) (succ ?_)
   simp only [spec_l1Cur_spoilt.j1]
   refine pos (by rw [decide_eq_true_eq]; omega) (bindSome e1 (bindSome e2 (pos hj.1 (pos hj.2 (bindSome rfl (bindSome e3 (pos q0 (pos (by omega) (pos (by omega) ?_)))))))))
   simp only [Int.toNat_natCast]
   refine pos (by omega) (pos (by simp only [ByteArray.size_append]; omega) ?_)
   rw [wd.out]
   exact hv
  ·by_cases q1 : q = 1
   ·refine go ((x.extract 0 i ++ strOfNums [bt x2 j]) ++ x.extract (i + 1) x.size) (by simp only [ByteArray.size_append]; omega) (fun v hv => succ ?_)
    simp only [spec_l1Cur_spoilt.l0]
    refine pos (by omega) (succ ?_)
    simp only [spec_l1Cur_spoilt.j1]
    refine pos (by rw [decide_eq_true_eq]; omega) (bindSome e1 (bindSome e2 (pos hj.1 (pos hj.2 (bindSome rfl (bindSome e3 (neg q0 (pos q1 (pos (by omega) (pos (by omega) ?_))))))))))
    simp only [Int.toNat_natCast, wi.out]
    refine pos (by omega) (pos (by omega) (pos (by omega) (pos (by simp only [ByteArray.size_append]; omega) ?_)))
    rw [wd.out]
    exact hv
   ·refine go (x.extract 0 i ++ x.extract (i + 1) x.size) (by simp only [ByteArray.size_append]; omega) (fun v hv => succ ?_)
    simp only [spec_l1Cur_spoilt.l0]
    refine pos (by omega) (succ ?_)
    simp only [spec_l1Cur_spoilt.j1]
    refine pos (by rw [decide_eq_true_eq]; omega) (bindSome e1 (bindSome e2 (pos hj.1 (pos hj.2 (bindSome rfl (bindSome e3 (neg q0 (neg q1 (pos (by omega) (pos (by omega) ?_))))))))))
    simp only [Int.toNat_natCast, wi.out]
    refine pos (by omega) (pos (by omega) (pos (by omega) ?_))
    rw [wd.out]
    exact hv
theorem spoilt_ok {l : List Int} (h : Bytes l) {n : Int} (s : Int) (hn : 0 ≤ n ∧ n ≤ 2000) (x x2 : ByteArray) (hx : x.size ≤ 20) (h2 : 1 ≤ x2.size ∧ x2.size ≤ 10) : ∃ y n' s', Ev (fun k => spec_l1Cur_spoilt.f k l n s x x2) (y, n', s') ∧ y.size ≤ x.size + 2 ∧ (n ≤ n' ∧ n' ≤ n + 7) := by
 obtain ⟨v, n1, s1, e1, hv, hn1⟩ := pick_ok h s (n := n) (m := 2) (by omega) (by omega)
 obtain ⟨u, rfl⟩ : ∃ u : Nat, v = (u : Int) := ⟨v.toNat, by omega⟩
 obtain ⟨y, n', s', e', g1, g2⟩ := spoilt_l0 h x2 h2 (1 + u) n1 s1 x (by omega) (by omega) (by omega)
 refine ⟨y, n', s', ?_, by omega, by omega⟩
 unfold spec_l1Cur_spoilt.f
 refine bindSome e1 ?_
 rw [show wrap64 (1 + (u : Int)) = ((1 + u : Nat) : Int) by unfold wrap64; omega]
 exact e'
theorem way_l0 {l : List Int} (h : Bytes l) : ∀ (d : Nat) (n s : Int) (x : ByteArray), d ≤ 9 → 0 ≤ n ∧ n + d ≤ 1500 → x.size + d ≤ 9 → ∃ y n' s', Ev (fun k => spec_l1Cur_way.l0 k x (d : Int) l n s) (y, n', s') ∧ y.size ≤ 11 := by
 intro d
 induction d with
 | zero =>
  intro n s x _ hn hx
  obtain ⟨v, n1, s1, e, hn1⟩ := one_ok h s (n := n) (m := 10) (by omega) (by omega)
  cases v with
  | false =>
   refine ⟨x, n1, s1, succ ?_, by omega⟩
   simp only [spec_l1Cur_way.l0]
   exact neg (by omega) (bindSome e (neg (by simp) (now _)))
  | true =>
   obtain ⟨y, n2, s2, e2, hy, hn2⟩ := spoilt_ok h s1 (n := n1) (by omega) x ⟨#[101, 110, 115, 120]⟩ (by omega) (by decide)
   refine ⟨y, n2, s2, succ ?_, by omega⟩
   simp only [spec_l1Cur_way.l0]
   exact neg (by omega) (bindSome e (pos rfl (bind e2 (now _))))
 | succ d ih =>
  intro n s x hd hn hx
  obtain ⟨v, n1, s1, e, hv, hn1⟩ := str_pick h s (n := n) (by omega) (xs := [(⟨#[101]⟩ : ByteArray), (⟨#[110]⟩ : ByteArray), (⟨#[115]⟩ : ByteArray), (⟨#[119]⟩ : ByteArray)]) (by simp)
  have hv1 : v.size = 1 := by
   simp at hv
   rcases hv with rfl | rfl | rfl | rfl <;> rfl
  obtain ⟨y, n', s', e', h2⟩ := ih n1 s1 (x ++ v) (by omega) (by omega) (by rw [ByteArray.size_append]; omega)
  refine ⟨y, n', s', succ ?_, h2⟩
  simp only [spec_l1Cur_way.l0]
  refine pos (by omega) (bindSome e (pos (by show ByteArray.size _ + v.size ≤ _; omega) ?_))
  rw [show wrap64 (((d + 1 : Nat) : Int) - 1) = (d : Int) by unfold wrap64; omega]
  exact e'
theorem way_ok {l : List Int} (h : Bytes l) {n : Int} (s : Int) (hn : 0 ≤ n ∧ n ≤ 1000) : ∃ y n' s', Ev (fun k => spec_l1Cur_way.f k l n s) (y, n', s') ∧ y.size ≤ 11 := by
 obtain ⟨v, n1, s1, e, hv, hn1⟩ := pick_ok h s (n := n) (m := 9) (by omega) (by omega)
 obtain ⟨u, rfl⟩ : ∃ u : Nat, v = (u : Int) := ⟨v.toNat, by omega⟩
 obtain ⟨y, n', s', e', h2⟩ := way_l0 h u n1 s1 ⟨#[]⟩ (by omega) (by omega) (by
  have : (⟨#[]⟩ : ByteArray).size = 0 := rfl
  omega)
 refine ⟨y, n', s', ?_, h2⟩
 unfold spec_l1Cur_way.f
 exact bindSome e e'
theorem sign_of (v : Nat) (h : v < 4) : rd [101, 110, 115, 119] (v : Int) = impl_driveIn.sg v := by
 have c : v = 0 ∨ v = 1 ∨ v = 2 ∨ v = 3 := by omega
 rcases c with rfl | rfl | rfl | rfl <;> rfl
theorem enc_one (v : Nat) (h : v < 4) : (Utf8.encode (wrap32 (rd [101, 110, 115, 119] (v : Int)))).size = 1 := by
 rw [sign_of v h, ← i32_w, (spec_FirstDrive.enc v).2, (spec_FirstDrive.enc v).1]
 rfl
theorem stp_grid {s t : ByteArray} (x y c : Int) (h : (Stp s t x y c).2.2 = true) : (0 ≤ (Stp s t x y c).1 ∧ (Stp s t x y c).1 < t.size) ∧ 0 ≤ (Stp s t x y c).2.1 ∧ (Stp s t x y c).2.1 < s.size := by
 unfold Stp at h ⊢
 by_cases c1 : c = bt s y
 ·rw [if_pos c1] at h ⊢
  simp only [Bool.and_eq_true, decide_eq_true_eq] at h ⊢
  omega
 ·rw [if_neg c1] at h ⊢
  by_cases c2 : c = bt t x
  ·rw [if_pos c2] at h ⊢
   simp only [Bool.and_eq_true, decide_eq_true_eq] at h ⊢
   omega
  ·rw [if_neg c2] at h
   simp at h
theorem drawn_l0 {l : List Int} (h : Bytes l) (s t : ByteArray) (xs : List Int) (hs : s.size ≤ 8) (ht : t.size ≤ 8) : ∀ (d : Nat) (n q x y : Int) (w : ByteArray), d ≤ 12 → 0 ≤ n ∧ n + d ≤ 5000 → w.size + d ≤ 12 → (0 ≤ x ∧ x < t.size) → (0 ≤ y ∧ y < s.size) → ∃ w' n' q', Ev (fun k => spec_DrawDriveWord.l0 k xs w x y (d : Int) l n q s t) (s, t, xs, w', n', q') ∧ w'.size ≤ 12 := by
 intro d
 induction d with
 | zero =>
  intro n q x y w _ hn hw hx hy
  refine ⟨w, n, q, succ ?_, by omega⟩
  simp only [spec_DrawDriveWord.l0]
  exact neg (by omega) (now _)
 | succ d ih =>
  intro n q x y w hd hn hw hx hy
  obtain ⟨v, n1, q1, e, hv, hn1⟩ := pick_ok h q (n := n) (m := 4) (by omega) (by omega)
  obtain ⟨v, rfl⟩ : ∃ u : Nat, v = (u : Int) := ⟨v.toNat, by omega⟩
  have he := enc_one v (by omega)
  have wd : Aside0 (wrap64 (((d + 1 : Nat) : Int) - 1) = (d : Int)) := ⟨by unfold wrap64; omega⟩
  have hst := step_f s t x y (rd [101, 110, 115, 119] (v : Int)) hx hy hs ht
  by_cases c : (Stp s t x y (rd [101, 110, 115, 119] (v : Int))).2.2 = true
  ·have hg := stp_grid x y _ c
   obtain ⟨w', n', q', e', h2⟩ := ih n1 q1 _ _ (w ++ Utf8.encode (wrap32 (rd [101, 110, 115, 119] (v : Int)))) (by omega) (by omega) (by rw [ByteArray.size_append]; omega) hg.1 hg.2
   refine ⟨w', n', q', succ ?_, h2⟩
   simp only [spec_DrawDriveWord.l0]
   refine pos (by omega) (bindSome rfl (bindSome e (pos hv.1 (pos (by simpa using hv.2) (bind hst (pos c (pos (by show w.size + (Utf8.encode (wrap32 (rd [101, 110, 115, 119] (v : Int)))).size ≤ _; omega) ?_)))))))
   rw [wd.out]
   exact e'
  ·obtain ⟨w', n', q', e', h2⟩ := ih n1 q1 x y w (by omega) (by omega) (by omega) hx hy
   refine ⟨w', n', q', succ ?_, h2⟩
   simp only [spec_DrawDriveWord.l0]
   refine pos (by omega) (bindSome rfl (bindSome e (pos hv.1 (pos (by simpa using hv.2) (bind hst (neg c ?_))))))
   rw [wd.out]
   exact e'
theorem fd_some (s t : ByteArray) (xs ys : List Int) (hs : s.size ≤ 1048576) (ht : t.size ≤ 1048576) : ∃ v : ByteArray × Bool, v.1.size ≤ 64 ∧ Ev (fun k => spec_FirstDrive.f k s t xs ys) v := by
 by_cases h : Asked s t xs ys
 ·obtain ⟨f1, f2⟩ := fd_yes s t xs ys hs ht h
  by_cases q : Dis s t xs ys < 0
  ·exact ⟨_, by decide, (f1 q).1⟩
  ·obtain ⟨l, ⟨-, hl⟩, e, -⟩ := f2 (by omega)
   obtain ⟨G, hx, hy⟩ := h.of
   have S := signs_of G
   obtain ⟨-, -, h64⟩ := far_ex false s t S.1.2.2 S.1.1.2 (crn xs) (crn_in hx.2).1
   have := h64 (crn ys)
   unfold Dis at hl
   refine ⟨_, ?_, e⟩
   show (spec_FirstDrive.word l).size ≤ 64
   unfold spec_FirstDrive.word
   rw [show (strOfNums (l.map impl_driveIn.sg)).size = l.length by simp [strOfNums, ByteArray.size]]
   omega
 ·exact ⟨_, by decide, (fd_no s t xs ys hs ht h).1⟩
theorem drawFirst {l : List Int} (h : Bytes l) : ∃ s t a b, Ev (fun k => spec_DrawFirstDrive.f k l) (s, t, a, b) ∧ (s.size ≤ 9 ∧ t.size ≤ 9) ∧ a.length ≤ 3 ∧ b.length ≤ 3 := by
 obtain ⟨x, y, a, b, n', s', e, hz, -⟩ := driven_ok h 0 (n := 0) (by omega)
 refine ⟨x, y, a, b, ?_, hz⟩
 unfold spec_DrawFirstDrive.f spec_DrawDriveDistance.f
 exact bind (bind e (now _)) (now _)
theorem drawCan {l : List Int} (h : Bytes l) : ∃ s t a z, Ev (fun k => spec_DrawCanDrive.f k l) (s, t, a, z) ∧ (s.size ≤ 9 ∧ t.size ≤ 9) ∧ a.length ≤ 3 := by
 obtain ⟨x, y, a, b, n', s', e, hz, hn⟩ := driven_ok h 0 (n := 0) (by omega)
 obtain ⟨v, n1, s1, e1, -, -⟩ := str_pick h s' (n := n') (by omega) (xs := [(⟨#[101]⟩ : ByteArray), (⟨#[110]⟩ : ByteArray), (⟨#[115]⟩ : ByteArray), (⟨#[119]⟩ : ByteArray), (⟨#[101]⟩ : ByteArray), (⟨#[110]⟩ : ByteArray), (⟨#[115]⟩ : ByteArray), (⟨#[119]⟩ : ByteArray), (⟨#[]⟩ : ByteArray), (⟨#[120]⟩ : ByteArray), (⟨#[101, 110]⟩ : ByteArray)]) (by simp)
 refine ⟨x, y, a, v, ?_, hz.1, hz.2.1⟩
 unfold spec_DrawCanDrive.f spec_DrawCanDrive.in_
 exact bind (bind e (bindSome e1 (now _))) (now _)
theorem turnsd_l0 {l : List Int} (h : Bytes l) : ∀ (d : Nat) (n s : Int) (x : ByteArray), d ≤ 10 → 0 ≤ n ∧ n + d ≤ 1500 → x.size + d ≤ 10 → ∃ y n' s', Ev (fun k => spec_DrawTurnsOfWord.l0 k x (d : Int) l n s) (y, n', s') ∧ y.size ≤ 10 := by
 intro d
 induction d with
 | zero =>
  intro n s x _ hn hx
  refine ⟨x, n, s, succ ?_, by omega⟩
  simp only [spec_DrawTurnsOfWord.l0]
  exact neg (by omega) (now _)
 | succ d ih =>
  intro n s x hd hn hx
  obtain ⟨v, n1, s1, e, hv, hn1⟩ := str_pick h s (n := n) (by omega) (xs := [(⟨#[101]⟩ : ByteArray), (⟨#[110]⟩ : ByteArray), (⟨#[101]⟩ : ByteArray), (⟨#[110]⟩ : ByteArray), (⟨#[115]⟩ : ByteArray), (⟨#[119]⟩ : ByteArray)]) (by simp)
  have hv1 : v.size = 1 := by
   simp at hv
   rcases hv with rfl | rfl | rfl | rfl | rfl | rfl <;> rfl
  obtain ⟨y, n', s', e', h2⟩ := ih n1 s1 (x ++ v) (by omega) (by omega) (by rw [ByteArray.size_append]; omega)
  refine ⟨y, n', s', succ ?_, h2⟩
  simp only [spec_DrawTurnsOfWord.l0]
  refine pos (by omega) (bindSome e (pos (by show ByteArray.size _ + v.size ≤ _; omega) ?_))
  rw [show wrap64 (((d + 1 : Nat) : Int) - 1) = (d : Int) by unfold wrap64; omega]
  exact e'
theorem drawTurns {l : List Int} (h : Bytes l) : ∃ z, Ev (fun k => spec_DrawTurnsOfWord.f k l) z ∧ z.size ≤ 10 := by
 obtain ⟨v, n1, s1, e, hv, hn1⟩ := pick_ok h 0 (n := 0) (m := 10) (by omega) (by omega)
 obtain ⟨u, rfl⟩ : ∃ u : Nat, v = (u : Int) := ⟨v.toNat, by omega⟩
 obtain ⟨y, n', s', e', h2⟩ := turnsd_l0 h u n1 s1 ⟨#[]⟩ (by omega) (by omega) (by
  have : (⟨#[]⟩ : ByteArray).size = 0 := rfl
  omega)
 refine ⟨y, ?_, h2⟩
 unfold spec_DrawTurnsOfWord.f spec_DrawTurnsOfWord.in_
 exact bind (bindSome e e') (now _)
theorem drawWord {l : List Int} (h : Bytes l) : ∃ s t a w, Ev (fun k => spec_DrawDriveWord.f k l) (s, t, a, w) ∧ (s.size ≤ 9 ∧ t.size ≤ 9) ∧ a.length ≤ 3 ∧ w.size ≤ 100 := by
 obtain ⟨s, t, a, b, n1, q1, e1, hz, hn1⟩ := driven_ok h 0 (n := 0) (by omega)
 obtain ⟨⟨w, ok⟩, hw, e2⟩ := fd_some s t a b (by omega) (by omega)
 have hw : w.size ≤ 64 := hw
 have stop : ∀ n q, 0 ≤ n ∧ n ≤ 500 → ∃ w' n' q', Ev (fun k => spec_DrawDriveWord.j1 k a true l n q s t) (s, t, a, w', n', q') ∧ w'.size ≤ 100 := by
  intro n q hn
  obtain ⟨y, n', q', e, hy⟩ := way_ok h q (n := n) (by omega)
  refine ⟨y, n', q', succ ?_, by omega⟩
  simp only [spec_DrawDriveWord.j1]
  exact pos (by simp) (bind e (now _))
 have rest : ∀ n q, 0 ≤ n ∧ n ≤ 400 → ∃ w' n' q', Ev (fun k => spec_DrawDriveWord.j0 k a w false l n q s t) (s, t, a, w', n', q') ∧ w'.size ≤ 100 := by
  intro n q hn
  by_cases g : good s t = true
  ·have G := (good_iff s t).1 g
   have z1 := G.1.1
   have z2 := G.2.1
   have eg : Ev (fun k => spec_owGood.f k s t) true := conv (spec_owGood_f s t (by omega) (by omega)) g
   have ec : spec_owCorner.f s t a = some (spec_owCorner.corner t.size s.size a) := by unfold spec_owCorner.f; rw [if_pos ⟨by omega, by omega⟩]
   by_cases c : spec_owCorner.corner t.size s.size a = true
   ·rw [c] at ec
    have hc := (corner_iff s t a).1 c
    obtain ⟨hl, ⟨x0, x1⟩, y0, y1⟩ := hc
    obtain ⟨v, n2, q2, e3, hn2⟩ := one_ok h q (n := n) (m := 4) (by omega) (by omega)
    cases v with
    | true =>
     obtain ⟨w', n', q', e', hw'⟩ := stop n2 q2 (by omega)
     refine ⟨w', n', q', succ ?_, hw'⟩
     simp only [spec_DrawDriveWord.j0]
     exact neg (by simp) (bind eg (pos rfl (bindSome ec (pos rfl (bindSome e3 e')))))
    | false =>
     obtain ⟨d, n3, q3, e4, hd, hn3⟩ := pick_ok h q2 (n := n2) (m := 12) (by omega) (by omega)
     obtain ⟨d, rfl⟩ : ∃ u : Nat, d = (u : Int) := ⟨d.toNat, by omega⟩
     obtain ⟨w', n', q', e', hw'⟩ := drawn_l0 h s t a (by omega) (by omega) d n3 q3 (rd a 0) (rd a 1) ⟨#[]⟩ (by omega) (by omega) (by
      have : (⟨#[]⟩ : ByteArray).size = 0 := rfl
      omega) ⟨x0, x1⟩ ⟨y0, y1⟩
     refine ⟨w', n', q', succ ?_, by omega⟩
     simp only [spec_DrawDriveWord.j0]
     refine neg (by simp) (bind eg (pos rfl (bindSome ec (pos rfl (bindSome e3 (succ ?_))))))
     simp only [spec_DrawDriveWord.j1]
     exact neg (by simp) (pos (by omega) (pos (by omega) (bindSome e4 e')))
   ·obtain ⟨w', n', q', e', hw'⟩ := stop n q (by omega)
    refine ⟨w', n', q', succ ?_, hw'⟩
    simp only [spec_DrawDriveWord.j0]
    exact neg (by simp) (bind eg (pos rfl (bindSome ec (neg c e'))))
  ·obtain ⟨w', n', q', e', hw'⟩ := stop n q (by omega)
   refine ⟨w', n', q', succ ?_, hw'⟩
   simp only [spec_DrawDriveWord.j0]
   exact neg (by simp) (bind (spec_owGood_f s t (by omega) (by omega)) (neg g e'))
 have fin : ∀ {w' n' q'}, Ev (fun k => spec_DrawDriveWord.in_ k l 0 0) (s, t, a, w', n', q') → Ev (fun k => spec_DrawDriveWord.f k l) (s, t, a, w') := fun hv => by
  unfold spec_DrawDriveWord.f
  exact bind hv (now _)
 cases ok with
 | false =>
  obtain ⟨w', n', q', e', hw'⟩ := rest n1 q1 (by omega)
  refine ⟨s, t, a, w', fin (n' := n') (q' := q') ?_, hz.1, hz.2.1, hw'⟩
  unfold spec_DrawDriveWord.in_
  exact bind e1 (bind e2 (neg (by simp) e'))
 | true =>
  obtain ⟨v, n2, q2, e3, hn2⟩ := one_ok h q1 (n := n1) (m := 2) (by omega) (by omega)
  cases v with
  | true =>
   refine ⟨s, t, a, w, fin (n' := n2) (q' := q2) ?_, hz.1, hz.2.1, by omega⟩
   unfold spec_DrawDriveWord.in_
   refine bind e1 (bind e2 (pos rfl (bindSome e3 (succ ?_))))
   simp only [spec_DrawDriveWord.j0]
   exact pos (by simp) (now _)
  | false =>
   obtain ⟨w', n', q', e', hw'⟩ := rest n2 q2 (by omega)
   refine ⟨s, t, a, w', fin (n' := n') (q' := q') ?_, hz.1, hz.2.1, hw'⟩
   unfold spec_DrawDriveWord.in_
   exact bind e1 (bind e2 (pos rfl (bindSome e3 e')))
theorem bw_f (s t : ByteArray) (hg : Good s t) : Ev (fun k => impl_BackWays.f k s t) (mapB ge s, mapB gn t, true) := by
 have z1 := hg.1.1
 have z2 := hg.2.1
 unfold impl_BackWays.f
 exact bind (impl_AreWays_f s t (by omega) (by omega)) (pos ((good_iff s t).2 hg) (bindSome (turned_e (way_bytes (a := 101) (b := 119) hg.1) (by omega)) (bindSome (turned_n (way_bytes (a := 110) (b := 115) hg.2) (by omega)) (now _))))
theorem aSame_f (a b : List Int) (ha : a.length ≤ 1000) : Ev (fun k => laws_aSame.f k a b) (decide (a = b)) := by
 unfold laws_aSame.f
 by_cases c : (a.length : Int) = (b.length : Int)
 ·refine pos c ?_
  have key : ∀ i : Nat, i ≤ a.length → Ev (fun k => laws_aSame.l0 k a b a.length i) (decide (a.drop i = b.drop i)) := by
   refine down a.length ?_ ?_
   ·refine succ ?_
    simp only [laws_aSame.l0]
    refine neg (by omega) (conv (now _) ?_)
    rw [List.drop_of_length_le (Nat.le_refl _), List.drop_of_length_le (by omega)]
    simp
   ·intro i hi ih
    refine succ ?_
    simp only [laws_aSame.l0]
    rw [wnat (by omega)]
    refine pos (by omega) (pos (by omega) (pos (by omega) (pos (by omega) ?_)))
    have hib : i < b.length := by omega
    have e := drop_iff (xs := a) (ys := b) hi hib
    by_cases q : rd a (i : Int) = rd b (i : Int)
    ·refine pos q (conv ih ?_)
     rw [rd_lt a i hi, rd_lt b i hib] at q
     rw [decide_eq_decide, e]
     exact ⟨fun h => ⟨q, h⟩, fun h => h.2⟩
    ·refine neg q (conv (now _) ?_)
     rw [rd_lt a i hi, rd_lt b i hib] at q
     exact (decide_eq_false (fun h => q (e.1 h).1)).symm
  have z := key 0 (Nat.zero_le _)
  simpa using z
 ·refine neg c (conv (now _) ?_)
  exact (decide_eq_false (fun h => c (by rw [h]))).symm
theorem aSize_f (x : Int) (h : -1000 ≤ x ∧ x ≤ 1000) : laws_aSize.f x = some (x.natAbs : Int) := by
 unfold laws_aSize.f
 by_cases c : x < 0
 ·rw [if_pos c, w64 (by omega) (by omega)]
  exact congrArg some (by omega)
 ·rw [if_neg c]
  exact congrArg some (by omega)
theorem crn_list {s t : ByteArray} {xs : List Int} (hl : xs.length = 2) (h : impl_driveIn.At s t (rd xs 0) (rd xs 1)) : [((crn xs).1 : Int), ((crn xs).2 : Int)] = xs := by
 obtain ⟨-, e0, e1⟩ := crn_in h
 rw [← e0, ← e1]
 match xs, hl with
 | [a, b], _ => rfl
theorem corner_of {s t : ByteArray} {q : Nat × Nat} (h : InC s t q) : spec_owCorner.corner t.size s.size [(q.1 : Int), (q.2 : Int)] = true := by
 have h1 := h.1
 have h2 := h.2
 refine (corner_iff s t _).2 ⟨rfl, ?_⟩
 show impl_driveIn.At s t (q.1 : Int) (q.2 : Int)
 unfold impl_driveIn.At
 omega
theorem word_size (l : List Nat) : (spec_FirstDrive.word l).size = l.length := by
 unfold spec_FirstDrive.word
 simp [strOfNums, ByteArray.size]
theorem sg_range (m : Nat) : 101 ≤ impl_driveIn.sg m ∧ impl_driveIn.sg m ≤ 119 := by
 unfold impl_driveIn.sg
 split
 ·omega
 split
 ·omega
 split <;> omega
theorem word_bt (l : List Nat) (j : Nat) (h : j < l.length) : bt (spec_FirstDrive.word l) (j : Int) = impl_driveIn.sg l[j] := by
 have hz : j < (spec_FirstDrive.word l).size := by rw [word_size]; exact h
 have hr := sg_range l[j]
 rw [bt_lt _ j hz]
 have e : (spec_FirstDrive.word l).data.toList = (l.map impl_driveIn.sg).map fun v => UInt8.ofNat v.toNat := by
  unfold spec_FirstDrive.word
  rw [strOfNums_data]
 have e2 : ((spec_FirstDrive.word l)[j]'hz) = UInt8.ofNat (impl_driveIn.sg l[j]).toNat := by
  rw [← list_get _ j hz]
  have e3 : (spec_FirstDrive.word l).data.toList[j]? = some (UInt8.ofNat (impl_driveIn.sg l[j]).toNat) := by
   rw [e]
   simp [List.getElem?_eq_getElem h]
  exact (List.getElem?_eq_some_iff.1 e3).2
 rw [e2]
 have : (UInt8.ofNat (impl_driveIn.sg l[j]).toNat).toNat = (impl_driveIn.sg l[j]).toNat := by
  rw [UInt8.toNat_ofNat']
  omega
 rw [this]
 omega
theorem word_spell {s t : ByteArray} (l : List Nat) (p r : Nat × Nat) (h : wk s t p l = some r) : Spell (spec_FirstDrive.word l) l := by
 refine ⟨word_size l, fun j hj => ⟨?_, word_bt l j hj⟩⟩
 have key : ∀ (l : List Nat) (p : Nat × Nat), wk s t p l = some r → ∀ j, (h : j < l.length) → l[j] < 4 := by
  intro l
  induction l with
  | nil => intro p _ j hj; simp at hj
  | cons m l ih =>
   intro p h j hj
   obtain ⟨hm, q, h1, h2⟩ := wk_cons h
   cases j with
   | zero => exact hm
   | succ j => exact ih q h2 j (by simpa using hj)
 exact key l p h j hj
theorem bt_sub (s : ByteArray) (i k j : Nat) (hk : k ≤ s.size) (hj : i + j < k) : bt (s.extract i k) (j : Int) = bt s ((i + j : Nat) : Int) := by
 have h' : j < (s.extract i k).size := by rw [ByteArray.size_extract]; omega
 rw [bt_lt _ j h', bt_lt s (i + j) (by omega), ByteArray.getElem_extract]
theorem wk_steps {s t : ByteArray} : ∀ (l : List Nat) (p r : Nat × Nat), wk s t p l = some r → ∃ c : Nat → Nat × Nat, c 0 = p ∧ c l.length = r ∧ ∀ j, (h : j < l.length) → l[j] < 4 ∧ impl_distancesBy.stp false s t (c j) l[j] = some (c (j + 1)) := by
 intro l
 induction l with
 | nil => intro p r h; simp only [wk] at h; exact ⟨fun _ => p, rfl, Option.some.inj h, fun j hj => by simp at hj⟩
 | cons m l ih =>
  intro p r h
  obtain ⟨hm, q, h1, h2⟩ := wk_cons h
  obtain ⟨c, c0, c1, c2⟩ := ih q r h2
  refine ⟨fun j => match j with | 0 => p | j + 1 => c j, rfl, c1, fun j hj => ?_⟩
  cases j with
  | zero => exact ⟨hm, by show impl_distancesBy.stp false s t p m = some (c 0); rw [c0]; exact h1⟩
  | succ j => exact c2 j (by simpa using hj)
theorem path_far {s t : ByteArray} {n : Nat} {p q : Nat × Nat} (h : Path (Leads (impl_distancesBy.stp false s t)) n p q) : ((p.1 : Int) - q.1).natAbs + ((p.2 : Int) - q.2).natAbs ≤ n ∧ ((p.1 : Int) + p.2 + q.1 + q.2 + n) % 2 = 0 := by
 induction h with
 | nil => exact ⟨by omega, by omega⟩
 | snoc _ e ih =>
  obtain ⟨m, hm, hs⟩ := e
  obtain ⟨-, -, h1, h2⟩ := stp_in hs
  have c : m = 0 ∨ m = 1 ∨ m = 2 ∨ m = 3 := by omega
  rcases c with rfl | rfl | rfl | rfl <;> simp [impl_driveIn.dx, impl_driveIn.dy] at h1 h2 <;> omega
theorem dis_path {s t : ByteArray} {xs ys : List Int} (h : Asked s t xs ys) (h0 : 0 ≤ Dis s t xs ys) : Path (Leads (impl_distancesBy.stp false s t)) (Dis s t xs ys).toNat (crn xs) (crn ys) ∧ Dis s t xs ys ≤ 63 := by
 obtain ⟨G, hx, hy⟩ := h.of
 have S := signs_of G
 have ix := (crn_in hx.2).1
 obtain ⟨hF, -, -⟩ := far_ex false s t S.1.2.2 S.1.1.2 (crn xs) ix
 have h63 := dist63 false s t S.1.2.2 S.1.1.2 (crn xs) ix (crn ys)
 unfold Dis at h0 ⊢
 exact ⟨hF.path _ _ (by omega), h63⟩
theorem dis_le {s t : ByteArray} {p q : Nat × Nat} (hg : Good s t) (hp : InC s t p) {n : Nat} (h : Path (Leads (impl_distancesBy.stp false s t)) n p q) : 0 ≤ impl_distancesBy.dist false s t p q ∧ impl_distancesBy.dist false s t p q ≤ n := by
 have S := signs_of hg
 obtain ⟨hF, -, -⟩ := far_ex false s t S.1.2.2 S.1.1.2 p hp
 exact hF.le h rfl
theorem ok_some (s t : ByteArray) (xs ys : List Int) (hs : s.size ≤ 9) (ht : t.size ≤ 9) (h : Asked s t xs ys) (h0 : 0 ≤ Dis s t xs ys) (l : List Nat) (hw : wk s t (crn xs) l = some (crn ys)) (hl : (l.length : Int) = Dis s t xs ys) (T : Int) (hT : 1 ≤ T) (U : Nat) (hU : ∀ k ax, Dr (impl_distancesBy.stp false s t) (crn xs) k (crn ys) ax → U ≤ k) :
  ∃ n, ∀ k, n ≤ k → laws_FnWaysDriven.Ok k s t xs ys (spec_FirstDrive.word l) (Dis s t xs ys) T U := by
 obtain ⟨G, hx, hy⟩ := h.of
 have S := signs_of G
 obtain ⟨ix, ex0, ex1⟩ := crn_in hx.2
 obtain ⟨iy, ey0, ey1⟩ := crn_in hy.2
 obtain ⟨hP, h63⟩ := dis_path h h0
 have z1 := G.1.1
 have z2 := G.2.1
 have hsz := word_size l
 have hsp := word_spell l _ _ hw
 have hadj := wk_adj S l _ _ ix hw
 obtain ⟨a, b, ht1, ht2, ht3⟩ := turns_of (spec_FirstDrive.word l) (by omega) l hsp hadj
 obtain ⟨ax, hdr⟩ := wk_turns S l _ _ ix hw
 have hle := hU _ _ hdr
 have e1 : Ev (fun k => impl_DriveWord.f k s t xs (spec_FirstDrive.word l)) (ys, true) := by
  have z := (dw_yes s t xs (spec_FirstDrive.word l) (by omega) (by omega) h.1 h.2.1 (by omega)).2
  have p := wk_to_path s t (spec_FirstDrive.word l) l 0 (crn xs) (crn ys) (fun j hj => by rw [Nat.zero_add]; exact hsp.2 j hj) hw
  rw [hsz, ex0, ex1, p] at z
  have e : impl_DriveWord.tell (some (((crn ys).1 : Int), ((crn ys).2 : Int))) = (ys, true) := by
   show ([((crn ys).1 : Int), ((crn ys).2 : Int)], true) = _
   rw [crn_list hy.1 hy.2]
  rw [e] at z
  exact z
 have e3 := bw_f s t G
 have gb := good_back G
 have hA : Asked (mapB ge s) (mapB gn t) ys xs := ⟨(good_iff _ _).2 gb, by rw [mapB_size, mapB_size]; exact h.2.2, by rw [mapB_size, mapB_size]; exact h.2.1⟩
 have hDb : Dis (mapB ge s) (mapB gn t) ys xs = Dis s t xs ys := by
  unfold Dis
  rw [dist_back s t G (crn ys) iy]
  exact (dist_turn s t (by omega) (by omega) _ _ ix iy).symm
 have e4 := (dd_ok (mapB ge s) (mapB gn t) ys xs (by rw [mapB_size]; omega) (by rw [mapB_size]; omega) hA (by omega)).2
 rw [hDb] at e4
 have e5 := aSame_f ys ys (by omega)
 rw [decide_eq_true rfl] at e5
 have e6 := aSame_f xs ys (by omega)
 have hsame : (Dis s t xs ys == 0) = decide (xs = ys) := by
  rw [Bool.eq_iff_iff, beq_iff_eq, decide_eq_true_eq]
  constructor
  ·intro e
   have hn : l = [] := List.length_eq_zero_iff.1 (by omega)
   rw [hn] at hw
   have e2 : crn xs = crn ys := Option.some.inj hw
   rw [← crn_list hx.1 hx.2, ← crn_list hy.1 hy.2, e2]
  ·intro e
   unfold Dis
   rw [e]
   obtain ⟨hF, -, -⟩ := far_ex false s t S.1.2.2 S.1.1.2 (crn ys) iy
   exact hF.zero
 have far := path_far hP
 have ra : 0 ≤ rd xs 0 ∧ rd xs 0 ≤ 8 := by have := ix.1; omega
 have rb : 0 ≤ rd xs 1 ∧ rd xs 1 ≤ 8 := by have := ix.2; omega
 have rc : 0 ≤ rd ys 0 ∧ rd ys 0 ≤ 8 := by have := iy.1; omega
 have rdd : 0 ≤ rd ys 1 ∧ rd ys 1 ≤ 8 := by have := iy.2; omega
 have s0 := aSize_f (rd xs 0 - rd ys 0) (by omega)
 have s1 := aSize_f (rd xs 1 - rd ys 1) (by omega)
 obtain ⟨c, c0, c1, c2⟩ := wk_steps l _ _ hw
 have cin : ∀ j, j ≤ l.length → InC s t (c j) := by
  intro j
  induction j with
  | zero => intro _; rw [c0]; exact ix
  | succ j ih => intro hj; exact (stp_in (c2 j (by omega)).2).2.1
 have step : ∀ j, (hj : j < l.length) → (((spec_FirstDrive.word l)[j]'(by omega)).toNat < 128 ∧ Ev (fun k => impl_CanDrive.f k s t [((c j).1 : Int), ((c j).2 : Int)] ((spec_FirstDrive.word l).extract j (j + 1))) (true, true)) ∧ Ev (fun k => impl_DriveWord.f k s t [((c j).1 : Int), ((c j).2 : Int)] ((spec_FirstDrive.word l).extract j (j + 1))) ([((c (j + 1)).1 : Int), ((c (j + 1)).2 : Int)], true) := by
  intro j hj
  obtain ⟨hm, hst⟩ := c2 j hj
  have hcor := corner_of (cin j (by omega))
  have hexs : ((spec_FirstDrive.word l).extract j (j + 1)).size = 1 := by rw [ex_size _ _ _ (by omega)]; omega
  have hb : bt ((spec_FirstDrive.word l).extract j (j + 1)) ((0 : Nat) : Int) = impl_driveIn.sg l[j] := by
   rw [bt_sub _ _ _ _ (by omega) (by omega), Nat.add_zero]
   exact word_bt l j hj
  have hcan := (stp_in hst).1
  refine ⟨⟨?_, ?_⟩, ?_⟩
  ·have e := word_bt l j hj
   rw [bt_lt _ j (by omega)] at e
   have := sg_range l[j]
   omega
  ·have z := cn_yes s t _ _ (by omega) (by omega) h.1 hcor l[j] hm hexs hb
   have e : impl_driveIn.can s t (rd [((c j).1 : Int), ((c j).2 : Int)] 0) (rd [((c j).1 : Int), ((c j).2 : Int)] 1) l[j] = true := hcan
   rw [e] at z
   exact z
  ·have z := (dw_yes s t _ ((spec_FirstDrive.word l).extract j (j + 1)) (by omega) (by omega) h.1 hcor (by omega)).2
   have p := wk_to_path s t ((spec_FirstDrive.word l).extract j (j + 1)) [l[j]] 0 (c j) (c (j + 1)) (fun i hi => by
    obtain rfl : i = 0 := by simpa using hi
    exact ⟨hm, hb⟩) (wk_mk hm hst rfl)
   rw [hexs] at z
   have p' : impl_DriveWord.path s t ((spec_FirstDrive.word l).extract j (j + 1)) 1 0 (rd [((c j).1 : Int), ((c j).2 : Int)] 0) (rd [((c j).1 : Int), ((c j).2 : Int)] 1) = some (((c (j + 1)).1 : Int), ((c (j + 1)).2 : Int)) := p
   rw [p'] at z
   exact z
 have rounds : ∃ n, ∀ k, n ≤ k → ∀ j, (hj : j < l.length) → impl_CanDrive.f k s t [((c j).1 : Int), ((c j).2 : Int)] ((spec_FirstDrive.word l).extract j (j + 1)) = some (true, true) ∧ impl_DriveWord.f k s t [((c j).1 : Int), ((c j).2 : Int)] ((spec_FirstDrive.word l).extract j (j + 1)) = some ([((c (j + 1)).1 : Int), ((c (j + 1)).2 : Int)], true) := by
  have key : ∀ N, N ≤ l.length → ∃ n, ∀ k, n ≤ k → ∀ j, (hj : j < N) → impl_CanDrive.f k s t [((c j).1 : Int), ((c j).2 : Int)] ((spec_FirstDrive.word l).extract j (j + 1)) = some (true, true) ∧ impl_DriveWord.f k s t [((c j).1 : Int), ((c j).2 : Int)] ((spec_FirstDrive.word l).extract j (j + 1)) = some ([((c (j + 1)).1 : Int), ((c (j + 1)).2 : Int)], true) := by
   intro N
   induction N with
   | zero => intro _; exact ⟨0, fun k _ j hj => by omega⟩
   | succ N ih =>
    intro hN
    obtain ⟨n, hn⟩ := ih (by omega)
    obtain ⟨⟨-, n1, h1⟩, n2, h2⟩ := step N (by omega)
    refine ⟨n + n1 + n2, fun k hk j hj => ?_⟩
    by_cases e : j = N
    ·subst e; exact ⟨h1 k (by omega), h2 k (by omega)⟩
    ·exact hn k (by omega) j (by omega)
  exact key l.length (Nat.le_refl _)
 obtain ⟨n0, hr⟩ := rounds
 obtain ⟨n1, g1⟩ := e1
 obtain ⟨n3, g3⟩ := e3
 obtain ⟨n4, g4⟩ := e4
 obtain ⟨n5, g5⟩ := e5
 obtain ⟨n6, g6⟩ := e6
 refine ⟨n0 + n1 + n3 + n4 + n5 + n6, fun k hk => ⟨ys, (a : Int), (b : Int), mapB ge s, mapB gn t, decide (xs = ys), _, _, fun j => [((c j).1 : Int), ((c j).2 : Int)], g1 k (by omega), ht1, g3 k (by omega), g4 k (by omega), g5 k (by omega), g6 k (by omega), hsame, s0, s1, ⟨by omega, by omega⟩, ⟨by omega, ⟨by omega, by omega⟩, by omega, by omega⟩, by omega, hT, ⟨by omega, ⟨by omega, by omega⟩, by omega, by omega⟩, ⟨⟨hx.1, hy.1⟩, ⟨⟨by omega, by omega⟩, by omega, by omega⟩, ⟨by omega, by omega⟩, by omega, by omega⟩, ?_, fun j hj => ?_⟩⟩
 ·show [((c 0).1 : Int), ((c 0).2 : Int)] = xs
  rw [c0]
  exact crn_list hx.1 hx.2
 ·obtain ⟨q1, q2⟩ := hr k (by omega) j (by omega)
  exact ⟨(step j (by omega)).1.1, q1, q2⟩
theorem one_all {l0 : List Int} (hb : Bytes l0) : ∃ n, ∀ k, n ≤ k → laws_FnWaysDriven.One k l0 := by
 obtain ⟨s, t, xs, ys, ⟨n0, g0⟩, ⟨hs, ht⟩, hx, hy⟩ := drawFirst hb
 by_cases h : Asked s t xs ys
 case neg =>
  obtain ⟨⟨n1, g1⟩, n2, g2⟩ := fd_no s t xs ys (by omega) (by omega) h
  obtain ⟨⟨n3, g3⟩, n4, g4⟩ := dd_no s t xs ys (by omega) (by omega) h
  obtain ⟨⟨n5, g5⟩, n6, g6⟩ := cd_no s t xs ys (by omega) (by omega) h
  obtain ⟨⟨n7, g7⟩, n8, g8⟩ := ft_no s t xs ys (by omega) (by omega) h
  obtain ⟨⟨n9, g9⟩, n10, g10⟩ := tb_no s t xs ys (by omega) (by omega) h
  exact ⟨n0 + n1 + n2 + n3 + n4 + n5 + n6 + n7 + n8 + n9 + n10, fun k hk => ⟨s, t, xs, ys, ⟨#[]⟩, 0, 0, 0, 0, false, false, g0 k (by omega), g2 k (by omega), g1 k (by omega), g4 k (by omega), g3 k (by omega), g6 k (by omega), g5 k (by omega), g8 k (by omega), g7 k (by omega), g10 k (by omega), g9 k (by omega), (fun z => by cases z), (fun z => by cases z), (fun z => by cases z)⟩⟩
 have fd := fd_yes s t xs ys (by omega) (by omega) h
 have dd := dd_yes s t xs ys (by omega) (by omega) h
 have cd := cd_yes s t xs ys (by omega) (by omega) h
 have ft := ft_yes s t xs ys (by omega) (by omega) h
 have tb := tb_yes s t xs ys (by omega) (by omega) h
 by_cases q : Dis s t xs ys < 0
 ·obtain ⟨⟨n1, g1⟩, n2, g2⟩ := fd.1 q
  rw [show mx 0 (Dis s t xs ys) = 0 by unfold mx; rw [if_neg (by omega)], decide_eq_false (by omega)] at dd
  obtain ⟨⟨n3, g3⟩, n4, g4⟩ := dd
  obtain ⟨⟨n5, g5⟩, n6, g6⟩ := cd.1 q
  obtain ⟨⟨n7, g7⟩, n8, g8⟩ := ft.1 q
  rw [if_pos q] at tb
  obtain ⟨⟨n9, g9⟩, n10, g10⟩ := tb
  exact ⟨n0 + n1 + n2 + n3 + n4 + n5 + n6 + n7 + n8 + n9 + n10, fun k hk => ⟨s, t, xs, ys, ⟨#[]⟩, 0, 0, 0, 0, false, false, g0 k (by omega), g2 k (by omega), g1 k (by omega), g4 k (by omega), g3 k (by omega), g6 k (by omega), g5 k (by omega), g8 k (by omega), g7 k (by omega), g10 k (by omega), g9 k (by omega), (fun z => by cases z), (fun z => by cases z), (fun z => by cases z)⟩⟩
 ·have q0 : 0 ≤ Dis s t xs ys := by omega
  obtain ⟨l, ⟨hw, hl⟩, ⟨n1, g1⟩, n2, g2⟩ := fd.2 q0
  obtain ⟨⟨n3, g3⟩, n4, g4⟩ := dd_ok s t xs ys (by omega) (by omega) h q0
  obtain ⟨T, hT, ⟨n5, g5⟩, n6, g6⟩ := cd.2 q0
  obtain ⟨U, hU, hU2, ⟨n7, g7⟩, n8, g8⟩ := ft.2 q0
  rw [if_neg q] at tb
  obtain ⟨n11, g11⟩ := ok_some s t xs ys hs ht h q0 l hw hl T hT U hU
  obtain ⟨hP, h63⟩ := dis_path h q0
  by_cases p : Dis s t ys xs < 0
  ·rw [if_pos p] at tb
   obtain ⟨⟨n9, g9⟩, n10, g10⟩ := tb
   exact ⟨n0 + n1 + n2 + n3 + n4 + n5 + n6 + n7 + n8 + n9 + n10 + n11, fun k hk => ⟨s, t, xs, ys, _, _, T, U, 0, true, false, g0 k (by omega), g2 k (by omega), g1 k (by omega), g4 k (by omega), g3 k (by omega), g6 k (by omega), g5 k (by omega), g8 k (by omega), g7 k (by omega), g10 k (by omega), g9 k (by omega), (fun z => by cases z), (fun _ => g11 k (by omega)), (fun z => by cases z)⟩⟩
  ·have p0 : 0 ≤ Dis s t ys xs := by omega
   obtain ⟨hP2, h632⟩ := dis_path h.back p0
   rw [if_neg p, w64 (by omega) (by omega)] at tb
   obtain ⟨⟨n9, g9⟩, n10, g10⟩ := tb
   obtain ⟨-, n12, g12⟩ := dd_ok s t ys xs (by omega) (by omega) h.back p0
   have f1 := (path_far hP).2
   have f2 := (path_far hP2).2
   exact ⟨n0 + n1 + n2 + n3 + n4 + n5 + n6 + n7 + n8 + n9 + n10 + n11 + n12, fun k hk => ⟨s, t, xs, ys, _, _, T, U, _, true, true, g0 k (by omega), g2 k (by omega), g1 k (by omega), g4 k (by omega), g3 k (by omega), g6 k (by omega), g5 k (by omega), g8 k (by omega), g7 k (by omega), g10 k (by omega), g9 k (by omega), fun _ => rfl, fun _ => g11 k (by omega), fun _ => ⟨_, g12 k (by omega), rfl, by omega, ⟨by omega, by omega⟩, by omega, by omega⟩⟩⟩
theorem turns_same2 (z : ByteArray) (hz : z.size ≤ 100) : ∃ (l o : Int) (th : Bool), impl_TurnsOfWord.f z = some (l, o, th) ∧ Ev (fun k => spec_TurnsOfWord.f k z) (l, o, th) := by
 obtain ⟨⟨l, o, th⟩, g1, g2⟩ := turns_same z hz 0 (by omega) (fun h => by omega) 0 0 0 (by omega) (by omega) (by omega) (by omega) (by omega) (by omega)
 refine ⟨l, o, th, ?_, ?_⟩
 ·unfold impl_TurnsOfWord.f
  rw [if_neg (by omega)]
  exact g1
 ·unfold spec_TurnsOfWord.f
  exact neg (by omega) g2
theorem turns_few (w : ByteArray) (hw : w.size ≤ 100) : ∀ i : Nat, i ≤ w.size → ∀ t0 t1 t2 t3 a b : Int, 0 ≤ t0 → t0 ≤ i → 0 ≤ t1 → t1 ≤ i → 0 ≤ t2 → t2 ≤ i → 0 ≤ t3 → t3 ≤ i → t1 + t3 ≤ (i : Int) - 1 ∨ (i = 0 ∧ t1 = 0 ∧ t3 = 0) →
  impl_TurnsOfWord.l (101 - i) w i t0 t1 t2 t3 = some (a, b, true) → (0 ≤ a ∧ 0 ≤ b) ∧ (a + b ≤ (w.size : Int) - 1 ∨ (w.size = 0 ∧ a = 0 ∧ b = 0)) := by
 refine down w.size ?_ ?_
 ·intro t0 t1 t2 t3 a b _ _ h1 h1' _ _ h3 h3' h4 h
  rw [show 101 - w.size = (100 - w.size) + 1 by omega] at h
  simp only [impl_TurnsOfWord.l] at h
  rw [if_neg (by omega)] at h
  by_cases c : t2 > 0
  ·rw [if_pos c] at h; simp at h
  ·rw [if_neg c] at h
   obtain ⟨rfl, rfl⟩ : t1 = a ∧ t3 = b := by simpa using h
   omega
 ·intro i hi ih t0 t1 t2 t3 a b h0 h0' h1 h1' h2 h2' h3 h3' h4 h
  rw [show 101 - i = (100 - i) + 1 by omega] at h
  simp only [impl_TurnsOfWord.l] at h
  rw [show 101 - (i + 1) = 100 - i by omega] at ih
  rw [if_pos hi] at h
  by_cases c : impl_TurnsOfWord.pos (bt w i) < 0
  ·rw [if_pos c] at h; simp at h
  ·rw [if_neg c] at h
   by_cases z : 0 < i
   ·rw [if_pos z] at h
    by_cases c0 : (impl_TurnsOfWord.pos (bt w i) - impl_TurnsOfWord.pos (bt w ((i : Int) - 1)) + 4).tmod 4 = 0
    ·rw [if_pos c0, w64 (by omega) (by omega)] at h
     exact ih _ _ _ _ a b (by omega) (by omega) h1 (by omega) h2 (by omega) h3 (by omega) (.inl (by omega)) h
    rw [if_neg c0] at h
    by_cases c1 : (impl_TurnsOfWord.pos (bt w i) - impl_TurnsOfWord.pos (bt w ((i : Int) - 1)) + 4).tmod 4 = 1
    ·rw [if_pos c1, w64 (by omega) (by omega)] at h
     exact ih _ _ _ _ a b h0 (by omega) (by omega) (by omega) h2 (by omega) h3 (by omega) (.inl (by omega)) h
    rw [if_neg c1] at h
    by_cases c2 : (impl_TurnsOfWord.pos (bt w i) - impl_TurnsOfWord.pos (bt w ((i : Int) - 1)) + 4).tmod 4 = 2
    ·rw [if_pos c2, w64 (by omega) (by omega)] at h
     exact ih _ _ _ _ a b h0 (by omega) h1 (by omega) (by omega) (by omega) h3 (by omega) (.inl (by omega)) h
    rw [if_neg c2] at h
    by_cases c3 : (impl_TurnsOfWord.pos (bt w i) - impl_TurnsOfWord.pos (bt w ((i : Int) - 1)) + 4).tmod 4 = 3
    ·rw [if_pos c3, w64 (by omega) (by omega)] at h
     exact ih _ _ _ _ a b h0 (by omega) h1 (by omega) h2 (by omega) (by omega) (by omega) (.inl (by omega)) h
    rw [if_neg c3] at h
    cases h
   ·rw [if_neg z] at h
    exact ih _ _ _ _ a b h0 (by omega) h1 (by omega) h2 (by omega) h3 (by omega) (.inl (by omega)) h
theorem two_all {l1 : List Int} (hb : Bytes l1) : ∃ n, ∀ k, n ≤ k → laws_FnWaysDriven.Two k l1 := by
 obtain ⟨s, t, st, way, ⟨n0, g0⟩, ⟨hs, ht⟩, hst, hway⟩ := drawWord hb
 obtain ⟨s2, t2, a2, sg2, ⟨n1, g1⟩, ⟨hs2, ht2⟩, ha2⟩ := drawCan hb
 obtain ⟨z, ⟨n2, g2⟩, hz⟩ := drawTurns hb
 obtain ⟨⟨can, can2⟩, ⟨n3, g3⟩, n4, g4⟩ := cn_same s2 t2 a2 sg2 (by omega) (by omega) (by omega)
 obtain ⟨l, o, th, g5, n6, g6⟩ := turns_same2 z (by omega)
 have hth : th = true → ((0 ≤ l ∧ l ≤ 1000) ∧ 0 ≤ o ∧ o ≤ 1000) ∧ z.size ≤ 1000 ∧ (0 < z.size → l + o ≤ (z.size : Int) - 1) := by
  rintro rfl
  have e : impl_TurnsOfWord.l (101 - 0) z 0 0 0 0 0 = some (l, o, true) := by
   have q := g5
   unfold impl_TurnsOfWord.f at q
   rw [if_neg (by omega)] at q
   exact q
  have q := turns_few z (by omega) 0 (by omega) 0 0 0 0 l o (by omega) (by omega) (by omega) (by omega) (by omega) (by omega) (by omega) (by omega) (.inr ⟨rfl, rfl, rfl⟩) e
  omega
 by_cases c : good s t = true ∧ spec_owCorner.corner t.size s.size st = true ∧ way.size ≤ 100
 case neg =>
  obtain ⟨⟨n7, g7⟩, n8, g8⟩ := dw_no s t st way (by omega) (by omega) c (by omega)
  obtain ⟨n9, g9⟩ := aSame_f [] [] (by simp)
  rw [decide_eq_true rfl] at g9
  exact ⟨n0 + n1 + n2 + n3 + n4 + n6 + n7 + n8 + n9, fun k hk => ⟨s, t, st, way, [], false, s2, t2, a2, sg2, can, can2, z, l, o, th, g0 k (by omega), g8 k (by omega), g7 k (by omega), g1 k (by omega), g4 k (by omega), g3 k (by omega), g2 k (by omega), g5, g6 k (by omega), g9 k (by omega), fun q => (by cases q), hth⟩⟩
 obtain ⟨hg, hc, h100⟩ := c
 obtain ⟨⟨n7, g7⟩, n8, g8⟩ := dw_yes s t st way (by omega) (by omega) hg hc h100
 have G := (good_iff s t).1 hg
 have S := signs_of G
 have hx := (corner_iff s t st).1 hc
 obtain ⟨ix, ex0, ex1⟩ := crn_in hx.2
 cases hp : impl_DriveWord.path s t way way.size 0 (rd st 0) (rd st 1) with
 | none =>
  rw [hp] at g7 g8
  obtain ⟨n9, g9⟩ := aSame_f [] [] (by simp)
  rw [decide_eq_true rfl] at g9
  exact ⟨n0 + n1 + n2 + n3 + n4 + n6 + n7 + n8 + n9, fun k hk => ⟨s, t, st, way, [], false, s2, t2, a2, sg2, can, can2, z, l, o, th, g0 k (by omega), g8 k (by omega), g7 k (by omega), g1 k (by omega), g4 k (by omega), g3 k (by omega), g2 k (by omega), g5, g6 k (by omega), g9 k (by omega), fun q => (by cases q), hth⟩⟩
 | some p =>
  obtain ⟨X, Y⟩ := p
  rw [hp] at g7 g8
  rw [ex0, ex1] at hp
  obtain ⟨m, hm1, hm2, q, hq, hX, hY⟩ := path_wk s t way way.size 0 (crn st) X Y hp
  subst hX hY
  have hsp : Spell way m := ⟨hm1.symm, fun j hj => by have w := hm2 j hj; rw [Nat.zero_add] at w; exact w⟩
  have hqi := wk_in m _ _ ix hq
  have hA : Asked s t st [(q.1 : Int), (q.2 : Int)] := ⟨hg, hc, corner_of hqi⟩
  have hdis := dis_le G ix (wk_path m _ _ hq)
  have hDe : Dis s t st [(q.1 : Int), (q.2 : Int)] = impl_distancesBy.dist false s t (crn st) q := rfl
  obtain ⟨-, n10, g10⟩ := dd_ok s t st _ (by omega) (by omega) hA (by omega)
  obtain ⟨U, hU, hU2, -, n11, g11⟩ := (ft_yes s t st _ (by omega) (by omega) hA).2 (by omega)
  obtain ⟨a, b, ht1, ht2', ht3⟩ := turns_of way h100 m hsp (wk_adj S m _ _ ix hq)
  obtain ⟨ax, hdr⟩ := wk_turns S m _ _ ix hq
  have hle := hU _ _ hdr
  obtain ⟨n9, g9⟩ := aSame_f [(q.1 : Int), (q.2 : Int)] [(q.1 : Int), (q.2 : Int)] (by simp)
  rw [decide_eq_true rfl] at g9
  exact ⟨n0 + n1 + n2 + n3 + n4 + n6 + n7 + n8 + n9 + n10 + n11, fun k hk => ⟨s, t, st, way, [(q.1 : Int), (q.2 : Int)], true, s2, t2, a2, sg2, can, can2, z, l, o, th, g0 k (by omega), g8 k (by omega), g7 k (by omega), g1 k (by omega), g4 k (by omega), g3 k (by omega), g2 k (by omega), g5, g6 k (by omega), g9 k (by omega), fun _ => ⟨_, U, a, b, g10 k (by omega), g11 k (by omega), ht1, ⟨by omega, by omega⟩, by omega, ⟨by omega, by omega⟩, by omega, by omega⟩, hth⟩⟩
theorem both_f (l0 l1 : List Int) (h0 : l0.length ≤ 140737488355327) (h1 : l1.length ≤ 140737488355327) (b0 : ∀ x ∈ l0, 0 ≤ x ∧ x ≤ 255) (b1 : ∀ x ∈ l1, 0 ≤ x ∧ x ≤ 255) : laws_FnWaysDriven.f l0 l1 = some true := by
 unfold laws_FnWaysDriven.f
 split
 ·rfl
 ·rename_i g
  have hb : laws_big.f l0 l1 = some true := by
   unfold laws_big.f
   by_cases c : (l0.length : Int) > 1048576
   ·rw [if_pos c]
   ·rw [if_neg c, w64 (by omega) (by omega)]
    by_cases d : (l1.length : Int) > 1048576 - (l0.length : Int)
    ·rw [decide_eq_true d]
    ·refine absurd ?_ g
     obtain ⟨n1, f1⟩ := one_all (l0 := l0) ⟨by omega, b0⟩
     obtain ⟨n2, f2⟩ := two_all (l1 := l1) ⟨by omega, b1⟩
     refine ⟨n1 + n2, ?_, f1 _ (by omega), f2 _ (by omega)⟩
     unfold laws_big.f
     rw [if_neg c, w64 (by omega) (by omega), decide_eq_false d]
  rw [if_pos hb]
theorem FnWaysDriven : laws_FnWaysDriven.Pure := by
 intro l0 l1 hm0 hs0 hw0 hm1 hs1 hw1
 have bytes : ∀ {l : List Int}, (∀ x ∈ l, (Lit.int .u8 x).wf = true) → ∀ x ∈ l, 0 ≤ x ∧ x ≤ 255 := fun {l} h x hx => by
  have z := h x hx
  simp [Lit.wf, IntKind.wrap, IntKind.bits, IntKind.signed] at z
  have e1 : IntKind.u8.min = 0 := by decide
  have e2 : IntKind.u8.max = 255 := by decide
  omega
 exact both_f l0 l1 (by omega) (by omega) (bytes hw0) (bytes hw1)
end Go.Proofs.Ytdhdkkhbgfcoiaa.Pure
