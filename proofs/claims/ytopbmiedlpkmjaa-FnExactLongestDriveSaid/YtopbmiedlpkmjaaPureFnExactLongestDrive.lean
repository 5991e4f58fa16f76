/- The plain law of FnExactLongestDrive: what the printed functions compute answers true at every input within the bounds that the print tells. -/
import Derived.Test.YtopbmiedlpkmjaaMLx11
import Derived.Test.YtopbmiedlpkmjaaLib
namespace Go.Proofs.Ytopbmiedlpkmjaa.Pure
open Go.RowKit Go.Proofs.Ytopbmiedlpkmjaa.ML Go.Proofs.YtopbmiedlpkmjaaW.PrintWords Go.Proofs.YtopbmiedlpkmjaaW.PrintLast Go.Proofs.YtopbmiedlpkmjaaW.PrintMore Go.Proofs.Ytopbmiedlpkmjaa.Lib
set_option linter.unusedVariables false
set_option linter.unusedSimpArgs false

theorem spec_in (a b c : Int) : spec_l1In.f a b c = some (decide (b ≤ a ∧ a ≤ c)) := by
  unfold spec_l1In.f
  by_cases h : a ≥ b
  · rw [if_pos h]; simp [show b ≤ a from h]
  · rw [if_neg h]; simp [show ¬ b ≤ a from h]
theorem impl_in (a b c : Int) : impl_within.f a b c = some (decide (b ≤ a ∧ a ≤ c)) := by
  unfold impl_within.f
  by_cases h : a ≥ b
  · rw [if_pos h]; simp [show b ≤ a from h]
  · rw [if_neg h]; simp [show ¬ b ≤ a from h]
/-- Two signs alone from one on. -/
def Signs (s : ByteArray) (a b : Int) (i : Nat) : Prop := ∀ j : Nat, i ≤ j → j < s.size → bt s j = a ∨ bt s j = b
theorem signs_end (s : ByteArray) (a b : Int) : Signs s a b s.size := fun j h1 h2 => by omega
theorem signs_step (s : ByteArray) (a b : Int) (i : Nat) (hi : i < s.size) : Signs s a b i ↔ (bt s i = a ∨ bt s i = b) ∧ Signs s a b (i + 1) := by
  constructor
  · intro g; exact ⟨g i (Nat.le_refl _) hi, fun j h1 h2 => g j (by omega) h2⟩
  · rintro ⟨g, r⟩ j h1 h2
    by_cases e : j = i
    · subst e; exact g
    · exact r j (by omega) h2
/-- The signs of ways in one direction. -/
def Way (s : ByteArray) (a b : Int) : Prop := (2 ≤ s.size ∧ s.size ≤ 8) ∧ Signs s a b 0
/-- Ways. -/
def Good (s t : ByteArray) : Prop := Way s 101 119 ∧ Way t 110 115
open Classical in
noncomputable def good (s t : ByteArray) : Bool := decide (Good s t)
theorem good_iff (s t : ByteArray) : good s t = true ↔ Good s t := by unfold good; simp
open Classical in
theorem spec_owText_l0 (s : ByteArray) (a b : Int) (hs : s.size ≤ 9223372036854775807) : ∀ i : Nat, i ≤ s.size → Ev (fun k => spec_owText.l0 k s a b i) (decide (Signs s a b i)) := by
  refine down s.size ?_ ?_
  · refine succ ?_
    simp only [spec_owText.l0]
    exact neg (by omega) (conv (now _) (by simp [signs_end]))
  · intro i hi ih
    refine succ ?_
    simp only [spec_owText.l0]
    rw [wnat (by omega)]
    refine pos (by omega) (pos (by omega) ?_)
    by_cases c1 : bt s i = a
    · exact pos c1 (conv ih (by rw [decide_eq_decide, signs_step s a b i hi]; exact ⟨fun g => ⟨.inl c1, g⟩, fun g => g.2⟩))
    · refine neg c1 ?_
      by_cases c2 : bt s i = b
      · exact pos c2 (conv ih (by rw [decide_eq_decide, signs_step s a b i hi]; exact ⟨fun g => ⟨.inr c2, g⟩, fun g => g.2⟩))
      · exact neg c2 (conv (now _) (Eq.symm (decide_eq_false (by rw [signs_step s a b i hi]; exact fun g => g.1.elim c1 c2))))
open Classical in
theorem spec_owText_f (s : ByteArray) (a b : Int) (hs : s.size ≤ 9223372036854775807) : Ev (fun k => spec_owText.f k s a b) (decide (Way s a b)) := by
  unfold spec_owText.f
  simp only [spec_in, Option.bind_some]
  by_cases c : 2 ≤ (s.size : Int) ∧ (s.size : Int) ≤ 8
  · refine pos (by simpa using c) (conv (spec_owText_l0 s a b hs 0 (by omega)) ?_)
    rw [decide_eq_decide]
    exact ⟨fun g => ⟨by omega, g⟩, fun g => g.2⟩
  · exact neg (by simpa using c) (conv (now _) (Eq.symm (decide_eq_false (fun g => c (by have := g.1; omega)))))
open Classical in
theorem spec_owGood_f (s t : ByteArray) (hs : s.size ≤ 9223372036854775807) (ht : t.size ≤ 9223372036854775807) : Ev (fun k => spec_owGood.f k s t) (good s t) := by
  unfold spec_owGood.f
  refine bind (spec_owText_f s _ _ hs) ?_
  by_cases c : Way s 101 119
  · refine pos (by simpa using c) (conv (bind (spec_owText_f t _ _ ht) (now _)) ?_)
    unfold good Good
    rw [decide_eq_decide]
    exact ⟨fun g => ⟨c, g⟩, fun g => g.2⟩
  · refine neg (by simpa using c) (conv (now _) ?_)
    exact Eq.symm (decide_eq_false (fun g => c g.1))
theorem indexByte_two (a b : UInt8) (x : Int) (h0 : 0 ≤ x) (h1 : x ≤ 255) : Go.Lib.indexByte [a, b] x.toNat.toUInt8 < 0 ↔ ¬ (x = (a.toNat : Int) ∨ x = (b.toNat : Int)) := by
  have hx : x.toNat.toUInt8.toNat = x.toNat := by simp; omega
  have ea : (a == x.toNat.toUInt8) = decide (x = (a.toNat : Int)) := by
    rw [Bool.eq_iff_iff, beq_iff_eq, decide_eq_true_eq, ← UInt8.toNat_inj, hx]; omega
  have eb : (b == x.toNat.toUInt8) = decide (x = (b.toNat : Int)) := by
    rw [Bool.eq_iff_iff, beq_iff_eq, decide_eq_true_eq, ← UInt8.toNat_inj, hx]; omega
  simp only [Go.Lib.indexByte, ea, eb]
  by_cases c1 : x = (a.toNat : Int)
  · rw [if_pos (by simpa using c1)]
    simp [c1]
  · rw [if_neg (by simpa using c1)]
    by_cases c2 : x = (b.toNat : Int)
    · have e : decide (x = (b.toNat : Int)) = true := by simpa using c2
      rw [e]
      simp [c2]
    · have e : decide (x = (b.toNat : Int)) = false := by simpa using c2
      rw [e]
      simp [c1, c2]
open Classical in
theorem impl_areSigns_l0 (s : ByteArray) (a b : UInt8) (hs : s.size ≤ 9223372036854775807) : ∀ i : Nat, i ≤ s.size → Ev (fun k => impl_areSigns.l0 k s ⟨#[a, b]⟩ s.size i) (decide (Signs s a.toNat b.toNat i ∧ 2 ≤ s.size ∧ s.size ≤ 8)) := by
  refine down s.size ?_ ?_
  · refine succ ?_
    simp only [impl_areSigns.l0, impl_in, Option.bind_some]
    refine neg (by omega) (conv (now _) ?_)
    rw [decide_eq_decide]
    exact ⟨fun g => ⟨signs_end _ _ _, by omega⟩, fun g => by have := g.2; omega⟩
  · intro i hi ih
    refine succ ?_
    simp only [impl_areSigns.l0, strings_IndexByte.f, Option.bind_some]
    rw [wnat (by omega)]
    refine pos (by omega) (pos (by omega) (pos (by omega) ?_))
    have hr := bt_range s i
    have e := indexByte_two a b (bt s i) hr.1 hr.2
    by_cases c : bt s i = (a.toNat : Int) ∨ bt s i = (b.toNat : Int)
    · refine neg (fun g => e.1 g c) (conv ih ?_)
      rw [decide_eq_decide, signs_step s _ _ i hi]
      exact ⟨fun g => ⟨⟨c, g.1⟩, g.2⟩, fun g => ⟨g.1.2, g.2⟩⟩
    · refine pos (e.2 c) (conv (now _) (Eq.symm (decide_eq_false ?_)))
      rw [signs_step s _ _ i hi]
      exact fun g => c g.1.1
open Classical in
theorem impl_areSigns_f (s : ByteArray) (a b : UInt8) (hs : s.size ≤ 9223372036854775807) : Ev (fun k => impl_areSigns.f k s ⟨#[a, b]⟩) (decide (Way s a.toNat b.toNat)) := by
  unfold impl_areSigns.f
  refine conv (impl_areSigns_l0 s a b hs 0 (by omega)) ?_
  rw [decide_eq_decide]
  exact ⟨fun g => ⟨g.2, g.1⟩, fun g => ⟨g.2, g.1⟩⟩
open Classical in
theorem impl_AreWays_f (s t : ByteArray) (hs : s.size ≤ 9223372036854775807) (ht : t.size ≤ 9223372036854775807) : Ev (fun k => impl_AreWays.f k s t) (good s t) := by
  unfold impl_AreWays.f
  refine bind (impl_areSigns_f s 101 119 hs) ?_
  by_cases c : Way s 101 119
  · refine pos (by simpa using c) (conv (bind (impl_areSigns_f t 110 115 ht) (now _)) ?_)
    unfold good Good
    rw [decide_eq_decide]
    exact ⟨fun g => ⟨c, g⟩, fun g => g.2⟩
  · refine neg (by simpa using c) (conv (now _) ?_)
    exact Eq.symm (decide_eq_false (fun g => c g.1))

theorem szWays_f (s t : ByteArray) (hs : s.size ≤ 9223372036854775807) (ht : t.size ≤ 9223372036854775807) : ∃ v, laws_szWays.f s t 1048576 = some v ∧ (¬ v < 0 → s.size ≤ 1048576 ∧ t.size ≤ 1048576) := by
  unfold laws_szWays.f
  rw [w64 (show -9223372036854775808 ≤ (1048576 : Int) - (s.size : Int) by omega) (by omega)]
  by_cases c : (1048576 : Int) - (s.size : Int) < 0
  · exact ⟨-1, by rw [if_pos c], by omega⟩
  · rw [if_neg c, w64 (by omega) (by omega)]
    by_cases d : (1048576 : Int) - (s.size : Int) - (t.size : Int) < 0
    · exact ⟨-1, by rw [if_pos d], by omega⟩
    · exact ⟨_, by rw [if_neg d], fun _ => by omega⟩

theorem eqIntS_l0 (xs ys : List Int) (hx : xs.length ≤ 35184372088832) (hl : xs.length = ys.length) : ∀ i : Nat, i ≤ xs.length → Ev (fun k => laws_eqIntS.l0 k xs ys i) (decide (xs.drop i = ys.drop i)) := by
  refine down xs.length ?_ ?_
  · refine succ ?_
    simp only [laws_eqIntS.l0]
    exact neg (by omega) (conv (now _) (by simp [hl]))
  · intro i hi ih
    refine succ ?_
    simp only [laws_eqIntS.l0]
    rw [wnat (by omega)]
    refine pos (by omega) (pos (by omega) (pos (by omega) ?_))
    rw [rd_lt xs i hi, rd_lt ys i (by omega)]
    by_cases e : xs[i] = ys[i]'(by omega)
    · exact pos e (conv ih (by rw [decide_eq_decide, drop_iff hi (by omega)]; exact ⟨fun h => ⟨e, h⟩, fun h => h.2⟩))
    · exact neg e (conv (now _) (Eq.symm (decide_eq_false (by rw [drop_iff hi (by omega)]; exact fun h => e h.1))))
theorem eqIntS_f (xs ys : List Int) (hx : xs.length ≤ 35184372088832) : Ev (fun k => laws_eqIntS.f k xs ys) (decide (xs = ys)) := by
  unfold laws_eqIntS.f
  by_cases e : xs.length = ys.length
  · exact pos (by omega) (conv (eqIntS_l0 xs ys hx e 0 (by omega)) (by simp))
  · exact neg (by omega) (conv (now _) (by simp; intro h; exact e (by rw [h])))
theorem eqIntS_same (xs : List Int) (hx : xs.length ≤ 35184372088832) : Ev (fun k => laws_eqIntS.f k xs xs) true := conv (eqIntS_f xs xs hx) (by simp)

theorem flat_len (W H : Nat) (d : Nat × Nat → Int) : (spec_owFar.flat W H d).length = W * H := by simp [spec_owFar.flat]
theorem tab_len (W H : Nat) (d : Nat × Nat → Int) : (impl_distancesBy.tab W H d).length = W := by simp [impl_distancesBy.tab]
/-- A corner of ways. -/
def InC (s t : ByteArray) (p : Nat × Nat) : Prop := p.1 < t.size ∧ p.2 < s.size
theorem stp_some {back : Bool} {s t : ByteArray} {p : Nat × Nat} {n : Nat} {c : Nat × Nat} (h : impl_distancesBy.stp back s t p n = some c) :
    (c.1 : Int) = (p.1 : Int) + impl_driveIn.dx n ∧ (c.2 : Int) = (p.2 : Int) + impl_driveIn.dy n ∧ InC s t c ∧ (if back = true then impl_driveIn.can s t ((p.1 : Int) + impl_driveIn.dx n) ((p.2 : Int) + impl_driveIn.dy n) (3 - n) else impl_driveIn.can s t p.1 p.2 n) = true := by
  unfold impl_distancesBy.stp at h
  obtain ⟨⟨h0, h1⟩, h2⟩ := Option.ite_none_right_eq_some.1 h
  injection h2 with h2
  subst h2
  refine ⟨Int.toNat_of_nonneg h0.1.1, Int.toNat_of_nonneg h0.2.1, ⟨?_, ?_⟩, h1⟩
  · show (Int.toNat _) < _
    omega
  · show (Int.toNat _) < _
    omega
theorem far_ex (back : Bool) (s t : ByteArray) (hs : s.size ≤ 8) (ht : t.size ≤ 8) (a : Nat × Nat) (ha : InC s t a) : Far (Leads (impl_distancesBy.stp back s t)) a (impl_distancesBy.dist back s t a) ∧ (∀ c, 0 ≤ impl_distancesBy.dist back s t a c → InC s t c) ∧ ∀ c, impl_distancesBy.dist back s t a c ≤ 64 := by
  obtain ⟨d, h1, h2, h3⟩ := Bfs.run (st := impl_distancesBy.stp back s t) (a := a) (InC s t) ha (fun p n c _ h => (stp_some h).2.2.1) (fun p => p.1 * 8 + p.2) 64 (fun x y hx hy e => Prod.ext (by have := hx.2; have := hy.2; have e' : x.1 * 8 + x.2 = y.1 * 8 + y.2 := e; omega) (by have := hx.2; have := hy.2; have e' : x.1 * 8 + x.2 = y.1 * 8 + y.2 := e; omega)) (fun x hx => by have := hx.1; have := hx.2; show x.1 * 8 + x.2 < 64; omega)
  have e : impl_distancesBy.dist back s t a = d := h1.the _ (fun p hp => impl_distancesBy.mem_nodes (h2 p hp)) 64 h3
  rw [e]
  exact ⟨h1, h2, h3⟩
theorem far_in {α : Type} {E : α → α → Prop} {a : α} {d : α → Int} (h : Far E a d) (V : α → Prop) (hV : ∀ c, 0 ≤ d c → V c) : Far (fun x y => V x ∧ V y ∧ E x y) a d :=
  ⟨h.zero, h.low, fun c c' z e => h.next c c' z e.2.2, fun c z n => by
    obtain ⟨k, p, hp, hd⟩ := h.back c z n
    exact ⟨k, p, ⟨hV p (by omega), hV c z, hp⟩, hd⟩⟩
theorem dx_turn (n : Nat) (h : n < 4) : impl_driveIn.dx (3 - n) = - impl_driveIn.dx n ∧ impl_driveIn.dy (3 - n) = - impl_driveIn.dy n := by
  have c : n = 0 ∨ n = 1 ∨ n = 2 ∨ n = 3 := by omega
  rcases c with rfl | rfl | rfl | rfl <;> simp [impl_driveIn.dx, impl_driveIn.dy]
theorem leads_turn (s t : ByteArray) (back : Bool) (x y : Nat × Nat) (hx : InC s t x) (h : Leads (impl_distancesBy.stp back s t) x y) : Leads (impl_distancesBy.stp (!back) s t) y x := by
  obtain ⟨n, hn, hs⟩ := h
  obtain ⟨h1, h2, h3, h4⟩ := stp_some hs
  obtain ⟨d1, d2⟩ := dx_turn n hn
  refine ⟨3 - n, by omega, ?_⟩
  have e1 : (y.1 : Int) + impl_driveIn.dx (3 - n) = x.1 := by omega
  have e2 : (y.2 : Int) + impl_driveIn.dy (3 - n) = x.2 := by omega
  unfold impl_distancesBy.stp
  rw [e1, e2, if_pos]
  · simp
  · have := hx.1
    have := hx.2
    refine ⟨⟨⟨by omega, by omega⟩, by omega, by omega⟩, ?_⟩
    rw [show 3 - (3 - n) = n by omega]
    cases back with
    | false => simpa using h4
    | true =>
      rw [if_pos rfl, ← h1, ← h2] at h4
      simpa using h4
theorem dist_turn (s t : ByteArray) (hs : s.size ≤ 8) (ht : t.size ≤ 8) (a b : Nat × Nat) (ha : InC s t a) (hb : InC s t b) : impl_distancesBy.dist false s t a b = impl_distancesBy.dist true s t b a := by
  obtain ⟨h1, h2, -⟩ := far_ex false s t hs ht a ha
  obtain ⟨k1, k2, -⟩ := far_ex true s t hs ht b hb
  exact (far_in h1 _ h2).turn (far_in k1 _ k2) (fun x y => ⟨fun h => ⟨h.2.1, h.1, leads_turn s t false x y h.1 h.2.2⟩, fun h => ⟨h.2.1, h.1, leads_turn s t true y x h.1 h.2.2⟩⟩)
theorem flat_rd (W H : Nat) (d : Nat × Nat → Int) (x y : Nat) (hx : x < W) (hy : y < H) : rd (spec_owFar.flat W H d) ((x * H + y : Nat) : Int) = d (x, y) := by
  have hlt := spec_owFar.cd_lt H W x y hx hy
  rw [rd_lt _ _ (by rw [flat_len]; exact hlt)]
  simp only [spec_owFar.flat, List.getElem_map, List.getElem_range]
  rw [(spec_owFar.cd_div H x y hy).1, (spec_owFar.cd_div H x y hy).2]
theorem tab_row (W H : Nat) (d : Nat × Nat → Int) (x : Nat) (hx : x < W) : rd_L1 (impl_distancesBy.tab W H d) (x : Int) = (List.range H).map fun y => d (x, y) := by
  unfold rd_L1
  rw [Int.toNat_natCast, List.getD_eq_getElem?_getD, List.getElem?_eq_getElem (by rw [tab_len]; exact hx)]
  simp [impl_distancesBy.tab]
theorem tab_rd (W H : Nat) (d : Nat × Nat → Int) (x y : Nat) (hx : x < W) (hy : y < H) : rd (rd_L1 (impl_distancesBy.tab W H d) (x : Int)) (y : Int) = d (x, y) := by
  rw [tab_row W H d x hx, rd_lt _ _ (by simpa using hy)]
  simp
theorem signs_of {s t : ByteArray} (h : Good s t) : spec_owFar.Signs s t :=
  ⟨⟨⟨by have := h.2.1.1; omega, h.2.1.2⟩, by have := h.1.1.1; omega, h.1.1.2⟩, fun j hj => h.1.2 j (Nat.zero_le _) hj, fun j hj => h.2.2 j (Nat.zero_le _) hj⟩
/-- A corner as it is asked for. -/
def crn (xs : List Int) : Nat × Nat := ((rd xs 0).toNat, (rd xs 1).toNat)
theorem crn_in {s t : ByteArray} {xs : List Int} (h : impl_driveIn.At s t (rd xs 0) (rd xs 1)) : InC s t (crn xs) ∧ rd xs 0 = ((crn xs).1 : Int) ∧ rd xs 1 = ((crn xs).2 : Int) := by
  obtain ⟨⟨x0, x1⟩, y0, y1⟩ := h
  refine ⟨⟨?_, ?_⟩, (Int.toNat_of_nonneg x0).symm, (Int.toNat_of_nonneg y0).symm⟩
  · show (rd xs 0).toNat < _
    omega
  · show (rd xs 1).toNat < _
    omega
theorem owFar_some (s t : ByteArray) (hg : Good s t) (xs : List Int) (hl : xs.length = 2) (ha : impl_driveIn.At s t (rd xs 0) (rd xs 1)) : Ev (fun k => spec_owFar.f k s t xs) (spec_owFar.flat t.size s.size (impl_distancesBy.dist false s t (crn xs))) := by
  refine succ ?_
  simp only [spec_owFar.f]
  exact pos ⟨⟨signs_of hg, hl⟩, ha⟩ (now _)
theorem dists_some (s t : ByteArray) (hg : Good s t) (xs : List Int) (hl : xs.length = 2) (ha : impl_driveIn.At s t (rd xs 0) (rd xs 1)) (back : Bool) : Ev (fun k => impl_distancesBy.f k (t.size : Int) (s.size : Int) xs (s, t) back) (impl_distancesBy.tab t.size s.size (impl_distancesBy.dist back s t (crn xs))) := by
  refine succ ?_
  simp only [impl_distancesBy.f]
  exact pos ⟨⟨⟨trivial, trivial⟩, hl⟩, (signs_of hg).1, ha⟩ (now _)

theorem drivesTo_some (s t : ByteArray) (hg : Good s t) (xs : List Int) (hx : xs.length = 2 ∧ impl_driveIn.At s t (rd xs 0) (rd xs 1)) : Ev (fun k => impl_drivesTo.f k s t xs) (impl_distancesBy.tab t.size s.size (impl_distancesBy.dist true s t (crn xs))) := by
  unfold impl_drivesTo.f impl_driveIn.f
  exact bindSome rfl (bind (dists_some s t hg xs hx.1 hx.2 true) (now _))

/-- How many are reached. -/
def Cnt (l : List Int) : Nat := l.countP fun x => decide (0 ≤ x)
theorem cnt_drop (l : List Int) (i : Nat) (h : i < l.length) : Cnt (l.drop i) = (if rd l (i : Int) ≥ 0 then 1 else 0) + Cnt (l.drop (i + 1)) := by
  rw [List.drop_eq_getElem_cons h, rd_lt l i h]
  unfold Cnt
  rw [List.countP_cons]
  by_cases c : l[i] ≥ 0
  · rw [if_pos c, if_pos (by simpa using c)]; omega
  · rw [if_neg c, if_neg (by simpa using c)]; omega
theorem owReached_l0 (l : List Int) (hl : l.length ≤ 1048576) : ∀ i : Nat, i ≤ l.length → ∀ c : Nat, c ≤ i → Ev (fun k => spec_owReached.l0 k c l l.length i) ((c + Cnt (l.drop i) : Nat) : Int) := by
  refine down l.length ?_ ?_
  · intro c hc
    refine succ ?_
    simp only [spec_owReached.l0]
    exact neg (by omega) (conv (now _) (by simp [Cnt]))
  · intro i hi ih c hc
    refine succ ?_
    simp only [spec_owReached.l0]
    rw [wnat (by omega), wnat (by omega)]
    have e := cnt_drop l i hi
    refine pos (by omega) (pos (by omega) (pos (by omega) ?_))
    by_cases q : rd l (i : Int) ≥ 0
    · rw [if_pos q] at e
      exact pos q (conv (ih (c + 1) (by omega)) (by rw [e]; omega))
    · rw [if_neg q] at e
      exact neg q (conv (ih c (by omega)) (by rw [e]; omega))
theorem reachedIn_l1 (rows : List (List Int)) (r : List Int) (hr : r.length ≤ 8) (x : Nat) (V : Int) : ∀ j : Nat, j ≤ r.length → ∀ c : Nat, c ≤ 1000 + j → Ev (fun k => impl_reachedIn.l0 k ((c + Cnt (r.drop j) : Nat) : Int) rows rows.length (wrap64 ((x : Int) + 1))) V → Ev (fun k => impl_reachedIn.l1 k c rows rows.length x r r.length j) V := by
  refine down r.length ?_ ?_
  · intro c hc h
    refine succ ?_
    simp only [impl_reachedIn.l1]
    rw [List.drop_length] at h
    exact neg (by omega) (by simpa [Cnt] using h)
  · intro j hj ih c hc h
    refine succ ?_
    simp only [impl_reachedIn.l1]
    rw [wnat (by omega), wnat (by omega)]
    have e := cnt_drop r j hj
    refine pos (by omega) (pos (by omega) (pos (by omega) ?_))
    by_cases q : rd r (j : Int) ≥ 0
    · rw [if_pos q] at e
      refine pos q (ih (c + 1) (by omega) ?_)
      rw [show c + 1 + Cnt (r.drop (j + 1)) = c + Cnt (r.drop j) by omega]
      exact h
    · rw [if_neg q] at e
      refine neg q (ih c (by omega) ?_)
      rw [show c + Cnt (r.drop (j + 1)) = c + Cnt (r.drop j) by omega]
      exact h
theorem reachedIn_f (rows : List (List Int)) (hn : rows.length ≤ 8) (hr : ∀ r ∈ rows, r.length ≤ 8) : Ev (fun k => impl_reachedIn.f k rows) (Cnt rows.flatten : Int) := by
  have key : ∀ x : Nat, x ≤ rows.length → ∀ c : Nat, c ≤ 8 * x → Ev (fun k => impl_reachedIn.l0 k c rows rows.length x) ((c + Cnt (rows.drop x).flatten : Nat) : Int) := by
    refine down rows.length ?_ ?_
    · intro c hc
      refine succ ?_
      simp only [impl_reachedIn.l0]
      exact neg (by omega) (conv (now _) (by simp [Cnt]))
    · intro x hx ih c hc
      refine succ ?_
      simp only [impl_reachedIn.l0]
      have hrow : rd_L1 rows (x : Int) = rows[x] := by
        unfold rd_L1
        rw [Int.toNat_natCast, List.getD_eq_getElem?_getD, List.getElem?_eq_getElem hx]
        rfl
      have hlen := hr rows[x] (List.getElem_mem hx)
      have hcl : Cnt rows[x] ≤ rows[x].length := List.countP_le_length
      rw [hrow]
      refine pos (by omega) (pos (by omega) (pos (by omega) (reachedIn_l1 rows rows[x] hlen x _ 0 (by omega) c (by omega) ?_)))
      rw [wnat (by omega), List.drop_zero]
      refine conv (ih (c + Cnt rows[x]) (by omega)) ?_
      rw [List.drop_eq_getElem_cons hx, List.flatten_cons]
      unfold Cnt
      rw [List.countP_append]
      omega
  unfold impl_reachedIn.f
  exact conv (key 0 (by omega) 0 (by omega)) (by simp)
theorem flat_tab (W H : Nat) (hH : 0 < H) (d : Nat × Nat → Int) : (impl_distancesBy.tab W H d).flatten = spec_owFar.flat W H d := by
  unfold impl_distancesBy.tab spec_owFar.flat
  induction W with
  | zero => simp
  | succ W ih =>
    rw [List.range_succ, List.map_append, List.flatten_append, ih, Nat.add_mul, Nat.one_mul, List.range_add, List.map_append]
    congr 1
    simp only [List.map_cons, List.map_nil, List.flatten_cons, List.flatten_nil, List.append_nil, List.map_map]
    refine List.map_congr_left (fun y hy => ?_)
    have hy := List.mem_range.1 hy
    simp only [Function.comp]
    rw [(spec_owFar.cd_div H W y hy).1, (spec_owFar.cd_div H W y hy).2]
/-- How many corners are reached from one, or reach it. -/
def Rch (back : Bool) (s t : ByteArray) (a : Nat × Nat) : Int := (Cnt (spec_owFar.flat t.size s.size (impl_distancesBy.dist back s t a)) : Int)
theorem owReached_f (s t : ByteArray) (hg : Good s t) (xs : List Int) (hx : xs.length = 2 ∧ impl_driveIn.At s t (rd xs 0) (rd xs 1)) : Ev (fun k => spec_owReached.f k s t xs) (Rch false s t (crn xs)) := by
  unfold spec_owReached.f
  have z1 := hg.1.1
  have z2 := hg.2.1
  have hm : t.size * s.size ≤ 64 := Nat.le_trans (Nat.mul_le_mul z2.2 z1.2) (by decide)
  refine bind (owFar_some s t hg xs hx.1 hx.2) ?_
  have h := owReached_l0 (spec_owFar.flat t.size s.size (impl_distancesBy.dist false s t (crn xs))) (by rw [flat_len]; omega) 0 (by omega) 0 (by omega)
  refine conv h ?_
  simp [Rch]
theorem reached_tab (s t : ByteArray) (hg : Good s t) (back : Bool) (a : Nat × Nat) : Ev (fun k => impl_reachedIn.f k (impl_distancesBy.tab t.size s.size (impl_distancesBy.dist back s t a))) (Rch back s t a) := by
  have z1 := hg.1.1
  have z2 := hg.2.1
  refine conv (reachedIn_f _ (by rw [tab_len]; omega) (fun r hr => ?_)) ?_
  · obtain ⟨x, -, rfl⟩ := List.mem_map.1 hr
    simp; omega
  · rw [flat_tab _ _ (by omega)]
    rfl

/-- A text with each byte turned by g. -/
def mapB (g : UInt8 → UInt8) (s : ByteArray) : ByteArray := ⟨(s.data.toList.map g).toArray⟩
def ge (u : UInt8) : UInt8 := if u = 101 then 119 else 101
def gn (u : UInt8) : UInt8 := if u = 110 then 115 else 110
theorem ba_ext {a b : ByteArray} (h : a.data.toList = b.data.toList) : a = b := by
  obtain ⟨a⟩ := a; obtain ⟨b⟩ := b
  simp only at h
  rw [Array.toList_inj.1 h]
theorem mapB_list (g : UInt8 → UInt8) (s : ByteArray) : (mapB g s).data.toList = s.data.toList.map g := rfl
theorem mapB_size (g : UInt8 → UInt8) (s : ByteArray) : (mapB g s).size = s.size := by
  show (s.data.toList.map g).toArray.size = s.data.size
  simp
theorem list_get (s : ByteArray) (i : Nat) (h : i < s.size) : s.data.toList[i]'(by rw [Array.length_toList]; exact h) = s[i] := rfl
theorem list_len (s : ByteArray) : s.data.toList.length = s.size := Array.length_toList
theorem bt_eq (s : ByteArray) (i : Nat) (h : i < s.size) (u : UInt8) : bt s (i : Int) = (u.toNat : Int) ↔ s.data.toList[i]'(by rw [list_len]; exact h) = u := by
  rw [bt_lt s i h, list_get s i h, ← UInt8.toNat_inj]
  omega
/-- The signs of ways, as bytes. -/
theorem way_bytes {s : ByteArray} {a b : UInt8} (h : Way s a.toNat b.toNat) : ∀ u ∈ s.data.toList, u = a ∨ u = b := by
  intro u hu
  obtain ⟨i, hi, rfl⟩ := List.getElem_of_mem hu
  have hi' : i < s.size := by rw [← list_len]; exact hi
  rcases h.2 i (by omega) hi' with g | g
  · exact .inl ((bt_eq s i hi' a).1 g)
  · exact .inr ((bt_eq s i hi' b).1 g)
/-- The text behind so many rounds. -/
def accB (g : UInt8 → UInt8) (s : ByteArray) (i : Nat) : ByteArray := ⟨((s.data.toList.take i).map g).toArray⟩
theorem accB_size (g : UInt8 → UInt8) (s : ByteArray) (i : Nat) (h : i ≤ s.size) : (accB g s i).size = i := by
  show ((s.data.toList.take i).map g).toArray.size = i
  rw [List.size_toArray, List.length_map, List.length_take, list_len]; omega
theorem accB_step (g : UInt8 → UInt8) (s : ByteArray) (i : Nat) (h : i < s.size) (u : UInt8) (hu : g (s.data.toList[i]'(by rw [list_len]; exact h)) = u) : accB g s i ++ (⟨#[u]⟩ : ByteArray) = accB g s (i + 1) := by
  refine ba_ext ?_
  rw [ByteArray.data_append, Array.toList_append]
  show (s.data.toList.take i).map g ++ [u] = (s.data.toList.take (i + 1)).map g
  rw [List.take_succ_eq_append_getElem (by rw [list_len]; exact h), List.map_append, List.map_cons, List.map_nil, hu]
theorem accB_zero (g : UInt8 → UInt8) (s : ByteArray) : accB g s 0 = ⟨#[]⟩ := by simp [accB]
theorem accB_end (g : UInt8 → UInt8) (s : ByteArray) : accB g s s.size = mapB g s := by
  unfold accB mapB
  rw [List.take_of_length_le (by rw [list_len]; omega)]
theorem owBack_l1 (s t acc : ByteArray) (ht : t.size ≤ 1048576) : ∀ i : Nat, i ≤ t.size → Ev (fun k => spec_owBack.l1 k i s t acc (accB gn t i)) (acc, mapB gn t) := by
  refine down t.size ?_ ?_
  · refine succ ?_
    simp only [spec_owBack.l1]
    exact neg (by omega) (conv (now _) (by rw [accB_end]))
  · intro i hi ih
    refine succ ?_
    simp only [spec_owBack.l1]
    rw [wnat (by omega)]
    have z := accB_size gn t i (by omega)
    refine pos (by omega) (pos (by omega) ?_)
    by_cases c : bt t i = 110
    · refine pos c (pos (by omega) ?_)
      rw [accB_step gn t i hi 115 (by rw [(bt_eq t i hi 110).1 c]; rfl)]
      exact ih
    · refine neg c (pos (by omega) ?_)
      rw [accB_step gn t i hi 110 (by unfold gn; rw [if_neg (fun h => c ((bt_eq t i hi 110).2 h))])]
      exact ih
theorem owBack_l0 (s t : ByteArray) (hs : s.size ≤ 1048576) (ht : t.size ≤ 1048576) : ∀ i : Nat, i ≤ s.size → Ev (fun k => spec_owBack.l0 k i s t (accB ge s i) ⟨#[]⟩) (mapB ge s, mapB gn t) := by
  refine down s.size ?_ ?_
  · refine succ ?_
    simp only [spec_owBack.l0]
    refine neg (by omega) ?_
    rw [accB_end]
    have := owBack_l1 s t (mapB ge s) ht 0 (by omega)
    rw [accB_zero] at this
    exact this
  · intro i hi ih
    refine succ ?_
    simp only [spec_owBack.l0]
    rw [wnat (by omega)]
    have z := accB_size ge s i (by omega)
    refine pos (by omega) (pos (by omega) ?_)
    by_cases c : bt s i = 101
    · refine pos c (pos (by omega) ?_)
      rw [accB_step ge s i hi 119 (by rw [(bt_eq s i hi 101).1 c]; rfl)]
      exact ih
    · refine neg c (pos (by omega) ?_)
      rw [accB_step ge s i hi 101 (by unfold ge; rw [if_neg (fun h => c ((bt_eq s i hi 101).2 h))])]
      exact ih
theorem owBack_f (s t : ByteArray) (hs : s.size ≤ 1048576) (ht : t.size ≤ 1048576) : Ev (fun k => spec_owBack.f k s t) (mapB ge s, mapB gn t) := by
  unfold spec_owBack.f
  have := owBack_l0 s t hs ht 0 (by omega)
  rw [accB_zero] at this
  exact this

theorem bt_mapB (g : UInt8 → UInt8) (s : ByteArray) (i : Nat) (h : i < s.size) : bt (mapB g s) (i : Int) = ((g (s[i]'h)).toNat : Int) := by
  have h' : i < (mapB g s).size := by rw [mapB_size]; exact h
  rw [bt_lt _ i h', ← list_get _ i h']
  simp only [mapB_list, List.getElem_map]
  rw [list_get s i h]
theorem bt_ge (s : ByteArray) (i : Nat) (h : i < s.size) : bt (mapB ge s) (i : Int) = if bt s i = 101 then 119 else 101 := by
  rw [bt_mapB ge s i h, bt_lt s i h]
  unfold ge
  by_cases c : s[i] = 101
  · rw [if_pos c, if_pos (by rw [c]; rfl)]; rfl
  · have hne : ¬ ((s[i].toNat : Int) = 101) := fun e => by
      have e2 : s[i].toNat = 101 := by omega
      exact c (UInt8.toNat_inj.1 e2)
    rw [if_neg c, if_neg hne]; rfl
theorem bt_gn (s : ByteArray) (i : Nat) (h : i < s.size) : bt (mapB gn s) (i : Int) = if bt s i = 110 then 115 else 110 := by
  rw [bt_mapB gn s i h, bt_lt s i h]
  unfold gn
  by_cases c : s[i] = 110
  · rw [if_pos c, if_pos (by rw [c]; rfl)]; rfl
  · have hne : ¬ ((s[i].toNat : Int) = 110) := fun e => by
      have e2 : s[i].toNat = 110 := by omega
      exact c (UInt8.toNat_inj.1 e2)
    rw [if_neg c, if_neg hne]; rfl
theorem good_back {s t : ByteArray} (h : Good s t) : Good (mapB ge s) (mapB gn t) := by
  refine ⟨⟨by rw [mapB_size]; exact h.1.1, fun j _ hj => ?_⟩, by rw [mapB_size]; exact h.2.1, fun j _ hj => ?_⟩
  · rw [mapB_size] at hj
    rw [bt_ge s j hj]
    split
    · exact .inr rfl
    · exact .inl rfl
  · rw [mapB_size] at hj
    rw [bt_gn t j hj]
    split
    · exact .inr rfl
    · exact .inl rfl
theorem back_can (s t : ByteArray) (hg : Good s t) (x y n : Nat) (hn : n < 4) (hx : x < t.size) (hy : y < s.size) (hin : (0 ≤ (x : Int) + impl_driveIn.dx n ∧ (x : Int) + impl_driveIn.dx n ≤ (t.size : Int) - 1) ∧ (0 ≤ (y : Int) + impl_driveIn.dy n ∧ (y : Int) + impl_driveIn.dy n ≤ (s.size : Int) - 1)) :
    impl_driveIn.can (mapB ge s) (mapB gn t) x y n = impl_driveIn.can s t ((x : Int) + impl_driveIn.dx n) ((y : Int) + impl_driveIn.dy n) (3 - n) := by
  have hS := hg.1.2 y (Nat.zero_le _) hy
  have hT := hg.2.2 x (Nat.zero_le _) hx
  have bS := bt_ge s y hy
  have bT := bt_gn t x hx
  have hU : bt t ((x : Int) + impl_driveIn.dx n) = 110 ∨ bt t ((x : Int) + impl_driveIn.dx n) = 115 := by
    obtain ⟨u, hu⟩ := Int.eq_ofNat_of_zero_le hin.1.1
    rw [hu]
    exact hg.2.2 u (Nat.zero_le _) (by have := hin.1.2; omega)
  have hV : bt s ((y : Int) + impl_driveIn.dy n) = 101 ∨ bt s ((y : Int) + impl_driveIn.dy n) = 119 := by
    obtain ⟨u, hu⟩ := Int.eq_ofNat_of_zero_le hin.2.1
    rw [hu]
    exact hg.1.2 u (Nat.zero_le _) (by have := hin.2.2; omega)
  obtain ⟨d1, d2⟩ := dx_turn n hn
  unfold impl_driveIn.can
  rw [mapB_size, mapB_size, decide_eq_true hin, d1, d2, decide_eq_true (show (0 ≤ (x : Int) + impl_driveIn.dx n + -impl_driveIn.dx n ∧ (x : Int) + impl_driveIn.dx n + -impl_driveIn.dx n ≤ (t.size : Int) - 1) ∧ (0 ≤ (y : Int) + impl_driveIn.dy n + -impl_driveIn.dy n ∧ (y : Int) + impl_driveIn.dy n + -impl_driveIn.dy n ≤ (s.size : Int) - 1) by omega), bS, bT]
  have c : n = 0 ∨ n = 1 ∨ n = 2 ∨ n = 3 := by omega
  rcases c with rfl | rfl | rfl | rfl
  · simp only [impl_driveIn.dx, impl_driveIn.dy, if_true, Int.add_zero, show (0 : Nat) ≠ 1 by decide, show (0 : Nat) ≠ 2 by decide, if_false] at hU hV ⊢
    rcases hS with a | a <;> rcases hT with b | b <;> rcases hU with e | e <;> simp [impl_driveIn.sg, a, b, e]
  · simp only [impl_driveIn.dx, impl_driveIn.dy, if_true, Int.add_zero, show (1 : Nat) ≠ 0 by decide, show (1 : Nat) ≠ 3 by decide, if_false] at hU hV ⊢
    rcases hS with a | a <;> rcases hT with b | b <;> rcases hV with e | e <;> simp [impl_driveIn.sg, a, b, e]
  · simp only [impl_driveIn.dx, impl_driveIn.dy, if_true, Int.add_zero, show (2 : Nat) ≠ 0 by decide, show (2 : Nat) ≠ 3 by decide, show (2 : Nat) ≠ 1 by decide, if_false] at hU hV ⊢
    rcases hS with a | a <;> rcases hT with b | b <;> rcases hV with e | e <;> simp [impl_driveIn.sg, a, b, e]
  · simp only [impl_driveIn.dx, impl_driveIn.dy, if_true, Int.add_zero, show (3 : Nat) ≠ 0 by decide, show (3 : Nat) ≠ 1 by decide, show (3 : Nat) ≠ 2 by decide, if_false] at hU hV ⊢
    rcases hS with a | a <;> rcases hT with b | b <;> rcases hU with e | e <;> simp [impl_driveIn.sg, a, b, e]
theorem back_stp (s t : ByteArray) (hg : Good s t) (x : Nat × Nat) (n : Nat) (hn : n < 4) (hx : InC s t x) : impl_distancesBy.stp false (mapB ge s) (mapB gn t) x n = impl_distancesBy.stp true s t x n := by
  unfold impl_distancesBy.stp
  rw [mapB_size, mapB_size]
  by_cases hin : (0 ≤ (x.1 : Int) + impl_driveIn.dx n ∧ (x.1 : Int) + impl_driveIn.dx n ≤ (t.size : Int) - 1) ∧ (0 ≤ (x.2 : Int) + impl_driveIn.dy n ∧ (x.2 : Int) + impl_driveIn.dy n ≤ (s.size : Int) - 1)
  · rw [if_neg (show ¬ (false = true) by simp), back_can s t hg x.1 x.2 n hn hx.1 hx.2 hin, if_pos (show true = true from rfl)]
  · rw [if_neg (fun z => hin z.1), if_neg (fun z => hin z.1)]
/-- Distances in turned ways are those to a corner. -/
theorem dist_back (s t : ByteArray) (hg : Good s t) (a : Nat × Nat) (ha : InC s t a) : impl_distancesBy.dist false (mapB ge s) (mapB gn t) a = impl_distancesBy.dist true s t a := by
  have z1 := hg.1.1
  have z2 := hg.2.1
  have hb := good_back hg
  have e : ∀ p, InC (mapB ge s) (mapB gn t) p ↔ InC s t p := fun p => by unfold InC; rw [mapB_size, mapB_size]
  obtain ⟨h1, h2, -⟩ := far_ex false (mapB ge s) (mapB gn t) (by rw [mapB_size]; omega) (by rw [mapB_size]; omega) a ((e a).2 ha)
  obtain ⟨k1, k2, -⟩ := far_ex true s t (by omega) (by omega) a ha
  refine (far_in h1 (InC s t) (fun c hc => (e c).1 (h2 c hc))).uniq ((far_in k1 _ k2).congr (fun x y => ?_))
  constructor
  · rintro ⟨hx, hy, n, hn, hs⟩
    exact ⟨hx, hy, n, hn, by rw [back_stp s t hg x n hn hx]; exact hs⟩
  · rintro ⟨hx, hy, n, hn, hs⟩
    exact ⟨hx, hy, n, hn, by rw [← back_stp s t hg x n hn hx]; exact hs⟩
theorem zz (s t : ByteArray) (hg : Good s t) : ([0, 0] : List Int).length = 2 ∧ impl_driveIn.At s t (rd [0, 0] 0) (rd [0, 0] 1) := by
  have z1 := hg.1.1
  have z2 := hg.2.1
  refine ⟨rfl, ?_⟩
  show impl_driveIn.At s t 0 0
  unfold impl_driveIn.At
  omega
/-- Whether ways are whole. -/
def Whole (s t : ByteArray) : Bool := decide (Rch false s t (0, 0) = ((t.size * s.size : Nat) : Int)) && decide (Rch true s t (0, 0) = ((t.size * s.size : Nat) : Int))
theorem owWhole_f (s t : ByteArray) (hg : Good s t) : Ev (fun k => spec_owWhole.f k s t) (Whole s t) := by
  have z1 := hg.1.1
  have z2 := hg.2.1
  have hm : t.size * s.size ≤ 64 := Nat.le_trans (Nat.mul_le_mul z2.2 z1.2) (by decide)
  have em : wrap64 ((s.size : Int) * (t.size : Int)) = ((t.size * s.size : Nat) : Int) := by
    rw [← Int.natCast_mul, Nat.mul_comm, w64] <;> omega
  unfold spec_owWhole.f Whole
  refine bindSome rfl (bind (owReached_f s t hg [0, 0] (zz s t hg)) ?_)
  rw [em]
  have e0 : crn [0, 0] = (0, 0) := rfl
  rw [e0]
  by_cases c : Rch false s t (0, 0) = ((t.size * s.size : Nat) : Int)
  · refine pos c (bind (owBack_f s t (by omega) (by omega)) (bind (owReached_f _ _ (good_back hg) [0, 0] (zz _ _ (good_back hg))) (conv (now _) ?_)))
    rw [e0, decide_eq_true c, Bool.true_and]
    unfold Rch
    rw [dist_back s t hg (0, 0) ⟨by omega, by omega⟩, mapB_size, mapB_size]
    rfl
  · exact neg c (conv (now _) (by rw [decide_eq_false c]; rfl))
theorem isWhole_f (s t : ByteArray) (hg : Good s t) : Ev (fun k => impl_isWholeWays.f k s t) (Whole s t) := by
  have z1 := hg.1.1
  have z2 := hg.2.1
  have hm : t.size * s.size ≤ 64 := Nat.le_trans (Nat.mul_le_mul z2.2 z1.2) (by decide)
  have em : wrap64 ((t.size : Int) * (s.size : Int)) = ((t.size * s.size : Nat) : Int) := by
    rw [← Int.natCast_mul, w64] <;> omega
  unfold impl_isWholeWays.f Whole impl_driveIn.f
  have e0 : crn [0, 0] = (0, 0) := rfl
  have h1 := drivesTo_some s t hg [0, 0] (zz s t hg)
  have h2 := dists_some s t hg [0, 0] (zz s t hg).1 (zz s t hg).2 false
  rw [e0] at h1 h2
  refine bindSome rfl (bind h1 (bind (reached_tab s t hg true (0, 0)) ?_))
  rw [em]
  by_cases c : Rch true s t (0, 0) = ((t.size * s.size : Nat) : Int)
  · refine pos c (bindSome rfl (bind h2 (bind (reached_tab s t hg false (0, 0)) (conv (now _) ?_))))
    rw [decide_eq_true c, Bool.and_true]
    rfl
  · exact neg c (conv (now _) (by rw [decide_eq_false c, Bool.and_false]))

/-- The first greatest: from a place on. -/
def fo (d : Nat → Int) : Nat → Nat → Option Nat × Int → Option Nat × Int
  | 0, _, st => st
  | r + 1, i, st => fo d r (i + 1) (if d i > st.2 then (some i, d i) else st)
theorem fo_add (d : Nat → Int) : ∀ (a b i : Nat) (st : Option Nat × Int), fo d (a + b) i st = fo d b (i + a) (fo d a i st) := by
  intro a
  induction a with
  | zero => intro b i st; simp [fo]
  | succ a ih =>
    intro b i st
    rw [show a + 1 + b = (a + b) + 1 by omega]
    simp only [fo]
    rw [ih, show i + 1 + a = i + (a + 1) by omega]
theorem fo_ge (d : Nat → Int) : ∀ (r i : Nat) (st : Option Nat × Int), st.2 ≤ (fo d r i st).2 ∧ (∀ j, i ≤ j → j < i + r → d j ≤ (fo d r i st).2) ∧ ((fo d r i st).1 = none → fo d r i st = st) := by
  intro r
  induction r with
  | zero => intro i st; exact ⟨Int.le_refl _, fun j h1 h2 => by omega, fun _ => rfl⟩
  | succ r ih =>
    intro i st
    simp only [fo]
    by_cases c : d i > st.2
    · rw [if_pos c]
      obtain ⟨h1, h2, h3⟩ := ih (i + 1) (some i, d i)
      refine ⟨by simp only at h1; omega, fun j hj hj2 => ?_, fun e => ?_⟩
      · by_cases f : j = i
        · subst f; exact h1
        · exact h2 j (by omega) (by omega)
      · have z := h3 e
        rw [z] at e
        cases e
    · rw [if_neg c]
      obtain ⟨h1, h2, h3⟩ := ih (i + 1) st
      refine ⟨h1, fun j hj hj2 => ?_, h3⟩
      by_cases f : j = i
      · subst f; omega
      · exact h2 j (by omega) (by omega)
/-- From a greater bound the same is found, or nothing. -/
theorem fo_lim (d : Nat → Int) (L : Int) : ∀ (r i : Nat) (o : Option Nat) (m : Int) (sL : Option Nat × Int), (m ≤ L ∧ sL = (none, L)) ∨ (L < m ∧ sL = (o, m)) → (((fo d r i (o, m)).2 ≤ L ∧ fo d r i sL = (none, L)) ∨ (L < (fo d r i (o, m)).2 ∧ fo d r i sL = fo d r i (o, m))) := by
  intro r
  induction r with
  | zero => intro i o m sL h; exact h
  | succ r ih =>
    intro i o m sL h
    simp only [fo]
    rcases h with ⟨h, rfl⟩ | ⟨h, rfl⟩
    · by_cases c : d i > m
      · rw [if_pos c]
        by_cases e : d i > L
        · rw [if_pos e]
          exact ih (i + 1) (some i) (d i) _ (.inr ⟨e, rfl⟩)
        · rw [if_neg e]
          exact ih (i + 1) (some i) (d i) _ (.inl ⟨by omega, rfl⟩)
      · rw [if_neg c, if_neg (show ¬ d i > L by omega)]
        exact ih (i + 1) o m _ (.inl ⟨h, rfl⟩)
    · by_cases c : d i > m
      · rw [if_pos c]
        exact ih (i + 1) (some i) (d i) _ (.inr ⟨by omega, rfl⟩)
      · rw [if_neg c]
        exact ih (i + 1) o m _ (.inr ⟨h, rfl⟩)
/-- The first two with the greatest: one more first place. -/
def og1 (dd : Nat → Nat → Int) (n at_ : Nat) (st : Option (Nat × Nat) × Int) : Option (Nat × Nat) × Int :=
  match (fo (dd at_) n 0 (none, st.2)).1 with
  | some j => (some (at_, j), (fo (dd at_) n 0 (none, st.2)).2)
  | none => st
def og (dd : Nat → Nat → Int) (n : Nat) : Nat → Nat → Option (Nat × Nat) × Int → Option (Nat × Nat) × Int
  | 0, _, st => st
  | r + 1, a, st => og dd n r (a + 1) (og1 dd n a st)
theorem og1_ge (dd : Nat → Nat → Int) (n a : Nat) (st : Option (Nat × Nat) × Int) : st.2 ≤ (og1 dd n a st).2 ∧ (∀ j, j < n → dd a j ≤ (og1 dd n a st).2) ∧ ((og1 dd n a st).1 = none → og1 dd n a st = st) := by
  obtain ⟨h1, h2, h3⟩ := fo_ge (dd a) n 0 (none, st.2)
  unfold og1
  cases e : (fo (dd a) n 0 (none, st.2)).1 with
  | none =>
    rw [h3 e] at h2
    exact ⟨Int.le_refl _, fun j hj => h2 j (by omega) (by omega), fun _ => rfl⟩
  | some j =>
    exact ⟨h1, fun j hj => h2 j (by omega) (by omega), fun e => by cases e⟩
theorem og_ge (dd : Nat → Nat → Int) (n : Nat) : ∀ (r a : Nat) (st : Option (Nat × Nat) × Int), st.2 ≤ (og dd n r a st).2 ∧ ((og dd n r a st).1 = none → og dd n r a st = st) := by
  intro r
  induction r with
  | zero => intro a st; exact ⟨Int.le_refl _, fun _ => rfl⟩
  | succ r ih =>
    intro a st
    simp only [og]
    obtain ⟨h1, h2⟩ := ih (a + 1) (og1 dd n a st)
    obtain ⟨k1, -, k3⟩ := og1_ge dd n a st
    refine ⟨by omega, fun e => ?_⟩
    have z := h2 e
    rw [z] at e
    rw [z]
    exact k3 e
/-- A number told as a corner. -/
def pr (H n : Nat) : List Int := [((n / H : Nat) : Int), ((n % H : Nat) : Int)]
def la (H : Nat) (o : Option (Nat × Nat)) : List Int := match o with | none => [] | some p => pr H p.1
def lb (H : Nat) (o : Option (Nat × Nat)) : List Int := match o with | none => [] | some p => pr H p.2
theorem tdiv_nat (a b : Nat) (h : a / b ≤ 1048576) : wrap64 (Int.tdiv (a : Int) (b : Int)) = ((a / b : Nat) : Int) := by
  rw [← Int.ofNat_tdiv]
  exact wnat0 (Nat.le_trans h (by decide))
theorem tmod_nat (a b : Nat) : Int.tmod (a : Int) (b : Int) = ((a % b : Nat) : Int) := (Int.ofNat_tmod a b).symm
/-- The distances by numbers. -/
def dd (s t : ByteArray) (a j : Nat) : Int := impl_distancesBy.dist false s t (a / s.size, a % s.size) (j / s.size, j % s.size)
theorem div_lt (W H a : Nat) (h : a < W * H) : a / H < W ∧ a % H < H := by
  have hH : 0 < H := Nat.pos_of_ne_zero (fun e => by subst e; simp at h)
  exact ⟨Nat.div_lt_of_lt_mul (by rw [Nat.mul_comm]; exact h), Nat.mod_lt _ hH⟩
theorem LongestDrive_sl1 (s t : ByteArray) (H n a from_ to_ : Nat) (hn : n ≤ 64) (l : List Int) (d : Nat → Int) (hl : l.length = n) (hd : ∀ j, j < n → rd l (j : Int) = d j) (V : List Int × List Int × Int × Bool) : ∀ j : Nat, j ≤ n → ∀ (o : Option Nat) (m : Int),
    Ev (fun k => spec_LongestDrive.l0 k H ((((fo d (n - j) j (o, m)).1).elim from_ (fun _ => a) : Nat) : Int) ((((fo d (n - j) j (o, m)).1).elim to_ id : Nat) : Int) (fo d (n - j) j (o, m)).2 (wrap64 ((a : Int) + 1)) s t) V →
    Ev (fun k => spec_LongestDrive.l1 k H ((o.elim from_ (fun _ => a) : Nat) : Int) ((o.elim to_ id : Nat) : Int) m a l n j s t) V := by
  refine down n ?_ ?_
  · intro o m h
    refine succ ?_
    simp only [spec_LongestDrive.l1]
    rw [Nat.sub_self] at h
    exact neg (by omega) h
  · intro j hj ih o m h
    refine succ ?_
    simp only [spec_LongestDrive.l1]
    rw [wnat (by omega), hd j hj]
    rw [show n - j = (n - (j + 1)) + 1 by omega] at h
    simp only [fo] at h
    refine pos (by omega) (pos (by omega) (pos (by omega) ?_))
    by_cases c : d j > m
    · rw [if_pos c] at h
      exact pos c (ih (some j) (d j) h)
    · rw [if_neg c] at h
      exact neg c (ih o m h)
theorem LongestDrive_sl0 (s t : ByteArray) (hg : Good s t) : ∀ a : Nat, a ≤ t.size * s.size → ∀ (st : Option (Nat × Nat) × Int), (∀ p, st.1 = some p → p.1 < t.size * s.size ∧ p.2 < t.size * s.size) →
    Ev (fun k => spec_LongestDrive.l0 k s.size ((st.1.elim 0 Prod.fst : Nat) : Int) ((st.1.elim 0 Prod.snd : Nat) : Int) st.2 a s t) (pr s.size ((og (dd s t) (t.size * s.size) (t.size * s.size - a) a st).1.elim 0 Prod.fst), pr s.size ((og (dd s t) (t.size * s.size) (t.size * s.size - a) a st).1.elim 0 Prod.snd), (og (dd s t) (t.size * s.size) (t.size * s.size - a) a st).2, true) := by
  have z1 := hg.1.1
  have z2 := hg.2.1
  have hm : t.size * s.size ≤ 64 := Nat.le_trans (Nat.mul_le_mul z2.2 z1.2) (by decide)
  have em : wrap64 ((s.size : Int) * (t.size : Int)) = ((t.size * s.size : Nat) : Int) := by
    rw [← Int.natCast_mul, Nat.mul_comm, w64] <;> omega
  have ds : ∀ a : Nat, a ≤ 64 → a / s.size ≤ 1048576 := fun a h => by
    have := Nat.div_le_self a s.size
    omega
  refine down (t.size * s.size) ?_ ?_
  · intro st hst
    refine succ ?_
    simp only [spec_LongestDrive.l0]
    rw [em, Nat.sub_self]
    simp only [og]
    have b1 : st.1.elim 0 Prod.fst ≤ 64 := by
      cases e : st.1 with
      | none => simp
      | some p => have := (hst p e).1; simp; omega
    have b2 : st.1.elim 0 Prod.snd ≤ 64 := by
      cases e : st.1 with
      | none => simp
      | some p => have := (hst p e).2; simp; omega
    refine neg (by omega) (neg (by omega) (conv (now _) ?_))
    rw [tdiv_nat _ _ (ds _ b1), tdiv_nat _ _ (ds _ b2), tmod_nat, tmod_nat]
    rfl
  · intro a ha ih st hst
    refine succ ?_
    simp only [spec_LongestDrive.l0]
    rw [em]
    have ha2 := div_lt t.size s.size a ha
    refine pos (by omega) (neg (by omega) ?_)
    rw [tdiv_nat a s.size (ds a (by omega)), tmod_nat]
    have hat : impl_driveIn.At s t (rd (pr s.size a) 0) (rd (pr s.size a) 1) := by
      show impl_driveIn.At s t ((a / s.size : Nat) : Int) ((a % s.size : Nat) : Int)
      exact ⟨⟨Int.natCast_nonneg _, Int.ofNat_lt.2 ha2.1⟩, Int.natCast_nonneg _, Int.ofNat_lt.2 ha2.2⟩
    refine bind (owFar_some s t hg (pr s.size a) rfl hat) ?_
    have ec : crn (pr s.size a) = (a / s.size, a % s.size) := by
      show (((a / s.size : Nat) : Int).toNat, ((a % s.size : Nat) : Int).toNat) = _
      rw [Int.toNat_natCast, Int.toNat_natCast]
    rw [ec, flat_len]
    refine LongestDrive_sl1 s t s.size (t.size * s.size) a (st.1.elim 0 Prod.fst) (st.1.elim 0 Prod.snd) hm _ (dd s t a) (flat_len _ _ _) (fun j hj => ?_) _ 0 (by omega) none st.2 ?_
    · rw [rd_lt _ _ (by rw [flat_len]; exact hj)]
      simp [spec_owFar.flat, dd]
    · rw [Nat.sub_zero, wnat (by omega), show t.size * s.size - a = (t.size * s.size - (a + 1)) + 1 by omega]
      simp only [og]
      have key := ih (og1 (dd s t) (t.size * s.size) a st) (fun p hp => ?_)
      · refine Ev.congr (fun k => ?_) key
        unfold og1
        cases e : (fo (dd s t a) (t.size * s.size) 0 (none, st.2)).1 with
        | none =>
          have z := (fo_ge (dd s t a) (t.size * s.size) 0 (none, st.2)).2.2 e
          rw [z]
          rfl
        | some j => rfl
      · unfold og1 at hp
        cases e : (fo (dd s t a) (t.size * s.size) 0 (none, st.2)).1 with
        | none => rw [e] at hp; exact hst p hp
        | some j =>
          rw [e] at hp
          injection hp with hp
          subst hp
          refine ⟨ha, ?_⟩
          have key2 : ∀ (r i : Nat) (st : Option Nat × Int), i + r ≤ t.size * s.size → (∀ j, st.1 = some j → j < t.size * s.size) → ∀ j, (fo (dd s t a) r i st).1 = some j → j < t.size * s.size := by
            intro r
            induction r with
            | zero => intro i st _ h; exact h
            | succ r ih =>
              intro i st hi h
              simp only [fo]
              refine ih (i + 1) _ (by omega) (fun j hj => ?_)
              split at hj
              · injection hj with hj; omega
              · exact h j hj
          exact key2 _ 0 (none, st.2) (by omega) (fun j hj => by cases hj) j e
theorem og_add (dd : Nat → Nat → Int) (n : Nat) : ∀ (a b i : Nat) (st : Option (Nat × Nat) × Int), og dd n (a + b) i st = og dd n b (i + a) (og dd n a i st) := by
  intro a
  induction a with
  | zero => intro b i st; simp [og]
  | succ a ih =>
    intro b i st
    rw [show a + 1 + b = (a + b) + 1 by omega]
    simp only [og]
    rw [ih, show i + 1 + a = i + (a + 1) by omega]
def lo (H : Nat) (o : Option Nat) : List Int := match o with | none => [] | some j => pr H j
theorem pr_at (H x y : Nat) (hy : y < H) : pr H (x * H + y) = [(x : Int), (y : Int)] := by
  unfold pr
  rw [(spec_owFar.cd_div H x y hy).1, (spec_owFar.cd_div H x y hy).2]
theorem farthest_l1 (rows : List (List Int)) (r : List Int) (H x : Nat) (hr : r.length = H) (hH : H ≤ 8) (d : Nat → Int) (hd : ∀ y, y < H → rd r (y : Int) = d (x * H + y)) (V : List Int × Int) : ∀ y : Nat, y ≤ H → ∀ (o : Option Nat) (m : Int),
    Ev (fun k => impl_farthest.l0 k (lo H (fo d (H - y) (x * H + y) (o, m)).1) (fo d (H - y) (x * H + y) (o, m)).2 rows rows.length (wrap64 ((x : Int) + 1))) V → Ev (fun k => impl_farthest.l1 k (lo H o) m x rows rows.length x r H y) V := by
  refine down H ?_ ?_
  · intro o m h
    refine succ ?_
    simp only [impl_farthest.l1]
    rw [Nat.sub_self] at h
    exact neg (by omega) h
  · intro y hy ih o m h
    refine succ ?_
    simp only [impl_farthest.l1]
    rw [wnat (by omega), hd y hy]
    rw [show H - y = (H - (y + 1)) + 1 by omega] at h
    simp only [fo] at h
    refine pos (by omega) (pos (by omega) (pos (by omega) ?_))
    by_cases c : d (x * H + y) > m
    · rw [if_pos c] at h
      refine pos c ?_
      have z := ih (some (x * H + y)) (d (x * H + y)) h
      rw [show lo H (some (x * H + y)) = [(x : Int), (y : Int)] from pr_at H x y hy] at z
      exact z
    · rw [if_neg c] at h
      exact neg c (ih o m h)
theorem farthest_f (W H : Nat) (hW : W ≤ 8) (hH : H ≤ 8) (f : Nat × Nat → Int) (d : Nat → Int) (hf : ∀ x y, x < W → y < H → f (x, y) = d (x * H + y)) : Ev (fun k => impl_farthest.f k (impl_distancesBy.tab W H f)) (lo H (fo d (W * H) 0 (none, -1)).1, (fo d (W * H) 0 (none, -1)).2) := by
  have key : ∀ x : Nat, x ≤ W → ∀ (o : Option Nat) (m : Int), Ev (fun k => impl_farthest.l0 k (lo H o) m (impl_distancesBy.tab W H f) (impl_distancesBy.tab W H f).length x) (lo H (fo d ((W - x) * H) (x * H) (o, m)).1, (fo d ((W - x) * H) (x * H) (o, m)).2) := by
    refine down W ?_ ?_
    · intro o m
      refine succ ?_
      simp only [impl_farthest.l0]
      rw [tab_len, Nat.sub_self, Nat.zero_mul]
      exact neg (by omega) (now _)
    · intro x hx ih o m
      refine succ ?_
      simp only [impl_farthest.l0]
      rw [tab_row W H f x hx]
      refine pos (by rw [tab_len]; omega) (pos (by omega) (pos (by rw [tab_len]; omega) ?_))
      have hlen : ((List.range H).map fun y => f (x, y)).length = H := by simp
      rw [hlen]
      refine farthest_l1 _ _ H x hlen hH d (fun y hy => ?_) _ 0 (by omega) o m ?_
      · rw [rd_lt _ _ (by rw [hlen]; exact hy)]
        simp [hf x y hx hy]
      · rw [wnat (by omega), Nat.sub_zero, Nat.add_zero]
        refine conv (ih _ _) ?_
        rw [show (W - x) * H = H + (W - (x + 1)) * H by rw [show W - x = (W - (x + 1)) + 1 by omega, Nat.add_mul, Nat.one_mul, Nat.add_comm], fo_add, show (x + 1) * H = x * H + H by rw [Nat.add_mul, Nat.one_mul]]
  unfold impl_farthest.f
  have := key 0 (by omega) none (-1)
  rw [Nat.sub_zero, Nat.zero_mul] at this
  exact this
theorem LongestDrive_il1 (s t : ByteArray) (hg : Good s t) (x : Nat) (hx : x < t.size) (V : List Int × List Int × Int × Bool) : ∀ y : Nat, y ≤ s.size → ∀ (st : Option (Nat × Nat) × Int), -1 ≤ st.2 →
    Ev (fun k => impl_LongestDrive.l0 k (la s.size (og (dd s t) (t.size * s.size) (s.size - y) (x * s.size + y) st).1) (lb s.size (og (dd s t) (t.size * s.size) (s.size - y) (x * s.size + y) st).1) (og (dd s t) (t.size * s.size) (s.size - y) (x * s.size + y) st).2 t.size (wrap64 ((x : Int) + 1)) s t) V →
    Ev (fun k => impl_LongestDrive.l1 k (la s.size st.1) (lb s.size st.1) st.2 x t.size x s.size y s t) V := by
  have z1 := hg.1.1
  have z2 := hg.2.1
  refine down s.size ?_ ?_
  · intro st hst h
    refine succ ?_
    simp only [impl_LongestDrive.l1]
    rw [Nat.sub_self] at h
    exact neg (by omega) h
  · intro y hy ih st hst h
    refine succ ?_
    simp only [impl_LongestDrive.l1, impl_driveIn.f]
    rw [wnat (by omega)]
    have hat : impl_driveIn.At s t (rd [(x : Int), (y : Int)] 0) (rd [(x : Int), (y : Int)] 1) := by
      show impl_driveIn.At s t (x : Int) (y : Int)
      unfold impl_driveIn.At
      omega
    have ec : crn [(x : Int), (y : Int)] = (x, y) := by
      show ((x : Int).toNat, (y : Int).toNat) = _
      rw [Int.toNat_natCast, Int.toNat_natCast]
    have h1 := dists_some s t hg [(x : Int), (y : Int)] rfl hat false
    rw [ec] at h1
    have h2 := farthest_f t.size s.size z2.2 z1.2 (impl_distancesBy.dist false s t (x, y)) (dd s t (x * s.size + y)) (fun u v hu hv => by
      unfold dd
      rw [(spec_owFar.cd_div s.size x y hy).1, (spec_owFar.cd_div s.size x y hy).2, (spec_owFar.cd_div s.size u v hv).1, (spec_owFar.cd_div s.size u v hv).2])
    refine pos (by omega) (bindSome rfl (bindSome rfl (bind h1 (bind h2 ?_))))
    rw [show s.size - y = (s.size - (y + 1)) + 1 by omega] at h
    simp only [og] at h
    have hlim := fo_lim (dd s t (x * s.size + y)) st.2 (t.size * s.size) 0 none (-1) (none, st.2) (.inl ⟨hst, rfl⟩)
    have hge := (og1_ge (dd s t) (t.size * s.size) (x * s.size + y) st).1
    rcases hlim with ⟨c, e⟩ | ⟨c, e⟩
    · have e1 : og1 (dd s t) (t.size * s.size) (x * s.size + y) st = st := by unfold og1; rw [e]
      rw [e1] at h
      exact neg (by simp only; omega) (ih st hst h)
    · obtain ⟨j, hj⟩ : ∃ j, (fo (dd s t (x * s.size + y)) (t.size * s.size) 0 (none, -1)).1 = some j := by
        cases q : (fo (dd s t (x * s.size + y)) (t.size * s.size) 0 (none, -1)).1 with
        | some j => exact ⟨j, rfl⟩
        | none =>
          have z := (fo_ge (dd s t (x * s.size + y)) (t.size * s.size) 0 (none, -1)).2.2 q
          rw [z] at c
          simp only at c
          omega
      have e1 : og1 (dd s t) (t.size * s.size) (x * s.size + y) st = (some (x * s.size + y, j), (fo (dd s t (x * s.size + y)) (t.size * s.size) 0 (none, -1)).2) := by unfold og1; rw [e, hj]
      rw [e1] at h hge
      have z := ih _ (by simp only at hge ⊢; omega) h
      rw [show la s.size (some (x * s.size + y, j)) = [(x : Int), (y : Int)] from pr_at s.size x y hy] at z
      rw [hj]
      exact pos (by simp only; omega) z
theorem LongestDrive_il0 (s t : ByteArray) (hg : Good s t) : ∀ x : Nat, x ≤ t.size → ∀ (st : Option (Nat × Nat) × Int), -1 ≤ st.2 →
    Ev (fun k => impl_LongestDrive.l0 k (la s.size st.1) (lb s.size st.1) st.2 t.size x s t) (la s.size (og (dd s t) (t.size * s.size) ((t.size - x) * s.size) (x * s.size) st).1, lb s.size (og (dd s t) (t.size * s.size) ((t.size - x) * s.size) (x * s.size) st).1, (og (dd s t) (t.size * s.size) ((t.size - x) * s.size) (x * s.size) st).2, true) := by
  have z2 := hg.2.1
  refine down t.size ?_ ?_
  · intro st hst
    refine succ ?_
    simp only [impl_LongestDrive.l0]
    rw [Nat.sub_self, Nat.zero_mul]
    exact neg (by omega) (now _)
  · intro x hx ih st hst
    refine succ ?_
    simp only [impl_LongestDrive.l0]
    refine pos (by omega) (LongestDrive_il1 s t hg x hx _ 0 (by omega) st hst ?_)
    rw [wnat (by omega), Nat.sub_zero, Nat.add_zero]
    have hge := (og_ge (dd s t) (t.size * s.size) s.size (x * s.size) st).1
    refine conv (ih _ (by omega)) ?_
    rw [show (t.size - x) * s.size = s.size + (t.size - (x + 1)) * s.size by rw [show t.size - x = (t.size - (x + 1)) + 1 by omega, Nat.add_mul, Nat.one_mul, Nat.add_comm], og_add, show (x + 1) * s.size = x * s.size + s.size by rw [Nat.add_mul, Nat.one_mul]]

/-- What a marked row holds: v, v + 1, .. -/
def markedV (v : Int) (n : Nat) : List Int := (List.range n).map fun (j : Nat) => (j : Int) + v
theorem markV_l0 (v : Int) (hv : 0 ≤ v ∧ v ≤ 35184372088832) (n : Nat) (hn : n ≤ 35184372088832) : ∀ i : Nat, i ≤ n → ∀ ys : List Int, ys.length = n → (∀ j : Nat, j < i → ys.getD j 0 = (j : Int) + v) → Ev (fun k => laws_markIntS.l0 k ys ((i : Int) + v) i) ((n : Int) + v, markedV v n) := by
  refine down n ?_ ?_
  · intro ys hl hy
    refine succ ?_
    simp only [laws_markIntS.l0]
    refine neg (by omega) (conv (now _) ?_)
    congr 1
    refine List.ext_getElem (by simp [markedV, hl]) (fun j h1 h2 => ?_)
    have := hy j (by omega)
    simp only [markedV, List.getElem_map, List.getElem_range]
    simpa [h1] using this
  · intro i hi ih ys hl hy
    refine succ ?_
    simp only [laws_markIntS.l0]
    rw [wnat (by omega), w64 (x := (i : Int) + v + 1) (by omega) (by omega), show (i : Int) + v + 1 = ((i + 1 : Nat) : Int) + v by omega]
    refine pos (by omega) (pos (by omega) ?_)
    refine ih _ (by simp [hl]) (fun j hj => ?_)
    simp only [Int.toNat_natCast]
    by_cases e : j = i
    · subst e
      simp [hl, hi]
    · rw [List.getD_eq_getElem?_getD, List.getElem?_set_ne (Ne.symm e), ← List.getD_eq_getElem?_getD]
      exact hy j (by omega)
theorem markV_f (xs : List Int) (v : Int) (hv : 0 ≤ v ∧ v ≤ 35184372088832) (hn : xs.length ≤ 35184372088832) : Ev (fun k => laws_markIntS.f k xs v) ((xs.length : Int) + v, markedV v xs.length) := by
  unfold laws_markIntS.f
  have z := markV_l0 v hv xs.length hn 0 (by omega) xs rfl (fun j hj => by omega)
  rw [show ((0 : Nat) : Int) + v = v by omega] at z
  exact z
theorem markedV_rd (v : Int) (n i : Nat) (h : i < n) : rd (markedV v n) (i : Int) = (i : Int) + v := by
  rw [rd_lt _ _ (by simpa [markedV] using h)]
  simp [markedV]
theorem heldV_f (v : Int) (hv : 0 ≤ v ∧ v ≤ 35184372088832) (n : Nat) (hn : n ≤ 35184372088832) : Ev (fun k => laws_heldIntS.f k (markedV v n) v) ((n : Int) + v) := by
  have hl : (markedV v n).length = n := by simp [markedV]
  have key : ∀ i : Nat, i ≤ n → Ev (fun k => laws_heldIntS.l0 k (markedV v n) ((i : Int) + v) i) ((n : Int) + v) := by
    refine down n ?_ ?_
    · refine succ ?_
      simp only [laws_heldIntS.l0]
      exact neg (by omega) (now _)
    · intro i hi ih
      refine succ ?_
      simp only [laws_heldIntS.l0]
      rw [wnat (by omega), w64 (x := (i : Int) + v + 1) (by omega) (by omega), show (i : Int) + v + 1 = ((i + 1 : Nat) : Int) + v by omega]
      exact pos (by omega) (pos (by omega) (pos (markedV_rd v n i hi) ih))
  unfold laws_heldIntS.f
  have z := key 0 (by omega)
  rw [show ((0 : Nat) : Int) + v = v by omega] at z
  exact z

theorem both_same (s t : ByteArray) (hs : s.size ≤ 1048576) (ht : t.size ≤ 1048576) : ∃ v : List Int × List Int × Int × Bool, (v.1.length ≤ 2 ∧ v.2.1.length ≤ 2) ∧ Ev (fun k => spec_LongestDrive.f k s t) v ∧ Ev (fun k => impl_LongestDrive.f k s t) v := by
  unfold spec_LongestDrive.f impl_LongestDrive.f
  have stop1 : Ev (fun k => spec_LongestDrive.j0 k true s t) ([], [], 0, false) := by
    refine succ ?_
    simp only [spec_LongestDrive.j0]
    exact pos (by simp) (now _)
  have stop2 : Ev (fun k => impl_LongestDrive.j0 k true s t) ([], [], 0, false) := by
    refine succ ?_
    simp only [impl_LongestDrive.j0]
    exact pos (by simp) (now _)
  by_cases g : good s t = true
  case neg => exact ⟨_, by simp, bind (spec_owGood_f s t (by omega) (by omega)) (neg g stop1), bind (impl_AreWays_f s t (by omega) (by omega)) (neg g stop2)⟩
  have G := (good_iff s t).1 g
  have z1 := G.1.1
  have z2 := G.2.1
  cases hw : Whole s t with
  | false =>
    have q1 := owWhole_f s t G
    have q2 := isWhole_f s t G
    rw [hw] at q1 q2
    exact ⟨_, by simp, bind (spec_owGood_f s t (by omega) (by omega)) (pos g (bind q1 stop1)), bind (impl_AreWays_f s t (by omega) (by omega)) (pos g (bind q2 stop2))⟩
  | true =>
    have q1 := owWhole_f s t G
    have q2 := isWhole_f s t G
    rw [hw] at q1 q2
    have hn : 0 < t.size * s.size := Nat.mul_pos (by omega) (by omega)
    have r1 := LongestDrive_sl0 s t G 0 (by omega) (none, -1) (fun p hp => by cases hp)
    have r2 := LongestDrive_il0 s t G 0 (by omega) (none, -1) (Int.le_refl _)
    rw [Nat.sub_zero] at r1
    rw [Nat.sub_zero, Nat.zero_mul] at r2
    obtain ⟨p, hp⟩ : ∃ p, (og (dd s t) (t.size * s.size) (t.size * s.size) 0 (none, -1)).1 = some p := by
      cases e : (og (dd s t) (t.size * s.size) (t.size * s.size) 0 (none, -1)).1 with
      | some p => exact ⟨p, rfl⟩
      | none =>
        exfalso
        obtain ⟨m, hm⟩ : ∃ m, t.size * s.size = m + 1 := ⟨t.size * s.size - 1, by omega⟩
        have hz : dd s t 0 0 = 0 := by
          unfold dd
          rw [Nat.zero_div, Nat.zero_mod]
          exact (far_ex false s t (by omega) (by omega) (0, 0) ⟨by show 0 < _; omega, by show 0 < _; omega⟩).1.zero
        have e2 := (og_ge (dd s t) (t.size * s.size) (t.size * s.size) 0 (none, -1)).2 e
        have e3 : (og (dd s t) (t.size * s.size) (t.size * s.size) 0 (none, -1)).2 = -1 := by rw [e2]
        have e4 : og (dd s t) (t.size * s.size) (t.size * s.size) 0 (none, -1) = og (dd s t) (t.size * s.size) m 1 (og1 (dd s t) (t.size * s.size) 0 (none, -1)) := by
          conv => lhs; rw [show og (dd s t) (t.size * s.size) (t.size * s.size) 0 (none, -1) = og (dd s t) (t.size * s.size) (m + 1) 0 (none, -1) by rw [← hm]]
          rfl
        have h1 := (og_ge (dd s t) (t.size * s.size) m 1 (og1 (dd s t) (t.size * s.size) 0 (none, -1))).1
        have h2 := (og1_ge (dd s t) (t.size * s.size) 0 (none, -1)).2.1 0 hn
        rw [← e4, e3] at h1
        omega
    rw [hp] at r1 r2
    refine ⟨(pr s.size p.1, pr s.size p.2, (og (dd s t) (t.size * s.size) (t.size * s.size) 0 (none, -1)).2, true), ⟨by simp [pr], by simp [pr]⟩, bind (spec_owGood_f s t (by omega) (by omega)) (pos g (bind q1 (succ ?_))), bind (impl_AreWays_f s t (by omega) (by omega)) (pos g (bind q2 (succ ?_)))⟩
    · simp only [spec_LongestDrive.j0]
      exact neg (by simp) r1
    · simp only [impl_LongestDrive.j0]
      exact neg (by simp) r2
theorem FnExactLongestDrive : laws_FnExactLongestDrive.Pure := by
  intro s t hs ht
  refine Ev.rounds ?_
  unfold laws_FnExactLongestDrive.f laws_toWays.f
  obtain ⟨v, hv, hn⟩ := szWays_f s t hs ht
  refine bindSome hv ?_
  by_cases c : v < 0
  · exact pos c (now _)
  refine neg c ?_
  have hz := hn c
  obtain ⟨r, ⟨l1, l2⟩, h1, h2⟩ := both_same s t hz.1 hz.2
  simp only [Option.bind_some]
  have b1 : r.1.length ≤ 35184372088832 := by omega
  have b2 : r.2.1.length ≤ 35184372088832 := by omega
  refine bind h1 (bind h2 (bind (eqIntS_same _ b1) (pos rfl (bind (eqIntS_same _ b2) (pos rfl (pos rfl (succ ?_)))))))
  simp only [laws_FnExactLongestDrive.j0, laws_toWays.f, Option.bind_some]
  have hv1 : 0 ≤ (r.1.length : Int) + 1 ∧ (r.1.length : Int) + 1 ≤ 35184372088832 := by omega
  refine neg (by simp) (bind (markV_f r.1 1 (by omega) b1) (bind (markV_f r.2.1 _ hv1 b2) (bind (heldV_f 1 (by omega) _ b1) (neg (by omega) (bind (heldV_f _ hv1 _ b2) (neg (by omega) (pos rfl (bind h2 (bind (eqIntS_same _ b1) (pos rfl (bind (eqIntS_same _ b2) (pos rfl (pos rfl (succ ?_))))))))))))))
  simp only [laws_FnExactLongestDrive.j1]
  exact neg (by simp) (bind (heldV_f 1 (by omega) _ b1) (neg (by omega) (bind (heldV_f _ hv1 _ b2) (neg (by omega) (pos rfl (now _))))))

end Go.Proofs.Ytopbmiedlpkmjaa.Pure
