/- The plain law of FnExactIsWholeWays: what the printed functions compute answers true at every input within the bounds that the print tells. -/
import Derived.Test.YtopbmiedlpkmjaaMGx9
import Derived.Test.YtopbmiedlpkmjaaLib
namespace Go.Proofs.Ytopbmiedlpkmjaa.Pure
open Go.RowKit Go.Proofs.Ytopbmiedlpkmjaa.MG Go.Proofs.YtopbmiedlpkmjaaW.PrintWords Go.Proofs.YtopbmiedlpkmjaaW.PrintLast Go.Proofs.YtopbmiedlpkmjaaW.PrintMore Go.Proofs.Ytopbmiedlpkmjaa.Lib
set_option linter.unusedVariables false
set_option linter.unusedSimpArgs false

theorem spec_in (a b c : Int) : spec_l1In.f a b c = some (decide (b ≤ a ∧ a ≤ c)) := by
  unfold spec_l1In.f
  by_cases h : a ≥ b
  · rw [if_pos h]; simp [show b ≤ a from h]
  · rw [if_neg h]; simp [show ¬ b ≤ a from h]
theorem impl_in (a b c : Int) : impl_within.f a b c = some (decide (b ≤ a ∧ a ≤ c)) := by
  unfold impl_within.f
  by_cases h : a ≥ b
  · rw [if_pos h]; simp [show b ≤ a from h]
  · rw [if_neg h]; simp [show ¬ b ≤ a from h]
/-- Two signs alone from one on. -/
def Signs (s : ByteArray) (a b : Int) (i : Nat) : Prop := ∀ j : Nat, i ≤ j → j < s.size → bt s j = a ∨ bt s j = b
theorem signs_end (s : ByteArray) (a b : Int) : Signs s a b s.size := fun j h1 h2 => by omega
theorem signs_step (s : ByteArray) (a b : Int) (i : Nat) (hi : i < s.size) : Signs s a b i ↔ (bt s i = a ∨ bt s i = b) ∧ Signs s a b (i + 1) := by
  constructor
  · intro g; exact ⟨g i (Nat.le_refl _) hi, fun j h1 h2 => g j (by omega) h2⟩
  · rintro ⟨g, r⟩ j h1 h2
    by_cases e : j = i
    · subst e; exact g
    · exact r j (by omega) h2
/-- The signs of ways in one direction. -/
def Way (s : ByteArray) (a b : Int) : Prop := (2 ≤ s.size ∧ s.size ≤ 8) ∧ Signs s a b 0
/-- Ways. -/
def Good (s t : ByteArray) : Prop := Way s 101 119 ∧ Way t 110 115
open Classical in
noncomputable def good (s t : ByteArray) : Bool := decide (Good s t)
theorem good_iff (s t : ByteArray) : good s t = true ↔ Good s t := by unfold good; simp
open Classical in
theorem spec_owText_l0 (s : ByteArray) (a b : Int) (hs : s.size ≤ 9223372036854775807) : ∀ i : Nat, i ≤ s.size → Ev (fun k => spec_owText.l0 k s a b i) (decide (Signs s a b i)) := by
  refine down s.size ?_ ?_
  · refine succ ?_
    simp only [spec_owText.l0]
    exact neg (by omega) (conv (now _) (by simp [signs_end]))
  · intro i hi ih
    refine succ ?_
    simp only [spec_owText.l0]
    rw [wnat (by omega)]
    refine pos (by omega) (pos (by omega) ?_)
    by_cases c1 : bt s i = a
    · exact pos c1 (conv ih (by rw [decide_eq_decide, signs_step s a b i hi]; exact ⟨fun g => ⟨.inl c1, g⟩, fun g => g.2⟩))
    · refine neg c1 ?_
      by_cases c2 : bt s i = b
      · exact pos c2 (conv ih (by rw [decide_eq_decide, signs_step s a b i hi]; exact ⟨fun g => ⟨.inr c2, g⟩, fun g => g.2⟩))
      · exact neg c2 (conv (now _) (Eq.symm (decide_eq_false (by rw [signs_step s a b i hi]; exact fun g => g.1.elim c1 c2))))
open Classical in
theorem spec_owText_f (s : ByteArray) (a b : Int) (hs : s.size ≤ 9223372036854775807) : Ev (fun k => spec_owText.f k s a b) (decide (Way s a b)) := by
  unfold spec_owText.f
  simp only [spec_in, Option.bind_some]
  by_cases c : 2 ≤ (s.size : Int) ∧ (s.size : Int) ≤ 8
  · refine pos (by simpa using c) (conv (spec_owText_l0 s a b hs 0 (by omega)) ?_)
    rw [decide_eq_decide]
    exact ⟨fun g => ⟨by omega, g⟩, fun g => g.2⟩
  · exact neg (by simpa using c) (conv (now _) (Eq.symm (decide_eq_false (fun g => c (by have := g.1; omega)))))
open Classical in
theorem spec_owGood_f (s t : ByteArray) (hs : s.size ≤ 9223372036854775807) (ht : t.size ≤ 9223372036854775807) : Ev (fun k => spec_owGood.f k s t) (good s t) := by
  unfold spec_owGood.f
  refine bind (spec_owText_f s _ _ hs) ?_
  by_cases c : Way s 101 119
  · refine pos (by simpa using c) (conv (bind (spec_owText_f t _ _ ht) (now _)) ?_)
    unfold good Good
    rw [decide_eq_decide]
    exact ⟨fun g => ⟨c, g⟩, fun g => g.2⟩
  · refine neg (by simpa using c) (conv (now _) ?_)
    exact Eq.symm (decide_eq_false (fun g => c g.1))
theorem indexByte_two (a b : UInt8) (x : Int) (h0 : 0 ≤ x) (h1 : x ≤ 255) : Go.Lib.indexByte [a, b] x.toNat.toUInt8 < 0 ↔ ¬ (x = (a.toNat : Int) ∨ x = (b.toNat : Int)) := by
  have hx : x.toNat.toUInt8.toNat = x.toNat := by simp; omega
  have ea : (a == x.toNat.toUInt8) = decide (x = (a.toNat : Int)) := by
    rw [Bool.eq_iff_iff, beq_iff_eq, decide_eq_true_eq, ← UInt8.toNat_inj, hx]; omega
  have eb : (b == x.toNat.toUInt8) = decide (x = (b.toNat : Int)) := by
    rw [Bool.eq_iff_iff, beq_iff_eq, decide_eq_true_eq, ← UInt8.toNat_inj, hx]; omega
  simp only [Go.Lib.indexByte, ea, eb]
  by_cases c1 : x = (a.toNat : Int)
  · rw [if_pos (by simpa using c1)]
    simp [c1]
  · rw [if_neg (by simpa using c1)]
    by_cases c2 : x = (b.toNat : Int)
    · have e : decide (x = (b.toNat : Int)) = true := by simpa using c2
      rw [e]
      simp [c2]
    · have e : decide (x = (b.toNat : Int)) = false := by simpa using c2
      rw [e]
      simp [c1, c2]
open Classical in
theorem impl_areSigns_l0 (s : ByteArray) (a b : UInt8) (hs : s.size ≤ 9223372036854775807) : ∀ i : Nat, i ≤ s.size → Ev (fun k => impl_areSigns.l0 k s ⟨#[a, b]⟩ s.size i) (decide (Signs s a.toNat b.toNat i ∧ 2 ≤ s.size ∧ s.size ≤ 8)) := by
  refine down s.size ?_ ?_
  · refine succ ?_
    simp only [impl_areSigns.l0, impl_in, Option.bind_some]
    refine neg (by omega) (conv (now _) ?_)
    rw [decide_eq_decide]
    exact ⟨fun g => ⟨signs_end _ _ _, by omega⟩, fun g => by have := g.2; omega⟩
  · intro i hi ih
    refine succ ?_
    simp only [impl_areSigns.l0, strings_IndexByte.f, Option.bind_some]
    rw [wnat (by omega)]
    refine pos (by omega) (pos (by omega) (pos (by omega) ?_))
    have hr := bt_range s i
    have e := indexByte_two a b (bt s i) hr.1 hr.2
    by_cases c : bt s i = (a.toNat : Int) ∨ bt s i = (b.toNat : Int)
    · refine neg (fun g => e.1 g c) (conv ih ?_)
      rw [decide_eq_decide, signs_step s _ _ i hi]
      exact ⟨fun g => ⟨⟨c, g.1⟩, g.2⟩, fun g => ⟨g.1.2, g.2⟩⟩
    · refine pos (e.2 c) (conv (now _) (Eq.symm (decide_eq_false ?_)))
      rw [signs_step s _ _ i hi]
      exact fun g => c g.1.1
open Classical in
theorem impl_areSigns_f (s : ByteArray) (a b : UInt8) (hs : s.size ≤ 9223372036854775807) : Ev (fun k => impl_areSigns.f k s ⟨#[a, b]⟩) (decide (Way s a.toNat b.toNat)) := by
  unfold impl_areSigns.f
  refine conv (impl_areSigns_l0 s a b hs 0 (by omega)) ?_
  rw [decide_eq_decide]
  exact ⟨fun g => ⟨g.2, g.1⟩, fun g => ⟨g.2, g.1⟩⟩
open Classical in
theorem impl_AreWays_f (s t : ByteArray) (hs : s.size ≤ 9223372036854775807) (ht : t.size ≤ 9223372036854775807) : Ev (fun k => impl_AreWays.f k s t) (good s t) := by
  unfold impl_AreWays.f
  refine bind (impl_areSigns_f s 101 119 hs) ?_
  by_cases c : Way s 101 119
  · refine pos (by simpa using c) (conv (bind (impl_areSigns_f t 110 115 ht) (now _)) ?_)
    unfold good Good
    rw [decide_eq_decide]
    exact ⟨fun g => ⟨c, g⟩, fun g => g.2⟩
  · refine neg (by simpa using c) (conv (now _) ?_)
    exact Eq.symm (decide_eq_false (fun g => c g.1))

theorem szWays_f (s t : ByteArray) (hs : s.size ≤ 9223372036854775807) (ht : t.size ≤ 9223372036854775807) : ∃ v, laws_szWays.f s t 1048576 = some v ∧ (¬ v < 0 → s.size ≤ 1048576 ∧ t.size ≤ 1048576) := by
  unfold laws_szWays.f
  rw [w64 (show -9223372036854775808 ≤ (1048576 : Int) - (s.size : Int) by omega) (by omega)]
  by_cases c : (1048576 : Int) - (s.size : Int) < 0
  · exact ⟨-1, by rw [if_pos c], by omega⟩
  · rw [if_neg c, w64 (by omega) (by omega)]
    by_cases d : (1048576 : Int) - (s.size : Int) - (t.size : Int) < 0
    · exact ⟨-1, by rw [if_pos d], by omega⟩
    · exact ⟨_, by rw [if_neg d], fun _ => by omega⟩

theorem flat_len (W H : Nat) (d : Nat × Nat → Int) : (spec_owFar.flat W H d).length = W * H := by simp [spec_owFar.flat]
theorem tab_len (W H : Nat) (d : Nat × Nat → Int) : (impl_distancesBy.tab W H d).length = W := by simp [impl_distancesBy.tab]
/-- A corner of ways. -/
def InC (s t : ByteArray) (p : Nat × Nat) : Prop := p.1 < t.size ∧ p.2 < s.size
theorem stp_some {back : Bool} {s t : ByteArray} {p : Nat × Nat} {n : Nat} {c : Nat × Nat} (h : impl_distancesBy.stp back s t p n = some c) :
    (c.1 : Int) = (p.1 : Int) + impl_driveIn.dx n ∧ (c.2 : Int) = (p.2 : Int) + impl_driveIn.dy n ∧ InC s t c ∧ (if back = true then impl_driveIn.can s t ((p.1 : Int) + impl_driveIn.dx n) ((p.2 : Int) + impl_driveIn.dy n) (3 - n) else impl_driveIn.can s t p.1 p.2 n) = true := by
  unfold impl_distancesBy.stp at h
  obtain ⟨⟨h0, h1⟩, h2⟩ := Option.ite_none_right_eq_some.1 h
  injection h2 with h2
  subst h2
  refine ⟨Int.toNat_of_nonneg h0.1.1, Int.toNat_of_nonneg h0.2.1, ⟨?_, ?_⟩, h1⟩
  · show (Int.toNat _) < _
    omega
  · show (Int.toNat _) < _
    omega
theorem far_ex (back : Bool) (s t : ByteArray) (hs : s.size ≤ 8) (ht : t.size ≤ 8) (a : Nat × Nat) (ha : InC s t a) : Far (Leads (impl_distancesBy.stp back s t)) a (impl_distancesBy.dist back s t a) ∧ (∀ c, 0 ≤ impl_distancesBy.dist back s t a c → InC s t c) ∧ ∀ c, impl_distancesBy.dist back s t a c ≤ 64 := by
  obtain ⟨d, h1, h2, h3⟩ := Bfs.run (st := impl_distancesBy.stp back s t) (a := a) (InC s t) ha (fun p n c _ h => (stp_some h).2.2.1) (fun p => p.1 * 8 + p.2) 64 (fun x y hx hy e => Prod.ext (by have := hx.2; have := hy.2; have e' : x.1 * 8 + x.2 = y.1 * 8 + y.2 := e; omega) (by have := hx.2; have := hy.2; have e' : x.1 * 8 + x.2 = y.1 * 8 + y.2 := e; omega)) (fun x hx => by have := hx.1; have := hx.2; show x.1 * 8 + x.2 < 64; omega)
  have e : impl_distancesBy.dist back s t a = d := h1.the _ (fun p hp => impl_distancesBy.mem_nodes (h2 p hp)) 64 h3
  rw [e]
  exact ⟨h1, h2, h3⟩
theorem far_in {α : Type} {E : α → α → Prop} {a : α} {d : α → Int} (h : Far E a d) (V : α → Prop) (hV : ∀ c, 0 ≤ d c → V c) : Far (fun x y => V x ∧ V y ∧ E x y) a d :=
  ⟨h.zero, h.low, fun c c' z e => h.next c c' z e.2.2, fun c z n => by
    obtain ⟨k, p, hp, hd⟩ := h.back c z n
    exact ⟨k, p, ⟨hV p (by omega), hV c z, hp⟩, hd⟩⟩
theorem dx_turn (n : Nat) (h : n < 4) : impl_driveIn.dx (3 - n) = - impl_driveIn.dx n ∧ impl_driveIn.dy (3 - n) = - impl_driveIn.dy n := by
  have c : n = 0 ∨ n = 1 ∨ n = 2 ∨ n = 3 := by omega
  rcases c with rfl | rfl | rfl | rfl <;> simp [impl_driveIn.dx, impl_driveIn.dy]
theorem leads_turn (s t : ByteArray) (back : Bool) (x y : Nat × Nat) (hx : InC s t x) (h : Leads (impl_distancesBy.stp back s t) x y) : Leads (impl_distancesBy.stp (!back) s t) y x := by
  obtain ⟨n, hn, hs⟩ := h
  obtain ⟨h1, h2, h3, h4⟩ := stp_some hs
  obtain ⟨d1, d2⟩ := dx_turn n hn
  refine ⟨3 - n, by omega, ?_⟩
  have e1 : (y.1 : Int) + impl_driveIn.dx (3 - n) = x.1 := by omega
  have e2 : (y.2 : Int) + impl_driveIn.dy (3 - n) = x.2 := by omega
  unfold impl_distancesBy.stp
  rw [e1, e2, if_pos]
  · simp
  · have := hx.1
    have := hx.2
    refine ⟨⟨⟨by omega, by omega⟩, by omega, by omega⟩, ?_⟩
    rw [show 3 - (3 - n) = n by omega]
    cases back with
    | false => simpa using h4
    | true =>
      rw [if_pos rfl, ← h1, ← h2] at h4
      simpa using h4
theorem dist_turn (s t : ByteArray) (hs : s.size ≤ 8) (ht : t.size ≤ 8) (a b : Nat × Nat) (ha : InC s t a) (hb : InC s t b) : impl_distancesBy.dist false s t a b = impl_distancesBy.dist true s t b a := by
  obtain ⟨h1, h2, -⟩ := far_ex false s t hs ht a ha
  obtain ⟨k1, k2, -⟩ := far_ex true s t hs ht b hb
  exact (far_in h1 _ h2).turn (far_in k1 _ k2) (fun x y => ⟨fun h => ⟨h.2.1, h.1, leads_turn s t false x y h.1 h.2.2⟩, fun h => ⟨h.2.1, h.1, leads_turn s t true y x h.1 h.2.2⟩⟩)
theorem flat_rd (W H : Nat) (d : Nat × Nat → Int) (x y : Nat) (hx : x < W) (hy : y < H) : rd (spec_owFar.flat W H d) ((x * H + y : Nat) : Int) = d (x, y) := by
  have hlt := spec_owFar.cd_lt H W x y hx hy
  rw [rd_lt _ _ (by rw [flat_len]; exact hlt)]
  simp only [spec_owFar.flat, List.getElem_map, List.getElem_range]
  rw [(spec_owFar.cd_div H x y hy).1, (spec_owFar.cd_div H x y hy).2]
theorem tab_row (W H : Nat) (d : Nat × Nat → Int) (x : Nat) (hx : x < W) : rd_L1 (impl_distancesBy.tab W H d) (x : Int) = (List.range H).map fun y => d (x, y) := by
  unfold rd_L1
  rw [Int.toNat_natCast, List.getD_eq_getElem?_getD, List.getElem?_eq_getElem (by rw [tab_len]; exact hx)]
  simp [impl_distancesBy.tab]
theorem tab_rd (W H : Nat) (d : Nat × Nat → Int) (x y : Nat) (hx : x < W) (hy : y < H) : rd (rd_L1 (impl_distancesBy.tab W H d) (x : Int)) (y : Int) = d (x, y) := by
  rw [tab_row W H d x hx, rd_lt _ _ (by simpa using hy)]
  simp
theorem signs_of {s t : ByteArray} (h : Good s t) : spec_owFar.Signs s t :=
  ⟨⟨⟨by have := h.2.1.1; omega, h.2.1.2⟩, by have := h.1.1.1; omega, h.1.1.2⟩, fun j hj => h.1.2 j (Nat.zero_le _) hj, fun j hj => h.2.2 j (Nat.zero_le _) hj⟩
/-- A corner as it is asked for. -/
def crn (xs : List Int) : Nat × Nat := ((rd xs 0).toNat, (rd xs 1).toNat)
theorem corner_iff (s t : ByteArray) (xs : List Int) : spec_owCorner.corner t.size s.size xs = true ↔ xs.length = 2 ∧ impl_driveIn.At s t (rd xs 0) (rd xs 1) := by
  simp only [spec_owCorner.corner, impl_driveIn.At, Bool.and_eq_true, decide_eq_true_eq]
  omega
theorem crn_in {s t : ByteArray} {xs : List Int} (h : impl_driveIn.At s t (rd xs 0) (rd xs 1)) : InC s t (crn xs) ∧ rd xs 0 = ((crn xs).1 : Int) ∧ rd xs 1 = ((crn xs).2 : Int) := by
  obtain ⟨⟨x0, x1⟩, y0, y1⟩ := h
  refine ⟨⟨?_, ?_⟩, (Int.toNat_of_nonneg x0).symm, (Int.toNat_of_nonneg y0).symm⟩
  · show (rd xs 0).toNat < _
    omega
  · show (rd xs 1).toNat < _
    omega
theorem owFar_some (s t : ByteArray) (hg : Good s t) (xs : List Int) (hl : xs.length = 2) (ha : impl_driveIn.At s t (rd xs 0) (rd xs 1)) : Ev (fun k => spec_owFar.f k s t xs) (spec_owFar.flat t.size s.size (impl_distancesBy.dist false s t (crn xs))) := by
  refine succ ?_
  simp only [spec_owFar.f]
  exact pos ⟨⟨signs_of hg, hl⟩, ha⟩ (now _)
theorem dists_some (s t : ByteArray) (hg : Good s t) (xs : List Int) (hl : xs.length = 2) (ha : impl_driveIn.At s t (rd xs 0) (rd xs 1)) (back : Bool) : Ev (fun k => impl_distancesBy.f k (t.size : Int) (s.size : Int) xs (s, t) back) (impl_distancesBy.tab t.size s.size (impl_distancesBy.dist back s t (crn xs))) := by
  refine succ ?_
  simp only [impl_distancesBy.f]
  exact pos ⟨⟨⟨trivial, trivial⟩, hl⟩, (signs_of hg).1, ha⟩ (now _)

theorem drivesTo_some (s t : ByteArray) (hg : Good s t) (xs : List Int) (hx : xs.length = 2 ∧ impl_driveIn.At s t (rd xs 0) (rd xs 1)) : Ev (fun k => impl_drivesTo.f k s t xs) (impl_distancesBy.tab t.size s.size (impl_distancesBy.dist true s t (crn xs))) := by
  unfold impl_drivesTo.f impl_driveIn.f
  exact bindSome rfl (bind (dists_some s t hg xs hx.1 hx.2 true) (now _))

/-- How many are reached. -/
def Cnt (l : List Int) : Nat := l.countP fun x => decide (0 ≤ x)
theorem cnt_drop (l : List Int) (i : Nat) (h : i < l.length) : Cnt (l.drop i) = (if rd l (i : Int) ≥ 0 then 1 else 0) + Cnt (l.drop (i + 1)) := by
  rw [List.drop_eq_getElem_cons h, rd_lt l i h]
  unfold Cnt
  rw [List.countP_cons]
  by_cases c : l[i] ≥ 0
  · rw [if_pos c, if_pos (by simpa using c)]; omega
  · rw [if_neg c, if_neg (by simpa using c)]; omega
theorem owReached_l0 (l : List Int) (hl : l.length ≤ 1048576) : ∀ i : Nat, i ≤ l.length → ∀ c : Nat, c ≤ i → Ev (fun k => spec_owReached.l0 k c l l.length i) ((c + Cnt (l.drop i) : Nat) : Int) := by
  refine down l.length ?_ ?_
  · intro c hc
    refine succ ?_
    simp only [spec_owReached.l0]
    exact neg (by omega) (conv (now _) (by simp [Cnt]))
  · intro i hi ih c hc
    refine succ ?_
    simp only [spec_owReached.l0]
    rw [wnat (by omega), wnat (by omega)]
    have e := cnt_drop l i hi
    refine pos (by omega) (pos (by omega) (pos (by omega) ?_))
    by_cases q : rd l (i : Int) ≥ 0
    · rw [if_pos q] at e
      exact pos q (conv (ih (c + 1) (by omega)) (by rw [e]; omega))
    · rw [if_neg q] at e
      exact neg q (conv (ih c (by omega)) (by rw [e]; omega))
theorem reachedIn_l1 (rows : List (List Int)) (r : List Int) (hr : r.length ≤ 8) (x : Nat) (V : Int) : ∀ j : Nat, j ≤ r.length → ∀ c : Nat, c ≤ 1000 + j → Ev (fun k => impl_reachedIn.l0 k ((c + Cnt (r.drop j) : Nat) : Int) rows rows.length (wrap64 ((x : Int) + 1))) V → Ev (fun k => impl_reachedIn.l1 k c rows rows.length x r r.length j) V := by
  refine down r.length ?_ ?_
  · intro c hc h
    refine succ ?_
    simp only [impl_reachedIn.l1]
    rw [List.drop_length] at h
    exact neg (by omega) (by simpa [Cnt] using h)
  · intro j hj ih c hc h
    refine succ ?_
    simp only [impl_reachedIn.l1]
    rw [wnat (by omega), wnat (by omega)]
    have e := cnt_drop r j hj
    refine pos (by omega) (pos (by omega) (pos (by omega) ?_))
    by_cases q : rd r (j : Int) ≥ 0
    · rw [if_pos q] at e
      refine pos q (ih (c + 1) (by omega) ?_)
      rw [show c + 1 + Cnt (r.drop (j + 1)) = c + Cnt (r.drop j) by omega]
      exact h
    · rw [if_neg q] at e
      refine neg q (ih c (by omega) ?_)
      rw [show c + Cnt (r.drop (j + 1)) = c + Cnt (r.drop j) by omega]
      exact h
theorem reachedIn_f (rows : List (List Int)) (hn : rows.length ≤ 8) (hr : ∀ r ∈ rows, r.length ≤ 8) : Ev (fun k => impl_reachedIn.f k rows) (Cnt rows.flatten : Int) := by
  have key : ∀ x : Nat, x ≤ rows.length → ∀ c : Nat, c ≤ 8 * x → Ev (fun k => impl_reachedIn.l0 k c rows rows.length x) ((c + Cnt (rows.drop x).flatten : Nat) : Int) := by
    refine down rows.length ?_ ?_
    · intro c hc
      refine succ ?_
      simp only [impl_reachedIn.l0]
      exact neg (by omega) (conv (now _) (by simp [Cnt]))
    · intro x hx ih c hc
      refine succ ?_
      simp only [impl_reachedIn.l0]
      have hrow : rd_L1 rows (x : Int) = rows[x] := by
        unfold rd_L1
        rw [Int.toNat_natCast, List.getD_eq_getElem?_getD, List.getElem?_eq_getElem hx]
        rfl
      have hlen := hr rows[x] (List.getElem_mem hx)
      have hcl : Cnt rows[x] ≤ rows[x].length := List.countP_le_length
      rw [hrow]
      refine pos (by omega) (pos (by omega) (pos (by omega) (reachedIn_l1 rows rows[x] hlen x _ 0 (by omega) c (by omega) ?_)))
      rw [wnat (by omega), List.drop_zero]
      refine conv (ih (c + Cnt rows[x]) (by omega)) ?_
      rw [List.drop_eq_getElem_cons hx, List.flatten_cons]
      unfold Cnt
      rw [List.countP_append]
      omega
  unfold impl_reachedIn.f
  exact conv (key 0 (by omega) 0 (by omega)) (by simp)
theorem flat_tab (W H : Nat) (hH : 0 < H) (d : Nat × Nat → Int) : (impl_distancesBy.tab W H d).flatten = spec_owFar.flat W H d := by
  unfold impl_distancesBy.tab spec_owFar.flat
  induction W with
  | zero => simp
  | succ W ih =>
    rw [List.range_succ, List.map_append, List.flatten_append, ih, Nat.add_mul, Nat.one_mul, List.range_add, List.map_append]
    congr 1
    simp only [List.map_cons, List.map_nil, List.flatten_cons, List.flatten_nil, List.append_nil, List.map_map]
    refine List.map_congr_left (fun y hy => ?_)
    have hy := List.mem_range.1 hy
    simp only [Function.comp]
    rw [(spec_owFar.cd_div H W y hy).1, (spec_owFar.cd_div H W y hy).2]
/-- How many corners are reached from one, or reach it. -/
def Rch (back : Bool) (s t : ByteArray) (a : Nat × Nat) : Int := (Cnt (spec_owFar.flat t.size s.size (impl_distancesBy.dist back s t a)) : Int)
theorem owReached_f (s t : ByteArray) (hg : Good s t) (xs : List Int) (hx : xs.length = 2 ∧ impl_driveIn.At s t (rd xs 0) (rd xs 1)) : Ev (fun k => spec_owReached.f k s t xs) (Rch false s t (crn xs)) := by
  unfold spec_owReached.f
  have z1 := hg.1.1
  have z2 := hg.2.1
  have hm : t.size * s.size ≤ 64 := Nat.le_trans (Nat.mul_le_mul z2.2 z1.2) (by decide)
  refine bind (owFar_some s t hg xs hx.1 hx.2) ?_
  have h := owReached_l0 (spec_owFar.flat t.size s.size (impl_distancesBy.dist false s t (crn xs))) (by rw [flat_len]; omega) 0 (by omega) 0 (by omega)
  refine conv h ?_
  simp [Rch]
theorem reached_tab (s t : ByteArray) (hg : Good s t) (back : Bool) (a : Nat × Nat) : Ev (fun k => impl_reachedIn.f k (impl_distancesBy.tab t.size s.size (impl_distancesBy.dist back s t a))) (Rch back s t a) := by
  have z1 := hg.1.1
  have z2 := hg.2.1
  refine conv (reachedIn_f _ (by rw [tab_len]; omega) (fun r hr => ?_)) ?_
  · obtain ⟨x, -, rfl⟩ := List.mem_map.1 hr
    simp; omega
  · rw [flat_tab _ _ (by omega)]
    rfl

/-- A text with each byte turned by g. -/
def mapB (g : UInt8 → UInt8) (s : ByteArray) : ByteArray := ⟨(s.data.toList.map g).toArray⟩
def ge (u : UInt8) : UInt8 := if u = 101 then 119 else 101
def gn (u : UInt8) : UInt8 := if u = 110 then 115 else 110
theorem ba_ext {a b : ByteArray} (h : a.data.toList = b.data.toList) : a = b := by
  obtain ⟨a⟩ := a; obtain ⟨b⟩ := b
  simp only at h
  rw [Array.toList_inj.1 h]
theorem mapB_list (g : UInt8 → UInt8) (s : ByteArray) : (mapB g s).data.toList = s.data.toList.map g := rfl
theorem mapB_size (g : UInt8 → UInt8) (s : ByteArray) : (mapB g s).size = s.size := by
  show (s.data.toList.map g).toArray.size = s.data.size
  simp
theorem list_get (s : ByteArray) (i : Nat) (h : i < s.size) : s.data.toList[i]'(by rw [Array.length_toList]; exact h) = s[i] := rfl
theorem list_len (s : ByteArray) : s.data.toList.length = s.size := Array.length_toList
theorem bt_eq (s : ByteArray) (i : Nat) (h : i < s.size) (u : UInt8) : bt s (i : Int) = (u.toNat : Int) ↔ s.data.toList[i]'(by rw [list_len]; exact h) = u := by
  rw [bt_lt s i h, list_get s i h, ← UInt8.toNat_inj]
  omega
/-- The signs of ways, as bytes. -/
theorem way_bytes {s : ByteArray} {a b : UInt8} (h : Way s a.toNat b.toNat) : ∀ u ∈ s.data.toList, u = a ∨ u = b := by
  intro u hu
  obtain ⟨i, hi, rfl⟩ := List.getElem_of_mem hu
  have hi' : i < s.size := by rw [← list_len]; exact hi
  rcases h.2 i (by omega) hi' with g | g
  · exact .inl ((bt_eq s i hi' a).1 g)
  · exact .inr ((bt_eq s i hi' b).1 g)
/-- The text behind so many rounds. -/
def accB (g : UInt8 → UInt8) (s : ByteArray) (i : Nat) : ByteArray := ⟨((s.data.toList.take i).map g).toArray⟩
theorem accB_size (g : UInt8 → UInt8) (s : ByteArray) (i : Nat) (h : i ≤ s.size) : (accB g s i).size = i := by
  show ((s.data.toList.take i).map g).toArray.size = i
  rw [List.size_toArray, List.length_map, List.length_take, list_len]; omega
theorem accB_step (g : UInt8 → UInt8) (s : ByteArray) (i : Nat) (h : i < s.size) (u : UInt8) (hu : g (s.data.toList[i]'(by rw [list_len]; exact h)) = u) : accB g s i ++ (⟨#[u]⟩ : ByteArray) = accB g s (i + 1) := by
  refine ba_ext ?_
  rw [ByteArray.data_append, Array.toList_append]
  show (s.data.toList.take i).map g ++ [u] = (s.data.toList.take (i + 1)).map g
  rw [List.take_succ_eq_append_getElem (by rw [list_len]; exact h), List.map_append, List.map_cons, List.map_nil, hu]
theorem accB_zero (g : UInt8 → UInt8) (s : ByteArray) : accB g s 0 = ⟨#[]⟩ := by simp [accB]
theorem accB_end (g : UInt8 → UInt8) (s : ByteArray) : accB g s s.size = mapB g s := by
  unfold accB mapB
  rw [List.take_of_length_le (by rw [list_len]; omega)]
theorem owBack_l1 (s t acc : ByteArray) (ht : t.size ≤ 1048576) : ∀ i : Nat, i ≤ t.size → Ev (fun k => spec_owBack.l1 k i s t acc (accB gn t i)) (acc, mapB gn t) := by
  refine down t.size ?_ ?_
  · refine succ ?_
    simp only [spec_owBack.l1]
    exact neg (by omega) (conv (now _) (by rw [accB_end]))
  · intro i hi ih
    refine succ ?_
    simp only [spec_owBack.l1]
    rw [wnat (by omega)]
    have z := accB_size gn t i (by omega)
    refine pos (by omega) (pos (by omega) ?_)
    by_cases c : bt t i = 110
    · refine pos c (pos (by omega) ?_)
      rw [accB_step gn t i hi 115 (by rw [(bt_eq t i hi 110).1 c]; rfl)]
      exact ih
    · refine neg c (pos (by omega) ?_)
      rw [accB_step gn t i hi 110 (by unfold gn; rw [if_neg (fun h => c ((bt_eq t i hi 110).2 h))])]
      exact ih
theorem owBack_l0 (s t : ByteArray) (hs : s.size ≤ 1048576) (ht : t.size ≤ 1048576) : ∀ i : Nat, i ≤ s.size → Ev (fun k => spec_owBack.l0 k i s t (accB ge s i) ⟨#[]⟩) (mapB ge s, mapB gn t) := by
  refine down s.size ?_ ?_
  · refine succ ?_
    simp only [spec_owBack.l0]
    refine neg (by omega) ?_
    rw [accB_end]
    have := owBack_l1 s t (mapB ge s) ht 0 (by omega)
    rw [accB_zero] at this
    exact this
  · intro i hi ih
    refine succ ?_
    simp only [spec_owBack.l0]
    rw [wnat (by omega)]
    have z := accB_size ge s i (by omega)
    refine pos (by omega) (pos (by omega) ?_)
    by_cases c : bt s i = 101
    · refine pos c (pos (by omega) ?_)
      rw [accB_step ge s i hi 119 (by rw [(bt_eq s i hi 101).1 c]; rfl)]
      exact ih
    · refine neg c (pos (by omega) ?_)
      rw [accB_step ge s i hi 101 (by unfold ge; rw [if_neg (fun h => c ((bt_eq s i hi 101).2 h))])]
      exact ih
theorem owBack_f (s t : ByteArray) (hs : s.size ≤ 1048576) (ht : t.size ≤ 1048576) : Ev (fun k => spec_owBack.f k s t) (mapB ge s, mapB gn t) := by
  unfold spec_owBack.f
  have := owBack_l0 s t hs ht 0 (by omega)
  rw [accB_zero] at this
  exact this

theorem bt_mapB (g : UInt8 → UInt8) (s : ByteArray) (i : Nat) (h : i < s.size) : bt (mapB g s) (i : Int) = ((g (s[i]'h)).toNat : Int) := by
  have h' : i < (mapB g s).size := by rw [mapB_size]; exact h
  rw [bt_lt _ i h', ← list_get _ i h']
  simp only [mapB_list, List.getElem_map]
  rw [list_get s i h]
theorem bt_ge (s : ByteArray) (i : Nat) (h : i < s.size) : bt (mapB ge s) (i : Int) = if bt s i = 101 then 119 else 101 := by
  rw [bt_mapB ge s i h, bt_lt s i h]
  unfold ge
  by_cases c : s[i] = 101
  · rw [if_pos c, if_pos (by rw [c]; rfl)]; rfl
  · have hne : ¬ ((s[i].toNat : Int) = 101) := fun e => by
      have e2 : s[i].toNat = 101 := by omega
      exact c (UInt8.toNat_inj.1 e2)
    rw [if_neg c, if_neg hne]; rfl
theorem bt_gn (s : ByteArray) (i : Nat) (h : i < s.size) : bt (mapB gn s) (i : Int) = if bt s i = 110 then 115 else 110 := by
  rw [bt_mapB gn s i h, bt_lt s i h]
  unfold gn
  by_cases c : s[i] = 110
  · rw [if_pos c, if_pos (by rw [c]; rfl)]; rfl
  · have hne : ¬ ((s[i].toNat : Int) = 110) := fun e => by
      have e2 : s[i].toNat = 110 := by omega
      exact c (UInt8.toNat_inj.1 e2)
    rw [if_neg c, if_neg hne]; rfl
theorem good_back {s t : ByteArray} (h : Good s t) : Good (mapB ge s) (mapB gn t) := by
  refine ⟨⟨by rw [mapB_size]; exact h.1.1, fun j _ hj => ?_⟩, by rw [mapB_size]; exact h.2.1, fun j _ hj => ?_⟩
  · rw [mapB_size] at hj
    rw [bt_ge s j hj]
    split
    · exact .inr rfl
    · exact .inl rfl
  · rw [mapB_size] at hj
    rw [bt_gn t j hj]
    split
    · exact .inr rfl
    · exact .inl rfl
theorem back_can (s t : ByteArray) (hg : Good s t) (x y n : Nat) (hn : n < 4) (hx : x < t.size) (hy : y < s.size) (hin : (0 ≤ (x : Int) + impl_driveIn.dx n ∧ (x : Int) + impl_driveIn.dx n ≤ (t.size : Int) - 1) ∧ (0 ≤ (y : Int) + impl_driveIn.dy n ∧ (y : Int) + impl_driveIn.dy n ≤ (s.size : Int) - 1)) :
    impl_driveIn.can (mapB ge s) (mapB gn t) x y n = impl_driveIn.can s t ((x : Int) + impl_driveIn.dx n) ((y : Int) + impl_driveIn.dy n) (3 - n) := by
  have hS := hg.1.2 y (Nat.zero_le _) hy
  have hT := hg.2.2 x (Nat.zero_le _) hx
  have bS := bt_ge s y hy
  have bT := bt_gn t x hx
  have hU : bt t ((x : Int) + impl_driveIn.dx n) = 110 ∨ bt t ((x : Int) + impl_driveIn.dx n) = 115 := by
    obtain ⟨u, hu⟩ := Int.eq_ofNat_of_zero_le hin.1.1
    rw [hu]
    exact hg.2.2 u (Nat.zero_le _) (by have := hin.1.2; omega)
  have hV : bt s ((y : Int) + impl_driveIn.dy n) = 101 ∨ bt s ((y : Int) + impl_driveIn.dy n) = 119 := by
    obtain ⟨u, hu⟩ := Int.eq_ofNat_of_zero_le hin.2.1
    rw [hu]
    exact hg.1.2 u (Nat.zero_le _) (by have := hin.2.2; omega)
  obtain ⟨d1, d2⟩ := dx_turn n hn
  unfold impl_driveIn.can
  rw [mapB_size, mapB_size, decide_eq_true hin, d1, d2, decide_eq_true (show (0 ≤ (x : Int) + impl_driveIn.dx n + -impl_driveIn.dx n ∧ (x : Int) + impl_driveIn.dx n + -impl_driveIn.dx n ≤ (t.size : Int) - 1) ∧ (0 ≤ (y : Int) + impl_driveIn.dy n + -impl_driveIn.dy n ∧ (y : Int) + impl_driveIn.dy n + -impl_driveIn.dy n ≤ (s.size : Int) - 1) by omega), bS, bT]
  have c : n = 0 ∨ n = 1 ∨ n = 2 ∨ n = 3 := by omega
  rcases c with rfl | rfl | rfl | rfl
  · simp only [impl_driveIn.dx, impl_driveIn.dy, if_true, Int.add_zero, show (0 : Nat) ≠ 1 by decide, show (0 : Nat) ≠ 2 by decide, if_false] at hU hV ⊢
    rcases hS with a | a <;> rcases hT with b | b <;> rcases hU with e | e <;> simp [impl_driveIn.sg, a, b, e]
  · simp only [impl_driveIn.dx, impl_driveIn.dy, if_true, Int.add_zero, show (1 : Nat) ≠ 0 by decide, show (1 : Nat) ≠ 3 by decide, if_false] at hU hV ⊢
    rcases hS with a | a <;> rcases hT with b | b <;> rcases hV with e | e <;> simp [impl_driveIn.sg, a, b, e]
  · simp only [impl_driveIn.dx, impl_driveIn.dy, if_true, Int.add_zero, show (2 : Nat) ≠ 0 by decide, show (2 : Nat) ≠ 3 by decide, show (2 : Nat) ≠ 1 by decide, if_false] at hU hV ⊢
    rcases hS with a | a <;> rcases hT with b | b <;> rcases hV with e | e <;> simp [impl_driveIn.sg, a, b, e]
  · simp only [impl_driveIn.dx, impl_driveIn.dy, if_true, Int.add_zero, show (3 : Nat) ≠ 0 by decide, show (3 : Nat) ≠ 1 by decide, show (3 : Nat) ≠ 2 by decide, if_false] at hU hV ⊢
    rcases hS with a | a <;> rcases hT with b | b <;> rcases hU with e | e <;> simp [impl_driveIn.sg, a, b, e]
theorem back_stp (s t : ByteArray) (hg : Good s t) (x : Nat × Nat) (n : Nat) (hn : n < 4) (hx : InC s t x) : impl_distancesBy.stp false (mapB ge s) (mapB gn t) x n = impl_distancesBy.stp true s t x n := by
  unfold impl_distancesBy.stp
  rw [mapB_size, mapB_size]
  by_cases hin : (0 ≤ (x.1 : Int) + impl_driveIn.dx n ∧ (x.1 : Int) + impl_driveIn.dx n ≤ (t.size : Int) - 1) ∧ (0 ≤ (x.2 : Int) + impl_driveIn.dy n ∧ (x.2 : Int) + impl_driveIn.dy n ≤ (s.size : Int) - 1)
  · rw [if_neg (show ¬ (false = true) by simp), back_can s t hg x.1 x.2 n hn hx.1 hx.2 hin, if_pos (show true = true from rfl)]
  · rw [if_neg (fun z => hin z.1), if_neg (fun z => hin z.1)]
/-- Distances in turned ways are those to a corner. -/
theorem dist_back (s t : ByteArray) (hg : Good s t) (a : Nat × Nat) (ha : InC s t a) : impl_distancesBy.dist false (mapB ge s) (mapB gn t) a = impl_distancesBy.dist true s t a := by
  have z1 := hg.1.1
  have z2 := hg.2.1
  have hb := good_back hg
  have e : ∀ p, InC (mapB ge s) (mapB gn t) p ↔ InC s t p := fun p => by unfold InC; rw [mapB_size, mapB_size]
  obtain ⟨h1, h2, -⟩ := far_ex false (mapB ge s) (mapB gn t) (by rw [mapB_size]; omega) (by rw [mapB_size]; omega) a ((e a).2 ha)
  obtain ⟨k1, k2, -⟩ := far_ex true s t (by omega) (by omega) a ha
  refine (far_in h1 (InC s t) (fun c hc => (e c).1 (h2 c hc))).uniq ((far_in k1 _ k2).congr (fun x y => ?_))
  constructor
  · rintro ⟨hx, hy, n, hn, hs⟩
    exact ⟨hx, hy, n, hn, by rw [back_stp s t hg x n hn hx]; exact hs⟩
  · rintro ⟨hx, hy, n, hn, hs⟩
    exact ⟨hx, hy, n, hn, by rw [← back_stp s t hg x n hn hx]; exact hs⟩
theorem zz (s t : ByteArray) (hg : Good s t) : ([0, 0] : List Int).length = 2 ∧ impl_driveIn.At s t (rd [0, 0] 0) (rd [0, 0] 1) := by
  have z1 := hg.1.1
  have z2 := hg.2.1
  refine ⟨rfl, ?_⟩
  show impl_driveIn.At s t 0 0
  unfold impl_driveIn.At
  omega
/-- Whether ways are whole. -/
def Whole (s t : ByteArray) : Bool := decide (Rch false s t (0, 0) = ((t.size * s.size : Nat) : Int)) && decide (Rch true s t (0, 0) = ((t.size * s.size : Nat) : Int))
theorem owWhole_f (s t : ByteArray) (hg : Good s t) : Ev (fun k => spec_owWhole.f k s t) (Whole s t) := by
  have z1 := hg.1.1
  have z2 := hg.2.1
  have hm : t.size * s.size ≤ 64 := Nat.le_trans (Nat.mul_le_mul z2.2 z1.2) (by decide)
  have em : wrap64 ((s.size : Int) * (t.size : Int)) = ((t.size * s.size : Nat) : Int) := by
    rw [← Int.natCast_mul, Nat.mul_comm, w64] <;> omega
  unfold spec_owWhole.f Whole
  refine bindSome rfl (bind (owReached_f s t hg [0, 0] (zz s t hg)) ?_)
  rw [em]
  have e0 : crn [0, 0] = (0, 0) := rfl
  rw [e0]
  by_cases c : Rch false s t (0, 0) = ((t.size * s.size : Nat) : Int)
  · refine pos c (bind (owBack_f s t (by omega) (by omega)) (bind (owReached_f _ _ (good_back hg) [0, 0] (zz _ _ (good_back hg))) (conv (now _) ?_)))
    rw [e0, decide_eq_true c, Bool.true_and]
    unfold Rch
    rw [dist_back s t hg (0, 0) ⟨by omega, by omega⟩, mapB_size, mapB_size]
    rfl
  · exact neg c (conv (now _) (by rw [decide_eq_false c]; rfl))
theorem isWhole_f (s t : ByteArray) (hg : Good s t) : Ev (fun k => impl_isWholeWays.f k s t) (Whole s t) := by
  have z1 := hg.1.1
  have z2 := hg.2.1
  have hm : t.size * s.size ≤ 64 := Nat.le_trans (Nat.mul_le_mul z2.2 z1.2) (by decide)
  have em : wrap64 ((t.size : Int) * (s.size : Int)) = ((t.size * s.size : Nat) : Int) := by
    rw [← Int.natCast_mul, w64] <;> omega
  unfold impl_isWholeWays.f Whole impl_driveIn.f
  have e0 : crn [0, 0] = (0, 0) := rfl
  have h1 := drivesTo_some s t hg [0, 0] (zz s t hg)
  have h2 := dists_some s t hg [0, 0] (zz s t hg).1 (zz s t hg).2 false
  rw [e0] at h1 h2
  refine bindSome rfl (bind h1 (bind (reached_tab s t hg true (0, 0)) ?_))
  rw [em]
  by_cases c : Rch true s t (0, 0) = ((t.size * s.size : Nat) : Int)
  · refine pos c (bindSome rfl (bind h2 (bind (reached_tab s t hg false (0, 0)) (conv (now _) ?_))))
    rw [decide_eq_true c, Bool.and_true]
    rfl
  · exact neg c (conv (now _) (by rw [decide_eq_false c, Bool.and_false]))

theorem FnExactIsWholeWays : laws_FnExactIsWholeWays.Pure := by
  intro s t hs ht
  refine Ev.rounds ?_
  unfold laws_FnExactIsWholeWays.f laws_toWays.f
  obtain ⟨v, hv, hn⟩ := szWays_f s t hs ht
  refine bindSome hv ?_
  by_cases c : v < 0
  · exact pos c (now _)
  refine neg c ?_
  have hz := hn c
  have both : ∃ v, Ev (fun k => spec_IsWholeWays.f k s t) v ∧ Ev (fun k => impl_IsWholeWays.f k s t) v := by
    unfold spec_IsWholeWays.f impl_IsWholeWays.f
    by_cases g : good s t = true
    · have G := (good_iff s t).1 g
      exact ⟨_, bind (spec_owGood_f s t hs ht) (pos g (bind (owWhole_f s t G) (now _))), bind (impl_AreWays_f s t hs ht) (pos g (bind (isWhole_f s t G) (now _)))⟩
    · exact ⟨_, bind (spec_owGood_f s t hs ht) (neg g (now _)), bind (impl_AreWays_f s t hs ht) (neg g (now _))⟩
  obtain ⟨r, h1, h2⟩ := both
  simp only [Option.bind_some]
  exact bind h1 (bind h2 (neg (by simp) (neg (by simp) (now _))))

end Go.Proofs.Ytopbmiedlpkmjaa.Pure
