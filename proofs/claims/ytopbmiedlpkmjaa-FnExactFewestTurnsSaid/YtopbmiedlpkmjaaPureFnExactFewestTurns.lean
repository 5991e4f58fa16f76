/- The plain law of FnExactFewestTurns: what the printed functions compute answers true at every input within the bounds that the print tells. -/
import Derived.Test.YtopbmiedlpkmjaaMRx9
import Derived.Test.YtopbmiedlpkmjaaLib
namespace Go.Proofs.Ytopbmiedlpkmjaa.Pure
open Go.RowKit Go.Proofs.Ytopbmiedlpkmjaa.MR Go.Proofs.YtopbmiedlpkmjaaW.PrintWords Go.Proofs.YtopbmiedlpkmjaaW.PrintLast Go.Proofs.YtopbmiedlpkmjaaW.PrintMore Go.Proofs.Ytopbmiedlpkmjaa.Lib
set_option linter.unusedVariables false
set_option linter.unusedSimpArgs false

theorem spec_in (a b c : Int) : spec_l1In.f a b c = some (decide (b ≤ a ∧ a ≤ c)) := by
  unfold spec_l1In.f
  by_cases h : a ≥ b
  · rw [if_pos h]; simp [show b ≤ a from h]
  · rw [if_neg h]; simp [show ¬ b ≤ a from h]
theorem impl_in (a b c : Int) : impl_within.f a b c = some (decide (b ≤ a ∧ a ≤ c)) := by
  unfold impl_within.f
  by_cases h : a ≥ b
  · rw [if_pos h]; simp [show b ≤ a from h]
  · rw [if_neg h]; simp [show ¬ b ≤ a from h]
/-- Two signs alone from one on. -/
def Signs (s : ByteArray) (a b : Int) (i : Nat) : Prop := ∀ j : Nat, i ≤ j → j < s.size → bt s j = a ∨ bt s j = b
theorem signs_end (s : ByteArray) (a b : Int) : Signs s a b s.size := fun j h1 h2 => by omega
theorem signs_step (s : ByteArray) (a b : Int) (i : Nat) (hi : i < s.size) : Signs s a b i ↔ (bt s i = a ∨ bt s i = b) ∧ Signs s a b (i + 1) := by
  constructor
  · intro g; exact ⟨g i (Nat.le_refl _) hi, fun j h1 h2 => g j (by omega) h2⟩
  · rintro ⟨g, r⟩ j h1 h2
    by_cases e : j = i
    · subst e; exact g
    · exact r j (by omega) h2
/-- The signs of ways in one direction. -/
def Way (s : ByteArray) (a b : Int) : Prop := (2 ≤ s.size ∧ s.size ≤ 8) ∧ Signs s a b 0
/-- Ways. -/
def Good (s t : ByteArray) : Prop := Way s 101 119 ∧ Way t 110 115
open Classical in
noncomputable def good (s t : ByteArray) : Bool := decide (Good s t)
theorem good_iff (s t : ByteArray) : good s t = true ↔ Good s t := by unfold good; simp
open Classical in
theorem spec_owText_l0 (s : ByteArray) (a b : Int) (hs : s.size ≤ 9223372036854775807) : ∀ i : Nat, i ≤ s.size → Ev (fun k => spec_owText.l0 k s a b i) (decide (Signs s a b i)) := by
  refine down s.size ?_ ?_
  · refine succ ?_
    simp only [spec_owText.l0]
    exact neg (by omega) (conv (now _) (by simp [signs_end]))
  · intro i hi ih
    refine succ ?_
    simp only [spec_owText.l0]
    rw [wnat (by omega)]
    refine pos (by omega) (pos (by omega) ?_)
    by_cases c1 : bt s i = a
    · exact pos c1 (conv ih (by rw [decide_eq_decide, signs_step s a b i hi]; exact ⟨fun g => ⟨.inl c1, g⟩, fun g => g.2⟩))
    · refine neg c1 ?_
      by_cases c2 : bt s i = b
      · exact pos c2 (conv ih (by rw [decide_eq_decide, signs_step s a b i hi]; exact ⟨fun g => ⟨.inr c2, g⟩, fun g => g.2⟩))
      · exact neg c2 (conv (now _) (Eq.symm (decide_eq_false (by rw [signs_step s a b i hi]; exact fun g => g.1.elim c1 c2))))
open Classical in
theorem spec_owText_f (s : ByteArray) (a b : Int) (hs : s.size ≤ 9223372036854775807) : Ev (fun k => spec_owText.f k s a b) (decide (Way s a b)) := by
  unfold spec_owText.f
  simp only [spec_in, Option.bind_some]
  by_cases c : 2 ≤ (s.size : Int) ∧ (s.size : Int) ≤ 8
  · refine pos (by simpa using c) (conv (spec_owText_l0 s a b hs 0 (by omega)) ?_)
    rw [decide_eq_decide]
    exact ⟨fun g => ⟨by omega, g⟩, fun g => g.2⟩
  · exact neg (by simpa using c) (conv (now _) (Eq.symm (decide_eq_false (fun g => c (by have := g.1; omega)))))
open Classical in
theorem spec_owGood_f (s t : ByteArray) (hs : s.size ≤ 9223372036854775807) (ht : t.size ≤ 9223372036854775807) : Ev (fun k => spec_owGood.f k s t) (good s t) := by
  unfold spec_owGood.f
  refine bind (spec_owText_f s _ _ hs) ?_
  by_cases c : Way s 101 119
  · refine pos (by simpa using c) (conv (bind (spec_owText_f t _ _ ht) (now _)) ?_)
    unfold good Good
    rw [decide_eq_decide]
    exact ⟨fun g => ⟨c, g⟩, fun g => g.2⟩
  · refine neg (by simpa using c) (conv (now _) ?_)
    exact Eq.symm (decide_eq_false (fun g => c g.1))
theorem indexByte_two (a b : UInt8) (x : Int) (h0 : 0 ≤ x) (h1 : x ≤ 255) : Go.Lib.indexByte [a, b] x.toNat.toUInt8 < 0 ↔ ¬ (x = (a.toNat : Int) ∨ x = (b.toNat : Int)) := by
  have hx : x.toNat.toUInt8.toNat = x.toNat := by simp; omega
  have ea : (a == x.toNat.toUInt8) = decide (x = (a.toNat : Int)) := by
    rw [Bool.eq_iff_iff, beq_iff_eq, decide_eq_true_eq, ← UInt8.toNat_inj, hx]; omega
  have eb : (b == x.toNat.toUInt8) = decide (x = (b.toNat : Int)) := by
    rw [Bool.eq_iff_iff, beq_iff_eq, decide_eq_true_eq, ← UInt8.toNat_inj, hx]; omega
  simp only [Go.Lib.indexByte, ea, eb]
  by_cases c1 : x = (a.toNat : Int)
  · rw [if_pos (by simpa using c1)]
    simp [c1]
  · rw [if_neg (by simpa using c1)]
    by_cases c2 : x = (b.toNat : Int)
    · have e : decide (x = (b.toNat : Int)) = true := by simpa using c2
      rw [e]
      simp [c2]
    · have e : decide (x = (b.toNat : Int)) = false := by simpa using c2
      rw [e]
      simp [c1, c2]
open Classical in
theorem impl_areSigns_l0 (s : ByteArray) (a b : UInt8) (hs : s.size ≤ 9223372036854775807) : ∀ i : Nat, i ≤ s.size → Ev (fun k => impl_areSigns.l0 k s ⟨#[a, b]⟩ s.size i) (decide (Signs s a.toNat b.toNat i ∧ 2 ≤ s.size ∧ s.size ≤ 8)) := by
  refine down s.size ?_ ?_
  · refine succ ?_
    simp only [impl_areSigns.l0, impl_in, Option.bind_some]
    refine neg (by omega) (conv (now _) ?_)
    rw [decide_eq_decide]
    exact ⟨fun g => ⟨signs_end _ _ _, by omega⟩, fun g => by have := g.2; omega⟩
  · intro i hi ih
    refine succ ?_
    simp only [impl_areSigns.l0, strings_IndexByte.f, Option.bind_some]
    rw [wnat (by omega)]
    refine pos (by omega) (pos (by omega) (pos (by omega) ?_))
    have hr := bt_range s i
    have e := indexByte_two a b (bt s i) hr.1 hr.2
    by_cases c : bt s i = (a.toNat : Int) ∨ bt s i = (b.toNat : Int)
    · refine neg (fun g => e.1 g c) (conv ih ?_)
      rw [decide_eq_decide, signs_step s _ _ i hi]
      exact ⟨fun g => ⟨⟨c, g.1⟩, g.2⟩, fun g => ⟨g.1.2, g.2⟩⟩
    · refine pos (e.2 c) (conv (now _) (Eq.symm (decide_eq_false ?_)))
      rw [signs_step s _ _ i hi]
      exact fun g => c g.1.1
open Classical in
theorem impl_areSigns_f (s : ByteArray) (a b : UInt8) (hs : s.size ≤ 9223372036854775807) : Ev (fun k => impl_areSigns.f k s ⟨#[a, b]⟩) (decide (Way s a.toNat b.toNat)) := by
  unfold impl_areSigns.f
  refine conv (impl_areSigns_l0 s a b hs 0 (by omega)) ?_
  rw [decide_eq_decide]
  exact ⟨fun g => ⟨g.2, g.1⟩, fun g => ⟨g.2, g.1⟩⟩
open Classical in
theorem impl_AreWays_f (s t : ByteArray) (hs : s.size ≤ 9223372036854775807) (ht : t.size ≤ 9223372036854775807) : Ev (fun k => impl_AreWays.f k s t) (good s t) := by
  unfold impl_AreWays.f
  refine bind (impl_areSigns_f s 101 119 hs) ?_
  by_cases c : Way s 101 119
  · refine pos (by simpa using c) (conv (bind (impl_areSigns_f t 110 115 ht) (now _)) ?_)
    unfold good Good
    rw [decide_eq_decide]
    exact ⟨fun g => ⟨c, g⟩, fun g => g.2⟩
  · refine neg (by simpa using c) (conv (now _) ?_)
    exact Eq.symm (decide_eq_false (fun g => c g.1))

theorem szWays_f (s t : ByteArray) (hs : s.size ≤ 9223372036854775807) (ht : t.size ≤ 9223372036854775807) : ∃ v, laws_szWays.f s t 1048576 = some v ∧ (¬ v < 0 → s.size ≤ 1048576 ∧ t.size ≤ 1048576) := by
  unfold laws_szWays.f
  rw [w64 (show -9223372036854775808 ≤ (1048576 : Int) - (s.size : Int) by omega) (by omega)]
  by_cases c : (1048576 : Int) - (s.size : Int) < 0
  · exact ⟨-1, by rw [if_pos c], by omega⟩
  · rw [if_neg c, w64 (by omega) (by omega)]
    by_cases d : (1048576 : Int) - (s.size : Int) - (t.size : Int) < 0
    · exact ⟨-1, by rw [if_pos d], by omega⟩
    · exact ⟨_, by rw [if_neg d], fun _ => by omega⟩

theorem toIntS_l0 (xs : List Int) (hx : xs.length ≤ 35184372088832) : ∀ i : Nat, i ≤ xs.length → ∀ ys : List Int, ys.length = xs.length → (∀ j : Nat, j < i → ys.getD j 0 = xs.getD j 0) → Ev (fun k => laws_toIntS.l0 k xs ys i) xs := by
  refine down xs.length ?_ ?_
  · intro ys hl hy
    refine succ ?_
    simp only [laws_toIntS.l0]
    refine neg (by omega) (conv (now _) ?_)
    refine List.ext_getElem hl (fun j h1 h2 => ?_)
    have := hy j h2
    simpa [h1, h2] using this
  · intro i hi ih ys hl hy
    refine succ ?_
    simp only [laws_toIntS.l0]
    rw [wnat (by omega)]
    refine pos (by omega) (pos (by omega) (pos (by omega) ?_))
    refine ih _ (by simp [hl]) (fun j hj => ?_)
    simp only [Int.toNat_natCast, rd_nat]
    by_cases e : j = i
    · subst e
      simp [hl, hi]
    · rw [List.getD_eq_getElem?_getD, List.getElem?_set_ne (Ne.symm e), ← List.getD_eq_getElem?_getD]
      exact hy j (by omega)
theorem toIntS_f (xs : List Int) (hx : xs.length ≤ 35184372088832) : Ev (fun k => laws_toIntS.f k xs) xs := by
  unfold laws_toIntS.f
  refine pos (by omega) (pos (by omega) ?_)
  exact toIntS_l0 xs hx 0 (by omega) _ (by simp) (fun j hj => by omega)
theorem eqIntS_l0 (xs ys : List Int) (hx : xs.length ≤ 35184372088832) (hl : xs.length = ys.length) : ∀ i : Nat, i ≤ xs.length → Ev (fun k => laws_eqIntS.l0 k xs ys i) (decide (xs.drop i = ys.drop i)) := by
  refine down xs.length ?_ ?_
  · refine succ ?_
    simp only [laws_eqIntS.l0]
    exact neg (by omega) (conv (now _) (by simp [hl]))
  · intro i hi ih
    refine succ ?_
    simp only [laws_eqIntS.l0]
    rw [wnat (by omega)]
    refine pos (by omega) (pos (by omega) (pos (by omega) ?_))
    rw [rd_lt xs i hi, rd_lt ys i (by omega)]
    by_cases e : xs[i] = ys[i]'(by omega)
    · exact pos e (conv ih (by rw [decide_eq_decide, drop_iff hi (by omega)]; exact ⟨fun h => ⟨e, h⟩, fun h => h.2⟩))
    · exact neg e (conv (now _) (Eq.symm (decide_eq_false (by rw [drop_iff hi (by omega)]; exact fun h => e h.1))))
theorem eqIntS_f (xs ys : List Int) (hx : xs.length ≤ 35184372088832) : Ev (fun k => laws_eqIntS.f k xs ys) (decide (xs = ys)) := by
  unfold laws_eqIntS.f
  by_cases e : xs.length = ys.length
  · exact pos (by omega) (conv (eqIntS_l0 xs ys hx e 0 (by omega)) (by simp))
  · exact neg (by omega) (conv (now _) (by simp; intro h; exact e (by rw [h])))
theorem eqIntS_same (xs : List Int) (hx : xs.length ≤ 35184372088832) : Ev (fun k => laws_eqIntS.f k xs xs) true := conv (eqIntS_f xs xs hx) (by simp)

theorem flat_len (W H : Nat) (d : Nat × Nat → Int) : (spec_owFar.flat W H d).length = W * H := by simp [spec_owFar.flat]
theorem tab_len (W H : Nat) (d : Nat × Nat → Int) : (impl_distancesBy.tab W H d).length = W := by simp [impl_distancesBy.tab]
/-- A corner of ways. -/
def InC (s t : ByteArray) (p : Nat × Nat) : Prop := p.1 < t.size ∧ p.2 < s.size
theorem stp_some {back : Bool} {s t : ByteArray} {p : Nat × Nat} {n : Nat} {c : Nat × Nat} (h : impl_distancesBy.stp back s t p n = some c) :
    (c.1 : Int) = (p.1 : Int) + impl_driveIn.dx n ∧ (c.2 : Int) = (p.2 : Int) + impl_driveIn.dy n ∧ InC s t c ∧ (if back = true then impl_driveIn.can s t ((p.1 : Int) + impl_driveIn.dx n) ((p.2 : Int) + impl_driveIn.dy n) (3 - n) else impl_driveIn.can s t p.1 p.2 n) = true := by
  unfold impl_distancesBy.stp at h
  obtain ⟨⟨h0, h1⟩, h2⟩ := Option.ite_none_right_eq_some.1 h
  injection h2 with h2
  subst h2
  refine ⟨Int.toNat_of_nonneg h0.1.1, Int.toNat_of_nonneg h0.2.1, ⟨?_, ?_⟩, h1⟩
  · show (Int.toNat _) < _
    omega
  · show (Int.toNat _) < _
    omega
theorem far_ex (back : Bool) (s t : ByteArray) (hs : s.size ≤ 8) (ht : t.size ≤ 8) (a : Nat × Nat) (ha : InC s t a) : Far (Leads (impl_distancesBy.stp back s t)) a (impl_distancesBy.dist back s t a) ∧ (∀ c, 0 ≤ impl_distancesBy.dist back s t a c → InC s t c) ∧ ∀ c, impl_distancesBy.dist back s t a c ≤ 64 := by
  obtain ⟨d, h1, h2, h3⟩ := Bfs.run (st := impl_distancesBy.stp back s t) (a := a) (InC s t) ha (fun p n c _ h => (stp_some h).2.2.1) (fun p => p.1 * 8 + p.2) 64 (fun x y hx hy e => Prod.ext (by have := hx.2; have := hy.2; have e' : x.1 * 8 + x.2 = y.1 * 8 + y.2 := e; omega) (by have := hx.2; have := hy.2; have e' : x.1 * 8 + x.2 = y.1 * 8 + y.2 := e; omega)) (fun x hx => by have := hx.1; have := hx.2; show x.1 * 8 + x.2 < 64; omega)
  have e : impl_distancesBy.dist back s t a = d := h1.the _ (fun p hp => impl_distancesBy.mem_nodes (h2 p hp)) 64 h3
  rw [e]
  exact ⟨h1, h2, h3⟩
theorem far_in {α : Type} {E : α → α → Prop} {a : α} {d : α → Int} (h : Far E a d) (V : α → Prop) (hV : ∀ c, 0 ≤ d c → V c) : Far (fun x y => V x ∧ V y ∧ E x y) a d :=
  ⟨h.zero, h.low, fun c c' z e => h.next c c' z e.2.2, fun c z n => by
    obtain ⟨k, p, hp, hd⟩ := h.back c z n
    exact ⟨k, p, ⟨hV p (by omega), hV c z, hp⟩, hd⟩⟩
theorem dx_turn (n : Nat) (h : n < 4) : impl_driveIn.dx (3 - n) = - impl_driveIn.dx n ∧ impl_driveIn.dy (3 - n) = - impl_driveIn.dy n := by
  have c : n = 0 ∨ n = 1 ∨ n = 2 ∨ n = 3 := by omega
  rcases c with rfl | rfl | rfl | rfl <;> simp [impl_driveIn.dx, impl_driveIn.dy]
theorem leads_turn (s t : ByteArray) (back : Bool) (x y : Nat × Nat) (hx : InC s t x) (h : Leads (impl_distancesBy.stp back s t) x y) : Leads (impl_distancesBy.stp (!back) s t) y x := by
  obtain ⟨n, hn, hs⟩ := h
  obtain ⟨h1, h2, h3, h4⟩ := stp_some hs
  obtain ⟨d1, d2⟩ := dx_turn n hn
  refine ⟨3 - n, by omega, ?_⟩
  have e1 : (y.1 : Int) + impl_driveIn.dx (3 - n) = x.1 := by omega
  have e2 : (y.2 : Int) + impl_driveIn.dy (3 - n) = x.2 := by omega
  unfold impl_distancesBy.stp
  rw [e1, e2, if_pos]
  · simp
  · have := hx.1
    have := hx.2
    refine ⟨⟨⟨by omega, by omega⟩, by omega, by omega⟩, ?_⟩
    rw [show 3 - (3 - n) = n by omega]
    cases back with
    | false => simpa using h4
    | true =>
      rw [if_pos rfl, ← h1, ← h2] at h4
      simpa using h4
theorem dist_turn (s t : ByteArray) (hs : s.size ≤ 8) (ht : t.size ≤ 8) (a b : Nat × Nat) (ha : InC s t a) (hb : InC s t b) : impl_distancesBy.dist false s t a b = impl_distancesBy.dist true s t b a := by
  obtain ⟨h1, h2, -⟩ := far_ex false s t hs ht a ha
  obtain ⟨k1, k2, -⟩ := far_ex true s t hs ht b hb
  exact (far_in h1 _ h2).turn (far_in k1 _ k2) (fun x y => ⟨fun h => ⟨h.2.1, h.1, leads_turn s t false x y h.1 h.2.2⟩, fun h => ⟨h.2.1, h.1, leads_turn s t true y x h.1 h.2.2⟩⟩)
theorem flat_rd (W H : Nat) (d : Nat × Nat → Int) (x y : Nat) (hx : x < W) (hy : y < H) : rd (spec_owFar.flat W H d) ((x * H + y : Nat) : Int) = d (x, y) := by
  have hlt := spec_owFar.cd_lt H W x y hx hy
  rw [rd_lt _ _ (by rw [flat_len]; exact hlt)]
  simp only [spec_owFar.flat, List.getElem_map, List.getElem_range]
  rw [(spec_owFar.cd_div H x y hy).1, (spec_owFar.cd_div H x y hy).2]
theorem tab_row (W H : Nat) (d : Nat × Nat → Int) (x : Nat) (hx : x < W) : rd_L1 (impl_distancesBy.tab W H d) (x : Int) = (List.range H).map fun y => d (x, y) := by
  unfold rd_L1
  rw [Int.toNat_natCast, List.getD_eq_getElem?_getD, List.getElem?_eq_getElem (by rw [tab_len]; exact hx)]
  simp [impl_distancesBy.tab]
theorem tab_rd (W H : Nat) (d : Nat × Nat → Int) (x y : Nat) (hx : x < W) (hy : y < H) : rd (rd_L1 (impl_distancesBy.tab W H d) (x : Int)) (y : Int) = d (x, y) := by
  rw [tab_row W H d x hx, rd_lt _ _ (by simpa using hy)]
  simp
theorem signs_of {s t : ByteArray} (h : Good s t) : spec_owFar.Signs s t :=
  ⟨⟨⟨by have := h.2.1.1; omega, h.2.1.2⟩, by have := h.1.1.1; omega, h.1.1.2⟩, fun j hj => h.1.2 j (Nat.zero_le _) hj, fun j hj => h.2.2 j (Nat.zero_le _) hj⟩
/-- A corner as it is asked for. -/
def crn (xs : List Int) : Nat × Nat := ((rd xs 0).toNat, (rd xs 1).toNat)
theorem crn_in {s t : ByteArray} {xs : List Int} (h : impl_driveIn.At s t (rd xs 0) (rd xs 1)) : InC s t (crn xs) ∧ rd xs 0 = ((crn xs).1 : Int) ∧ rd xs 1 = ((crn xs).2 : Int) := by
  obtain ⟨⟨x0, x1⟩, y0, y1⟩ := h
  refine ⟨⟨?_, ?_⟩, (Int.toNat_of_nonneg x0).symm, (Int.toNat_of_nonneg y0).symm⟩
  · show (rd xs 0).toNat < _
    omega
  · show (rd xs 1).toNat < _
    omega
theorem owFar_some (s t : ByteArray) (hg : Good s t) (xs : List Int) (hl : xs.length = 2) (ha : impl_driveIn.At s t (rd xs 0) (rd xs 1)) : Ev (fun k => spec_owFar.f k s t xs) (spec_owFar.flat t.size s.size (impl_distancesBy.dist false s t (crn xs))) := by
  refine succ ?_
  simp only [spec_owFar.f]
  exact pos ⟨⟨signs_of hg, hl⟩, ha⟩ (now _)
theorem dists_some (s t : ByteArray) (hg : Good s t) (xs : List Int) (hl : xs.length = 2) (ha : impl_driveIn.At s t (rd xs 0) (rd xs 1)) (back : Bool) : Ev (fun k => impl_distancesBy.f k (t.size : Int) (s.size : Int) xs (s, t) back) (impl_distancesBy.tab t.size s.size (impl_distancesBy.dist back s t (crn xs))) := by
  refine succ ?_
  simp only [impl_distancesBy.f]
  exact pos ⟨⟨⟨trivial, trivial⟩, hl⟩, (signs_of hg).1, ha⟩ (now _)

theorem corner_iff (s t : ByteArray) (xs : List Int) : spec_owCorner.corner t.size s.size xs = true ↔ xs.length = 2 ∧ impl_driveIn.At s t (rd xs 0) (rd xs 1) := by
  simp only [spec_owCorner.corner, impl_driveIn.At, Bool.and_eq_true, decide_eq_true_eq]
  omega

theorem owAsked_f (s t : ByteArray) (xs ys : List Int) (hs : s.size ≤ 1048576) (ht : t.size ≤ 1048576) : Ev (fun k => spec_owAsked.f k s t xs ys) (good s t && (spec_owCorner.corner t.size s.size xs && spec_owCorner.corner t.size s.size ys)) := by
  unfold spec_owAsked.f spec_owCorner.f
  refine bind (spec_owGood_f s t (by omega) (by omega)) ?_
  by_cases g : good s t = true
  · rw [g]
    refine pos rfl (bind (pos ⟨hs, ht⟩ (now _)) ?_)
    by_cases c : spec_owCorner.corner t.size s.size xs = true
    · rw [c]
      exact pos rfl (bind (pos ⟨hs, ht⟩ (now _)) (now _))
    · exact neg c (conv (now _) (by simp [c]))
  · exact neg g (conv (now _) (by simp [g]))

theorem areDriven_f (s t : ByteArray) (l : List (List Int)) (hs : s.size ≤ 1048576) (ht : t.size ≤ 1048576) : Ev (fun k => impl_areDriven.f k s t l) (good s t && l.all (spec_owCorner.corner t.size s.size)) := by
  unfold impl_areDriven.f
  refine bind (impl_AreWays_f s t (by omega) (by omega)) ?_
  by_cases g : good s t = true
  · have G := (good_iff s t).1 g
    have z1 := G.1.1
    have z2 := G.2.1
    rw [g]
    exact pos rfl (pos ⟨by omega, by omega⟩ (conv (now _) (by rw [Bool.true_and]; rfl)))
  · exact neg g (conv (now _) (by simp [g]))

theorem owDistance_f (s t : ByteArray) (hg : Good s t) (xs ys : List Int) (hx : xs.length = 2 ∧ impl_driveIn.At s t (rd xs 0) (rd xs 1)) (hy : ys.length = 2 ∧ impl_driveIn.At s t (rd ys 0) (rd ys 1)) : Ev (fun k => spec_owDistance.f k s t xs ys) (impl_distancesBy.dist false s t (crn xs) (crn ys)) := by
  unfold spec_owDistance.f
  obtain ⟨hi, e0, e1⟩ := crn_in hy.2
  refine bind (owFar_some s t hg xs hx.1 hx.2) (pos ⟨⟨⟨hy.1, (signs_of hg).1⟩, hy.2⟩, flat_len _ _ _⟩ (conv (now _) ?_))
  exact flat_rd _ _ _ _ _ hi.1 hi.2
theorem tab_getD (W H : Nat) (d : Nat × Nat → Int) (x : Nat) (hx : x < W) : (impl_distancesBy.tab W H d).getD x [] = (List.range H).map fun y => d (x, y) := by
  rw [List.getD_eq_getElem?_getD, List.getElem?_eq_getElem (by rw [tab_len]; exact hx)]
  simp [impl_distancesBy.tab]

/-- A sign along a street. -/
def axis (n : Nat) : Bool := decide (n = 0 ∨ n = 3)
/-- Where one can be, along a street or an avenue, with at most so many turns. -/
inductive Dr (st : Nat × Nat → Nat → Option (Nat × Nat)) (a : Nat × Nat) : Nat → Nat × Nat → Bool → Prop
  | start (ax : Bool) : Dr st a 0 a ax
  | drive {n : Nat} {p q : Nat × Nat} {m : Nat} (h : Dr st a n p (axis m)) (hm : m < 4) (hs : st p m = some q) : Dr st a n q (axis m)
  | turn {n : Nat} {p : Nat × Nat} {ax : Bool} (h : Dr st a n p ax) : Dr st a (n + 1) p (!ax)
  | more {n : Nat} {p : Nat × Nat} {ax : Bool} (h : Dr st a n p ax) : Dr st a (n + 1) p ax
theorem Dr.up {st : Nat × Nat → Nat → Option (Nat × Nat)} {a : Nat × Nat} {n m : Nat} {p : Nat × Nat} {ax : Bool} (h : Dr st a n p ax) (hm : n ≤ m) : Dr st a m p ax := by
  induction hm with
  | refl => exact h
  | step _ ih => exact ih.more
/-- What is marked of a corner. -/
def Cmp (st : Nat × Nat → Nat → Option (Nat × Nat)) (seen : List (Nat × Nat × Nat)) (p : Nat × Nat) (ax : Bool) : Prop :=
  (∃ m, m < 4 ∧ axis m = ax ∧ (p.1, p.2, m) ∈ seen) ∧ ∀ m r, m < 4 → axis m = ax → st p m = some r → (p.1, p.2, m) ∈ seen
/-- What the steps have to do. -/
structure Steps (W : Nat × Nat → Prop) (s t : ByteArray) (st : Nat × Nat → Nat → Option (Nat × Nat)) : Prop where
  small : ∀ p, W p → p.1 < 8 ∧ p.2 < 8
  stay : ∀ p m q, m < 4 → st p m = some q → W q
  one : ∀ p m q r n, W p → st p m = some q → st q n = some r → m < 4 → n < 4 → axis n = axis m → n = m
  can : ∀ p : Nat × Nat × Nat, W (p.1, p.2.1) → p.2.2 < 4 → st (p.1, p.2.1) p.2.2 = if impl_driveIn.can s t p.1 p.2.1 p.2.2 = true then some ((impl_fewestTurns.mv p).1, (impl_fewestTurns.mv p).2.1) else none
/-- A state of so many turns. -/
def Sta (W : Nat × Nat → Prop) (st : Nat × Nat → Nat → Option (Nat × Nat)) (a : Nat × Nat) (n : Nat) (p : Nat × Nat × Nat) : Prop := W (p.1, p.2.1) ∧ p.2.2 < 4 ∧ Dr st a n (p.1, p.2.1) (axis p.2.2)
theorem states_le {l : List (Nat × Nat × Nat)} (hn : l.Nodup) (h : ∀ p ∈ l, p.1 < 8 ∧ p.2.1 < 8 ∧ p.2.2 < 4) : l.length ≤ 256 := by
  have h1 : (l.map fun p => p.1 * 32 + p.2.1 * 4 + p.2.2).Nodup := by
    rw [List.Nodup, List.pairwise_map]
    refine hn.imp_of_mem (fun {x y} hx hy hxy e => hxy ?_)
    have := h x hx
    have := h y hy
    exact Prod.ext (by omega) (Prod.ext (by omega) (by omega))
  have h3 := nodup_le 256 _ h1 (fun v hv => by
    obtain ⟨p, hp, rfl⟩ := List.mem_map.1 hv
    have := h p hp
    omega)
  simpa using h3
theorem tk_mem {p : Nat × Nat × Nat} (hp : p.2.2 < 4) {r : Nat × Nat × Nat} : r ∈ impl_fewestTurns.tk p 4 ↔ ∃ m, m < 4 ∧ axis m = !axis p.2.2 ∧ r = (p.1, p.2.1, m) := by
  unfold impl_fewestTurns.tk
  simp only [List.mem_map, List.mem_filter, List.mem_range, decide_eq_true_eq]
  obtain ⟨x, y, n⟩ := p
  have c : n = 0 ∨ n = 1 ∨ n = 2 ∨ n = 3 := by simp only at hp; omega
  constructor
  · rintro ⟨m, ⟨hm, h⟩, rfl⟩
    refine ⟨m, hm, ?_, rfl⟩
    have c' : m = 0 ∨ m = 1 ∨ m = 2 ∨ m = 3 := by omega
    rcases c with rfl | rfl | rfl | rfl <;> rcases c' with rfl | rfl | rfl | rfl <;> simp_all [axis]
  · rintro ⟨m, hm, h, rfl⟩
    refine ⟨m, ⟨hm, ?_⟩, rfl⟩
    have c' : m = 0 ∨ m = 1 ∨ m = 2 ∨ m = 3 := by omega
    rcases c with rfl | rfl | rfl | rfl <;> rcases c' with rfl | rfl | rfl | rfl <;> simp_all [axis]
theorem tk_len {p : Nat × Nat × Nat} (hp : p.2.2 < 4) : (impl_fewestTurns.tk p 4).length = 2 := by
  obtain ⟨x, y, n⟩ := p
  have c : n = 0 ∨ n = 1 ∨ n = 2 ∨ n = 3 := by simp only at hp; omega
  rcases c with rfl | rfl | rfl | rfl <;> rfl
theorem first_mem {a : Nat × Nat} {r : Nat × Nat × Nat} : r ∈ impl_fewestTurns.first a 4 ↔ ∃ m, m < 4 ∧ r = (a.1, a.2, m) := by
  unfold impl_fewestTurns.first
  simp only [List.mem_map, List.mem_range]
  exact ⟨fun ⟨m, h, e⟩ => ⟨m, h, e.symm⟩, fun ⟨m, h, e⟩ => ⟨m, h, e.symm⟩⟩
/-- One number of turns under way. -/
structure Lv (W : Nat × Nat → Prop) (st : Nat × Nat → Nat → Option (Nat × Nat)) (a b : Nat × Nat) (t : Nat) (seen0 q0 q : List (Nat × Nat × Nat)) (i : Nat) (seen nx : List (Nat × Nat × Nat)) : Prop where
  qs : ∀ p ∈ q, Sta W st a t p
  ss : ∀ p ∈ seen, Sta W st a t p
  done : ∀ j p, j < i → q[j]? = some p → p ∈ seen
  go : ∀ p ∈ seen, ∀ r, st (p.1, p.2.1) p.2.2 = some r → (r.1, r.2, p.2.2) ∈ seen ∨ (r.1, r.2, p.2.2) ∈ q
  tu : ∀ p ∈ seen, ∀ m, m < 4 → axis m = (!axis p.2.2) → (p.1, p.2.1, m) ∈ seen ∨ (p.1, p.2.1, m) ∈ q ∨ (p.1, p.2.1, m) ∈ nx
  ns : ∀ p ∈ nx, Sta W st a (t + 1) p
  sub : ∀ p ∈ seen0, p ∈ seen
  pre : ∀ p ∈ q0, p ∈ q
  nb : ∀ p ∈ seen, (p.1, p.2.1) ≠ b
  nd : seen.Nodup
  lq : q.length + seen0.length ≤ q0.length + seen.length
  ln : nx.length + 2 * seen0.length ≤ 2 * seen.length
  il : i ≤ q.length
theorem Lv.seen_le {W : Nat × Nat → Prop} {s t' : ByteArray} {st : Nat × Nat → Nat → Option (Nat × Nat)} (hst : Steps W s t' st) {a b : Nat × Nat} {t : Nat} {seen0 q0 q : List (Nat × Nat × Nat)} {i : Nat} {seen nx : List (Nat × Nat × Nat)} (h : Lv W st a b t seen0 q0 q i seen nx) : seen.length ≤ 256 :=
  states_le h.nd (fun p hp => by
    obtain ⟨w, m, -⟩ := h.ss p hp
    have := hst.small _ w
    exact ⟨this.1, this.2, m⟩)
theorem lvl_some {W : Nat × Nat → Prop} {s t' : ByteArray} {st : Nat × Nat → Nat → Option (Nat × Nat)} (hst : Steps W s t' st) {a b : Nat × Nat} {t : Nat} {seen0 q0 : List (Nat × Nat × Nat)} (h0 : q0.length ≤ 512) : ∀ (k : Nat) (q : List (Nat × Nat × Nat)) (i : Nat) (seen nx : List (Nat × Nat × Nat)), Lv W st a b t seen0 q0 q i seen nx → (q.length - i) + 2 * (256 - seen.length) < k →
    ∃ hit seen' nx', impl_fewestTurns.lvl s t' b k q i seen nx = some (hit, seen', nx') ∧ (hit = true → ∃ ax, Dr st a t b ax) ∧ (hit = false → ∃ q', Lv W st a b t seen0 q0 q' q'.length seen' nx') := by
  intro k
  induction k with
  | zero => intro q i seen nx h hk; omega
  | succ k ih =>
    intro q i seen nx h hk
    have hs := h.seen_le hst
    have h1 := h.lq
    have h2 := h.ln
    have hi := h.il
    unfold impl_fewestTurns.lvl
    rw [if_pos ⟨by omega, by omega, by omega, hi⟩]
    by_cases hlt : i < q.length
    · obtain ⟨p, hp⟩ : ∃ p, q[i]? = some p := ⟨q[i], by simp [hlt]⟩
      have hpq : p ∈ q := List.mem_of_getElem? hp
      have hS := h.qs p hpq
      rw [hp]
      simp only
      by_cases hb : p.1 = b.1 ∧ p.2.1 = b.2
      · rw [if_pos hb]
        refine ⟨true, seen, nx, rfl, fun _ => ⟨axis p.2.2, ?_⟩, fun z => by cases z⟩
        have e : (p.1, p.2.1) = b := Prod.ext hb.1 hb.2
        rw [← e]
        exact hS.2.2
      · rw [if_neg hb]
        by_cases hm : p ∈ seen
        · rw [if_pos hm]
          refine ih q (i + 1) seen nx ⟨h.qs, h.ss, fun j r hj hr => ?_, h.go, h.tu, h.ns, h.sub, h.pre, h.nb, h.nd, h.lq, h.ln, by omega⟩ (by omega)
          by_cases e : j = i
          · subst e
            rw [hp] at hr
            obtain rfl := Option.some.inj hr
            exact hm
          · exact h.done j r (by omega) hr
        · rw [if_neg hm]
          have hc := hst.can p hS.1 hS.2.1
          obtain ⟨q', hq'⟩ : ∃ q', q' = (if impl_driveIn.can s t' p.1 p.2.1 p.2.2 = true then q ++ [impl_fewestTurns.mv p] else q) := ⟨_, rfl⟩
          rw [← hq']
          have hsub : ∀ r ∈ q, r ∈ q' := fun r hr => by
            rw [hq']
            split
            · exact List.mem_append_left _ hr
            · exact hr
          have hnth : ∀ j r, j ≤ i → q'[j]? = some r → q[j]? = some r := fun j r hj hr => by
            rw [hq'] at hr
            split at hr
            · rwa [List.getElem?_append_left (by omega)] at hr
            · exact hr
          have hql : q'.length ≤ q.length + 1 ∧ q.length ≤ q'.length := by
            rw [hq']
            split
            · simp
            · exact ⟨by omega, by omega⟩
          have hnew : ∀ r, st (p.1, p.2.1) p.2.2 = some r → (r.1, r.2, p.2.2) ∈ q' := fun r hr => by
            rw [hc] at hr
            rw [hq']
            split at hr
            · rename_i hcan
              rw [if_pos hcan]
              obtain rfl := Option.some.inj hr
              exact List.mem_append_right _ (by simp [impl_fewestTurns.mv])
            · cases hr
          have hqs : ∀ r ∈ q', Sta W st a t r := fun r hr => by
            rw [hq'] at hr
            split at hr
            · rename_i hcan
              rcases List.mem_append.1 hr with hr | hr
              · exact h.qs r hr
              · have e : r = impl_fewestTurns.mv p := by simpa using hr
                subst e
                rw [if_pos hcan] at hc
                exact ⟨hst.stay _ _ _ hS.2.1 hc, hS.2.1, Dr.drive hS.2.2 hS.2.1 hc⟩
            · exact h.qs r hr
          have hns : seen.length < 256 := by
            have z := states_le (l := p :: seen) (List.nodup_cons.2 ⟨hm, h.nd⟩) (fun r hr => by
              have hr' : Sta W st a t r := (List.mem_cons.1 hr).elim (fun e => e ▸ hS) (fun e => h.ss r e)
              have := hst.small _ hr'.1
              exact ⟨this.1, this.2, hr'.2.1⟩)
            simp at z
            omega
          refine ih q' (i + 1) (p :: seen) (nx ++ impl_fewestTurns.tk p 4) ⟨hqs, ?_, ?_, ?_, ?_, ?_, ?_, ?_, ?_, ?_, ?_, ?_, by omega⟩ (by simp only [List.length_cons]; omega)
          · exact fun r hr => (List.mem_cons.1 hr).elim (fun e => e ▸ hS) (fun e => h.ss r e)
          · intro j r hj hr
            have hr' := hnth j r (by omega) hr
            by_cases e : j = i
            · subst e
              rw [hp] at hr'
              obtain rfl := Option.some.inj hr'
              exact List.mem_cons_self
            · exact List.mem_cons_of_mem _ (h.done j r (by omega) hr')
          · intro r hr z hz
            rcases List.mem_cons.1 hr with e | hr
            · subst e
              exact .inr (hnew z hz)
            · exact (h.go r hr z hz).imp (List.mem_cons_of_mem _) (hsub _)
          · intro r hr m hm4 hax
            rcases List.mem_cons.1 hr with e | hr
            · subst e
              exact .inr (.inr (List.mem_append_right _ ((tk_mem hS.2.1).2 ⟨m, hm4, hax, rfl⟩)))
            · rcases h.tu r hr m hm4 hax with z | z | z
              · exact .inl (List.mem_cons_of_mem _ z)
              · exact .inr (.inl (hsub _ z))
              · exact .inr (.inr (List.mem_append_left _ z))
          · intro r hr
            rcases List.mem_append.1 hr with hr | hr
            · exact h.ns r hr
            · obtain ⟨m, hm4, hax, rfl⟩ := (tk_mem hS.2.1).1 hr
              refine ⟨hS.1, hm4, ?_⟩
              show Dr st a (t + 1) (p.1, p.2.1) (axis m)
              rw [hax]
              exact hS.2.2.turn
          · exact fun r hr => List.mem_cons_of_mem _ (h.sub r hr)
          · exact fun r hr => hsub _ (h.pre r hr)
          · intro r hr
            rcases List.mem_cons.1 hr with e | hr
            · subst e
              intro e2
              exact hb ⟨congrArg Prod.fst e2, congrArg Prod.snd e2⟩
            · exact h.nb r hr
          · exact List.nodup_cons.2 ⟨hm, h.nd⟩
          · simp only [List.length_cons]; omega
          · simp only [List.length_cons, List.length_append, tk_len hS.2.1]; omega
    · have hp : q[i]? = none := List.getElem?_eq_none (by omega)
      rw [hp]
      refine ⟨false, seen, nx, rfl, fun z => Bool.noConfusion z, fun _ => ⟨q, ?_⟩⟩
      have e : q.length = i := by omega
      rw [e]
      exact h
/-- Ahead of a number of turns. -/
structure En (W : Nat × Nat → Prop) (st : Nat × Nat → Nat → Option (Nat × Nat)) (a b : Nat × Nat) (t : Nat) (now seen : List (Nat × Nat × Nat)) : Prop where
  ss : ∀ p ∈ seen, Sta W st a t p
  go : ∀ p ∈ seen, ∀ r, st (p.1, p.2.1) p.2.2 = some r → (r.1, r.2, p.2.2) ∈ seen
  tu : ∀ p ∈ seen, ∀ m, m < 4 → axis m = (!axis p.2.2) → (p.1, p.2.1, m) ∈ seen ∨ (p.1, p.2.1, m) ∈ now
  ns : ∀ p ∈ now, Sta W st a t p
  st0 : ∀ m, m < 4 → (a.1, a.2, m) ∈ seen ∨ (a.1, a.2, m) ∈ now
  nb : ∀ p ∈ seen, (p.1, p.2.1) ≠ b
  nd : seen.Nodup
  cm : ∀ u, u + 1 = t → ∀ p ax, Dr st a u p ax → Cmp st seen p ax
  ln : now.length ≤ 512
  few : t ≤ seen.length + (if now = [] then 1 else 0)
theorem axis_ex (ax : Bool) : ∃ m, m < 4 ∧ axis m = ax := by
  cases ax
  · exact ⟨1, by omega, rfl⟩
  · exact ⟨0, by omega, rfl⟩
theorem cmp_drive {W : Nat × Nat → Prop} {s t' : ByteArray} {st : Nat × Nat → Nat → Option (Nat × Nat)} (hst : Steps W s t' st) {seen : List (Nat × Nat × Nat)} (hss : ∀ p ∈ seen, W (p.1, p.2.1)) (hgo : ∀ p ∈ seen, ∀ r, st (p.1, p.2.1) p.2.2 = some r → (r.1, r.2, p.2.2) ∈ seen) {p q : Nat × Nat} {m : Nat} (hm : m < 4) (hs : st p m = some q) (h : Cmp st seen p (axis m)) : Cmp st seen q (axis m) := by
  have h1 := h.2 m q hm rfl hs
  have h2 := hgo _ h1 q hs
  refine ⟨⟨m, hm, rfl, h2⟩, fun n r hn hax hr => ?_⟩
  obtain rfl := hst.one p m q r n (hss _ h1) hs hr hm hn hax
  exact h2
theorem cmp_all {st : Nat × Nat → Nat → Option (Nat × Nat)} {seen : List (Nat × Nat × Nat)} {p : Nat × Nat} {ax : Bool} (h : ∀ m, m < 4 → axis m = ax → (p.1, p.2, m) ∈ seen) : Cmp st seen p ax := by
  obtain ⟨m, hm, he⟩ := axis_ex ax
  exact ⟨⟨m, hm, he, h m hm he⟩, fun n r hn hax _ => h n hn hax⟩
theorem En.last {W : Nat × Nat → Prop} {s t' : ByteArray} {st : Nat × Nat → Nat → Option (Nat × Nat)} (hst : Steps W s t' st) {a b : Nat × Nat} {t : Nat} {seen : List (Nat × Nat × Nat)} (h : En W st a b t [] seen) {n : Nat} {p : Nat × Nat} {ax : Bool} (hd : Dr st a n p ax) : Cmp st seen p ax := by
  induction hd with
  | start ax => exact cmp_all (fun m hm _ => (h.st0 m hm).elim id (fun z => by cases z))
  | drive _ hm hs ih => exact cmp_drive hst (fun p hp => (h.ss p hp).1) h.go hm hs ih
  | turn _ ih =>
    obtain ⟨⟨m, hm, he, hp⟩, -⟩ := ih
    exact cmp_all (fun n hn hax => (h.tu _ hp n hn (by rw [hax, ← he])).elim id (fun z => by cases z))
  | more _ ih => exact ih
theorem En.next {W : Nat × Nat → Prop} {s t' : ByteArray} {st : Nat × Nat → Nat → Option (Nat × Nat)} (hst : Steps W s t' st) {a b : Nat × Nat} {t : Nat} {now seen q seen' nx' : List (Nat × Nat × Nat)} (h : En W st a b t now seen) (hn : now ≠ []) (hl : Lv W st a b t seen now q q.length seen' nx') : En W st a b (t + 1) nx' seen' := by
  have hq : ∀ p ∈ q, p ∈ seen' := fun p hp => by
    obtain ⟨j, hj, e⟩ := List.mem_iff_getElem.1 hp
    exact hl.done j p hj (by rw [← e]; simp [hj])
  have hgo : ∀ p ∈ seen', ∀ r, st (p.1, p.2.1) p.2.2 = some r → (r.1, r.2, p.2.2) ∈ seen' := fun p hp r hr => (hl.go p hp r hr).elim id (hq _)
  have h1 := hl.ln
  have h2 := hl.seen_le hst
  have h3 := h.few
  rw [if_neg hn] at h3
  refine ⟨fun p hp => ⟨(hl.ss p hp).1, (hl.ss p hp).2.1, (hl.ss p hp).2.2.more⟩, hgo, fun p hp m hm hax => ?_, hl.ns, fun m hm => .inl ?_, hl.nb, hl.nd, ?_, by omega, ?_⟩
  · rcases hl.tu p hp m hm hax with z | z | z
    · exact .inl z
    · exact .inl (hq _ z)
    · exact .inr z
  · exact (h.st0 m hm).elim (hl.sub _) (fun z => hq _ (hl.pre _ z))
  · intro u hu p ax hd
    obtain rfl : u = t := by omega
    clear hu
    have key : ∀ n p ax, Dr st a n p ax → n ≤ u → Cmp st seen' p ax := by
      intro n p ax hd
      induction hd with
      | start ax => exact fun _ => cmp_all (fun m hm _ => (h.st0 m hm).elim (hl.sub _) (fun z => hq _ (hl.pre _ z)))
      | drive _ hm hs ih => exact fun hu => cmp_drive hst (fun p hp => (hl.ss p hp).1) hgo hm hs (ih hu)
      | turn hd2 _ =>
        intro hu
        obtain ⟨v, rfl⟩ : ∃ v, u = v + 1 := ⟨u - 1, by omega⟩
        obtain ⟨⟨m, hm, he, hp⟩, -⟩ := h.cm v rfl _ _ (hd2.up (m := v) (by omega))
        exact cmp_all (fun n hn hax => (h.tu _ hp n hn (by rw [hax, ← he])).elim (hl.sub _) (fun z => hq _ (hl.pre _ z)))
      | more _ ih => exact fun hu => ih (by omega)
    exact key u p ax hd (Nat.le_refl _)
  · by_cases e : nx' = []
    · rw [if_pos e]
      have : seen.length ≤ seen'.length := by omega
      omega
    · rw [if_neg e]
      have : 0 < nx'.length := List.length_pos_iff.2 e
      omega
/-- The least number of turns, told. -/
def Fewest (st : Nat × Nat → Nat → Option (Nat × Nat)) (a b : Nat × Nat) (v : Int × Bool) : Prop :=
  (∃ T : Nat, v = ((T : Int), true) ∧ T ≤ 1000 ∧ (∃ ax, Dr st a T b ax) ∧ ∀ u, u < T → ∀ ax, ¬ Dr st a u b ax) ∨ (v = (0, false) ∧ ∀ u ax, ¬ Dr st a u b ax)
theorem run_some {W : Nat × Nat → Prop} {s t' : ByteArray} {st : Nat × Nat → Nat → Option (Nat × Nat)} (hst : Steps W s t' st) {a b : Nat × Nat} : ∀ (m t : Nat) (now seen : List (Nat × Nat × Nat)), En W st a b t now seen → 300 ≤ t + m → ∃ v, Fewest st a b v ∧ ∀ k, 3000 ≤ k + t → impl_fewestTurns.run s t' b k t now seen = some v := by
  intro m
  induction m with
  | zero =>
    intro t now seen h hm
    have h1 := states_le h.nd (fun p hp => by
      obtain ⟨w, m, -⟩ := h.ss p hp
      have := hst.small _ w
      exact ⟨this.1, this.2, m⟩)
    have h2 := h.few
    split at h2 <;> omega
  | succ m ih =>
    intro t now seen h hm
    have h1 := states_le h.nd (fun p hp => by
      obtain ⟨w, m, -⟩ := h.ss p hp
      have := hst.small _ w
      exact ⟨this.1, this.2, m⟩)
    have h2 := h.few
    have ht : t ≤ 257 := by split at h2 <;> omega
    by_cases hn : now = []
    · refine ⟨(0, false), .inr ⟨rfl, fun u ax hd => ?_⟩, fun k hk => ?_⟩
      · subst hn
        obtain ⟨⟨m, -, -, hp⟩, -⟩ := h.last hst hd
        exact h.nb _ hp rfl
      · obtain ⟨k, rfl⟩ : ∃ j, k = j + 1 := ⟨k - 1, by omega⟩
        unfold impl_fewestTurns.run
        rw [if_pos (by omega), if_pos hn]
    · have hlv : Lv W st a b t seen now now 0 seen [] := ⟨h.ns, h.ss, fun j p hj => by omega, fun p hp r hr => .inl (h.go p hp r hr), fun p hp m hm hax => (h.tu p hp m hm hax).imp id .inl, fun p hp => (by cases hp), fun p hp => hp, fun p hp => hp, h.nb, h.nd, by omega, by simp, by omega⟩
      have hln := h.ln
      obtain ⟨hit, seen', nx', e1, e2, e3⟩ := lvl_some hst hln 1500 now 0 seen [] hlv (by omega)
      have e4 : ∀ k, 1500 ≤ k → impl_fewestTurns.lvl s t' b k now 0 seen [] = some (hit, seen', nx') := fun k hk => by
        obtain ⟨hit', seen'', nx'', f1, -, -⟩ := lvl_some hst hln k now 0 seen [] hlv (by omega)
        have mono : ∀ d, impl_fewestTurns.lvl s t' b (1500 + d) now 0 seen [] = some (hit, seen', nx') := fun d => by
          induction d with
          | zero => exact e1
          | succ d ih => exact impl_fewestTurns.lvl_mono s t' b (1500 + d) now 0 seen [] _ ih
        have z := mono (k - 1500)
        rwa [show 1500 + (k - 1500) = k by omega] at z
      cases hit with
      | true =>
        refine ⟨((t : Int), true), .inl ⟨t, rfl, by omega, e2 rfl, fun u hu ax hd => ?_⟩, fun k hk => ?_⟩
        · obtain ⟨v, rfl⟩ : ∃ v, t = v + 1 := ⟨t - 1, by omega⟩
          obtain ⟨⟨m, -, -, hp⟩, -⟩ := h.cm v rfl _ _ (hd.up (show u ≤ v by omega))
          exact h.nb _ hp rfl
        · obtain ⟨k, rfl⟩ : ∃ j, k = j + 1 := ⟨k - 1, by omega⟩
          unfold impl_fewestTurns.run
          rw [if_pos (by omega), if_neg hn, e4 k (by omega)]
          rfl
      | false =>
        obtain ⟨q', hq'⟩ := e3 rfl
        obtain ⟨v, hv, hr⟩ := ih (t + 1) nx' seen' (h.next hst hn hq') (by omega)
        refine ⟨v, hv, fun k hk => ?_⟩
        obtain ⟨k, rfl⟩ : ∃ j, k = j + 1 := ⟨k - 1, by omega⟩
        unfold impl_fewestTurns.run
        rw [if_pos (by omega), if_neg hn, e4 k (by omega)]
        exact hr k (by omega)
theorem fewest_some {W : Nat × Nat → Prop} {s t' : ByteArray} {st : Nat × Nat → Nat → Option (Nat × Nat)} (hst : Steps W s t' st) (a b : Nat × Nat) (ha : W a) : ∃ v, Fewest st a b v ∧ ∀ k, 3000 ≤ k → impl_fewestTurns.run s t' b k 0 (impl_fewestTurns.first a 4) [] = some v := by
  have hns : ∀ p ∈ impl_fewestTurns.first a 4, Sta W st a 0 p := fun p hp => by
    obtain ⟨m, hm, rfl⟩ := first_mem.1 hp
    exact ⟨ha, hm, .start _⟩
  obtain ⟨v, h1, h2⟩ := run_some hst 300 0 (impl_fewestTurns.first a 4) [] (b := b) (a := a) ⟨fun p hp => (by cases hp), fun p hp => (by cases hp), fun p hp => (by cases hp), hns, fun m hm => .inr (first_mem.2 ⟨m, hm, rfl⟩), fun p hp => (by cases hp), List.nodup_nil, fun u hu => by omega, by simp [impl_fewestTurns.first], by omega⟩ (by omega)
  exact ⟨v, h1, fun k hk => h2 k (by omega)⟩

/-- What a list's places lead to. -/
inductive Rch (N : Nat) (f : Nat → Option Nat) (c : Nat → Bool) : Nat → Prop
  | base {i : Nat} (hi : i < N) (h : c i = true) : Rch N f c i
  | step {i j : Nat} (h : Rch N f c i) (hj : f i = some j) : Rch N f c j
theorem pass_some (s t sg : ByteArray) (al : Bool) (N : Nat) (hf : ∀ i j, i < N → spec_owRun.nx s t sg al i = some j → j < N) (P : Nat → Prop) (hP : ∀ i j, P i → spec_owRun.nx s t sg al i = some j → P j) : ∀ (r i : Nat) (p : (Nat → Bool) × Bool), i + r = N → (∀ j, j < N → p.1 j = true → P j) →
    (∀ j, p.1 j = true → (spec_owRun.pass s t sg al r i p).1 j = true) ∧ (∀ j, j < N → (spec_owRun.pass s t sg al r i p).1 j = true → P j) ∧ (p.2 = true → (spec_owRun.pass s t sg al r i p).2 = true) ∧
    ((spec_owRun.pass s t sg al r i p).2 = false → (spec_owRun.pass s t sg al r i p).1 = p.1 ∧ ∀ j, i ≤ j → j < N → p.1 j = true → ∀ q, spec_owRun.nx s t sg al j = some q → p.1 q = true) ∧
    (p.2 = false → (spec_owRun.pass s t sg al r i p).2 = true → ∃ j, j < N ∧ p.1 j = false ∧ (spec_owRun.pass s t sg al r i p).1 j = true) := by
  intro r
  induction r with
  | zero =>
    intro i p hi hp
    exact ⟨fun j h => h, hp, fun h => h, fun _ => ⟨rfl, fun j h1 h2 => by omega⟩, fun h1 h2 => by rw [show spec_owRun.pass s t sg al 0 i p = p from rfl, h1] at h2; cases h2⟩
  | succ r ih =>
    intro i p hi hp
    have key : spec_owRun.stepF s t sg al i p = p ∧ (p.1 i = true → ∀ q, spec_owRun.nx s t sg al i = some q → p.1 q = true) ∨ ∃ j, j < N ∧ p.1 j = false ∧ P j ∧ spec_owRun.stepF s t sg al i p = ((fun q => if q = j then true else p.1 q), true) := by
      unfold spec_owRun.stepF
      by_cases h : p.1 i = true
      · rw [if_pos h]
        cases hn : spec_owRun.nx s t sg al i with
        | none => exact .inl ⟨rfl, fun _ q hq => by cases hq⟩
        | some j =>
          simp only
          by_cases hj : p.1 j = false
          · rw [if_pos hj]
            exact .inr ⟨j, hf i j (by omega) hn, hj, hP i j (hp i (by omega) h) hn, rfl⟩
          · rw [if_neg hj]
            exact .inl ⟨rfl, fun _ q hq => by obtain rfl := Option.some.inj hq; simpa using hj⟩
      · rw [if_neg h]
        exact .inl ⟨rfl, fun z => absurd z h⟩
    rw [show spec_owRun.pass s t sg al (r + 1) i p = spec_owRun.pass s t sg al r (i + 1) (spec_owRun.stepF s t sg al i p) from rfl]
    rcases key with ⟨e, hc⟩ | ⟨j, hj, hpj, hPj, e⟩
    · rw [e]
      obtain ⟨h1, h2, h3, h4, h5⟩ := ih (i + 1) p (by omega) hp
      refine ⟨h1, h2, h3, fun hz => ⟨(h4 hz).1, fun j a b c q hq => ?_⟩, h5⟩
      by_cases ej : j = i
      · subst ej; exact hc c q hq
      · exact (h4 hz).2 j (by omega) b c q hq
    · rw [e]
      obtain ⟨h1, h2, h3, h4, h5⟩ := ih (i + 1) ((fun q => if q = j then true else p.1 q), true) (by omega) (fun q hq h => by
        by_cases eq : q = j
        · subst eq; exact hPj
        · simp only [eq, if_false] at h; exact hp q hq h)
      refine ⟨fun q hq => h1 q (by simp [hq]), h2, fun _ => h3 rfl, fun hz => ?_, fun _ _ => ⟨j, hj, hpj, h1 j (by simp)⟩⟩
      rw [h3 rfl] at hz
      cases hz
def cnt (c : Nat → Bool) : Nat → Nat
  | 0 => 0
  | n + 1 => cnt c n + (if c n = true then 1 else 0)
theorem cnt_le (c : Nat → Bool) : ∀ n, cnt c n ≤ n
  | 0 => Nat.le_refl _
  | n + 1 => by
    have := cnt_le c n
    unfold cnt
    split <;> omega
theorem cnt_mono {c c' : Nat → Bool} (h : ∀ j, c j = true → c' j = true) : ∀ n, cnt c n ≤ cnt c' n
  | 0 => Nat.le_refl _
  | n + 1 => by
    have := cnt_mono h n
    unfold cnt
    by_cases e : c n = true
    · rw [if_pos e, if_pos (h n e)]; omega
    · rw [if_neg e]; split <;> omega
theorem cnt_lt {c c' : Nat → Bool} (h : ∀ j, c j = true → c' j = true) (j : Nat) (h0 : c j = false) (h1 : c' j = true) : ∀ n, j < n → cnt c n < cnt c' n
  | 0, hj => by omega
  | n + 1, hj => by
    have z := cnt_mono h n
    unfold cnt
    by_cases e : j = n
    · subst e
      rw [if_neg (by rw [h0]; simp), if_pos h1]; omega
    · have := cnt_lt h j h0 h1 n (by omega)
      by_cases e : c n = true
      · rw [if_pos e, if_pos (h n e)]; omega
      · rw [if_neg e]; split <;> omega
theorem all_some (s t sg : ByteArray) (al : Bool) (N : Nat) (hf : ∀ i j, i < N → spec_owRun.nx s t sg al i = some j → j < N) (c0 : Nat → Bool) : ∀ (m : Nat) (c : Nat → Bool), N - cnt c N ≤ m → (∀ j, j < N → c j = true → Rch N (spec_owRun.nx s t sg al) c0 j) → (∀ j, c0 j = true → c j = true) →
    ∃ c', (∀ j, j < N → (c' j = true ↔ Rch N (spec_owRun.nx s t sg al) c0 j)) ∧ ∀ k, m + 1 ≤ k → spec_owRun.all s t sg al N k c = some c' := by
  intro m
  induction m with
  | zero =>
    intro c hm hs h0
    obtain ⟨h1, h2, h3, h4, h5⟩ := pass_some s t sg al N hf _ (fun i j => Rch.step) N 0 (c, false) (by omega) hs
    cases hq : (spec_owRun.pass s t sg al N 0 (c, false)).2 with
    | true =>
      obtain ⟨j, hj, hj0, hj1⟩ := h5 rfl hq
      have z := cnt_lt h1 j hj0 hj1 N hj
      have := cnt_le (spec_owRun.pass s t sg al N 0 (c, false)).1 N
      have e : cnt (c, false).1 N = cnt c N := rfl
      omega
    | false =>
      obtain ⟨e, hc⟩ := h4 hq
      refine ⟨c, fun j hj => ⟨hs j hj, fun h => ?_⟩, fun k hk => ?_⟩
      · have key : ∀ j, Rch N (spec_owRun.nx s t sg al) c0 j → j < N ∧ c j = true := by
          intro j h
          induction h with
          | base hi h => exact ⟨hi, h0 _ h⟩
          | step _ hj ih => exact ⟨hf _ _ ih.1 hj, hc _ (Nat.zero_le _) ih.1 ih.2 _ hj⟩
        exact (key j h).2
      · obtain ⟨k, rfl⟩ : ∃ q, k = q + 1 := ⟨k - 1, by omega⟩
        unfold spec_owRun.all
        rw [if_neg (by rw [hq]; simp), e]
  | succ m ih =>
    intro c hm hs h0
    obtain ⟨h1, h2, h3, h4, h5⟩ := pass_some s t sg al N hf _ (fun i j => Rch.step) N 0 (c, false) (by omega) hs
    cases hq : (spec_owRun.pass s t sg al N 0 (c, false)).2 with
    | true =>
      obtain ⟨j, hj, hj0, hj1⟩ := h5 rfl hq
      have z := cnt_lt h1 j hj0 hj1 N hj
      have e : cnt (c, false).1 N = cnt c N := rfl
      obtain ⟨c', h6, h7⟩ := ih (spec_owRun.pass s t sg al N 0 (c, false)).1 (by omega) h2 (fun j hj => h1 j (h0 j hj))
      refine ⟨c', h6, fun k hk => ?_⟩
      obtain ⟨k, rfl⟩ : ∃ q, k = q + 1 := ⟨k - 1, by omega⟩
      unfold spec_owRun.all
      rw [if_pos hq]
      exact h7 k (by omega)
    | false =>
      obtain ⟨e, hc⟩ := h4 hq
      refine ⟨c, fun j hj => ⟨hs j hj, fun h => ?_⟩, fun k hk => ?_⟩
      · have key : ∀ j, Rch N (spec_owRun.nx s t sg al) c0 j → j < N ∧ c j = true := by
          intro j h
          induction h with
          | base hi h => exact ⟨hi, h0 _ h⟩
          | step _ hj ih => exact ⟨hf _ _ ih.1 hj, hc _ (Nat.zero_le _) ih.1 ih.2 _ hj⟩
        exact (key j h).2
      · obtain ⟨k, rfl⟩ : ∃ q, k = q + 1 := ⟨k - 1, by omega⟩
        unfold spec_owRun.all
        rw [if_neg (by rw [hq]; simp), e]
/-- How places and corners belong together. -/
structure Cor (W : Nat × Nat → Prop) (s t : ByteArray) (st : Nat × Nat → Nat → Option (Nat × Nat)) (N H : Nat) : Prop where
  inn : ∀ i, i < N → W (i / H, i % H)
  idx : ∀ p, W p → p.1 * H + p.2 < N ∧ (p.1 * H + p.2) / H = p.1 ∧ (p.1 * H + p.2) % H = p.2
  nx : ∀ (al : Bool) i, i < N → ∀ j, spec_owRun.nx s t (if al = true then s else t) al i = some j ↔ ∃ n q, n < 4 ∧ axis n = al ∧ st (i / H, i % H) n = some q ∧ j = q.1 * H + q.2
theorem Cor.lt {W : Nat × Nat → Prop} {s t : ByteArray} {st : Nat × Nat → Nat → Option (Nat × Nat)} {N H : Nat} (h : Cor W s t st N H) (hst : Steps W s t st) (al : Bool) (i j : Nat) (hi : i < N) (hn : spec_owRun.nx s t (if al = true then s else t) al i = some j) : j < N := by
  obtain ⟨n, q, hn4, -, hs, rfl⟩ := (h.nx al i hi j).1 hn
  exact (h.idx q (hst.stay _ _ _ hn4 hs)).1
/-- Ahead of a round. -/
def Ahd (st : Nat × Nat → Nat → Option (Nat × Nat)) (a : Nat × Nat) (n : Nat) (p : Nat × Nat) : Prop := (n = 0 ∧ p = a) ∨ ∃ u, u + 1 = n ∧ ∃ ax, Dr st a u p ax
theorem dr_in {W : Nat × Nat → Prop} {s t : ByteArray} {st : Nat × Nat → Nat → Option (Nat × Nat)} (hst : Steps W s t st) {a : Nat × Nat} (ha : W a) {n : Nat} {p : Nat × Nat} {ax : Bool} (hd : Dr st a n p ax) : W p := by
  induction hd with
  | start => exact ha
  | drive _ hm hs _ => exact hst.stay _ _ _ hm hs
  | turn _ ih => exact ih
  | more _ ih => exact ih
theorem rch_iff {W : Nat × Nat → Prop} {s t : ByteArray} {st : Nat × Nat → Nat → Option (Nat × Nat)} {N H : Nat} (h : Cor W s t st N H) (hst : Steps W s t st) {a : Nat × Nat} (ha : W a) (al : Bool) (n : Nat) (c : Nat → Bool) (hc : ∀ i, i < N → (c i = true ↔ Ahd st a n (i / H, i % H))) (i : Nat) (hi : i < N) : Rch N (spec_owRun.nx s t (if al = true then s else t) al) c i ↔ Dr st a n (i / H, i % H) al := by
  constructor
  · intro hr
    have key : ∀ i, Rch N (spec_owRun.nx s t (if al = true then s else t) al) c i → i < N ∧ Dr st a n (i / H, i % H) al := by
      intro i hr
      induction hr with
      | base hi hb =>
        refine ⟨hi, ?_⟩
        rcases (hc _ hi).1 hb with ⟨rfl, e⟩ | ⟨u, rfl, ax, hd⟩
        · rw [e]; exact .start _
        · by_cases e : ax = al
          · subst e; exact hd.more
          · have : al = !ax := by cases al <;> cases ax <;> simp_all
            rw [this]
            exact hd.turn
      | step _ hj ih =>
        obtain ⟨m, q, hm, hax, hs, rfl⟩ := (h.nx al _ ih.1 _).1 hj
        have hq := h.idx q (hst.stay _ _ _ hm hs)
        refine ⟨hq.1, ?_⟩
        rw [hq.2.1, hq.2.2]
        have z := ih.2
        rw [← hax] at z ⊢
        exact .drive z hm hs
    exact (key i hr).2
  · intro hd
    have key : ∀ n' p al', Dr st a n' p al' → n' = n → al' = al → W p ∧ Rch N (spec_owRun.nx s t (if al = true then s else t) al) c (p.1 * H + p.2) := by
      intro n' p al' hd
      have stay : W p := dr_in hst ha hd
      have bs : ∀ p, W p → Ahd st a n p → Rch N (spec_owRun.nx s t (if al = true then s else t) al) c (p.1 * H + p.2) := fun p hp hA => by
        have hq := h.idx p hp
        refine .base hq.1 ((hc _ hq.1).2 ?_)
        rw [hq.2.1, hq.2.2]
        exact hA
      induction hd with
      | start => rintro rfl -; exact ⟨ha, bs _ ha (.inl ⟨rfl, rfl⟩)⟩
      | drive hd2 hm hs ih =>
        intro hn hax
        have stay2 := dr_in hst ha hd2
        obtain ⟨-, hr⟩ := ih stay2 hn hax
        have hq := h.idx _ stay2
        refine ⟨stay, .step hr ((h.nx al _ hq.1 _).2 ⟨_, _, hm, hax, ?_, rfl⟩)⟩
        rw [hq.2.1, hq.2.2]
        exact hs
      | turn hd2 _ => rintro rfl hax; exact ⟨stay, bs _ stay (.inr ⟨_, rfl, _, hd2⟩)⟩
      | more hd2 _ => rintro rfl hax; exact ⟨stay, bs _ stay (.inr ⟨_, rfl, _, hd2⟩)⟩
    have hh := (key n _ al hd rfl rfl).2
    have e : i / H * H + i % H = i := by rw [Nat.mul_comm]; exact Nat.div_add_mod i H
    simp only at hh
    rwa [e] at hh
theorem rounds_some {W : Nat × Nat → Prop} {s t : ByteArray} {st : Nat × Nat → Nat → Option (Nat × Nat)} {N H : Nat} (h : Cor W s t st N H) (hst : Steps W s t st) {a b : Nat × Nat} (ha : W a) (hb : W b) (T : Nat) (hT : T ≤ 1000) (hx : ∃ ax, Dr st a T b ax) (hl : ∀ u, u < T → ∀ ax, ¬ Dr st a u b ax) : ∀ (m n : Nat) (al ac : Nat → Bool), n + m = T → (∀ i, i < N → (al i = true ↔ Ahd st a n (i / H, i % H))) → (∀ i, i < N → (ac i = true ↔ Ahd st a n (i / H, i % H))) → ∀ k, m + N + 2 ≤ k → spec_FewestTurns.rounds s t N (b.1 * H + b.2) k n al ac = some (T : Int) := by
  intro m
  have hq := h.idx b hb
  induction m with
  | zero =>
    intro n al ac hn h1 h2 k hk
    obtain rfl : n = T := by omega
    obtain ⟨k, rfl⟩ : ∃ j, k = j + 1 := ⟨k - 1, by omega⟩
    obtain ⟨al', a1, a2⟩ := all_some s t s true N (h.lt hst true) al N al (by omega) (fun j hj hc => .base hj hc) (fun j hj => hj)
    obtain ⟨ac', c1, c2⟩ := all_some s t t false N (h.lt hst false) ac N ac (by omega) (fun j hj hc => .base hj hc) (fun j hj => hj)
    unfold spec_FewestTurns.rounds
    rw [if_pos hT, a2 k (by omega), c2 k (by omega)]
    simp only [Option.bind_some]
    rw [if_pos]
    obtain ⟨ax, hd⟩ := hx
    rw [Bool.or_eq_true]
    have e : ((b.1 * H + b.2) / H, (b.1 * H + b.2) % H) = b := Prod.ext hq.2.1 hq.2.2
    cases ax with
    | true => exact .inl ((a1 _ hq.1).2 ((rch_iff h hst ha true n al h1 _ hq.1).2 (by rw [e]; exact hd)))
    | false => exact .inr ((c1 _ hq.1).2 ((rch_iff h hst ha false n ac h2 _ hq.1).2 (by rw [e]; exact hd)))
  | succ m ih =>
    intro n al ac hn h1 h2 k hk
    obtain ⟨k, rfl⟩ : ∃ j, k = j + 1 := ⟨k - 1, by omega⟩
    obtain ⟨al', a1, a2⟩ := all_some s t s true N (h.lt hst true) al N al (by omega) (fun j hj hc => .base hj hc) (fun j hj => hj)
    obtain ⟨ac', c1, c2⟩ := all_some s t t false N (h.lt hst false) ac N ac (by omega) (fun j hj hc => .base hj hc) (fun j hj => hj)
    have r1 := fun i hi => (a1 i hi).trans (rch_iff h hst ha true n al h1 i hi)
    have r2 := fun i hi => (c1 i hi).trans (rch_iff h hst ha false n ac h2 i hi)
    have e : ((b.1 * H + b.2) / H, (b.1 * H + b.2) % H) = b := Prod.ext hq.2.1 hq.2.2
    unfold spec_FewestTurns.rounds
    rw [if_pos (by omega), a2 k (by omega), c2 k (by omega)]
    simp only [Option.bind_some]
    have hor : ∀ i, i < N → ((al' i || ac' i) = true ↔ Ahd st a (n + 1) (i / H, i % H)) := fun i hi => by
      rw [Bool.or_eq_true, r1 i hi, r2 i hi]
      constructor
      · rintro (z | z)
        · exact .inr ⟨n, rfl, _, z⟩
        · exact .inr ⟨n, rfl, _, z⟩
      · rintro (⟨z, -⟩ | ⟨u, hu, ax, z⟩)
        · omega
        · obtain rfl : u = n := by omega
          cases ax
          · exact .inr z
          · exact .inl z
    rw [if_neg]
    · exact ih (n + 1) _ _ (by omega) hor hor k (by omega)
    · intro z
      rcases (hor _ hq.1).1 z with ⟨z, -⟩ | ⟨u, hu, ax, hd⟩
      · omega
      · rw [e] at hd
        exact hl u (by omega) ax hd

theorem can_sign {s t : ByteArray} (hg : spec_owFar.Signs s t) {x y n : Nat} (hx : x < t.size) (hy : y < s.size) (hn : n < 4) (h : impl_driveIn.can s t x y n = true) : impl_driveIn.sg n = if axis n = true then bt s y else bt t x := by
  unfold impl_driveIn.can at h
  rw [Bool.and_eq_true, Bool.or_eq_true, decide_eq_true_eq, decide_eq_true_eq, decide_eq_true_eq] at h
  have c : n = 0 ∨ n = 1 ∨ n = 2 ∨ n = 3 := by omega
  have h1 := hg.2.1 y hy
  have h2 := hg.2.2 x hx
  have h3 := h.2
  rcases c with rfl | rfl | rfl | rfl <;> simp only [impl_driveIn.sg, axis] at h3 ⊢ <;> simp at h3 ⊢ <;> omega
theorem sg_inj {n m : Nat} (hn : n < 4) (hm : m < 4) (h : impl_driveIn.sg n = impl_driveIn.sg m) : n = m := by
  have c : n = 0 ∨ n = 1 ∨ n = 2 ∨ n = 3 := by omega
  have c' : m = 0 ∨ m = 1 ∨ m = 2 ∨ m = 3 := by omega
  rcases c with rfl | rfl | rfl | rfl <;> rcases c' with rfl | rfl | rfl | rfl <;> simp [impl_driveIn.sg] at h ⊢
theorem stp_can (s t : ByteArray) (p : Nat × Nat) (n : Nat) : impl_distancesBy.stp false s t p n = if impl_driveIn.can s t p.1 p.2 n = true then some (((p.1 : Int) + impl_driveIn.dx n).toNat, ((p.2 : Int) + impl_driveIn.dy n).toNat) else none := by
  unfold impl_distancesBy.stp
  by_cases h : impl_driveIn.can s t p.1 p.2 n = true
  · have h' := h
    unfold impl_driveIn.can at h'
    rw [Bool.and_eq_true, decide_eq_true_eq] at h'
    rw [if_pos h, if_pos ⟨h'.1, by simpa using h⟩]
  · rw [if_neg h, if_neg (fun z => h (by simpa using z.2))]
theorem stp_in {s t : ByteArray} {p q : Nat × Nat} {n : Nat} (h : impl_distancesBy.stp false s t p n = some q) : impl_driveIn.can s t p.1 p.2 n = true ∧ InC s t q ∧ (q.1 : Int) = p.1 + impl_driveIn.dx n ∧ (q.2 : Int) = p.2 + impl_driveIn.dy n := by
  rw [stp_can] at h
  obtain ⟨h1, h2⟩ := Option.ite_none_right_eq_some.1 h
  have h' := h1
  unfold impl_driveIn.can at h'
  rw [Bool.and_eq_true, decide_eq_true_eq] at h'
  obtain ⟨⟨⟨a1, a2⟩, a3, a4⟩, -⟩ := h'
  have e := Option.some.inj h2
  subst e
  refine ⟨h1, ⟨?_, ?_⟩, Int.toNat_of_nonneg a1, Int.toNat_of_nonneg a3⟩
  · show (Int.toNat _) < _
    omega
  · show (Int.toNat _) < _
    omega
theorem steps_of {s t : ByteArray} (hg : spec_owFar.Signs s t) : Steps (InC s t) s t (impl_distancesBy.stp false s t) where
  small := fun p hp => by
    have := hp.1
    have := hp.2
    have := hg.1.1.2
    have := hg.1.2.2
    omega
  stay := fun p m q _ h => (stp_in h).2.1
  one := fun p m q r n p1 h1 h2 hm hn hax => by
    obtain ⟨c1, i1, e1, e2⟩ := stp_in h1
    obtain ⟨c2, i2, e3, e4⟩ := stp_in h2
    have s1 := can_sign hg p1.1 p1.2 hm c1
    have s2 := can_sign hg i1.1 i1.2 hn c2
    refine sg_inj hn hm ?_
    rw [s1, s2, hax]
    have c : m = 0 ∨ m = 1 ∨ m = 2 ∨ m = 3 := by omega
    rcases c with rfl | rfl | rfl | rfl
    · rw [if_pos (by simp [axis]), if_pos (by simp [axis]), show q.2 = p.2 by simp [impl_driveIn.dy] at e2; omega]
    · rw [if_neg (by simp [axis]), if_neg (by simp [axis]), show q.1 = p.1 by simp [impl_driveIn.dx] at e1; omega]
    · rw [if_neg (by simp [axis]), if_neg (by simp [axis]), show q.1 = p.1 by simp [impl_driveIn.dx] at e1; omega]
    · rw [if_pos (by simp [axis]), if_pos (by simp [axis]), show q.2 = p.2 by simp [impl_driveIn.dy] at e2; omega]
  can := fun p _ _ => stp_can s t (p.1, p.2.1) p.2.2
theorem stp_true {s t : ByteArray} (hg : spec_owFar.Signs s t) (al : Bool) {x y : Nat} (hx : x < t.size) (hy : y < s.size) : ∃ n, n < 4 ∧ axis n = al ∧ impl_driveIn.sg n = (if al = true then bt s y else bt t x) ∧ (spec_owFar.Stp s t x y (impl_driveIn.sg n)).2.2 = impl_driveIn.can s t x y n ∧ (impl_driveIn.can s t x y n = true → (spec_owFar.Stp s t x y (impl_driveIn.sg n)).1 = (x : Int) + impl_driveIn.dx n ∧ (spec_owFar.Stp s t x y (impl_driveIn.sg n)).2.1 = (y : Int) + impl_driveIn.dy n) := by
  have h1 := hg.2.1 y hy
  have h2 := hg.2.2 x hx
  obtain ⟨n, hn, hax, hs⟩ : ∃ n, n < 4 ∧ axis n = al ∧ impl_driveIn.sg n = (if al = true then bt s y else bt t x) := by
    cases al with
    | true => exact h1.elim (fun e => ⟨0, by omega, rfl, by rw [if_pos rfl, e]; rfl⟩) (fun e => ⟨3, by omega, rfl, by rw [if_pos rfl, e]; rfl⟩)
    | false => exact h2.elim (fun e => ⟨1, by omega, rfl, by rw [if_neg (by simp), e]; rfl⟩) (fun e => ⟨2, by omega, rfl, by rw [if_neg (by simp), e]; rfl⟩)
  refine ⟨n, hn, hax, hs, ?_⟩
  have c : n = 0 ∨ n = 1 ∨ n = 2 ∨ n = 3 := by omega
  unfold impl_driveIn.can spec_owFar.Stp impl_driveIn.dx impl_driveIn.dy
  rcases c with rfl | rfl | rfl | rfl <;> subst hax <;> simp [axis, impl_driveIn.sg] at hs ⊢ <;> rcases h1 with a | a <;> rcases h2 with b | b <;> rw [a, b] at * <;> simp at hs ⊢ <;> constructor <;> first | omega | (rw [Bool.eq_iff_iff]; simp; omega)
theorem cor_of {s t : ByteArray} (hg : spec_owFar.Signs s t) : Cor (InC s t) s t (impl_distancesBy.stp false s t) (s.size * t.size) s.size where
  inn := fun i hi => ⟨Nat.div_lt_of_lt_mul hi, Nat.mod_lt _ (by have := hg.1.2.1; omega)⟩
  idx := fun p hp => ⟨by rw [Nat.mul_comm s.size]; exact spec_owFar.cd_lt _ _ _ _ hp.1 hp.2, spec_owFar.cd_div _ _ _ hp.2⟩
  nx := fun al i hi j => by
    have hx : i / s.size < t.size := Nat.div_lt_of_lt_mul hi
    have hy : i % s.size < s.size := Nat.mod_lt _ (by have := hg.1.2.1; omega)
    obtain ⟨n, hn, hax, hs, hc, hv⟩ := stp_true hg al hx hy
    have e : (bt (if al = true then s else t) ((if al = true then i % s.size else i / s.size % (if al = true then s else t).size : Nat) : Int)) = impl_driveIn.sg n := by
      rw [hs]
      cases al with
      | true => rfl
      | false => simp only [Bool.false_eq_true, if_false]; rw [Nat.mod_eq_of_lt hx]
    unfold spec_owRun.nx
    rw [e, hc]
    constructor
    · intro h
      obtain ⟨h1, h2⟩ := Option.ite_none_right_eq_some.1 h
      refine ⟨n, _, hn, hax, by rw [stp_can, if_pos h1], ?_⟩
      have e2 := Option.some.inj h2
      rw [(hv h1).1, (hv h1).2] at e2
      have hi2 := stp_in (s := s) (t := t) (p := (i / s.size, i % s.size)) (n := n) (q := _) (by rw [stp_can, if_pos h1])
      obtain ⟨-, -, e3, e4⟩ := hi2
      simp only at e3 e4 ⊢
      rw [← e2, ← e3, ← e4, ← Int.natCast_mul, ← Int.natCast_add, Int.toNat_natCast]
      simp only [Int.toNat_natCast]
    · rintro ⟨m, q, hm, hax2, hq, rfl⟩
      obtain ⟨h1, h2, e3, e4⟩ := stp_in hq
      have hnm : n = m := sg_inj hn hm (by rw [hs, can_sign hg hx hy hm h1, hax2])
      subst hnm
      rw [if_pos h1, (hv h1).1, (hv h1).2]
      simp only at e3 e4
      rw [← e3, ← e4, ← Int.natCast_mul, ← Int.natCast_add, Int.toNat_natCast]

theorem path_dr {st : Nat × Nat → Nat → Option (Nat × Nat)} {a : Nat × Nat} {n : Nat} {a' p : Nat × Nat} (h : Path (Leads st) n a' p) : a' = a → ∃ u ax, Dr st a u p ax := by
  induction h with
  | nil b => rintro rfl; exact ⟨0, true, .start _⟩
  | snoc _ e ih =>
    intro ha
    obtain ⟨u, ax, hd⟩ := ih ha
    obtain ⟨m, hm, hs⟩ := e
    by_cases q : ax = axis m
    · subst q; exact ⟨u, _, .drive hd hm hs⟩
    · have q2 : axis m = !ax := by cases ax <;> cases h : axis m <;> simp_all
      have z := hd.turn
      rw [← q2] at z
      exact ⟨u + 1, _, .drive z hm hs⟩
theorem dr_far {st : Nat × Nat → Nat → Option (Nat × Nat)} {a : Nat × Nat} {d : Nat × Nat → Int} (hf : Far (Leads st) a d) {u : Nat} {p : Nat × Nat} {ax : Bool} (h : Dr st a u p ax) : 0 ≤ d p := by
  induction h with
  | start => rw [hf.zero]; exact Int.le_refl _
  | drive _ hm hs ih => exact (hf.next _ _ ih ⟨_, hm, hs⟩).1
  | turn _ ih => exact ih
  | more _ ih => exact ih
theorem at_crn (s : ByteArray) (xs : List Int) : spec_FewestTurns.at_ s xs = (crn xs).1 * s.size + (crn xs).2 := rfl
theorem impl_some (s t : ByteArray) (hg : Good s t) (xs ys : List Int) (hx : xs.length = 2 ∧ impl_driveIn.At s t (rd xs 0) (rd xs 1)) (hy : ys.length = 2 ∧ impl_driveIn.At s t (rd ys 0) (rd ys 1)) : ∃ v, Fewest (impl_distancesBy.stp false s t) (crn xs) (crn ys) v ∧ Ev (fun k => impl_fewestTurns.f k s t xs ys) v := by
  obtain ⟨v, h1, h2⟩ := fewest_some (steps_of (signs_of hg)) (crn xs) (crn ys) (crn_in hx.2).1
  refine ⟨v, h1, ⟨3000, fun k hk => ?_⟩⟩
  show impl_fewestTurns.f k s t xs ys = some v
  unfold impl_fewestTurns.f
  rw [if_pos ⟨(signs_of hg).1, hx, hy⟩]
  exact h2 k hk
theorem start_ahd {s t : ByteArray} (hg : spec_owFar.Signs s t) {a : Nat × Nat} (ha : InC s t a) (i : Nat) (hi : i < s.size * t.size) : ((fun i => if i = a.1 * s.size + a.2 then true else false) i = true ↔ Ahd (impl_distancesBy.stp false s t) a 0 (i / s.size, i % s.size)) := by
  have hq := (cor_of hg).idx a ha
  constructor
  · intro h
    have e : i = a.1 * s.size + a.2 := by
      by_cases e : i = a.1 * s.size + a.2
      · exact e
      · simp [e] at h
    refine .inl ⟨rfl, ?_⟩
    rw [e, hq.2.1, hq.2.2]
  · rintro (⟨-, h⟩ | ⟨u, hu, -⟩)
    · have e : i / s.size * s.size + i % s.size = i := by rw [Nat.mul_comm]; exact Nat.div_add_mod i s.size
      rw [← h]
      simp only [e, if_true]
    · omega
theorem spec_some (s t : ByteArray) (hg : Good s t) (xs ys : List Int) (hx : xs.length = 2 ∧ impl_driveIn.At s t (rd xs 0) (rd xs 1)) (hy : ys.length = 2 ∧ impl_driveIn.At s t (rd ys 0) (rd ys 1)) (v : Int × Bool) (hv : Fewest (impl_distancesBy.stp false s t) (crn xs) (crn ys) v) : Ev (fun k => (spec_owDistance.f k s t xs ys).bind fun D => if D < 0 then some (0, false) else if spec_FewestTurns.Ok s t xs ys then spec_FewestTurns.core k s t (spec_FewestTurns.at_ s xs) (spec_FewestTurns.at_ s ys) else none) v := by
  have S := signs_of hg
  obtain ⟨ix, ex0, ex1⟩ := crn_in hx.2
  obtain ⟨iy, ey0, ey1⟩ := crn_in hy.2
  obtain ⟨hf, -, -⟩ := far_ex false s t S.1.2.2 S.1.1.2 (crn xs) ix
  refine bind (owDistance_f s t hg xs ys hx hy) ?_
  rcases hv with ⟨T, rfl, hT, hex, hl⟩ | ⟨rfl, hn⟩
  · have h0 : 0 ≤ impl_distancesBy.dist false s t (crn xs) (crn ys) := by
      obtain ⟨ax, hd⟩ := hex
      exact dr_far hf hd
    refine neg (by omega) (pos ⟨⟨S.1, hx⟩, hy⟩ ?_)
    rw [at_crn, at_crn]
    unfold spec_FewestTurns.core
    have qx := (cor_of S).idx _ ix
    have qy := (cor_of S).idx _ iy
    by_cases e : (crn xs).1 * s.size + (crn xs).2 = (crn ys).1 * s.size + (crn ys).2
    · have e2 : crn xs = crn ys := by
        refine Prod.ext ?_ ?_
        · rw [← qx.2.1, ← qy.2.1, e]
        · rw [← qx.2.2, ← qy.2.2, e]
      have hT0 : T = 0 := by
        cases T with
        | zero => rfl
        | succ n => exact absurd (e2 ▸ Dr.start true) (hl 0 (by omega) true)
      subst hT0
      exact pos e (now _)
    · refine neg e (bind (a := (T : Int)) ?_ (now _))
      refine ⟨T + s.size * t.size + 2, fun k hk => ?_⟩
      exact rounds_some (cor_of S) (steps_of S) ix iy T hT hex hl T 0 _ _ (by omega) (start_ahd S ix) (start_ahd S ix) k hk
  · refine pos ?_ (now _)
    have hlow := hf.low (crn ys)
    by_cases h : impl_distancesBy.dist false s t (crn xs) (crn ys) < 0
    · exact h
    · obtain ⟨u, ax, hd⟩ := path_dr (hf.path (impl_distancesBy.dist false s t (crn xs) (crn ys)).toNat (crn ys) (by omega)) rfl
      exact absurd hd (hn u ax)
theorem both_same (s t : ByteArray) (xs ys : List Int) (hs : s.size ≤ 1048576) (ht : t.size ≤ 1048576) : ∃ v, Ev (fun k => spec_FewestTurns.f k s t xs ys) v ∧ Ev (fun k => impl_FewestTurns.f k s t xs ys) v := by
  unfold spec_FewestTurns.f impl_FewestTurns.f
  by_cases c : good s t = true ∧ spec_owCorner.corner t.size s.size xs = true ∧ spec_owCorner.corner t.size s.size ys = true
  case neg =>
    exact ⟨(0, false), bind (owAsked_f s t xs ys hs ht) (neg (by simpa [Bool.and_eq_true] using c) (now _)), bind (areDriven_f s t [xs, ys] hs ht) (neg (by simpa [Bool.and_eq_true] using c) (now _))⟩
  obtain ⟨g, cx, cy⟩ := c
  have G := (good_iff s t).1 g
  have hx := (corner_iff s t xs).1 cx
  have hy := (corner_iff s t ys).1 cy
  obtain ⟨v, h1, h2⟩ := impl_some s t G xs ys hx hy
  exact ⟨v, bind (owAsked_f s t xs ys hs ht) (pos (by simp [g, cx, cy]) (spec_some s t G xs ys hx hy v h1)), bind (areDriven_f s t [xs, ys] hs ht) (pos (by simp [g, cx, cy]) (bind h2 (now _)))⟩
theorem FnExactFewestTurns : laws_FnExactFewestTurns.Pure := by
  intro s t xs ys hs ht hm hl8 hw hm' hl8' hw'
  refine Ev.rounds ?_
  unfold laws_FnExactFewestTurns.f laws_toWays.f
  by_cases h : (xs.length : Int) > 1048576
  · exact pos h (now _)
  refine neg h ?_
  by_cases h' : (ys.length : Int) > 1048576
  · exact pos h' (now _)
  refine neg h' ?_
  obtain ⟨v, hv, hn⟩ := szWays_f s t hs ht
  refine bindSome hv ?_
  by_cases c : v < 0
  · exact pos c (now _)
  refine neg c ?_
  have hz := hn c
  have hl : xs.length ≤ 35184372088832 := by omega
  have hl' : ys.length ≤ 35184372088832 := by omega
  obtain ⟨r, h1, h2⟩ := both_same s t xs ys hz.1 hz.2
  simp only [Option.bind_some]
  refine bind (toIntS_f xs hl) (bind (toIntS_f ys hl') (bind h1 (bind (toIntS_f xs hl) (bind (toIntS_f ys hl') (bind h2 (pos rfl (succ ?_)))))))
  simp only [laws_FnExactFewestTurns.j0]
  exact neg (by simp) (bind (toIntS_f xs hl) (bind (eqIntS_same xs hl) (pos rfl (bind (toIntS_f ys hl') (bind (eqIntS_same ys hl') (pos rfl (now _)))))))

end Go.Proofs.Ytopbmiedlpkmjaa.Pure
