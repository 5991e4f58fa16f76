/- The plain law of FnExactCountDrives: what the printed functions compute answers true at every input within the bounds that the print tells. -/
import Derived.Test.YtopbmiedlpkmjaaMKx13
import Derived.Test.YtopbmiedlpkmjaaLib
namespace Go.Proofs.Ytopbmiedlpkmjaa.Pure
open Go.RowKit Go.Proofs.Ytopbmiedlpkmjaa.MK Go.Proofs.YtopbmiedlpkmjaaW.PrintWords Go.Proofs.YtopbmiedlpkmjaaW.PrintLast Go.Proofs.YtopbmiedlpkmjaaW.PrintMore Go.Proofs.Ytopbmiedlpkmjaa.Lib
set_option linter.unusedVariables false
set_option linter.unusedSimpArgs false

theorem spec_in (a b c : Int) : spec_l1In.f a b c = some (decide (b ≤ a ∧ a ≤ c)) := by
  unfold spec_l1In.f
  by_cases h : a ≥ b
  · rw [if_pos h]; simp [show b ≤ a from h]
  · rw [if_neg h]; simp [show ¬ b ≤ a from h]
theorem impl_in (a b c : Int) : impl_within.f a b c = some (decide (b ≤ a ∧ a ≤ c)) := by
  unfold impl_within.f
  by_cases h : a ≥ b
  · rw [if_pos h]; simp [show b ≤ a from h]
  · rw [if_neg h]; simp [show ¬ b ≤ a from h]
/-- Two signs alone from one on. -/
def Signs (s : ByteArray) (a b : Int) (i : Nat) : Prop := ∀ j : Nat, i ≤ j → j < s.size → bt s j = a ∨ bt s j = b
theorem signs_end (s : ByteArray) (a b : Int) : Signs s a b s.size := fun j h1 h2 => by omega
theorem signs_step (s : ByteArray) (a b : Int) (i : Nat) (hi : i < s.size) : Signs s a b i ↔ (bt s i = a ∨ bt s i = b) ∧ Signs s a b (i + 1) := by
  constructor
  · intro g; exact ⟨g i (Nat.le_refl _) hi, fun j h1 h2 => g j (by omega) h2⟩
  · rintro ⟨g, r⟩ j h1 h2
    by_cases e : j = i
    · subst e; exact g
    · exact r j (by omega) h2
/-- The signs of ways in one direction. -/
def Way (s : ByteArray) (a b : Int) : Prop := (2 ≤ s.size ∧ s.size ≤ 8) ∧ Signs s a b 0
/-- Ways. -/
def Good (s t : ByteArray) : Prop := Way s 101 119 ∧ Way t 110 115
open Classical in
noncomputable def good (s t : ByteArray) : Bool := decide (Good s t)
theorem good_iff (s t : ByteArray) : good s t = true ↔ Good s t := by unfold good; simp
open Classical in
theorem spec_owText_l0 (s : ByteArray) (a b : Int) (hs : s.size ≤ 9223372036854775807) : ∀ i : Nat, i ≤ s.size → Ev (fun k => spec_owText.l0 k s a b i) (decide (Signs s a b i)) := by
  refine down s.size ?_ ?_
  · refine succ ?_
    simp only [spec_owText.l0]
    exact neg (by omega) (conv (now _) (by simp [signs_end]))
  · intro i hi ih
    refine succ ?_
    simp only [spec_owText.l0]
    rw [wnat (by omega)]
    refine pos (by omega) (pos (by omega) ?_)
    by_cases c1 : bt s i = a
    · exact pos c1 (conv ih (by rw [decide_eq_decide, signs_step s a b i hi]; exact ⟨fun g => ⟨.inl c1, g⟩, fun g => g.2⟩))
    · refine neg c1 ?_
      by_cases c2 : bt s i = b
      · exact pos c2 (conv ih (by rw [decide_eq_decide, signs_step s a b i hi]; exact ⟨fun g => ⟨.inr c2, g⟩, fun g => g.2⟩))
      · exact neg c2 (conv (now _) (Eq.symm (decide_eq_false (by rw [signs_step s a b i hi]; exact fun g => g.1.elim c1 c2))))
open Classical in
theorem spec_owText_f (s : ByteArray) (a b : Int) (hs : s.size ≤ 9223372036854775807) : Ev (fun k => spec_owText.f k s a b) (decide (Way s a b)) := by
  unfold spec_owText.f
  simp only [spec_in, Option.bind_some]
  by_cases c : 2 ≤ (s.size : Int) ∧ (s.size : Int) ≤ 8
  · refine pos (by simpa using c) (conv (spec_owText_l0 s a b hs 0 (by omega)) ?_)
    rw [decide_eq_decide]
    exact ⟨fun g => ⟨by omega, g⟩, fun g => g.2⟩
  · exact neg (by simpa using c) (conv (now _) (Eq.symm (decide_eq_false (fun g => c (by have := g.1; omega)))))
open Classical in
theorem spec_owGood_f (s t : ByteArray) (hs : s.size ≤ 9223372036854775807) (ht : t.size ≤ 9223372036854775807) : Ev (fun k => spec_owGood.f k s t) (good s t) := by
  unfold spec_owGood.f
  refine bind (spec_owText_f s _ _ hs) ?_
  by_cases c : Way s 101 119
  · refine pos (by simpa using c) (conv (bind (spec_owText_f t _ _ ht) (now _)) ?_)
    unfold good Good
    rw [decide_eq_decide]
    exact ⟨fun g => ⟨c, g⟩, fun g => g.2⟩
  · refine neg (by simpa using c) (conv (now _) ?_)
    exact Eq.symm (decide_eq_false (fun g => c g.1))
theorem indexByte_two (a b : UInt8) (x : Int) (h0 : 0 ≤ x) (h1 : x ≤ 255) : Go.Lib.indexByte [a, b] x.toNat.toUInt8 < 0 ↔ ¬ (x = (a.toNat : Int) ∨ x = (b.toNat : Int)) := by
  have hx : x.toNat.toUInt8.toNat = x.toNat := by simp; omega
  have ea : (a == x.toNat.toUInt8) = decide (x = (a.toNat : Int)) := by
    rw [Bool.eq_iff_iff, beq_iff_eq, decide_eq_true_eq, ← UInt8.toNat_inj, hx]; omega
  have eb : (b == x.toNat.toUInt8) = decide (x = (b.toNat : Int)) := by
    rw [Bool.eq_iff_iff, beq_iff_eq, decide_eq_true_eq, ← UInt8.toNat_inj, hx]; omega
  simp only [Go.Lib.indexByte, ea, eb]
  by_cases c1 : x = (a.toNat : Int)
  · rw [if_pos (by simpa using c1)]
    simp [c1]
  · rw [if_neg (by simpa using c1)]
    by_cases c2 : x = (b.toNat : Int)
    · have e : decide (x = (b.toNat : Int)) = true := by simpa using c2
      rw [e]
      simp [c2]
    · have e : decide (x = (b.toNat : Int)) = false := by simpa using c2
      rw [e]
      simp [c1, c2]
open Classical in
theorem impl_areSigns_l0 (s : ByteArray) (a b : UInt8) (hs : s.size ≤ 9223372036854775807) : ∀ i : Nat, i ≤ s.size → Ev (fun k => impl_areSigns.l0 k s ⟨#[a, b]⟩ s.size i) (decide (Signs s a.toNat b.toNat i ∧ 2 ≤ s.size ∧ s.size ≤ 8)) := by
  refine down s.size ?_ ?_
  · refine succ ?_
    simp only [impl_areSigns.l0, impl_in, Option.bind_some]
    refine neg (by omega) (conv (now _) ?_)
    rw [decide_eq_decide]
    exact ⟨fun g => ⟨signs_end _ _ _, by omega⟩, fun g => by have := g.2; omega⟩
  · intro i hi ih
    refine succ ?_
    simp only [impl_areSigns.l0, strings_IndexByte.f, Option.bind_some]
    rw [wnat (by omega)]
    refine pos (by omega) (pos (by omega) (pos (by omega) ?_))
    have hr := bt_range s i
    have e := indexByte_two a b (bt s i) hr.1 hr.2
    by_cases c : bt s i = (a.toNat : Int) ∨ bt s i = (b.toNat : Int)
    · refine neg (fun g => e.1 g c) (conv ih ?_)
      rw [decide_eq_decide, signs_step s _ _ i hi]
      exact ⟨fun g => ⟨⟨c, g.1⟩, g.2⟩, fun g => ⟨g.1.2, g.2⟩⟩
    · refine pos (e.2 c) (conv (now _) (Eq.symm (decide_eq_false ?_)))
      rw [signs_step s _ _ i hi]
      exact fun g => c g.1.1
open Classical in
theorem impl_areSigns_f (s : ByteArray) (a b : UInt8) (hs : s.size ≤ 9223372036854775807) : Ev (fun k => impl_areSigns.f k s ⟨#[a, b]⟩) (decide (Way s a.toNat b.toNat)) := by
  unfold impl_areSigns.f
  refine conv (impl_areSigns_l0 s a b hs 0 (by omega)) ?_
  rw [decide_eq_decide]
  exact ⟨fun g => ⟨g.2, g.1⟩, fun g => ⟨g.2, g.1⟩⟩
open Classical in
theorem impl_AreWays_f (s t : ByteArray) (hs : s.size ≤ 9223372036854775807) (ht : t.size ≤ 9223372036854775807) : Ev (fun k => impl_AreWays.f k s t) (good s t) := by
  unfold impl_AreWays.f
  refine bind (impl_areSigns_f s 101 119 hs) ?_
  by_cases c : Way s 101 119
  · refine pos (by simpa using c) (conv (bind (impl_areSigns_f t 110 115 ht) (now _)) ?_)
    unfold good Good
    rw [decide_eq_decide]
    exact ⟨fun g => ⟨c, g⟩, fun g => g.2⟩
  · refine neg (by simpa using c) (conv (now _) ?_)
    exact Eq.symm (decide_eq_false (fun g => c g.1))

theorem szWays_f (s t : ByteArray) (hs : s.size ≤ 9223372036854775807) (ht : t.size ≤ 9223372036854775807) : ∃ v, laws_szWays.f s t 1048576 = some v ∧ (¬ v < 0 → s.size ≤ 1048576 ∧ t.size ≤ 1048576) := by
  unfold laws_szWays.f
  rw [w64 (show -9223372036854775808 ≤ (1048576 : Int) - (s.size : Int) by omega) (by omega)]
  by_cases c : (1048576 : Int) - (s.size : Int) < 0
  · exact ⟨-1, by rw [if_pos c], by omega⟩
  · rw [if_neg c, w64 (by omega) (by omega)]
    by_cases d : (1048576 : Int) - (s.size : Int) - (t.size : Int) < 0
    · exact ⟨-1, by rw [if_pos d], by omega⟩
    · exact ⟨_, by rw [if_neg d], fun _ => by omega⟩

theorem toIntS_l0 (xs : List Int) (hx : xs.length ≤ 35184372088832) : ∀ i : Nat, i ≤ xs.length → ∀ ys : List Int, ys.length = xs.length → (∀ j : Nat, j < i → ys.getD j 0 = xs.getD j 0) → Ev (fun k => laws_toIntS.l0 k xs ys i) xs := by
  refine down xs.length ?_ ?_
  · intro ys hl hy
    refine succ ?_
    simp only [laws_toIntS.l0]
    refine neg (by omega) (conv (now _) ?_)
    refine List.ext_getElem hl (fun j h1 h2 => ?_)
    have := hy j h2
    simpa [h1, h2] using this
  · intro i hi ih ys hl hy
    refine succ ?_
    simp only [laws_toIntS.l0]
    rw [wnat (by omega)]
    refine pos (by omega) (pos (by omega) (pos (by omega) ?_))
    refine ih _ (by simp [hl]) (fun j hj => ?_)
    simp only [Int.toNat_natCast, rd_nat]
    by_cases e : j = i
    · subst e
      simp [hl, hi]
    · rw [List.getD_eq_getElem?_getD, List.getElem?_set_ne (Ne.symm e), ← List.getD_eq_getElem?_getD]
      exact hy j (by omega)
theorem toIntS_f (xs : List Int) (hx : xs.length ≤ 35184372088832) : Ev (fun k => laws_toIntS.f k xs) xs := by
  unfold laws_toIntS.f
  refine pos (by omega) (pos (by omega) ?_)
  exact toIntS_l0 xs hx 0 (by omega) _ (by simp) (fun j hj => by omega)
theorem eqIntS_l0 (xs ys : List Int) (hx : xs.length ≤ 35184372088832) (hl : xs.length = ys.length) : ∀ i : Nat, i ≤ xs.length → Ev (fun k => laws_eqIntS.l0 k xs ys i) (decide (xs.drop i = ys.drop i)) := by
  refine down xs.length ?_ ?_
  · refine succ ?_
    simp only [laws_eqIntS.l0]
    exact neg (by omega) (conv (now _) (by simp [hl]))
  · intro i hi ih
    refine succ ?_
    simp only [laws_eqIntS.l0]
    rw [wnat (by omega)]
    refine pos (by omega) (pos (by omega) (pos (by omega) ?_))
    rw [rd_lt xs i hi, rd_lt ys i (by omega)]
    by_cases e : xs[i] = ys[i]'(by omega)
    · exact pos e (conv ih (by rw [decide_eq_decide, drop_iff hi (by omega)]; exact ⟨fun h => ⟨e, h⟩, fun h => h.2⟩))
    · exact neg e (conv (now _) (Eq.symm (decide_eq_false (by rw [drop_iff hi (by omega)]; exact fun h => e h.1))))
theorem eqIntS_f (xs ys : List Int) (hx : xs.length ≤ 35184372088832) : Ev (fun k => laws_eqIntS.f k xs ys) (decide (xs = ys)) := by
  unfold laws_eqIntS.f
  by_cases e : xs.length = ys.length
  · exact pos (by omega) (conv (eqIntS_l0 xs ys hx e 0 (by omega)) (by simp))
  · exact neg (by omega) (conv (now _) (by simp; intro h; exact e (by rw [h])))
theorem eqIntS_same (xs : List Int) (hx : xs.length ≤ 35184372088832) : Ev (fun k => laws_eqIntS.f k xs xs) true := conv (eqIntS_f xs xs hx) (by simp)

theorem flat_len (W H : Nat) (d : Nat × Nat → Int) : (spec_owFar.flat W H d).length = W * H := by simp [spec_owFar.flat]
theorem tab_len (W H : Nat) (d : Nat × Nat → Int) : (impl_distancesBy.tab W H d).length = W := by simp [impl_distancesBy.tab]
/-- A corner of ways. -/
def InC (s t : ByteArray) (p : Nat × Nat) : Prop := p.1 < t.size ∧ p.2 < s.size
theorem stp_some {back : Bool} {s t : ByteArray} {p : Nat × Nat} {n : Nat} {c : Nat × Nat} (h : impl_distancesBy.stp back s t p n = some c) :
    (c.1 : Int) = (p.1 : Int) + impl_driveIn.dx n ∧ (c.2 : Int) = (p.2 : Int) + impl_driveIn.dy n ∧ InC s t c ∧ (if back = true then impl_driveIn.can s t ((p.1 : Int) + impl_driveIn.dx n) ((p.2 : Int) + impl_driveIn.dy n) (3 - n) else impl_driveIn.can s t p.1 p.2 n) = true := by
  unfold impl_distancesBy.stp at h
  obtain ⟨⟨h0, h1⟩, h2⟩ := Option.ite_none_right_eq_some.1 h
  injection h2 with h2
  subst h2
  refine ⟨Int.toNat_of_nonneg h0.1.1, Int.toNat_of_nonneg h0.2.1, ⟨?_, ?_⟩, h1⟩
  · show (Int.toNat _) < _
    omega
  · show (Int.toNat _) < _
    omega
theorem far_ex (back : Bool) (s t : ByteArray) (hs : s.size ≤ 8) (ht : t.size ≤ 8) (a : Nat × Nat) (ha : InC s t a) : Far (Leads (impl_distancesBy.stp back s t)) a (impl_distancesBy.dist back s t a) ∧ (∀ c, 0 ≤ impl_distancesBy.dist back s t a c → InC s t c) ∧ ∀ c, impl_distancesBy.dist back s t a c ≤ 64 := by
  obtain ⟨d, h1, h2, h3⟩ := Bfs.run (st := impl_distancesBy.stp back s t) (a := a) (InC s t) ha (fun p n c _ h => (stp_some h).2.2.1) (fun p => p.1 * 8 + p.2) 64 (fun x y hx hy e => Prod.ext (by have := hx.2; have := hy.2; have e' : x.1 * 8 + x.2 = y.1 * 8 + y.2 := e; omega) (by have := hx.2; have := hy.2; have e' : x.1 * 8 + x.2 = y.1 * 8 + y.2 := e; omega)) (fun x hx => by have := hx.1; have := hx.2; show x.1 * 8 + x.2 < 64; omega)
  have e : impl_distancesBy.dist back s t a = d := h1.the _ (fun p hp => impl_distancesBy.mem_nodes (h2 p hp)) 64 h3
  rw [e]
  exact ⟨h1, h2, h3⟩
theorem far_in {α : Type} {E : α → α → Prop} {a : α} {d : α → Int} (h : Far E a d) (V : α → Prop) (hV : ∀ c, 0 ≤ d c → V c) : Far (fun x y => V x ∧ V y ∧ E x y) a d :=
  ⟨h.zero, h.low, fun c c' z e => h.next c c' z e.2.2, fun c z n => by
    obtain ⟨k, p, hp, hd⟩ := h.back c z n
    exact ⟨k, p, ⟨hV p (by omega), hV c z, hp⟩, hd⟩⟩
theorem dx_turn (n : Nat) (h : n < 4) : impl_driveIn.dx (3 - n) = - impl_driveIn.dx n ∧ impl_driveIn.dy (3 - n) = - impl_driveIn.dy n := by
  have c : n = 0 ∨ n = 1 ∨ n = 2 ∨ n = 3 := by omega
  rcases c with rfl | rfl | rfl | rfl <;> simp [impl_driveIn.dx, impl_driveIn.dy]
theorem leads_turn (s t : ByteArray) (back : Bool) (x y : Nat × Nat) (hx : InC s t x) (h : Leads (impl_distancesBy.stp back s t) x y) : Leads (impl_distancesBy.stp (!back) s t) y x := by
  obtain ⟨n, hn, hs⟩ := h
  obtain ⟨h1, h2, h3, h4⟩ := stp_some hs
  obtain ⟨d1, d2⟩ := dx_turn n hn
  refine ⟨3 - n, by omega, ?_⟩
  have e1 : (y.1 : Int) + impl_driveIn.dx (3 - n) = x.1 := by omega
  have e2 : (y.2 : Int) + impl_driveIn.dy (3 - n) = x.2 := by omega
  unfold impl_distancesBy.stp
  rw [e1, e2, if_pos]
  · simp
  · have := hx.1
    have := hx.2
    refine ⟨⟨⟨by omega, by omega⟩, by omega, by omega⟩, ?_⟩
    rw [show 3 - (3 - n) = n by omega]
    cases back with
    | false => simpa using h4
    | true =>
      rw [if_pos rfl, ← h1, ← h2] at h4
      simpa using h4
theorem dist_turn (s t : ByteArray) (hs : s.size ≤ 8) (ht : t.size ≤ 8) (a b : Nat × Nat) (ha : InC s t a) (hb : InC s t b) : impl_distancesBy.dist false s t a b = impl_distancesBy.dist true s t b a := by
  obtain ⟨h1, h2, -⟩ := far_ex false s t hs ht a ha
  obtain ⟨k1, k2, -⟩ := far_ex true s t hs ht b hb
  exact (far_in h1 _ h2).turn (far_in k1 _ k2) (fun x y => ⟨fun h => ⟨h.2.1, h.1, leads_turn s t false x y h.1 h.2.2⟩, fun h => ⟨h.2.1, h.1, leads_turn s t true y x h.1 h.2.2⟩⟩)
theorem flat_rd (W H : Nat) (d : Nat × Nat → Int) (x y : Nat) (hx : x < W) (hy : y < H) : rd (spec_owFar.flat W H d) ((x * H + y : Nat) : Int) = d (x, y) := by
  have hlt := spec_owFar.cd_lt H W x y hx hy
  rw [rd_lt _ _ (by rw [flat_len]; exact hlt)]
  simp only [spec_owFar.flat, List.getElem_map, List.getElem_range]
  rw [(spec_owFar.cd_div H x y hy).1, (spec_owFar.cd_div H x y hy).2]
theorem tab_row (W H : Nat) (d : Nat × Nat → Int) (x : Nat) (hx : x < W) : rd_L1 (impl_distancesBy.tab W H d) (x : Int) = (List.range H).map fun y => d (x, y) := by
  unfold rd_L1
  rw [Int.toNat_natCast, List.getD_eq_getElem?_getD, List.getElem?_eq_getElem (by rw [tab_len]; exact hx)]
  simp [impl_distancesBy.tab]
theorem tab_rd (W H : Nat) (d : Nat × Nat → Int) (x y : Nat) (hx : x < W) (hy : y < H) : rd (rd_L1 (impl_distancesBy.tab W H d) (x : Int)) (y : Int) = d (x, y) := by
  rw [tab_row W H d x hx, rd_lt _ _ (by simpa using hy)]
  simp
theorem signs_of {s t : ByteArray} (h : Good s t) : spec_owFar.Signs s t :=
  ⟨⟨⟨by have := h.2.1.1; omega, h.2.1.2⟩, by have := h.1.1.1; omega, h.1.1.2⟩, fun j hj => h.1.2 j (Nat.zero_le _) hj, fun j hj => h.2.2 j (Nat.zero_le _) hj⟩
/-- A corner as it is asked for. -/
def crn (xs : List Int) : Nat × Nat := ((rd xs 0).toNat, (rd xs 1).toNat)
theorem crn_in {s t : ByteArray} {xs : List Int} (h : impl_driveIn.At s t (rd xs 0) (rd xs 1)) : InC s t (crn xs) ∧ rd xs 0 = ((crn xs).1 : Int) ∧ rd xs 1 = ((crn xs).2 : Int) := by
  obtain ⟨⟨x0, x1⟩, y0, y1⟩ := h
  refine ⟨⟨?_, ?_⟩, (Int.toNat_of_nonneg x0).symm, (Int.toNat_of_nonneg y0).symm⟩
  · show (rd xs 0).toNat < _
    omega
  · show (rd xs 1).toNat < _
    omega
theorem owFar_some (s t : ByteArray) (hg : Good s t) (xs : List Int) (hl : xs.length = 2) (ha : impl_driveIn.At s t (rd xs 0) (rd xs 1)) : Ev (fun k => spec_owFar.f k s t xs) (spec_owFar.flat t.size s.size (impl_distancesBy.dist false s t (crn xs))) := by
  refine succ ?_
  simp only [spec_owFar.f]
  exact pos ⟨⟨signs_of hg, hl⟩, ha⟩ (now _)
theorem dists_some (s t : ByteArray) (hg : Good s t) (xs : List Int) (hl : xs.length = 2) (ha : impl_driveIn.At s t (rd xs 0) (rd xs 1)) (back : Bool) : Ev (fun k => impl_distancesBy.f k (t.size : Int) (s.size : Int) xs (s, t) back) (impl_distancesBy.tab t.size s.size (impl_distancesBy.dist back s t (crn xs))) := by
  refine succ ?_
  simp only [impl_distancesBy.f]
  exact pos ⟨⟨⟨trivial, trivial⟩, hl⟩, (signs_of hg).1, ha⟩ (now _)

theorem corner_iff (s t : ByteArray) (xs : List Int) : spec_owCorner.corner t.size s.size xs = true ↔ xs.length = 2 ∧ impl_driveIn.At s t (rd xs 0) (rd xs 1) := by
  simp only [spec_owCorner.corner, impl_driveIn.At, Bool.and_eq_true, decide_eq_true_eq]
  omega

theorem owDistance_f (s t : ByteArray) (hg : Good s t) (xs ys : List Int) (hx : xs.length = 2 ∧ impl_driveIn.At s t (rd xs 0) (rd xs 1)) (hy : ys.length = 2 ∧ impl_driveIn.At s t (rd ys 0) (rd ys 1)) : Ev (fun k => spec_owDistance.f k s t xs ys) (impl_distancesBy.dist false s t (crn xs) (crn ys)) := by
  unfold spec_owDistance.f
  obtain ⟨hi, e0, e1⟩ := crn_in hy.2
  refine bind (owFar_some s t hg xs hx.1 hx.2) (pos ⟨⟨⟨hy.1, (signs_of hg).1⟩, hy.2⟩, flat_len _ _ _⟩ (conv (now _) ?_))
  exact flat_rd _ _ _ _ _ hi.1 hi.2
theorem tab_getD (W H : Nat) (d : Nat × Nat → Int) (x : Nat) (hx : x < W) : (impl_distancesBy.tab W H d).getD x [] = (List.range H).map fun y => d (x, y) := by
  rw [List.getD_eq_getElem?_getD, List.getElem?_eq_getElem (by rw [tab_len]; exact hx)]
  simp [impl_distancesBy.tab]

theorem drivesTo_some (s t : ByteArray) (hg : Good s t) (xs : List Int) (hx : xs.length = 2 ∧ impl_driveIn.At s t (rd xs 0) (rd xs 1)) : Ev (fun k => impl_drivesTo.f k s t xs) (impl_distancesBy.tab t.size s.size (impl_distancesBy.dist true s t (crn xs))) := by
  unfold impl_drivesTo.f impl_driveIn.f
  exact bindSome rfl (bind (dists_some s t hg xs hx.1 hx.2 true) (now _))

theorem owAsked_f (s t : ByteArray) (xs ys : List Int) (hs : s.size ≤ 1048576) (ht : t.size ≤ 1048576) : Ev (fun k => spec_owAsked.f k s t xs ys) (good s t && (spec_owCorner.corner t.size s.size xs && spec_owCorner.corner t.size s.size ys)) := by
  unfold spec_owAsked.f spec_owCorner.f
  refine bind (spec_owGood_f s t (by omega) (by omega)) ?_
  by_cases g : good s t = true
  · rw [g]
    refine pos rfl (bind (pos ⟨hs, ht⟩ (now _)) ?_)
    by_cases c : spec_owCorner.corner t.size s.size xs = true
    · rw [c]
      exact pos rfl (bind (pos ⟨hs, ht⟩ (now _)) (now _))
    · exact neg c (conv (now _) (by simp [c]))
  · exact neg g (conv (now _) (by simp [g]))

theorem areDriven_f (s t : ByteArray) (l : List (List Int)) (hs : s.size ≤ 1048576) (ht : t.size ≤ 1048576) : Ev (fun k => impl_areDriven.f k s t l) (good s t && l.all (spec_owCorner.corner t.size s.size)) := by
  unfold impl_areDriven.f
  refine bind (impl_AreWays_f s t (by omega) (by omega)) ?_
  by_cases g : good s t = true
  · have G := (good_iff s t).1 g
    have z1 := G.1.1
    have z2 := G.2.1
    rw [g]
    exact pos rfl (pos ⟨by omega, by omega⟩ (conv (now _) (by rw [Bool.true_and]; rfl)))
  · exact neg g (conv (now _) (by simp [g]))

/-- A text with each byte turned by g. -/
def mapB (g : UInt8 → UInt8) (s : ByteArray) : ByteArray := ⟨(s.data.toList.map g).toArray⟩
def ge (u : UInt8) : UInt8 := if u = 101 then 119 else 101
def gn (u : UInt8) : UInt8 := if u = 110 then 115 else 110
theorem ba_ext {a b : ByteArray} (h : a.data.toList = b.data.toList) : a = b := by
  obtain ⟨a⟩ := a; obtain ⟨b⟩ := b
  simp only at h
  rw [Array.toList_inj.1 h]
theorem mapB_list (g : UInt8 → UInt8) (s : ByteArray) : (mapB g s).data.toList = s.data.toList.map g := rfl
theorem mapB_size (g : UInt8 → UInt8) (s : ByteArray) : (mapB g s).size = s.size := by
  show (s.data.toList.map g).toArray.size = s.data.size
  simp
theorem list_get (s : ByteArray) (i : Nat) (h : i < s.size) : s.data.toList[i]'(by rw [Array.length_toList]; exact h) = s[i] := rfl
theorem list_len (s : ByteArray) : s.data.toList.length = s.size := Array.length_toList
theorem bt_eq (s : ByteArray) (i : Nat) (h : i < s.size) (u : UInt8) : bt s (i : Int) = (u.toNat : Int) ↔ s.data.toList[i]'(by rw [list_len]; exact h) = u := by
  rw [bt_lt s i h, list_get s i h, ← UInt8.toNat_inj]
  omega
/-- The signs of ways, as bytes. -/
theorem way_bytes {s : ByteArray} {a b : UInt8} (h : Way s a.toNat b.toNat) : ∀ u ∈ s.data.toList, u = a ∨ u = b := by
  intro u hu
  obtain ⟨i, hi, rfl⟩ := List.getElem_of_mem hu
  have hi' : i < s.size := by rw [← list_len]; exact hi
  rcases h.2 i (by omega) hi' with g | g
  · exact .inl ((bt_eq s i hi' a).1 g)
  · exact .inr ((bt_eq s i hi' b).1 g)
/-- The text behind so many rounds. -/
def accB (g : UInt8 → UInt8) (s : ByteArray) (i : Nat) : ByteArray := ⟨((s.data.toList.take i).map g).toArray⟩
theorem accB_size (g : UInt8 → UInt8) (s : ByteArray) (i : Nat) (h : i ≤ s.size) : (accB g s i).size = i := by
  show ((s.data.toList.take i).map g).toArray.size = i
  rw [List.size_toArray, List.length_map, List.length_take, list_len]; omega
theorem accB_step (g : UInt8 → UInt8) (s : ByteArray) (i : Nat) (h : i < s.size) (u : UInt8) (hu : g (s.data.toList[i]'(by rw [list_len]; exact h)) = u) : accB g s i ++ (⟨#[u]⟩ : ByteArray) = accB g s (i + 1) := by
  refine ba_ext ?_
  rw [ByteArray.data_append, Array.toList_append]
  show (s.data.toList.take i).map g ++ [u] = (s.data.toList.take (i + 1)).map g
  rw [List.take_succ_eq_append_getElem (by rw [list_len]; exact h), List.map_append, List.map_cons, List.map_nil, hu]
theorem accB_zero (g : UInt8 → UInt8) (s : ByteArray) : accB g s 0 = ⟨#[]⟩ := by simp [accB]
theorem accB_end (g : UInt8 → UInt8) (s : ByteArray) : accB g s s.size = mapB g s := by
  unfold accB mapB
  rw [List.take_of_length_le (by rw [list_len]; omega)]
theorem owBack_l1 (s t acc : ByteArray) (ht : t.size ≤ 1048576) : ∀ i : Nat, i ≤ t.size → Ev (fun k => spec_owBack.l1 k i s t acc (accB gn t i)) (acc, mapB gn t) := by
  refine down t.size ?_ ?_
  · refine succ ?_
    simp only [spec_owBack.l1]
    exact neg (by omega) (conv (now _) (by rw [accB_end]))
  · intro i hi ih
    refine succ ?_
    simp only [spec_owBack.l1]
    rw [wnat (by omega)]
    have z := accB_size gn t i (by omega)
    refine pos (by omega) (pos (by omega) ?_)
    by_cases c : bt t i = 110
    · refine pos c (pos (by omega) ?_)
      rw [accB_step gn t i hi 115 (by rw [(bt_eq t i hi 110).1 c]; rfl)]
      exact ih
    · refine neg c (pos (by omega) ?_)
      rw [accB_step gn t i hi 110 (by unfold gn; rw [if_neg (fun h => c ((bt_eq t i hi 110).2 h))])]
      exact ih
theorem owBack_l0 (s t : ByteArray) (hs : s.size ≤ 1048576) (ht : t.size ≤ 1048576) : ∀ i : Nat, i ≤ s.size → Ev (fun k => spec_owBack.l0 k i s t (accB ge s i) ⟨#[]⟩) (mapB ge s, mapB gn t) := by
  refine down s.size ?_ ?_
  · refine succ ?_
    simp only [spec_owBack.l0]
    refine neg (by omega) ?_
    rw [accB_end]
    have := owBack_l1 s t (mapB ge s) ht 0 (by omega)
    rw [accB_zero] at this
    exact this
  · intro i hi ih
    refine succ ?_
    simp only [spec_owBack.l0]
    rw [wnat (by omega)]
    have z := accB_size ge s i (by omega)
    refine pos (by omega) (pos (by omega) ?_)
    by_cases c : bt s i = 101
    · refine pos c (pos (by omega) ?_)
      rw [accB_step ge s i hi 119 (by rw [(bt_eq s i hi 101).1 c]; rfl)]
      exact ih
    · refine neg c (pos (by omega) ?_)
      rw [accB_step ge s i hi 101 (by unfold ge; rw [if_neg (fun h => c ((bt_eq s i hi 101).2 h))])]
      exact ih
theorem owBack_f (s t : ByteArray) (hs : s.size ≤ 1048576) (ht : t.size ≤ 1048576) : Ev (fun k => spec_owBack.f k s t) (mapB ge s, mapB gn t) := by
  unfold spec_owBack.f
  have := owBack_l0 s t hs ht 0 (by omega)
  rw [accB_zero] at this
  exact this

theorem bt_mapB (g : UInt8 → UInt8) (s : ByteArray) (i : Nat) (h : i < s.size) : bt (mapB g s) (i : Int) = ((g (s[i]'h)).toNat : Int) := by
  have h' : i < (mapB g s).size := by rw [mapB_size]; exact h
  rw [bt_lt _ i h', ← list_get _ i h']
  simp only [mapB_list, List.getElem_map]
  rw [list_get s i h]
theorem bt_ge (s : ByteArray) (i : Nat) (h : i < s.size) : bt (mapB ge s) (i : Int) = if bt s i = 101 then 119 else 101 := by
  rw [bt_mapB ge s i h, bt_lt s i h]
  unfold ge
  by_cases c : s[i] = 101
  · rw [if_pos c, if_pos (by rw [c]; rfl)]; rfl
  · have hne : ¬ ((s[i].toNat : Int) = 101) := fun e => by
      have e2 : s[i].toNat = 101 := by omega
      exact c (UInt8.toNat_inj.1 e2)
    rw [if_neg c, if_neg hne]; rfl
theorem bt_gn (s : ByteArray) (i : Nat) (h : i < s.size) : bt (mapB gn s) (i : Int) = if bt s i = 110 then 115 else 110 := by
  rw [bt_mapB gn s i h, bt_lt s i h]
  unfold gn
  by_cases c : s[i] = 110
  · rw [if_pos c, if_pos (by rw [c]; rfl)]; rfl
  · have hne : ¬ ((s[i].toNat : Int) = 110) := fun e => by
      have e2 : s[i].toNat = 110 := by omega
      exact c (UInt8.toNat_inj.1 e2)
    rw [if_neg c, if_neg hne]; rfl
theorem good_back {s t : ByteArray} (h : Good s t) : Good (mapB ge s) (mapB gn t) := by
  refine ⟨⟨by rw [mapB_size]; exact h.1.1, fun j _ hj => ?_⟩, by rw [mapB_size]; exact h.2.1, fun j _ hj => ?_⟩
  · rw [mapB_size] at hj
    rw [bt_ge s j hj]
    split
    · exact .inr rfl
    · exact .inl rfl
  · rw [mapB_size] at hj
    rw [bt_gn t j hj]
    split
    · exact .inr rfl
    · exact .inl rfl
theorem back_can (s t : ByteArray) (hg : Good s t) (x y n : Nat) (hn : n < 4) (hx : x < t.size) (hy : y < s.size) (hin : (0 ≤ (x : Int) + impl_driveIn.dx n ∧ (x : Int) + impl_driveIn.dx n ≤ (t.size : Int) - 1) ∧ (0 ≤ (y : Int) + impl_driveIn.dy n ∧ (y : Int) + impl_driveIn.dy n ≤ (s.size : Int) - 1)) :
    impl_driveIn.can (mapB ge s) (mapB gn t) x y n = impl_driveIn.can s t ((x : Int) + impl_driveIn.dx n) ((y : Int) + impl_driveIn.dy n) (3 - n) := by
  have hS := hg.1.2 y (Nat.zero_le _) hy
  have hT := hg.2.2 x (Nat.zero_le _) hx
  have bS := bt_ge s y hy
  have bT := bt_gn t x hx
  have hU : bt t ((x : Int) + impl_driveIn.dx n) = 110 ∨ bt t ((x : Int) + impl_driveIn.dx n) = 115 := by
    obtain ⟨u, hu⟩ := Int.eq_ofNat_of_zero_le hin.1.1
    rw [hu]
    exact hg.2.2 u (Nat.zero_le _) (by have := hin.1.2; omega)
  have hV : bt s ((y : Int) + impl_driveIn.dy n) = 101 ∨ bt s ((y : Int) + impl_driveIn.dy n) = 119 := by
    obtain ⟨u, hu⟩ := Int.eq_ofNat_of_zero_le hin.2.1
    rw [hu]
    exact hg.1.2 u (Nat.zero_le _) (by have := hin.2.2; omega)
  obtain ⟨d1, d2⟩ := dx_turn n hn
  unfold impl_driveIn.can
  rw [mapB_size, mapB_size, decide_eq_true hin, d1, d2, decide_eq_true (show (0 ≤ (x : Int) + impl_driveIn.dx n + -impl_driveIn.dx n ∧ (x : Int) + impl_driveIn.dx n + -impl_driveIn.dx n ≤ (t.size : Int) - 1) ∧ (0 ≤ (y : Int) + impl_driveIn.dy n + -impl_driveIn.dy n ∧ (y : Int) + impl_driveIn.dy n + -impl_driveIn.dy n ≤ (s.size : Int) - 1) by omega), bS, bT]
  have c : n = 0 ∨ n = 1 ∨ n = 2 ∨ n = 3 := by omega
  rcases c with rfl | rfl | rfl | rfl
  · simp only [impl_driveIn.dx, impl_driveIn.dy, if_true, Int.add_zero, show (0 : Nat) ≠ 1 by decide, show (0 : Nat) ≠ 2 by decide, if_false] at hU hV ⊢
    rcases hS with a | a <;> rcases hT with b | b <;> rcases hU with e | e <;> simp [impl_driveIn.sg, a, b, e]
  · simp only [impl_driveIn.dx, impl_driveIn.dy, if_true, Int.add_zero, show (1 : Nat) ≠ 0 by decide, show (1 : Nat) ≠ 3 by decide, if_false] at hU hV ⊢
    rcases hS with a | a <;> rcases hT with b | b <;> rcases hV with e | e <;> simp [impl_driveIn.sg, a, b, e]
  · simp only [impl_driveIn.dx, impl_driveIn.dy, if_true, Int.add_zero, show (2 : Nat) ≠ 0 by decide, show (2 : Nat) ≠ 3 by decide, show (2 : Nat) ≠ 1 by decide, if_false] at hU hV ⊢
    rcases hS with a | a <;> rcases hT with b | b <;> rcases hV with e | e <;> simp [impl_driveIn.sg, a, b, e]
  · simp only [impl_driveIn.dx, impl_driveIn.dy, if_true, Int.add_zero, show (3 : Nat) ≠ 0 by decide, show (3 : Nat) ≠ 1 by decide, show (3 : Nat) ≠ 2 by decide, if_false] at hU hV ⊢
    rcases hS with a | a <;> rcases hT with b | b <;> rcases hU with e | e <;> simp [impl_driveIn.sg, a, b, e]
theorem back_stp (s t : ByteArray) (hg : Good s t) (x : Nat × Nat) (n : Nat) (hn : n < 4) (hx : InC s t x) : impl_distancesBy.stp false (mapB ge s) (mapB gn t) x n = impl_distancesBy.stp true s t x n := by
  unfold impl_distancesBy.stp
  rw [mapB_size, mapB_size]
  by_cases hin : (0 ≤ (x.1 : Int) + impl_driveIn.dx n ∧ (x.1 : Int) + impl_driveIn.dx n ≤ (t.size : Int) - 1) ∧ (0 ≤ (x.2 : Int) + impl_driveIn.dy n ∧ (x.2 : Int) + impl_driveIn.dy n ≤ (s.size : Int) - 1)
  · rw [if_neg (show ¬ (false = true) by simp), back_can s t hg x.1 x.2 n hn hx.1 hx.2 hin, if_pos (show true = true from rfl)]
  · rw [if_neg (fun z => hin z.1), if_neg (fun z => hin z.1)]
/-- Distances in turned ways are those to a corner. -/
theorem dist_back (s t : ByteArray) (hg : Good s t) (a : Nat × Nat) (ha : InC s t a) : impl_distancesBy.dist false (mapB ge s) (mapB gn t) a = impl_distancesBy.dist true s t a := by
  have z1 := hg.1.1
  have z2 := hg.2.1
  have hb := good_back hg
  have e : ∀ p, InC (mapB ge s) (mapB gn t) p ↔ InC s t p := fun p => by unfold InC; rw [mapB_size, mapB_size]
  obtain ⟨h1, h2, -⟩ := far_ex false (mapB ge s) (mapB gn t) (by rw [mapB_size]; omega) (by rw [mapB_size]; omega) a ((e a).2 ha)
  obtain ⟨k1, k2, -⟩ := far_ex true s t (by omega) (by omega) a ha
  refine (far_in h1 (InC s t) (fun c hc => (e c).1 (h2 c hc))).uniq ((far_in k1 _ k2).congr (fun x y => ?_))
  constructor
  · rintro ⟨hx, hy, n, hn, hs⟩
    exact ⟨hx, hy, n, hn, by rw [back_stp s t hg x n hn hx]; exact hs⟩
  · rintro ⟨hx, hy, n, hn, hs⟩
    exact ⟨hx, hy, n, hn, by rw [← back_stp s t hg x n hn hx]; exact hs⟩

theorem tab_dv (s t : ByteArray) (d : Nat × Nat → Int) (x y : Nat) (hx : x < t.size) (hy : y < s.size) : impl_firstWay.dv (impl_distancesBy.tab t.size s.size d) x y = d (x, y) := by
  unfold impl_firstWay.dv
  rw [Int.toNat_natCast, tab_getD _ _ _ _ hx, rd_lt _ _ (by simpa using hy)]
  simp
theorem tab_rect (s t : ByteArray) (d : Nat × Nat → Int) (hd : ∀ c, -1 ≤ d c ∧ d c ≤ 64) : impl_firstWay.Rect (impl_distancesBy.tab t.size s.size d) t.size s.size := by
  refine ⟨tab_len _ _ _, fun r hr => ?_⟩
  obtain ⟨x, -, rfl⟩ := List.mem_map.1 hr
  refine ⟨by simp, fun v hv => ?_⟩
  obtain ⟨y, -, rfl⟩ := List.mem_map.1 hv
  exact hd _
/-- Both see the same steps as nearer. -/
theorem ok_nr (s t : ByteArray) (d : Nat × Nat → Int) (n : Nat) (p : Nat × Nat) (hp : InC s t p) (hd : d p = ((n + 1 : Nat) : Int)) (m : Nat) : spec_FirstDrive.ok (spec_owFar.flat t.size s.size d) s t n p.1 p.2 m = impl_firstWay.nr (impl_distancesBy.tab t.size s.size d) s t p.1 p.2 m := by
  unfold spec_FirstDrive.ok impl_firstWay.nr
  cases hc : impl_driveIn.can s t p.1 p.2 m with
  | false => simp
  | true =>
    have hat := impl_firstWay.can_at hc
    obtain ⟨u, hu⟩ := Int.eq_ofNat_of_zero_le hat.1.1
    obtain ⟨v, hv⟩ := Int.eq_ofNat_of_zero_le hat.2.1
    have hut : u < t.size := by have := hat.1.2; omega
    have hvs : v < s.size := by have := hat.2.2; omega
    rw [hu, hv, tab_dv s t d u v hut hvs, tab_dv s t d p.1 p.2 hp.1 hp.2, ← Int.natCast_mul, ← Int.natCast_add, flat_rd _ _ _ _ _ hut hvs, hd, Bool.true_and, Bool.true_and, decide_eq_decide]
    omega

open impl_countWays (iter)
theorem iter_snoc {σ : Type} (f : Nat → σ → σ) : ∀ (n i : Nat) (c : σ), iter f (n + 1) i c = f (i + n) (iter f n i c)
  | 0, i, c => rfl
  | n + 1, i, c => by
    show iter f (n + 1) (i + 1) (f i c) = _
    rw [iter_snoc f n (i + 1) (f i c)]
    show f (i + 1 + n) _ = f (i + (n + 1)) _
    rw [show i + 1 + n = i + (n + 1) by omega]
    rfl
theorem iter_rel {σ τ : Type} (R : σ → τ → Prop) (f : Nat → σ → σ) (g : Nat → τ → τ) : ∀ (n i : Nat) (c : σ) (c' : τ), (∀ j c c', i ≤ j → j < i + n → R c c' → R (f j c) (g j c')) → R c c' → R (iter f n i c) (iter g n i c')
  | 0, _, _, _, _, h => h
  | n + 1, i, c, c', hs, h => iter_rel R f g n (i + 1) _ _ (fun j c c' h1 h2 => hs j c c' (by omega) (by omega)) (hs i c c' (Nat.le_refl _) (by omega) h)
theorem iter_cong {σ : Type} (f g : Nat → σ → σ) (n i : Nat) (c : σ) (h : ∀ j c, i ≤ j → j < i + n → f j c = g j c) : iter f n i c = iter g n i c :=
  iter_rel Eq f g n i c c (fun j c c' h1 h2 e => by rw [e]; exact h j c' h1 h2) rfl
theorem iter_shift {σ : Type} (f : Nat → σ → σ) (a : Nat) : ∀ (n i : Nat) (c : σ), iter (fun j => f (a + j)) n i c = iter f n (a + i) c
  | 0, _, _ => rfl
  | n + 1, i, c => by
    show iter (fun j => f (a + j)) n (i + 1) (f (a + i) c) = iter f n (a + i + 1) (f (a + i) c)
    rw [iter_shift f a n (i + 1) _]
    rfl
theorem iter_add {σ : Type} (f : Nat → σ → σ) (b : Nat) : ∀ (n i : Nat) (c : σ), iter f (n + b) i c = iter f b (i + n) (iter f n i c)
  | 0, i, c => by rw [Nat.zero_add]; rfl
  | n + 1, i, c => by
    rw [show n + 1 + b = (n + b) + 1 by omega]
    show iter f (n + b) (i + 1) (f i c) = iter f b (i + (n + 1)) (iter f n (i + 1) (f i c))
    rw [iter_add f b n (i + 1) _, show i + 1 + n = i + (n + 1) by omega]
/-- One run over all corners is a run of runs. -/
theorem iter_nest {σ : Type} (f : Nat → σ → σ) (H : Nat) : ∀ (W : Nat) (c : σ), iter f (W * H) 0 c = iter (fun x c => iter (fun y => f (x * H + y)) H 0 c) W 0 c
  | 0, c => by rw [Nat.zero_mul]; rfl
  | W + 1, c => by
    rw [iter_snoc, ← iter_nest f H W c, show (W + 1) * H = W * H + H by rw [Nat.add_mul, Nat.one_mul], iter_add, Nat.zero_add, Nat.zero_add, iter_shift]
    rfl
/-- Two tables of the same numbers. -/
def Same (W H : Nat) (c : Nat × Nat → Int) (c' : Nat → Int) : Prop := ∀ x y, x < W → y < H → c (x, y) = c' (x * H + y)
theorem cd_inj {H x y x' y' : Nat} (hy : y < H) (hy' : y' < H) (h : x * H + y = x' * H + y') : x = x' ∧ y = y' := by
  have a := spec_owFar.cd_div H x y hy
  have b := spec_owFar.cd_div H x' y' hy'
  rw [h] at a
  exact ⟨a.1.symm.trans b.1, a.2.symm.trans b.2⟩
theorem Same.upd {W H : Nat} {c : Nat × Nat → Int} {c' : Nat → Int} (h : Same W H c c') (x y : Nat) (hy : y < H) (v : Int) : Same W H (impl_countWays.upd c (x, y) v) (spec_CountDrives.upd c' (x * H + y) v) := by
  intro u z hu hz
  unfold impl_countWays.upd spec_CountDrives.upd
  by_cases e : (u, z) = (x, y)
  · obtain ⟨rfl, rfl⟩ := Prod.mk.inj e
    rw [if_pos rfl, if_pos rfl]
  · rw [if_neg e, if_neg (fun q => e (by obtain ⟨rfl, rfl⟩ := cd_inj hz hy q; rfl))]
    exact h u z hu hz
theorem sg_same (s t : ByteArray) (d : Nat × Nat → Int) (n x y m : Nat) (hx : x < t.size) (hy : y < s.size) (hd : d (x, y) = ((n + 1 : Nat) : Int)) {c : Nat × Nat → Int} {c' : Nat → Int} (h : Same t.size s.size c c') :
    Same t.size s.size (impl_countWays.sgF (impl_distancesBy.tab t.size s.size d) s t (n + 1) x y m c) (spec_CountDrives.sgF (spec_owFar.flat t.size s.size d) s t (n + 1) (x * s.size + y) m c') := by
  unfold impl_countWays.sgF spec_CountDrives.sgF
  obtain ⟨e1, e2⟩ := spec_owFar.cd_div s.size x y hy
  have hok := ok_nr s t d n (x, y) ⟨hx, hy⟩ hd m
  rw [e1, e2, show ((n + 1 : Nat) : Int) - 1 = (n : Int) by omega, hok]
  cases hn : impl_firstWay.nr (impl_distancesBy.tab t.size s.size d) s t x y m with
  | false =>
    rw [if_neg (by simp), if_neg (by simp)]
    exact h
  | true =>
    rw [if_pos ⟨by omega, rfl⟩, if_pos rfl]
    unfold impl_firstWay.nr at hn
    rw [Bool.and_eq_true] at hn
    have hat := impl_firstWay.can_at hn.1
    obtain ⟨u, hu⟩ := Int.eq_ofNat_of_zero_le hat.1.1
    obtain ⟨v, hv⟩ := Int.eq_ofNat_of_zero_le hat.2.1
    have hut : u < t.size := by have := hat.1.2; omega
    have hvs : v < s.size := by have := hat.2.2; omega
    rw [hu, hv, ← Int.natCast_mul, ← Int.natCast_add, Int.toNat_natCast, Int.toNat_natCast, Int.toNat_natCast, h x y hx hy, h u v hut hvs]
    exact h.upd x y hy _
theorem flat_get (s t : ByteArray) (d : Nat × Nat → Int) (x y : Nat) (hx : x < t.size) (hy : y < s.size) : rd (spec_owFar.flat t.size s.size d) ((x * s.size + y : Nat) : Int) = d (x, y) := flat_rd _ _ _ _ _ hx hy
theorem lev_same (s t : ByteArray) (d : Nat × Nat → Int) (n : Nat) {c : Nat × Nat → Int} {c' : Nat → Int} (h : Same t.size s.size c c') :
    Same t.size s.size (impl_countWays.levF (impl_distancesBy.tab t.size s.size d) s t (n + 1) c) (spec_CountDrives.levF (spec_owFar.flat t.size s.size d) s t (n + 1) c') := by
  unfold impl_countWays.levF spec_CountDrives.levF
  rw [iter_nest]
  refine iter_rel _ _ _ _ _ _ _ (fun x c c' _ hx h => ?_) h
  refine iter_rel _ _ _ _ _ _ _ (fun y c c' _ hy h => ?_) h
  have hx' : x < t.size := by omega
  have hy' : y < s.size := by omega
  unfold impl_countWays.cellF spec_CountDrives.cellF
  rw [flat_get s t d x y hx' hy', tab_dv s t d x y hx' hy']
  by_cases e : d (x, y) = ((n + 1 : Nat) : Int)
  · rw [if_pos e, if_pos e, if_neg (by omega)]
    exact iter_rel _ _ _ _ _ _ _ (fun m c c' _ _ h => sg_same s t d n x y m hx' hy' e h) h
  · rw [if_neg e, if_neg e]
    exact h
/-- The first level: one drive of no step. -/
theorem lev_zero (s t : ByteArray) (d : Nat × Nat → Int) (b : Nat × Nat) (hb : InC s t b) (hz : ∀ p, InC s t p → (d p = 0 ↔ p = b)) :
    Same t.size s.size (impl_countWays.levF (impl_distancesBy.tab t.size s.size d) s t 0 (fun _ => 0)) (spec_CountDrives.upd (fun _ => 0) (b.1 * s.size + b.2) 1) := by
  have key : Same t.size s.size (impl_countWays.levF (impl_distancesBy.tab t.size s.size d) s t 0 (fun _ => 0)) (iter (fun q c => if q = b.1 * s.size + b.2 then spec_CountDrives.upd c q 1 else c) (t.size * s.size) 0 (fun _ => 0)) := by
    unfold impl_countWays.levF
    rw [iter_nest]
    refine iter_rel _ _ _ _ _ _ _ (fun x c c' _ hx h => ?_) (fun _ _ _ _ => rfl)
    refine iter_rel _ _ _ _ _ _ _ (fun y c c' _ hy h => ?_) h
    have hx' : x < t.size := by omega
    have hy' : y < s.size := by omega
    unfold impl_countWays.cellF
    rw [tab_dv s t d x y hx' hy', show ((0 : Nat) : Int) = 0 from rfl]
    have e := hz (x, y) ⟨hx', hy'⟩
    by_cases q : d (x, y) = 0
    · have hbe := e.1 q
      rw [if_pos q, if_pos rfl, if_pos (by rw [← hbe])]
      have z : iter (impl_countWays.sgF (impl_distancesBy.tab t.size s.size d) s t 0 x y) 4 0 (impl_countWays.upd c (x, y) 1) = impl_countWays.upd c (x, y) 1 := by
        simp [impl_countWays.iter, impl_countWays.sgF]
      rw [z]
      exact h.upd x y hy' 1
    · rw [if_neg q, if_neg (fun w => q (e.2 (by obtain ⟨h1, h2⟩ := cd_inj hy' hb.2 w; exact Prod.ext h1 h2)))]
      exact h
  have fin : ∀ n, iter (fun q c => if q = b.1 * s.size + b.2 then spec_CountDrives.upd c q 1 else c) n 0 (fun _ => (0 : Int)) = if b.1 * s.size + b.2 < n then spec_CountDrives.upd (fun _ => 0) (b.1 * s.size + b.2) 1 else fun _ => 0 := by
    intro n
    induction n with
    | zero => rfl
    | succ n ih =>
      rw [iter_snoc, ih, Nat.zero_add]
      by_cases e : n = b.1 * s.size + b.2
      · rw [if_pos e, if_neg (by omega), if_pos (by omega), e]
      · rw [if_neg e]
        by_cases q : b.1 * s.size + b.2 < n
        · rw [if_pos q, if_pos (by omega)]
        · rw [if_neg q, if_neg (by omega)]
  rw [fin, if_pos (spec_owFar.cd_lt _ _ _ _ hb.1 hb.2)] at key
  exact key
theorem total_same (s t : ByteArray) (hs : s.size ≤ 8) (ht : t.size ≤ 8) (a b : Nat × Nat) (ha : InC s t a) (hb : InC s t b) (D : Nat) :
    impl_countWays.total (impl_distancesBy.tab t.size s.size (impl_distancesBy.dist true s t b)) s t D a = spec_CountDrives.total (spec_owFar.flat t.size s.size (impl_distancesBy.dist true s t b)) s t D (b.1 * s.size + b.2) (a.1 * s.size + a.2) := by
  obtain ⟨hF, hI, hM⟩ := far_ex true s t hs ht b hb
  have hz : ∀ p, InC s t p → (impl_distancesBy.dist true s t b p = 0 ↔ p = b) := by
    intro p hp
    constructor
    · intro h
      by_cases e : p = b
      · exact e
      · have z := (hF.back p (by omega) e).1
        omega
    · intro h
      rw [h]
      exact hF.zero
  have key : Same t.size s.size (iter (impl_countWays.levF (impl_distancesBy.tab t.size s.size (impl_distancesBy.dist true s t b)) s t) D 1 (impl_countWays.levF (impl_distancesBy.tab t.size s.size (impl_distancesBy.dist true s t b)) s t 0 (fun _ => 0))) (iter (spec_CountDrives.levF (spec_owFar.flat t.size s.size (impl_distancesBy.dist true s t b)) s t) D 1 (spec_CountDrives.upd (fun _ => 0) (b.1 * s.size + b.2) 1)) := by
    refine iter_rel _ _ _ _ _ _ _ (fun n c c' h1 _ h => ?_) (lev_zero s t _ b hb hz)
    obtain ⟨m, rfl⟩ : ∃ m, n = m + 1 := ⟨n - 1, by omega⟩
    exact lev_same s t _ m h
  exact key a.1 a.2 ha.1 ha.2
theorem both_same (s t : ByteArray) (xs ys : List Int) (hs : s.size ≤ 1048576) (ht : t.size ≤ 1048576) : ∃ v, Ev (fun k => spec_CountDrives.f k s t xs ys) v ∧ Ev (fun k => impl_CountDrives.f k s t xs ys) v := by
  unfold spec_CountDrives.f impl_CountDrives.f
  by_cases c : good s t = true ∧ spec_owCorner.corner t.size s.size xs = true ∧ spec_owCorner.corner t.size s.size ys = true
  case neg =>
    exact ⟨(0, false), bind (owAsked_f s t xs ys hs ht) (neg (by simpa [Bool.and_eq_true] using c) (now _)), bind (areDriven_f s t [xs, ys] hs ht) (neg (by simpa [Bool.and_eq_true] using c) (now _))⟩
  obtain ⟨g, cx, cy⟩ := c
  have G := (good_iff s t).1 g
  have z1 := G.1.1
  have z2 := G.2.1
  have hx := (corner_iff s t xs).1 cx
  have hy := (corner_iff s t ys).1 cy
  obtain ⟨ix, ex0, ex1⟩ := crn_in hx.2
  obtain ⟨iy, -, -⟩ := crn_in hy.2
  have hd := dist_turn s t (by omega) (by omega) _ _ ix iy
  have hsm := far_ex true s t (by omega) (by omega) (crn ys) iy
  obtain ⟨D, hD⟩ : ∃ D, impl_distancesBy.dist false s t (crn xs) (crn ys) = D := ⟨_, rfl⟩
  rw [hD] at hd
  have q1 := owDistance_f s t G xs ys hx hy
  rw [hD] at q1
  have i1 := ix.1
  have i2 := ix.2
  have er : rd_L1 (impl_distancesBy.tab t.size s.size (impl_distancesBy.dist true s t (crn ys))) ((crn xs).1 : Int) = (List.range s.size).map fun y => impl_distancesBy.dist true s t (crn ys) ((crn xs).1, y) := tab_row _ _ _ _ i1
  have ev : rd (rd_L1 (impl_distancesBy.tab t.size s.size (impl_distancesBy.dist true s t (crn ys))) ((crn xs).1 : Int)) ((crn xs).2 : Int) = D := by
    rw [tab_rd _ _ _ _ _ i1 i2, hd]
  have drv : ∀ v, Ev (fun k => if D < 0 then some (0, false) else (impl_driveIn.f s t).bind fun t174 => (impl_countWays.f k (impl_distancesBy.tab t.size s.size (impl_distancesBy.dist true s t (crn ys))) xs t174).bind fun t175 => some (t175, true)) v → Ev (fun k => impl_CountDrives.f k s t xs ys) v := by
    intro v hv
    unfold impl_CountDrives.f
    refine bind (areDriven_f s t [xs, ys] hs ht) (pos (by simp [g, cx, cy]) (bind (drivesTo_some s t G ys hy) ?_))
    rw [ex0, ex1, tab_len, ev, er]
    exact pos (by omega) (pos (by omega) (pos (by omega) (pos (by omega) (pos (by omega) (pos (by simp; omega) hv)))))
  by_cases q : D < 0
  · exact ⟨(0, false), bind (owAsked_f s t xs ys hs ht) (pos (by simp [g, cx, cy]) (bind q1 (pos q (now _)))), by have z := drv _ (pos q (now _)); unfold impl_CountDrives.f at z; exact z⟩
  · obtain ⟨n, hn⟩ := Int.eq_ofNat_of_zero_le (show 0 ≤ D by omega)
    have hD64 : D ≤ 64 := by rw [hd]; exact hsm.2.2 _
    have hyb : ys.length = 2 ∧ impl_driveIn.At (mapB ge s) (mapB gn t) (rd ys 0) (rd ys 1) := ⟨hy.1, by unfold impl_driveIn.At; rw [mapB_size, mapB_size]; exact hy.2⟩
    have q2 := owFar_some (mapB ge s) (mapB gn t) (good_back G) ys hyb.1 hyb.2
    rw [mapB_size, mapB_size, dist_back s t G (crn ys) iy] at q2
    obtain ⟨iy2, ey0, ey1⟩ := crn_in hy.2
    have hE := total_same s t (by omega) (by omega) (crn xs) (crn ys) ix iy n
    obtain ⟨T, hT⟩ : ∃ T, spec_CountDrives.total (spec_owFar.flat t.size s.size (impl_distancesBy.dist true s t (crn ys))) s t n ((crn ys).1 * s.size + (crn ys).2) ((crn xs).1 * s.size + (crn xs).2) = T := ⟨_, rfl⟩
    have e : D.toNat = n := by omega
    refine ⟨(T, true), bind (owAsked_f s t xs ys hs ht) (pos (by simp [g, cx, cy]) (bind q1 (neg q (bind (owBack_f s t (by omega) (by omega)) (bind q2 (pos ⟨⟨⟨⟨signs_of G, hx.1⟩, hx.2⟩, hy.1, hy.2⟩, flat_len _ _ _, hD64⟩ (conv (now _) ?_))))))), ?_⟩
    · rw [e, ex0, ex1, ey0, ey1]
      simp only [Int.toNat_natCast]
      rw [hT]
    · have hcw : Ev (fun k => impl_countWays.f k (impl_distancesBy.tab t.size s.size (impl_distancesBy.dist true s t (crn ys))) xs (s, t)) T := by
        refine ⟨1, fun k hk => ?_⟩
        obtain ⟨k, rfl⟩ : ∃ j, k = j + 1 := ⟨k - 1, by omega⟩
        have edv : impl_firstWay.dv (impl_distancesBy.tab t.size s.size (impl_distancesBy.dist true s t (crn ys))) ((crn xs).1 : Int) ((crn xs).2 : Int) = D := by
          rw [tab_dv s t _ _ _ i1 i2, hd]
        unfold impl_countWays.f
        dsimp only
        rw [if_pos ⟨⟨⟨tab_rect s t _ (fun c => ⟨hsm.1.low c, hsm.2.2 c⟩), (signs_of G).1⟩, hx.1, hx.2⟩, by rw [ex0, ex1, edv]; omega⟩, ex0, ex1, edv, e, Int.toNat_natCast, Int.toNat_natCast, hE, hT]
      have z := drv _ (neg q (bindSome rfl (bind hcw (now _))))
      unfold impl_CountDrives.f at z
      exact z
theorem FnExactCountDrives : laws_FnExactCountDrives.Pure := by
  intro s t xs ys hs ht hm hl8 hw hm' hl8' hw'
  refine Ev.rounds ?_
  unfold laws_FnExactCountDrives.f laws_toWays.f
  by_cases h : (xs.length : Int) > 1048576
  · exact pos h (now _)
  refine neg h ?_
  by_cases h' : (ys.length : Int) > 1048576
  · exact pos h' (now _)
  refine neg h' ?_
  obtain ⟨v, hv, hn⟩ := szWays_f s t hs ht
  refine bindSome hv ?_
  by_cases c : v < 0
  · exact pos c (now _)
  refine neg c ?_
  have hz := hn c
  have hl : xs.length ≤ 35184372088832 := by omega
  have hl' : ys.length ≤ 35184372088832 := by omega
  obtain ⟨r, h1, h2⟩ := both_same s t xs ys hz.1 hz.2
  simp only [Option.bind_some]
  refine bind (toIntS_f xs hl) (bind (toIntS_f ys hl') (bind h1 (bind (toIntS_f xs hl) (bind (toIntS_f ys hl') (bind h2 (pos rfl (succ ?_)))))))
  simp only [laws_FnExactCountDrives.j0]
  exact neg (by simp) (bind (toIntS_f xs hl) (bind (eqIntS_same xs hl) (pos rfl (bind (toIntS_f ys hl') (bind (eqIntS_same ys hl') (pos rfl (now _)))))))

end Go.Proofs.Ytopbmiedlpkmjaa.Pure
