/- The plain law of FnExactCanDrive: what the printed functions compute answers true at every input within the bounds that the print tells. -/
import Derived.Test.YtopbmiedlpkmjaaMTx7
import Derived.Test.YtopbmiedlpkmjaaLib
namespace Go.Proofs.Ytopbmiedlpkmjaa.Pure
open Go.RowKit Go.Proofs.Ytopbmiedlpkmjaa.MT Go.Proofs.YtopbmiedlpkmjaaW.PrintWords Go.Proofs.YtopbmiedlpkmjaaW.PrintLast Go.Proofs.YtopbmiedlpkmjaaW.PrintMore Go.Proofs.Ytopbmiedlpkmjaa.Lib
set_option linter.unusedVariables false
set_option linter.unusedSimpArgs false

theorem spec_in (a b c : Int) : spec_l1In.f a b c = some (decide (b ≤ a ∧ a ≤ c)) := by
  unfold spec_l1In.f
  by_cases h : a ≥ b
  · rw [if_pos h]; simp [show b ≤ a from h]
  · rw [if_neg h]; simp [show ¬ b ≤ a from h]
theorem impl_in (a b c : Int) : impl_within.f a b c = some (decide (b ≤ a ∧ a ≤ c)) := by
  unfold impl_within.f
  by_cases h : a ≥ b
  · rw [if_pos h]; simp [show b ≤ a from h]
  · rw [if_neg h]; simp [show ¬ b ≤ a from h]
/-- Two signs alone from one on. -/
def Signs (s : ByteArray) (a b : Int) (i : Nat) : Prop := ∀ j : Nat, i ≤ j → j < s.size → bt s j = a ∨ bt s j = b
theorem signs_end (s : ByteArray) (a b : Int) : Signs s a b s.size := fun j h1 h2 => by omega
theorem signs_step (s : ByteArray) (a b : Int) (i : Nat) (hi : i < s.size) : Signs s a b i ↔ (bt s i = a ∨ bt s i = b) ∧ Signs s a b (i + 1) := by
  constructor
  · intro g; exact ⟨g i (Nat.le_refl _) hi, fun j h1 h2 => g j (by omega) h2⟩
  · rintro ⟨g, r⟩ j h1 h2
    by_cases e : j = i
    · subst e; exact g
    · exact r j (by omega) h2
/-- The signs of ways in one direction. -/
def Way (s : ByteArray) (a b : Int) : Prop := (2 ≤ s.size ∧ s.size ≤ 8) ∧ Signs s a b 0
/-- Ways. -/
def Good (s t : ByteArray) : Prop := Way s 101 119 ∧ Way t 110 115
open Classical in
noncomputable def good (s t : ByteArray) : Bool := decide (Good s t)
theorem good_iff (s t : ByteArray) : good s t = true ↔ Good s t := by unfold good; simp
open Classical in
theorem spec_owText_l0 (s : ByteArray) (a b : Int) (hs : s.size ≤ 9223372036854775807) : ∀ i : Nat, i ≤ s.size → Ev (fun k => spec_owText.l0 k s a b i) (decide (Signs s a b i)) := by
  refine down s.size ?_ ?_
  · refine succ ?_
    simp only [spec_owText.l0]
    exact neg (by omega) (conv (now _) (by simp [signs_end]))
  · intro i hi ih
    refine succ ?_
    simp only [spec_owText.l0]
    rw [wnat (by omega)]
    refine pos (by omega) (pos (by omega) ?_)
    by_cases c1 : bt s i = a
    · exact pos c1 (conv ih (by rw [decide_eq_decide, signs_step s a b i hi]; exact ⟨fun g => ⟨.inl c1, g⟩, fun g => g.2⟩))
    · refine neg c1 ?_
      by_cases c2 : bt s i = b
      · exact pos c2 (conv ih (by rw [decide_eq_decide, signs_step s a b i hi]; exact ⟨fun g => ⟨.inr c2, g⟩, fun g => g.2⟩))
      · exact neg c2 (conv (now _) (Eq.symm (decide_eq_false (by rw [signs_step s a b i hi]; exact fun g => g.1.elim c1 c2))))
open Classical in
theorem spec_owText_f (s : ByteArray) (a b : Int) (hs : s.size ≤ 9223372036854775807) : Ev (fun k => spec_owText.f k s a b) (decide (Way s a b)) := by
  unfold spec_owText.f
  simp only [spec_in, Option.bind_some]
  by_cases c : 2 ≤ (s.size : Int) ∧ (s.size : Int) ≤ 8
  · refine pos (by simpa using c) (conv (spec_owText_l0 s a b hs 0 (by omega)) ?_)
    rw [decide_eq_decide]
    exact ⟨fun g => ⟨by omega, g⟩, fun g => g.2⟩
  · exact neg (by simpa using c) (conv (now _) (Eq.symm (decide_eq_false (fun g => c (by have := g.1; omega)))))
open Classical in
theorem spec_owGood_f (s t : ByteArray) (hs : s.size ≤ 9223372036854775807) (ht : t.size ≤ 9223372036854775807) : Ev (fun k => spec_owGood.f k s t) (good s t) := by
  unfold spec_owGood.f
  refine bind (spec_owText_f s _ _ hs) ?_
  by_cases c : Way s 101 119
  · refine pos (by simpa using c) (conv (bind (spec_owText_f t _ _ ht) (now _)) ?_)
    unfold good Good
    rw [decide_eq_decide]
    exact ⟨fun g => ⟨c, g⟩, fun g => g.2⟩
  · refine neg (by simpa using c) (conv (now _) ?_)
    exact Eq.symm (decide_eq_false (fun g => c g.1))
theorem indexByte_two (a b : UInt8) (x : Int) (h0 : 0 ≤ x) (h1 : x ≤ 255) : Go.Lib.indexByte [a, b] x.toNat.toUInt8 < 0 ↔ ¬ (x = (a.toNat : Int) ∨ x = (b.toNat : Int)) := by
  have hx : x.toNat.toUInt8.toNat = x.toNat := by simp; omega
  have ea : (a == x.toNat.toUInt8) = decide (x = (a.toNat : Int)) := by
    rw [Bool.eq_iff_iff, beq_iff_eq, decide_eq_true_eq, ← UInt8.toNat_inj, hx]; omega
  have eb : (b == x.toNat.toUInt8) = decide (x = (b.toNat : Int)) := by
    rw [Bool.eq_iff_iff, beq_iff_eq, decide_eq_true_eq, ← UInt8.toNat_inj, hx]; omega
  simp only [Go.Lib.indexByte, ea, eb]
  by_cases c1 : x = (a.toNat : Int)
  · rw [if_pos (by simpa using c1)]
    simp [c1]
  · rw [if_neg (by simpa using c1)]
    by_cases c2 : x = (b.toNat : Int)
    · have e : decide (x = (b.toNat : Int)) = true := by simpa using c2
      rw [e]
      simp [c2]
    · have e : decide (x = (b.toNat : Int)) = false := by simpa using c2
      rw [e]
      simp [c1, c2]
open Classical in
theorem impl_areSigns_l0 (s : ByteArray) (a b : UInt8) (hs : s.size ≤ 9223372036854775807) : ∀ i : Nat, i ≤ s.size → Ev (fun k => impl_areSigns.l0 k s ⟨#[a, b]⟩ s.size i) (decide (Signs s a.toNat b.toNat i ∧ 2 ≤ s.size ∧ s.size ≤ 8)) := by
  refine down s.size ?_ ?_
  · refine succ ?_
    simp only [impl_areSigns.l0, impl_in, Option.bind_some]
    refine neg (by omega) (conv (now _) ?_)
    rw [decide_eq_decide]
    exact ⟨fun g => ⟨signs_end _ _ _, by omega⟩, fun g => by have := g.2; omega⟩
  · intro i hi ih
    refine succ ?_
    simp only [impl_areSigns.l0, strings_IndexByte.f, Option.bind_some]
    rw [wnat (by omega)]
    refine pos (by omega) (pos (by omega) (pos (by omega) ?_))
    have hr := bt_range s i
    have e := indexByte_two a b (bt s i) hr.1 hr.2
    by_cases c : bt s i = (a.toNat : Int) ∨ bt s i = (b.toNat : Int)
    · refine neg (fun g => e.1 g c) (conv ih ?_)
      rw [decide_eq_decide, signs_step s _ _ i hi]
      exact ⟨fun g => ⟨⟨c, g.1⟩, g.2⟩, fun g => ⟨g.1.2, g.2⟩⟩
    · refine pos (e.2 c) (conv (now _) (Eq.symm (decide_eq_false ?_)))
      rw [signs_step s _ _ i hi]
      exact fun g => c g.1.1
open Classical in
theorem impl_areSigns_f (s : ByteArray) (a b : UInt8) (hs : s.size ≤ 9223372036854775807) : Ev (fun k => impl_areSigns.f k s ⟨#[a, b]⟩) (decide (Way s a.toNat b.toNat)) := by
  unfold impl_areSigns.f
  refine conv (impl_areSigns_l0 s a b hs 0 (by omega)) ?_
  rw [decide_eq_decide]
  exact ⟨fun g => ⟨g.2, g.1⟩, fun g => ⟨g.2, g.1⟩⟩
open Classical in
theorem impl_AreWays_f (s t : ByteArray) (hs : s.size ≤ 9223372036854775807) (ht : t.size ≤ 9223372036854775807) : Ev (fun k => impl_AreWays.f k s t) (good s t) := by
  unfold impl_AreWays.f
  refine bind (impl_areSigns_f s 101 119 hs) ?_
  by_cases c : Way s 101 119
  · refine pos (by simpa using c) (conv (bind (impl_areSigns_f t 110 115 ht) (now _)) ?_)
    unfold good Good
    rw [decide_eq_decide]
    exact ⟨fun g => ⟨c, g⟩, fun g => g.2⟩
  · refine neg (by simpa using c) (conv (now _) ?_)
    exact Eq.symm (decide_eq_false (fun g => c g.1))

theorem szWays_f (s t : ByteArray) (hs : s.size ≤ 9223372036854775807) (ht : t.size ≤ 9223372036854775807) : ∃ v, laws_szWays.f s t 1048576 = some v ∧ (¬ v < 0 → s.size ≤ 1048576 ∧ t.size ≤ 1048576) := by
  unfold laws_szWays.f
  rw [w64 (show -9223372036854775808 ≤ (1048576 : Int) - (s.size : Int) by omega) (by omega)]
  by_cases c : (1048576 : Int) - (s.size : Int) < 0
  · exact ⟨-1, by rw [if_pos c], by omega⟩
  · rw [if_neg c, w64 (by omega) (by omega)]
    by_cases d : (1048576 : Int) - (s.size : Int) - (t.size : Int) < 0
    · exact ⟨-1, by rw [if_pos d], by omega⟩
    · exact ⟨_, by rw [if_neg d], fun _ => by omega⟩

theorem toIntS_l0 (xs : List Int) (hx : xs.length ≤ 35184372088832) : ∀ i : Nat, i ≤ xs.length → ∀ ys : List Int, ys.length = xs.length → (∀ j : Nat, j < i → ys.getD j 0 = xs.getD j 0) → Ev (fun k => laws_toIntS.l0 k xs ys i) xs := by
  refine down xs.length ?_ ?_
  · intro ys hl hy
    refine succ ?_
    simp only [laws_toIntS.l0]
    refine neg (by omega) (conv (now _) ?_)
    refine List.ext_getElem hl (fun j h1 h2 => ?_)
    have := hy j h2
    simpa [h1, h2] using this
  · intro i hi ih ys hl hy
    refine succ ?_
    simp only [laws_toIntS.l0]
    rw [wnat (by omega)]
    refine pos (by omega) (pos (by omega) (pos (by omega) ?_))
    refine ih _ (by simp [hl]) (fun j hj => ?_)
    simp only [Int.toNat_natCast, rd_nat]
    by_cases e : j = i
    · subst e
      simp [hl, hi]
    · rw [List.getD_eq_getElem?_getD, List.getElem?_set_ne (Ne.symm e), ← List.getD_eq_getElem?_getD]
      exact hy j (by omega)
theorem toIntS_f (xs : List Int) (hx : xs.length ≤ 35184372088832) : Ev (fun k => laws_toIntS.f k xs) xs := by
  unfold laws_toIntS.f
  refine pos (by omega) (pos (by omega) ?_)
  exact toIntS_l0 xs hx 0 (by omega) _ (by simp) (fun j hj => by omega)
theorem eqIntS_l0 (xs ys : List Int) (hx : xs.length ≤ 35184372088832) (hl : xs.length = ys.length) : ∀ i : Nat, i ≤ xs.length → Ev (fun k => laws_eqIntS.l0 k xs ys i) (decide (xs.drop i = ys.drop i)) := by
  refine down xs.length ?_ ?_
  · refine succ ?_
    simp only [laws_eqIntS.l0]
    exact neg (by omega) (conv (now _) (by simp [hl]))
  · intro i hi ih
    refine succ ?_
    simp only [laws_eqIntS.l0]
    rw [wnat (by omega)]
    refine pos (by omega) (pos (by omega) (pos (by omega) ?_))
    rw [rd_lt xs i hi, rd_lt ys i (by omega)]
    by_cases e : xs[i] = ys[i]'(by omega)
    · exact pos e (conv ih (by rw [decide_eq_decide, drop_iff hi (by omega)]; exact ⟨fun h => ⟨e, h⟩, fun h => h.2⟩))
    · exact neg e (conv (now _) (Eq.symm (decide_eq_false (by rw [drop_iff hi (by omega)]; exact fun h => e h.1))))
theorem eqIntS_f (xs ys : List Int) (hx : xs.length ≤ 35184372088832) : Ev (fun k => laws_eqIntS.f k xs ys) (decide (xs = ys)) := by
  unfold laws_eqIntS.f
  by_cases e : xs.length = ys.length
  · exact pos (by omega) (conv (eqIntS_l0 xs ys hx e 0 (by omega)) (by simp))
  · exact neg (by omega) (conv (now _) (by simp; intro h; exact e (by rw [h])))
theorem eqIntS_same (xs : List Int) (hx : xs.length ≤ 35184372088832) : Ev (fun k => laws_eqIntS.f k xs xs) true := conv (eqIntS_f xs xs hx) (by simp)

theorem bt_bounds (s : ByteArray) (i : Int) : 0 ≤ bt s i ∧ bt s i ≤ 255 := by
  unfold bt
  split
  · have := UInt8.toNat_lt (s[i.toNat])
    omega
  · omega
/-- A step of the reference. -/
def Stp (s t : ByteArray) (x y c : Int) : Int × Int × Bool :=
  if c = bt s y then (if c = 101 then x + 1 else x - 1, y, decide (0 ≤ (if c = 101 then x + 1 else x - 1) ∧ (if c = 101 then x + 1 else x - 1) ≤ (t.size : Int) - 1) && decide (0 ≤ y ∧ y ≤ (s.size : Int) - 1))
  else if c = bt t x then (x, if c = 110 then y + 1 else y - 1, decide (0 ≤ x ∧ x ≤ (t.size : Int) - 1) && decide (0 ≤ (if c = 110 then y + 1 else y - 1) ∧ (if c = 110 then y + 1 else y - 1) ≤ (s.size : Int) - 1))
  else (0, 0, false)
theorem pair_bool {α β : Type} (a : α) (b : β) (p q : Bool) : (if p = true then some (a, b, q) else some (a, b, false)) = some (a, b, p && q) := by cases p <;> simp
theorem step_f (s t : ByteArray) (x y c : Int) (hx : 0 ≤ x ∧ x < t.size) (hy : 0 ≤ y ∧ y < s.size) (hs : s.size ≤ 8) (ht : t.size ≤ 8) : Ev (fun k => spec_owStep.f k s t x y c) (Stp s t x y c) := by
  unfold spec_owStep.f Stp
  refine pos hy.1 (pos hy.2 ?_)
  have e1 : wrap64 (x + 1) = x + 1 := w64 (by omega) (by omega)
  have e2 : wrap64 (x - 1) = x - 1 := w64 (by omega) (by omega)
  have e3 : wrap64 (y + 1) = y + 1 := w64 (by omega) (by omega)
  have e4 : wrap64 (y - 1) = y - 1 := w64 (by omega) (by omega)
  have e5 : wrap64 ((t.size : Int) - 1) = (t.size : Int) - 1 := wsub1 (by omega)
  have e6 : wrap64 ((s.size : Int) - 1) = (s.size : Int) - 1 := wsub1 (by omega)
  by_cases a : c = bt s y
  · rw [if_pos a]
    refine pos a (succ ?_)
    simp only [spec_owStep.j0, spec_in, Option.bind_some, e1, e2, e5, e6, pair_bool]
    by_cases b : c = 101
    · rw [if_pos b]
      exact pos (by simpa using b) (now _)
    · rw [if_neg b]
      exact neg (by simpa using b) (pos hy.1 (pos hy.2 (pos a (now _))))
  · rw [if_neg a]
    refine neg a (succ ?_)
    simp only [spec_owStep.j0, spec_in, Option.bind_some, e1, e2, e5, e6, pair_bool]
    refine neg (by simp) (pos hy.1 (pos hy.2 (neg a (pos hx.1 (pos hx.2 ?_)))))
    by_cases d : c = bt t x
    · rw [if_pos d]
      refine pos d (succ ?_)
      simp only [spec_owStep.j1, spec_in, Option.bind_some, e3, e4, e5, e6, pair_bool]
      by_cases b : c = 110
      · rw [if_pos b]
        exact pos (by simpa using b) (now _)
      · rw [if_neg b]
        exact neg (by simpa using b) (pos hx.1 (pos hx.2 (pos d (now _))))
    · rw [if_neg d]
      refine neg d (succ ?_)
      simp only [spec_owStep.j1]
      exact neg (by simp) (pos hx.1 (pos hx.2 (neg d (now _))))
/-- Whether one can drive: the same in both. -/
theorem can_step (s t : ByteArray) (hg : Good s t) (x y : Int) (n : Nat) (hn : n ≤ 3) (hx : 0 ≤ x ∧ x < t.size) (hy : 0 ≤ y ∧ y < s.size) : impl_driveIn.can s t x y n = (Stp s t x y (impl_driveIn.sg n)).2.2 := by
  have hS : bt s y = 101 ∨ bt s y = 119 := by
    obtain ⟨m, rfl⟩ := Int.eq_ofNat_of_zero_le hy.1
    exact hg.1.2 m (Nat.zero_le _) (by omega)
  have hT : bt t x = 110 ∨ bt t x = 115 := by
    obtain ⟨m, rfl⟩ := Int.eq_ofNat_of_zero_le hx.1
    exact hg.2.2 m (Nat.zero_le _) (by omega)
  have c : n = 0 ∨ n = 1 ∨ n = 2 ∨ n = 3 := by omega
  unfold impl_driveIn.can Stp impl_driveIn.sg impl_driveIn.dx impl_driveIn.dy
  rw [Bool.eq_iff_iff]
  rcases c with rfl | rfl | rfl | rfl <;> rcases hS with a | a <;> rcases hT with b | b <;> rw [a, b] <;> simp <;> omega
/-- Where a sign stands. -/
def idx (b : Int) : Int := if b = 101 then 0 else if b = 110 then 1 else if b = 115 then 2 else if b = 119 then 3 else -1
theorem index_sign (b : UInt8) : Go.Lib.indexByte [101, 110, 115, 119] b = idx (b.toNat : Int) := by
  have key : ∀ n : Fin 256, Go.Lib.indexByte [101, 110, 115, 119] (UInt8.ofNat n.val) = idx (n.val : Int) := by decide +kernel
  have h := key ⟨b.toNat, UInt8.toNat_lt b⟩
  simpa using h
theorem one_byte {s : ByteArray} (h : s.size = 1) : ∃ b : UInt8, s = ⟨#[b]⟩ ∧ bt s 0 = (b.toNat : Int) := by
  obtain ⟨⟨l⟩⟩ := s
  match l, h with
  | [b], _ => exact ⟨b, rfl, rfl⟩

theorem both_same (s t : ByteArray) (xs : List Int) (sg : ByteArray) (hs : s.size ≤ 1048576) (ht : t.size ≤ 1048576) (hx : xs.length ≤ 1048576) : ∃ v, Ev (fun k => spec_CanDrive.f k s t xs sg) v ∧ Ev (fun k => impl_CanDrive.f k s t xs sg) v := by
  unfold spec_CanDrive.f impl_CanDrive.f impl_areDriven.f spec_owCorner.f
  by_cases g : good s t = true
  case neg =>
    exact ⟨(false, false), bind (spec_owGood_f s t (by omega) (by omega)) (neg g (now _)), bind (bind (impl_AreWays_f s t (by omega) (by omega)) (neg g (now _))) (neg (by simp) (now _))⟩
  have G := (good_iff s t).1 g
  have z1 := G.1.1
  have z2 := G.2.1
  have hz : impl_areDriven.sizes s t := ⟨by omega, by omega⟩
  by_cases c : spec_owCorner.corner t.size s.size xs = true
  case neg =>
    refine ⟨(false, false), bind (spec_owGood_f s t (by omega) (by omega)) (pos g (bind (pos ⟨hs, ht⟩ (now _)) (neg c (now _)))), bind (bind (impl_AreWays_f s t (by omega) (by omega)) (pos g (pos hz (now _)))) (neg ?_ (now _))⟩
    simpa [impl_areDriven.corner, spec_owCorner.corner] using c
  have hc2 : ([xs].all (impl_areDriven.corner t.size s.size)) = true := by simpa [impl_areDriven.corner, spec_owCorner.corner] using c
  have c' := c
  simp only [spec_owCorner.corner, Bool.and_eq_true, decide_eq_true_eq] at c'
  obtain ⟨hl, ⟨x0, x1⟩, y0, y1⟩ := c'
  by_cases one : sg.size = 1
  case neg =>
    exact ⟨(false, false), bind (spec_owGood_f s t (by omega) (by omega)) (pos g (bind (pos ⟨hs, ht⟩ (now _)) (pos c (neg (by omega) (now _))))), bind (bind (impl_AreWays_f s t (by omega) (by omega)) (pos g (pos hz (now _)))) (pos hc2 (neg one (now _)))⟩
  obtain ⟨b, rfl, hb⟩ := one_byte one
  have hI : strings_Index.f ⟨#[101, 110, 115, 119]⟩ ⟨#[b]⟩ = some (idx (b.toNat : Int)) := by
    show some (Go.Lib.indexByte [101, 110, 115, 119] b) = _
    rw [index_sign]
  have hC : strings_Contains.f ⟨#[101, 110, 115, 119]⟩ ⟨#[b]⟩ = some (decide (idx (b.toNat : Int) ≥ 0)) := by
    unfold strings_Contains.f
    rw [hI]; rfl
  by_cases q : idx (b.toNat : Int) ≥ 0
  case neg =>
    have q' : ¬ (b.toNat : Int) = 101 ∧ ¬ (b.toNat : Int) = 110 ∧ ¬ (b.toNat : Int) = 115 ∧ ¬ (b.toNat : Int) = 119 := by
      unfold idx at q
      refine ⟨?_, ?_, ?_, ?_⟩ <;> intro e <;> rw [e] at q <;> exact q (by decide)
    have hO : spec_owSign.f (b.toNat : Int) = some false := by
      unfold spec_owSign.f
      rw [if_neg q'.1, if_neg q'.2.1, if_neg q'.2.2.2]
      simp [q'.2.2.1]
    refine ⟨(false, false), bind (spec_owGood_f s t (by omega) (by omega)) (pos g (bind (pos ⟨hs, ht⟩ (now _)) (pos c (pos (by omega) (pos (by omega) ?_))))), bind (bind (impl_AreWays_f s t (by omega) (by omega)) (pos g (pos hz (now _)))) (pos hc2 (pos one (bindSome hC (neg (by simpa using q) (now _)))))⟩
    rw [hb]
    exact bindSome hO (neg (by simp) (now _))
  have qs : ∃ n : Nat, n ≤ 3 ∧ idx (b.toNat : Int) = n ∧ impl_driveIn.sg n = (b.toNat : Int) ∧ spec_owSign.f (b.toNat : Int) = some true := by
    unfold idx at q ⊢
    unfold spec_owSign.f
    split
    · rename_i e; exact ⟨0, by omega, rfl, e.symm, by first | rfl | (simp [e]; done)⟩
    split
    · rename_i e; exact ⟨1, by omega, rfl, e.symm, by first | rfl | (simp [e]; done)⟩
    split
    · rename_i e; exact ⟨2, by omega, rfl, e.symm, by first | rfl | (simp [e]; done)⟩
    split
    · rename_i e; exact ⟨3, by omega, rfl, e.symm, by first | rfl | (simp [e]; done)⟩
    · rename_i e1 e2 e3 e4; rw [if_neg e1, if_neg e2, if_neg e3, if_neg e4] at q; omega
  obtain ⟨n, n3, hn, hsg, hO⟩ := qs
  have cs := can_step s t G (rd xs 0) (rd xs 1) n n3 (by omega) (by omega)
  refine ⟨((Stp s t (rd xs 0) (rd xs 1) (b.toNat : Int)).2.2, true), bind (spec_owGood_f s t (by omega) (by omega)) (pos g (bind (pos ⟨hs, ht⟩ (now _)) (pos c (pos (by omega) (pos (by omega) ?_))))), bind (bind (impl_AreWays_f s t (by omega) (by omega)) (pos g (pos hz (now _)))) (pos hc2 (pos one (bindSome hC (pos (by simpa using q) (bindSome hI ?_)))))⟩
  · rw [hb]
    exact bindSome hO (pos rfl (pos (by omega) (pos (by omega) (bind (step_f s t _ _ _ (by omega) (by omega) (by omega) (by omega)) (now _)))))
  · rw [hn]
    refine pos ⟨⟨⟨by omega, by omega⟩, hl⟩, ⟨by omega, by omega⟩, ⟨by omega, by omega⟩⟩ ?_
    rw [Int.toNat_natCast, cs, hsg]
    exact now _
theorem FnExactCanDrive : laws_FnExactCanDrive.Pure := by
  intro s t xs sg hs ht hm hl8 hw hsg
  refine Ev.rounds ?_
  unfold laws_FnExactCanDrive.f laws_toWays.f
  by_cases h : (xs.length : Int) > 1048576
  · exact pos h (now _)
  refine neg h ?_
  by_cases h' : (sg.size : Int) > 1048576
  · exact pos h' (now _)
  refine neg h' ?_
  obtain ⟨v, hv, hn⟩ := szWays_f s t hs ht
  refine bindSome hv ?_
  by_cases c : v < 0
  · exact pos c (now _)
  refine neg c ?_
  have hz := hn c
  have hl : xs.length ≤ 35184372088832 := by omega
  obtain ⟨r, h1, h2⟩ := both_same s t xs sg hz.1 hz.2 (by omega)
  simp only [Option.bind_some]
  refine bind (toIntS_f xs hl) (bind h1 (bind (toIntS_f xs hl) (bind h2 (neg (by simp) (succ ?_)))))
  simp only [laws_FnExactCanDrive.j0]
  exact neg (by simp) (bind (toIntS_f xs hl) (bind (eqIntS_same xs hl) (pos rfl (now _))))

end Go.Proofs.Ytopbmiedlpkmjaa.Pure
