/- The plain law of FnExactDriveWord: what the printed functions compute answers true at every input within the bounds that the print tells. -/
import Derived.Test.YtopbmiedlpkmjaaMDx7
import Derived.Test.YtopbmiedlpkmjaaLib
namespace Go.Proofs.Ytopbmiedlpkmjaa.Pure
open Go.RowKit Go.Proofs.Ytopbmiedlpkmjaa.MD Go.Proofs.YtopbmiedlpkmjaaW.PrintWords Go.Proofs.YtopbmiedlpkmjaaW.PrintLast Go.Proofs.YtopbmiedlpkmjaaW.PrintMore Go.Proofs.Ytopbmiedlpkmjaa.Lib
set_option linter.unusedVariables false
set_option linter.unusedSimpArgs false

theorem spec_in (a b c : Int) : spec_l1In.f a b c = some (decide (b ≤ a ∧ a ≤ c)) := by
  unfold spec_l1In.f
  by_cases h : a ≥ b
  · rw [if_pos h]; simp [show b ≤ a from h]
  · rw [if_neg h]; simp [show ¬ b ≤ a from h]
theorem impl_in (a b c : Int) : impl_within.f a b c = some (decide (b ≤ a ∧ a ≤ c)) := by
  unfold impl_within.f
  by_cases h : a ≥ b
  · rw [if_pos h]; simp [show b ≤ a from h]
  · rw [if_neg h]; simp [show ¬ b ≤ a from h]
/-- Two signs alone from one on. -/
def Signs (s : ByteArray) (a b : Int) (i : Nat) : Prop := ∀ j : Nat, i ≤ j → j < s.size → bt s j = a ∨ bt s j = b
theorem signs_end (s : ByteArray) (a b : Int) : Signs s a b s.size := fun j h1 h2 => by omega
theorem signs_step (s : ByteArray) (a b : Int) (i : Nat) (hi : i < s.size) : Signs s a b i ↔ (bt s i = a ∨ bt s i = b) ∧ Signs s a b (i + 1) := by
  constructor
  · intro g; exact ⟨g i (Nat.le_refl _) hi, fun j h1 h2 => g j (by omega) h2⟩
  · rintro ⟨g, r⟩ j h1 h2
    by_cases e : j = i
    · subst e; exact g
    · exact r j (by omega) h2
/-- The signs of ways in one direction. -/
def Way (s : ByteArray) (a b : Int) : Prop := (2 ≤ s.size ∧ s.size ≤ 8) ∧ Signs s a b 0
/-- Ways. -/
def Good (s t : ByteArray) : Prop := Way s 101 119 ∧ Way t 110 115
open Classical in
noncomputable def good (s t : ByteArray) : Bool := decide (Good s t)
theorem good_iff (s t : ByteArray) : good s t = true ↔ Good s t := by unfold good; simp
open Classical in
theorem spec_owText_l0 (s : ByteArray) (a b : Int) (hs : s.size ≤ 9223372036854775807) : ∀ i : Nat, i ≤ s.size → Ev (fun k => spec_owText.l0 k s a b i) (decide (Signs s a b i)) := by
  refine down s.size ?_ ?_
  · refine succ ?_
    simp only [spec_owText.l0]
    exact neg (by omega) (conv (now _) (by simp [signs_end]))
  · intro i hi ih
    refine succ ?_
    simp only [spec_owText.l0]
    rw [wnat (by omega)]
    refine pos (by omega) (pos (by omega) ?_)
    by_cases c1 : bt s i = a
    · exact pos c1 (conv ih (by rw [decide_eq_decide, signs_step s a b i hi]; exact ⟨fun g => ⟨.inl c1, g⟩, fun g => g.2⟩))
    · refine neg c1 ?_
      by_cases c2 : bt s i = b
      · exact pos c2 (conv ih (by rw [decide_eq_decide, signs_step s a b i hi]; exact ⟨fun g => ⟨.inr c2, g⟩, fun g => g.2⟩))
      · exact neg c2 (conv (now _) (Eq.symm (decide_eq_false (by rw [signs_step s a b i hi]; exact fun g => g.1.elim c1 c2))))
open Classical in
theorem spec_owText_f (s : ByteArray) (a b : Int) (hs : s.size ≤ 9223372036854775807) : Ev (fun k => spec_owText.f k s a b) (decide (Way s a b)) := by
  unfold spec_owText.f
  simp only [spec_in, Option.bind_some]
  by_cases c : 2 ≤ (s.size : Int) ∧ (s.size : Int) ≤ 8
  · refine pos (by simpa using c) (conv (spec_owText_l0 s a b hs 0 (by omega)) ?_)
    rw [decide_eq_decide]
    exact ⟨fun g => ⟨by omega, g⟩, fun g => g.2⟩
  · exact neg (by simpa using c) (conv (now _) (Eq.symm (decide_eq_false (fun g => c (by have := g.1; omega)))))
open Classical in
theorem spec_owGood_f (s t : ByteArray) (hs : s.size ≤ 9223372036854775807) (ht : t.size ≤ 9223372036854775807) : Ev (fun k => spec_owGood.f k s t) (good s t) := by
  unfold spec_owGood.f
  refine bind (spec_owText_f s _ _ hs) ?_
  by_cases c : Way s 101 119
  · refine pos (by simpa using c) (conv (bind (spec_owText_f t _ _ ht) (now _)) ?_)
    unfold good Good
    rw [decide_eq_decide]
    exact ⟨fun g => ⟨c, g⟩, fun g => g.2⟩
  · refine neg (by simpa using c) (conv (now _) ?_)
    exact Eq.symm (decide_eq_false (fun g => c g.1))
theorem indexByte_two (a b : UInt8) (x : Int) (h0 : 0 ≤ x) (h1 : x ≤ 255) : Go.Lib.indexByte [a, b] x.toNat.toUInt8 < 0 ↔ ¬ (x = (a.toNat : Int) ∨ x = (b.toNat : Int)) := by
  have hx : x.toNat.toUInt8.toNat = x.toNat := by simp; omega
  have ea : (a == x.toNat.toUInt8) = decide (x = (a.toNat : Int)) := by
    rw [Bool.eq_iff_iff, beq_iff_eq, decide_eq_true_eq, ← UInt8.toNat_inj, hx]; omega
  have eb : (b == x.toNat.toUInt8) = decide (x = (b.toNat : Int)) := by
    rw [Bool.eq_iff_iff, beq_iff_eq, decide_eq_true_eq, ← UInt8.toNat_inj, hx]; omega
  simp only [Go.Lib.indexByte, ea, eb]
  by_cases c1 : x = (a.toNat : Int)
  · rw [if_pos (by simpa using c1)]
    simp [c1]
  · rw [if_neg (by simpa using c1)]
    by_cases c2 : x = (b.toNat : Int)
    · have e : decide (x = (b.toNat : Int)) = true := by simpa using c2
      rw [e]
      simp [c2]
    · have e : decide (x = (b.toNat : Int)) = false := by simpa using c2
      rw [e]
      simp [c1, c2]
open Classical in
theorem impl_areSigns_l0 (s : ByteArray) (a b : UInt8) (hs : s.size ≤ 9223372036854775807) : ∀ i : Nat, i ≤ s.size → Ev (fun k => impl_areSigns.l0 k s ⟨#[a, b]⟩ s.size i) (decide (Signs s a.toNat b.toNat i ∧ 2 ≤ s.size ∧ s.size ≤ 8)) := by
  refine down s.size ?_ ?_
  · refine succ ?_
    simp only [impl_areSigns.l0, impl_in, Option.bind_some]
    refine neg (by omega) (conv (now _) ?_)
    rw [decide_eq_decide]
    exact ⟨fun g => ⟨signs_end _ _ _, by omega⟩, fun g => by have := g.2; omega⟩
  · intro i hi ih
    refine succ ?_
    simp only [impl_areSigns.l0, strings_IndexByte.f, Option.bind_some]
    rw [wnat (by omega)]
    refine pos (by omega) (pos (by omega) (pos (by omega) ?_))
    have hr := bt_range s i
    have e := indexByte_two a b (bt s i) hr.1 hr.2
    by_cases c : bt s i = (a.toNat : Int) ∨ bt s i = (b.toNat : Int)
    · refine neg (fun g => e.1 g c) (conv ih ?_)
      rw [decide_eq_decide, signs_step s _ _ i hi]
      exact ⟨fun g => ⟨⟨c, g.1⟩, g.2⟩, fun g => ⟨g.1.2, g.2⟩⟩
    · refine pos (e.2 c) (conv (now _) (Eq.symm (decide_eq_false ?_)))
      rw [signs_step s _ _ i hi]
      exact fun g => c g.1.1
open Classical in
theorem impl_areSigns_f (s : ByteArray) (a b : UInt8) (hs : s.size ≤ 9223372036854775807) : Ev (fun k => impl_areSigns.f k s ⟨#[a, b]⟩) (decide (Way s a.toNat b.toNat)) := by
  unfold impl_areSigns.f
  refine conv (impl_areSigns_l0 s a b hs 0 (by omega)) ?_
  rw [decide_eq_decide]
  exact ⟨fun g => ⟨g.2, g.1⟩, fun g => ⟨g.2, g.1⟩⟩
open Classical in
theorem impl_AreWays_f (s t : ByteArray) (hs : s.size ≤ 9223372036854775807) (ht : t.size ≤ 9223372036854775807) : Ev (fun k => impl_AreWays.f k s t) (good s t) := by
  unfold impl_AreWays.f
  refine bind (impl_areSigns_f s 101 119 hs) ?_
  by_cases c : Way s 101 119
  · refine pos (by simpa using c) (conv (bind (impl_areSigns_f t 110 115 ht) (now _)) ?_)
    unfold good Good
    rw [decide_eq_decide]
    exact ⟨fun g => ⟨c, g⟩, fun g => g.2⟩
  · refine neg (by simpa using c) (conv (now _) ?_)
    exact Eq.symm (decide_eq_false (fun g => c g.1))

theorem szWays_f (s t : ByteArray) (hs : s.size ≤ 9223372036854775807) (ht : t.size ≤ 9223372036854775807) : ∃ v, laws_szWays.f s t 1048576 = some v ∧ (¬ v < 0 → s.size ≤ 1048576 ∧ t.size ≤ 1048576) := by
  unfold laws_szWays.f
  rw [w64 (show -9223372036854775808 ≤ (1048576 : Int) - (s.size : Int) by omega) (by omega)]
  by_cases c : (1048576 : Int) - (s.size : Int) < 0
  · exact ⟨-1, by rw [if_pos c], by omega⟩
  · rw [if_neg c, w64 (by omega) (by omega)]
    by_cases d : (1048576 : Int) - (s.size : Int) - (t.size : Int) < 0
    · exact ⟨-1, by rw [if_pos d], by omega⟩
    · exact ⟨_, by rw [if_neg d], fun _ => by omega⟩

theorem toIntS_l0 (xs : List Int) (hx : xs.length ≤ 35184372088832) : ∀ i : Nat, i ≤ xs.length → ∀ ys : List Int, ys.length = xs.length → (∀ j : Nat, j < i → ys.getD j 0 = xs.getD j 0) → Ev (fun k => laws_toIntS.l0 k xs ys i) xs := by
  refine down xs.length ?_ ?_
  · intro ys hl hy
    refine succ ?_
    simp only [laws_toIntS.l0]
    refine neg (by omega) (conv (now _) ?_)
    refine List.ext_getElem hl (fun j h1 h2 => ?_)
    have := hy j h2
    simpa [h1, h2] using this
  · intro i hi ih ys hl hy
    refine succ ?_
    simp only [laws_toIntS.l0]
    rw [wnat (by omega)]
    refine pos (by omega) (pos (by omega) (pos (by omega) ?_))
    refine ih _ (by simp [hl]) (fun j hj => ?_)
    simp only [Int.toNat_natCast, rd_nat]
    by_cases e : j = i
    · subst e
      simp [hl, hi]
    · rw [List.getD_eq_getElem?_getD, List.getElem?_set_ne (Ne.symm e), ← List.getD_eq_getElem?_getD]
      exact hy j (by omega)
theorem toIntS_f (xs : List Int) (hx : xs.length ≤ 35184372088832) : Ev (fun k => laws_toIntS.f k xs) xs := by
  unfold laws_toIntS.f
  refine pos (by omega) (pos (by omega) ?_)
  exact toIntS_l0 xs hx 0 (by omega) _ (by simp) (fun j hj => by omega)
theorem eqIntS_l0 (xs ys : List Int) (hx : xs.length ≤ 35184372088832) (hl : xs.length = ys.length) : ∀ i : Nat, i ≤ xs.length → Ev (fun k => laws_eqIntS.l0 k xs ys i) (decide (xs.drop i = ys.drop i)) := by
  refine down xs.length ?_ ?_
  · refine succ ?_
    simp only [laws_eqIntS.l0]
    exact neg (by omega) (conv (now _) (by simp [hl]))
  · intro i hi ih
    refine succ ?_
    simp only [laws_eqIntS.l0]
    rw [wnat (by omega)]
    refine pos (by omega) (pos (by omega) (pos (by omega) ?_))
    rw [rd_lt xs i hi, rd_lt ys i (by omega)]
    by_cases e : xs[i] = ys[i]'(by omega)
    · exact pos e (conv ih (by rw [decide_eq_decide, drop_iff hi (by omega)]; exact ⟨fun h => ⟨e, h⟩, fun h => h.2⟩))
    · exact neg e (conv (now _) (Eq.symm (decide_eq_false (by rw [drop_iff hi (by omega)]; exact fun h => e h.1))))
theorem eqIntS_f (xs ys : List Int) (hx : xs.length ≤ 35184372088832) : Ev (fun k => laws_eqIntS.f k xs ys) (decide (xs = ys)) := by
  unfold laws_eqIntS.f
  by_cases e : xs.length = ys.length
  · exact pos (by omega) (conv (eqIntS_l0 xs ys hx e 0 (by omega)) (by simp))
  · exact neg (by omega) (conv (now _) (by simp; intro h; exact e (by rw [h])))
theorem eqIntS_same (xs : List Int) (hx : xs.length ≤ 35184372088832) : Ev (fun k => laws_eqIntS.f k xs xs) true := conv (eqIntS_f xs xs hx) (by simp)

theorem bt_bounds (s : ByteArray) (i : Int) : 0 ≤ bt s i ∧ bt s i ≤ 255 := by
  unfold bt
  split
  · have := UInt8.toNat_lt (s[i.toNat])
    omega
  · omega
/-- A step of the reference. -/
def Stp (s t : ByteArray) (x y c : Int) : Int × Int × Bool :=
  if c = bt s y then (if c = 101 then x + 1 else x - 1, y, decide (0 ≤ (if c = 101 then x + 1 else x - 1) ∧ (if c = 101 then x + 1 else x - 1) ≤ (t.size : Int) - 1) && decide (0 ≤ y ∧ y ≤ (s.size : Int) - 1))
  else if c = bt t x then (x, if c = 110 then y + 1 else y - 1, decide (0 ≤ x ∧ x ≤ (t.size : Int) - 1) && decide (0 ≤ (if c = 110 then y + 1 else y - 1) ∧ (if c = 110 then y + 1 else y - 1) ≤ (s.size : Int) - 1))
  else (0, 0, false)
theorem pair_bool {α β : Type} (a : α) (b : β) (p q : Bool) : (if p = true then some (a, b, q) else some (a, b, false)) = some (a, b, p && q) := by cases p <;> simp
theorem step_f (s t : ByteArray) (x y c : Int) (hx : 0 ≤ x ∧ x < t.size) (hy : 0 ≤ y ∧ y < s.size) (hs : s.size ≤ 8) (ht : t.size ≤ 8) : Ev (fun k => spec_owStep.f k s t x y c) (Stp s t x y c) := by
  unfold spec_owStep.f Stp
  refine pos hy.1 (pos hy.2 ?_)
  have e1 : wrap64 (x + 1) = x + 1 := w64 (by omega) (by omega)
  have e2 : wrap64 (x - 1) = x - 1 := w64 (by omega) (by omega)
  have e3 : wrap64 (y + 1) = y + 1 := w64 (by omega) (by omega)
  have e4 : wrap64 (y - 1) = y - 1 := w64 (by omega) (by omega)
  have e5 : wrap64 ((t.size : Int) - 1) = (t.size : Int) - 1 := wsub1 (by omega)
  have e6 : wrap64 ((s.size : Int) - 1) = (s.size : Int) - 1 := wsub1 (by omega)
  by_cases a : c = bt s y
  · rw [if_pos a]
    refine pos a (succ ?_)
    simp only [spec_owStep.j0, spec_in, Option.bind_some, e1, e2, e5, e6, pair_bool]
    by_cases b : c = 101
    · rw [if_pos b]
      exact pos (by simpa using b) (now _)
    · rw [if_neg b]
      exact neg (by simpa using b) (pos hy.1 (pos hy.2 (pos a (now _))))
  · rw [if_neg a]
    refine neg a (succ ?_)
    simp only [spec_owStep.j0, spec_in, Option.bind_some, e1, e2, e5, e6, pair_bool]
    refine neg (by simp) (pos hy.1 (pos hy.2 (neg a (pos hx.1 (pos hx.2 ?_)))))
    by_cases d : c = bt t x
    · rw [if_pos d]
      refine pos d (succ ?_)
      simp only [spec_owStep.j1, spec_in, Option.bind_some, e3, e4, e5, e6, pair_bool]
      by_cases b : c = 110
      · rw [if_pos b]
        exact pos (by simpa using b) (now _)
      · rw [if_neg b]
        exact neg (by simpa using b) (pos hx.1 (pos hx.2 (pos d (now _))))
    · rw [if_neg d]
      refine neg d (succ ?_)
      simp only [spec_owStep.j1]
      exact neg (by simp) (pos hx.1 (pos hx.2 (neg d (now _))))
/-- Whether one can drive: the same in both. -/
theorem can_step (s t : ByteArray) (hg : Good s t) (x y : Int) (n : Nat) (hn : n ≤ 3) (hx : 0 ≤ x ∧ x < t.size) (hy : 0 ≤ y ∧ y < s.size) : impl_driveIn.can s t x y n = (Stp s t x y (impl_driveIn.sg n)).2.2 := by
  have hS : bt s y = 101 ∨ bt s y = 119 := by
    obtain ⟨m, rfl⟩ := Int.eq_ofNat_of_zero_le hy.1
    exact hg.1.2 m (Nat.zero_le _) (by omega)
  have hT : bt t x = 110 ∨ bt t x = 115 := by
    obtain ⟨m, rfl⟩ := Int.eq_ofNat_of_zero_le hx.1
    exact hg.2.2 m (Nat.zero_le _) (by omega)
  have c : n = 0 ∨ n = 1 ∨ n = 2 ∨ n = 3 := by omega
  unfold impl_driveIn.can Stp impl_driveIn.sg impl_driveIn.dx impl_driveIn.dy
  rw [Bool.eq_iff_iff]
  rcases c with rfl | rfl | rfl | rfl <;> rcases hS with a | a <;> rcases hT with b | b <;> rw [a, b] <;> simp <;> omega
/-- Where a sign stands. -/
def idx (b : Int) : Int := if b = 101 then 0 else if b = 110 then 1 else if b = 115 then 2 else if b = 119 then 3 else -1
theorem index_sign (b : UInt8) : Go.Lib.indexByte [101, 110, 115, 119] b = idx (b.toNat : Int) := by
  have key : ∀ n : Fin 256, Go.Lib.indexByte [101, 110, 115, 119] (UInt8.ofNat n.val) = idx (n.val : Int) := by decide +kernel
  have h := key ⟨b.toNat, UInt8.toNat_lt b⟩
  simpa using h
theorem one_byte {s : ByteArray} (h : s.size = 1) : ∃ b : UInt8, s = ⟨#[b]⟩ ∧ bt s 0 = (b.toNat : Int) := by
  obtain ⟨⟨l⟩⟩ := s
  match l, h with
  | [b], _ => exact ⟨b, rfl, rfl⟩

/-- What a marked row holds: 1, 2, .. -/
def marked (n : Nat) : List Int := (List.range n).map fun (j : Nat) => (j : Int) + 1
theorem markIntS_l0 (n : Nat) (hn : n ≤ 35184372088832) : ∀ i : Nat, i ≤ n → ∀ ys : List Int, ys.length = n → (∀ j : Nat, j < i → ys.getD j 0 = (j : Int) + 1) → Ev (fun k => laws_markIntS.l0 k ys ((i : Int) + 1) i) ((n : Int) + 1, marked n) := by
  refine down n ?_ ?_
  · intro ys hl hy
    refine succ ?_
    simp only [laws_markIntS.l0]
    refine neg (by omega) (conv (now _) ?_)
    congr 1
    refine List.ext_getElem (by simp [marked, hl]) (fun j h1 h2 => ?_)
    have := hy j (by omega)
    simp only [marked, List.getElem_map, List.getElem_range]
    simpa [h1] using this
  · intro i hi ih ys hl hy
    refine succ ?_
    simp only [laws_markIntS.l0]
    rw [wnat (by omega), w64 (x := (i : Int) + 1 + 1) (by omega) (by omega), show (i : Int) + 1 + 1 = ((i + 1 : Nat) : Int) + 1 by omega]
    refine pos (by omega) (pos (by omega) ?_)
    refine ih _ (by simp [hl]) (fun j hj => ?_)
    simp only [Int.toNat_natCast]
    by_cases e : j = i
    · subst e
      simp [hl, hi]
    · rw [List.getD_eq_getElem?_getD, List.getElem?_set_ne (Ne.symm e), ← List.getD_eq_getElem?_getD]
      exact hy j (by omega)
theorem markIntS_f (xs : List Int) (hn : xs.length ≤ 35184372088832) : Ev (fun k => laws_markIntS.f k xs 1) ((xs.length : Int) + 1, marked xs.length) := by
  unfold laws_markIntS.f
  exact markIntS_l0 xs.length hn 0 (by omega) xs rfl (fun j hj => by omega)
theorem marked_rd (n i : Nat) (h : i < n) : rd (marked n) (i : Int) = (i : Int) + 1 := by
  rw [rd_lt _ _ (by simpa [marked] using h)]
  simp [marked]
theorem heldIntS_l0 (n : Nat) (hn : n ≤ 35184372088832) : ∀ i : Nat, i ≤ n → Ev (fun k => laws_heldIntS.l0 k (marked n) ((i : Int) + 1) i) ((n : Int) + 1) := by
  have hl : (marked n).length = n := by simp [marked]
  refine down n ?_ ?_
  · refine succ ?_
    simp only [laws_heldIntS.l0]
    exact neg (by omega) (now _)
  · intro i hi ih
    refine succ ?_
    simp only [laws_heldIntS.l0]
    rw [wnat (by omega), w64 (x := (i : Int) + 1 + 1) (by omega) (by omega), show (i : Int) + 1 + 1 = ((i + 1 : Nat) : Int) + 1 by omega]
    exact pos (by omega) (pos (by omega) (pos (marked_rd n i hi) ih))
theorem heldIntS_f (n : Nat) (hn : n ≤ 35184372088832) : Ev (fun k => laws_heldIntS.f k (marked n) 1) ((n : Int) + 1) := by
  unfold laws_heldIntS.f
  exact heldIntS_l0 n hn 0 (by omega)

theorem can_move (s t : ByteArray) (hg : Good s t) (x y : Int) (n : Nat) (hn : n ≤ 3) (hx : 0 ≤ x ∧ x < t.size) (hy : 0 ≤ y ∧ y < s.size) (h : impl_driveIn.can s t x y n = true) : Stp s t x y (impl_driveIn.sg n) = (x + impl_driveIn.dx n, y + impl_driveIn.dy n, true) := by
  have hS : bt s y = 101 ∨ bt s y = 119 := by
    obtain ⟨m, rfl⟩ := Int.eq_ofNat_of_zero_le hy.1
    exact hg.1.2 m (Nat.zero_le _) (by omega)
  have hT : bt t x = 110 ∨ bt t x = 115 := by
    obtain ⟨m, rfl⟩ := Int.eq_ofNat_of_zero_le hx.1
    exact hg.2.2 m (Nat.zero_le _) (by omega)
  have c2 := can_step s t hg x y n hn hx hy
  rw [h] at c2
  have key : (Stp s t x y (impl_driveIn.sg n)).1 = x + impl_driveIn.dx n ∧ (Stp s t x y (impl_driveIn.sg n)).2.1 = y + impl_driveIn.dy n := by
    have c : n = 0 ∨ n = 1 ∨ n = 2 ∨ n = 3 := by omega
    revert c2
    unfold Stp impl_driveIn.sg impl_driveIn.dx impl_driveIn.dy
    rcases c with rfl | rfl | rfl | rfl <;> rcases hS with a | a <;> rcases hT with b | b <;> rw [a, b] <;> simp <;> omega
  refine Prod.ext key.1 (Prod.ext key.2 c2.symm)
theorem no_sign (s t : ByteArray) (hg : Good s t) (x y c : Int) (hx : 0 ≤ x ∧ x < t.size) (hy : 0 ≤ y ∧ y < s.size) (h : ¬ 0 ≤ impl_DriveWord.idx c) : Stp s t x y c = (0, 0, false) := by
  have hS : bt s y = 101 ∨ bt s y = 119 := by
    obtain ⟨m, rfl⟩ := Int.eq_ofNat_of_zero_le hy.1
    exact hg.1.2 m (Nat.zero_le _) (by omega)
  have hT : bt t x = 110 ∨ bt t x = 115 := by
    obtain ⟨m, rfl⟩ := Int.eq_ofNat_of_zero_le hx.1
    exact hg.2.2 m (Nat.zero_le _) (by omega)
  have q : ¬ c = 101 ∧ ¬ c = 110 ∧ ¬ c = 115 ∧ ¬ c = 119 := by
    unfold impl_DriveWord.idx at h
    refine ⟨?_, ?_, ?_, ?_⟩ <;> intro e <;> rw [e] at h <;> exact h (by decide)
  unfold Stp
  rw [if_neg (by omega), if_neg (by omega)]
theorem idx_sg (c : Int) (h : 0 ≤ impl_DriveWord.idx c) : ∃ n : Nat, n ≤ 3 ∧ impl_DriveWord.idx c = n ∧ impl_driveIn.sg n = c := by
  unfold impl_DriveWord.idx at h ⊢
  split
  · rename_i e; exact ⟨0, by omega, rfl, e.symm⟩
  split
  · rename_i e; exact ⟨1, by omega, rfl, e.symm⟩
  split
  · rename_i e; exact ⟨2, by omega, rfl, e.symm⟩
  split
  · rename_i e; exact ⟨3, by omega, rfl, e.symm⟩
  · rename_i e1 e2 e3 e4; rw [if_neg e1, if_neg e2, if_neg e3, if_neg e4] at h; omega
theorem word_l0 (s t word : ByteArray) (hg : Good s t) (hw : word.size ≤ 100) : ∀ i : Nat, i ≤ word.size → ∀ x y : Int, 0 ≤ x ∧ x < t.size → 0 ≤ y ∧ y < s.size → Ev (fun k => spec_DriveWord.l0 k word x y i s t) (impl_DriveWord.tell (impl_DriveWord.path s t word (word.size - i) i x y)) := by
  have z1 := hg.1.1
  have z2 := hg.2.1
  refine down word.size ?_ ?_
  · intro x y hx hy
    refine succ ?_
    simp only [spec_DriveWord.l0]
    rw [Nat.sub_self]
    exact neg (by omega) (now _)
  · intro i hi ih x y hx hy
    refine succ ?_
    simp only [spec_DriveWord.l0]
    rw [wnat (by omega), show word.size - i = (word.size - (i + 1)) + 1 by omega]
    simp only [impl_DriveWord.path]
    refine pos (by omega) (pos (by omega) (bind (step_f s t x y _ hx hy (by omega) (by omega)) ?_))
    by_cases q : 0 ≤ impl_DriveWord.idx (bt word i)
    · obtain ⟨n, n3, hn, hsg⟩ := idx_sg _ q
      rw [if_pos q, hn, Int.toNat_natCast, ← hsg]
      by_cases c : impl_driveIn.can s t x y n = true
      · rw [if_pos c, can_move s t hg x y n n3 hx hy c]
        have a := impl_DriveWord.can_at c
        exact pos rfl (ih _ _ ⟨a.1.1, a.1.2⟩ ⟨a.2.1, a.2.2⟩)
      · rw [if_neg c]
        have cs := can_step s t hg x y n n3 hx hy
        exact neg (by rw [← cs]; exact c) (now _)
    · rw [if_neg q, no_sign s t hg x y _ hx hy q]
      exact neg (by simp) (now _)
theorem tell_len (o : Option (Int × Int)) : (impl_DriveWord.tell o).1.length ≤ 2 := by
  cases o with
  | none => simp [impl_DriveWord.tell]
  | some p => simp [impl_DriveWord.tell]
theorem both_same (s t : ByteArray) (xs : List Int) (sg : ByteArray) (hs : s.size ≤ 1048576) (ht : t.size ≤ 1048576) (hx : xs.length ≤ 1048576) : ∃ v : List Int × Bool, v.1.length ≤ 2 ∧ Ev (fun k => spec_DriveWord.f k s t xs sg) v ∧ Ev (fun k => impl_DriveWord.f k s t xs sg) v := by
  unfold spec_DriveWord.f impl_DriveWord.f impl_areDriven.f spec_owCorner.f
  have stop : Ev (fun k => spec_DriveWord.j0 k xs sg true s t) ([], false) := by
    refine succ ?_
    simp only [spec_DriveWord.j0]
    exact pos (by simp) (now _)
  by_cases g : good s t = true
  case neg =>
    exact ⟨([], false), by simp, bind (spec_owGood_f s t (by omega) (by omega)) (neg g stop), bind (bind (impl_AreWays_f s t (by omega) (by omega)) (neg g (now _))) (neg (by simp) (now _))⟩
  have G := (good_iff s t).1 g
  have z1 := G.1.1
  have z2 := G.2.1
  have hz : impl_areDriven.sizes s t := ⟨by omega, by omega⟩
  by_cases c : spec_owCorner.corner t.size s.size xs = true
  case neg =>
    refine ⟨([], false), by simp, bind (spec_owGood_f s t (by omega) (by omega)) (pos g (bind (pos ⟨hs, ht⟩ (now _)) (neg c stop))), bind (bind (impl_AreWays_f s t (by omega) (by omega)) (pos g (pos hz (now _)))) (neg ?_ (now _))⟩
    simpa [impl_areDriven.corner, spec_owCorner.corner] using c
  have hc2 : ([xs].all (impl_areDriven.corner t.size s.size)) = true := by simpa [impl_areDriven.corner, spec_owCorner.corner] using c
  have c' := c
  simp only [spec_owCorner.corner, Bool.and_eq_true, decide_eq_true_eq] at c'
  obtain ⟨hl, ⟨x0, x1⟩, y0, y1⟩ := c'
  by_cases one : sg.size ≤ 100
  case neg =>
    refine ⟨([], false), by simp, bind (spec_owGood_f s t (by omega) (by omega)) (pos g (bind (pos ⟨hs, ht⟩ (now _)) (pos c (succ ?_)))), bind (bind (impl_AreWays_f s t (by omega) (by omega)) (pos g (pos hz (now _)))) (pos hc2 (neg one (now _)))⟩
    simp only [spec_DriveWord.j0]
    exact pos (by simp; omega) (now _)
  refine ⟨impl_DriveWord.tell (impl_DriveWord.path s t sg sg.size 0 (rd xs 0) (rd xs 1)), tell_len _, bind (spec_owGood_f s t (by omega) (by omega)) (pos g (bind (pos ⟨hs, ht⟩ (now _)) (pos c (succ ?_)))), bind (bind (impl_AreWays_f s t (by omega) (by omega)) (pos g (pos hz (now _)))) (pos hc2 (pos one (pos ⟨hl, ⟨by omega, by omega⟩, ⟨by omega, by omega⟩, ⟨by omega, by omega⟩⟩ (now _))))⟩
  simp only [spec_DriveWord.j0]
  exact neg (by simp; omega) (pos (by omega) (pos (by omega) (word_l0 s t sg G one 0 (by omega) _ _ ⟨by omega, by omega⟩ ⟨by omega, by omega⟩)))
theorem FnExactDriveWord : laws_FnExactDriveWord.Pure := by
  intro s t xs sg hs ht hm hl8 hw hsg
  refine Ev.rounds ?_
  unfold laws_FnExactDriveWord.f laws_toWays.f
  by_cases h : (xs.length : Int) > 1048576
  · exact pos h (now _)
  refine neg h ?_
  by_cases h' : (sg.size : Int) > 1048576
  · exact pos h' (now _)
  refine neg h' ?_
  obtain ⟨v, hv, hn⟩ := szWays_f s t hs ht
  refine bindSome hv ?_
  by_cases c : v < 0
  · exact pos c (now _)
  refine neg c ?_
  have hz := hn c
  have hl : xs.length ≤ 35184372088832 := by omega
  obtain ⟨r, rl, h1, h2⟩ := both_same s t xs sg hz.1 hz.2 (by omega)
  have hrl : r.1.length ≤ 35184372088832 := by omega
  simp only [Option.bind_some]
  refine bind (toIntS_f xs hl) (bind h1 (bind (toIntS_f xs hl) (bind h2 (bind (eqIntS_same _ hrl) (pos rfl (succ ?_))))))
  simp only [laws_FnExactDriveWord.j0]
  refine neg (by simp) (bind (toIntS_f xs hl) (bind (eqIntS_same xs hl) (pos rfl (bind (markIntS_f xs hl) (neg (by omega) (bind (eqIntS_same _ hrl) (pos rfl (succ ?_))))))))
  simp only [laws_FnExactDriveWord.j1, laws_toWays.f, Option.bind_some]
  refine neg (by simp) (bind (markIntS_f r.1 hrl) (bind (heldIntS_f _ hrl) (neg (by omega) (pos rfl (bind (toIntS_f xs hl) (bind h2 (bind (eqIntS_same _ hrl) (pos rfl (succ ?_)))))))))
  simp only [laws_FnExactDriveWord.j2]
  exact neg (by simp) (bind (heldIntS_f _ hrl) (neg (by omega) (pos rfl (now _))))

end Go.Proofs.Ytopbmiedlpkmjaa.Pure
