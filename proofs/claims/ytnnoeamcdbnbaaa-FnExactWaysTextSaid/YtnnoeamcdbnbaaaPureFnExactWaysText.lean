/- The plain law of FnExactWaysText: what the printed functions compute answers true at every input within the bounds that the print tells. -/
import Derived.Test.YtnnoeamcdbnbaaaMAx1
import Derived.Test.YtnnoeamcdbnbaaaLib
namespace Go.Proofs.Ytnnoeamcdbnbaaa.Pure
open Go.RowKit Go.Proofs.Ytnnoeamcdbnbaaa.MA Go.Proofs.YtnnoeamcdbnbaaaW.PrintWords Go.Proofs.YtnnoeamcdbnbaaaW.PrintLast Go.Proofs.YtnnoeamcdbnbaaaW.PrintMore Go.Proofs.Ytnnoeamcdbnbaaa.Lib
set_option linter.unusedVariables false
set_option linter.unusedSimpArgs false

theorem spec_in (a b c : Int) : spec_l1In.f a b c = some (decide (b ≤ a ∧ a ≤ c)) := by
  unfold spec_l1In.f
  by_cases h : a ≥ b
  · rw [if_pos h]; simp [show b ≤ a from h]
  · rw [if_neg h]; simp [show ¬ b ≤ a from h]
theorem impl_in (a b c : Int) : impl_within.f a b c = some (decide (b ≤ a ∧ a ≤ c)) := by
  unfold impl_within.f
  by_cases h : a ≥ b
  · rw [if_pos h]; simp [show b ≤ a from h]
  · rw [if_neg h]; simp [show ¬ b ≤ a from h]
/-- Two signs alone from one on. -/
def Signs (s : ByteArray) (a b : Int) (i : Nat) : Prop := ∀ j : Nat, i ≤ j → j < s.size → bt s j = a ∨ bt s j = b
theorem signs_end (s : ByteArray) (a b : Int) : Signs s a b s.size := fun j h1 h2 => by omega
theorem signs_step (s : ByteArray) (a b : Int) (i : Nat) (hi : i < s.size) : Signs s a b i ↔ (bt s i = a ∨ bt s i = b) ∧ Signs s a b (i + 1) := by
  constructor
  · intro g; exact ⟨g i (Nat.le_refl _) hi, fun j h1 h2 => g j (by omega) h2⟩
  · rintro ⟨g, r⟩ j h1 h2
    by_cases e : j = i
    · subst e; exact g
    · exact r j (by omega) h2
/-- The signs of ways in one direction. -/
def Way (s : ByteArray) (a b : Int) : Prop := (2 ≤ s.size ∧ s.size ≤ 8) ∧ Signs s a b 0
/-- Ways. -/
def Good (s t : ByteArray) : Prop := Way s 101 119 ∧ Way t 110 115
open Classical in
noncomputable def good (s t : ByteArray) : Bool := decide (Good s t)
theorem good_iff (s t : ByteArray) : good s t = true ↔ Good s t := by unfold good; simp
open Classical in
theorem spec_owText_l0 (s : ByteArray) (a b : Int) (hs : s.size ≤ 9223372036854775807) : ∀ i : Nat, i ≤ s.size → Ev (fun k => spec_owText.l0 k s a b i) (decide (Signs s a b i)) := by
  refine down s.size ?_ ?_
  · refine succ ?_
    simp only [spec_owText.l0]
    exact neg (by omega) (conv (now _) (by simp [signs_end]))
  · intro i hi ih
    refine succ ?_
    simp only [spec_owText.l0]
    rw [wnat (by omega)]
    refine pos (by omega) (pos (by omega) ?_)
    by_cases c1 : bt s i = a
    · exact pos c1 (conv ih (by rw [decide_eq_decide, signs_step s a b i hi]; exact ⟨fun g => ⟨.inl c1, g⟩, fun g => g.2⟩))
    · refine neg c1 ?_
      by_cases c2 : bt s i = b
      · exact pos c2 (conv ih (by rw [decide_eq_decide, signs_step s a b i hi]; exact ⟨fun g => ⟨.inr c2, g⟩, fun g => g.2⟩))
      · exact neg c2 (conv (now _) (Eq.symm (decide_eq_false (by rw [signs_step s a b i hi]; exact fun g => g.1.elim c1 c2))))
open Classical in
theorem spec_owText_f (s : ByteArray) (a b : Int) (hs : s.size ≤ 9223372036854775807) : Ev (fun k => spec_owText.f k s a b) (decide (Way s a b)) := by
  unfold spec_owText.f
  simp only [spec_in, Option.bind_some]
  by_cases c : 2 ≤ (s.size : Int) ∧ (s.size : Int) ≤ 8
  · refine pos (by simpa using c) (conv (spec_owText_l0 s a b hs 0 (by omega)) ?_)
    rw [decide_eq_decide]
    exact ⟨fun g => ⟨by omega, g⟩, fun g => g.2⟩
  · exact neg (by simpa using c) (conv (now _) (Eq.symm (decide_eq_false (fun g => c (by have := g.1; omega)))))
open Classical in
theorem spec_owGood_f (s t : ByteArray) (hs : s.size ≤ 9223372036854775807) (ht : t.size ≤ 9223372036854775807) : Ev (fun k => spec_owGood.f k s t) (good s t) := by
  unfold spec_owGood.f
  refine bind (spec_owText_f s _ _ hs) ?_
  by_cases c : Way s 101 119
  · refine pos (by simpa using c) (conv (bind (spec_owText_f t _ _ ht) (now _)) ?_)
    unfold good Good
    rw [decide_eq_decide]
    exact ⟨fun g => ⟨c, g⟩, fun g => g.2⟩
  · refine neg (by simpa using c) (conv (now _) ?_)
    exact Eq.symm (decide_eq_false (fun g => c g.1))
theorem indexByte_two (a b : UInt8) (x : Int) (h0 : 0 ≤ x) (h1 : x ≤ 255) : Go.Lib.indexByte [a, b] x.toNat.toUInt8 < 0 ↔ ¬ (x = (a.toNat : Int) ∨ x = (b.toNat : Int)) := by
  have hx : x.toNat.toUInt8.toNat = x.toNat := by simp; omega
  have ea : (a == x.toNat.toUInt8) = decide (x = (a.toNat : Int)) := by
    rw [Bool.eq_iff_iff, beq_iff_eq, decide_eq_true_eq, ← UInt8.toNat_inj, hx]; omega
  have eb : (b == x.toNat.toUInt8) = decide (x = (b.toNat : Int)) := by
    rw [Bool.eq_iff_iff, beq_iff_eq, decide_eq_true_eq, ← UInt8.toNat_inj, hx]; omega
  simp only [Go.Lib.indexByte, ea, eb]
  by_cases c1 : x = (a.toNat : Int)
  · rw [if_pos (by simpa using c1)]
    simp [c1]
  · rw [if_neg (by simpa using c1)]
    by_cases c2 : x = (b.toNat : Int)
    · have e : decide (x = (b.toNat : Int)) = true := by simpa using c2
      rw [e]
      simp [c2]
    · have e : decide (x = (b.toNat : Int)) = false := by simpa using c2
      rw [e]
      simp [c1, c2]
open Classical in
theorem impl_areSigns_l0 (s : ByteArray) (a b : UInt8) (hs : s.size ≤ 9223372036854775807) : ∀ i : Nat, i ≤ s.size → Ev (fun k => impl_areSigns.l0 k s ⟨#[a, b]⟩ s.size i) (decide (Signs s a.toNat b.toNat i ∧ 2 ≤ s.size ∧ s.size ≤ 8)) := by
  refine down s.size ?_ ?_
  · refine succ ?_
    simp only [impl_areSigns.l0, impl_in, Option.bind_some]
    refine neg (by omega) (conv (now _) ?_)
    rw [decide_eq_decide]
    exact ⟨fun g => ⟨signs_end _ _ _, by omega⟩, fun g => by have := g.2; omega⟩
  · intro i hi ih
    refine succ ?_
    simp only [impl_areSigns.l0, strings_IndexByte.f, Option.bind_some]
    rw [wnat (by omega)]
    refine pos (by omega) (pos (by omega) (pos (by omega) ?_))
    have hr := bt_range s i
    have e := indexByte_two a b (bt s i) hr.1 hr.2
    by_cases c : bt s i = (a.toNat : Int) ∨ bt s i = (b.toNat : Int)
    · refine neg (fun g => e.1 g c) (conv ih ?_)
      rw [decide_eq_decide, signs_step s _ _ i hi]
      exact ⟨fun g => ⟨⟨c, g.1⟩, g.2⟩, fun g => ⟨g.1.2, g.2⟩⟩
    · refine pos (e.2 c) (conv (now _) (Eq.symm (decide_eq_false ?_)))
      rw [signs_step s _ _ i hi]
      exact fun g => c g.1.1
open Classical in
theorem impl_areSigns_f (s : ByteArray) (a b : UInt8) (hs : s.size ≤ 9223372036854775807) : Ev (fun k => impl_areSigns.f k s ⟨#[a, b]⟩) (decide (Way s a.toNat b.toNat)) := by
  unfold impl_areSigns.f
  refine conv (impl_areSigns_l0 s a b hs 0 (by omega)) ?_
  rw [decide_eq_decide]
  exact ⟨fun g => ⟨g.2, g.1⟩, fun g => ⟨g.2, g.1⟩⟩
open Classical in
theorem impl_AreWays_f (s t : ByteArray) (hs : s.size ≤ 9223372036854775807) (ht : t.size ≤ 9223372036854775807) : Ev (fun k => impl_AreWays.f k s t) (good s t) := by
  unfold impl_AreWays.f
  refine bind (impl_areSigns_f s 101 119 hs) ?_
  by_cases c : Way s 101 119
  · refine pos (by simpa using c) (conv (bind (impl_areSigns_f t 110 115 ht) (now _)) ?_)
    unfold good Good
    rw [decide_eq_decide]
    exact ⟨fun g => ⟨c, g⟩, fun g => g.2⟩
  · refine neg (by simpa using c) (conv (now _) ?_)
    exact Eq.symm (decide_eq_false (fun g => c g.1))

theorem szWays_f (s t : ByteArray) (hs : s.size ≤ 9223372036854775807) (ht : t.size ≤ 9223372036854775807) : ∃ v, laws_szWays.f s t 1048576 = some v ∧ (¬ v < 0 → s.size ≤ 1048576 ∧ t.size ≤ 1048576) := by
  unfold laws_szWays.f
  rw [w64 (show -9223372036854775808 ≤ (1048576 : Int) - (s.size : Int) by omega) (by omega)]
  by_cases c : (1048576 : Int) - (s.size : Int) < 0
  · exact ⟨-1, by rw [if_pos c], by omega⟩
  · rw [if_neg c, w64 (by omega) (by omega)]
    by_cases d : (1048576 : Int) - (s.size : Int) - (t.size : Int) < 0
    · exact ⟨-1, by rw [if_pos d], by omega⟩
    · exact ⟨_, by rw [if_neg d], fun _ => by omega⟩

theorem FnExactWaysText : laws_FnExactWaysText.Pure := by
  intro s t hs ht
  refine Ev.rounds ?_
  unfold laws_FnExactWaysText.f laws_toWays.f
  obtain ⟨v, hv, hn⟩ := szWays_f s t hs ht
  refine bindSome hv ?_
  by_cases c : v < 0
  · exact pos c (now _)
  · refine neg c ?_
    have hn := hn c
    simp only [Option.bind_some]
    have hsize : (s ++ (⟨#[47]⟩ : ByteArray)).size + t.size ≤ 9223372036854775807 := by
      rw [ByteArray.size_append]
      have : (⟨#[47]⟩ : ByteArray).size = 1 := rfl
      omega
    cases hg : good s t with
    | true =>
      have h1 : Ev (fun k => spec_WaysText.f k s t) ((s ++ (⟨#[47]⟩ : ByteArray)) ++ t, true) := by
        unfold spec_WaysText.f
        exact bind (spec_owGood_f s t hs ht) (pos hg (pos (by omega) (pos hsize (now _))))
      have h2 : Ev (fun k => impl_WaysText.f k s t) ((s ++ (⟨#[47]⟩ : ByteArray)) ++ t, true) := by
        unfold impl_WaysText.f
        exact bind (impl_AreWays_f s t hs ht) (pos hg (pos (by omega) (pos hsize (now _))))
      refine bind h1 (bind h2 ?_)
      exact pos rfl (neg (by simp) (now _))
    | false =>
      have h1 : Ev (fun k => spec_WaysText.f k s t) ((⟨#[]⟩ : ByteArray), false) := by
        unfold spec_WaysText.f
        exact bind (spec_owGood_f s t hs ht) (neg (by simp [hg]) (now _))
      have h2 : Ev (fun k => impl_WaysText.f k s t) ((⟨#[]⟩ : ByteArray), false) := by
        unfold impl_WaysText.f
        exact bind (impl_AreWays_f s t hs ht) (neg (by simp [hg]) (now _))
      refine bind h1 (bind h2 ?_)
      exact pos rfl (neg (by simp) (now _))

end Go.Proofs.Ytnnoeamcdbnbaaa.Pure
