/- The plain law of FnExactTurnRow: what the printed functions compute answers true at every input within the bounds that the print tells. -/
import Derived.Test.YtbchfajbobploaaPFnExactTurnRowx1
import Derived.Test.YtbchfajbobploaaLib
namespace Go.Proofs.Ytbchfajbobploaa.Pure
open Go.RowKit Go.Proofs.Ytbchfajbobploaa.PFnExactTurnRow Go.Proofs.YtbchfajbobploaaW.PrintWords Go.Proofs.YtbchfajbobploaaW.PrintLast Go.Proofs.YtbchfajbobploaaW.PrintMore Go.Proofs.Ytbchfajbobploaa.Lib
set_option linter.unusedVariables false
set_option linter.unusedSimpArgs false

theorem spec_in (a b c : Int) : spec_l1In.f a b c = some (decide (b ≤ a ∧ a ≤ c)) := by
  unfold spec_l1In.f
  by_cases h : a ≥ b
  · rw [if_pos h]; simp [show b ≤ a from h]
  · rw [if_neg h]; simp [show ¬ b ≤ a from h]
theorem impl_in (a b c : Int) : impl_within.f a b c = some (decide (b ≤ a ∧ a ≤ c)) := by
  unfold impl_within.f
  by_cases h : a ≥ b
  · rw [if_pos h]; simp [show b ≤ a from h]
  · rw [if_neg h]; simp [show ¬ b ≤ a from h]

/-- The signs of a row of lamps from one on. -/
def signsFrom (s : ByteArray) (i : Nat) : Prop := ∀ j : Nat, i ≤ j → j < s.size → bt s j = 35 ∨ bt s j = 46
theorem signsFrom_end (s : ByteArray) : signsFrom s s.size := fun j h1 h2 => by omega
theorem signsFrom_step (s : ByteArray) (i : Nat) (hi : i < s.size) (h : bt s i = 35 ∨ bt s i = 46) : signsFrom s i ↔ signsFrom s (i + 1) := by
  constructor
  · intro g j h1 h2; exact g j (by omega) h2
  · intro g j h1 h2
    by_cases e : j = i
    · subst e; exact h
    · exact g j (by omega) h2
theorem signsFrom_no (s : ByteArray) (i : Nat) (hi : i < s.size) (h1 : bt s i ≠ 35) (h2 : bt s i ≠ 46) : ¬ signsFrom s i := fun g => by
  rcases g i (Nat.le_refl _) hi with h | h <;> contradiction
/-- A row of lamps. -/
def LitRow (s : ByteArray) : Prop := (1 ≤ s.size ∧ s.size ≤ 20) ∧ signsFrom s 0
open Classical in
noncomputable def litRow (s : ByteArray) : Bool := decide (LitRow s)
open Classical in
theorem spec_rwRow_l0 (s : ByteArray) (hs : s.size ≤ 140737488351232) : ∀ i : Nat, i ≤ s.size → Ev (fun k => spec_rwRow.l0 k s i) (decide (signsFrom s i)) := by
  refine down s.size ?_ ?_
  · refine succ ?_
    simp only [spec_rwRow.l0]
    exact neg (by omega) (conv (now _) (by simp [signsFrom_end]))
  · intro i hi ih
    refine succ ?_
    simp only [spec_rwRow.l0]
    rw [wnat (by omega)]
    refine pos (by omega) (pos (by omega) ?_)
    by_cases c1 : bt s i = 35
    · exact pos c1 (conv ih (by simp [signsFrom_step s i hi (.inl c1)]))
    · refine neg c1 ?_
      by_cases c2 : bt s i = 46
      · exact pos c2 (conv ih (by simp [signsFrom_step s i hi (.inr c2)]))
      · exact neg c2 (conv (now _) (by simp [signsFrom_no s i hi c1 c2]))
open Classical in
theorem impl_IsLitRow_l0 (s : ByteArray) (hs : s.size ≤ 140737488351232) : ∀ i : Nat, i ≤ s.size → Ev (fun k => impl_IsLitRow.l0 k s s.size i) (decide (signsFrom s i) && decide (1 ≤ s.size ∧ s.size ≤ 20)) := by
  refine down s.size ?_ ?_
  · refine succ ?_
    simp only [impl_IsLitRow.l0]
    refine neg (by omega) ?_
    simp only [impl_isRowLength.f, impl_in, Option.bind_some]
    refine conv (now _) ?_
    rw [Bool.eq_iff_iff]; simp [signsFrom_end]; omega
  · intro i hi ih
    refine succ ?_
    simp only [impl_IsLitRow.l0]
    rw [wnat (by omega)]
    refine pos (by omega) (pos (by omega) (pos (by omega) ?_))
    by_cases c1 : bt s i = 35
    · exact pos c1 (conv ih (by simp [signsFrom_step s i hi (.inl c1)]))
    · refine neg c1 ?_
      by_cases c2 : bt s i = 46
      · exact pos c2 (conv ih (by simp [signsFrom_step s i hi (.inr c2)]))
      · exact neg c2 (conv (now _) (by simp [signsFrom_no s i hi c1 c2]))
open Classical in
theorem spec_rwRow_f (s : ByteArray) (hs : s.size ≤ 140737488351232) : Ev (fun k => spec_rwRow.f k s) (litRow s) := by
  simp only [spec_rwRow.f, spec_rwHouses.f, spec_in, Option.bind_some]
  by_cases h : 1 ≤ s.size ∧ s.size ≤ 20
  · refine pos (by simp; omega) (conv (spec_rwRow_l0 s hs 0 (by omega)) ?_)
    unfold litRow LitRow
    simp [h]
  · refine neg (by simp; omega) (conv (now _) ?_)
    unfold litRow LitRow
    simp [h]
open Classical in
theorem impl_IsLitRow_f (s : ByteArray) (hs : s.size ≤ 140737488351232) : Ev (fun k => impl_IsLitRow.f k s) (litRow s) := by
  unfold impl_IsLitRow.f
  refine conv (impl_IsLitRow_l0 s hs 0 (by omega)) ?_
  unfold litRow LitRow
  rw [Bool.eq_iff_iff]; simp
  constructor
  · rintro ⟨a, b⟩; exact ⟨b, a⟩
  · rintro ⟨a, b⟩; exact ⟨b, a⟩

theorem size_wf {s : ByteArray} (hs : s.size ≤ 140737488351232) (by_ : Int) (h : 0 ≤ by_ ∧ by_ ≤ (s.size : Int) - 1) : (s.extract by_.toNat s.size).size + (s.extract 0 by_.toNat).size ≤ 9223372036854775807 := by
  simp only [ByteArray.size_extract]; omega
theorem turn_same (k : Nat) (s : ByteArray) (hs : s.size ≤ 140737488351232) (n : Int) (b : Bool) (h1 : spec_rwRow.f k s = some b) (h2 : impl_IsLitRow.f k s = some b) : ∃ r, spec_TurnRow.f k s n = some r ∧ impl_TurnRow.f k s n = some r := by
  unfold spec_TurnRow.f impl_TurnRow.f
  rw [h1, h2]
  simp only [spec_in, impl_in, Option.bind_some]
  cases b with
  | false => exact ⟨_, rfl, rfl⟩
  | true =>
    simp only [if_true]
    rw [wsub1 (by omega)]
    by_cases h : 0 ≤ n ∧ n ≤ (s.size : Int) - 1
    · rw [if_pos (by simpa using h), if_pos h.1, if_pos (by omega), if_pos (size_wf hs n h)]
      exact ⟨_, rfl, rfl⟩
    · rw [if_neg (by simpa using h)]
      exact ⟨_, rfl, rfl⟩
theorem FnExactTurnRow : laws_FnExactTurnRow.Pure := by
  intro s n hs hn
  unfold laws_FnExactTurnRow.f
  by_cases h : (s.size : Int) > 1048576
  · exact ⟨0, by rw [if_pos h]⟩
  · simp only [if_neg h]
    obtain ⟨K, hK⟩ := spec_rwRow_f s hs
    obtain ⟨K', hK'⟩ := impl_IsLitRow_f s hs
    refine ⟨max K K', ?_⟩
    obtain ⟨r, h1, h2⟩ := turn_same (max K K') s hs n _ (hK _ (by omega)) (hK' _ (by omega))
    rw [h1, h2]
    simp

end Go.Proofs.Ytbchfajbobploaa.Pure
