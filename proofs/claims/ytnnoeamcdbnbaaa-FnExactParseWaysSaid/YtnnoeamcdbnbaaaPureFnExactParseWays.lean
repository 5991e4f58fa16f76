/- The plain law of FnExactParseWays: what the printed functions compute answers true at every input within the bounds that the print tells. -/
import Derived.Test.YtnnoeamcdbnbaaaMDx4
import Derived.Test.YtnnoeamcdbnbaaaLib
namespace Go.Proofs.Ytnnoeamcdbnbaaa.Pure
open Go.RowKit Go.Proofs.Ytnnoeamcdbnbaaa.MD Go.Proofs.YtnnoeamcdbnbaaaW.PrintWords Go.Proofs.YtnnoeamcdbnbaaaW.PrintLast Go.Proofs.YtnnoeamcdbnbaaaW.PrintMore Go.Proofs.Ytnnoeamcdbnbaaa.Lib
set_option linter.unusedVariables false
set_option linter.unusedSimpArgs false

theorem spec_in (a b c : Int) : spec_l1In.f a b c = some (decide (b ≤ a ∧ a ≤ c)) := by
  unfold spec_l1In.f
  by_cases h : a ≥ b
  · rw [if_pos h]; simp [show b ≤ a from h]
  · rw [if_neg h]; simp [show ¬ b ≤ a from h]
theorem impl_in (a b c : Int) : impl_within.f a b c = some (decide (b ≤ a ∧ a ≤ c)) := by
  unfold impl_within.f
  by_cases h : a ≥ b
  · rw [if_pos h]; simp [show b ≤ a from h]
  · rw [if_neg h]; simp [show ¬ b ≤ a from h]
/-- Two signs alone from one on. -/
def Signs (s : ByteArray) (a b : Int) (i : Nat) : Prop := ∀ j : Nat, i ≤ j → j < s.size → bt s j = a ∨ bt s j = b
theorem signs_end (s : ByteArray) (a b : Int) : Signs s a b s.size := fun j h1 h2 => by omega
theorem signs_step (s : ByteArray) (a b : Int) (i : Nat) (hi : i < s.size) : Signs s a b i ↔ (bt s i = a ∨ bt s i = b) ∧ Signs s a b (i + 1) := by
  constructor
  · intro g; exact ⟨g i (Nat.le_refl _) hi, fun j h1 h2 => g j (by omega) h2⟩
  · rintro ⟨g, r⟩ j h1 h2
    by_cases e : j = i
    · subst e; exact g
    · exact r j (by omega) h2
/-- The signs of ways in one direction. -/
def Way (s : ByteArray) (a b : Int) : Prop := (2 ≤ s.size ∧ s.size ≤ 8) ∧ Signs s a b 0
/-- Ways. -/
def Good (s t : ByteArray) : Prop := Way s 101 119 ∧ Way t 110 115
open Classical in
noncomputable def good (s t : ByteArray) : Bool := decide (Good s t)
theorem good_iff (s t : ByteArray) : good s t = true ↔ Good s t := by unfold good; simp
open Classical in
theorem spec_owText_l0 (s : ByteArray) (a b : Int) (hs : s.size ≤ 9223372036854775807) : ∀ i : Nat, i ≤ s.size → Ev (fun k => spec_owText.l0 k s a b i) (decide (Signs s a b i)) := by
  refine down s.size ?_ ?_
  · refine succ ?_
    simp only [spec_owText.l0]
    exact neg (by omega) (conv (now _) (by simp [signs_end]))
  · intro i hi ih
    refine succ ?_
    simp only [spec_owText.l0]
    rw [wnat (by omega)]
    refine pos (by omega) (pos (by omega) ?_)
    by_cases c1 : bt s i = a
    · exact pos c1 (conv ih (by rw [decide_eq_decide, signs_step s a b i hi]; exact ⟨fun g => ⟨.inl c1, g⟩, fun g => g.2⟩))
    · refine neg c1 ?_
      by_cases c2 : bt s i = b
      · exact pos c2 (conv ih (by rw [decide_eq_decide, signs_step s a b i hi]; exact ⟨fun g => ⟨.inr c2, g⟩, fun g => g.2⟩))
      · exact neg c2 (conv (now _) (Eq.symm (decide_eq_false (by rw [signs_step s a b i hi]; exact fun g => g.1.elim c1 c2))))
open Classical in
theorem spec_owText_f (s : ByteArray) (a b : Int) (hs : s.size ≤ 9223372036854775807) : Ev (fun k => spec_owText.f k s a b) (decide (Way s a b)) := by
  unfold spec_owText.f
  simp only [spec_in, Option.bind_some]
  by_cases c : 2 ≤ (s.size : Int) ∧ (s.size : Int) ≤ 8
  · refine pos (by simpa using c) (conv (spec_owText_l0 s a b hs 0 (by omega)) ?_)
    rw [decide_eq_decide]
    exact ⟨fun g => ⟨by omega, g⟩, fun g => g.2⟩
  · exact neg (by simpa using c) (conv (now _) (Eq.symm (decide_eq_false (fun g => c (by have := g.1; omega)))))
open Classical in
theorem spec_owGood_f (s t : ByteArray) (hs : s.size ≤ 9223372036854775807) (ht : t.size ≤ 9223372036854775807) : Ev (fun k => spec_owGood.f k s t) (good s t) := by
  unfold spec_owGood.f
  refine bind (spec_owText_f s _ _ hs) ?_
  by_cases c : Way s 101 119
  · refine pos (by simpa using c) (conv (bind (spec_owText_f t _ _ ht) (now _)) ?_)
    unfold good Good
    rw [decide_eq_decide]
    exact ⟨fun g => ⟨c, g⟩, fun g => g.2⟩
  · refine neg (by simpa using c) (conv (now _) ?_)
    exact Eq.symm (decide_eq_false (fun g => c g.1))
theorem indexByte_two (a b : UInt8) (x : Int) (h0 : 0 ≤ x) (h1 : x ≤ 255) : Go.Lib.indexByte [a, b] x.toNat.toUInt8 < 0 ↔ ¬ (x = (a.toNat : Int) ∨ x = (b.toNat : Int)) := by
  have hx : x.toNat.toUInt8.toNat = x.toNat := by simp; omega
  have ea : (a == x.toNat.toUInt8) = decide (x = (a.toNat : Int)) := by
    rw [Bool.eq_iff_iff, beq_iff_eq, decide_eq_true_eq, ← UInt8.toNat_inj, hx]; omega
  have eb : (b == x.toNat.toUInt8) = decide (x = (b.toNat : Int)) := by
    rw [Bool.eq_iff_iff, beq_iff_eq, decide_eq_true_eq, ← UInt8.toNat_inj, hx]; omega
  simp only [Go.Lib.indexByte, ea, eb]
  by_cases c1 : x = (a.toNat : Int)
  · rw [if_pos (by simpa using c1)]
    simp [c1]
  · rw [if_neg (by simpa using c1)]
    by_cases c2 : x = (b.toNat : Int)
    · have e : decide (x = (b.toNat : Int)) = true := by simpa using c2
      rw [e]
      simp [c2]
    · have e : decide (x = (b.toNat : Int)) = false := by simpa using c2
      rw [e]
      simp [c1, c2]
open Classical in
theorem impl_areSigns_l0 (s : ByteArray) (a b : UInt8) (hs : s.size ≤ 9223372036854775807) : ∀ i : Nat, i ≤ s.size → Ev (fun k => impl_areSigns.l0 k s ⟨#[a, b]⟩ s.size i) (decide (Signs s a.toNat b.toNat i ∧ 2 ≤ s.size ∧ s.size ≤ 8)) := by
  refine down s.size ?_ ?_
  · refine succ ?_
    simp only [impl_areSigns.l0, impl_in, Option.bind_some]
    refine neg (by omega) (conv (now _) ?_)
    rw [decide_eq_decide]
    exact ⟨fun g => ⟨signs_end _ _ _, by omega⟩, fun g => by have := g.2; omega⟩
  · intro i hi ih
    refine succ ?_
    simp only [impl_areSigns.l0, strings_IndexByte.f, Option.bind_some]
    rw [wnat (by omega)]
    refine pos (by omega) (pos (by omega) (pos (by omega) ?_))
    have hr := bt_range s i
    have e := indexByte_two a b (bt s i) hr.1 hr.2
    by_cases c : bt s i = (a.toNat : Int) ∨ bt s i = (b.toNat : Int)
    · refine neg (fun g => e.1 g c) (conv ih ?_)
      rw [decide_eq_decide, signs_step s _ _ i hi]
      exact ⟨fun g => ⟨⟨c, g.1⟩, g.2⟩, fun g => ⟨g.1.2, g.2⟩⟩
    · refine pos (e.2 c) (conv (now _) (Eq.symm (decide_eq_false ?_)))
      rw [signs_step s _ _ i hi]
      exact fun g => c g.1.1
open Classical in
theorem impl_areSigns_f (s : ByteArray) (a b : UInt8) (hs : s.size ≤ 9223372036854775807) : Ev (fun k => impl_areSigns.f k s ⟨#[a, b]⟩) (decide (Way s a.toNat b.toNat)) := by
  unfold impl_areSigns.f
  refine conv (impl_areSigns_l0 s a b hs 0 (by omega)) ?_
  rw [decide_eq_decide]
  exact ⟨fun g => ⟨g.2, g.1⟩, fun g => ⟨g.2, g.1⟩⟩
open Classical in
theorem impl_AreWays_f (s t : ByteArray) (hs : s.size ≤ 9223372036854775807) (ht : t.size ≤ 9223372036854775807) : Ev (fun k => impl_AreWays.f k s t) (good s t) := by
  unfold impl_AreWays.f
  refine bind (impl_areSigns_f s 101 119 hs) ?_
  by_cases c : Way s 101 119
  · refine pos (by simpa using c) (conv (bind (impl_areSigns_f t 110 115 ht) (now _)) ?_)
    unfold good Good
    rw [decide_eq_decide]
    exact ⟨fun g => ⟨c, g⟩, fun g => g.2⟩
  · refine neg (by simpa using c) (conv (now _) ?_)
    exact Eq.symm (decide_eq_false (fun g => c g.1))

/-- The parts of a text, from a part's begin and a byte on, so many bytes left. -/
def seg (s : ByteArray) (c : Int) : Nat → Nat → Nat → List ByteArray
  | 0, from_, _ => [s.extract from_ s.size]
  | d + 1, from_, i => if bt s i = c then s.extract from_ i :: seg s c d (i + 1) (i + 1) else seg s c d from_ (i + 1)
theorem split_l0 (s : ByteArray) (c : Int) (hs : s.size ≤ 140737488351232) : ∀ i : Nat, i ≤ s.size → ∀ (from_ : Nat) (ps : List ByteArray), from_ ≤ i → ps.length ≤ i → s.size ≤ 1048576 →
    Ev (fun k => spec_l1Split.l0 k s c ps from_ i) (ps ++ seg s c (s.size - i) from_ i) := by
  refine down s.size ?_ ?_
  · intro from_ ps h1 h2 h3
    refine succ ?_
    simp only [spec_l1Split.l0, Nat.sub_self, seg]
    refine neg (by omega) (pos (by omega) (pos (by omega) (pos (by omega) ?_)))
    simp only [Int.toNat_natCast]
    exact now _
  · intro i hi ih from_ ps h1 h2 h3
    refine succ ?_
    simp only [spec_l1Split.l0]
    rw [wnat (by omega), show s.size - i = (s.size - (i + 1)) + 1 by omega]
    simp only [seg, Int.toNat_natCast]
    refine pos (by omega) (pos (by omega) ?_)
    by_cases e : bt s i = c
    · refine pos e (pos (by omega) (pos (by omega) (pos (by omega) (pos (by omega) ?_))))
      rw [if_pos e]
      refine conv (ih (i + 1) (ps ++ [s.extract from_ i]) (by omega) (by simp; omega) h3) ?_
      simp
    · refine neg e ?_
      rw [if_neg e]
      exact ih from_ ps (by omega) (by omega) h3
theorem split_f (s : ByteArray) (c : Int) (h : s.size ≤ 1048576) : Ev (fun k => spec_l1Split.f k s c) (seg s c s.size 0 0) := by
  unfold spec_l1Split.f
  exact conv (split_l0 s c (by omega) 0 (by omega) 0 [] (by omega) (by simp) h) (by simp)
theorem seg_pos (s : ByteArray) (c : Int) : ∀ d from_ i, 1 ≤ (seg s c d from_ i).length := by
  intro d
  induction d with
  | zero => intro f i; simp [seg]
  | succ d ih =>
    intro f i
    simp only [seg]
    split
    · simp
    · exact ih _ _
/-- Without the byte there is one part. -/
theorem seg_none (s : ByteArray) (c : Int) : ∀ d from_ i, d = s.size - i → (∀ j, i ≤ j → j < s.size → bt s j ≠ c) → seg s c d from_ i = [s.extract from_ s.size] := by
  intro d
  induction d with
  | zero => intro f i _ _; rfl
  | succ d ih =>
    intro f i hd h
    simp only [seg]
    rw [if_neg (h i (by omega) (by omega))]
    exact ih f (i + 1) (by omega) (fun j h1 h2 => h j (by omega) h2)
/-- With the byte: the first part, and the parts behind. -/
theorem seg_first (s : ByteArray) (c : Int) (j : Nat) (hj : j < s.size) (e : bt s j = c) : ∀ d from_ i, d = s.size - i → i ≤ j → (∀ q, i ≤ q → q < j → bt s q ≠ c) → seg s c d from_ i = s.extract from_ j :: seg s c (s.size - (j + 1)) (j + 1) (j + 1) := by
  intro d
  induction d with
  | zero => intro f i h1 h2 _; omega
  | succ d ih =>
    intro f i hd hi h
    simp only [seg]
    by_cases z : i = j
    · subst z
      rw [if_pos e, show d = s.size - (i + 1) by omega]
    · rw [if_neg (h i (by omega) (by omega))]
      exact ih f (i + 1) (by omega) (by omega) (fun q h1 h2 => h q (by omega) h2)
theorem indexByte_spec : ∀ (l : List UInt8) (c : UInt8), (Go.Lib.indexByte l c = -1 ∧ c ∉ l) ∨ ∃ i : Nat, ∃ h : i < l.length, Go.Lib.indexByte l c = i ∧ l[i] = c ∧ ∀ j (hj : j < i), l[j]'(by omega) ≠ c := by
  intro l c
  induction l with
  | nil => left; simp [Go.Lib.indexByte]
  | cons b l ih =>
    by_cases e : b = c
    · right
      refine ⟨0, by simp, ?_, by simpa using e, fun j hj => by omega⟩
      simp [Go.Lib.indexByte, e]
    · rcases ih with ⟨h1, h2⟩ | ⟨i, h, h1, h2, h3⟩
      · left
        refine ⟨?_, by simp [Ne.symm e, h2]⟩
        simp only [Go.Lib.indexByte, h1]
        rw [if_neg (by simpa using e)]
        simp
      · right
        refine ⟨i + 1, by simp; omega, ?_, by simpa using h2, ?_⟩
        · simp only [Go.Lib.indexByte, h1]
          rw [if_neg (by simpa using e), if_neg (by simp)]
          omega
        · intro j hj
          cases j with
          | zero => simpa using e
          | succ j => simpa using h3 j (by omega)

theorem least {P : Nat → Prop} (h : ∃ n, P n) : ∃ n, P n ∧ ∀ m, m < n → ¬ P m := by
  obtain ⟨n, hn⟩ := h
  induction n using Nat.strongRecOn with
  | _ n ih =>
    by_cases c : ∃ m, m < n ∧ P m
    · obtain ⟨m, h1, h2⟩ := c
      exact ih m h1 h2
    · exact ⟨n, hn, fun m h1 h2 => c ⟨m, h1, h2⟩⟩

theorem eqWays_same (s t : ByteArray) : laws_eqWays.f s t s t = some true := by
  unfold laws_eqWays.f
  rw [if_pos rfl, if_pos rfl]
theorem list_len (s : ByteArray) : s.data.toList.length = s.size := Array.length_toList
theorem bt_eq (s : ByteArray) (i : Nat) (h : i < s.size) (u : UInt8) : bt s (i : Int) = (u.toNat : Int) ↔ s.data.toList[i]'(by rw [list_len]; exact h) = u := by
  rw [bt_lt s i h, show s.data.toList[i]'(by rw [list_len]; exact h) = s[i] from rfl, ← UInt8.toNat_inj]
  omega
/-- strings.Cut at one byte: the first place of it, or none. -/
theorem cut_f (s : ByteArray) (c : UInt8) (hs : s.size ≤ 1048576) :
    (strings_Cut.f s ⟨#[c]⟩ = some (s, ⟨#[]⟩, false) ∧ ∀ j, j < s.size → bt s j ≠ c.toNat) ∨
    ∃ i : Nat, i < s.size ∧ bt s i = c.toNat ∧ (∀ j, j < i → bt s j ≠ c.toNat) ∧ strings_Cut.f s ⟨#[c]⟩ = some (s.extract 0 i, s.extract (i + 1) s.size, true) := by
  have e1 : (⟨#[c]⟩ : ByteArray).size = 1 := rfl
  rcases indexByte_spec s.data.toList c with ⟨h1, h2⟩ | ⟨i, h, h1, h2, h3⟩
  · left
    refine ⟨?_, fun j hj g => h2 ?_⟩
    · unfold strings_Cut.f stringslite_Cut.f stringslite_Index.f
      simp [h1]
    · rw [← (bt_eq s j hj c).1 g]; exact List.getElem_mem _
  · right
    have hi : i < s.size := by rw [← list_len]; exact h
    refine ⟨i, hi, (bt_eq s i hi c).2 h2, fun j hj g => h3 j hj ((bt_eq s j (by omega) c).1 g), ?_⟩
    unfold strings_Cut.f stringslite_Cut.f stringslite_Index.f
    simp only [h1, Option.bind_some, e1]
    have w : wrap64 ((i : Int) + ((1 : Nat) : Int)) = ((i + 1 : Nat) : Int) := by unfold wrap64; omega
    rw [w, if_pos (by omega), if_pos (by omega), if_pos (by omega), if_pos (by omega), if_pos (by omega)]
    simp
theorem bt_extract (s : ByteArray) (a b j : Nat) (hb : b ≤ s.size) (hj : j < b - a) : bt (s.extract a b) (j : Int) = bt s ((a + j : Nat) : Int) := by
  have z : (s.extract a b).size = b - a := by simp only [ByteArray.size_extract]; omega
  rw [bt_lt _ j (by omega), bt_lt s (a + j) (by omega)]
  congr 2
  simp [ByteArray.getElem_extract]
theorem both_same (s : ByteArray) (hs : s.size ≤ 1048576) : ∃ v, Ev (fun k => spec_ParseWays.f k s) v ∧ Ev (fun k => impl_ParseWays.f k s) v := by
  unfold spec_ParseWays.f impl_ParseWays.f
  rcases cut_f s 47 hs with ⟨h1, h2⟩ | ⟨i, hi, e, hb, h1⟩
  · refine ⟨(⟨#[]⟩, ⟨#[]⟩, false), bind (split_f s 47 hs) ?_, bindSome h1 (neg (by simp) (now _))⟩
    rw [seg_none s 47 s.size 0 0 rfl (fun j _ h => h2 j h)]
    exact neg (by simp) (now _)
  · have sg := seg_first s 47 i hi e s.size 0 0 rfl (by omega) (fun q _ h => hb q h)
    by_cases c : ∀ j, i + 1 ≤ j → j < s.size → bt s j ≠ 47
    · rw [seg_none s 47 (s.size - (i + 1)) (i + 1) (i + 1) rfl c] at sg
      have z1 : (s.extract 0 i).size ≤ 9223372036854775807 := by simp only [ByteArray.size_extract]; omega
      have z2 : (s.extract (i + 1) s.size).size ≤ 9223372036854775807 := by simp only [ByteArray.size_extract]; omega
      cases hg : good (s.extract 0 i) (s.extract (i + 1) s.size) with
      | true =>
        refine ⟨(s.extract 0 i, s.extract (i + 1) s.size, true), bind (split_f s 47 hs) ?_, bindSome h1 (pos rfl (bind (impl_AreWays_f _ _ z1 z2) (pos hg (now _))))⟩
        rw [sg]
        exact pos (by simp) (pos (by simp) (pos (by simp) (bind (spec_owGood_f _ _ z1 z2) (pos hg (now _)))))
      | false =>
        refine ⟨(⟨#[]⟩, ⟨#[]⟩, false), bind (split_f s 47 hs) ?_, bindSome h1 (pos rfl (bind (impl_AreWays_f _ _ z1 z2) (neg (by simp [hg]) (now _))))⟩
        rw [sg]
        exact pos (by simp) (pos (by simp) (pos (by simp) (bind (spec_owGood_f _ _ z1 z2) (neg (by simp [rdOf, hg]) (now _)))))
    · obtain ⟨j, j1, j2, j3⟩ : ∃ j, i + 1 ≤ j ∧ j < s.size ∧ bt s j = 47 := by
        apply Classical.byContradiction
        intro no
        exact c (fun j a b g => no ⟨j, a, b, g⟩)
      have ng : ¬ Good (s.extract 0 i) (s.extract (i + 1) s.size) := by
        rintro ⟨_, _, g⟩
        have z : (s.extract (i + 1) s.size).size = s.size - (i + 1) := by simp only [ByteArray.size_extract]; omega
        have := g (j - (i + 1)) (by omega) (by omega)
        rw [bt_extract s (i + 1) s.size (j - (i + 1)) (by omega) (by omega), show i + 1 + (j - (i + 1)) = j by omega, j3] at this
        omega
      have hg : good (s.extract 0 i) (s.extract (i + 1) s.size) = false := by
        rw [Bool.eq_false_iff]; exact fun h => ng ((good_iff _ _).1 h)
      have z1 : (s.extract 0 i).size ≤ 9223372036854775807 := by simp only [ByteArray.size_extract]; omega
      have z2 : (s.extract (i + 1) s.size).size ≤ 9223372036854775807 := by simp only [ByteArray.size_extract]; omega
      refine ⟨(⟨#[]⟩, ⟨#[]⟩, false), bind (split_f s 47 hs) ?_, bindSome h1 (pos rfl (bind (impl_AreWays_f _ _ z1 z2) (neg (by simp [hg]) (now _))))⟩
      rw [sg]
      obtain ⟨q, q1, q2, q3⟩ : ∃ q, (i + 1 ≤ q ∧ q < s.size ∧ bt s q = 47) ∧ True ∧ ∀ p, i + 1 ≤ p → p < q → bt s p ≠ 47 := by
        have ex : ∃ q, i + 1 ≤ q ∧ q < s.size ∧ bt s (q : Nat) = 47 := ⟨j, j1, j2, j3⟩
        obtain ⟨q, h1, h2⟩ := least ex
        exact ⟨q, h1, trivial, fun p a b g => h2 p b ⟨a, Nat.lt_trans b h1.2.1, g⟩⟩
      rw [seg_first s 47 q q1.2.1 q1.2.2 (s.size - (i + 1)) (i + 1) (i + 1) rfl q1.1 q3]
      have l := seg_pos s 47 (s.size - (q + 1)) (q + 1) (q + 1)
      exact neg (by simp only [List.length_cons]; omega) (now _)
theorem FnExactParseWays : laws_FnExactParseWays.Pure := by
  intro s hs
  refine Ev.rounds ?_
  unfold laws_FnExactParseWays.f
  by_cases h : (s.size : Int) > 1048576
  · exact pos h (now _)
  · refine neg h ?_
    obtain ⟨v, h1, h2⟩ := both_same s (by omega)
    exact bind h1 (bind h2 (bindSome (eqWays_same _ _) (pos rfl (neg (by simp) (now _)))))

end Go.Proofs.Ytnnoeamcdbnbaaa.Pure
