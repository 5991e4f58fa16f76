/- The plain law of FnExactRoundOfBlock: what the printed functions compute answers true at every input within the bounds that the print tells. -/
import Derived.Test.YtnnoeamcdbnbaaaMAx5
import Derived.Test.YtnnoeamcdbnbaaaLib
namespace Go.Proofs.Ytnnoeamcdbnbaaa.Pure
open Go.RowKit Go.Proofs.Ytnnoeamcdbnbaaa.MA Go.Proofs.YtnnoeamcdbnbaaaW.PrintWords Go.Proofs.YtnnoeamcdbnbaaaW.PrintLast Go.Proofs.YtnnoeamcdbnbaaaW.PrintMore Go.Proofs.Ytnnoeamcdbnbaaa.Lib
set_option linter.unusedVariables false
set_option linter.unusedSimpArgs false

theorem spec_in (a b c : Int) : spec_l1In.f a b c = some (decide (b ≤ a ∧ a ≤ c)) := by
  unfold spec_l1In.f
  by_cases h : a ≥ b
  · rw [if_pos h]; simp [show b ≤ a from h]
  · rw [if_neg h]; simp [show ¬ b ≤ a from h]
theorem impl_in (a b c : Int) : impl_within.f a b c = some (decide (b ≤ a ∧ a ≤ c)) := by
  unfold impl_within.f
  by_cases h : a ≥ b
  · rw [if_pos h]; simp [show b ≤ a from h]
  · rw [if_neg h]; simp [show ¬ b ≤ a from h]
/-- Two signs alone from one on. -/
def Signs (s : ByteArray) (a b : Int) (i : Nat) : Prop := ∀ j : Nat, i ≤ j → j < s.size → bt s j = a ∨ bt s j = b
theorem signs_end (s : ByteArray) (a b : Int) : Signs s a b s.size := fun j h1 h2 => by omega
theorem signs_step (s : ByteArray) (a b : Int) (i : Nat) (hi : i < s.size) : Signs s a b i ↔ (bt s i = a ∨ bt s i = b) ∧ Signs s a b (i + 1) := by
  constructor
  · intro g; exact ⟨g i (Nat.le_refl _) hi, fun j h1 h2 => g j (by omega) h2⟩
  · rintro ⟨g, r⟩ j h1 h2
    by_cases e : j = i
    · subst e; exact g
    · exact r j (by omega) h2
/-- The signs of ways in one direction. -/
def Way (s : ByteArray) (a b : Int) : Prop := (2 ≤ s.size ∧ s.size ≤ 8) ∧ Signs s a b 0
/-- Ways. -/
def Good (s t : ByteArray) : Prop := Way s 101 119 ∧ Way t 110 115
open Classical in
noncomputable def good (s t : ByteArray) : Bool := decide (Good s t)
theorem good_iff (s t : ByteArray) : good s t = true ↔ Good s t := by unfold good; simp
open Classical in
theorem spec_owText_l0 (s : ByteArray) (a b : Int) (hs : s.size ≤ 9223372036854775807) : ∀ i : Nat, i ≤ s.size → Ev (fun k => spec_owText.l0 k s a b i) (decide (Signs s a b i)) := by
  refine down s.size ?_ ?_
  · refine succ ?_
    simp only [spec_owText.l0]
    exact neg (by omega) (conv (now _) (by simp [signs_end]))
  · intro i hi ih
    refine succ ?_
    simp only [spec_owText.l0]
    rw [wnat (by omega)]
    refine pos (by omega) (pos (by omega) ?_)
    by_cases c1 : bt s i = a
    · exact pos c1 (conv ih (by rw [decide_eq_decide, signs_step s a b i hi]; exact ⟨fun g => ⟨.inl c1, g⟩, fun g => g.2⟩))
    · refine neg c1 ?_
      by_cases c2 : bt s i = b
      · exact pos c2 (conv ih (by rw [decide_eq_decide, signs_step s a b i hi]; exact ⟨fun g => ⟨.inr c2, g⟩, fun g => g.2⟩))
      · exact neg c2 (conv (now _) (Eq.symm (decide_eq_false (by rw [signs_step s a b i hi]; exact fun g => g.1.elim c1 c2))))
open Classical in
theorem spec_owText_f (s : ByteArray) (a b : Int) (hs : s.size ≤ 9223372036854775807) : Ev (fun k => spec_owText.f k s a b) (decide (Way s a b)) := by
  unfold spec_owText.f
  simp only [spec_in, Option.bind_some]
  by_cases c : 2 ≤ (s.size : Int) ∧ (s.size : Int) ≤ 8
  · refine pos (by simpa using c) (conv (spec_owText_l0 s a b hs 0 (by omega)) ?_)
    rw [decide_eq_decide]
    exact ⟨fun g => ⟨by omega, g⟩, fun g => g.2⟩
  · exact neg (by simpa using c) (conv (now _) (Eq.symm (decide_eq_false (fun g => c (by have := g.1; omega)))))
open Classical in
theorem spec_owGood_f (s t : ByteArray) (hs : s.size ≤ 9223372036854775807) (ht : t.size ≤ 9223372036854775807) : Ev (fun k => spec_owGood.f k s t) (good s t) := by
  unfold spec_owGood.f
  refine bind (spec_owText_f s _ _ hs) ?_
  by_cases c : Way s 101 119
  · refine pos (by simpa using c) (conv (bind (spec_owText_f t _ _ ht) (now _)) ?_)
    unfold good Good
    rw [decide_eq_decide]
    exact ⟨fun g => ⟨c, g⟩, fun g => g.2⟩
  · refine neg (by simpa using c) (conv (now _) ?_)
    exact Eq.symm (decide_eq_false (fun g => c g.1))
theorem indexByte_two (a b : UInt8) (x : Int) (h0 : 0 ≤ x) (h1 : x ≤ 255) : Go.Lib.indexByte [a, b] x.toNat.toUInt8 < 0 ↔ ¬ (x = (a.toNat : Int) ∨ x = (b.toNat : Int)) := by
  have hx : x.toNat.toUInt8.toNat = x.toNat := by simp; omega
  have ea : (a == x.toNat.toUInt8) = decide (x = (a.toNat : Int)) := by
    rw [Bool.eq_iff_iff, beq_iff_eq, decide_eq_true_eq, ← UInt8.toNat_inj, hx]; omega
  have eb : (b == x.toNat.toUInt8) = decide (x = (b.toNat : Int)) := by
    rw [Bool.eq_iff_iff, beq_iff_eq, decide_eq_true_eq, ← UInt8.toNat_inj, hx]; omega
  simp only [Go.Lib.indexByte, ea, eb]
  by_cases c1 : x = (a.toNat : Int)
  · rw [if_pos (by simpa using c1)]
    simp [c1]
  · rw [if_neg (by simpa using c1)]
    by_cases c2 : x = (b.toNat : Int)
    · have e : decide (x = (b.toNat : Int)) = true := by simpa using c2
      rw [e]
      simp [c2]
    · have e : decide (x = (b.toNat : Int)) = false := by simpa using c2
      rw [e]
      simp [c1, c2]
open Classical in
theorem impl_areSigns_l0 (s : ByteArray) (a b : UInt8) (hs : s.size ≤ 9223372036854775807) : ∀ i : Nat, i ≤ s.size → Ev (fun k => impl_areSigns.l0 k s ⟨#[a, b]⟩ s.size i) (decide (Signs s a.toNat b.toNat i ∧ 2 ≤ s.size ∧ s.size ≤ 8)) := by
  refine down s.size ?_ ?_
  · refine succ ?_
    simp only [impl_areSigns.l0, impl_in, Option.bind_some]
    refine neg (by omega) (conv (now _) ?_)
    rw [decide_eq_decide]
    exact ⟨fun g => ⟨signs_end _ _ _, by omega⟩, fun g => by have := g.2; omega⟩
  · intro i hi ih
    refine succ ?_
    simp only [impl_areSigns.l0, strings_IndexByte.f, Option.bind_some]
    rw [wnat (by omega)]
    refine pos (by omega) (pos (by omega) (pos (by omega) ?_))
    have hr := bt_range s i
    have e := indexByte_two a b (bt s i) hr.1 hr.2
    by_cases c : bt s i = (a.toNat : Int) ∨ bt s i = (b.toNat : Int)
    · refine neg (fun g => e.1 g c) (conv ih ?_)
      rw [decide_eq_decide, signs_step s _ _ i hi]
      exact ⟨fun g => ⟨⟨c, g.1⟩, g.2⟩, fun g => ⟨g.1.2, g.2⟩⟩
    · refine pos (e.2 c) (conv (now _) (Eq.symm (decide_eq_false ?_)))
      rw [signs_step s _ _ i hi]
      exact fun g => c g.1.1
open Classical in
theorem impl_areSigns_f (s : ByteArray) (a b : UInt8) (hs : s.size ≤ 9223372036854775807) : Ev (fun k => impl_areSigns.f k s ⟨#[a, b]⟩) (decide (Way s a.toNat b.toNat)) := by
  unfold impl_areSigns.f
  refine conv (impl_areSigns_l0 s a b hs 0 (by omega)) ?_
  rw [decide_eq_decide]
  exact ⟨fun g => ⟨g.2, g.1⟩, fun g => ⟨g.2, g.1⟩⟩
open Classical in
theorem impl_AreWays_f (s t : ByteArray) (hs : s.size ≤ 9223372036854775807) (ht : t.size ≤ 9223372036854775807) : Ev (fun k => impl_AreWays.f k s t) (good s t) := by
  unfold impl_AreWays.f
  refine bind (impl_areSigns_f s 101 119 hs) ?_
  by_cases c : Way s 101 119
  · refine pos (by simpa using c) (conv (bind (impl_areSigns_f t 110 115 ht) (now _)) ?_)
    unfold good Good
    rw [decide_eq_decide]
    exact ⟨fun g => ⟨c, g⟩, fun g => g.2⟩
  · refine neg (by simpa using c) (conv (now _) ?_)
    exact Eq.symm (decide_eq_false (fun g => c g.1))

theorem szWays_f (s t : ByteArray) (hs : s.size ≤ 9223372036854775807) (ht : t.size ≤ 9223372036854775807) : ∃ v, laws_szWays.f s t 1048576 = some v ∧ (¬ v < 0 → s.size ≤ 1048576 ∧ t.size ≤ 1048576) := by
  unfold laws_szWays.f
  rw [w64 (show -9223372036854775808 ≤ (1048576 : Int) - (s.size : Int) by omega) (by omega)]
  by_cases c : (1048576 : Int) - (s.size : Int) < 0
  · exact ⟨-1, by rw [if_pos c], by omega⟩
  · rw [if_neg c, w64 (by omega) (by omega)]
    by_cases d : (1048576 : Int) - (s.size : Int) - (t.size : Int) < 0
    · exact ⟨-1, by rw [if_pos d], by omega⟩
    · exact ⟨_, by rw [if_neg d], fun _ => by omega⟩

/-- The signs of a ring to the left; to the right. -/
def RingL (a b c d : Int) : Prop := a = 101 ∧ b = 110 ∧ c = 119 ∧ d = 115
def RingR (a b c d : Int) : Prop := a = 119 ∧ b = 115 ∧ c = 101 ∧ d = 110
instance (a b c d : Int) : Decidable (RingL a b c d) := by unfold RingL; exact inferInstance
instance (a b c d : Int) : Decidable (RingR a b c d) := by unfold RingR; exact inferInstance
/-- 1, -1 or 0 for four signs. -/
def roundOf (a b c d : Int) : Int := if RingL a b c d then 1 else if RingR a b c d then -1 else 0
theorem spec_owRing_f (s t : ByteArray) (hs : 2 ≤ s.size) (hs2 : s.size ≤ 9223372036854775807) (ht : 2 ≤ t.size) (ht2 : t.size ≤ 9223372036854775807) :
    spec_owRing.f s t = some (decide (roundOf (bt s 0) (bt t ((t.size : Int) - 1)) (bt s ((s.size : Int) - 1)) (bt t 0) ≠ 0)) := by
  unfold spec_owRing.f
  rw [wsub1 (by omega), wsub1 (by omega)]
  rw [if_pos (by omega), if_pos (by omega), if_pos (by omega), if_pos (by omega), if_pos (by omega), if_pos (by omega)]
  generalize bt s 0 = a
  generalize bt t ((t.size : Int) - 1) = b
  generalize bt s ((s.size : Int) - 1) = c
  generalize bt t 0 = d
  unfold roundOf RingL RingR
  by_cases a1 : a = 101
  · subst a1
    by_cases b1 : b = 110
    · subst b1
      by_cases c1 : c = 119
      · subst c1
        by_cases d1 : d = 115
        · subst d1; simp
        · simp [d1]
      · simp [c1]
    · simp [b1]
  · by_cases a2 : a = 119
    · subst a2
      by_cases b1 : b = 115
      · subst b1
        by_cases c1 : c = 101
        · subst c1
          by_cases d1 : d = 110
          · subst d1; simp
          · simp [d1]
        · simp [c1]
      · simp [b1]
    · simp [a1, a2]
theorem strOfNums_four (a b c d : Int) (x y z u : UInt8) (ha : 0 ≤ a ∧ a ≤ 255) (hb : 0 ≤ b ∧ b ≤ 255) (hc : 0 ≤ c ∧ c ≤ 255) (hd : 0 ≤ d ∧ d ≤ 255) :
    (strOfNums [a, b, c, d]).toList = [x, y, z, u] ↔ a = (x.toNat : Int) ∧ b = (y.toNat : Int) ∧ c = (z.toNat : Int) ∧ d = (u.toNat : Int) := by
  rw [ByteArray.toList_eq, strOfNums_data]
  have key : ∀ (n : Int) (v : UInt8), 0 ≤ n ∧ n ≤ 255 → (UInt8.ofNat n.toNat = v ↔ n = (v.toNat : Int)) := by
    intro n v hn
    rw [← UInt8.toNat_inj]
    have : (UInt8.ofNat n.toNat).toNat = n.toNat := by simp; omega
    rw [this]; omega
  simp only [List.map_cons, List.map_nil, List.cons.injEq, and_true]
  rw [key _ _ ha, key _ _ hb, key _ _ hc, key _ _ hd]
theorem roundBetween_f (s t : ByteArray) (l r lo hi : Int) (h1 : 0 ≤ l) (h2 : l < t.size) (h3 : 0 ≤ r) (h4 : r < t.size) (h5 : 0 ≤ lo) (h6 : lo < s.size) (h7 : 0 ≤ hi) (h8 : hi < s.size) :
    impl_roundBetween.f s t l r lo hi = some (roundOf (bt s lo) (bt t r) (bt s hi) (bt t l)) := by
  unfold impl_roundBetween.f
  rw [if_pos h5, if_pos h6, if_pos h3, if_pos h4, if_pos h7, if_pos h8, if_pos h1, if_pos h2]
  simp only [Option.bind_some]
  have e1 := strOfNums_four (bt s lo) (bt t r) (bt s hi) (bt t l) 101 110 119 115 (bt_range _ _) (bt_range _ _) (bt_range _ _) (bt_range _ _)
  have e2 := strOfNums_four (bt s lo) (bt t r) (bt s hi) (bt t l) 119 115 101 110 (bt_range _ _) (bt_range _ _) (bt_range _ _) (bt_range _ _)
  unfold roundOf
  by_cases c : RingL (bt s lo) (bt t r) (bt s hi) (bt t l)
  · rw [if_pos (e1.2 c), if_pos c]
  · rw [if_neg (fun h => c (e1.1 h)), if_neg c]
    by_cases d : RingR (bt s lo) (bt t r) (bt s hi) (bt t l)
    · rw [if_pos (e2.2 d), if_pos d]
    · rw [if_neg (fun h => d (e2.1 h)), if_neg d]

theorem size_sub (s : ByteArray) (i : Nat) (h : i + 2 ≤ s.size) : (s.extract i (i + 2)).size = 2 := by
  simp only [ByteArray.size_extract]; omega
theorem bt_sub (s : ByteArray) (i : Nat) (j : Nat) (h : i + 2 ≤ s.size) (hj : j < 2) : bt (s.extract i (i + 2)) (j : Int) = bt s ((i + j : Nat) : Int) := by
  have e := size_sub s i h
  rw [bt_lt _ j (by omega), bt_lt s (i + j) (by omega)]
  congr 2
  simp [ByteArray.getElem_extract]
theorem owRound_f (s t : ByteArray) (x y : Nat) (hs : s.size ≤ 9223372036854775807) (ht : t.size ≤ 9223372036854775807) (hx : x + 2 ≤ t.size) (hy : y + 2 ≤ s.size) :
    spec_owRound.f s t x y = some (roundOf (bt s y) (bt t ((x + 1 : Nat) : Int)) (bt s ((y + 1 : Nat) : Int)) (bt t x)) := by
  unfold spec_owRound.f
  have ey : wrap64 ((y : Int) + 2) = ((y + 2 : Nat) : Int) := by unfold wrap64; omega
  have ex : wrap64 ((x : Int) + 2) = ((x + 2 : Nat) : Int) := by unfold wrap64; omega
  rw [ey, ex]
  rw [if_pos (by omega), if_pos (by omega), if_pos (by omega), if_pos (by omega), if_pos (by omega), if_pos (by omega)]
  simp only [Int.toNat_natCast]
  have z1 := size_sub s y hy
  have z2 := size_sub t x hx
  rw [spec_owRing_f _ _ (by omega) (by omega) (by omega) (by omega)]
  simp only [Option.bind_some, z1, z2]
  have b0 := bt_sub s y 0 hy (by omega)
  have b1 := bt_sub s y 1 hy (by omega)
  have c0 := bt_sub t x 0 hx (by omega)
  have c1 := bt_sub t x 1 hx (by omega)
  simp only [Nat.add_zero, Int.natCast_zero, Int.natCast_one] at b0 b1 c0 c1
  have e2 : ((2 : Nat) : Int) - 1 = 1 := rfl
  simp only [e2, b0, b1, c0, c1]
  generalize bt s (y : Int) = a
  generalize bt t ((x + 1 : Nat) : Int) = b
  generalize bt s ((y + 1 : Nat) : Int) = c
  generalize bt t (x : Int) = d
  unfold roundOf
  by_cases h : RingL a b c d
  · have e := h.1
    rw [if_pos h]
    simp [e]
  · rw [if_neg h]
    by_cases h' : RingR a b c d
    · have e := h'.1
      rw [if_pos h']
      simp [e]
    · rw [if_neg h']
      simp

theorem FnExactRoundOfBlock : laws_FnExactRoundOfBlock.Pure := by
  intro s t x y hs ht hx hy
  refine Ev.rounds ?_
  unfold laws_FnExactRoundOfBlock.f laws_toWays.f
  obtain ⟨v, hv, hn⟩ := szWays_f s t hs ht
  refine bindSome hv ?_
  by_cases c : v < 0
  · exact pos c (now _)
  · refine neg c ?_
    have hn := hn c
    simp only [Option.bind_some]
    have fin : ∃ r, Ev (fun k => spec_RoundOfBlock.f k s t x y) r ∧ Ev (fun k => impl_RoundOfBlock.f k s t x y) r := by
      unfold spec_RoundOfBlock.f impl_RoundOfBlock.f
      have e1 : wrap64 ((t.size : Int) - 2) = (t.size : Int) - 2 := by unfold wrap64; omega
      have e2 : wrap64 ((s.size : Int) - 2) = (s.size : Int) - 2 := by unfold wrap64; omega
      rw [e1, e2]
      simp only [spec_in, impl_in, Option.bind_some]
      cases hg : good s t with
      | true =>
        by_cases c1 : 0 ≤ x ∧ x ≤ (t.size : Int) - 2
        · by_cases c2 : 0 ≤ y ∧ y ≤ (s.size : Int) - 2
          · obtain ⟨i, rfl⟩ := Int.eq_ofNat_of_zero_le c1.1
            obtain ⟨j, rfl⟩ := Int.eq_ofNat_of_zero_le c2.1
            refine ⟨(roundOf (bt s j) (bt t ((i + 1 : Nat) : Int)) (bt s ((j + 1 : Nat) : Int)) (bt t i), true), bind (spec_owGood_f s t hs ht) (pos hg (pos (by simpa using c1) (pos (by simpa using c2) (bindSome (owRound_f s t i j hs ht (by omega) (by omega)) (now _))))), bind (impl_AreWays_f s t hs ht) (pos hg (pos (by simpa using c1) (pos (by simpa using c2) ?_)))⟩
            rw [wnat (by omega), wnat (by omega)]
            exact bindSome (roundBetween_f s t i _ j _ (by omega) (by omega) (by omega) (by omega) (by omega) (by omega) (by omega) (by omega)) (now _)
          · exact ⟨(0, false), bind (spec_owGood_f s t hs ht) (pos hg (pos (by simpa using c1) (neg (by simpa using c2) (now _)))), bind (impl_AreWays_f s t hs ht) (pos hg (pos (by simpa using c1) (neg (by simpa using c2) (now _))))⟩
        · exact ⟨(0, false), bind (spec_owGood_f s t hs ht) (pos hg (neg (by simpa using c1) (now _))), bind (impl_AreWays_f s t hs ht) (pos hg (neg (by simpa using c1) (now _)))⟩
      | false =>
        exact ⟨(0, false), bind (spec_owGood_f s t hs ht) (neg (by simp [hg]) (now _)), bind (impl_AreWays_f s t hs ht) (neg (by simp [hg]) (now _))⟩
    obtain ⟨r, h1, h2⟩ := fin
    exact bind h1 (bind h2 (pos rfl (neg (by simp) (now _))))

end Go.Proofs.Ytnnoeamcdbnbaaa.Pure
