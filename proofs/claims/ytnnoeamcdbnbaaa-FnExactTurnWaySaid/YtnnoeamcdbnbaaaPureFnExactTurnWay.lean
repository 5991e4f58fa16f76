/- The plain law of FnExactTurnWay: what the printed functions compute answers true at every input within the bounds that the print tells. -/
import Derived.Test.YtnnoeamcdbnbaaaMCx4
import Derived.Test.YtnnoeamcdbnbaaaLib
namespace Go.Proofs.Ytnnoeamcdbnbaaa.Pure
open Go.RowKit Go.Proofs.Ytnnoeamcdbnbaaa.MC Go.Proofs.YtnnoeamcdbnbaaaW.PrintWords Go.Proofs.YtnnoeamcdbnbaaaW.PrintLast Go.Proofs.YtnnoeamcdbnbaaaW.PrintMore Go.Proofs.Ytnnoeamcdbnbaaa.Lib
set_option linter.unusedVariables false
set_option linter.unusedSimpArgs false

theorem spec_in (a b c : Int) : spec_l1In.f a b c = some (decide (b ≤ a ∧ a ≤ c)) := by
  unfold spec_l1In.f
  by_cases h : a ≥ b
  · rw [if_pos h]; simp [show b ≤ a from h]
  · rw [if_neg h]; simp [show ¬ b ≤ a from h]
theorem impl_in (a b c : Int) : impl_within.f a b c = some (decide (b ≤ a ∧ a ≤ c)) := by
  unfold impl_within.f
  by_cases h : a ≥ b
  · rw [if_pos h]; simp [show b ≤ a from h]
  · rw [if_neg h]; simp [show ¬ b ≤ a from h]
/-- Two signs alone from one on. -/
def Signs (s : ByteArray) (a b : Int) (i : Nat) : Prop := ∀ j : Nat, i ≤ j → j < s.size → bt s j = a ∨ bt s j = b
theorem signs_end (s : ByteArray) (a b : Int) : Signs s a b s.size := fun j h1 h2 => by omega
theorem signs_step (s : ByteArray) (a b : Int) (i : Nat) (hi : i < s.size) : Signs s a b i ↔ (bt s i = a ∨ bt s i = b) ∧ Signs s a b (i + 1) := by
  constructor
  · intro g; exact ⟨g i (Nat.le_refl _) hi, fun j h1 h2 => g j (by omega) h2⟩
  · rintro ⟨g, r⟩ j h1 h2
    by_cases e : j = i
    · subst e; exact g
    · exact r j (by omega) h2
/-- The signs of ways in one direction. -/
def Way (s : ByteArray) (a b : Int) : Prop := (2 ≤ s.size ∧ s.size ≤ 8) ∧ Signs s a b 0
/-- Ways. -/
def Good (s t : ByteArray) : Prop := Way s 101 119 ∧ Way t 110 115
open Classical in
noncomputable def good (s t : ByteArray) : Bool := decide (Good s t)
theorem good_iff (s t : ByteArray) : good s t = true ↔ Good s t := by unfold good; simp
open Classical in
theorem spec_owText_l0 (s : ByteArray) (a b : Int) (hs : s.size ≤ 9223372036854775807) : ∀ i : Nat, i ≤ s.size → Ev (fun k => spec_owText.l0 k s a b i) (decide (Signs s a b i)) := by
  refine down s.size ?_ ?_
  · refine succ ?_
    simp only [spec_owText.l0]
    exact neg (by omega) (conv (now _) (by simp [signs_end]))
  · intro i hi ih
    refine succ ?_
    simp only [spec_owText.l0]
    rw [wnat (by omega)]
    refine pos (by omega) (pos (by omega) ?_)
    by_cases c1 : bt s i = a
    · exact pos c1 (conv ih (by rw [decide_eq_decide, signs_step s a b i hi]; exact ⟨fun g => ⟨.inl c1, g⟩, fun g => g.2⟩))
    · refine neg c1 ?_
      by_cases c2 : bt s i = b
      · exact pos c2 (conv ih (by rw [decide_eq_decide, signs_step s a b i hi]; exact ⟨fun g => ⟨.inr c2, g⟩, fun g => g.2⟩))
      · exact neg c2 (conv (now _) (Eq.symm (decide_eq_false (by rw [signs_step s a b i hi]; exact fun g => g.1.elim c1 c2))))
open Classical in
theorem spec_owText_f (s : ByteArray) (a b : Int) (hs : s.size ≤ 9223372036854775807) : Ev (fun k => spec_owText.f k s a b) (decide (Way s a b)) := by
  unfold spec_owText.f
  simp only [spec_in, Option.bind_some]
  by_cases c : 2 ≤ (s.size : Int) ∧ (s.size : Int) ≤ 8
  · refine pos (by simpa using c) (conv (spec_owText_l0 s a b hs 0 (by omega)) ?_)
    rw [decide_eq_decide]
    exact ⟨fun g => ⟨by omega, g⟩, fun g => g.2⟩
  · exact neg (by simpa using c) (conv (now _) (Eq.symm (decide_eq_false (fun g => c (by have := g.1; omega)))))
open Classical in
theorem spec_owGood_f (s t : ByteArray) (hs : s.size ≤ 9223372036854775807) (ht : t.size ≤ 9223372036854775807) : Ev (fun k => spec_owGood.f k s t) (good s t) := by
  unfold spec_owGood.f
  refine bind (spec_owText_f s _ _ hs) ?_
  by_cases c : Way s 101 119
  · refine pos (by simpa using c) (conv (bind (spec_owText_f t _ _ ht) (now _)) ?_)
    unfold good Good
    rw [decide_eq_decide]
    exact ⟨fun g => ⟨c, g⟩, fun g => g.2⟩
  · refine neg (by simpa using c) (conv (now _) ?_)
    exact Eq.symm (decide_eq_false (fun g => c g.1))
theorem indexByte_two (a b : UInt8) (x : Int) (h0 : 0 ≤ x) (h1 : x ≤ 255) : Go.Lib.indexByte [a, b] x.toNat.toUInt8 < 0 ↔ ¬ (x = (a.toNat : Int) ∨ x = (b.toNat : Int)) := by
  have hx : x.toNat.toUInt8.toNat = x.toNat := by simp; omega
  have ea : (a == x.toNat.toUInt8) = decide (x = (a.toNat : Int)) := by
    rw [Bool.eq_iff_iff, beq_iff_eq, decide_eq_true_eq, ← UInt8.toNat_inj, hx]; omega
  have eb : (b == x.toNat.toUInt8) = decide (x = (b.toNat : Int)) := by
    rw [Bool.eq_iff_iff, beq_iff_eq, decide_eq_true_eq, ← UInt8.toNat_inj, hx]; omega
  simp only [Go.Lib.indexByte, ea, eb]
  by_cases c1 : x = (a.toNat : Int)
  · rw [if_pos (by simpa using c1)]
    simp [c1]
  · rw [if_neg (by simpa using c1)]
    by_cases c2 : x = (b.toNat : Int)
    · have e : decide (x = (b.toNat : Int)) = true := by simpa using c2
      rw [e]
      simp [c2]
    · have e : decide (x = (b.toNat : Int)) = false := by simpa using c2
      rw [e]
      simp [c1, c2]
open Classical in
theorem impl_areSigns_l0 (s : ByteArray) (a b : UInt8) (hs : s.size ≤ 9223372036854775807) : ∀ i : Nat, i ≤ s.size → Ev (fun k => impl_areSigns.l0 k s ⟨#[a, b]⟩ s.size i) (decide (Signs s a.toNat b.toNat i ∧ 2 ≤ s.size ∧ s.size ≤ 8)) := by
  refine down s.size ?_ ?_
  · refine succ ?_
    simp only [impl_areSigns.l0, impl_in, Option.bind_some]
    refine neg (by omega) (conv (now _) ?_)
    rw [decide_eq_decide]
    exact ⟨fun g => ⟨signs_end _ _ _, by omega⟩, fun g => by have := g.2; omega⟩
  · intro i hi ih
    refine succ ?_
    simp only [impl_areSigns.l0, strings_IndexByte.f, Option.bind_some]
    rw [wnat (by omega)]
    refine pos (by omega) (pos (by omega) (pos (by omega) ?_))
    have hr := bt_range s i
    have e := indexByte_two a b (bt s i) hr.1 hr.2
    by_cases c : bt s i = (a.toNat : Int) ∨ bt s i = (b.toNat : Int)
    · refine neg (fun g => e.1 g c) (conv ih ?_)
      rw [decide_eq_decide, signs_step s _ _ i hi]
      exact ⟨fun g => ⟨⟨c, g.1⟩, g.2⟩, fun g => ⟨g.1.2, g.2⟩⟩
    · refine pos (e.2 c) (conv (now _) (Eq.symm (decide_eq_false ?_)))
      rw [signs_step s _ _ i hi]
      exact fun g => c g.1.1
open Classical in
theorem impl_areSigns_f (s : ByteArray) (a b : UInt8) (hs : s.size ≤ 9223372036854775807) : Ev (fun k => impl_areSigns.f k s ⟨#[a, b]⟩) (decide (Way s a.toNat b.toNat)) := by
  unfold impl_areSigns.f
  refine conv (impl_areSigns_l0 s a b hs 0 (by omega)) ?_
  rw [decide_eq_decide]
  exact ⟨fun g => ⟨g.2, g.1⟩, fun g => ⟨g.2, g.1⟩⟩
open Classical in
theorem impl_AreWays_f (s t : ByteArray) (hs : s.size ≤ 9223372036854775807) (ht : t.size ≤ 9223372036854775807) : Ev (fun k => impl_AreWays.f k s t) (good s t) := by
  unfold impl_AreWays.f
  refine bind (impl_areSigns_f s 101 119 hs) ?_
  by_cases c : Way s 101 119
  · refine pos (by simpa using c) (conv (bind (impl_areSigns_f t 110 115 ht) (now _)) ?_)
    unfold good Good
    rw [decide_eq_decide]
    exact ⟨fun g => ⟨c, g⟩, fun g => g.2⟩
  · refine neg (by simpa using c) (conv (now _) ?_)
    exact Eq.symm (decide_eq_false (fun g => c g.1))

theorem szWays_f (s t : ByteArray) (hs : s.size ≤ 9223372036854775807) (ht : t.size ≤ 9223372036854775807) : ∃ v, laws_szWays.f s t 1048576 = some v ∧ (¬ v < 0 → s.size ≤ 1048576 ∧ t.size ≤ 1048576) := by
  unfold laws_szWays.f
  rw [w64 (show -9223372036854775808 ≤ (1048576 : Int) - (s.size : Int) by omega) (by omega)]
  by_cases c : (1048576 : Int) - (s.size : Int) < 0
  · exact ⟨-1, by rw [if_pos c], by omega⟩
  · rw [if_neg c, w64 (by omega) (by omega)]
    by_cases d : (1048576 : Int) - (s.size : Int) - (t.size : Int) < 0
    · exact ⟨-1, by rw [if_pos d], by omega⟩
    · exact ⟨_, by rw [if_neg d], fun _ => by omega⟩

/-- A text with each byte turned by g. -/
def mapB (g : UInt8 → UInt8) (s : ByteArray) : ByteArray := ⟨(s.data.toList.map g).toArray⟩
def ge (u : UInt8) : UInt8 := if u = 101 then 119 else 101
def gn (u : UInt8) : UInt8 := if u = 110 then 115 else 110
theorem ba_ext {a b : ByteArray} (h : a.data.toList = b.data.toList) : a = b := by
  obtain ⟨a⟩ := a; obtain ⟨b⟩ := b
  simp only at h
  rw [Array.toList_inj.1 h]
theorem mapB_list (g : UInt8 → UInt8) (s : ByteArray) : (mapB g s).data.toList = s.data.toList.map g := rfl
theorem mapB_size (g : UInt8 → UInt8) (s : ByteArray) : (mapB g s).size = s.size := by
  show (s.data.toList.map g).toArray.size = s.data.size
  simp
theorem list_get (s : ByteArray) (i : Nat) (h : i < s.size) : s.data.toList[i]'(by rw [Array.length_toList]; exact h) = s[i] := rfl
theorem list_len (s : ByteArray) : s.data.toList.length = s.size := Array.length_toList
theorem bt_eq (s : ByteArray) (i : Nat) (h : i < s.size) (u : UInt8) : bt s (i : Int) = (u.toNat : Int) ↔ s.data.toList[i]'(by rw [list_len]; exact h) = u := by
  rw [bt_lt s i h, list_get s i h, ← UInt8.toNat_inj]
  omega
/-- The signs of ways, as bytes. -/
theorem way_bytes {s : ByteArray} {a b : UInt8} (h : Way s a.toNat b.toNat) : ∀ u ∈ s.data.toList, u = a ∨ u = b := by
  intro u hu
  obtain ⟨i, hi, rfl⟩ := List.getElem_of_mem hu
  have hi' : i < s.size := by rw [← list_len]; exact hi
  rcases h.2 i (by omega) hi' with g | g
  · exact .inl ((bt_eq s i hi' a).1 g)
  · exact .inr ((bt_eq s i hi' b).1 g)
theorem nums_sign {s : ByteArray} (h : ∀ u ∈ s.data.toList, u = 101 ∨ u = 110 ∨ u = 115 ∨ u = 119) : (impl_turnedSigns.nums s).all impl_turnedSigns.sign = true := by
  rw [List.all_eq_true]
  intro x hx
  obtain ⟨u, hu, rfl⟩ := List.mem_map.1 hx
  rcases h u hu with rfl | rfl | rfl | rfl <;> rfl
theorem turned_list (s : ByteArray) : (strOfNums ((impl_turnedSigns.nums s).map impl_turnedSigns.turn)).data.toList = s.data.toList.map fun u => UInt8.ofNat (impl_turnedSigns.turn (u.toNat : Int)).toNat := by
  rw [strOfNums_data]
  simp [impl_turnedSigns.nums]
theorem turned_of {s : ByteArray} (g : UInt8 → UInt8) (a b : UInt8) (hs : ∀ u ∈ s.data.toList, u = a ∨ u = b) (hz : s.size ≤ 1048576)
    (ha : a = 101 ∨ a = 110 ∨ a = 115 ∨ a = 119) (hb : b = 101 ∨ b = 110 ∨ b = 115 ∨ b = 119)
    (ga : UInt8.ofNat (impl_turnedSigns.turn (a.toNat : Int)).toNat = g a) (gb : UInt8.ofNat (impl_turnedSigns.turn (b.toNat : Int)).toNat = g b) : impl_turnedSigns.f s = some (mapB g s) := by
  unfold impl_turnedSigns.f
  rw [if_pos ⟨nums_sign (fun u hu => by rcases hs u hu with rfl | rfl; exact ha; exact hb), hz⟩]
  congr 1
  refine ba_ext ?_
  rw [turned_list, mapB_list]
  refine List.map_congr_left (fun u hu => ?_)
  rcases hs u hu with rfl | rfl
  · exact ga
  · exact gb
theorem turned_e {s : ByteArray} (h : ∀ u ∈ s.data.toList, u = 101 ∨ u = 119) (hz : s.size ≤ 1048576) : impl_turnedSigns.f s = some (mapB ge s) :=
  turned_of ge 101 119 h hz (.inl rfl) (.inr (.inr (.inr rfl))) rfl rfl
theorem turned_n {s : ByteArray} (h : ∀ u ∈ s.data.toList, u = 110 ∨ u = 115) (hz : s.size ≤ 1048576) : impl_turnedSigns.f s = some (mapB gn s) :=
  turned_of gn 110 115 h hz (.inr (.inl rfl)) (.inr (.inr (.inl rfl))) rfl rfl
/-- The text behind so many rounds. -/
def accB (g : UInt8 → UInt8) (s : ByteArray) (i : Nat) : ByteArray := ⟨((s.data.toList.take i).map g).toArray⟩
theorem accB_size (g : UInt8 → UInt8) (s : ByteArray) (i : Nat) (h : i ≤ s.size) : (accB g s i).size = i := by
  show ((s.data.toList.take i).map g).toArray.size = i
  rw [List.size_toArray, List.length_map, List.length_take, list_len]; omega
theorem accB_step (g : UInt8 → UInt8) (s : ByteArray) (i : Nat) (h : i < s.size) (u : UInt8) (hu : g (s.data.toList[i]'(by rw [list_len]; exact h)) = u) : accB g s i ++ (⟨#[u]⟩ : ByteArray) = accB g s (i + 1) := by
  refine ba_ext ?_
  rw [ByteArray.data_append, Array.toList_append]
  show (s.data.toList.take i).map g ++ [u] = (s.data.toList.take (i + 1)).map g
  rw [List.take_succ_eq_append_getElem (by rw [list_len]; exact h), List.map_append, List.map_cons, List.map_nil, hu]
theorem accB_zero (g : UInt8 → UInt8) (s : ByteArray) : accB g s 0 = ⟨#[]⟩ := by simp [accB]
theorem accB_end (g : UInt8 → UInt8) (s : ByteArray) : accB g s s.size = mapB g s := by
  unfold accB mapB
  rw [List.take_of_length_le (by rw [list_len]; omega)]
theorem owBack_l1 (s t acc : ByteArray) (ht : t.size ≤ 1048576) : ∀ i : Nat, i ≤ t.size → Ev (fun k => spec_owBack.l1 k i s t acc (accB gn t i)) (acc, mapB gn t) := by
  refine down t.size ?_ ?_
  · refine succ ?_
    simp only [spec_owBack.l1]
    exact neg (by omega) (conv (now _) (by rw [accB_end]))
  · intro i hi ih
    refine succ ?_
    simp only [spec_owBack.l1]
    rw [wnat (by omega)]
    have z := accB_size gn t i (by omega)
    refine pos (by omega) (pos (by omega) ?_)
    by_cases c : bt t i = 110
    · refine pos c (pos (by omega) ?_)
      rw [accB_step gn t i hi 115 (by rw [(bt_eq t i hi 110).1 c]; rfl)]
      exact ih
    · refine neg c (pos (by omega) ?_)
      rw [accB_step gn t i hi 110 (by unfold gn; rw [if_neg (fun h => c ((bt_eq t i hi 110).2 h))])]
      exact ih
theorem owBack_l0 (s t : ByteArray) (hs : s.size ≤ 1048576) (ht : t.size ≤ 1048576) : ∀ i : Nat, i ≤ s.size → Ev (fun k => spec_owBack.l0 k i s t (accB ge s i) ⟨#[]⟩) (mapB ge s, mapB gn t) := by
  refine down s.size ?_ ?_
  · refine succ ?_
    simp only [spec_owBack.l0]
    refine neg (by omega) ?_
    rw [accB_end]
    have := owBack_l1 s t (mapB ge s) ht 0 (by omega)
    rw [accB_zero] at this
    exact this
  · intro i hi ih
    refine succ ?_
    simp only [spec_owBack.l0]
    rw [wnat (by omega)]
    have z := accB_size ge s i (by omega)
    refine pos (by omega) (pos (by omega) ?_)
    by_cases c : bt s i = 101
    · refine pos c (pos (by omega) ?_)
      rw [accB_step ge s i hi 119 (by rw [(bt_eq s i hi 101).1 c]; rfl)]
      exact ih
    · refine neg c (pos (by omega) ?_)
      rw [accB_step ge s i hi 101 (by unfold ge; rw [if_neg (fun h => c ((bt_eq s i hi 101).2 h))])]
      exact ih
theorem owBack_f (s t : ByteArray) (hs : s.size ≤ 1048576) (ht : t.size ≤ 1048576) : Ev (fun k => spec_owBack.f k s t) (mapB ge s, mapB gn t) := by
  unfold spec_owBack.f
  have := owBack_l0 s t hs ht 0 (by omega)
  rw [accB_zero] at this
  exact this
theorem eqWays_same (s t : ByteArray) : laws_eqWays.f s t s t = some true := by
  unfold laws_eqWays.f
  rw [if_pos rfl, if_pos rfl]

theorem extract_list (s : ByteArray) (i j : Nat) : (s.extract i j).data.toList = (s.data.toList.drop i).take (j - i) := by
  rw [ByteArray.data_extract, Array.toList_extract]
theorem mapB_extract (g : UInt8 → UInt8) (s : ByteArray) (i j : Nat) : mapB g (s.extract i j) = (mapB g s).extract i j := by
  refine ba_ext ?_
  rw [mapB_list, extract_list, extract_list, mapB_list, List.map_take, List.map_drop]
theorem mem_extract {s : ByteArray} {i j : Nat} {u : UInt8} (h : u ∈ (s.extract i j).data.toList) : u ∈ s.data.toList := by
  rw [extract_list] at h
  exact List.mem_of_mem_drop (List.mem_of_mem_take h)
/-- The ways with one way turned. -/
def turnAt (g : UInt8 → UInt8) (s : ByteArray) (i : Nat) : ByteArray := s.extract 0 i ++ (mapB g s).extract i (i + 1) ++ s.extract (i + 1) s.size
theorem spec_turn_j0 (s t : ByteArray) (n : Int) (h0 : 0 ≤ n) (h1 : n ≤ (s.size : Int) + t.size - 1) (hs : s.size ≤ 1048576) (ht : t.size ≤ 1048576) :
    Ev (fun k => spec_TurnWay.j0 k n false s t) (if n < (s.size : Int) then (turnAt ge s n.toNat, t, true) else (s, turnAt gn t (n - s.size).toNat, true)) := by
  refine succ ?_
  simp only [spec_TurnWay.j0]
  refine neg (by simp) (bind (owBack_f s t hs ht) ?_)
  have z1 := mapB_size ge s
  have z2 := mapB_size gn t
  by_cases c : n < (s.size : Int)
  · refine pos c ?_
    rw [if_pos c]
    obtain ⟨i, rfl⟩ := Int.eq_ofNat_of_zero_le h0
    rw [wnat (by omega)]
    simp only [Int.toNat_natCast]
    exact pos (by omega) (pos (by omega) (pos (by omega) (pos (by omega) (pos (by simp only [ByteArray.size_extract]; omega) (pos (by omega) (pos (by omega) (pos (by simp only [ByteArray.size_append, ByteArray.size_extract]; omega) (now _))))))))
  · refine neg c ?_
    rw [if_neg c]
    rw [w64 (x := n - (s.size : Int)) (by omega) (by omega)]
    obtain ⟨i, hi⟩ := Int.eq_ofNat_of_zero_le (show 0 ≤ n - (s.size : Int) by omega)
    rw [hi, wnat (by omega)]
    simp only [Int.toNat_natCast]
    exact pos (by omega) (pos (by omega) (pos (by omega) (pos (by omega) (pos (by simp only [ByteArray.size_extract]; omega) (pos (by omega) (pos (by omega) (pos (by simp only [ByteArray.size_append, ByteArray.size_extract]; omega) (now _))))))))
theorem impl_turn_j0 (s t : ByteArray) (n : Int) (h0 : 0 ≤ n) (h1 : n ≤ (s.size : Int) + t.size - 1) (hs : s.size ≤ 1048576) (ht : t.size ≤ 1048576) (g : Good s t) :
    Ev (fun k => impl_TurnWay.j0 k n false s t) (if n < (s.size : Int) then (turnAt ge s n.toNat, t, true) else (s, turnAt gn t (n - s.size).toNat, true)) := by
  refine succ ?_
  simp only [impl_TurnWay.j0]
  refine neg (by simp) ?_
  have z1 := mapB_size ge s
  have z2 := mapB_size gn t
  by_cases c : n < (s.size : Int)
  · refine pos c ?_
    rw [if_pos c]
    obtain ⟨i, rfl⟩ := Int.eq_ofNat_of_zero_le h0
    rw [wnat (by omega)]
    simp only [Int.toNat_natCast]
    have e : impl_turnedSigns.f (s.extract i (i + 1)) = some ((mapB ge s).extract i (i + 1)) := by
      rw [← mapB_extract]
      exact turned_e (fun u hu => way_bytes (a := 101) (b := 119) g.1 u (mem_extract hu)) (by simp only [ByteArray.size_extract]; omega)
    refine pos (by omega) (pos (by omega) (pos (by omega) (pos (by omega) (bindSome e ?_))))
    exact pos (by simp only [ByteArray.size_extract]; omega) (pos (by omega) (pos (by simp only [ByteArray.size_append, ByteArray.size_extract]; omega) (now _)))
  · refine neg c ?_
    rw [if_neg c]
    rw [w64 (x := n - (s.size : Int)) (by omega) (by omega)]
    obtain ⟨i, hi⟩ := Int.eq_ofNat_of_zero_le (show 0 ≤ n - (s.size : Int) by omega)
    rw [hi, wnat (by omega)]
    simp only [Int.toNat_natCast]
    have e : impl_turnedSigns.f (t.extract i (i + 1)) = some ((mapB gn t).extract i (i + 1)) := by
      rw [← mapB_extract]
      exact turned_n (fun u hu => way_bytes (a := 110) (b := 115) g.2 u (mem_extract hu)) (by simp only [ByteArray.size_extract]; omega)
    refine pos (by omega) (pos (by omega) (pos (by omega) (pos (by omega) (bindSome e ?_))))
    exact pos (by simp only [ByteArray.size_extract]; omega) (pos (by omega) (pos (by simp only [ByteArray.size_append, ByteArray.size_extract]; omega) (now _)))

theorem FnExactTurnWay : laws_FnExactTurnWay.Pure := by
  intro s t n hs ht hw
  refine Ev.rounds ?_
  unfold laws_FnExactTurnWay.f laws_toWays.f
  obtain ⟨v, hv, hn⟩ := szWays_f s t hs ht
  refine bindSome hv ?_
  by_cases c : v < 0
  · exact pos c (now _)
  · refine neg c ?_
    have hn := hn c
    simp only [Option.bind_some]
    have fin : ∃ r, Ev (fun k => spec_TurnWay.f k s t n) r ∧ Ev (fun k => impl_TurnWay.f k s t n) r := by
      unfold spec_TurnWay.f impl_TurnWay.f
      have e1 : wrap64 (wrap64 ((s.size : Int) + (t.size : Int)) - 1) = (s.size : Int) + t.size - 1 := by unfold wrap64; omega
      rw [e1]
      simp only [spec_in, impl_in, Option.bind_some]
      cases hg : good s t with
      | true =>
        have g := (good_iff s t).1 hg
        by_cases c1 : 0 ≤ n ∧ n ≤ (s.size : Int) + t.size - 1
        · have e2 : (!decide (0 ≤ n ∧ n ≤ (s.size : Int) + t.size - 1)) = false := by simpa using c1
          rw [e2]
          exact ⟨_, bind (spec_owGood_f s t hs ht) (pos hg (spec_turn_j0 s t n c1.1 c1.2 hn.1 hn.2)), bind (impl_AreWays_f s t hs ht) (pos hg (impl_turn_j0 s t n c1.1 c1.2 hn.1 hn.2 g))⟩
        · have e2 : (!decide (0 ≤ n ∧ n ≤ (s.size : Int) + t.size - 1)) = true := by rw [decide_eq_false c1]; rfl
          rw [e2]
          refine ⟨(⟨#[]⟩, ⟨#[]⟩, false), bind (spec_owGood_f s t hs ht) (pos hg (succ ?_)), bind (impl_AreWays_f s t hs ht) (pos hg (succ ?_))⟩
          · simp only [spec_TurnWay.j0]; exact pos trivial (now _)
          · simp only [impl_TurnWay.j0]; exact pos trivial (now _)
      | false =>
        refine ⟨(⟨#[]⟩, ⟨#[]⟩, false), bind (spec_owGood_f s t hs ht) (neg (by simp [hg]) (succ ?_)), bind (impl_AreWays_f s t hs ht) (neg (by simp [hg]) (succ ?_))⟩
        · simp only [spec_TurnWay.j0]; exact pos trivial (now _)
        · simp only [impl_TurnWay.j0]; exact pos trivial (now _)
    obtain ⟨r, h1, h2⟩ := fin
    exact bind h1 (bind h2 (bindSome (eqWays_same _ _) (pos rfl (neg (by simp) (now _)))))

end Go.Proofs.Ytnnoeamcdbnbaaa.Pure
