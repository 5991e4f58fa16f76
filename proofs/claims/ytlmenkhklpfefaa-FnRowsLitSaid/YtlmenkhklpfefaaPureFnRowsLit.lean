/- The plain law of FnRowsLit: what the printed functions compute answers true at every input within the bounds that the print tells. -/
import Derived.Test.YtlmenkhklpfefaaMRx9
import Derived.Test.YtlmenkhklpfefaaLib
import Derived.Laws.BitsAllLaws
namespace Go.Proofs.Ytlmenkhklpfefaa.Pure
open Go.RowKit Go.Proofs.Ytlmenkhklpfefaa.MR Go.Proofs.YtlmenkhklpfefaaW.PrintWords Go.Proofs.YtlmenkhklpfefaaW.PrintLast Go.Proofs.YtlmenkhklpfefaaW.PrintMore Go.Proofs.Ytlmenkhklpfefaa.Lib
set_option linter.unusedVariables false
set_option linter.unusedSimpArgs false

theorem spec_in (a b c : Int) : spec_l1In.f a b c = some (decide (b ≤ a ∧ a ≤ c)) := by
  unfold spec_l1In.f
  by_cases h : a ≥ b
  · rw [if_pos h]; simp [show b ≤ a from h]
  · rw [if_neg h]; simp [show ¬ b ≤ a from h]
theorem impl_in (a b c : Int) : impl_within.f a b c = some (decide (b ≤ a ∧ a ≤ c)) := by
  unfold impl_within.f
  by_cases h : a ≥ b
  · rw [if_pos h]; simp [show b ≤ a from h]
  · rw [if_neg h]; simp [show ¬ b ≤ a from h]

/-- The signs of a row of lamps from one on. -/
def signsFrom (s : ByteArray) (i : Nat) : Prop := ∀ j : Nat, i ≤ j → j < s.size → bt s j = 35 ∨ bt s j = 46
theorem signsFrom_end (s : ByteArray) : signsFrom s s.size := fun j h1 h2 => by omega
theorem signsFrom_step (s : ByteArray) (i : Nat) (hi : i < s.size) (h : bt s i = 35 ∨ bt s i = 46) : signsFrom s i ↔ signsFrom s (i + 1) := by
  constructor
  · intro g j h1 h2; exact g j (by omega) h2
  · intro g j h1 h2
    by_cases e : j = i
    · subst e; exact h
    · exact g j (by omega) h2
theorem signsFrom_no (s : ByteArray) (i : Nat) (hi : i < s.size) (h1 : bt s i ≠ 35) (h2 : bt s i ≠ 46) : ¬ signsFrom s i := fun g => by
  rcases g i (Nat.le_refl _) hi with h | h <;> contradiction
/-- A row of lamps. -/
def LitRow (s : ByteArray) : Prop := (1 ≤ s.size ∧ s.size ≤ 20) ∧ signsFrom s 0
open Classical in
noncomputable def litRow (s : ByteArray) : Bool := decide (LitRow s)
open Classical in
theorem spec_rwRow_l0 (s : ByteArray) (hs : s.size ≤ 140737488351232) : ∀ i : Nat, i ≤ s.size → Ev (fun k => spec_rwRow.l0 k s i) (decide (signsFrom s i)) := by
  refine down s.size ?_ ?_
  · refine succ ?_
    simp only [spec_rwRow.l0]
    exact neg (by omega) (conv (now _) (by simp [signsFrom_end]))
  · intro i hi ih
    refine succ ?_
    simp only [spec_rwRow.l0]
    rw [wnat (by omega)]
    refine pos (by omega) (pos (by omega) ?_)
    by_cases c1 : bt s i = 35
    · exact pos c1 (conv ih (by simp [signsFrom_step s i hi (.inl c1)]))
    · refine neg c1 ?_
      by_cases c2 : bt s i = 46
      · exact pos c2 (conv ih (by simp [signsFrom_step s i hi (.inr c2)]))
      · exact neg c2 (conv (now _) (by simp [signsFrom_no s i hi c1 c2]))
open Classical in
theorem impl_IsLitRow_l0 (s : ByteArray) (hs : s.size ≤ 140737488351232) : ∀ i : Nat, i ≤ s.size → Ev (fun k => impl_IsLitRow.l0 k s s.size i) (decide (signsFrom s i) && decide (1 ≤ s.size ∧ s.size ≤ 20)) := by
  refine down s.size ?_ ?_
  · refine succ ?_
    simp only [impl_IsLitRow.l0]
    refine neg (by omega) ?_
    simp only [impl_isRowLength.f, impl_in, Option.bind_some]
    refine conv (now _) ?_
    rw [Bool.eq_iff_iff]; simp [signsFrom_end]; omega
  · intro i hi ih
    refine succ ?_
    simp only [impl_IsLitRow.l0]
    rw [wnat (by omega)]
    refine pos (by omega) (pos (by omega) (pos (by omega) ?_))
    by_cases c1 : bt s i = 35
    · exact pos c1 (conv ih (by simp [signsFrom_step s i hi (.inl c1)]))
    · refine neg c1 ?_
      by_cases c2 : bt s i = 46
      · exact pos c2 (conv ih (by simp [signsFrom_step s i hi (.inr c2)]))
      · exact neg c2 (conv (now _) (by simp [signsFrom_no s i hi c1 c2]))
open Classical in
theorem spec_rwRow_f (s : ByteArray) (hs : s.size ≤ 140737488351232) : Ev (fun k => spec_rwRow.f k s) (litRow s) := by
  simp only [spec_rwRow.f, spec_rwHouses.f, spec_in, Option.bind_some]
  by_cases h : 1 ≤ s.size ∧ s.size ≤ 20
  · refine pos (by simp; omega) (conv (spec_rwRow_l0 s hs 0 (by omega)) ?_)
    unfold litRow LitRow
    simp [h]
  · refine neg (by simp; omega) (conv (now _) ?_)
    unfold litRow LitRow
    simp [h]
open Classical in
theorem impl_IsLitRow_f (s : ByteArray) (hs : s.size ≤ 140737488351232) : Ev (fun k => impl_IsLitRow.f k s) (litRow s) := by
  unfold impl_IsLitRow.f
  refine conv (impl_IsLitRow_l0 s hs 0 (by omega)) ?_
  unfold litRow LitRow
  rw [Bool.eq_iff_iff]; simp
  constructor
  · rintro ⟨a, b⟩; exact ⟨b, a⟩
  · rintro ⟨a, b⟩; exact ⟨b, a⟩

theorem impl_allWithin_l0 (xs : List Int) (a b : Int) (hx : xs.length ≤ 35184372088832) : ∀ i : Nat, i ≤ xs.length → Ev (fun k => impl_allWithin.l0 k a b xs xs.length i) (decide (∀ x ∈ xs.drop i, a ≤ x ∧ x ≤ b)) := by
  refine down xs.length ?_ ?_
  · refine succ ?_
    simp only [impl_allWithin.l0]
    exact neg (by omega) (conv (now _) (by simp))
  · intro i hi ih
    refine succ ?_
    simp only [impl_allWithin.l0, impl_in, Option.bind_some]
    rw [wnat (by omega)]
    refine pos (by omega) (pos (by omega) (pos (by omega) ?_))
    rw [rd_lt xs i hi]
    by_cases e : a ≤ xs[i] ∧ xs[i] ≤ b
    · exact pos (by simpa using e) (conv ih (by rw [decide_eq_decide, all_drop hi]; exact ⟨fun h => ⟨e, h⟩, fun h => h.2⟩))
    · exact neg (by simpa using e) (conv (now _) (Eq.symm (decide_eq_false (by rw [all_drop hi]; exact fun h => e h.1))))
theorem impl_allWithin_f (xs : List Int) (a b : Int) (hx : xs.length ≤ 35184372088832) : Ev (fun k => impl_allWithin.f k xs a b) (decide (∀ x ∈ xs, a ≤ x ∧ x ≤ b)) :=
  impl_allWithin_l0 xs a b hx 0 (by omega)

theorem spec_ring (n : Int) (r : Bool) : spec_rwRing.f n r = some (r && decide (n > 2)) := by
  unfold spec_rwRing.f; cases r <;> simp
theorem impl_ring (n : Int) (r : Bool) : impl_isRing.f n r = some (r && decide (n > 2)) := by
  unfold impl_isRing.f; cases r <;> simp

theorem spec_abs (n : Int) (h1 : -9223372036854775808 < n) (h2 : n ≤ 9223372036854775807) : spec_l1Abs.f n = some (n.natAbs : Int) := by
  unfold spec_l1Abs.f spec_l1Most.f
  rw [w64 (by omega) (by omega)]
  by_cases h : n > -n
  · rw [if_pos h]; simp; omega
  · rw [if_neg h]; simp; omega
/-- Neighbours, of n houses. -/
def nbr (n a b : Int) (ring : Bool) : Bool := decide ((a - b).natAbs = 1) || (ring && decide (n > 2) && decide (((a - b).natAbs : Int) = n - 1))
theorem spec_next (n a b : Int) (ring : Bool) (hn : 0 ≤ n) (hn2 : n ≤ 9223372036854775807) (h1 : -9223372036854775808 < a - b) (h2 : a - b ≤ 9223372036854775807) : spec_rwNext.f n a b ring = some (nbr n a b ring) := by
  unfold spec_rwNext.f nbr
  rw [w64 (by omega) (by omega), spec_abs _ (by omega) (by omega), spec_ring]
  simp only [Option.bind_some]
  by_cases c : ((a - b).natAbs : Int) = 1
  · rw [if_pos c]; simp; omega
  · rw [if_neg c]
    have c' : ¬ (a - b).natAbs = 1 := by omega
    rw [w64 (by omega) (by omega)]
    cases ring
    · simp [c']
    · by_cases d : n > 2
      · simp only [d, c', decide_true, decide_false, Bool.and_self, Bool.true_and, Bool.false_or, if_true]
        congr 1
      · simp [d, c']

/-- Rising numbers of houses. -/
def RisesFrom (xs : List Int) (a b : Int) (i : Nat) : Prop := ∀ j : Nat, i ≤ j → (h : j < xs.length) → (a ≤ xs[j] ∧ xs[j] ≤ b) ∧ (0 < j → xs[j - 1]'(by omega) < xs[j])
theorem risesFrom_end (xs : List Int) (a b : Int) : RisesFrom xs a b xs.length := fun j h1 h2 => by omega
theorem risesFrom_step (xs : List Int) (a b : Int) (i : Nat) (hi : i < xs.length) : RisesFrom xs a b i ↔ ((a ≤ xs[i] ∧ xs[i] ≤ b) ∧ (0 < i → xs[i - 1]'(by omega) < xs[i])) ∧ RisesFrom xs a b (i + 1) := by
  constructor
  · intro g; exact ⟨g i (Nat.le_refl _) hi, fun j h1 h2 => g j (by omega) h2⟩
  · rintro ⟨g, r⟩ j h1 h2
    by_cases e : j = i
    · subst e; exact g
    · exact r j (by omega) h2
open Classical in
theorem spec_l1Rising_l0 (xs : List Int) (a b : Int) (hx : xs.length ≤ 35184372088832) : ∀ i : Nat, i ≤ xs.length → Ev (fun k => spec_l1Rising.l0 k xs a b xs xs.length i) (decide (RisesFrom xs a b i)) := by
  refine down xs.length ?_ ?_
  · refine succ ?_
    simp only [spec_l1Rising.l0]
    exact neg (by omega) (conv (now _) (by simp [risesFrom_end]))
  · intro i hi ih
    refine succ ?_
    simp only [spec_l1Rising.l0, spec_in, Option.bind_some]
    rw [wnat (by omega), wsub1 (by omega)]
    refine pos (by omega) (pos (by omega) (pos (by omega) ?_))
    rw [rd_lt xs i hi]
    by_cases e : a ≤ xs[i] ∧ xs[i] ≤ b
    · refine pos (by simpa using e) ?_
      by_cases z : (i : Int) > 0
      · refine pos z (pos (by omega) (pos (by omega) ?_))
        have ei : (i : Int) - 1 = ((i - 1 : Nat) : Int) := by omega
        rw [ei, rd_lt xs (i - 1) (by omega)]
        by_cases f : xs[i - 1] ≥ xs[i]
        · refine pos f (conv (now _) (Eq.symm (decide_eq_false ?_)))
          rw [risesFrom_step xs a b i hi]
          intro g; have := g.1.2 (by omega); omega
        · refine neg f (conv ih ?_)
          rw [decide_eq_decide, risesFrom_step xs a b i hi]
          exact ⟨fun g => ⟨⟨e, fun _ => by omega⟩, g⟩, fun g => g.2⟩
      · refine neg z (conv ih ?_)
        rw [decide_eq_decide, risesFrom_step xs a b i hi]
        exact ⟨fun g => ⟨⟨e, fun _ => by omega⟩, g⟩, fun g => g.2⟩
    · refine neg (by simpa using e) (conv (now _) (Eq.symm (decide_eq_false ?_)))
      rw [risesFrom_step xs a b i hi]
      exact fun g => e g.1.1
/-- Strictly increasing from one on. -/
def IncFrom (xs : List Int) (i : Nat) : Prop := ∀ j : Nat, i ≤ j → 0 < j → (h : j < xs.length) → xs[j - 1]'(by omega) < xs[j]
theorem incFrom_step (xs : List Int) (i : Nat) (h0 : 0 < i) (hi : i < xs.length) : IncFrom xs i ↔ (xs[i - 1]'(by omega) < xs[i]) ∧ IncFrom xs (i + 1) := by
  constructor
  · intro g; exact ⟨g i (Nat.le_refl _) h0 hi, fun j h1 h2 h3 => g j (by omega) h2 h3⟩
  · rintro ⟨g, r⟩ j h1 h2 h3
    by_cases e : j = i
    · subst e; exact g
    · exact r j (by omega) h2 h3
open Classical in
theorem impl_increasing_f (xs : List Int) (hx : xs.length ≤ 35184372088832) : Ev (fun k => impl_increasing.f k xs) (decide (IncFrom xs 1)) := by
  have key : ∀ i : Nat, i ≤ xs.length → 1 ≤ i → Ev (fun k => impl_increasing.l0 k xs i) (decide (IncFrom xs i)) := by
    refine down xs.length ?_ ?_
    · intro _
      refine succ ?_
      simp only [impl_increasing.l0]
      exact neg (by omega) (conv (now _) (Eq.symm (decide_eq_true (fun j h1 h2 h3 => by omega))))
    · intro i hi ih h0
      refine succ ?_
      simp only [impl_increasing.l0]
      rw [wnat (by omega), wsub1 (by omega)]
      refine pos (by omega) (pos (by omega) (pos (by omega) (pos (by omega) ?_)))
      have ei : (i : Int) - 1 = ((i - 1 : Nat) : Int) := by omega
      rw [ei, rd_lt xs (i - 1) (by omega), rd_lt xs i hi]
      by_cases f : xs[i - 1] ≥ xs[i]
      · refine pos f (conv (now _) (Eq.symm (decide_eq_false ?_)))
        rw [incFrom_step xs i h0 hi]
        intro g; have := g.1; omega
      · refine neg f (conv (ih (by omega)) ?_)
        rw [decide_eq_decide, incFrom_step xs i h0 hi]
        exact ⟨fun g => ⟨by omega, g⟩, fun g => g.2⟩
  rcases Nat.lt_or_ge 0 xs.length with h | h
  · exact key 1 (by omega) (by omega)
  · unfold impl_increasing.f
    refine succ ?_
    simp only [impl_increasing.l0]
    exact neg (by omega) (conv (now _) (Eq.symm (decide_eq_true (fun j h1 h2 h3 => by omega))))
theorem rises_iff (xs : List Int) (a b : Int) : RisesFrom xs a b 0 ↔ IncFrom xs 1 ∧ ∀ x ∈ xs, a ≤ x ∧ x ≤ b := by
  constructor
  · intro g
    refine ⟨fun j h1 h2 h3 => (g j (by omega) h3).2 h2, fun x hx => ?_⟩
    obtain ⟨j, hj, rfl⟩ := List.getElem_of_mem hx
    exact (g j (by omega) hj).1
  · rintro ⟨g, r⟩ j h1 h2
    exact ⟨r _ (List.getElem_mem h2), fun h0 => g j (by omega) h0 h2⟩
theorem inc_lt {xs : List Int} (h : IncFrom xs 1) : ∀ j i : Nat, (hij : i < j) → (hj : j < xs.length) → xs[i]'(by omega) < xs[j] := by
  intro j
  induction j with
  | zero => intro i h1; omega
  | succ j ih =>
    intro i h1 hj
    have a := h (j + 1) (by omega) (by omega) hj
    simp only [Nat.add_sub_cancel] at a
    by_cases e : i = j
    · subst e; exact a
    · have := ih i (by omega) (by omega); omega
open Classical in
theorem areHouses_f (xs : List Int) (n : Nat) (hn : n ≤ 1048576) (hx : xs.length ≤ 35184372088832) : Ev (fun k => impl_areHouses.f k xs n) (decide (RisesFrom xs 0 ((n : Int) - 1) 0)) := by
  unfold impl_areHouses.f
  rw [wsub1 (by omega)]
  refine bind (impl_increasing_f xs hx) ?_
  by_cases c : IncFrom xs 1
  · refine pos (by simpa using c) ?_
    refine conv (bind (impl_allWithin_f xs 0 ((n : Int) - 1) hx) (now _)) ?_
    rw [decide_eq_decide, rises_iff]
    exact ⟨fun g => ⟨c, g⟩, fun g => g.2⟩
  · refine neg (by simpa using c) (conv (now _) (Eq.symm (decide_eq_false ?_)))
    rw [rises_iff]
    exact fun g => c g.1

/-- A lamp, or none. -/
def lp (L : List Nat) (j : Nat) : Nat := if j ∈ L then 1 else 0
theorem lp_lt (L : List Nat) (j : Nat) : lp L j < 2 := by unfold lp; split <;> omega
def xv (before : Nat) (L : List Nat) : Nat → Nat
  | 0 => before
  | j + 1 => lp L j
/-- The least number of lamps of some lists, how many have it. -/
def ms (S : List (List Nat)) : Option (Nat × Nat) := S.foldr (fun p a => impl_rowLamps.merge (some (p.length, 1)) a) none
theorem ms_append (S S' : List (List Nat)) : ms (S ++ S') = impl_rowLamps.merge (ms S) (ms S') := by
  induction S with
  | nil => rfl
  | cons p S ih =>
    show impl_rowLamps.merge _ (ms (S ++ S')) = _
    rw [ih, ← impl_rowLamps.merge_assoc]
    rfl
theorem merge_shift (a b : Option (Nat × Nat)) : (impl_rowLamps.merge a b).map (fun r => (r.1 + 1, r.2)) = impl_rowLamps.merge (a.map fun r => (r.1 + 1, r.2)) (b.map fun r => (r.1 + 1, r.2)) := by
  cases a with
  | none => rfl
  | some a =>
    cases b with
    | none => rfl
    | some b =>
      rcases Nat.lt_trichotomy a.1 b.1 with h | h | h
      · rw [impl_rowLamps.m_lt h]
        exact (impl_rowLamps.m_lt (a := (a.1 + 1, a.2)) (b := (b.1 + 1, b.2)) (Nat.succ_lt_succ h)).symm
      · rw [impl_rowLamps.m_eq h.symm]
        exact (impl_rowLamps.m_eq (a := (a.1 + 1, a.2)) (b := (b.1 + 1, b.2)) (by show b.1 + 1 = a.1 + 1; omega)).symm
      · rw [impl_rowLamps.m_gt h]
        exact (impl_rowLamps.m_gt (a := (a.1 + 1, a.2)) (b := (b.1 + 1, b.2)) (Nat.succ_lt_succ h)).symm
theorem ms_snoc (S : List (List Nat)) (i : Nat) : ms (S.map (· ++ [i])) = (ms S).map (fun r => (r.1 + 1, r.2)) := by
  induction S with
  | nil => rfl
  | cons p S ih =>
    show impl_rowLamps.merge (some ((p ++ [i]).length, 1)) (ms (S.map (· ++ [i]))) = _
    rw [ih]
    show _ = (impl_rowLamps.merge (some (p.length, 1)) (ms S)).map _
    rw [merge_shift]
    simp
def cn (S : List (List Nat)) (k : Nat) : Nat := (S.filter (fun p => decide (p.length = k))).length
theorem cn_cons (p : List Nat) (S : List (List Nat)) (k : Nat) : cn (p :: S) k = cn S k + if p.length = k then 1 else 0 := by
  unfold cn
  rw [List.filter_cons]
  by_cases h : p.length = k
  · simp [h]
  · simp [h]
theorem cn_zero {S : List (List Nat)} {k : Nat} (h : ∀ p ∈ S, p.length ≠ k) : cn S k = 0 := by
  unfold cn
  rw [List.length_eq_zero_iff, List.filter_eq_nil_iff]
  intro p hp
  simpa using h p hp
theorem ms_none {S : List (List Nat)} (h : ms S = none) : S = [] := by
  cases S with
  | nil => rfl
  | cons p S =>
    have h : impl_rowLamps.merge (some (p.length, 1)) (ms S) = none := h
    cases q : ms S with
    | none => rw [q] at h; cases h
    | some r =>
      rw [q] at h
      unfold impl_rowLamps.merge at h
      simp only at h
      split at h
      · cases h
      · split at h <;> cases h
theorem ms_some : ∀ {S : List (List Nat)} {k c : Nat}, ms S = some (k, c) → (∃ p ∈ S, p.length = k) ∧ (∀ p ∈ S, k ≤ p.length) ∧ c = cn S k ∧ 1 ≤ c
  | [], k, c, h => by cases h
  | p :: S, k, c, h => by
    have h : impl_rowLamps.merge (some (p.length, 1)) (ms S) = some (k, c) := h
    cases q : ms S with
    | none =>
      rw [q] at h
      have h : some (p.length, 1) = some (k, c) := h
      obtain ⟨rfl, rfl⟩ := Prod.mk.inj (Option.some.inj h)
      obtain rfl := ms_none q
      exact ⟨⟨p, by simp, rfl⟩, fun r hr => by simp at hr; subst hr; exact Nat.le_refl _, by rw [cn_cons]; simp [cn], Nat.le_refl _⟩
    | some r =>
      obtain ⟨k', c'⟩ := r
      obtain ⟨⟨u, hu, hul⟩, hall, hc, hc1⟩ := ms_some q
      rw [q] at h
      rcases Nat.lt_trichotomy p.length k' with g | g | g
      · rw [impl_rowLamps.m_lt (show (p.length, 1).1 < (k', c').1 from g)] at h
        obtain ⟨rfl, rfl⟩ := Prod.mk.inj (Option.some.inj h)
        refine ⟨⟨p, by simp, rfl⟩, fun r hr => ?_, ?_, Nat.le_refl _⟩
        · rcases List.mem_cons.1 hr with rfl | hr
          · exact Nat.le_refl _
          · have := hall r hr; omega
        · rw [cn_cons, if_pos rfl, cn_zero (fun r hr => by have := hall r hr; omega)]
      · rw [impl_rowLamps.m_eq (show (k', c').1 = (p.length, 1).1 from g.symm)] at h
        obtain ⟨h1, h2⟩ := Prod.mk.inj (Option.some.inj h)
        have h1 : p.length = k := h1
        have h2 : 1 + c' = c := h2
        refine ⟨⟨p, by simp, h1⟩, fun r hr => ?_, ?_, by omega⟩
        · rcases List.mem_cons.1 hr with rfl | hr
          · omega
          · have := hall r hr; omega
        · rw [cn_cons, if_pos h1, ← h2, hc, show k' = k by omega]; omega
      · rw [impl_rowLamps.m_gt (show (k', c').1 < (p.length, 1).1 from g)] at h
        obtain ⟨rfl, rfl⟩ := Prod.mk.inj (Option.some.inj h)
        refine ⟨⟨u, by simp [hu], hul⟩, fun r hr => ?_, ?_, hc1⟩
        · rcases List.mem_cons.1 hr with rfl | hr
          · omega
          · exact hall r hr
        · rw [cn_cons, if_neg (by omega)]; simpa using hc
theorem cn_le (S : List (List Nat)) (k : Nat) : cn S k ≤ S.length := List.length_filter_le _ _
/-- The lists behind a table. -/
def P0 (fixed : List Int) (first before : Nat) : Nat × Nat → List (List Nat) := fun p => if rd fixed 0 ≠ 1 - (first : Int) ∧ p = (before, first) then [if first = 1 then [0] else []] else []
def extP (row : ByteArray) (fixed : List Int) (behind last : Int) (n i : Nat) (S : List (List Nat)) (p : Nat × Nat) (x : Nat) : List (List Nat) := if (impl_rowLamps.sk1 fixed behind last n i p.2 x || impl_rowLamps.sk2 row i p.1 p.2 x) = true then [] else if i + 1 < n ∧ x = 1 then S.map (· ++ [i + 1]) else S
def stepP (row : ByteArray) (fixed : List Int) (behind last : Int) (n i : Nat) (P : Nat × Nat → List (List Nat)) : Nat × Nat → List (List Nat) := fun q => extP row fixed behind last n i (P (0, q.1)) (0, q.1) q.2 ++ extP row fixed behind last n i (P (1, q.1)) (1, q.1) q.2
def goP (row : ByteArray) (fixed : List Int) (behind last : Int) (n : Nat) : Nat → Nat → (Nat × Nat → List (List Nat)) → Nat × Nat → List (List Nat)
  | 0, _, P => P
  | r + 1, i, P => goP row fixed behind last n r (i + 1) (stepP row fixed behind last n i P)
theorem goP_succ (row : ByteArray) (fixed : List Int) (behind last : Int) (n : Nat) : ∀ (r i : Nat) (P : Nat × Nat → List (List Nat)), goP row fixed behind last n (r + 1) i P = stepP row fixed behind last n (i + r) (goP row fixed behind last n r i P)
  | 0, i, P => rfl
  | r + 1, i, P => by
    show goP row fixed behind last n (r + 1) (i + 1) (stepP row fixed behind last n i P) = _
    rw [goP_succ row fixed behind last n r (i + 1)]
    rw [show i + 1 + r = i + (r + 1) by omega]
    rfl
def Rel (T : impl_rowLamps.Tab) (P : Nat × Nat → List (List Nat)) : Prop := ∀ p, impl_rowLamps.Is p → T p = ms (P p)
theorem con_ms {row : ByteArray} {fixed : List Int} {behind last : Int} {n i : Nat} {T : impl_rowLamps.Tab} {P : Nat × Nat → List (List Nat)} (h : Rel T P) (p : Nat × Nat) (hp : impl_rowLamps.Is p) (x : Nat) (hx : x < 2) : impl_rowLamps.con row fixed behind last n i T p x = ms (extP row fixed behind last n i (P p) p x) := by
  unfold impl_rowLamps.con extP
  split
  · rfl
  · rw [h p hp]
    by_cases c : i + 1 < n ∧ x = 1
    · rw [if_pos c, ms_snoc, if_pos c.1, c.2]
    · rw [if_neg c]
      have : (if i + 1 < n then x else 0) = 0 := by
        split
        · rename_i h1
          have : x ≠ 1 := fun e => c ⟨h1, e⟩
          omega
        · rfl
      rw [this]
      cases ms (P p) <;> rfl
theorem step_rel {row : ByteArray} {fixed : List Int} {behind last : Int} {n i : Nat} {T : impl_rowLamps.Tab} {P : Nat × Nat → List (List Nat)} (h : Rel T P) : Rel (impl_rowLamps.stepT (impl_rowLamps.con row fixed behind last n i T)) (stepP row fixed behind last n i P) := by
  intro q hq
  unfold impl_rowLamps.stepT stepP
  rw [ms_append, con_ms h (0, q.1) ⟨by show 0 < 2; omega, hq.1⟩ _ hq.2, con_ms h (1, q.1) ⟨by show 1 < 2; omega, hq.1⟩ _ hq.2]
def Bnd (i : Nat) (P : Nat × Nat → List (List Nat)) : Prop := ∀ p, impl_rowLamps.Is p → (P p).length ≤ 2 ^ i ∧ ∀ L ∈ P p, L.length ≤ i + 1
theorem ext_bnd {row : ByteArray} {fixed : List Int} {behind last : Int} {n i : Nat} {S : List (List Nat)} {m : Nat} (h : S.length ≤ m ∧ ∀ L ∈ S, L.length ≤ i + 1) (p : Nat × Nat) (x : Nat) : (extP row fixed behind last n i S p x).length ≤ m ∧ ∀ L ∈ extP row fixed behind last n i S p x, L.length ≤ i + 1 + 1 := by
  unfold extP
  split
  · exact ⟨Nat.zero_le _, fun L hL => by cases hL⟩
  · split
    · refine ⟨by simpa using h.1, fun L hL => ?_⟩
      obtain ⟨z, hz, rfl⟩ := List.mem_map.1 hL
      have := h.2 z hz
      simp
      omega
    · exact ⟨h.1, fun L hL => by have := h.2 L hL; omega⟩
theorem step_bnd {row : ByteArray} {fixed : List Int} {behind last : Int} {n i : Nat} {P : Nat × Nat → List (List Nat)} (h : Bnd i P) : Bnd (i + 1) (stepP row fixed behind last n i P) := by
  intro q hq
  have h0 := ext_bnd (row := row) (fixed := fixed) (behind := behind) (last := last) (n := n) (h (0, q.1) ⟨by show 0 < 2; omega, hq.1⟩) (0, q.1) q.2
  have h1 := ext_bnd (row := row) (fixed := fixed) (behind := behind) (last := last) (n := n) (h (1, q.1) ⟨by show 1 < 2; omega, hq.1⟩) (1, q.1) q.2
  unfold stepP
  refine ⟨?_, fun L hL => ?_⟩
  · rw [List.length_append, Nat.pow_succ]
    omega
  · exact (List.mem_append.1 hL).elim (h0.2 L) (h1.2 L)
theorem fit_of {i : Nat} (hi : i ≤ 20) {T : impl_rowLamps.Tab} {P : Nat × Nat → List (List Nat)} (h : Rel T P) (hb : Bnd i P) : impl_rowLamps.fit T = true := by
  have one : ∀ p, impl_rowLamps.Is p → impl_rowLamps.fit1 (T p) = true := fun p hp => by
    rw [h p hp]
    cases q : ms (P p) with
    | none => rfl
    | some r =>
      obtain ⟨k, c⟩ := r
      obtain ⟨⟨u, hu, hul⟩, -, hc, hc1⟩ := ms_some q
      have h1 := (hb p hp).2 u hu
      have h2 := cn_le (P p) k
      have h3 := (hb p hp).1
      have h4 : 2 ^ i ≤ 2 ^ 20 := Nat.pow_le_pow_right (by omega) hi
      unfold impl_rowLamps.fit1
      simp only [decide_eq_true_eq]
      have h5 : (2 : Nat) ^ 20 = 1048576 := by decide
      omega
  unfold impl_rowLamps.fit
  rw [one (0, 0) ⟨by show 0 < 2; omega, by show 0 < 2; omega⟩, one (0, 1) ⟨by show 0 < 2; omega, by show 1 < 2; omega⟩, one (1, 0) ⟨by show 1 < 2; omega, by show 0 < 2; omega⟩, one (1, 1) ⟨by show 1 < 2; omega, by show 1 < 2; omega⟩]
  rfl
theorem go_some (row : ByteArray) (fixed : List Int) (behind last : Int) (n : Nat) : ∀ (r i : Nat) (T : impl_rowLamps.Tab) (P : Nat × Nat → List (List Nat)), i + r ≤ 20 → Rel T P → Bnd i P → ∃ U, impl_rowLamps.go row fixed behind last n r i T = some U ∧ Rel U (goP row fixed behind last n r i P)
  | 0, i, T, P, hi, h, hb => ⟨T, by unfold impl_rowLamps.go; rw [if_pos (fit_of (by omega) h hb)], h⟩
  | r + 1, i, T, P, hi, h, hb => by
    obtain ⟨U, h1, h2⟩ := go_some row fixed behind last n r (i + 1) _ _ (by omega) (step_rel (row := row) (fixed := fixed) (behind := behind) (last := last) (n := n) (i := i) h) (step_bnd (row := row) (fixed := fixed) (behind := behind) (last := last) (n := n) hb)
    exact ⟨U, by unfold impl_rowLamps.go; rw [if_pos (fit_of (by omega) h hb)]; exact h1, h2⟩
def finP (P : Nat × Nat → List (List Nat)) : List (List Nat) := (P (0, 0) ++ P (0, 1)) ++ (P (1, 0) ++ P (1, 1))
/-- All lists that a row's search goes over. -/
def Q (row : ByteArray) (fixed : List Int) (first before : Nat) (behind last : Int) : List (List Nat) := finP (goP row fixed behind last row.size row.size 0 (P0 fixed first before))
theorem val_some (row : ByteArray) (fixed : List Int) (first before : Nat) (behind last : Int) (hf : first < 2) (hn : row.size ≤ 20) : impl_rowLamps.val row fixed first before behind last = some (impl_rowLamps.out (ms (Q row fixed first before behind last))) := by
  have h0 : Rel (impl_rowLamps.T0 fixed first before) (P0 fixed first before) := fun p hp => by
    unfold impl_rowLamps.T0 P0
    split
    · have c : first = 0 ∨ first = 1 := by omega
      rcases c with rfl | rfl <;> rfl
    · rfl
  have hb : Bnd 0 (P0 fixed first before) := fun p hp => by
    unfold P0
    split
    · refine ⟨by simp, fun L hL => ?_⟩
      simp at hL
      subst hL
      split <;> simp
    · exact ⟨by simp, fun L hL => by cases hL⟩
  obtain ⟨U, h1, h2⟩ := go_some row fixed behind last row.size row.size 0 _ _ (by omega) h0 hb
  unfold impl_rowLamps.val
  rw [h1]
  show some (impl_rowLamps.out (impl_rowLamps.fin U (fun _ => true))) = _
  have e : impl_rowLamps.fin U (fun _ => true) = ms (Q row fixed first before behind last) := by
    unfold impl_rowLamps.fin Q finP
    simp only [if_true]
    rw [ms_append, ms_append, ms_append, h2 (0, 0) ⟨by show 0 < 2; omega, by show 0 < 2; omega⟩, h2 (0, 1) ⟨by show 0 < 2; omega, by show 1 < 2; omega⟩, h2 (1, 0) ⟨by show 1 < 2; omega, by show 0 < 2; omega⟩, h2 (1, 1) ⟨by show 1 < 2; omega, by show 1 < 2; omega⟩]
  rw [e]

theorem inc_cases {L : List Nat} {i : Nat} (h : L.Pairwise (· < ·)) (hl : ∀ a ∈ L, a ≤ i + 1) : (∀ a ∈ L, a ≤ i) ∨ ∃ L', L = L' ++ [i + 1] ∧ L'.Pairwise (· < ·) ∧ ∀ a ∈ L', a ≤ i := by
  rcases List.eq_nil_or_concat L with rfl | ⟨L', a, rfl⟩
  · exact .inl (fun a ha => by cases ha)
  · rw [List.concat_eq_append] at h hl ⊢
    obtain ⟨h1, -, h3⟩ := List.pairwise_append.1 h
    have h3 : ∀ b ∈ L', b < a := fun b hb => h3 b hb a (by simp)
    have ha := hl a (by simp)
    by_cases e : a = i + 1
    · subst e
      exact .inr ⟨L', rfl, h1, fun b hb => by have := h3 b hb; omega⟩
    · refine .inl (fun b hb => ?_)
      rcases List.mem_append.1 hb with hb | hb
      · have := h3 b hb; omega
      · simp at hb; omega
theorem inc_zero {L : List Nat} (h : L.Pairwise (· < ·)) (hl : ∀ a ∈ L, a ≤ 0) : L = [] ∨ L = [0] := by
  cases L with
  | nil => exact .inl rfl
  | cons a t =>
    have ha := hl a (by simp)
    cases t with
    | nil => right; simp; omega
    | cons b u =>
      have hb := hl b (by simp)
      have := (List.pairwise_cons.1 h).1 b (by simp)
      omega
theorem lp_snoc_ne (L : List Nat) {i j : Nat} (h : j ≠ i) : lp (L ++ [i]) j = lp L j := by
  unfold lp
  simp [h]
theorem lp_snoc (L : List Nat) (i : Nat) : lp (L ++ [i]) i = 1 := by simp [lp]
theorem lp_out {L : List Nat} {i j : Nat} (h : ∀ a ∈ L, a ≤ i) (hj : i < j) : lp L j = 0 := by
  unfold lp
  rw [if_neg (fun z => by have := h j z; omega)]
theorem lp_one {L : List Nat} {j : Nat} : lp L j = 1 ↔ j ∈ L := by
  unfold lp
  split <;> simp_all
theorem xv_snoc (be : Nat) (L : List Nat) {i j : Nat} (h : j < i + 1) : xv be (L ++ [i]) j = xv be L j := by
  cases j with
  | zero => rfl
  | succ j => exact lp_snoc_ne L (by omega)
theorem xv_lt {be : Nat} (hb : be < 2) (L : List Nat) (j : Nat) : xv be L j < 2 := by
  cases j with
  | zero => exact hb
  | succ j => exact lp_lt L j
/-- A list of lamps, up to a house. -/
structure Cd (row : ByteArray) (fixed : List Int) (first before i b o : Nat) (L : List Nat) : Prop where
  inc : L.Pairwise (· < ·)
  le : ∀ a ∈ L, a ≤ i
  hb : xv before L i = b
  ho : xv before L (i + 1) = o
  hf : lp L 0 = first
  fx : ∀ j : Nat, j ≤ i → rd fixed (j : Int) ≠ 1 - (lp L j : Int)
  lt : ∀ j : Nat, j < i → bt row (j : Int) = 35 → xv before L j + xv before L (j + 1) + xv before L (j + 2) ≠ 0
theorem mem_ext {row : ByteArray} {fixed : List Int} {behind last : Int} {n i : Nat} {S : List (List Nat)} {p : Nat × Nat} {x : Nat} {L : List Nat} : L ∈ extP row fixed behind last n i S p x ↔ (impl_rowLamps.sk1 fixed behind last n i p.2 x = false ∧ impl_rowLamps.sk2 row i p.1 p.2 x = false) ∧ ∃ L' ∈ S, L = if i + 1 < n ∧ x = 1 then L' ++ [i + 1] else L' := by
  unfold extP
  by_cases h : (impl_rowLamps.sk1 fixed behind last n i p.2 x || impl_rowLamps.sk2 row i p.1 p.2 x) = true
  · rw [if_pos h]
    constructor
    · intro z; cases z
    · rintro ⟨⟨h1, h2⟩, -⟩
      rw [h1, h2] at h
      cases h
  · rw [if_neg h]
    have h' := Bool.or_eq_false_iff.1 (by simpa using h)
    by_cases c : i + 1 < n ∧ x = 1
    · rw [if_pos c]
      simp only [if_pos c, List.mem_map]
      exact ⟨fun ⟨z, hz, e⟩ => ⟨h', z, hz, e.symm⟩, fun ⟨_, z, hz, e⟩ => ⟨z, hz, e.symm⟩⟩
    · rw [if_neg c]
      simp only [if_neg c]
      exact ⟨fun z => ⟨h', L, z, rfl⟩, fun ⟨_, z, hz, e⟩ => e ▸ hz⟩
theorem two_or {n : Nat} (h : n < 2) : n = 0 ∨ n = 1 := by omega
theorem mem_step {row : ByteArray} {fixed : List Int} {behind last : Int} {n i : Nat} {P : Nat × Nat → List (List Nat)} {q : Nat × Nat} {L : List Nat} : L ∈ stepP row fixed behind last n i P q ↔ ∃ b, b < 2 ∧ L ∈ extP row fixed behind last n i (P (b, q.1)) (b, q.1) q.2 := by
  unfold stepP
  rw [List.mem_append]
  constructor
  · rintro (h | h)
    · exact ⟨0, by omega, h⟩
    · exact ⟨1, by omega, h⟩
  · rintro ⟨b, hb, h⟩
    rcases two_or hb with rfl | rfl
    · exact .inl h
    · exact .inr h
theorem mem_P (row : ByteArray) (fixed : List Int) (behind last : Int) (n first before : Nat) (hf : first < 2) (hb : before < 2) : ∀ (i : Nat), i < n → ∀ q, impl_rowLamps.Is q → ∀ L, L ∈ goP row fixed behind last n i 0 (P0 fixed first before) q ↔ Cd row fixed first before i q.1 q.2 L
  | 0, _, q, hq, L => by
    show L ∈ P0 fixed first before q ↔ _
    unfold P0
    have hlp : lp (if first = 1 then [0] else []) 0 = first := by
      rcases two_or hf with rfl | rfl <;> rfl
    constructor
    · intro h
      by_cases c : rd fixed 0 ≠ 1 - (first : Int) ∧ q = (before, first)
      · rw [if_pos c] at h
        obtain ⟨c1, rfl⟩ := c
        simp at h
        subst h
        refine ⟨by split <;> simp, fun a ha => by split at ha <;> simp_all, rfl, hlp, hlp, fun j hj => ?_, fun j hj => by omega⟩
        obtain rfl : j = 0 := by omega
        rw [hlp]
        exact c1
      · rw [if_neg c] at h
        cases h
    · intro h
      have hfx := h.fx 0 (Nat.le_refl _)
      rw [h.hf] at hfx
      have hqe : q = (before, first) := Prod.ext h.hb.symm (h.ho.symm.trans h.hf)
      rw [if_pos ⟨hfx, hqe⟩]
      have hh := h.hf
      rcases inc_zero h.inc h.le with rfl | rfl
      · have e : first = 0 := hh.symm
        subst e
        simp
      · have e : first = 1 := hh.symm
        subst e
        simp
  | i + 1, hi, q, hq, L => by
    have ih := mem_P row fixed behind last n first before hf hb i (by omega)
    rw [goP_succ, Nat.zero_add, mem_step]
    have s1 : ∀ o x, impl_rowLamps.sk1 fixed behind last n i o x = decide (rd fixed ((i : Int) + 1) = 1 - (x : Int)) := fun o x => by
      unfold impl_rowLamps.sk1
      rw [if_neg (by omega)]
    constructor
    · rintro ⟨b, hb2, h⟩
      obtain ⟨⟨k1, k2⟩, L', hL', rfl⟩ := mem_ext.1 h
      have hc := (ih (b, q.1) ⟨hb2, hq.1⟩ L').1 hL'
      rw [s1] at k1
      have k1 := of_decide_eq_false k1
      have k2 : bt row (i : Int) = 35 → b + q.1 + q.2 ≠ 0 := fun h1 h2 => by
        unfold impl_rowLamps.sk2 at k2
        simp only at k2
        rw [decide_eq_true h1, decide_eq_true h2] at k2
        cases k2
      have hcb : xv before L' i = b := hc.hb
      have hco : xv before L' (i + 1) = q.1 := hc.ho
      rcases two_or hq.2 with hx | hx
      · rw [if_neg (by omega)]
        have h0 : lp L' (i + 1) = 0 := lp_out hc.le (by omega)
        refine ⟨hc.inc, fun a ha => Nat.le_succ_of_le (hc.le a ha), hc.ho, by rw [hx]; exact h0, hc.hf, fun j hj => ?_, fun j hj hn => ?_⟩
        · by_cases e : j = i + 1
          · subst e
            rw [h0]
            rw [hx] at k1
            simpa using k1
          · exact hc.fx j (by omega)
        · by_cases e : j = i
          · subst e
            have := k2 hn
            rw [hcb, hco]
            show b + q.1 + lp L' (j + 1) ≠ 0
            rw [h0]
            omega
          · exact hc.lt j (by omega) hn
      · rw [if_pos ⟨hi, hx⟩]
        have h1 : lp (L' ++ [i + 1]) (i + 1) = 1 := lp_snoc _ _
        refine ⟨List.pairwise_append.2 ⟨hc.inc, by simp, fun a ha c hc' => by simp at hc'; have := hc.le a ha; omega⟩, fun a ha => ?_, by rw [xv_snoc _ _ (by omega)]; exact hc.ho, by rw [hx]; exact h1, by rw [lp_snoc_ne _ (by omega)]; exact hc.hf, fun j hj => ?_, fun j hj hn => ?_⟩
        · rcases List.mem_append.1 ha with ha | ha
          · exact Nat.le_succ_of_le (hc.le a ha)
          · simp at ha; omega
        · by_cases e : j = i + 1
          · subst e
            rw [h1]
            rw [hx] at k1
            simpa using k1
          · rw [lp_snoc_ne _ e]
            exact hc.fx j (by omega)
        · by_cases e : j = i
          · subst e
            show xv before _ j + xv before _ (j + 1) + lp _ (j + 1) ≠ 0
            rw [h1]
            omega
          · rw [xv_snoc _ _ (by omega), xv_snoc _ _ (by omega), xv_snoc _ _ (by omega)]
            exact hc.lt j (by omega) hn
    · intro hc
      have hxo : xv before L (i + 1) = q.1 := hc.hb
      have hxx : lp L (i + 1) = q.2 := hc.ho
      refine ⟨xv before L i, xv_lt hb _ _, mem_ext.2 ⟨⟨?_, ?_⟩, ?_⟩⟩
      · rw [s1]
        refine decide_eq_false (fun z => hc.fx (i + 1) (Nat.le_refl _) ?_)
        rw [hxx]
        simpa using z
      · show impl_rowLamps.sk2 row i (xv before L i) q.1 q.2 = false
        unfold impl_rowLamps.sk2
        by_cases hn : bt row (i : Int) = 35
        · have := hc.lt i (by omega) hn
          rw [decide_eq_false (p := xv before L i + q.1 + q.2 = 0) (fun z => this (by rw [hxo]; show _ + lp L (i + 1) = 0; rw [hxx]; exact z)), Bool.and_false]
        · rw [decide_eq_false hn, Bool.false_and]
      · rcases inc_cases hc.inc hc.le with hle | ⟨L', rfl, hinc, hle⟩
        · have hx0 : q.2 = 0 := by rw [← hxx]; exact lp_out hle (by omega)
          refine ⟨L, (ih (_, q.1) ⟨xv_lt hb _ _, hq.1⟩ L).2 ⟨hc.inc, hle, rfl, hxo, hc.hf, fun j hj => hc.fx j (by omega), fun j hj => hc.lt j (by omega)⟩, ?_⟩
          rw [if_neg (by omega)]
        · have hx1 : q.2 = 1 := by rw [← hxx]; exact lp_snoc _ _
          refine ⟨L', (ih (_, q.1) ⟨xv_lt hb _ _, hq.1⟩ L').2 ⟨hinc, hle, (xv_snoc _ _ (by omega)).symm, ?_, ?_, fun j hj => ?_, fun j hj hn => ?_⟩, ?_⟩
          · rw [← hxo]; exact (xv_snoc _ _ (by omega)).symm
          · rw [← hc.hf]; exact (lp_snoc_ne _ (by omega)).symm
          · have := hc.fx j (by omega)
            rwa [lp_snoc_ne _ (by omega)] at this
          · have := hc.lt j (by omega) hn
            rwa [xv_snoc _ _ (by omega), xv_snoc _ _ (by omega), xv_snoc _ _ (by omega)] at this
          · rw [if_pos ⟨hi, hx1⟩]
/-- A list of lamps as a row's search wants it. -/
structure Ful (row : ByteArray) (fixed : List Int) (first before behind : Nat) (last : Int) (L : List Nat) : Prop where
  inc : L.Pairwise (· < ·)
  le : ∀ a ∈ L, a < row.size
  hf : lp L 0 = first
  fx : ∀ j : Nat, j < row.size → rd fixed (j : Int) ≠ 1 - (lp L j : Int)
  la : 0 ≤ last → (lp L (row.size - 1) : Int) = last
  lt : ∀ j : Nat, j < row.size → bt row (j : Int) = 35 → xv before L j + lp L j + (if j + 1 = row.size then behind else lp L (j + 1)) ≠ 0
theorem mem_last (row : ByteArray) (fixed : List Int) (last : Int) (first before behind : Nat) (hf : first < 2) (hb : before < 2) (hn : 1 ≤ row.size) (q : Nat × Nat) (hq : impl_rowLamps.Is q) (L : List Nat) : L ∈ goP row fixed (behind : Int) last row.size row.size 0 (P0 fixed first before) q ↔ Ful row fixed first before behind last L ∧ q = (lp L (row.size - 1), behind) := by
  obtain ⟨m, hm⟩ : ∃ m, row.size = m + 1 := ⟨row.size - 1, by omega⟩
  have hP := mem_P row fixed (behind : Int) last row.size first before hf hb m (by omega)
  have e : goP row fixed (behind : Int) last row.size row.size 0 (P0 fixed first before) q = stepP row fixed (behind : Int) last row.size m (goP row fixed (behind : Int) last row.size m 0 (P0 fixed first before)) q := by
    have z := goP_succ row fixed (behind : Int) last row.size m 0 (P0 fixed first before)
    rw [Nat.zero_add, ← hm] at z
    rw [z]
  rw [e, mem_step]
  have s1 : ∀ o x, impl_rowLamps.sk1 fixed (behind : Int) last row.size m o x = (decide ((x : Int) ≠ (behind : Int)) || (decide (0 ≤ last) && decide ((o : Int) ≠ last))) := fun o x => by
    unfold impl_rowLamps.sk1
    rw [if_pos hm.symm]
  have hms : row.size - 1 = m := by omega
  rw [hms]
  constructor
  · rintro ⟨b, hb2, h⟩
    obtain ⟨⟨k1, k2⟩, L', hL', hLL⟩ := mem_ext.1 h
    rw [if_neg (by omega)] at hLL
    subst hLL
    have hc := (hP (b, q.1) ⟨hb2, hq.1⟩ L).1 hL'
    rw [s1] at k1
    obtain ⟨k3, k4⟩ := Bool.or_eq_false_iff.1 k1
    have hqb : q.2 = behind := by
      have := of_decide_eq_false k3
      omega
    have hco : lp L m = q.1 := hc.ho
    have hcb : xv before L m = b := hc.hb
    refine ⟨⟨hc.inc, fun a ha => by have := hc.le a ha; omega, hc.hf, fun j hj => hc.fx j (by omega), fun hl => ?_, fun j hj hn2 => ?_⟩, Prod.ext hco.symm hqb⟩
    · rw [hms, hco]
      rw [decide_eq_true hl, Bool.true_and] at k4
      have := of_decide_eq_false k4
      simpa using this
    · by_cases e : j = m
      · subst e
        rw [if_pos hm.symm, hco, hcb]
        intro z
        unfold impl_rowLamps.sk2 at k2
        simp only at k2
        rw [decide_eq_true hn2, decide_eq_true (show b + q.1 + q.2 = 0 by rw [hqb]; exact z)] at k2
        cases k2
      · rw [if_neg (by omega)]
        exact hc.lt j (by omega) hn2
  · rintro ⟨hF, rfl⟩
    refine ⟨xv before L m, xv_lt hb _ _, mem_ext.2 ⟨⟨?_, ?_⟩, L, (hP (_, lp L m) ⟨xv_lt hb _ _, lp_lt _ _⟩ L).2 ⟨hF.inc, fun a ha => by have := hF.le a ha; omega, rfl, rfl, hF.hf, fun j hj => hF.fx j (by omega), fun j hj hn2 => ?_⟩, by rw [if_neg (by omega)]⟩⟩
    · rw [s1]
      rw [decide_eq_false (by simp), Bool.false_or]
      by_cases hl : 0 ≤ last
      · have := hF.la hl
        rw [hms] at this
        rw [decide_eq_false (p := ((lp L m : Nat) : Int) ≠ last) (by simpa using this), Bool.and_false]
      · rw [decide_eq_false hl, Bool.false_and]
    · show impl_rowLamps.sk2 row m (xv before L m) (lp L m) behind = false
      unfold impl_rowLamps.sk2
      by_cases hn2 : bt row (m : Int) = 35
      · have := hF.lt m (by omega) hn2
        rw [if_pos hm.symm] at this
        rw [decide_eq_false this, Bool.and_false]
      · rw [decide_eq_false hn2, Bool.false_and]
    · have := hF.lt j (by omega) hn2
      rwa [if_neg (by omega)] at this
theorem mem_Q (row : ByteArray) (fixed : List Int) (last : Int) (first before behind : Nat) (hf : first < 2) (hb : before < 2) (hbe : behind < 2) (hn : 1 ≤ row.size) (L : List Nat) : L ∈ Q row fixed first before (behind : Int) last ↔ Ful row fixed first before behind last L := by
  have M := fun q hq => mem_last row fixed last first before behind hf hb hn q hq L
  unfold Q finP
  rw [List.mem_append, List.mem_append, List.mem_append, M (0, 0) ⟨by show 0 < 2; omega, by show 0 < 2; omega⟩, M (0, 1) ⟨by show 0 < 2; omega, by show 1 < 2; omega⟩, M (1, 0) ⟨by show 1 < 2; omega, by show 0 < 2; omega⟩, M (1, 1) ⟨by show 1 < 2; omega, by show 1 < 2; omega⟩]
  constructor
  · rintro ((h | h) | (h | h)) <;> exact h.1
  · intro h
    have h1 := lp_lt L (row.size - 1)
    rcases two_or h1 with e | e <;> rcases two_or hbe with e' | e' <;> rw [e, e']
    · exact .inl (.inl ⟨by rw [← e']; exact h, rfl⟩)
    · exact .inl (.inr ⟨by rw [← e']; exact h, rfl⟩)
    · exact .inr (.inl ⟨by rw [← e']; exact h, rfl⟩)
    · exact .inr (.inr ⟨by rw [← e']; exact h, rfl⟩)

/-! ### all lists of a row -/
/-- Which lists light a row, some told. -/
structure Lit (row : ByteArray) (fixed : List Int) (rg : Bool) (L : List Nat) : Prop where
  inc : L.Pairwise (· < ·)
  le : ∀ a ∈ L, a < row.size
  fx : ∀ j : Nat, j < row.size → rd fixed (j : Int) ≠ 1 - (lp L j : Int)
  lt : ∀ j : Nat, j < row.size → bt row (j : Int) = 35 → xv (if rg = true then lp L (row.size - 1) else 0) L j + lp L j + (if j + 1 = row.size then (if rg = true then lp L 0 else 0) else lp L (j + 1)) ≠ 0
theorem ful_lit {row : ByteArray} {fixed : List Int} {L : List Nat} {first : Nat} (h : Ful row fixed first 0 0 (-1) L) : Lit row fixed false L :=
  ⟨h.inc, h.le, h.fx, fun j hj hn => by simpa using h.lt j hj hn⟩
theorem lit_ful {row : ByteArray} {fixed : List Int} {L : List Nat} (h : Lit row fixed false L) : Ful row fixed (lp L 0) 0 0 (-1) L :=
  ⟨h.inc, h.le, rfl, h.fx, fun z => by omega, fun j hj hn => by simpa using h.lt j hj hn⟩
theorem ful_lit2 {row : ByteArray} {fixed : List Int} {L : List Nat} {first last : Nat} (h : Ful row fixed first last first (last : Int) L) : Lit row fixed true L := by
  have hl : lp L (row.size - 1) = last := by have := h.la (by omega); omega
  refine ⟨h.inc, h.le, h.fx, fun j hj hn => ?_⟩
  have := h.lt j hj hn
  rw [if_pos rfl, if_pos rfl, hl, h.hf]
  exact this
theorem lit_ful2 {row : ByteArray} {fixed : List Int} {L : List Nat} (h : Lit row fixed true L) : Ful row fixed (lp L 0) (lp L (row.size - 1)) (lp L 0) ((lp L (row.size - 1) : Nat) : Int) L := by
  refine ⟨h.inc, h.le, rfl, h.fx, fun _ => rfl, fun j hj hn => ?_⟩
  have := h.lt j hj hn
  rw [if_pos rfl, if_pos rfl] at this
  exact this
/-- All lists together. -/
def QA (row : ByteArray) (fixed : List Int) (rg : Bool) : List (List Nat) :=
  if rg = true then (Q row fixed 0 0 (0 : Nat) (0 : Nat) ++ Q row fixed 0 1 (0 : Nat) (1 : Nat)) ++ (Q row fixed 1 0 (1 : Nat) (0 : Nat) ++ Q row fixed 1 1 (1 : Nat) (1 : Nat)) else Q row fixed 0 0 (0 : Nat) (-1) ++ Q row fixed 1 0 (0 : Nat) (-1)
theorem mem_QA (row : ByteArray) (fixed : List Int) (rg : Bool) (hn : 1 ≤ row.size) (L : List Nat) : L ∈ QA row fixed rg ↔ Lit row fixed rg L := by
  have M := fun last first before behind a b c => mem_Q row fixed last first before behind a b c hn L
  unfold QA
  cases rg with
  | true =>
    rw [if_pos rfl, List.mem_append, List.mem_append, List.mem_append, M ((0 : Nat) : Int) 0 0 0 (by omega) (by omega) (by omega), M ((1 : Nat) : Int) 0 1 0 (by omega) (by omega) (by omega), M ((0 : Nat) : Int) 1 0 1 (by omega) (by omega) (by omega), M ((1 : Nat) : Int) 1 1 1 (by omega) (by omega) (by omega)]
    constructor
    · rintro ((h | h) | (h | h)) <;> exact ful_lit2 h
    · intro h
      have z := lit_ful2 h
      rcases two_or (lp_lt L 0) with e | e <;> rcases two_or (lp_lt L (row.size - 1)) with e' | e' <;> rw [e, e'] at z
      · exact .inl (.inl z)
      · exact .inl (.inr z)
      · exact .inr (.inl z)
      · exact .inr (.inr z)
  | false =>
    rw [if_neg (by simp), List.mem_append, M (-1) 0 0 0 (by omega) (by omega) (by omega), M (-1) 1 0 0 (by omega) (by omega) (by omega)]
    constructor
    · rintro (h | h) <;> exact ful_lit h
    · intro h
      have z := lit_ful h
      rcases two_or (lp_lt L 0) with e | e <;> rw [e] at z
      · exact .inl z
      · exact .inr z
theorem nodup_ext {row : ByteArray} {fixed : List Int} {behind last : Int} {n i : Nat} {S : List (List Nat)} (h : S.Nodup) (p : Nat × Nat) (x : Nat) : (extP row fixed behind last n i S p x).Nodup := by
  unfold extP
  split
  · exact List.nodup_nil
  · split
    · rw [List.Nodup, List.pairwise_map]
      exact h.imp (fun {a b} hab e => hab (List.append_cancel_right e))
    · exact h
theorem nodup_P (row : ByteArray) (fixed : List Int) (behind last : Int) (n first before : Nat) (hf : first < 2) (hb : before < 2) : ∀ (i : Nat), i ≤ n → ∀ q, impl_rowLamps.Is q → (goP row fixed behind last n i 0 (P0 fixed first before) q).Nodup
  | 0, _, q, hq => by
    show (P0 fixed first before q).Nodup
    unfold P0
    split <;> simp
  | i + 1, hi, q, hq => by
    have ih := nodup_P row fixed behind last n first before hf hb i (by omega)
    have M := mem_P row fixed behind last n first before hf hb i (by omega)
    rw [goP_succ, Nat.zero_add]
    unfold stepP
    rw [List.nodup_append]
    refine ⟨nodup_ext (ih (0, q.1) ⟨by show 0 < 2; omega, hq.1⟩) _ _, nodup_ext (ih (1, q.1) ⟨by show 1 < 2; omega, hq.1⟩) _ _, fun a ha b hb e => ?_⟩
    subst e
    obtain ⟨-, L1, h1, e1⟩ := mem_ext.1 ha
    obtain ⟨-, L2, h2, e2⟩ := mem_ext.1 hb
    have c1 := ((M (0, q.1) ⟨by show 0 < 2; omega, hq.1⟩ L1).1 h1).hb
    have c2 := ((M (1, q.1) ⟨by show 1 < 2; omega, hq.1⟩ L2).1 h2).hb
    have e3 : L1 = L2 := by
      rw [e1] at e2
      split at e2
      · exact List.append_cancel_right e2
      · exact e2
    rw [e3, c2] at c1
    cases c1
theorem nodup_Q (row : ByteArray) (fixed : List Int) (last : Int) (first before behind : Nat) (hf : first < 2) (hb : before < 2) (hn : 1 ≤ row.size) : (Q row fixed first before (behind : Int) last).Nodup := by
  have N := fun q hq => nodup_P row fixed (behind : Int) last row.size first before hf hb row.size (Nat.le_refl _) q hq
  have M := fun q hq L => mem_last row fixed last first before behind hf hb hn q hq L
  have i00 : impl_rowLamps.Is (0, 0) := ⟨by show 0 < 2; omega, by show 0 < 2; omega⟩
  have i01 : impl_rowLamps.Is (0, 1) := ⟨by show 0 < 2; omega, by show 1 < 2; omega⟩
  have i10 : impl_rowLamps.Is (1, 0) := ⟨by show 1 < 2; omega, by show 0 < 2; omega⟩
  have i11 : impl_rowLamps.Is (1, 1) := ⟨by show 1 < 2; omega, by show 1 < 2; omega⟩
  have D : ∀ p q, impl_rowLamps.Is p → impl_rowLamps.Is q → p ≠ q → ∀ L, L ∈ goP row fixed (behind : Int) last row.size row.size 0 (P0 fixed first before) p → L ∈ goP row fixed (behind : Int) last row.size row.size 0 (P0 fixed first before) q → False := fun p q hp hq hne L h1 h2 =>
    hne (((M p hp L).1 h1).2.trans ((M q hq L).1 h2).2.symm)
  unfold Q finP
  rw [List.nodup_append, List.nodup_append, List.nodup_append]
  refine ⟨⟨N _ i00, N _ i01, fun a ha b hb e => D _ _ i00 i01 (by decide) a ha (e ▸ hb)⟩, ⟨N _ i10, N _ i11, fun a ha b hb e => D _ _ i10 i11 (by decide) a ha (e ▸ hb)⟩, fun a ha b hb e => ?_⟩
  subst e
  rcases List.mem_append.1 ha with ha | ha <;> rcases List.mem_append.1 hb with hb | hb
  · exact D _ _ i00 i10 (by decide) a ha hb
  · exact D _ _ i00 i11 (by decide) a ha hb
  · exact D _ _ i01 i10 (by decide) a ha hb
  · exact D _ _ i01 i11 (by decide) a ha hb
theorem nodup_QA (row : ByteArray) (fixed : List Int) (rg : Bool) (hn : 1 ≤ row.size) : (QA row fixed rg).Nodup := by
  have N := fun last first before behind a b => nodup_Q row fixed last first before behind a b hn
  have M := fun last first before behind a b c => mem_Q row fixed last first before behind a b c hn
  unfold QA
  cases rg with
  | true =>
    rw [if_pos rfl, List.nodup_append, List.nodup_append, List.nodup_append]
    have D : ∀ f l f' l' : Nat, f < 2 → l < 2 → f' < 2 → l' < 2 → (f, l) ≠ (f', l') → ∀ L, L ∈ Q row fixed f l (f : Int) (l : Int) → L ∈ Q row fixed f' l' (f' : Int) (l' : Int) → False := fun f l f' l' h1 h2 h3 h4 hne L a b => by
      have A := (M (l : Int) f l f h1 h2 h1 L).1 a
      have B := (M (l' : Int) f' l' f' h3 h4 h3 L).1 b
      have hl := A.la (by omega)
      have hl' := B.la (by omega)
      exact hne (Prod.ext (A.hf.symm.trans B.hf) (by show l = l'; omega))
    refine ⟨⟨N _ 0 0 0 (by omega) (by omega), N _ 0 1 0 (by omega) (by omega), fun a ha b hb e => D 0 0 0 1 (by omega) (by omega) (by omega) (by omega) (by decide) a ha (e ▸ hb)⟩, ⟨N _ 1 0 1 (by omega) (by omega), N _ 1 1 1 (by omega) (by omega), fun a ha b hb e => D 1 0 1 1 (by omega) (by omega) (by omega) (by omega) (by decide) a ha (e ▸ hb)⟩, fun a ha b hb e => ?_⟩
    subst e
    rcases List.mem_append.1 ha with ha | ha <;> rcases List.mem_append.1 hb with hb | hb
    · exact D 0 0 1 0 (by omega) (by omega) (by omega) (by omega) (by decide) a ha hb
    · exact D 0 0 1 1 (by omega) (by omega) (by omega) (by omega) (by decide) a ha hb
    · exact D 0 1 1 0 (by omega) (by omega) (by omega) (by omega) (by decide) a ha hb
    · exact D 0 1 1 1 (by omega) (by omega) (by omega) (by omega) (by decide) a ha hb
  | false =>
    rw [if_neg (by simp), List.nodup_append]
    refine ⟨N _ 0 0 0 (by omega) (by omega), N _ 1 0 0 (by omega) (by omega), fun a ha b hb e => ?_⟩
    subst e
    have A := ((M (-1) 0 0 0 (by omega) (by omega) (by omega) a).1 ha).hf
    have B := ((M (-1) 1 0 0 (by omega) (by omega) (by omega) a).1 hb).hf
    omega
/-! ### the two numbers -/
theorem take_def (f0 c0 o m : Nat) : impl_lamps.take (f0, c0) (o, m) = if m = 0 then (f0, c0) else if c0 = 0 ∨ o < f0 then (o, m) else if o = f0 then (f0, c0 + m) else (f0, c0) := rfl
theorem take_out (A S : List (List Nat)) : impl_lamps.take (impl_rowLamps.out (ms A)) (impl_rowLamps.out (ms S)) = impl_rowLamps.out (ms (A ++ S)) := by
  rw [ms_append]
  cases hs : ms S with
  | none =>
    rw [impl_rowLamps.merge_none]
    generalize impl_rowLamps.out (ms A) = z
    obtain ⟨z1, z2⟩ := z
    show impl_lamps.take (z1, z2) (0, 0) = _
    rw [take_def, if_pos rfl]
  | some r =>
    obtain ⟨k, c⟩ := r
    have h1 := (ms_some hs).2.2.2
    cases ha : ms A with
    | none =>
      show impl_lamps.take (0, 0) (k, c) = (k, c)
      rw [take_def, if_neg (by omega), if_pos (.inl rfl)]
    | some a =>
      obtain ⟨k', c'⟩ := a
      have h2 := (ms_some ha).2.2.2
      show impl_lamps.take (k', c') (k, c) = _
      rw [take_def, if_neg (by omega)]
      rcases Nat.lt_trichotomy k k' with h | h | h
      · rw [impl_rowLamps.m_gt (show (k, c).1 < (k', c').1 from h), if_pos (.inr h)]
        rfl
      · rw [impl_rowLamps.m_eq (show (k, c).1 = (k', c').1 from h), if_neg (by omega), if_pos h]
        rfl
      · rw [impl_rowLamps.m_lt (show (k', c').1 < (k, c).1 from h), if_neg (by omega), if_neg (by omega)]
        rfl
theorem len_Q (row : ByteArray) (fixed : List Int) (last : Int) (first before : Nat) (behind : Int) (hn : row.size ≤ 20) : (Q row fixed first before behind last).length ≤ 4194304 := by
  have B : ∀ r i P, Bnd i P → Bnd (i + r) (goP row fixed behind last row.size r i P) := by
    intro r
    induction r with
    | zero => exact fun i P h => h
    | succ r ih =>
      intro i P h
      have z := ih (i + 1) _ (step_bnd (row := row) (fixed := fixed) (behind := behind) (last := last) (n := row.size) h)
      rw [show i + (r + 1) = i + 1 + r by omega]
      exact z
  have hb : Bnd 0 (P0 fixed first before) := fun p hp => by
    unfold P0
    split
    · refine ⟨by simp, fun L hL => ?_⟩
      simp at hL
      subst hL
      split <;> simp
    · exact ⟨by simp, fun L hL => by cases hL⟩
  have z := B row.size 0 _ hb
  rw [Nat.zero_add] at z
  have h4 : 2 ^ row.size ≤ 2 ^ 20 := Nat.pow_le_pow_right (by omega) hn
  have h5 : (2 : Nat) ^ 20 = 1048576 := by decide
  have a := (z (0, 0) ⟨by show 0 < 2; omega, by show 0 < 2; omega⟩).1
  have b := (z (0, 1) ⟨by show 0 < 2; omega, by show 1 < 2; omega⟩).1
  have c := (z (1, 0) ⟨by show 1 < 2; omega, by show 0 < 2; omega⟩).1
  have d := (z (1, 1) ⟨by show 1 < 2; omega, by show 1 < 2; omega⟩).1
  unfold Q finP
  rw [List.length_append, List.length_append, List.length_append]
  omega
theorem out_le (S : List (List Nat)) : (impl_rowLamps.out (ms S)).2 ≤ S.length := by
  cases h : ms S with
  | none => exact Nat.zero_le _
  | some r =>
    obtain ⟨k, c⟩ := r
    have z := (ms_some h).2.2.1
    have := cn_le S k
    show c ≤ _
    omega
theorem tk_out (A S : List (List Nat)) (hA : A.length ≤ 40000000 ) (hS : S.length ≤ 4194304) : impl_lamps.tk (impl_rowLamps.out (ms A)) (impl_rowLamps.out (ms S)) = some (impl_rowLamps.out (ms (A ++ S))) := by
  have h1 := out_le A
  have h2 := out_le S
  unfold impl_lamps.tk
  rw [if_pos ⟨by omega, by omega⟩, take_out]
theorem all_some (row : ByteArray) (fixed : List Int) (ring : Bool) (hn : row.size ≤ 20) : impl_lamps.all row fixed ring = some (impl_rowLamps.out (ms (QA row fixed (ring && decide ((row.size : Int) > 2))))) := by
  unfold impl_lamps.all
  generalize (ring && decide ((row.size : Int) > 2)) = rg
  have L := fun last first before behind => len_Q row fixed last first before behind hn
  have V := fun first before behind last hf => val_some row fixed first before behind last hf hn
  cases rg with
  | true =>
    simp only [impl_lamps.outs, impl_lamps.one, impl_lamps.ins, impl_lamps.val, if_true, Nat.zero_add]
    rw [V 0 0 _ _ (by omega), V 0 1 _ _ (by omega), V 1 0 _ _ (by omega), V 1 1 _ _ (by omega)]
    simp only [Option.bind_some]
    rw [show ((0, 0) : Nat × Nat) = impl_rowLamps.out (ms []) from rfl, tk_out _ _ (by simp) (L _ _ _ _)]
    simp only [Option.bind_some, List.nil_append]
    rw [tk_out _ _ (by have := L ((0 : Nat) : Int) 0 0 ((0 : Nat) : Int); omega) (L _ _ _ _)]
    simp only [Option.bind_some]
    rw [tk_out _ _ (by rw [List.length_append]; have := L ((0 : Nat) : Int) 0 0 ((0 : Nat) : Int); have := L ((1 : Nat) : Int) 0 1 ((0 : Nat) : Int); omega) (L _ _ _ _)]
    simp only [Option.bind_some]
    rw [tk_out _ _ (by rw [List.length_append, List.length_append]; have := L ((0 : Nat) : Int) 0 0 ((0 : Nat) : Int); have := L ((1 : Nat) : Int) 0 1 ((0 : Nat) : Int); have := L ((0 : Nat) : Int) 1 0 ((1 : Nat) : Int); omega) (L _ _ _ _)]
    simp only [Option.bind_some]
    unfold QA
    rw [if_pos rfl, List.append_assoc]
  | false =>
    simp only [impl_lamps.outs, impl_lamps.one, impl_lamps.val, Bool.false_eq_true, if_false, Nat.zero_add]
    rw [V 0 0 _ _ (by omega), V 1 0 _ _ (by omega)]
    simp only [Option.bind_some]
    rw [show ((0, 0) : Nat × Nat) = impl_rowLamps.out (ms []) from rfl, tk_out _ _ (by simp) (L _ _ _ _)]
    simp only [Option.bind_some, List.nil_append]
    rw [tk_out _ _ (by have := L (-1) 0 0 0; omega) (L _ _ _ _)]
    simp only [Option.bind_some]
    unfold QA
    rw [if_neg (by simp)]
    rfl

/-! ### the reference's lists -/
def im (L : List Nat) : List Int := L.map fun (a : Nat) => (a : Int)
/-- The lists that go on from some. -/
def En (ok : List Nat → Bool) : Nat → Nat → Nat → List Nat → List (List Nat)
  | _, _, 0, b => if ok b = true then [b] else []
  | 0, _, _ + 1, _ => []
  | d + 1, i, m + 1, b => En ok d (i + 1) m (b ++ [i]) ++ En ok d (i + 1) (m + 1) b
theorem En_zero (ok : List Nat → Bool) (d i : Nat) (b : List Nat) : En ok d i 0 b = if ok b = true then [b] else [] := by cases d <;> rfl
theorem mem_En (ok : List Nat → Bool) : ∀ (d i m : Nat) (b L : List Nat), L ∈ En ok d i m b ↔ ok L = true ∧ ∃ t, L = b ++ t ∧ t.Pairwise (· < ·) ∧ (∀ a ∈ t, i ≤ a ∧ a < i + d) ∧ t.length = m
  | d, i, 0, b, L => by
    rw [En_zero]
    constructor
    · intro h
      split at h
      · rename_i ho
        simp at h
        subst h
        exact ⟨ho, [], by simp, List.Pairwise.nil, (fun a ha => by cases ha), rfl⟩
      · cases h
    · rintro ⟨ho, t, rfl, -, -, hl⟩
      have : t = [] := List.eq_nil_of_length_eq_zero hl
      subst this
      simp at ho ⊢
      exact ho
  | 0, i, m + 1, b, L => by
    constructor
    · intro h; cases h
    · rintro ⟨-, t, -, -, h3, h4⟩
      cases t with
      | nil => cases h4
      | cons a t => have := h3 a (by simp); omega
  | d + 1, i, m + 1, b, L => by
    show L ∈ En ok d (i + 1) m (b ++ [i]) ++ En ok d (i + 1) (m + 1) b ↔ _
    rw [List.mem_append, mem_En ok d (i + 1) m (b ++ [i]) L, mem_En ok d (i + 1) (m + 1) b L]
    constructor
    · rintro (⟨ho, t, rfl, h1, h2, h3⟩ | ⟨ho, t, rfl, h1, h2, h3⟩)
      · refine ⟨ho, i :: t, by simp, List.pairwise_cons.2 ⟨fun a ha => by have := h2 a ha; omega, h1⟩, fun a ha => ?_, by simp [h3]⟩
        rcases List.mem_cons.1 ha with rfl | ha
        · omega
        · have := h2 a ha; omega
      · exact ⟨ho, t, rfl, h1, fun a ha => by have := h2 a ha; omega, h3⟩
    · rintro ⟨ho, t, rfl, h1, h2, h3⟩
      cases t with
      | nil => cases h3
      | cons a t =>
        obtain ⟨h4, h5⟩ := List.pairwise_cons.1 h1
        have ha := h2 a (by simp)
        by_cases e : a = i
        · subst e
          refine .inl ⟨ho, t, by simp, h5, fun c hc => ?_, by simpa using h3⟩
          have := h4 c hc
          have := h2 c (by simp [hc])
          omega
        · refine .inr ⟨ho, a :: t, rfl, h1, fun c hc => ?_, h3⟩
          have := h2 c hc
          rcases List.mem_cons.1 hc with rfl | hc
          · omega
          · have := h4 c hc; omega
theorem nodup_En (ok : List Nat → Bool) : ∀ (d i m : Nat) (b : List Nat), (En ok d i m b).Nodup
  | d, i, 0, b => by rw [En_zero]; split <;> simp
  | 0, i, m + 1, b => List.nodup_nil
  | d + 1, i, m + 1, b => by
    show (En ok d (i + 1) m (b ++ [i]) ++ En ok d (i + 1) (m + 1) b).Nodup
    rw [List.nodup_append]
    refine ⟨nodup_En ok d _ _ _, nodup_En ok d _ _ _, fun x hx y hy e => ?_⟩
    subst e
    obtain ⟨-, t, h1, -⟩ := (mem_En ok d _ _ _ x).1 hx
    obtain ⟨-, u, h2, -, h3, -⟩ := (mem_En ok d _ _ _ x).1 hy
    rw [h1, List.append_assoc] at h2
    have h2 := List.append_cancel_left h2
    cases u with
    | nil => cases h2
    | cons a u =>
      have := (List.cons.inj h2).1
      have := h3 a (by simp)
      omega
theorem len_En (ok : List Nat → Bool) : ∀ (d i m : Nat) (b : List Nat), (En ok d i m b).length ≤ 2 ^ d
  | d, i, 0, b => by
    rw [En_zero]
    have : 0 < 2 ^ d := Nat.pow_pos (by omega)
    split
    · show 1 ≤ 2 ^ d
      omega
    · simp
  | 0, i, m + 1, b => Nat.zero_le _
  | d + 1, i, m + 1, b => by
    show (En ok d (i + 1) m (b ++ [i]) ++ En ok d (i + 1) (m + 1) b).length ≤ _
    rw [List.length_append, Nat.pow_succ]
    have := len_En ok d (i + 1) m (b ++ [i])
    have := len_En ok d (i + 1) (m + 1) b
    omega
theorem inc_ext : ∀ {A B : List Nat}, A.Pairwise (· < ·) → B.Pairwise (· < ·) → (∀ x, x ∈ A ↔ x ∈ B) → A = B
  | [], [], _, _, _ => rfl
  | [], b :: B, _, _, h => by have := (h b).2 (by simp); cases this
  | a :: A, [], _, _, h => by have := (h a).1 (by simp); cases this
  | a :: A, b :: B, hA, hB, h => by
    obtain ⟨a1, a2⟩ := List.pairwise_cons.1 hA
    obtain ⟨b1, b2⟩ := List.pairwise_cons.1 hB
    have e : a = b := by
      have h1 := (h a).1 (by simp)
      have h2 := (h b).2 (by simp)
      rcases List.mem_cons.1 h1 with e | h1
      · exact e
      · rcases List.mem_cons.1 h2 with e | h2
        · exact e.symm
        · have := b1 a h1
          have := a1 b h2
          omega
    subst e
    rw [inc_ext a2 b2 (fun x => ?_)]
    constructor
    · intro hx
      rcases List.mem_cons.1 ((h x).1 (by simp [hx])) with e | z
      · subst e; have := a1 x hx; omega
      · exact z
    · intro hx
      rcases List.mem_cons.1 ((h x).2 (by simp [hx])) with e | z
      · subst e; have := b1 x hx; omega
      · exact z
/-- A list that goes on from another one. -/
theorem inc_split {L b : List Nat} {i : Nat} (hL : L.Pairwise (· < ·)) (hb : b.Pairwise (· < ·)) (hbi : ∀ a ∈ b, a < i) (h : ∀ j, j < i → (j ∈ L ↔ j ∈ b)) : ∃ t, L = b ++ t ∧ t.Pairwise (· < ·) ∧ ∀ a ∈ t, i ≤ a := by
  refine ⟨L.filter (fun a => decide (i ≤ a)), ?_, hL.filter _, fun a ha => by simpa using (List.mem_filter.1 ha).2⟩
  refine inc_ext hL (List.pairwise_append.2 ⟨hb, hL.filter _, fun a ha c hc => ?_⟩) (fun x => ?_)
  · have := hbi a ha
    have : i ≤ c := by simpa using (List.mem_filter.1 hc).2
    omega
  · rw [List.mem_append, List.mem_filter]
    by_cases e : x < i
    · rw [h x e]
      constructor
      · exact .inl
      · rintro (z | ⟨z, -⟩)
        · exact z
        · exact z
    · constructor
      · intro z; exact .inr ⟨z, by simp; omega⟩
      · rintro (z | ⟨z, -⟩)
        · have := hbi x z; omega
        · exact z
theorem nodup_len : ∀ {A B : List (List Nat)}, A.Nodup → (∀ x, x ∈ A → x ∈ B) → A.length ≤ B.length
  | [], B, _, _ => Nat.zero_le _
  | a :: A, B, hA, h => by
    obtain ⟨h1, h2⟩ := List.nodup_cons.1 hA
    have hb := h a (by simp)
    have z := nodup_len (B := B.erase a) h2 (fun x hx => (List.mem_erase_of_ne (fun e => h1 (by rw [← e]; exact hx))).2 (h x (by simp [hx])))
    rw [List.length_erase_of_mem hb] at z
    have : 0 < B.length := List.length_pos_of_mem hb
    simp
    omega
/-- The two numbers of all lists are those of the reference. -/
theorem ms_En {row : ByteArray} {fixed : List Int} {rg : Bool} (hn : 1 ≤ row.size) {ok : List Nat → Bool} (h : ∀ L, Lit row fixed rg L ↔ ok L = true ∧ L.Pairwise (· < ·) ∧ ∀ a ∈ L, a < row.size) (hex : ∃ L, Lit row fixed rg L) :
    ∃ k, impl_rowLamps.out (ms (QA row fixed rg)) = (k, (En ok row.size 0 k []).length) ∧ En ok row.size 0 k [] ≠ [] ∧ (∀ m, m < k → En ok row.size 0 m [] = []) ∧ k ≤ row.size := by
  have M : ∀ L, L ∈ QA row fixed rg ↔ L ∈ En ok row.size 0 L.length [] := fun L => by
    rw [mem_QA row fixed rg hn, h, mem_En]
    constructor
    · rintro ⟨h1, h2, h3⟩
      exact ⟨h1, L, by simp, h2, fun a ha => ⟨Nat.zero_le _, by have := h3 a ha; omega⟩, rfl⟩
    · rintro ⟨h1, t, e, h2, h3, -⟩
      have e : L = t := by simpa using e
      subst e
      exact ⟨h1, h2, fun a ha => by have := h3 a ha; omega⟩
  have LE : ∀ m L, L ∈ En ok row.size 0 m [] → L.length = m := fun m L hL => by
    obtain ⟨-, t, e, -, -, hl⟩ := (mem_En ok _ _ _ _ _).1 hL
    rw [e]; simpa using hl
  obtain ⟨L0, hL0⟩ := hex
  have hm0 := (mem_QA row fixed rg hn L0).2 hL0
  cases hq : ms (QA row fixed rg) with
  | none => rw [ms_none hq] at hm0; cases hm0
  | some r =>
    obtain ⟨k, c⟩ := r
    obtain ⟨⟨u, hu, hul⟩, hall, hc, -⟩ := ms_some hq
    have hEu : u ∈ En ok row.size 0 k [] := by rw [← hul]; exact (M u).1 hu
    refine ⟨k, ?_, (fun e => by rw [e] at hEu; cases hEu), fun m hm => ?_, ?_⟩
    · show (k, c) = _
      congr 1
      rw [hc]
      unfold cn
      refine Nat.le_antisymm (nodup_len ((nodup_QA row fixed rg hn).filter _) (fun x hx => ?_)) (nodup_len (nodup_En _ _ _ _ _) (fun x hx => ?_))
      · obtain ⟨h1, h2⟩ := List.mem_filter.1 hx
        have h2 : x.length = k := by simpa using h2
        rw [← h2]
        exact (M x).1 h1
      · have := LE k x hx
        refine List.mem_filter.2 ⟨(M x).2 (by rw [this]; exact hx), by simpa using this⟩
    · cases he : En ok row.size 0 m [] with
      | nil => rfl
      | cons a t =>
        have ha : a ∈ En ok row.size 0 m [] := by rw [he]; simp
        have hl := LE m a ha
        have := hall a ((M a).2 (by rw [hl]; exact ha))
        omega
    · have hinc := (h u).1 ((mem_QA row fixed rg hn u).1 hu)
      have hnd : (u.map fun a => [a]).Nodup := by
        rw [List.Nodup, List.pairwise_map]
        exact hinc.2.1.imp (fun {a b} hab e => by have := (List.cons.inj e).1; omega)
      have z := nodup_len (B := (List.range row.size).map fun a => [a]) hnd (fun x hx => by
        obtain ⟨a, ha, rfl⟩ := List.mem_map.1 hx
        exact List.mem_map.2 ⟨a, List.mem_range.2 (hinc.2.2 a ha), rfl⟩)
      simp at z
      omega

/-! ### the reference, run -/
def lights (n : Int) (ring : Bool) (h i : Int) : Bool := decide (h = i) || nbr n h i ring
theorem rwLit_l0 (n : Nat) (hn : n ≤ 20) (ring : Bool) (hs : List Int) (hl : hs.length ≤ 1000) (hh : ∀ h ∈ hs, 0 ≤ h ∧ h ≤ 1000) (i : Nat) (hi : i < n) : ∀ j : Nat, j ≤ hs.length → Ev (fun k => spec_rwLit.l0 k n i ring hs hs.length j) ((hs.drop j).any fun h => lights n ring h i) := by
  refine down hs.length ?_ ?_
  · refine succ ?_
    simp only [spec_rwLit.l0]
    exact neg (by omega) (conv (now _) (by simp))
  · intro j hj ih
    refine succ ?_
    simp only [spec_rwLit.l0]
    have hx := hh _ (List.getElem_mem hj)
    rw [wnat (by omega), rd_lt hs j hj]
    refine pos (by omega) (pos (by omega) (pos (by omega) ?_))
    rw [List.drop_eq_getElem_cons hj, List.any_cons]
    rw [spec_next n hs[j] i ring (by omega) (by omega) (by omega) (by omega)]
    simp only [Option.bind_some]
    unfold lights at ih ⊢
    by_cases e : hs[j] = (i : Int)
    · exact pos e (conv (now _) (by simp [e]))
    · refine neg e ?_
      by_cases f : nbr n hs[j] i ring = true
      · exact pos f (conv (now _) (by simp [f]))
      · refine neg f (conv ih ?_)
        simp [e, f]
/-- All houses from one on that have to be lit are. -/
def LitFrom (s : ByteArray) (hs : List Int) (ring : Bool) (i : Nat) : Prop := ∀ j : Nat, i ≤ j → j < s.size → bt s j = 35 → (hs.any fun h => lights s.size ring h j) = true
open Classical in
theorem rwAll_l0 (s : ByteArray) (hn : s.size ≤ 20) (ring : Bool) (hs : List Int) (hl : hs.length ≤ 1000) (hh : ∀ h ∈ hs, 0 ≤ h ∧ h ≤ 1000) : ∀ i : Nat, i ≤ s.size → Ev (fun k => spec_rwAll.l0 k s hs ring i) (decide (LitFrom s hs ring i)) := by
  refine down s.size ?_ ?_
  · refine succ ?_
    simp only [spec_rwAll.l0]
    exact neg (by omega) (conv (now _) (Eq.symm (decide_eq_true (fun j h1 h2 => by omega))))
  · intro i hi ih
    refine succ ?_
    simp only [spec_rwAll.l0]
    rw [wnat (by omega)]
    refine pos (by omega) (pos (by omega) ?_)
    by_cases c : bt s i = 35
    · refine pos c (bind (show Ev (fun k => spec_rwLit.f k s.size i hs ring) _ from rwLit_l0 s.size hn ring hs hl hh i hi 0 (Nat.zero_le _)) ?_)
      rw [List.drop_zero]
      by_cases d : (hs.any fun h => lights s.size ring h i) = true
      · refine pos d (conv ih ?_)
        rw [decide_eq_decide]
        exact ⟨fun h j h1 h2 h3 => by
          by_cases e : j = i
          · subst e; exact d
          · exact h j (by omega) h2 h3, fun h j h1 h2 h3 => h j (by omega) h2 h3⟩
      · exact neg d (conv (now _) (Eq.symm (decide_eq_false (fun h => d (h i (Nat.le_refl _) hi c)))))
    · refine neg c (conv ih ?_)
      rw [decide_eq_decide]
      exact ⟨fun h j h1 h2 h3 => by
        by_cases e : j = i
        · subst e; exact absurd h3 c
        · exact h j (by omega) h2 h3, fun h j h1 h2 h3 => h j (by omega) h2 h3⟩
open Classical in
noncomputable def okL (s : ByteArray) (ring : Bool) (L : List Nat) : Bool := decide (LitFrom s (im L) ring 0)
theorem im_mem {L : List Nat} {h : Int} (hh : h ∈ im L) : ∃ a : Nat, a ∈ L ∧ h = (a : Int) := by
  obtain ⟨a, ha, e⟩ := List.mem_map.1 hh
  exact ⟨a, ha, e.symm⟩
theorem im_small {L : List Nat} {n : Nat} (hn : n ≤ 1000) (h : ∀ a ∈ L, a < n) : ∀ x ∈ im L, 0 ≤ x ∧ x ≤ 1000 := fun x hx => by
  obtain ⟨a, ha, rfl⟩ := im_mem hx
  have := h a ha
  omega
theorem im_len (L : List Nat) : (im L).length = L.length := by simp [im]
theorem im_snoc (L : List Nat) (i : Nat) : im (L ++ [i]) = im L ++ [(i : Int)] := by simp [im]
theorem own_f (l : List Int) (hl : l.length ≤ 1000) : spec_l1Own.f l = some l := by
  unfold spec_l1Own.f
  simp only [Option.bind_some, List.nil_append]
  rw [if_pos (by simp; omega)]
theorem nbr_no {n : Int} {ring : Bool} (h : (ring && decide (n > 2)) = false) (a b : Int) : nbr n a b ring = decide ((a - b).natAbs = 1) := by
  unfold nbr
  rw [h, Bool.false_and, Bool.or_false]
/-- What the reference tells of some lists. -/
def res (S : List (List Nat)) : Int × List Int := ((S.length : Int), im (S.head?.getD []))
theorem bt_extract (s : ByteArray) (m j : Nat) (hm : m ≤ s.size) (hj : j < m) : bt (s.extract 0 m) (j : Int) = bt s (j : Int) := by
  have h1 : (s.extract 0 m).size = m := by rw [ByteArray.size_extract]; omega
  have g1 : (j : Int).toNat < (s.extract 0 m).size := by rw [h1, Int.toNat_natCast]; exact hj
  have g2 : (j : Int).toNat < s.size := by rw [Int.toNat_natCast]; omega
  rw [← bt_at _ _ g1, ← bt_at _ _ g2, ByteArray.getElem_extract]
  simp only [Int.toNat_natCast, Nat.zero_add]
/-- Houses too far to the left stay dark. -/
theorem pruned {s : ByteArray} {ring : Bool} (hr : (ring && decide ((s.size : Int) > 2)) = false) {i : Nat} (hi : 1 < i) (his : i ≤ s.size) {b : List Nat} (h : ¬ LitFrom (s.extract 0 (i - 1)) (im b) false 0) (d m : Nat) : En (okL s ring) d i m b = [] := by
  cases he : En (okL s ring) d i m b with
  | nil => rfl
  | cons L t =>
    exfalso
    obtain ⟨ho, u, hL, -, hu, -⟩ := (mem_En _ _ _ _ _ L).1 (show L ∈ En (okL s ring) d i m b by rw [he]; simp)
    refine h (fun j _ hj hn => ?_)
    have hsz : (s.extract 0 (i - 1)).size = i - 1 := by simp [ByteArray.size_extract]; omega
    rw [hsz] at hj ⊢
    rw [bt_extract s (i - 1) j (by omega) hj] at hn
    have ho : LitFrom s (im L) ring 0 := by unfold okL at ho; simpa using ho
    have hl := ho j (Nat.zero_le _) (by omega) hn
    obtain ⟨x, hx, hxl⟩ := List.any_eq_true.1 hl
    obtain ⟨a, ha, rfl⟩ := im_mem hx
    unfold lights at hxl
    rw [nbr_no hr] at hxl
    refine List.any_eq_true.2 ⟨(a : Int), ?_, ?_⟩
    · rw [hL] at ha
      rcases List.mem_append.1 ha with ha | ha
      · exact List.mem_map.2 ⟨a, ha, rfl⟩
      · have := hu a ha
        simp at hxl
        omega
    · unfold lights
      rw [nbr_no (by rfl)]
      exact hxl
theorem head_app {α : Type} (A B : List α) (x : α) : (A ++ B).head?.getD x = if A.length = 0 then B.head?.getD x else A.head?.getD x := by
  cases A with
  | nil => simp
  | cons a A => simp
open Classical in
theorem rwLamps_f (s : ByteArray) (hs : 1 ≤ s.size ∧ s.size ≤ 20) (ring : Bool) : ∀ (m : Nat), m ≤ 100 → ∀ (b : List Nat) (i : Nat), (b = [] ∧ i = 0 ∨ ∃ c a, b = c ++ [a] ∧ i = a + 1) → i ≤ s.size → (∀ a ∈ b, a < i) → b.length ≤ i → Ev (fun k => spec_rwLamps.f k s (im b) m ring) (res (En (okL s ring) (s.size - i) i m b))
  | 0, _, b, i, hbi, hin, hb, hbl => by
    refine succ ?_
    simp only [spec_rwLamps.f]
    have hl := im_len b
    refine pos rfl (bind (show Ev (fun k => spec_rwAll.f k s (im b) ring) _ from rwAll_l0 s hs.2 ring (im b) (by omega) (im_small (n := i) (by omega) hb) 0 (Nat.zero_le _)) ?_)
    rw [En_zero]
    show Ev (fun k => if okL s ring b = true then _ else _) _
    by_cases c : okL s ring b = true
    · refine pos c ?_
      rw [own_f _ (by omega), if_pos c]
      exact now _
    · refine neg c ?_
      rw [if_neg c]
      exact now _
  | m + 1, hm, b, i, hbi, hin, hb, hbl => by
    have hl := im_len b
    have J2 : ∀ (i' : Nat), i ≤ i' → i' < s.size → ∀ A : List (List Nat), A.length + 2 ^ (s.size - i') ≤ 2097152 → (∀ A' : List (List Nat), A'.length + 2 ^ (s.size - (i' + 1)) ≤ 2097152 → Ev (fun k => spec_rwLamps.l0 k s (im b) ((m + 1 : Nat) : Int) ring A'.length (im (A'.head?.getD [])) ((i' + 1 : Nat) : Int)) (res (A' ++ En (okL s ring) (s.size - (i' + 1)) (i' + 1) (m + 1) b))) →
        Ev (fun k => spec_rwLamps.j2 k s (im b) ((m + 1 : Nat) : Int) ring A.length (im (A.head?.getD [])) i' false) (res (A ++ En (okL s ring) (s.size - i') i' (m + 1) b)) := by
      intro i' h1 h2 A hA ih
      have hd : s.size - i' = (s.size - (i' + 1)) + 1 := by omega
      rw [hd] at hA ⊢
      rw [Nat.pow_succ] at hA
      have hE1 := len_En (okL s ring) (s.size - (i' + 1)) (i' + 1) m (b ++ [i'])
      have hF := rwLamps_f s hs ring m (by omega) (b ++ [i']) (i' + 1) (.inr ⟨b, i', rfl, rfl⟩) (by omega) (fun a ha => by
        rcases List.mem_append.1 ha with ha | ha
        · have := hb a ha; omega
        · simp at ha; omega) (by simp; omega)
      refine succ ?_
      simp only [spec_rwLamps.j2]
      refine neg (by simp) ?_
      rw [own_f _ (by omega)]
      simp only [Option.bind_some]
      rw [← im_snoc]
      refine pos (by rw [hl]; simp; omega) ?_
      rw [show wrap64 (((m + 1 : Nat) : Int) - 1) = ((m : Nat) : Int) by rw [wsub1 (by omega)]; omega]
      refine bind hF ?_
      show Ev _ (res (A ++ (En (okL s ring) (s.size - (i' + 1)) (i' + 1) m (b ++ [i']) ++ En (okL s ring) (s.size - (i' + 1)) (i' + 1) (m + 1) b)))
      rw [← List.append_assoc]
      have hI := ih (A ++ En (okL s ring) (s.size - (i' + 1)) (i' + 1) m (b ++ [i'])) (by rw [List.length_append]; omega)
      obtain ⟨E1, hE⟩ : ∃ E1, E1 = En (okL s ring) (s.size - (i' + 1)) (i' + 1) m (b ++ [i']) := ⟨_, rfl⟩
      rw [← hE] at hI hE1 ⊢
      rw [head_app] at hI
      have e1 : wrap64 ((A.length : Int) + (res E1).1) = ((A ++ E1).length : Int) := by
        show wrap64 ((A.length : Int) + (E1.length : Int)) = _
        have h5 : 2 ^ (s.size - (i' + 1)) ≤ 2 ^ 20 := Nat.pow_le_pow_right (by omega) (by omega)
        rw [w64 (by omega) (by omega), List.length_append]
        omega
      have e2 : wrap64 ((i' : Int) + 1) = ((i' + 1 : Nat) : Int) := wnat (by omega)
      rw [e1, e2]
      by_cases c : (res E1).1 > 0
      · refine pos c ?_
        by_cases d : A.length = 0
        · refine pos (by omega) ?_
          rw [if_pos d] at hI
          exact hI
        · refine neg (by omega) ?_
          rw [if_neg d] at hI
          exact hI
      · refine neg c ?_
        have h0 : E1.length = 0 := by
          have : ¬ (E1.length : Int) > 0 := c
          omega
        have h1 : E1 = [] := List.eq_nil_of_length_eq_zero h0
        by_cases d : A.length = 0
        · have hA0 : A = [] := List.eq_nil_of_length_eq_zero d
          rw [if_pos d] at hI
          subst hA0
          rw [h1] at hI ⊢
          exact hI
        · rw [if_neg d] at hI
          exact hI
    have L0 : ∀ i' : Nat, i' ≤ s.size → i ≤ i' → ∀ A : List (List Nat), A.length + 2 ^ (s.size - i') ≤ 2097152 → Ev (fun k => spec_rwLamps.l0 k s (im b) ((m + 1 : Nat) : Int) ring A.length (im (A.head?.getD [])) i') (res (A ++ En (okL s ring) (s.size - i') i' (m + 1) b)) := by
      refine down s.size ?_ ?_
      · intro _ A hA
        refine succ ?_
        simp only [spec_rwLamps.l0]
        refine neg (by omega) (conv (now _) ?_)
        rw [Nat.sub_self]
        show _ = res (A ++ [])
        rw [List.append_nil]
        rfl
      · intro i' hi' ih hii A hA
        have hJ := J2 i' hii hi' A hA (fun A' hA' => ih (by omega) A' hA')
        refine succ ?_
        simp only [spec_rwLamps.l0, spec_ring, Option.bind_some]
        refine pos (by omega) ?_
        by_cases hrg : (ring && decide ((s.size : Int) > 2)) = true
        · exact pos hrg hJ
        · refine neg hrg ?_
          have hrg' : (ring && decide ((s.size : Int) > 2)) = false := by simpa using hrg
          by_cases h1 : (i' : Int) > 1
          · refine pos h1 ?_
            have ew : wrap64 ((i' : Int) - 1) = ((i' - 1 : Nat) : Int) := by rw [wsub1 (by omega)]; omega
            rw [ew, Int.toNat_natCast]
            have hsz : (s.extract 0 (i' - 1)).size = i' - 1 := by simp [ByteArray.size_extract]; omega
            refine pos (by omega) (pos (by omega) (bind (show Ev (fun k => spec_rwAll.f k (s.extract 0 (i' - 1)) (im b) false) _ from rwAll_l0 (s.extract 0 (i' - 1)) (by omega) false (im b) (by omega) (im_small (n := i) (by omega) hb) 0 (Nat.zero_le _)) ?_))
            by_cases c : LitFrom (s.extract 0 (i' - 1)) (im b) false 0
            · exact pos (decide_eq_true c) hJ
            · refine neg (by simpa using c) ?_
              rw [own_f _ (by omega)]
              simp only [Option.bind_some]
              refine pos (by rw [hl]; simp; omega) (bind (show Ev (fun k => spec_rwAll.f k (s.extract 0 (i' - 1)) (im b ++ [(i' : Int)]) false) _ from rwAll_l0 (s.extract 0 (i' - 1)) (by omega) false (im b ++ [(i' : Int)]) (by rw [List.length_append, hl]; simp; omega) (fun x hx => by
                rcases List.mem_append.1 hx with hx | hx
                · exact im_small (n := i) (by omega) hb x hx
                · simp at hx; omega) 0 (Nat.zero_le _)) ?_)
              by_cases c2 : LitFrom (s.extract 0 (i' - 1)) (im b ++ [(i' : Int)]) false 0
              · rw [decide_eq_true c2]
                exact hJ
              · rw [decide_eq_false c2]
                refine succ ?_
                simp only [spec_rwLamps.j2, Bool.not_false]
                refine pos (by trivial) (conv (now _) ?_)
                rw [pruned hrg' (by omega) (by omega) c, List.append_nil]
                rfl
          · exact neg h1 hJ
    have hbig : 2 ^ (s.size - i) ≤ 2 ^ 20 := Nat.pow_le_pow_right (by omega) (by omega)
    have h20 : (2 : Nat) ^ 20 = 1048576 := by decide
    have hz := L0 i hin (Nat.le_refl _) [] (by simp; omega)
    refine succ ?_
    simp only [spec_rwLamps.f]
    refine neg (by omega) ?_
    rcases hbi with ⟨rfl, rfl⟩ | ⟨c, a, rfl, rfl⟩
    · refine neg (by simp [im]) (succ ?_)
      simp only [spec_rwLamps.j0]
      exact hz
    · rw [hl]
      have hcl : (c ++ [a]).length = c.length + 1 := by simp
      refine pos (by omega) ?_
      rw [wsub1 (by omega)]
      refine pos (by omega) (pos (by omega) ?_)
      have hlast : rd (im (c ++ [a])) (((c ++ [a]).length : Int) - 1) = (a : Int) := by
        rw [im_snoc, show (((c ++ [a]).length : Int) - 1) = ((c.length : Nat) : Int) by simp, rd_nat, List.getD_eq_getElem?_getD, List.getElem?_append_right (by rw [im_len]; exact Nat.le_refl _), im_len]
        simp
      rw [hlast, wnat (by omega)]
      refine succ ?_
      simp only [spec_rwLamps.j0]
      exact hz
/-- The least number of lamps, how many lists, the first one. -/
theorem rwFew_f (s : ByteArray) (hs : 1 ≤ s.size ∧ s.size ≤ 20) (ring : Bool) (K : Nat) (hK : K ≤ s.size) (hk : En (okL s ring) s.size 0 K [] ≠ []) (hm : ∀ m, m < K → En (okL s ring) s.size 0 m [] = []) : Ev (fun k => spec_rwFew.f k s ring) ((K : Int), (res (En (okL s ring) s.size 0 K [])).1, (res (En (okL s ring) s.size 0 K [])).2) := by
  have L : ∀ m : Nat, m ≤ K → Ev (fun k => spec_rwFew.l0 k s ring m) ((K : Int), (res (En (okL s ring) s.size 0 K [])).1, (res (En (okL s ring) s.size 0 K [])).2) := by
    refine down K ?_ ?_
    · refine succ ?_
      simp only [spec_rwFew.l0]
      refine bind (show Ev (fun k => spec_rwLamps.f k s [] K ring) _ from rwLamps_f s hs ring K (by omega) [] 0 (.inl ⟨rfl, rfl⟩) (Nat.zero_le _) (fun a ha => by cases ha) (Nat.le_refl _)) ?_
      rw [Nat.sub_zero]
      refine pos ?_ (now _)
      show ((En (okL s ring) s.size 0 K []).length : Int) > 0
      have := List.length_pos_iff.2 hk
      omega
    · intro m hmK ih
      refine succ ?_
      simp only [spec_rwFew.l0]
      refine bind (show Ev (fun k => spec_rwLamps.f k s [] m ring) _ from rwLamps_f s hs ring m (by omega) [] 0 (.inl ⟨rfl, rfl⟩) (Nat.zero_le _) (fun a ha => by cases ha) (Nat.le_refl _)) ?_
      rw [Nat.sub_zero, hm m hmK]
      refine neg (by show ¬ (((([] : List (List Nat)).length : Nat) : Int) > 0); simp) ?_
      rw [wnat (by omega)]
      exact ih
  exact L 0 (Nat.zero_le _)
/-- A lamp's light, told by places. -/
theorem lights_lt {n : Nat} {ring : Bool} {L : List Nat} (hL : ∀ a ∈ L, a < n) {j : Nat} (hj : j < n) : ((im L).any fun h => lights n ring h j) = true ↔ xv (if (ring && decide ((n : Int) > 2)) = true then lp L (n - 1) else 0) L j + lp L j + (if j + 1 = n then (if (ring && decide ((n : Int) > 2)) = true then lp L 0 else 0) else lp L (j + 1)) ≠ 0 := by
  have one : ∀ a, a ∈ L → lp L a = 1 := fun a ha => lp_one.2 ha
  have mem : ∀ a, lp L a ≠ 0 → a ∈ L := fun a ha => by
    unfold lp at ha
    split at ha
    · assumption
    · exact absurd rfl ha
  have any_of : ∀ a, a ∈ L → lights n ring (a : Int) j = true → ((im L).any fun h => lights n ring h j) = true := fun a ha h => List.any_eq_true.2 ⟨(a : Int), List.mem_map.2 ⟨a, ha, rfl⟩, h⟩
  constructor
  · intro h
    obtain ⟨x, hx, hxl⟩ := List.any_eq_true.1 h
    obtain ⟨a, ha, rfl⟩ := im_mem hx
    have han := hL a ha
    have h1 := one a ha
    unfold lights nbr at hxl
    rw [Bool.or_eq_true, Bool.or_eq_true, decide_eq_true_eq, decide_eq_true_eq] at hxl
    rcases hxl with e | e | e
    · have : a = j := by omega
      subst this
      omega
    · by_cases q : a < j
      · obtain ⟨j', rfl⟩ : ∃ j', j = j' + 1 := ⟨j - 1, by omega⟩
        have : a = j' := by omega
        subst this
        show lp L a + _ + _ ≠ 0
        omega
      · have : a = j + 1 := by omega
        subst this
        rw [if_neg (show ¬ j + 1 = n by omega)]
        omega
    · obtain ⟨e1, e2⟩ := (Bool.and_eq_true _ _).mp e
      have e2 := of_decide_eq_true e2
      have e3 := of_decide_eq_true ((Bool.and_eq_true _ _).mp e1).2
      rw [if_pos e1, if_pos e1]
      by_cases q : a < j
      · have hj1 : j + 1 = n := by omega
        have : a = 0 := by omega
        subst this
        rw [if_pos hj1]
        omega
      · have h0 : j = 0 := by omega
        have : a = n - 1 := by omega
        subst this h0
        show lp L (n - 1) + _ + _ ≠ 0
        omega
  · intro h
    by_cases c2 : lp L j = 0
    · by_cases c1 : xv (if (ring && decide ((n : Int) > 2)) = true then lp L (n - 1) else 0) L j = 0
      · have c3 : (if j + 1 = n then (if (ring && decide ((n : Int) > 2)) = true then lp L 0 else 0) else lp L (j + 1)) ≠ 0 := by omega
        split at c3
        · split at c3
          · rename_i e1 e2
            refine any_of 0 (mem 0 c3) ?_
            have e3 := of_decide_eq_true ((Bool.and_eq_true _ _).mp e2).2
            unfold lights nbr
            rw [e2, decide_eq_true (show ((((0 : Nat) : Int) - (j : Int)).natAbs : Int) = (n : Int) - 1 by omega)]
            simp
          · exact absurd rfl c3
        · refine any_of (j + 1) (mem _ c3) ?_
          unfold lights nbr
          rw [decide_eq_true (show (((j + 1 : Nat) : Int) - (j : Int)).natAbs = 1 by omega)]
          simp
      · cases j with
        | zero =>
          have c1 : (if (ring && decide ((n : Int) > 2)) = true then lp L (n - 1) else 0) ≠ 0 := c1
          split at c1
          · rename_i e2
            refine any_of (n - 1) (mem _ c1) ?_
            have e3 := of_decide_eq_true ((Bool.and_eq_true _ _).mp e2).2
            unfold lights nbr
            rw [e2, decide_eq_true (show ((((n - 1 : Nat) : Int) - ((0 : Nat) : Int)).natAbs : Int) = (n : Int) - 1 by omega)]
            simp
          · exact absurd rfl c1
        | succ j =>
          refine any_of j (mem j c1) ?_
          unfold lights nbr
          rw [decide_eq_true (show ((j : Int) - ((j + 1 : Nat) : Int)).natAbs = 1 by omega)]
          simp
    · refine any_of j (mem j c2) ?_
      unfold lights
      simp
/-- A row with nothing told. -/
def free (n : Nat) : List Int := List.replicate n (-1)
theorem free_rd (n j : Nat) (h : j < n) : rd (free n) (j : Int) = -1 := by
  rw [rd_nat]
  unfold free
  rw [List.getD_eq_getElem?_getD, List.getElem?_replicate, if_pos h]
  rfl
open Classical in
theorem lit_iff (s : ByteArray) (fixed : List Int) (ring : Bool) (L : List Nat) : Lit s fixed (ring && decide ((s.size : Int) > 2)) L ↔ (okL s ring L = true ∧ L.Pairwise (· < ·) ∧ ∀ a ∈ L, a < s.size) ∧ ∀ j : Nat, j < s.size → rd fixed (j : Int) ≠ 1 - (lp L j : Int) := by
  unfold okL
  rw [decide_eq_true_eq]
  constructor
  · intro h
    exact ⟨⟨fun j _ hj hn => (lights_lt h.le hj).2 (h.lt j hj hn), h.inc, h.le⟩, h.fx⟩
  · rintro ⟨⟨h1, h2, h3⟩, h4⟩
    exact ⟨h2, h3, h4, fun j hj hn => (lights_lt h3 hj).1 (h1 j (Nat.zero_le _) hj hn)⟩
theorem lit_free (s : ByteArray) (ring : Bool) (L : List Nat) : Lit s (free s.size) (ring && decide ((s.size : Int) > 2)) L ↔ okL s ring L = true ∧ L.Pairwise (· < ·) ∧ ∀ a ∈ L, a < s.size := by
  rw [lit_iff]
  refine ⟨fun h => h.1, fun h => ⟨h, fun j hj => ?_⟩⟩
  rw [free_rd _ _ hj]
  have := lp_lt L j
  omega
open Classical in
theorem lit_ex (s : ByteArray) (ring : Bool) : ∃ L, Lit s (free s.size) (ring && decide ((s.size : Int) > 2)) L := by
  refine ⟨List.range s.size, (lit_free s ring _).2 ⟨?_, List.pairwise_lt_range, fun a ha => List.mem_range.1 ha⟩⟩
  unfold okL
  rw [decide_eq_true_eq]
  intro j _ hj hn
  refine List.any_eq_true.2 ⟨(j : Int), List.mem_map.2 ⟨j, List.mem_range.2 hj, rfl⟩, ?_⟩
  unfold lights
  simp
theorem free_f (s : ByteArray) (hs : 1 ≤ s.size ∧ s.size ≤ 20) : impl_free.f s = some (free s.size) := by
  unfold impl_free.f slices_Repeat_int_int.f
  rw [if_pos ⟨rfl, by omega, by omega⟩, Int.toNat_natCast]
  rfl
theorem lamps_f (s : ByteArray) (hs : 1 ≤ s.size ∧ s.size ≤ 20) (fixed : List Int) (hl : fixed.length = s.size) (ring : Bool) : impl_lamps.f s fixed ring = some (((impl_rowLamps.out (ms (QA s fixed (ring && decide ((s.size : Int) > 2))))).1 : Int), ((impl_rowLamps.out (ms (QA s fixed (ring && decide ((s.size : Int) > 2))))).2 : Int)) := by
  unfold impl_lamps.f
  rw [if_pos ⟨⟨hs.1, by omega⟩, hl⟩, all_some s fixed ring hs.2]
  rfl

theorem mem0 (ok : List Nat → Bool) (n m : Nat) (L : List Nat) : L ∈ En ok n 0 m [] ↔ ok L = true ∧ L.Pairwise (· < ·) ∧ (∀ a ∈ L, a < n) ∧ L.length = m := by
  rw [mem_En]
  constructor
  · rintro ⟨h1, t, ht, h2, h3, h4⟩
    have ht : L = t := ht
    subst ht
    exact ⟨h1, h2, fun a ha => by have := h3 a ha; omega, h4⟩
  · rintro ⟨h1, h2, h3, h4⟩
    exact ⟨h1, L, rfl, h2, fun a ha => ⟨by omega, by have := h3 a ha; omega⟩, h4⟩
theorem least_le {ok : List Nat → Bool} {n K : Nat} (hm : ∀ m, m < K → En ok n 0 m [] = []) {L : List Nat} (h1 : ok L = true) (h2 : L.Pairwise (· < ·)) (h3 : ∀ a ∈ L, a < n) : K ≤ L.length := by
  by_cases q : L.length < K
  · have z := (mem0 ok n L.length L).2 ⟨h1, h2, h3, rfl⟩
    rw [hm _ q] at z
    cases z
  · omega
theorem okL_iff (s : ByteArray) (ring : Bool) (L : List Nat) : okL s ring L = true ↔ ∀ j : Nat, j < s.size → bt s j = 35 → ∃ a ∈ L, lights s.size ring (a : Int) j = true := by
  unfold okL LitFrom
  simp only [decide_eq_true_iff]
  constructor
  · intro h j hj hb
    have z := h j (Nat.zero_le _) hj hb
    rw [List.any_eq_true] at z
    obtain ⟨x, hx, hl⟩ := z
    obtain ⟨a, ha, rfl⟩ := im_mem hx
    exact ⟨a, ha, hl⟩
  · intro h j _ hj hb
    obtain ⟨a, ha, hl⟩ := h j hj hb
    rw [List.any_eq_true]
    exact ⟨(a : Int), List.mem_map_of_mem ha, hl⟩
theorem lights_iff (n : Int) (ring : Bool) (a i : Int) : lights n ring a i = true ↔ a = i ∨ (a - i).natAbs = 1 ∨ ring = true ∧ n > 2 ∧ ((a - i).natAbs : Int) = n - 1 := by
  unfold lights nbr
  simp only [Bool.or_eq_true, Bool.and_eq_true, decide_eq_true_eq, and_assoc]
theorem lights_ring (n : Int) (a i : Int) : lights n true a i = true ↔ a = i ∨ (a - i).natAbs = 1 ∨ n > 2 ∧ ((a - i).natAbs : Int) = n - 1 := by
  rw [lights_iff]
  simp only [true_and]
theorem okL_line {s : ByteArray} {L : List Nat} (h : okL s false L = true) (ring : Bool) : okL s ring L = true := by
  rw [okL_iff] at h ⊢
  intro j hj hb
  obtain ⟨a, ha, hl⟩ := h j hj hb
  refine ⟨a, ha, ?_⟩
  rw [lights_iff] at hl ⊢
  rcases hl with hl | hl | hl
  · exact .inl hl
  · exact .inr (.inl hl)
  · cases hl.1
/-- As many lamps as guards. -/
def gl (n : Nat) : List Nat := (List.range ((n + 2) / 3)).map fun j => if 3 * j + 1 < n then 3 * j + 1 else n - 1
theorem gl_len (n : Nat) : (gl n).length = (n + 2) / 3 := by simp [gl]
theorem gl_lt {n : Nat} (hn : 1 ≤ n) : ∀ a ∈ gl n, a < n := by
  intro a ha
  obtain ⟨j, hj, rfl⟩ := List.mem_map.1 ha
  split <;> omega
theorem gl_inc (n : Nat) : (gl n).Pairwise (· < ·) := by
  unfold gl
  rw [List.pairwise_map]
  refine List.Pairwise.imp_of_mem ?_ List.pairwise_lt_range
  intro a b ha hb hab
  have h1 := List.mem_range.1 ha
  have h2 := List.mem_range.1 hb
  split <;> split <;> omega
theorem gl_ok (s : ByteArray) (ring : Bool) : okL s ring (gl s.size) = true := by
  rw [okL_iff]
  intro j hj _
  refine ⟨_, List.mem_map.2 ⟨j / 3, List.mem_range.2 (by omega), rfl⟩, ?_⟩
  rw [lights_iff]
  by_cases c : 3 * (j / 3) + 1 < s.size
  · rw [if_pos c]
    omega
  · rw [if_neg c]
    omega
/-! ### how many houses so many lamps light -/
theorem nodup_lenN : ∀ {A B : List Nat}, A.Nodup → (∀ x, x ∈ A → x ∈ B) → A.length ≤ B.length
  | [], B, _, _ => Nat.zero_le _
  | a :: A, B, hA, h => by
    obtain ⟨h1, h2⟩ := List.nodup_cons.1 hA
    have hb := h a (by simp)
    have z := nodup_lenN (B := B.erase a) h2 (fun x hx => (List.mem_erase_of_ne (fun e => h1 (by rw [← e]; exact hx))).2 (h x (by simp [hx])))
    rw [List.length_erase_of_mem hb] at z
    have : 0 < B.length := List.length_pos_of_mem hb
    simp
    omega
theorem nodup_lt {L : List Nat} (h : L.Pairwise (· < ·)) : L.Nodup := h.imp (fun h => by omega)
def cnt (n : Nat) (P : Nat → Bool) : Nat := ((List.range n).filter P).length
theorem cnt_zero (n : Nat) {P : Nat → Bool} (h : ∀ i, i < n → P i = false) : cnt n P = 0 := by
  unfold cnt
  rw [List.length_eq_zero_iff, List.filter_eq_nil_iff]
  intro a ha
  rw [h a (List.mem_range.1 ha)]
  simp
theorem cnt_full (n : Nat) {P : Nat → Bool} (h : ∀ i, i < n → P i = true) : cnt n P = n := by
  unfold cnt
  rw [List.filter_eq_self.2 (fun a ha => h a (List.mem_range.1 ha)), List.length_range]
theorem cnt_pos {n : Nat} {P : Nat → Bool} {i : Nat} (hi : i < n) (h : P i = true) : 0 < cnt n P :=
  List.length_pos_of_mem (List.mem_filter.2 ⟨List.mem_range.2 hi, h⟩)
theorem filter_or (P Q : Nat → Bool) : ∀ L : List Nat, (L.filter fun i => P i || Q i).length ≤ (L.filter P).length + (L.filter Q).length := by
  intro L
  induction L with
  | nil => simp
  | cons a L ih =>
    simp only [List.filter_cons]
    cases P a <;> cases Q a <;> simp <;> omega
theorem cnt_one (n : Nat) (ring : Bool) (a : Nat) (ha : a < n) : cnt n (fun i => lights n ring (a : Int) i) ≤ 3 := by
  unfold cnt
  refine nodup_lenN (B := [a, if a = 0 then n - 1 else a - 1, if a = n - 1 then 0 else a + 1]) (nodup_lt (List.Pairwise.filter _ List.pairwise_lt_range)) (fun i hi => ?_)
  obtain ⟨h1, h2⟩ := List.mem_filter.1 hi
  have h1 := List.mem_range.1 h1
  rw [lights_iff] at h2
  simp only [List.mem_cons, List.not_mem_nil, or_false]
  split <;> split <;> omega
theorem cnt_any (n : Nat) (ring : Bool) : ∀ hs : List Int, (∀ h ∈ hs, 0 ≤ h ∧ h ≤ (n : Int) - 1) → cnt n (fun i => hs.any fun h => lights n ring h i) ≤ 3 * hs.length := by
  intro hs
  induction hs with
  | nil => intro _; exact Nat.le_trans (Nat.le_of_eq (cnt_zero n (fun i _ => rfl))) (Nat.zero_le _)
  | cons h hs ih =>
    intro hh
    have h0 := hh h (by simp)
    have z := ih (fun x hx => hh x (by simp [hx]))
    obtain ⟨a, rfl⟩ : ∃ a : Nat, h = (a : Int) := ⟨h.toNat, by omega⟩
    have y := cnt_one n ring a (by omega)
    have x := filter_or (fun i => lights n ring (a : Int) i) (fun i => hs.any fun h => lights n ring h i) (List.range n)
    unfold cnt at z y ⊢
    simp only [List.any_cons, List.length_cons]
    omega
/-! ### a row told from another house on -/
def rot (n d a : Nat) : Nat := if a + d < n then a + d else a + d - n
def rotb (n d a : Nat) : Nat := if d ≤ a then a - d else a + n - d
theorem rot_rotb {n d a : Nat} (hd : d ≤ n) (ha : a < n) : rot n d (rotb n d a) = a ∧ rotb n d a < n := by
  unfold rot rotb
  split <;> split <;> omega
theorem rotb_rot {n d a : Nat} (hd : d ≤ n) (ha : a < n) : rotb n d (rot n d a) = a ∧ rot n d a < n := by
  unfold rot rotb
  split <;> split <;> omega
theorem rot_back {n d a : Nat} (hd : d ≤ n) (ha : a < n) : rot n d (rot n (n - d) a) = a := by
  unfold rot
  split <;> split <;> omega
def phi (n d : Nat) (L : List Nat) : List Nat := (List.range n).filter fun j => decide (rot n d j ∈ L)
theorem mem_phi (n d : Nat) (L : List Nat) (j : Nat) : j ∈ phi n d L ↔ j < n ∧ rot n d j ∈ L := by
  unfold phi
  rw [List.mem_filter, List.mem_range, decide_eq_true_eq]
theorem phi_inc (n d : Nat) (L : List Nat) : (phi n d L).Pairwise (· < ·) := List.Pairwise.filter _ List.pairwise_lt_range
theorem nodup_map {f : Nat → Nat} {L : List Nat} (h : L.Nodup) (hf : ∀ a ∈ L, ∀ b ∈ L, f a = f b → a = b) : (L.map f).Nodup := by
  unfold List.Nodup
  rw [List.pairwise_map]
  exact List.Pairwise.imp_of_mem (fun {a b} ha hb hab e => hab (hf a ha b hb e)) h
theorem phi_len {n d : Nat} (hd : d ≤ n) {L : List Nat} (hL : L.Pairwise (· < ·)) (hl : ∀ a ∈ L, a < n) : (phi n d L).length = L.length := by
  have h1 := nodup_lenN (A := (phi n d L).map (rot n d)) (B := L) (nodup_map (nodup_lt (phi_inc n d L)) (fun a ha b hb e => by
    have a1 := ((mem_phi _ _ _ _).1 ha).1
    have b1 := ((mem_phi _ _ _ _).1 hb).1
    rw [← (rotb_rot hd a1).1, e, (rotb_rot hd b1).1])) (fun x hx => by
    obtain ⟨a, ha, rfl⟩ := List.mem_map.1 hx
    exact ((mem_phi _ _ _ _).1 ha).2)
  have h2 := nodup_lenN (A := L.map (rotb n d)) (B := phi n d L) (nodup_map (nodup_lt hL) (fun a ha b hb e => by
    rw [← (rot_rotb hd (hl a ha)).1, e, (rot_rotb hd (hl b hb)).1])) (fun x hx => by
    obtain ⟨a, ha, rfl⟩ := List.mem_map.1 hx
    have z := rot_rotb hd (hl a ha)
    exact (mem_phi _ _ _ _).2 ⟨z.2, by rw [z.1]; exact ha⟩)
  rw [List.length_map] at h1 h2
  omega
theorem phi_inj {n d : Nat} (hd : d ≤ n) {L L' : List Nat} (hL : L.Pairwise (· < ·)) (hL' : L'.Pairwise (· < ·)) (hl : ∀ a ∈ L, a < n) (hl' : ∀ a ∈ L', a < n) (e : phi n d L = phi n d L') : L = L' := by
  refine inc_ext hL hL' (fun x => ?_)
  have key : ∀ {M M' : List Nat}, (∀ a ∈ M, a < n) → phi n d M = phi n d M' → x ∈ M → x ∈ M' := fun hM ee hx => by
    have z := rot_rotb hd (hM x hx)
    have y := (mem_phi n d _ (rotb n d x)).2 ⟨z.2, by rw [z.1]; exact hx⟩
    rw [ee] at y
    have := ((mem_phi _ _ _ _).1 y).2
    rwa [z.1] at this
  exact ⟨key hl e, key hl' e.symm⟩
theorem phi_ok {s t : ByteArray} {d : Nat} (hs : 2 < s.size) (he : t.size = s.size) (hd : d ≤ s.size) (h : ∀ j : Nat, j < s.size → bt t j = bt s ((rot s.size d j : Nat) : Int)) {L : List Nat} (hl : ∀ a ∈ L, a < s.size) (hok : okL s true L = true) : okL t true (phi s.size d L) = true := by
  rw [okL_iff] at hok ⊢
  intro j hj hb
  rw [he] at hj ⊢
  obtain ⟨a, ha, hla⟩ := hok (rot s.size d j) (rotb_rot hd hj).2 (by rw [← h j hj]; exact hb)
  have z := rot_rotb hd (hl a ha)
  refine ⟨rotb s.size d a, (mem_phi _ _ _ _).2 ⟨z.2, by rw [z.1]; exact ha⟩, ?_⟩
  have ha := hl a ha
  rw [lights_ring] at hla ⊢
  unfold rot at hla
  unfold rotb
  split at hla <;> split <;> omega
theorem nodup_mapL {f : List Nat → List Nat} {A : List (List Nat)} (h : A.Nodup) (hf : ∀ a ∈ A, ∀ b ∈ A, f a = f b → a = b) : (A.map f).Nodup := by
  unfold List.Nodup
  rw [List.pairwise_map]
  exact List.Pairwise.imp_of_mem (fun {a b} ha hb hab e => hab (hf a ha b hb e)) h
theorem turn_le {s t : ByteArray} {d : Nat} (hs : 2 < s.size) (he : t.size = s.size) (hd : d ≤ s.size) (h : ∀ j : Nat, j < s.size → bt t j = bt s ((rot s.size d j : Nat) : Int)) (m : Nat) : (En (okL s true) s.size 0 m []).length ≤ (En (okL t true) t.size 0 m []).length := by
  have z := nodup_len (A := (En (okL s true) s.size 0 m []).map (phi s.size d)) (B := En (okL t true) t.size 0 m []) (nodup_mapL (nodup_En _ _ _ _ _) (fun a ha b hb e => by
    obtain ⟨-, a2, a3, -⟩ := (mem0 _ _ _ _).1 ha
    obtain ⟨-, b2, b3, -⟩ := (mem0 _ _ _ _).1 hb
    exact phi_inj hd a2 b2 a3 b3 e)) (fun x hx => by
    obtain ⟨a, ha, rfl⟩ := List.mem_map.1 hx
    obtain ⟨a1, a2, a3, a4⟩ := (mem0 _ _ _ _).1 ha
    exact (mem0 _ _ _ _).2 ⟨phi_ok hs he hd h a3 a1, phi_inc _ _ _, fun j hj => by rw [he]; exact ((mem_phi _ _ _ _).1 hj).1, by rw [phi_len hd a2 a3, a4]⟩)
  rwa [List.length_map] at z
theorem turn_eq {s t : ByteArray} {d : Nat} (hs : 2 < s.size) (he : t.size = s.size) (hd : d ≤ s.size) (h : ∀ j : Nat, j < s.size → bt t j = bt s ((rot s.size d j : Nat) : Int)) (m : Nat) : (En (okL t true) t.size 0 m []).length = (En (okL s true) s.size 0 m []).length := by
  refine Nat.le_antisymm ?_ (turn_le hs he hd h m)
  refine turn_le (d := s.size - d) (by omega) he.symm (by omega) (fun j hj => ?_) m
  rw [he] at hj ⊢
  have z := rotb_rot (n := s.size) (d := s.size - d) (by omega) hj
  rw [h _ z.2, rot_back hd hj]
theorem least_same {A B : Nat → List (List Nat)} (h : ∀ m, (A m).length = (B m).length) {K K' : Nat} (h1 : A K ≠ []) (h2 : ∀ m, m < K → A m = []) (h3 : B K' ≠ []) (h4 : ∀ m, m < K' → B m = []) : K = K' := by
  have key : ∀ {X Y : Nat → List (List Nat)}, (∀ m, (X m).length = (Y m).length) → ∀ m, X m ≠ [] → Y m ≠ [] := fun hh m hx e => hx (List.length_eq_zero_iff.1 (by rw [hh, e]; rfl))
  by_cases a : K < K'
  · exact absurd (h4 K a) (key h K h1)
  · by_cases b : K' < K
    · exact absurd (h2 K' b) (key (fun m => (h m).symm) K' h3)
    · omega
/-! ### bytes of texts put together -/
theorem bt_app_left (a b : ByteArray) (j : Nat) (h : j < a.size) : bt (a ++ b) (j : Int) = bt a (j : Int) := by
  have h' : j < (a ++ b).size := by rw [ByteArray.size_append]; omega
  rw [bt_lt _ j h', bt_lt a j h, ByteArray.getElem_append_left h]
theorem bt_app_right (a b : ByteArray) (j : Nat) (h : a.size ≤ j) (h2 : j < a.size + b.size) : bt (a ++ b) (j : Int) = bt b ((j - a.size : Nat) : Int) := by
  have h' : j < (a ++ b).size := by rw [ByteArray.size_append]; omega
  rw [bt_lt _ j h', bt_lt b (j - a.size) (by omega), ByteArray.getElem_append_right h]
theorem bt_ext (s : ByteArray) (i k j : Nat) (hk : k ≤ s.size) (hj : i + j < k) : bt (s.extract i k) (j : Int) = bt s ((i + j : Nat) : Int) := by
  have h' : j < (s.extract i k).size := by rw [ByteArray.size_extract]; omega
  rw [bt_lt _ j h', bt_lt s (i + j) (by omega), ByteArray.getElem_extract]
theorem ba_ext2 {a b : ByteArray} (hs : a.size = b.size) (h : ∀ j : Nat, j < a.size → bt a j = bt b j) : a = b := by
  refine ByteArray.ext_getElem hs (fun j h1 h2 => ?_)
  have z := h j h1
  rw [bt_lt a j h1, bt_lt b j h2] at z
  exact UInt8.toNat_inj.1 (by omega)
/-- A row told from the house d on. -/
def told_ (s : ByteArray) (d : Nat) : ByteArray := s.extract d s.size ++ s.extract 0 d
theorem told_size (s : ByteArray) (d : Nat) (hd : d ≤ s.size) : (told_ s d).size = s.size := by
  unfold told_
  rw [ByteArray.size_append, ByteArray.size_extract, ByteArray.size_extract]
  omega
theorem told_bt (s : ByteArray) (d : Nat) (hd : d ≤ s.size) (j : Nat) (hj : j < s.size) : bt (told_ s d) (j : Int) = bt s ((rot s.size d j : Nat) : Int) := by
  have e1 : (s.extract d s.size).size = s.size - d := by rw [ByteArray.size_extract]; omega
  have e2 : (s.extract 0 d).size = d := by rw [ByteArray.size_extract]; omega
  unfold told_ rot
  split
  · rename_i c
    rw [bt_app_left _ _ j (by omega), bt_ext s d s.size j (Nat.le_refl _) (by omega), Nat.add_comm]
  · rename_i c
    rw [bt_app_right _ _ j (by omega) (by omega), e1, bt_ext s 0 d _ hd (by omega)]
    congr 2
    omega
theorem told_back (s : ByteArray) (d : Nat) (hd : d < s.size) (e : Nat) (he : e = if d = 0 then 0 else s.size - d) : told_ (told_ s d) e = s := by
  have h1 := told_size s d (by omega)
  have he' : e ≤ s.size := by rw [he]; split <;> omega
  refine ba_ext2 (by rw [told_size _ _ (by omega), h1]) (fun j hj => ?_)
  rw [told_size _ _ (by omega), h1] at hj
  rw [told_bt _ e (by omega) j (by omega), h1]
  have hr := rotb_rot he' hj
  rw [told_bt s d (by omega) _ hr.2]
  congr 2
  rw [he]
  unfold rot
  split <;> split <;> split <;> omega

/-- What is told so far: the first houses' lamps. -/
def told (n i : Nat) (b : List Nat) : List Int := (List.range n).map fun j => if j < i then (lp b j : Int) else -1
theorem told_len (n i : Nat) (b : List Nat) : (told n i b).length = n := by simp [told]
theorem told_rd (n i : Nat) (b : List Nat) (j : Nat) (h : j < n) : rd (told n i b) (j : Int) = if j < i then (lp b j : Int) else -1 := by
  rw [rd_nat, List.getD_eq_getElem?_getD]
  simp [told, h]
theorem told_zero (n : Nat) : told n 0 [] = free n := by
  refine List.ext_getElem (by simp [told, free]) (fun j h1 h2 => ?_)
  simp [told, free]
theorem told_set (n i : Nat) (b : List Nat) (hb : ∀ a ∈ b, a < i) (hi : i < n) (x : Nat) (b' : List Nat) (hx : lp b' i = x) (h : ∀ j, j < i → lp b' j = lp b j) (l : List Int) (hl : l.length = n) (hlr : ∀ j, j < n → j ≠ i → rd l (j : Int) = rd (told n i b) (j : Int)) : l.set i (x : Int) = told n (i + 1) b' := by
  refine List.ext_getElem (by rw [List.length_set, told_len, hl]) (fun j h1 h2 => ?_)
  have hj : j < n := by rw [told_len] at h2; exact h2
  have hr := told_rd n (i + 1) b' j hj
  rw [rd_nat, List.getD_eq_getElem?_getD, List.getElem?_eq_getElem h2] at hr
  have hr : (told n (i + 1) b')[j] = if j < i + 1 then (lp b' j : Int) else -1 := hr
  rw [hr, List.getElem_set]
  by_cases e : i = j
  · subst e
    rw [if_pos rfl, if_pos (by omega), hx]
  · rw [if_neg e]
    have z := hlr j hj (fun q => e q.symm)
    rw [told_rd n i b j hj, rd_nat, List.getD_eq_getElem?_getD, List.getElem?_eq_getElem (by omega)] at z
    have z : l[j] = if j < i then (lp b j : Int) else -1 := z
    rw [z]
    by_cases q : j < i
    · rw [if_pos q, if_pos (by omega), h j q]
    · rw [if_neg q, if_neg (by omega)]
theorem lp_eq {A B : List Nat} {j : Nat} (h : lp A j = lp B j) : j ∈ A ↔ j ∈ B := by
  rw [← lp_one, ← lp_one, h]
/-- One house more: whether there is a least list with it. -/
theorem step_iff (s : ByteArray) (ring : Bool) (hs : 1 ≤ s.size) {K : Nat} (hm : ∀ m, m < K → En (okL s ring) s.size 0 m [] = []) {i : Nat} (hi : i < s.size) {b : List Nat} (hb : b.Pairwise (· < ·)) (hbi : ∀ a ∈ b, a < i) {m : Nat} (hbm : b.length + m = K) (own cnt : Nat) (e : impl_rowLamps.out (ms (QA s (told s.size (i + 1) (b ++ [i])) (ring && decide ((s.size : Int) > 2)))) = (own, cnt)) :
    (cnt > 0 ∧ own = K) ↔ ∃ m', m = m' + 1 ∧ En (okL s ring) (s.size - (i + 1)) (i + 1) m' (b ++ [i]) ≠ [] := by
  have hbi' : ∀ a ∈ b ++ [i], a < i + 1 := fun a ha => by
    rcases List.mem_append.1 ha with ha | ha
    · have := hbi a ha; omega
    · simp at ha; omega
  have hbp : (b ++ [i]).Pairwise (· < ·) := List.pairwise_append.2 ⟨hb, by simp, fun a ha c hc => by simp at hc; have := hbi a ha; omega⟩
  have M : ∀ L, L ∈ QA s (told s.size (i + 1) (b ++ [i])) (ring && decide ((s.size : Int) > 2)) ↔ (okL s ring L = true ∧ L.Pairwise (· < ·) ∧ ∀ a ∈ L, a < s.size) ∧ ∀ j, j < i + 1 → lp L j = lp (b ++ [i]) j := fun L => by
    rw [mem_QA s _ _ hs, lit_iff]
    refine ⟨fun h => ⟨h.1, fun j hj => ?_⟩, fun h => ⟨h.1, fun j hj => ?_⟩⟩
    · have := h.2 j (by omega)
      rw [told_rd _ _ _ _ (by omega), if_pos hj] at this
      have h1 := lp_lt L j
      have h2 := lp_lt (b ++ [i]) j
      omega
    · rw [told_rd _ _ _ _ hj]
      have h1 := lp_lt L j
      split
      · rename_i hj2
        have := h.2 j hj2
        omega
      · omega
  have LE : ∀ L, L ∈ QA s (told s.size (i + 1) (b ++ [i])) (ring && decide ((s.size : Int) > 2)) → K ≤ L.length := fun L hL => by
    obtain ⟨⟨h1, h2, h3⟩, -⟩ := (M L).1 hL
    by_cases q : L.length < K
    · have := hm L.length q
      have z : L ∈ En (okL s ring) s.size 0 L.length [] := (mem_En _ _ _ _ _ _).2 ⟨h1, L, by simp, h2, fun a ha => ⟨Nat.zero_le _, by have := h3 a ha; omega⟩, rfl⟩
      rw [this] at z
      cases z
    · omega
  constructor
  · rintro ⟨hc, rfl⟩
    cases hq : ms (QA s (told s.size (i + 1) (b ++ [i])) (ring && decide ((s.size : Int) > 2))) with
    | none =>
      rw [hq] at e
      have := (Prod.mk.inj e).2
      omega
    | some r =>
      rw [hq] at e
      have e : r = (own, cnt) := e
      subst e
      obtain ⟨⟨L, hL, hLl⟩, -⟩ := ms_some hq
      obtain ⟨⟨h1, h2, h3⟩, h4⟩ := (M L).1 hL
      obtain ⟨t, ht, ht2, ht3⟩ := inc_split h2 hbp hbi' (fun j hj => lp_eq (h4 j hj))
      have hlen : L.length = b.length + 1 + t.length := by rw [ht]; simp; omega
      refine ⟨t.length, by omega, fun z => ?_⟩
      have zz : L ∈ En (okL s ring) (s.size - (i + 1)) (i + 1) t.length (b ++ [i]) := (mem_En _ _ _ _ _ _).2 ⟨h1, t, ht, ht2, fun a ha => ⟨ht3 a ha, by have := h3 a (by rw [ht]; exact List.mem_append_right _ ha); omega⟩, rfl⟩
      rw [z] at zz
      cases zz
  · rintro ⟨m', rfl, hne⟩
    obtain ⟨L, hL⟩ := List.exists_mem_of_ne_nil _ hne
    obtain ⟨h1, t, ht, ht2, ht3, ht4⟩ := (mem_En _ _ _ _ _ _).1 hL
    have hin : L ∈ QA s (told s.size (i + 1) (b ++ [i])) (ring && decide ((s.size : Int) > 2)) := (M L).2 ⟨⟨h1, by
      rw [ht]
      exact List.pairwise_append.2 ⟨hbp, ht2, fun a ha c hc => by have := hbi' a ha; have := ht3 c hc; omega⟩, fun a ha => by
      rw [ht] at ha
      rcases List.mem_append.1 ha with ha | ha
      · have := hbi' a ha; omega
      · have := ht3 a ha; omega⟩, fun j hj => by
      rw [ht]
      unfold lp
      have : j ∉ t := fun z => by have := ht3 j z; omega
      simp [this]⟩
    have hlen : L.length = K := by rw [ht]; simp [ht4]; omega
    cases hq : ms (QA s (told s.size (i + 1) (b ++ [i])) (ring && decide ((s.size : Int) > 2))) with
    | none => rw [ms_none hq] at hin; cases hin
    | some r =>
      rw [hq] at e
      have e : r = (own, cnt) := e
      subst e
      obtain ⟨⟨u, hu, hul⟩, hall, -, hc1⟩ := ms_some hq
      have h5 := hall L hin
      have h6 := LE u hu
      omega
theorem head_ne {α : Type} {A : List α} (h : A ≠ []) (B : List α) : (A ++ B).head? = A.head? := by
  cases A with
  | nil => exact absurd rfl h
  | cons a A => rfl
theorem first_l0 (s : ByteArray) (ring : Bool) (hs : 1 ≤ s.size ∧ s.size ≤ 20) {K : Nat} (hK : K ≤ s.size) (hm : ∀ m, m < K → En (okL s ring) s.size 0 m [] = []) (v : List Nat) : ∀ i : Nat, i ≤ s.size → ∀ (b : List Nat) (m : Nat), b.Pairwise (· < ·) → (∀ a ∈ b, a < i) → b.length + m = K → (En (okL s ring) (s.size - i) i m b).head? = some v →
    Ev (fun k => impl_FirstLamps.l0 k s ring (told s.size i b) K (im b) (s.size : Int) i) (im v, true) := by
  refine down s.size ?_ ?_
  · intro b m hb hbi hbm hv
    refine succ ?_
    simp only [impl_FirstLamps.l0]
    refine neg (by omega) (conv (now _) ?_)
    have hmem : v ∈ En (okL s ring) (s.size - s.size) s.size m b := List.mem_of_mem_head? (by rw [hv]; rfl)
    obtain ⟨-, t, ht, -, ht3, -⟩ := (mem_En _ _ _ _ _ _).1 hmem
    have : t = [] := by
      cases t with
      | nil => rfl
      | cons a t => have := ht3 a (by simp); omega
    subst this
    rw [List.append_nil] at ht
    rw [ht]
  · intro i hi ih b m hb hbi hbm hv
    have hd : s.size - i = (s.size - (i + 1)) + 1 := by omega
    have hbp : (b ++ [i]).Pairwise (· < ·) := List.pairwise_append.2 ⟨hb, by simp, fun a ha c hc => by simp at hc; have := hbi a ha; omega⟩
    have hset1 : (told s.size i b).set i 1 = told s.size (i + 1) (b ++ [i]) := told_set s.size i b hbi hi 1 (b ++ [i]) (lp_snoc b i) (fun j hj => lp_snoc_ne b (by omega)) _ (told_len _ _ _) (fun j _ _ => rfl)
    have hset0 : (told s.size (i + 1) (b ++ [i])).set i 0 = told s.size (i + 1) b := told_set s.size i b hbi hi 0 b (by unfold lp; rw [if_neg (fun z => by have := hbi i z; omega)]) (fun j _ => rfl) _ (told_len _ _ _) (fun j hj hne => by
      rw [told_rd _ _ _ _ hj, told_rd _ _ _ _ hj]
      by_cases q : j < i
      · rw [if_pos (by omega), if_pos q, lp_snoc_ne b (by omega)]
      · rw [if_neg (by omega), if_neg q])
    have ew : wrap64 ((i : Int) + 1) = ((i + 1 : Nat) : Int) := wnat (by omega)
    obtain ⟨⟨own, cnt⟩, e⟩ : ∃ p, impl_rowLamps.out (ms (QA s (told s.size (i + 1) (b ++ [i])) (ring && decide ((s.size : Int) > 2)))) = p := ⟨_, rfl⟩
    have hiff := step_iff s ring hs.1 hm hi hb hbi hbm own cnt e
    have hbl : b.length ≤ 20 := by omega
    have il := im_len b
    have skip : ¬ (cnt > 0 ∧ own = K) → Ev (fun k => impl_FirstLamps.l0 k s ring (told s.size (i + 1) b) K (im b) (s.size : Int) ((i + 1 : Nat) : Int)) (im v, true) := fun hno => by
      refine ih b m hb (fun a ha => by have := hbi a ha; omega) hbm ?_
      rw [hd] at hv
      cases m with
      | zero => rw [En_zero] at hv ⊢; exact hv
      | succ m =>
        have hE : En (okL s ring) (s.size - (i + 1)) (i + 1) m (b ++ [i]) = [] := by
          cases q : En (okL s ring) (s.size - (i + 1)) (i + 1) m (b ++ [i]) with
          | nil => rfl
          | cons a t => exact absurd (hiff.2 ⟨m, rfl, by rw [q]; simp⟩) hno
        have hv : (En (okL s ring) (s.size - (i + 1)) (i + 1) m (b ++ [i]) ++ En (okL s ring) (s.size - (i + 1)) (i + 1) (m + 1) b).head? = some v := hv
        rw [hE] at hv
        exact hv
    refine succ ?_
    simp only [impl_FirstLamps.l0]
    rw [told_len]
    refine pos (by omega) (pos (by omega) (pos (by omega) ?_))
    simp only [Option.bind_some, Int.toNat_natCast]
    rw [hset1]
    refine bindSome (lamps_f s hs _ (told_len _ _ _) ring) ?_
    rw [e, ew, hset0]
    by_cases c1 : ((cnt : Nat) : Int) > 0
    · refine pos c1 ?_
      by_cases c2 : ((own : Nat) : Int) = (K : Int)
      · refine pos c2 (pos (by omega) ?_)
        obtain ⟨m', rfl, hne⟩ := hiff.1 ⟨by omega, by omega⟩
        rw [← im_snoc]
        refine ih (b ++ [i]) m' hbp (fun a ha => ?_) (by simp; omega) ?_
        · rcases List.mem_append.1 ha with ha | ha
          · have := hbi a ha; omega
          · simp at ha; omega
        · rw [hd] at hv
          have hv : (En (okL s ring) (s.size - (i + 1)) (i + 1) m' (b ++ [i]) ++ En (okL s ring) (s.size - (i + 1)) (i + 1) (m' + 1) b).head? = some v := hv
          rwa [head_ne hne] at hv
      · exact neg c2 (skip (fun z => c2 (by omega)))
    · exact neg c1 (skip (fun z => c1 (by omega)))

/-- A row of signs by a predicate. -/
def row (n : Nat) (P : Nat → Bool) : List Int := (List.range n).map fun i => if P i then 35 else 46
theorem row_length (n : Nat) (P : Nat → Bool) : (row n P).length = n := by simp [row]
theorem row_false (n : Nat) : List.replicate n (46 : Int) = row n fun _ => false := by
  refine List.ext_getElem (by simp [row]) (fun i h1 h2 => ?_)
  simp [row]
theorem row_set (n : Nat) (P : Nat → Bool) (m : Nat) (hm : m < n) : (row n P).set m 35 = row n fun i => P i || decide (m = i) := by
  refine List.ext_getElem (by simp [row]) (fun i h1 h2 => ?_)
  rw [List.getElem_set]
  by_cases e : m = i
  · simp [row, e]
  · rw [if_neg e]
    simp [row, e]
theorem row_congr {n : Nat} {P Q : Nat → Bool} (h : ∀ i, i < n → P i = Q i) : row n P = row n Q := by
  unfold row
  refine List.map_congr_left (fun i hi => ?_)
  rw [h i (List.mem_range.1 hi)]
/-- Which house is lit. -/
def hits (n : Int) (ring : Bool) (x : Int) (i : Nat) : Bool := decide ((if ring = true ∧ n > 2 then Int.tmod (x + n) n else x) = i)
theorem put_f (n : Nat) (hn : 1 ≤ n ∧ n ≤ 20) (ring : Bool) (P : Nat → Bool) (x : Int) (hx : -1 ≤ x ∧ x ≤ n) : impl_LitBy.put n ring (row n P) x = some (row n fun i => P i || hits n ring x i) := by
  unfold impl_LitBy.put
  rw [impl_ring, w64 (x := x + n) (by omega) (by omega), wsub1 (by omega)]
  simp only [Option.bind_some, impl_in]
  have step : ∀ y : Int, y = (if ring = true ∧ (n : Int) > 2 then Int.tmod (x + n) n else x) → some (if decide (0 ≤ y ∧ y ≤ (n : Int) - 1) = true then (row n P).set y.toNat 35 else row n P) = some (row n fun i => P i || hits n ring x i) := by
    intro y hy
    congr 1
    by_cases c : 0 ≤ y ∧ y ≤ (n : Int) - 1
    · rw [if_pos (by simpa using c), row_set n P y.toNat (by omega)]
      refine row_congr (fun i hi => ?_)
      unfold hits
      rw [← hy]
      congr 1
      rw [decide_eq_decide]
      omega
    · rw [if_neg (by simpa using c)]
      refine row_congr (fun i hi => ?_)
      unfold hits
      rw [← hy, show decide (y = (i : Int)) = false from decide_eq_false (by omega)]
      simp
  by_cases r : ring = true ∧ (n : Int) > 2
  · rw [if_pos ⟨by simp [r.1, r.2], by omega⟩]
    simp only [Option.bind_some]
    exact step _ (by rw [if_pos r])
  · rw [if_neg (fun h => r (by simpa using h.1)), if_neg (fun h => r (by simpa using h))]
    simp only [Option.bind_some]
    exact step _ (by rw [if_neg r])
theorem hits_three (n : Nat) (hn : 1 ≤ n) (ring : Bool) (h : Int) (hh : 0 ≤ h ∧ h ≤ (n : Int) - 1) (i : Nat) (hi : i < n) : ((hits n ring (h - 1) i || hits n ring h i) || hits n ring (h + 1) i) = lights n ring h i := by
  unfold hits lights nbr
  by_cases r : ring = true ∧ (n : Int) > 2
  · simp only [if_pos r]
    have t1 : (h - 1 + (n : Int)).tmod n = if h = 0 then (n : Int) - 1 else h - 1 := by
      rw [Int.tmod_eq_emod_of_nonneg (by omega)]
      split
      · rw [Int.emod_eq_of_lt (by omega) (by omega)]; omega
      · rw [show h - 1 + (n : Int) = (h - 1) + n from rfl, Int.add_emod_right, Int.emod_eq_of_lt (by omega) (by omega)]
    have t2 : (h + (n : Int)).tmod n = h := by
      rw [Int.tmod_eq_emod_of_nonneg (by omega), Int.add_emod_right, Int.emod_eq_of_lt (by omega) (by omega)]
    have t3 : (h + 1 + (n : Int)).tmod n = if h = (n : Int) - 1 then 0 else h + 1 := by
      rw [Int.tmod_eq_emod_of_nonneg (by omega), Int.add_emod_right]
      split
      · rw [show h + 1 = (n : Int) by omega, Int.emod_self]
      · rw [Int.emod_eq_of_lt (by omega) (by omega)]
    rw [t1, t2, t3, r.1]
    rw [show decide ((n : Int) > 2) = true from decide_eq_true r.2]
    rw [Bool.eq_iff_iff]
    simp only [Bool.or_eq_true, decide_eq_true_eq, Bool.and_eq_true, true_and]
    split <;> split <;> omega
  · simp only [if_neg r]
    have e : (ring && decide ((n : Int) > 2)) = false := by
      rw [Bool.eq_false_iff]
      intro g
      exact r (by simpa using g)
    rw [e]
    rw [Bool.eq_iff_iff]
    simp only [Bool.or_eq_true, decide_eq_true_eq, Bool.false_and, Bool.false_eq_true, or_false]
    omega
theorem litlamps_f (n : Nat) (hn : 1 ≤ n ∧ n ≤ 20) (ring : Bool) : ∀ (hs : List Int) (P : Nat → Bool), (∀ h ∈ hs, 0 ≤ h ∧ h ≤ (n : Int) - 1) → impl_LitBy.lamps n ring hs (row n P) = some (row n fun i => P i || hs.any fun h => lights n ring h i) := by
  intro hs
  induction hs with
  | nil => intro P _; simp [impl_LitBy.lamps]
  | cons h hs ih =>
    intro P hh
    have h0 := hh h (by simp)
    simp only [impl_LitBy.lamps, impl_LitBy.puts]
    rw [w64 (by omega) (by omega), w64 (by omega) (by omega)]
    rw [put_f n hn ring _ _ (by omega)]
    simp only [Option.bind_some]
    rw [put_f n hn ring _ _ (by omega)]
    simp only [Option.bind_some]
    rw [put_f n hn ring _ _ (by omega)]
    simp only [Option.bind_some]
    rw [ih _ (fun x hx => hh x (by simp [hx]))]
    congr 1
    refine row_congr (fun i hi => ?_)
    rw [List.any_cons, ← hits_three n hn.1 ring h h0 i hi]
    simp only [Bool.or_assoc]
/-- A text of signs. -/
def signs (n : Nat) (P : Nat → Bool) : ByteArray := ⟨((List.range n).map fun i => if P i then (35 : UInt8) else 46).toArray⟩
theorem signs_row (n : Nat) (P : Nat → Bool) : strOfNums (row n P) = signs n P := by
  unfold strOfNums row signs
  congr 2
  rw [List.map_map]
  refine List.map_congr_left (fun i _ => ?_)
  simp only [Function.comp]
  split <;> rfl
theorem signs_succ (n : Nat) (P : Nat → Bool) : signs (n + 1) P = signs n P ++ (if P n then (⟨#[35]⟩ : ByteArray) else ⟨#[46]⟩) := by
  unfold signs
  rw [List.range_succ, List.map_append]
  split <;> rename_i c <;> simp [c, ByteArray.ext_iff]
theorem signs_size (n : Nat) (P : Nat → Bool) : (signs n P).size = n := by
  unfold signs
  show (Array.size _) = n
  simp
theorem rwLit_l0b (n : Nat) (hn : n ≤ 20) (ring : Bool) (hs : List Int) (hl : hs.length ≤ 1048576) (hh : ∀ h ∈ hs, 0 ≤ h ∧ h ≤ (n : Int) - 1) (i : Nat) (hi : i < n) : ∀ j : Nat, j ≤ hs.length → Ev (fun k => spec_rwLit.l0 k n i ring hs hs.length j) ((hs.drop j).any fun h => lights n ring h i) := by
  refine down hs.length ?_ ?_
  · refine succ ?_
    simp only [spec_rwLit.l0]
    exact neg (by omega) (conv (now _) (by simp))
  · intro j hj ih
    refine succ ?_
    simp only [spec_rwLit.l0]
    have hx := hh _ (List.getElem_mem hj)
    rw [wnat (by omega), rd_lt hs j hj]
    refine pos (by omega) (pos (by omega) (pos (by omega) ?_))
    rw [List.drop_eq_getElem_cons hj, List.any_cons]
    rw [spec_next n hs[j] i ring (by omega) (by omega) (by omega) (by omega)]
    simp only [Option.bind_some]
    unfold lights at ih ⊢
    by_cases e : hs[j] = (i : Int)
    · exact pos e (conv (now _) (by simp [e]))
    · refine neg e ?_
      by_cases f : nbr n hs[j] i ring = true
      · exact pos f (conv (now _) (by simp [f]))
      · refine neg f (conv ih ?_)
        simp [e, f]
theorem litBy_l0 (s : ByteArray) (hn : s.size ≤ 20) (ring : Bool) (hs : List Int) (hl : hs.length ≤ 1048576) (hh : ∀ h ∈ hs, 0 ≤ h ∧ h ≤ (s.size : Int) - 1) : ∀ i : Nat, i ≤ s.size → Ev (fun k => spec_LitBy.l0 k s hs ring (signs i fun i => hs.any fun h => lights s.size ring h i) i) (signs s.size fun i => hs.any fun h => lights s.size ring h i, true) := by
  refine down s.size ?_ ?_
  · refine succ ?_
    simp only [spec_LitBy.l0]
    exact neg (by omega) (now _)
  · intro i hi ih
    refine succ ?_
    simp only [spec_LitBy.l0]
    rw [signs_succ] at ih
    rw [wnat (by omega), signs_size]
    refine pos (by omega) ?_
    unfold spec_rwLit.f
    refine bind (rwLit_l0b s.size hn ring hs hl hh i hi 0 (by omega)) ?_
    rw [List.drop_zero]
    by_cases c : (hs.any fun h => lights s.size ring h i) = true
    · rw [if_pos c] at ih
      exact pos c (pos (by omega) ih)
    · rw [if_neg c] at ih
      exact neg c (pos (by omega) ih)

theorem size_wf {s : ByteArray} (hs : s.size ≤ 140737488351232) (by_ : Int) (h : 0 ≤ by_ ∧ by_ ≤ (s.size : Int) - 1) : (s.extract by_.toNat s.size).size + (s.extract 0 by_.toNat).size ≤ 9223372036854775807 := by
  simp only [ByteArray.size_extract]; omega
theorem turn_same (k : Nat) (s : ByteArray) (hs : s.size ≤ 140737488351232) (n : Int) (b : Bool) (h1 : spec_rwRow.f k s = some b) (h2 : impl_IsLitRow.f k s = some b) : ∃ r, spec_TurnRow.f k s n = some r ∧ impl_TurnRow.f k s n = some r := by
  unfold spec_TurnRow.f impl_TurnRow.f
  rw [h1, h2]
  simp only [spec_in, impl_in, Option.bind_some]
  cases b with
  | false => exact ⟨_, rfl, rfl⟩
  | true =>
    simp only [if_true]
    rw [wsub1 (by omega)]
    by_cases h : 0 ≤ n ∧ n ≤ (s.size : Int) - 1
    · rw [if_pos (by simpa using h), if_pos h.1, if_pos (by omega), if_pos (size_wf hs n h)]
      exact ⟨_, rfl, rfl⟩
    · rw [if_neg (by simpa using h)]
      exact ⟨_, rfl, rfl⟩

/-- All numbers of a list are bytes. -/
def Bytes (l : List Int) : Prop := l.length ≤ 1048576 ∧ ∀ x ∈ l, 0 ≤ x ∧ x ≤ 255
theorem u64_range (x : Int) : 0 ≤ IntKind.u64.wrap x ∧ IntKind.u64.wrap x < 18446744073709551616 := by
  simp [IntKind.wrap, IntKind.bits, IntKind.signed]
  omega
theorem next_range {l : List Int} (h : Bytes l) (n : Nat) (s : Int) : 0 ≤ spec_l1Cur_next.val l n s ∧ spec_l1Cur_next.val l n s ≤ 255 := by
  unfold spec_l1Cur_next.val
  split
  · unfold spec_l1Cur_next.byte
    split
    · rename_i h1
      exact h.2 _ (rd_mem l n h1)
    · omega
  · unfold spec_l1Cur_next.bits_ spec_l1Cur_next.seed spec_l1Cur_next.sd
    have hs := u64_range (IntKind.u64.wrap (IntKind.u64.wrap (s * 6364136223846793005) + spec_l1Cur_next.byte l n) + 1442695040888963407)
    generalize IntKind.u64.wrap (IntKind.u64.wrap (IntKind.u64.wrap (s * 6364136223846793005) + spec_l1Cur_next.byte l n) + 1442695040888963407) = x at hs
    have h2 : 0 ≤ x / 1099511627776 ∧ x / 1099511627776 < 18446744073709551616 := by omega
    rw [u64_and _ _ h2.1 h2.2 (by omega) (by omega)]
    have h3 : ((x / 1099511627776).toNat &&& (255 : Int).toNat) ≤ 255 := Nat.and_le_right
    rw [w64 (by omega) (by omega)]
    omega
theorem pick_ok {l : List Int} (h : Bytes l) {n : Nat} {s m : Int} (hn : n ≤ 1000000) (hm : 1 ≤ m ∧ m ≤ 200) : ∃ v n' s', spec_l1Cur_pick.f l n s m = some (v, n', s') ∧ (0 ≤ v ∧ v < m) ∧ n' ≤ n + 1 := by
  unfold spec_l1Cur_pick.f
  by_cases c : m ≤ 1
  · exact ⟨0, n, s, by rw [if_pos c], by omega, by omega⟩
  · have hr := next_range h n s
    refine ⟨_, _, _, by rw [if_neg c, if_pos ⟨hm.2, hn⟩], ?_, Nat.le_refl _⟩
    rw [Int.tmod_eq_emod_of_nonneg hr.1]
    exact ⟨Int.emod_nonneg _ (by omega), Int.emod_lt_of_pos _ (by omega)⟩
theorem one_ok {l : List Int} (h : Bytes l) {n : Nat} {s m : Int} (hn : n ≤ 1000000) (hm : 1 ≤ m ∧ m ≤ 200) : ∃ v n' s', spec_l1Cur_one.f l n s m = some (v, n', s') ∧ n' ≤ n + 1 := by
  obtain ⟨v, n', s', e, -, h2⟩ := pick_ok h (s := s) hn hm
  refine ⟨decide (v = 0), n', s', ?_, h2⟩
  unfold spec_l1Cur_one.f
  rw [e]
  rfl
theorem of_ok {l : List Int} (h : Bytes l) {n : Nat} {s : Int} (hn : n ≤ 1000000) {xs : List ByteArray} (hx : 1 ≤ xs.length ∧ xs.length ≤ 200) : ∃ v n' s', spec_l1Cur_of.f l n s xs = some (v, n', s') ∧ v ∈ xs ∧ n' ≤ n + 1 := by
  obtain ⟨v, n', s', e, h1, h2⟩ := pick_ok h (s := s) hn (m := (xs.length : Int)) (by omega)
  unfold spec_l1Cur_of.f
  rw [e]
  refine ⟨_, n', s', by rw [Option.bind_some, if_pos h1], ?_, h2⟩
  have hlt : v.toNat < xs.length := by omega
  show xs.getD v.toNat _ ∈ xs
  rw [List.getD_eq_getElem?_getD, List.getElem?_eq_getElem hlt]
  exact List.getElem_mem hlt
theorem among_ok {l : List Int} (h : Bytes l) {n : Nat} {s : Int} (hn : n ≤ 1000000) {xs : List Int} (hx : 1 ≤ xs.length ∧ xs.length ≤ 200) : ∃ v n' s', spec_l1Cur_among.f l n s xs = some (v, n', s') ∧ v ∈ xs ∧ n' ≤ n + 1 := by
  obtain ⟨v, n', s', e, h1, h2⟩ := pick_ok h (s := s) hn (m := (xs.length : Int)) (by omega)
  unfold spec_l1Cur_among.f
  rw [e]
  refine ⟨_, n', s', by rw [Option.bind_some, if_pos h1], ?_, h2⟩
  obtain ⟨j, rfl⟩ : ∃ j : Nat, v = (j : Int) := ⟨v.toNat, by omega⟩
  exact rd_mem xs j (by omega)

theorem signs_one : ∀ t ∈ spec_l1Cur_lamps.signs, t.size = 1 := by
  intro t ht
  simp only [spec_l1Cur_lamps.signs, List.mem_cons, List.not_mem_nil, or_false] at ht
  rcases ht with rfl | rfl | rfl <;> rfl
theorem odd_size : ∀ t ∈ spec_l1Cur_lamps.odd, t.size ≤ 21 := by
  intro t ht
  simp only [spec_l1Cur_lamps.odd, List.mem_cons, List.not_mem_nil, or_false] at ht
  rcases ht with rfl | rfl | rfl | rfl | rfl <;> decide
theorem lamps_go {l : List Int} (h : Bytes l) : ∀ (d : Nat) (out : ByteArray) (n : Nat) (s : Int), n + d ≤ 1000000 → out.size + d ≤ 1000 → ∃ t n' s', spec_l1Cur_lamps.go l d out n s = some (t, n', s') ∧ t.size ≤ out.size + d ∧ n' ≤ n + d := by
  intro d
  induction d with
  | zero => intro out n s _ _; exact ⟨out, n, s, rfl, by omega, by omega⟩
  | succ d ih =>
    intro out n s h1 h2
    obtain ⟨t, n1, s1, e, ht, hn⟩ := of_ok h (n := n) (s := s) (by omega) (xs := spec_l1Cur_lamps.signs) (by decide)
    have hz := signs_one t ht
    obtain ⟨t', n', s', e', h3, h4⟩ := ih (out ++ t) n1 s1 (by omega) (by rw [ByteArray.size_append]; omega)
    rw [ByteArray.size_append] at h3
    refine ⟨t', n', s', ?_, by omega, by omega⟩
    simp only [spec_l1Cur_lamps.go]
    rw [e, Option.bind_some, if_pos (by show out.size + t.size ≤ 1000; omega)]
    exact e'
theorem lamps_ok {l : List Int} (h : Bytes l) {n : Nat} {s : Int} (hn : n ≤ 1000) : ∃ t n' s', spec_l1Cur_lamps.f l n s = some (t, n', s') ∧ t.size ≤ 101 ∧ n' ≤ n + 200 := by
  obtain ⟨b, n1, s1, e1, h1⟩ := one_ok h (n := n) (s := s) (m := 12) (by omega) (by omega)
  unfold spec_l1Cur_lamps.f
  rw [e1]
  cases b with
  | true =>
    obtain ⟨t, n2, s2, e2, ht, h2⟩ := of_ok h (n := n1) (s := s1) (by omega) (xs := spec_l1Cur_lamps.odd) (by decide)
    have := odd_size t ht
    exact ⟨t, n2, s2, e2, by omega, by omega⟩
  | false =>
    obtain ⟨p, n2, s2, e2, hp, h2⟩ := pick_ok h (n := n1) (s := s1) (m := 10) (by omega) (by omega)
    obtain ⟨t, n3, s3, e3, h3, h4⟩ := lamps_go h (p.toNat + 1) ⟨#[]⟩ n2 s2 (by omega) (by show 0 + _ ≤ _; omega)
    have h3 : t.size ≤ 0 + (p.toNat + 1) := h3
    refine ⟨t, n3, s3, ?_, by omega, by omega⟩
    show (spec_l1Cur_pick.f l n1 s1 10).bind _ = _
    rw [e2, Option.bind_some, if_pos (by show 0 ≤ p ∧ p ≤ 100; omega)]
    exact e3
theorem some_go {l : List Int} (h : Bytes l) : ∀ (d i : Nat) (out : List Int) (n : Nat) (s : Int), n + d ≤ 1000000 → ∃ t n' s', spec_l1Cur_some.go l d i out n s = some (t, n', s') ∧ t.length ≤ out.length + d ∧ n' ≤ n + d := by
  intro d
  induction d with
  | zero => intro i out n s _; exact ⟨out, n, s, rfl, by omega, by omega⟩
  | succ d ih =>
    intro i out n s h1
    obtain ⟨b, n1, s1, e, hn⟩ := one_ok h (n := n) (s := s) (m := 3) (by omega) (by omega)
    have hz : (if b = true then out ++ [(i : Int)] else out).length ≤ out.length + 1 := by split <;> simp
    obtain ⟨t', n', s', e', h3, h4⟩ := ih (i + 1) (if b = true then out ++ [(i : Int)] else out) n1 s1 (by omega)
    refine ⟨t', n', s', ?_, by omega, by omega⟩
    simp only [spec_l1Cur_some.go]
    rw [e, Option.bind_some]
    exact e'
theorem some_ok {l : List Int} (h : Bytes l) {n : Nat} {s : Int} (hn : n ≤ 1000) {m : Nat} (hm : m ≤ 1000) : ∃ t n' s', spec_l1Cur_some.f l n s m = some (t, n', s') ∧ t.length ≤ m + 1 ∧ n' ≤ n + m + 2 := by
  unfold spec_l1Cur_some.f
  rw [if_pos hm]
  obtain ⟨o, n1, s1, e1, h1, h2⟩ := some_go h m 0 [] n s (by omega)
  have h1 : o.length ≤ 0 + m := h1
  obtain ⟨b, n2, s2, e2, h3⟩ := one_ok h (n := n1) (s := s1) (m := 12) (by omega) (by omega)
  rw [e1, Option.bind_some]
  show ∃ t n' s', ((spec_l1Cur_one.f l n1 s1 12).bind _) = some (t, n', s') ∧ _
  rw [e2, Option.bind_some]
  cases b with
  | true =>
    obtain ⟨v, n3, s3, e3, -, h4⟩ := among_ok h (n := n2) (s := s2) (by omega) (xs := [-1, 0, (m : Int)]) (by simp)
    refine ⟨o ++ [v], n3, s3, ?_, by simp; omega, by omega⟩
    rw [if_pos rfl]
    simp only
    rw [e3]
    rfl
  | false =>
    refine ⟨o, n2, s2, ?_, by omega, by omega⟩
    rw [if_neg Bool.false_ne_true]
theorem draw_fewest {l : List Int} (h : Bytes l) : ∃ row ring, spec_DrawFewestLamps.f l = some (row, ring) ∧ row.size ≤ 101 := by
  obtain ⟨t, n1, s1, e1, h1, h2⟩ := lamps_ok h (n := 0) (s := 0) (by omega)
  obtain ⟨b, n2, s2, e2, h3⟩ := one_ok h (n := n1) (s := s1) (m := 2) (by omega) (by omega)
  refine ⟨t, b, ?_, h1⟩
  unfold spec_DrawFewestLamps.f
  rw [if_pos (show l.length ≤ 1048576 ∧ ∀ x ∈ l, 0 ≤ x ∧ x ≤ 255 from h), e1, Option.bind_some]
  show (spec_l1Cur_one.f l n1 s1 2).map _ = _
  rw [e2]
  rfl
theorem draw_first {l : List Int} (h : Bytes l) : ∃ row ring, spec_DrawFirstLamps.f l = some (row, ring) ∧ row.size ≤ 101 := by
  obtain ⟨row, ring, e, h1⟩ := draw_fewest h
  refine ⟨row, ring, ?_, h1⟩
  unfold spec_DrawFirstLamps.f
  rw [e]
  rfl
theorem draw_litby {l : List Int} (h : Bytes l) : ∃ row lamps ring, spec_DrawLitBy.f l = some (row, lamps, ring) ∧ row.size ≤ 101 ∧ lamps.length ≤ 102 := by
  obtain ⟨t, n1, s1, e1, h1, h2⟩ := lamps_ok h (n := 0) (s := 0) (by omega)
  obtain ⟨o, n3, s3, e3, h4, h5⟩ := some_ok h (n := n1) (s := s1) (by omega) (m := t.size) (by omega)
  obtain ⟨b, n2, s2, e2, h3⟩ := one_ok h (n := n3) (s := s3) (m := 2) (by omega) (by omega)
  refine ⟨t, o, b, ?_, h1, by omega⟩
  unfold spec_DrawLitBy.f
  rw [if_pos (show l.length ≤ 1048576 ∧ ∀ x ∈ l, 0 ≤ x ∧ x ≤ 255 from h), e1, Option.bind_some]
  show (spec_l1Cur_some.f l n1 s1 t.size).bind _ = _
  rw [e3, Option.bind_some]
  show (spec_l1Cur_one.f l n3 s3 2).map _ = _
  rw [e2]
  rfl
theorem draw_guards {l : List Int} (h : Bytes l) : ∃ n ring, spec_DrawFewestGuards.f l = some (n, ring) ∧ 0 ≤ n ∧ n ≤ 21 := by
  obtain ⟨t, n1, s1, e1, ht, h2⟩ := among_ok h (n := 0) (s := 0) (by omega) (xs := [1, 2, 3, 4, 5, 7, 9, 20, 21, 0]) (by simp)
  obtain ⟨b, n2, s2, e2, h3⟩ := one_ok h (n := n1) (s := s1) (m := 2) (by omega) (by omega)
  refine ⟨t, b, ?_, by simp at ht; omega⟩
  unfold spec_DrawFewestGuards.f
  rw [if_pos (show l.length ≤ 1048576 ∧ ∀ x ∈ l, 0 ≤ x ∧ x ≤ 255 from h), e1, Option.bind_some]
  show (spec_l1Cur_one.f l n1 s1 2).map _ = _
  rw [e2]
  rfl
theorem draw_turn {l : List Int} (h : Bytes l) : ∃ row b, spec_DrawTurnRow.f l = some (row, b) ∧ row.size ≤ 101 := by
  obtain ⟨t, n1, s1, e1, h1, h2⟩ := lamps_ok h (n := 0) (s := 0) (by omega)
  obtain ⟨v, n2, s2, e2, hv, h3⟩ := pick_ok h (n := n1) (s := s1) (m := (t.size : Int) + 2) (by omega) (by omega)
  refine ⟨t, v - 1, ?_, h1⟩
  unfold spec_DrawTurnRow.f
  rw [if_pos (show l.length ≤ 1048576 ∧ ∀ x ∈ l, 0 ≤ x ∧ x ≤ 255 from h), e1, Option.bind_some, if_pos (by show t.size ≤ 1000; omega)]
  show (spec_l1Cur_pick.f l n1 s1 ((t.size : Int) + 2)).bind _ = _
  rw [e2, Option.bind_some, if_pos (by show 0 ≤ v ∧ v ≤ 2000; omega)]

/-! ### small loops of the law -/
theorem zsame (xs : List Int) (hx : xs.length ≤ 1048576) : Ev (fun k => laws_zSame.f k xs xs) true := by
  have key : ∀ i : Nat, i ≤ xs.length → Ev (fun k => laws_zSame.l0 k xs xs xs.length i) true := by
    refine down xs.length ?_ ?_
    · refine succ ?_
      simp only [laws_zSame.l0]
      exact neg (by omega) (now _)
    · intro i hi ih
      refine succ ?_
      simp only [laws_zSame.l0]
      rw [wnat (by omega)]
      exact pos (by omega) (pos (by omega) (pos (by omega) (pos (by omega) (pos trivial ih))))
  unfold laws_zSame.f
  exact pos rfl (key 0 (Nat.zero_le _))
theorem zrises (xs : List Int) (hx : xs.length ≤ 1048576) (h : ∀ j : Nat, (hj : j + 1 < xs.length) → xs[j] < xs[j + 1]) : Ev (fun k => laws_zRises.f k xs) true := by
  have key : ∀ i : Nat, i ≤ xs.length → 1 ≤ i → Ev (fun k => laws_zRises.l0 k xs i) true := by
    refine down xs.length ?_ ?_
    · intro h0
      refine succ ?_
      simp only [laws_zRises.l0]
      exact neg (by omega) (now _)
    · intro i hi ih h0
      refine succ ?_
      simp only [laws_zRises.l0]
      obtain ⟨j, rfl⟩ : ∃ j, i = j + 1 := ⟨i - 1, by omega⟩
      rw [wnat (by omega), wsub1 (by omega), show (((j + 1 : Nat) : Int) - 1) = (j : Int) by omega, rd_lt xs j (by omega), rd_lt xs (j + 1) hi]
      have := h j hi
      exact pos (by omega) (pos (by omega) (pos (by omega) (pos (by omega) (neg (by omega) (ih (by omega))))))
  unfold laws_zRises.f
  by_cases c : 1 ≤ xs.length
  · exact key 1 c (Nat.le_refl _)
  · refine succ ?_
    simp only [laws_zRises.l0]
    exact neg (by omega) (now _)
theorem zhas (xs : List Int) (hx : xs.length ≤ 1048576) (a : Int) : Ev (fun k => laws_zHas.f k xs a) (decide (a ∈ xs)) := by
  have key : ∀ i : Nat, i ≤ xs.length → Ev (fun k => laws_zHas.l0 k a xs xs.length i) (decide (a ∈ xs.drop i)) := by
    refine down xs.length ?_ ?_
    · refine succ ?_
      simp only [laws_zHas.l0]
      exact neg (by omega) (conv (now _) (by simp))
    · intro i hi ih
      refine succ ?_
      simp only [laws_zHas.l0]
      rw [wnat (by omega), rd_lt xs i hi]
      refine pos (by omega) (pos (by omega) (pos (by omega) ?_))
      rw [List.drop_eq_getElem_cons hi]
      by_cases e : xs[i] = a
      · exact pos e (conv (now _) (by simp [e]))
      · refine neg e (conv ih ?_)
        rw [decide_eq_decide, List.mem_cons]
        exact ⟨fun h => .inr h, fun h => h.resolve_left (fun z => e z.symm)⟩
  unfold laws_zHas.f
  exact conv (key 0 (Nat.zero_le _)) (by simp)
/-! ### what the three calls on a row come to -/
theorem ones (s : ByteArray) (ring : Bool) (c : LitRow s) : ∃ (K : Nat) (v : List Nat), En (okL s ring) s.size 0 K [] ≠ [] ∧ (∀ m, m < K → En (okL s ring) s.size 0 m [] = []) ∧ K ≤ s.size ∧ v ∈ En (okL s ring) s.size 0 K [] ∧
    Ev (fun k => impl_FirstLamps.f k s ring) (im v, true) ∧ Ev (fun k => spec_FirstLamps.f k s ring) (im v, true) ∧ Ev (fun k => impl_FewestLamps.f k s ring) ((K : Int), true) ∧ Ev (fun k => spec_FewestLamps.f k s ring) ((K : Int), true) ∧
    Ev (fun k => impl_CountLamps.f k s ring) (((En (okL s ring) s.size 0 K []).length : Int), true) ∧ Ev (fun k => spec_CountLamps.f k s ring) (((En (okL s ring) s.size 0 K []).length : Int), true) := by
  have hs := c.1
  have h1 : s.size ≤ 1048576 := by omega
  obtain ⟨K, e, hk, hm, hK⟩ := ms_En hs.1 (lit_free s ring) (lit_ex s ring)
  obtain ⟨v, hv⟩ : ∃ v, (En (okL s ring) s.size 0 K []).head? = some v := by
    cases q : En (okL s ring) s.size 0 K [] with
    | nil => exact absurd q hk
    | cons a t => exact ⟨a, rfl⟩
  have hl := first_l0 s ring hs hK hm v 0 (Nat.zero_le _) [] K List.Pairwise.nil (fun a ha => by cases ha) (by simp) hv
  rw [told_zero] at hl
  have hr : (res (En (okL s ring) s.size 0 K [])).2 = im v := by
    unfold res
    rw [hv]
    rfl
  have A := impl_IsLitRow_f s (by omega)
  have B := spec_rwRow_f s (by omega)
  have W := rwFew_f s hs ring K hK hk hm
  have cc : litRow s = true := by simpa [litRow] using c
  refine ⟨K, v, hk, hm, hK, List.mem_of_mem_head? (by rw [hv]; rfl), ?_, ?_, ?_, ?_, ?_, ?_⟩
  · unfold impl_FirstLamps.f
    refine bind A (pos cc (bindSome (free_f s hs) (bindSome (lamps_f s hs _ (by simp [free]) ring) ?_)))
    rw [e, show ((free s.size).length : Int) = (s.size : Int) by simp [free]]
    exact hl
  · unfold spec_FirstLamps.f
    exact bind B (pos cc (bind W (conv (now _) (by rw [hr]))))
  · unfold impl_FewestLamps.f
    refine bind A (pos cc (bindSome (free_f s hs) (bindSome (lamps_f s hs _ (by simp [free]) ring) ?_)))
    rw [e]
    exact now _
  · unfold spec_FewestLamps.f
    exact bind B (pos cc (bind W (now _)))
  · unfold impl_CountLamps.f
    refine bind A (pos cc (bindSome (free_f s hs) (bindSome (lamps_f s hs _ (by simp [free]) ring) ?_)))
    rw [e]
    exact now _
  · unfold spec_CountLamps.f
    exact bind B (pos cc (bind W (now _)))
theorem nones (s : ByteArray) (ring : Bool) (hz : s.size ≤ 1048576) (c : ¬ LitRow s) :
    Ev (fun k => impl_FirstLamps.f k s ring) ([], false) ∧ Ev (fun k => spec_FirstLamps.f k s ring) ([], false) ∧ Ev (fun k => impl_FewestLamps.f k s ring) (0, false) ∧ Ev (fun k => spec_FewestLamps.f k s ring) (0, false) ∧
    Ev (fun k => impl_CountLamps.f k s ring) (0, false) ∧ Ev (fun k => spec_CountLamps.f k s ring) (0, false) := by
  have A := impl_IsLitRow_f s (by omega)
  have B := spec_rwRow_f s (by omega)
  have cc : ¬ litRow s = true := by simpa [litRow] using c
  refine ⟨?_, ?_, ?_, ?_, ?_, ?_⟩
  · unfold impl_FirstLamps.f; exact bind A (neg cc (now _))
  · unfold spec_FirstLamps.f; exact bind B (neg cc (now _))
  · unfold impl_FewestLamps.f; exact bind A (neg cc (now _))
  · unfold spec_FewestLamps.f; exact bind B (neg cc (now _))
  · unfold impl_CountLamps.f; exact bind A (neg cc (now _))
  · unfold spec_CountLamps.f; exact bind B (neg cc (now _))
theorem litby_ok (s : ByteArray) (hs : List Int) (ring : Bool) (h2 : hs.length ≤ 1048576) (c : LitRow s) (d : RisesFrom hs 0 ((s.size : Int) - 1) 0) : Ev (fun k => spec_LitBy.f k s hs ring) (signs s.size fun i => hs.any fun h => lights s.size ring h i, true) ∧ Ev (fun k => impl_LitBy.f k s hs ring) (signs s.size fun i => hs.any fun h => lights s.size ring h i, true) := by
  have h1 : s.size ≤ 1048576 := by have := c.1; omega
  unfold spec_LitBy.f impl_LitBy.f spec_l1Rising.f
  rw [wsub1 (by omega)]
  refine ⟨bind (spec_rwRow_f s (by omega)) (pos (by simpa [litRow] using c) (bind (spec_l1Rising_l0 hs 0 _ (by omega) 0 (by omega)) (succ ?_))), bind (impl_IsLitRow_f s (by omega)) (pos (by simpa [litRow] using c) (bind (areHouses_f hs s.size (by omega) (by omega)) (pos (by simpa using d) (pos h1 ?_))))⟩
  · simp only [spec_LitBy.j0]
    refine neg (by simpa using d) ?_
    exact litBy_l0 s c.1.2 ring hs h2 ((rises_iff _ _ _).1 d).2 0 (by omega)
  · rw [row_false, litlamps_f s.size c.1 ring hs _ ((rises_iff _ _ _).1 d).2]
    refine conv (now _) ?_
    rw [signs_row]
    simp
theorem litby_no (s : ByteArray) (hs : List Int) (ring : Bool) (h1 : s.size ≤ 1048576) (h2 : hs.length ≤ 1048576) (g : ¬ (LitRow s ∧ RisesFrom hs 0 ((s.size : Int) - 1) 0)) : Ev (fun k => spec_LitBy.f k s hs ring) (⟨#[]⟩, false) ∧ Ev (fun k => impl_LitBy.f k s hs ring) (⟨#[]⟩, false) := by
  unfold spec_LitBy.f impl_LitBy.f spec_l1Rising.f
  rw [wsub1 (by omega)]
  by_cases c : LitRow s
  · have d : ¬ RisesFrom hs 0 ((s.size : Int) - 1) 0 := fun d => g ⟨c, d⟩
    refine ⟨bind (spec_rwRow_f s (by omega)) (pos (by simpa [litRow] using c) (bind (spec_l1Rising_l0 hs 0 _ (by omega) 0 (by omega)) (succ ?_))), bind (impl_IsLitRow_f s (by omega)) (pos (by simpa [litRow] using c) (bind (areHouses_f hs s.size (by omega) (by omega)) (neg (by simpa using d) (now _))))⟩
    simp only [spec_LitBy.j0]
    exact pos (by simpa using d) (now _)
  · refine ⟨bind (spec_rwRow_f s (by omega)) (neg (by simpa [litRow] using c) (succ ?_)), bind (impl_IsLitRow_f s (by omega)) (neg (by simpa [litRow] using c) (now _))⟩
    simp only [spec_LitBy.j0]
    exact pos (by simp) (now _)
theorem signs_bt (n : Nat) (P : Nat → Bool) (j : Nat) (hj : j < n) : bt (signs n P) (j : Int) = if P j = true then 35 else 46 := by
  have h : j < (signs n P).size := by rw [signs_size]; exact hj
  rw [bt_lt _ j h]
  have e : (signs n P)[j] = if P j = true then 35 else 46 := by
    show (signs n P).data[j] = _
    simp [signs]
  rw [e]
  split <;> rfl
theorem guards_f (n : Nat) (hn : 1 ≤ n ∧ n ≤ 20) (ring : Bool) : impl_FewestGuards.f (n : Int) ring = some ((((n + 2) / 3 : Nat) : Int), true) := by
  unfold impl_FewestGuards.f impl_isRowLength.f
  simp only [impl_in, Option.bind_some]
  rw [if_pos (by simp; omega), w64 (x := (n : Int) + 2) (by omega) (by omega), Int.tdiv_eq_ediv_of_nonneg (by omega), w64 (by omega) (by omega)]
  congr 3
theorem guards_same (n : Int) (hn : -9223372036854775808 ≤ n ∧ n ≤ 9223372036854775807) (ring : Bool) : ∃ g b, impl_FewestGuards.f n ring = some (g, b) ∧ spec_FewestGuards.f n ring = some (g, b) ∧ (b = true → 1 ≤ n ∧ n ≤ 20) := by
  unfold impl_FewestGuards.f impl_isRowLength.f spec_FewestGuards.f spec_rwHouses.f
  simp only [impl_in, spec_in, Option.bind_some]
  by_cases c : 1 ≤ n ∧ n ≤ 20
  · rw [if_pos (by simpa using c)]
    exact ⟨_, _, rfl, rfl, fun _ => c⟩
  · rw [if_neg (by simpa using c)]
    exact ⟨_, _, rfl, rfl, fun h => by cases h⟩
theorem turn_f (s : ByteArray) (c : LitRow s) (d : Nat) (hd : d < s.size) : Ev (fun k => impl_TurnRow.f k s (d : Int)) (told_ s d, true) := by
  have hs := c.1
  unfold impl_TurnRow.f
  refine bind (impl_IsLitRow_f s (by omega)) (pos (by simpa [litRow] using c) ?_)
  rw [wsub1 (by omega), impl_in]
  refine bindSome rfl (pos (by simp; omega) (pos (by omega) (pos (by omega) (pos (size_wf (by omega) _ (by omega)) ?_))))
  rw [Int.toNat_natCast]
  exact now _
/-! ### the row told from its middle on -/
theorem turned_row {s : ByteArray} (c : LitRow s) (d : Nat) (hd : d ≤ s.size) : LitRow (told_ s d) := by
  have he := told_size s d hd
  refine ⟨by rw [he]; exact c.1, fun j _ hj => ?_⟩
  rw [he] at hj
  rw [told_bt s d hd j hj]
  exact c.2 _ (Nat.zero_le _) (rotb_rot hd hj).2
theorem im_rises {v : List Nat} {n : Nat} (h1 : v.Pairwise (· < ·)) (h2 : ∀ a ∈ v, a < n) : RisesFrom (im v) 0 ((n : Int) - 1) 0 := by
  rw [rises_iff]
  refine ⟨fun j hj h0 hl => ?_, fun x hx => ?_⟩
  · have hl' : j < v.length := by rwa [im_len] at hl
    have z := List.pairwise_iff_getElem.1 h1 (j - 1) j (by omega) hl' (by omega)
    simp only [im, List.getElem_map]
    omega
  · obtain ⟨a, ha, rfl⟩ := im_mem hx
    have := h2 a ha
    omega
theorem im_step {v : List Nat} (h1 : v.Pairwise (· < ·)) (j : Nat) (hj : j + 1 < (im v).length) : (im v)[j] < (im v)[j + 1] := by
  have hl' : j + 1 < v.length := by rwa [im_len] at hj
  have z := List.pairwise_iff_getElem.1 h1 j (j + 1) (by omega) hl' (by omega)
  simp only [im, List.getElem_map]
  omega
theorem dark_iff (s : ByteArray) : ∀ j : Nat, laws_FnRowsLit.dark s j = true ↔ ∀ i : Nat, i < j → bt s i ≠ 35 := by
  intro j
  induction j with
  | zero => exact ⟨fun _ i hi => by omega, fun _ => rfl⟩
  | succ j ih =>
    simp only [laws_FnRowsLit.dark]
    by_cases c : bt s (j : Int) = 35
    · rw [if_pos c]
      exact ⟨fun h => (by cases h), fun h => absurd c (h j (by omega))⟩
    · rw [if_neg c, ih]
      constructor
      · intro h i hi
        by_cases e : i = j
        · rw [e]; exact c
        · exact h i (by omega)
      · intro h i hi
        exact h i (by omega)
theorem dark_few {s : ByteArray} {ring : Bool} {K : Nat} (hk : En (okL s ring) s.size 0 K [] ≠ []) (hm : ∀ m, m < K → En (okL s ring) s.size 0 m [] = []) : laws_FnRowsLit.dark s s.size = decide ((K : Int) = 0) := by
  rw [Bool.eq_iff_iff, dark_iff, decide_eq_true_eq]
  constructor
  · intro h
    have z := least_le hm (L := []) ((okL_iff s ring []).2 fun j hj hb => absurd hb (h j hj)) List.Pairwise.nil (fun a ha => by cases ha)
    have : ([] : List Nat).length = 0 := rfl
    omega
  · intro h i hi hb
    obtain rfl : K = 0 := by omega
    obtain ⟨L, hL⟩ := List.exists_mem_of_ne_nil _ hk
    obtain ⟨h1, -, -, h4⟩ := (mem0 _ _ _ _).1 hL
    obtain rfl : L = [] := List.length_eq_zero_iff.1 h4
    obtain ⟨a, ha, -⟩ := (okL_iff s ring []).1 h1 i hi hb
    cases ha
theorem small {s : ByteArray} (c : LitRow s) (j : Nat) (hj : j < s.size) : bt s (j : Int) < 128 := by
  rcases c.2 j (Nat.zero_le _) hj with h | h <;> omega
theorem turned_ok (s : ByteArray) (c : LitRow s) {K : Nat} (hk : En (okL s true) s.size 0 K [] ≠ []) (hm : ∀ m, m < K → En (okL s true) s.size 0 m [] = []) : ∃ n, ∀ k, n ≤ k → laws_FnRowsLit.Turned k s (K : Int) ((En (okL s true) s.size 0 K []).length : Int) := by
  have hs := c.1
  have hd : s.size / 2 < s.size := by omega
  obtain ⟨K', v', hk', hm', -, -, -, -, hf, -, hc, -⟩ := ones (told_ s (s.size / 2)) true (turned_row c (s.size / 2) (by omega))
  obtain ⟨n1, t1⟩ := turn_f s c (s.size / 2) hd
  obtain ⟨n2, t2⟩ := hf
  obtain ⟨n3, t3⟩ := hc
  refine ⟨n1 + n2 + n3, fun k hkk => ⟨told_ s (s.size / 2), (K' : Int), _, true, ?_, t2 k (by omega), t3 k (by omega), fun h2 => ?_⟩⟩
  · have z := t1 k (by omega)
    rwa [show ((s.size / 2 : Nat) : Int) = (s.size : Int) / 2 by omega] at z
  · have E := turn_eq h2 (told_size s (s.size / 2) (by omega)) (by omega) (fun j hj => told_bt s (s.size / 2) (by omega) j hj)
    have e : K' = K := least_same E hk' hm' hk hm
    subst e
    exact ⟨rfl, rfl, by rw [E]⟩
theorem one_all {l : List Int} (h : Bytes l) : ∃ n, ∀ k, n ≤ k → laws_FnRowsLit.One k l := by
  obtain ⟨s, ring, e, hz⟩ := draw_first h
  by_cases c : LitRow s
  · obtain ⟨K, v, hk, hm, hK, hv, f1, f2, f3, f4, f5, f6⟩ := ones s ring c
    have hs := c.1
    obtain ⟨v1, v2, v3, v4⟩ := (mem0 _ _ _ _).1 hv
    have A := impl_IsLitRow_f s (by omega)
    have B := spec_rwRow_f s (by omega)
    have cc : litRow s = true := by simpa [litRow] using c
    rw [cc] at A B
    obtain ⟨n1, f1⟩ := f1
    obtain ⟨n2, f2⟩ := f2
    obtain ⟨n3, f3⟩ := f3
    obtain ⟨n4, f4⟩ := f4
    obtain ⟨n5, f5⟩ := f5
    obtain ⟨n6, f6⟩ := f6
    obtain ⟨n7, A⟩ := A
    obtain ⟨n8, B⟩ := B
    obtain ⟨n9, Z⟩ := zsame (im v) (by rw [im_len]; omega)
    obtain ⟨n10, R⟩ := zrises (im v) (by rw [im_len]; omega) (im_step v2)
    obtain ⟨-, n11, LB⟩ := litby_ok s (im v) ring (by rw [im_len]; omega) c (im_rises v2 v3)
    obtain ⟨K', v', hk', hm', -, hv', -, -, ⟨n12, f3'⟩, -⟩ := ones s false c
    obtain ⟨w1, w2, w3, w4⟩ := (mem0 _ _ _ _).1 hv'
    have TU : ∃ n, ∀ k, n ≤ k → ring = true → laws_FnRowsLit.Turned k s (K : Int) ((En (okL s ring) s.size 0 K []).length : Int) := by
      by_cases r : ring = true
      · subst r
        obtain ⟨n, hn⟩ := turned_ok s c hk hm
        exact ⟨n, fun k hkk _ => hn k hkk⟩
      · exact ⟨0, fun _ _ h => absurd h r⟩
    obtain ⟨n13, TU⟩ := TU
    have hlen : 0 < (En (okL s ring) s.size 0 K []).length := List.length_pos_iff.2 hk
    have hg := least_le hm (gl_ok s ring) (gl_inc s.size) (gl_lt hs.1)
    rw [gl_len] at hg
    have hl := least_le hm (okL_line w1 ring) w2 w3
    refine ⟨n1 + n2 + n3 + n4 + n5 + n6 + n7 + n8 + n9 + n10 + n11 + n12 + n13, fun k hkk => ⟨s, ring, im v, (K : Int), _, true, e, f1 k (by omega), f2 k (by omega), f3 k (by omega), f4 k (by omega), f5 k (by omega), f6 k (by omega), A k (by omega), ?_, Z k (by omega), fun _ => ⟨_, _, _, LB k (by omega), guards_f s.size hs ring, f3' k (by omega), R k (by omega), by rw [im_len, v4], by omega, ⟨signs_size _ _, hs.2⟩, by omega, by omega, fun j hj => ⟨small c j hj, fun hb => ?_⟩, dark_few hk hm, TU k (by omega)⟩⟩⟩
    · show (spec_rwRow.f k s).bind _ = _
      rw [show spec_rwRow.f k s = some true from B k (by omega)]
      rfl
    · obtain ⟨a, ha, hla⟩ := (okL_iff s ring v).1 v1 j hj hb
      rw [signs_bt _ _ _ hj, if_pos]
      rw [List.any_eq_true]
      exact ⟨(a : Int), List.mem_map_of_mem ha, hla⟩
  · obtain ⟨⟨n1, f1⟩, ⟨n2, f2⟩, ⟨n3, f3⟩, ⟨n4, f4⟩, ⟨n5, f5⟩, ⟨n6, f6⟩⟩ := nones s ring (by omega) c
    have A := impl_IsLitRow_f s (by omega)
    have B := spec_rwRow_f s (by omega)
    have cc : litRow s = false := by simpa [litRow] using c
    rw [cc] at A B
    obtain ⟨n7, A⟩ := A
    obtain ⟨n8, B⟩ := B
    obtain ⟨n9, Z⟩ := zsame [] (by simp)
    refine ⟨n1 + n2 + n3 + n4 + n5 + n6 + n7 + n8 + n9, fun k hkk => ⟨s, ring, [], 0, 0, false, e, f1 k (by omega), f2 k (by omega), f3 k (by omega), f4 k (by omega), f5 k (by omega), f6 k (by omega), A k (by omega), ?_, Z k (by omega), fun h => (by cases h)⟩⟩
    show (spec_rwRow.f k s).bind _ = _
    rw [show spec_rwRow.f k s = some false from B k (by omega)]
    rfl
/-! ### the second half -/
theorem all_below {P : Nat → Nat → Prop} : ∀ n : Nat, (∀ j, j < n → ∃ K, ∀ k, K ≤ k → P j k) → ∃ K, ∀ k, K ≤ k → ∀ j, j < n → P j k := by
  intro n
  induction n with
  | zero => intro _; exact ⟨0, fun _ _ j hj => by omega⟩
  | succ n ih =>
    intro h
    obtain ⟨K1, h1⟩ := ih (fun j hj => h j (by omega))
    obtain ⟨K2, h2⟩ := h n (by omega)
    refine ⟨K1 + K2, fun k hk j hj => ?_⟩
    by_cases e : j = n
    · subst e; exact h2 k (by omega)
    · exact h1 k (by omega) j (by omega)
theorem shine_cnt (n : Nat) (P : Nat → Bool) : ∀ m : Nat, m ≤ n → laws_FnRowsLit.shine (signs n P) m = cnt m P := by
  intro m
  induction m with
  | zero => intro _; rfl
  | succ m ih =>
    intro hm
    simp only [laws_FnRowsLit.shine]
    rw [ih (by omega), signs_bt n P m (by omega)]
    unfold cnt
    rw [List.range_succ, List.filter_append, List.length_append]
    by_cases c : P m = true
    · rw [if_pos c, if_pos rfl]
      simp [c]
    · rw [if_neg c, if_neg (by omega)]
      simp [c]
theorem shines_ok (r : ByteArray) (lamps : List Int) (round : Bool) (c : LitRow r) (d : RisesFrom lamps 0 ((r.size : Int) - 1) 0) (hl : lamps.length ≤ 1000) : ∃ n, ∀ k, n ≤ k → laws_FnRowsLit.Shines k (signs r.size fun i => lamps.any fun h => lights r.size round h i) lamps := by
  have hs := c.1
  have hh := ((rises_iff _ _ _).1 d).2
  obtain ⟨n, hn⟩ := all_below (P := fun j k => laws_zHas.f k lamps (j : Int) = some (decide ((j : Int) ∈ lamps))) r.size (fun j _ => zhas lamps (by omega) j)
  refine ⟨n, fun k hk => ⟨by rw [signs_size]; omega, hl, fun j hj => ?_, ?_, ?_⟩⟩
  · rw [signs_size] at hj
    rw [signs_bt _ _ _ hj]
    refine ⟨by split <;> omega, _, hn k hk j hj, fun hb => ?_⟩
    have hb := of_decide_eq_true hb
    rw [if_pos]
    rw [List.any_eq_true]
    exact ⟨_, hb, (lights_iff _ _ _ _).2 (.inl rfl)⟩
  · rw [signs_size, shine_cnt _ _ _ (Nat.le_refl _)]
    exact cnt_any r.size round lamps hh
  · rw [signs_size, shine_cnt _ _ _ (Nat.le_refl _)]
    constructor
    · intro h0
      cases lamps with
      | nil => rfl
      | cons x xs =>
        have hx := hh x (by simp)
        obtain ⟨a, rfl⟩ : ∃ a : Nat, x = (a : Int) := ⟨x.toNat, by omega⟩
        have z := cnt_pos (n := r.size) (P := fun i => ((a : Int) :: xs).any fun h => lights r.size round h i) (i := a) (by omega) (by
          rw [List.any_eq_true]
          exact ⟨_, by simp, (lights_iff _ _ _ _).2 (.inl rfl)⟩)
        omega
    · intro h0
      obtain rfl : lamps = [] := List.length_eq_zero_iff.1 h0
      exact cnt_zero _ (fun i _ => rfl)
theorem full_bt (m j : Nat) (hj : j < m) : bt (laws_FnRowsLit.full m) (j : Int) = 35 := by
  have h : j < (laws_FnRowsLit.full m).size := by rw [laws_FnRowsLit.full_size]; exact hj
  rw [bt_lt _ j h]
  have e : (laws_FnRowsLit.full m)[j] = 35 := by
    show (laws_FnRowsLit.full m).data[j] = _
    simp [laws_FnRowsLit.full]
  rw [e]
  rfl
theorem full_few (m : Nat) (hm : 1 ≤ m ∧ m ≤ 20) (ring : Bool) : Ev (fun k => impl_FewestLamps.f k (laws_FnRowsLit.full m) ring) ((((m + 2) / 3 : Nat) : Int), true) := by
  have he := laws_FnRowsLit.full_size m
  have c : LitRow (laws_FnRowsLit.full m) := ⟨by rw [he]; exact hm, fun j _ hj => .inl (full_bt m j (by rw [he] at hj; exact hj))⟩
  obtain ⟨K, v, hk, hmm, hK, hv, -, -, f3, -⟩ := ones _ ring c
  obtain ⟨v1, v2, v3, v4⟩ := (mem0 _ _ _ _).1 hv
  have h1 := least_le hmm (gl_ok _ ring) (gl_inc _) (gl_lt (by rw [he]; exact hm.1))
  rw [gl_len, he] at h1
  rw [he] at v3
  have h2 := cnt_any m ring (im v) (fun x hx => by
    obtain ⟨a, ha, rfl⟩ := im_mem hx
    have := v3 a ha
    omega)
  rw [cnt_full m (fun i hi => ?_), im_len] at h2
  · have e : K = (m + 2) / 3 := by omega
    rw [← e]
    exact f3
  · obtain ⟨a, ha, hla⟩ := (okL_iff _ ring v).1 v1 i (by rw [he]; exact hi) (full_bt m i hi)
    rw [he] at hla
    rw [List.any_eq_true]
    exact ⟨_, List.mem_map_of_mem ha, hla⟩
theorem turn_fs (s : ByteArray) (c : LitRow s) (d : Nat) (hd : d < s.size) : Ev (fun k => spec_TurnRow.f k s (d : Int)) (told_ s d, true) := by
  have hs := c.1
  unfold spec_TurnRow.f
  refine bind (spec_rwRow_f s (by omega)) (pos (by simpa [litRow] using c) ?_)
  rw [wsub1 (by omega), spec_in]
  refine bindSome rfl (pos (by simp; omega) (pos (by omega) (pos (by omega) (pos (size_wf (by omega) _ (by omega)) ?_))))
  rw [Int.toNat_natCast]
  exact now _
theorem turn_no (s : ByteArray) (b : Int) (hz : s.size ≤ 1048576) (g : ¬ (LitRow s ∧ 0 ≤ b ∧ b < (s.size : Int))) : Ev (fun k => impl_TurnRow.f k s b) (⟨#[]⟩, false) ∧ Ev (fun k => spec_TurnRow.f k s b) (⟨#[]⟩, false) := by
  unfold impl_TurnRow.f spec_TurnRow.f
  by_cases c : LitRow s
  · have hb : ¬ (0 ≤ b ∧ b ≤ (s.size : Int) - 1) := fun h => g ⟨c, h.1, by omega⟩
    rw [wsub1 (by omega), impl_in, spec_in]
    exact ⟨bind (impl_IsLitRow_f s (by omega)) (pos (by simpa [litRow] using c) (bindSome rfl (neg (by simpa using hb) (now _)))), bind (spec_rwRow_f s (by omega)) (pos (by simpa [litRow] using c) (bindSome rfl (neg (by simpa using hb) (now _))))⟩
  · exact ⟨bind (impl_IsLitRow_f s (by omega)) (neg (by simpa [litRow] using c) (now _)), bind (spec_rwRow_f s (by omega)) (neg (by simpa [litRow] using c) (now _))⟩
theorem neg_mod (d n : Nat) (hd : d < n) : (-(d : Int)) % (n : Int) = ((if d = 0 then 0 else n - d : Nat) : Int) := by
  by_cases c : d = 0
  · subst c
    simp
  · rw [if_neg c, ← Int.add_emod_right, Int.emod_eq_of_lt (by omega) (by omega)]
    omega
theorem turn_all (t : ByteArray) (b : Int) (hz : t.size ≤ 101) : ∃ turned nine, (∃ n, ∀ k, n ≤ k → impl_TurnRow.f k t b = some (turned, nine)) ∧ (∃ n, ∀ k, n ≤ k → spec_TurnRow.f k t b = some (turned, nine)) ∧ ∃ n, ∀ k, n ≤ k → nine = true → 0 ≤ b ∧ b < (t.size : Int) ∧ impl_TurnRow.f k turned (-b % (t.size : Int)) = some (t, true) := by
  by_cases g : LitRow t ∧ 0 ≤ b ∧ b < (t.size : Int)
  · obtain ⟨c, h1, h2⟩ := g
    obtain ⟨d, rfl⟩ : ∃ d : Nat, b = (d : Int) := ⟨b.toNat, by omega⟩
    have hd : d < t.size := by omega
    refine ⟨_, _, turn_f t c d hd, turn_fs t c d hd, ?_⟩
    obtain ⟨n, hn⟩ := turn_f (told_ t d) (turned_row c d (by omega)) (if d = 0 then 0 else t.size - d) (by rw [told_size _ _ (by omega)]; split <;> omega)
    refine ⟨n, fun k hk _ => ⟨h1, h2, ?_⟩⟩
    rw [neg_mod d t.size hd, show impl_TurnRow.f k (told_ t d) _ = _ from hn k hk, told_back t d hd _ rfl]
  · obtain ⟨h1, h2⟩ := turn_no t b (by omega) g
    exact ⟨_, _, h1, h2, 0, fun _ _ h => by cases h⟩
theorem lit_all (r : ByteArray) (lamps : List Int) (round : Bool) (hz : r.size ≤ 101) (hl : lamps.length ≤ 102) : ∃ lit five, (∃ n, ∀ k, n ≤ k → impl_LitBy.f k r lamps round = some (lit, five)) ∧ (∃ n, ∀ k, n ≤ k → spec_LitBy.f k r lamps round = some (lit, five)) ∧ ∃ n, ∀ k, n ≤ k → five = true → laws_FnRowsLit.Shines k lit lamps := by
  by_cases g : LitRow r ∧ RisesFrom lamps 0 ((r.size : Int) - 1) 0
  · obtain ⟨h1, h2⟩ := litby_ok r lamps round (by omega) g.1 g.2
    obtain ⟨n, hn⟩ := shines_ok r lamps round g.1 g.2 (by omega)
    exact ⟨_, _, h2, h1, n, fun k hk _ => hn k hk⟩
  · obtain ⟨h1, h2⟩ := litby_no r lamps round (by omega) (by omega) g
    exact ⟨_, _, h2, h1, 0, fun _ _ h => by cases h⟩
theorem two_all {l : List Int} (h : Bytes l) : ∃ n, ∀ k, n ≤ k → laws_FnRowsLit.Two k l := by
  obtain ⟨r, lamps, round, e1, hz1, hl1⟩ := draw_litby h
  obtain ⟨n, around, e2, hn1, hn2⟩ := draw_guards h
  obtain ⟨t, b, e3, hz3⟩ := draw_turn h
  obtain ⟨lit, five, ⟨n1, f1⟩, ⟨n2, f2⟩, n3, f3⟩ := lit_all r lamps round hz1 hl1
  obtain ⟨turned, nine, ⟨n4, f4⟩, ⟨n5, f5⟩, n6, f6⟩ := turn_all t b hz3
  obtain ⟨guards, seven, g1, g2, g3⟩ := guards_same n (by omega) around
  have G : ∃ N, ∀ k, N ≤ k → seven = true → n ≤ 9 → 0 ≤ n ∧ impl_FewestLamps.f k (laws_FnRowsLit.full n.toNat) around = some (guards, true) := by
    by_cases c : seven = true
    · have hc := g3 c
      obtain ⟨m, rfl⟩ : ∃ m : Nat, n = (m : Int) := ⟨n.toNat, by omega⟩
      rw [guards_f m (by omega) around] at g1
      obtain ⟨rfl, -⟩ := Prod.mk.inj (Option.some.inj g1)
      obtain ⟨N, hN⟩ := full_few m (by omega) around
      exact ⟨N, fun k hk _ _ => ⟨hn1, by rw [Int.toNat_natCast]; exact hN k hk⟩⟩
    · exact ⟨0, fun _ _ h => absurd h c⟩
  obtain ⟨n7, f7⟩ := G
  exact ⟨n1 + n2 + n3 + n4 + n5 + n6 + n7, fun k hk => ⟨r, lamps, round, five, lit, n, guards, around, seven, t, turned, b, nine, e1, f1 k (by omega), f2 k (by omega), e2, g1, g2, e3, f4 k (by omega), f5 k (by omega), f3 k (by omega), f7 k (by omega), f6 k (by omega), by omega⟩⟩
theorem both_f (l0 l1 : List Int) (h0 : l0.length ≤ 140737488355327) (h1 : l1.length ≤ 140737488355327) (b0 : ∀ x ∈ l0, 0 ≤ x ∧ x ≤ 255) (b1 : ∀ x ∈ l1, 0 ≤ x ∧ x ≤ 255) : laws_FnRowsLit.f l0 l1 = some true := by
  unfold laws_FnRowsLit.f
  split
  · rfl
  · rename_i g
    have hb : laws_big.f l0 l1 = some true := by
      unfold laws_big.f
      by_cases c : (l0.length : Int) > 1048576
      · rw [if_pos c]
      · rw [if_neg c, w64 (by omega) (by omega)]
        by_cases d : (l1.length : Int) > 1048576 - (l0.length : Int)
        · rw [decide_eq_true d]
        · refine absurd ?_ g
          obtain ⟨n1, f1⟩ := one_all (l := l0) ⟨by omega, b0⟩
          obtain ⟨n2, f2⟩ := two_all (l := l1) ⟨by omega, b1⟩
          refine ⟨n1 + n2, ?_, f1 _ (by omega), f2 _ (by omega)⟩
          unfold laws_big.f
          rw [if_neg c, w64 (by omega) (by omega), decide_eq_false d]
    rw [if_pos hb]
theorem FnRowsLit : laws_FnRowsLit.Pure := by
  intro l0 l1 hm0 hs0 hw0 hm1 hs1 hw1
  have bytes : ∀ {l : List Int}, (∀ x ∈ l, (Lit.int .u8 x).wf = true) → ∀ x ∈ l, 0 ≤ x ∧ x ≤ 255 := fun {l} h x hx => by
    have z := h x hx
    simp [Lit.wf, IntKind.wrap, IntKind.bits, IntKind.signed] at z
    have e1 : IntKind.u8.min = 0 := by decide
    have e2 : IntKind.u8.max = 255 := by decide
    omega
  exact both_f l0 l1 (by omega) (by omega) (bytes hw0) (bytes hw1)

end Go.Proofs.Ytlmenkhklpfefaa.Pure
