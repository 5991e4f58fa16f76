/- The plain law of FnExactParsePeople: the program and the reference read the same people out of every text, at every input within the bounds that the print tells. -/
import Derived.Test.YtgpnnepagfnfgaaDoorMZx3
import Derived.Test.YtgpnnepagfnfgaaDoorLib
namespace Go.Proofs.YtgpnnepagfnfgaaDoor.Pure
open Go.RowKit Go.Proofs.YtgpnnepagfnfgaaDoor.MZ Go.Proofs.YtgpnnepagfnfgaaDoorW.PrintWords Go.Proofs.YtgpnnepagfnfgaaDoorW.PrintLast Go.Proofs.YtgpnnepagfnfgaaDoorW.PrintMore Go.Proofs.YtgpnnepagfnfgaaDoor.Lib
set_option linter.unusedVariables false
set_option linter.unusedSimpArgs false

theorem spec_in (a b c : Int) : spec_l1In.f a b c = some (decide (b ≤ a ∧ a ≤ c)) := by
  unfold spec_l1In.f
  by_cases h : a ≥ b
  · rw [if_pos h]; simp [show b ≤ a from h]
  · rw [if_neg h]; simp [show ¬ b ≤ a from h]
theorem impl_in (a b c : Int) : impl_within.f a b c = some (decide (b ≤ a ∧ a ≤ c)) := by
  unfold impl_within.f
  by_cases h : a ≥ b
  · rw [if_pos h]; simp [show b ≤ a from h]
  · rw [if_neg h]; simp [show ¬ b ≤ a from h]

theorem eqIntS_l0 (xs ys : List Int) (hx : xs.length ≤ 35184372088832) (hl : xs.length = ys.length) : ∀ i : Nat, i ≤ xs.length → Ev (fun k => laws_eqIntS.l0 k xs ys i) (decide (xs.drop i = ys.drop i)) := by
  refine down xs.length ?_ ?_
  · refine succ ?_
    simp only [laws_eqIntS.l0]
    exact neg (by omega) (conv (now _) (by simp [hl]))
  · intro i hi ih
    refine succ ?_
    simp only [laws_eqIntS.l0]
    rw [wnat (by omega)]
    refine pos (by omega) (pos (by omega) (pos (by omega) ?_))
    rw [rd_lt xs i hi, rd_lt ys i (by omega)]
    by_cases e : xs[i] = ys[i]'(by omega)
    · exact pos e (conv ih (by rw [decide_eq_decide, drop_iff hi (by omega)]; exact ⟨fun h => ⟨e, h⟩, fun h => h.2⟩))
    · exact neg e (conv (now _) (Eq.symm (decide_eq_false (by rw [drop_iff hi (by omega)]; exact fun h => e h.1))))
theorem eqIntS_f (xs ys : List Int) (hx : xs.length ≤ 35184372088832) : Ev (fun k => laws_eqIntS.f k xs ys) (decide (xs = ys)) := by
  unfold laws_eqIntS.f
  by_cases e : xs.length = ys.length
  · exact pos (by omega) (conv (eqIntS_l0 xs ys hx e 0 (by omega)) (by simp))
  · exact neg (by omega) (conv (now _) (by simp; intro h; exact e (by rw [h])))
theorem eqIntS_same (xs : List Int) (hx : xs.length ≤ 35184372088832) : Ev (fun k => laws_eqIntS.f k xs xs) true := conv (eqIntS_f xs xs hx) (by simp)

/-- What a marked row holds: 1, 2, .. -/
def marked (n : Nat) : List Int := (List.range n).map fun (j : Nat) => (j : Int) + 1
theorem markIntS_l0 (n : Nat) (hn : n ≤ 35184372088832) : ∀ i : Nat, i ≤ n → ∀ ys : List Int, ys.length = n → (∀ j : Nat, j < i → ys.getD j 0 = (j : Int) + 1) → Ev (fun k => laws_markIntS.l0 k ys ((i : Int) + 1) i) ((n : Int) + 1, marked n) := by
  refine down n ?_ ?_
  · intro ys hl hy
    refine succ ?_
    simp only [laws_markIntS.l0]
    refine neg (by omega) (conv (now _) ?_)
    congr 1
    refine List.ext_getElem (by simp [marked, hl]) (fun j h1 h2 => ?_)
    have := hy j (by omega)
    simp only [marked, List.getElem_map, List.getElem_range]
    simpa [h1] using this
  · intro i hi ih ys hl hy
    refine succ ?_
    simp only [laws_markIntS.l0]
    rw [wnat (by omega), w64 (x := (i : Int) + 1 + 1) (by omega) (by omega), show (i : Int) + 1 + 1 = ((i + 1 : Nat) : Int) + 1 by omega]
    refine pos (by omega) (pos (by omega) ?_)
    refine ih _ (by simp [hl]) (fun j hj => ?_)
    simp only [Int.toNat_natCast]
    by_cases e : j = i
    · subst e
      simp [hl, hi]
    · rw [List.getD_eq_getElem?_getD, List.getElem?_set_ne (Ne.symm e), ← List.getD_eq_getElem?_getD]
      exact hy j (by omega)
theorem markIntS_f (xs : List Int) (hn : xs.length ≤ 35184372088832) : Ev (fun k => laws_markIntS.f k xs 1) ((xs.length : Int) + 1, marked xs.length) := by
  unfold laws_markIntS.f
  exact markIntS_l0 xs.length hn 0 (by omega) xs rfl (fun j hj => by omega)
theorem marked_rd (n i : Nat) (h : i < n) : rd (marked n) (i : Int) = (i : Int) + 1 := by
  rw [rd_lt _ _ (by simpa [marked] using h)]
  simp [marked]
theorem heldIntS_l0 (n : Nat) (hn : n ≤ 35184372088832) : ∀ i : Nat, i ≤ n → Ev (fun k => laws_heldIntS.l0 k (marked n) ((i : Int) + 1) i) ((n : Int) + 1) := by
  have hl : (marked n).length = n := by simp [marked]
  refine down n ?_ ?_
  · refine succ ?_
    simp only [laws_heldIntS.l0]
    exact neg (by omega) (now _)
  · intro i hi ih
    refine succ ?_
    simp only [laws_heldIntS.l0]
    rw [wnat (by omega), w64 (x := (i : Int) + 1 + 1) (by omega) (by omega), show (i : Int) + 1 + 1 = ((i + 1 : Nat) : Int) + 1 by omega]
    exact pos (by omega) (pos (by omega) (pos (marked_rd n i hi) ih))
theorem heldIntS_f (n : Nat) (hn : n ≤ 35184372088832) : Ev (fun k => laws_heldIntS.f k (marked n) 1) ((n : Int) + 1) := by
  unfold laws_heldIntS.f
  exact heldIntS_l0 n hn 0 (by omega)

theorem spec_l1All_l0 (xs : List Int) (a b : Int) (hx : xs.length ≤ 35184372088832) : ∀ i : Nat, i ≤ xs.length → Ev (fun k => spec_l1All.l0 k a b xs xs.length i) (decide (∀ x ∈ xs.drop i, a ≤ x ∧ x ≤ b)) := by
  refine down xs.length ?_ ?_
  · refine succ ?_
    simp only [spec_l1All.l0]
    exact neg (by omega) (conv (now _) (by simp))
  · intro i hi ih
    refine succ ?_
    simp only [spec_l1All.l0, spec_in, Option.bind_some]
    rw [wnat (by omega)]
    refine pos (by omega) (pos (by omega) (pos (by omega) ?_))
    rw [rd_lt xs i hi]
    by_cases e : a ≤ xs[i] ∧ xs[i] ≤ b
    · exact pos (by simpa using e) (conv ih (by rw [decide_eq_decide, all_drop hi]; exact ⟨fun h => ⟨e, h⟩, fun h => h.2⟩))
    · exact neg (by simpa using e) (conv (now _) (Eq.symm (decide_eq_false (by rw [all_drop hi]; exact fun h => e h.1))))
theorem spec_l1All_f (xs : List Int) (a b : Int) (hx : xs.length ≤ 35184372088832) : Ev (fun k => spec_l1All.f k xs a b) (decide (∀ x ∈ xs, a ≤ x ∧ x ≤ b)) :=
  spec_l1All_l0 xs a b hx 0 (by omega)

theorem impl_allWithin_l0 (xs : List Int) (a b : Int) (hx : xs.length ≤ 35184372088832) : ∀ i : Nat, i ≤ xs.length → Ev (fun k => impl_allWithin.l0 k a b xs xs.length i) (decide (∀ x ∈ xs.drop i, a ≤ x ∧ x ≤ b)) := by
  refine down xs.length ?_ ?_
  · refine succ ?_
    simp only [impl_allWithin.l0]
    exact neg (by omega) (conv (now _) (by simp))
  · intro i hi ih
    refine succ ?_
    simp only [impl_allWithin.l0, impl_in, Option.bind_some]
    rw [wnat (by omega)]
    refine pos (by omega) (pos (by omega) (pos (by omega) ?_))
    rw [rd_lt xs i hi]
    by_cases e : a ≤ xs[i] ∧ xs[i] ≤ b
    · exact pos (by simpa using e) (conv ih (by rw [decide_eq_decide, all_drop hi]; exact ⟨fun h => ⟨e, h⟩, fun h => h.2⟩))
    · exact neg (by simpa using e) (conv (now _) (Eq.symm (decide_eq_false (by rw [all_drop hi]; exact fun h => e h.1))))
theorem impl_allWithin_f (xs : List Int) (a b : Int) (hx : xs.length ≤ 35184372088832) : Ev (fun k => impl_allWithin.f k xs a b) (decide (∀ x ∈ xs, a ≤ x ∧ x ≤ b)) :=
  impl_allWithin_l0 xs a b hx 0 (by omega)

/-- What people hold. -/
def Q (vs : List Int) : Prop := (1 ≤ vs.length ∧ vs.length ≤ 60) ∧ ∀ i : Nat, 0 ≤ rd vs i ∧ rd vs i ≤ 1000
theorem q_of {vs : List Int} (h : 1 ≤ vs.length ∧ vs.length ≤ 60) (hv : ∀ x ∈ vs, 0 ≤ x ∧ x ≤ 1000) : Q vs := by
  refine ⟨h, fun i => ?_⟩
  by_cases c : i < vs.length
  · exact hv _ (rd_mem vs i c)
  · simp [rd, c]
theorem spec_sum_l0 {vs : List Int} (hv : Q vs) : ∀ i : Nat, i ≤ vs.length → ∀ s : Int, 0 ≤ s → s ≤ 1000 * i → Ev (fun k => spec_mdSum.l0 k s vs vs.length i) (s + (vs.drop i).sum) := by
  have hl := hv.1
  refine down vs.length ?_ ?_
  · intro s _ _
    refine succ ?_
    simp only [spec_mdSum.l0]
    exact neg (by omega) (conv (now _) (by simp))
  · intro i hi ih s h0 h1
    have hb := hv.2 i
    refine succ ?_
    simp only [spec_mdSum.l0]
    rw [wnat (by omega), w64 (by omega) (by omega)]
    refine pos (by omega) (pos (by omega) (pos (by omega) (conv (ih _ (by omega) (by omega)) ?_)))
    rw [List.drop_eq_getElem_cons hi, List.sum_cons, rd_lt vs i hi]
    omega
theorem impl_sum_l0 {vs : List Int} (hv : Q vs) : ∀ i : Nat, i ≤ vs.length → ∀ s : Int, 0 ≤ s → s ≤ 1000 * i → Ev (fun k => impl_sumOf.l0 k s vs vs.length i) (s + (vs.drop i).sum) := by
  have hl := hv.1
  refine down vs.length ?_ ?_
  · intro s _ _
    refine succ ?_
    simp only [impl_sumOf.l0]
    exact neg (by omega) (conv (now _) (by simp))
  · intro i hi ih s h0 h1
    have hb := hv.2 i
    refine succ ?_
    simp only [impl_sumOf.l0]
    rw [wnat (by omega), w64 (by omega) (by omega)]
    refine pos (by omega) (pos (by omega) (pos (by omega) (conv (ih _ (by omega) (by omega)) ?_)))
    rw [List.drop_eq_getElem_cons hi, List.sum_cons, rd_lt vs i hi]
    omega
/-- People. -/
def People (vs : List Int) : Prop := ((1 ≤ vs.length ∧ vs.length ≤ 60) ∧ ∀ x ∈ vs, 0 ≤ x ∧ x ≤ 1000) ∧ 0 < vs.sum
instance (vs : List Int) : Decidable (People vs) := by unfold People; infer_instance
theorem good_spec (vs : List Int) (hx : vs.length ≤ 35184372088832) : Ev (fun k => spec_mdGood.f k vs) (decide (People vs)) := by
  unfold spec_mdGood.f
  rw [spec_in]
  refine bind (now _) ?_
  by_cases c : 1 ≤ (vs.length : Int) ∧ (vs.length : Int) ≤ 60
  · refine pos (by simpa using c) (bind (spec_l1All_f vs 0 1000 hx) ?_)
    by_cases d : ∀ x ∈ vs, 0 ≤ x ∧ x ≤ 1000
    · refine pos (by simpa using d) ?_
      unfold spec_mdSum.f
      refine conv (bind (spec_sum_l0 (q_of (by omega) d) 0 (by omega) 0 (by omega) (by omega)) (now _)) ?_
      rw [decide_eq_decide]
      simp only [List.drop_zero]
      exact ⟨fun g => ⟨⟨by omega, d⟩, by omega⟩, fun g => by have := g.2; omega⟩
    · refine neg (by simpa using d) (conv (now _) (Eq.symm (decide_eq_false (fun g => d g.1.2))))
  · refine neg (by simpa using c) (conv (now _) (Eq.symm (decide_eq_false (fun g => c (by have := g.1.1; omega)))))
theorem good_impl (vs : List Int) (hx : vs.length ≤ 35184372088832) : Ev (fun k => impl_ArePeople.f k vs) (decide (People vs)) := by
  unfold impl_ArePeople.f
  rw [impl_in]
  refine bind (now _) ?_
  by_cases c : 1 ≤ (vs.length : Int) ∧ (vs.length : Int) ≤ 60
  · refine pos (by simpa using c) (bind (impl_allWithin_f vs 0 1000 hx) ?_)
    by_cases d : ∀ x ∈ vs, 0 ≤ x ∧ x ≤ 1000
    · refine pos (by simpa using d) ?_
      unfold impl_sumOf.f
      refine conv (bind (impl_sum_l0 (q_of (by omega) d) 0 (by omega) 0 (by omega) (by omega)) (now _)) ?_
      rw [decide_eq_decide]
      simp only [List.drop_zero]
      exact ⟨fun g => ⟨⟨by omega, d⟩, by omega⟩, fun g => by have := g.2; omega⟩
    · refine neg (by simpa using d) (conv (now _) (Eq.symm (decide_eq_false (fun g => d g.1.2))))
  · refine neg (by simpa using c) (conv (now _) (Eq.symm (decide_eq_false (fun g => c (by have := g.1.1; omega)))))
theorem people_q {vs : List Int} (h : People vs) : Q vs := q_of h.1.1 h.1.2

/-- The parts of a text, from a part's begin and a byte on, so many bytes left. -/
def seg (s : ByteArray) (c : Int) : Nat → Nat → Nat → List ByteArray
  | 0, from_, _ => [s.extract from_ s.size]
  | d + 1, from_, i => if bt s i = c then s.extract from_ i :: seg s c d (i + 1) (i + 1) else seg s c d from_ (i + 1)
theorem split_l0 (s : ByteArray) (c : Int) (hs : s.size ≤ 140737488351232) : ∀ i : Nat, i ≤ s.size → ∀ (from_ : Nat) (ps : List ByteArray), from_ ≤ i → ps.length ≤ i → s.size ≤ 1048576 →
    Ev (fun k => spec_l1Split.l0 k s c ps from_ i) (ps ++ seg s c (s.size - i) from_ i) := by
  refine down s.size ?_ ?_
  · intro from_ ps h1 h2 h3
    refine succ ?_
    simp only [spec_l1Split.l0, Nat.sub_self, seg]
    refine neg (by omega) (pos (by omega) (pos (by omega) (pos (by omega) ?_)))
    simp only [Int.toNat_natCast]
    exact now _
  · intro i hi ih from_ ps h1 h2 h3
    refine succ ?_
    simp only [spec_l1Split.l0]
    rw [wnat (by omega), show s.size - i = (s.size - (i + 1)) + 1 by omega]
    simp only [seg, Int.toNat_natCast]
    refine pos (by omega) (pos (by omega) ?_)
    by_cases e : bt s i = c
    · refine pos e (pos (by omega) (pos (by omega) (pos (by omega) (pos (by omega) ?_))))
      rw [if_pos e]
      refine conv (ih (i + 1) (ps ++ [s.extract from_ i]) (by omega) (by simp; omega) h3) ?_
      simp
    · refine neg e ?_
      rw [if_neg e]
      exact ih from_ ps (by omega) (by omega) h3
theorem split_f (s : ByteArray) (c : Int) (h : s.size ≤ 1048576) : Ev (fun k => spec_l1Split.f k s c) (seg s c s.size 0 0) := by
  unfold spec_l1Split.f
  exact conv (split_l0 s c (by omega) 0 (by omega) 0 [] (by omega) (by simp) h) (by simp)
theorem seg_pos (s : ByteArray) (c : Int) : ∀ d from_ i, 1 ≤ (seg s c d from_ i).length := by
  intro d
  induction d with
  | zero => intro f i; simp [seg]
  | succ d ih =>
    intro f i
    simp only [seg]
    split
    · simp
    · exact ih _ _
/-- Without the byte there is one part. -/
theorem seg_none (s : ByteArray) (c : Int) : ∀ d from_ i, d = s.size - i → (∀ j, i ≤ j → j < s.size → bt s j ≠ c) → seg s c d from_ i = [s.extract from_ s.size] := by
  intro d
  induction d with
  | zero => intro f i _ _; rfl
  | succ d ih =>
    intro f i hd h
    simp only [seg]
    rw [if_neg (h i (by omega) (by omega))]
    exact ih f (i + 1) (by omega) (fun j h1 h2 => h j (by omega) h2)
/-- With the byte: the first part, and the parts behind. -/
theorem seg_first (s : ByteArray) (c : Int) (j : Nat) (hj : j < s.size) (e : bt s j = c) : ∀ d from_ i, d = s.size - i → i ≤ j → (∀ q, i ≤ q → q < j → bt s q ≠ c) → seg s c d from_ i = s.extract from_ j :: seg s c (s.size - (j + 1)) (j + 1) (j + 1) := by
  intro d
  induction d with
  | zero => intro f i h1 h2 _; omega
  | succ d ih =>
    intro f i hd hi h
    simp only [seg]
    by_cases z : i = j
    · subst z
      rw [if_pos e, show d = s.size - (i + 1) by omega]
    · rw [if_neg (h i (by omega) (by omega))]
      exact ih f (i + 1) (by omega) (by omega) (fun q h1 h2 => h q (by omega) h2)
theorem indexByte_spec : ∀ (l : List UInt8) (c : UInt8), (Go.Lib.indexByte l c = -1 ∧ c ∉ l) ∨ ∃ i : Nat, ∃ h : i < l.length, Go.Lib.indexByte l c = i ∧ l[i] = c ∧ ∀ j (hj : j < i), l[j]'(by omega) ≠ c := by
  intro l c
  induction l with
  | nil => left; simp [Go.Lib.indexByte]
  | cons b l ih =>
    by_cases e : b = c
    · right
      refine ⟨0, by simp, ?_, by simpa using e, fun j hj => by omega⟩
      simp [Go.Lib.indexByte, e]
    · rcases ih with ⟨h1, h2⟩ | ⟨i, h, h1, h2, h3⟩
      · left
        refine ⟨?_, by simp [Ne.symm e, h2]⟩
        simp only [Go.Lib.indexByte, h1]
        rw [if_neg (by simpa using e)]
        simp
      · right
        refine ⟨i + 1, by simp; omega, ?_, by simpa using h2, ?_⟩
        · simp only [Go.Lib.indexByte, h1]
          rw [if_neg (by simpa using e), if_neg (by simp)]
          omega
        · intro j hj
          cases j with
          | zero => simpa using e
          | succ j => simpa using h3 j (by omega)

/-! ### decimals -/
def dig (c : UInt8) : Prop := 48 ≤ c.toNat ∧ c.toNat ≤ 57
def numOf (l : List UInt8) : Nat := l.foldl (fun n c => 10 * n + (c.toNat - 48)) 0
theorem numOf_snoc (l : List UInt8) (c : UInt8) : numOf (l ++ [c]) = 10 * numOf l + (c.toNat - 48) := by simp [numOf]
theorem numOf_one (c : UInt8) : numOf [c] = c.toNat - 48 := by simp [numOf]
/-- A decimal without superfluous zeros. -/
def Plain (l : List UInt8) : Prop := l ≠ [] ∧ (∀ c ∈ l, dig c) ∧ (l.head? = some 48 → l.length = 1)
theorem of_nat (n : Nat) (h : n < 10) : (UInt8.ofNat (48 + n)).toNat = 48 + n := by
  rw [UInt8.toNat_ofNat']
  omega
theorem numOf_pos {l : List UInt8} (h1 : l ≠ []) (h2 : ∀ c ∈ l, dig c) (h3 : l.head? ≠ some 48) : 1 ≤ numOf l := by
  obtain ⟨m, hm⟩ : ∃ m, m = l.length := ⟨_, rfl⟩
  induction m generalizing l with
  | zero => exact absurd (List.eq_nil_of_length_eq_zero hm.symm) h1
  | succ m ih =>
    rcases List.eq_nil_or_concat l with rfl | ⟨l', c, rfl⟩
    · exact absurd rfl h1
    · rw [List.concat_eq_append] at *
      rw [numOf_snoc]
      cases l' with
      | nil =>
        have hd := h2 c (by simp)
        have hne : c ≠ 48 := fun e => h3 (by rw [e]; rfl)
        have : c.toNat ≠ 48 := fun e => hne (UInt8.toNat_inj.1 e)
        have := hd.1
        simp [numOf]
        omega
      | cons a t =>
        have := ih (l := a :: t) (by simp) (fun x hx => h2 x (List.mem_append_left _ hx)) (by simpa using h3) (by simp at hm ⊢; omega)
        omega
theorem plain_dec : ∀ (u : Nat), Plain (Go.Lib.decDigits u) ∧ numOf (Go.Lib.decDigits u) = u ∧ (1 ≤ u → (Go.Lib.decDigits u).head? ≠ some 48) := by
  intro u
  induction u using Nat.strongRecOn with
  | ind u ih =>
    rw [Go.Lib.decDigits]
    by_cases h : u < 10
    · rw [dif_pos h]
      have e := of_nat u h
      refine ⟨⟨by simp, fun c hc => ?_, fun _ => rfl⟩, by rw [numOf_one, e]; omega, fun h1 z => ?_⟩
      · obtain rfl := List.mem_singleton.1 hc
        unfold dig
        omega
      · have z : UInt8.ofNat (48 + u) = 48 := by simpa using z
        have : (UInt8.ofNat (48 + u)).toNat = 48 := by rw [z]; rfl
        omega
    · rw [dif_neg h]
      obtain ⟨⟨a1, a2, a3⟩, a4, a5⟩ := ih (u / 10) (by omega)
      have e := of_nat (u % 10) (by omega)
      have hh : (Go.Lib.decDigits (u / 10) ++ [UInt8.ofNat (48 + u % 10)]).head? = (Go.Lib.decDigits (u / 10)).head? := by
        cases hl : Go.Lib.decDigits (u / 10) with
        | nil => exact absurd hl a1
        | cons a t => rfl
      refine ⟨⟨by simp, fun c hc => ?_, fun z => ?_⟩, by rw [numOf_snoc, a4, e]; omega, fun _ => by rw [hh]; exact a5 (by omega)⟩
      · rcases List.mem_append.1 hc with hc | hc
        · exact a2 c hc
        · obtain rfl := List.mem_singleton.1 hc
          unfold dig
          omega
      · rw [hh] at z
        exact absurd z (a5 (by omega))
theorem dec_plain {l : List UInt8} (h : Plain l) : l = Go.Lib.decDigits (numOf l) := by
  obtain ⟨m, hm⟩ : ∃ m, m = l.length := ⟨_, rfl⟩
  induction m generalizing l with
  | zero => exact absurd (List.eq_nil_of_length_eq_zero hm.symm) h.1
  | succ m ih =>
    obtain ⟨h1, h2, h3⟩ := h
    rcases List.eq_nil_or_concat l with rfl | ⟨l', c, rfl⟩
    · exact absurd rfl h1
    · rw [List.concat_eq_append] at *
      have hd := h2 c (by simp)
      have hc : UInt8.ofNat (48 + (c.toNat - 48)) = c := by
        refine UInt8.toNat_inj.1 ?_
        rw [of_nat _ (by have := hd.1; have := hd.2; omega)]
        have := hd.1
        omega
      cases l' with
      | nil =>
        rw [List.nil_append, numOf_one, Go.Lib.decDigits, dif_pos (by have := hd.2; omega), hc]
      | cons a t =>
        have hne : (a :: t).head? ≠ some 48 := fun z => by
          have := h3 (by simpa using z)
          simp at this
        have hp : Plain (a :: t) := ⟨by simp, fun x hx => h2 x (List.mem_append_left _ hx), fun z => absurd z hne⟩
        have h5 := numOf_pos hp.1 hp.2.1 hne
        have h6 := ih hp (by simp at hm ⊢; omega)
        rw [numOf_snoc, Go.Lib.decDigits, dif_neg (by omega)]
        have e1 : (10 * numOf (a :: t) + (c.toNat - 48)) / 10 = numOf (a :: t) := by have := hd.2; omega
        have e2 : (10 * numOf (a :: t) + (c.toNat - 48)) % 10 = c.toNat - 48 := by have := hd.2; omega
        rw [e1, e2, hc, ← h6]
theorem parse_plain : ∀ (l : List UInt8) (acc : Nat), (∀ c ∈ l, dig c) → l.foldl (fun n c => 10 * n + (c.toNat - 48)) acc < 1000000000000000000 → acc ≤ l.foldl (fun n c => 10 * n + (c.toNat - 48)) acc ∧ Go.Lib.parseUint10 acc l = .ok (l.foldl (fun n c => 10 * n + (c.toNat - 48)) acc)
  | [], acc, _, _ => ⟨Nat.le_refl _, rfl⟩
  | c :: r, acc, h, hl => by
    obtain ⟨h1, h2⟩ := parse_plain r (10 * acc + (c.toNat - 48)) (fun x hx => h x (by simp [hx])) hl
    have hd := h c (by simp)
    have hl' : r.foldl (fun n c => 10 * n + (c.toNat - 48)) (10 * acc + (c.toNat - 48)) < 1000000000000000000 := hl
    refine ⟨by show acc ≤ r.foldl _ (10 * acc + (c.toNat - 48)); omega, ?_⟩
    show Go.Lib.parseUint10 acc (c :: r) = .ok (r.foldl _ (10 * acc + (c.toNat - 48)))
    rw [Go.Lib.parseUint10, if_pos (show 48 ≤ c.toNat ∧ c.toNat ≤ 57 from hd), if_neg (by omega), if_neg (by omega), Nat.mul_comm acc 10]
    exact h2
/-- What the program reads. -/
def rdI (l : List UInt8) : Option Int := match Go.Lib.atoiAll l with
  | .ok v => if Go.Lib.itoa v = l then some v else none
  | _ => none
theorem atoi_dec (v : Nat) (hv : v ≤ 1000000) : Go.Lib.atoiAll (Go.Lib.decDigits v) = .ok (v : Int) := by
  obtain ⟨⟨h1, h2, h3⟩, h4, -⟩ := plain_dec v
  obtain ⟨-, hp⟩ := parse_plain (Go.Lib.decDigits v) 0 h2 (by have : numOf (Go.Lib.decDigits v) = v := h4; show numOf _ < _; omega)
  have hp : Go.Lib.parseUint10 0 (Go.Lib.decDigits v) = .ok v := by rw [hp]; exact congrArg Go.Lib.NumEnd.ok h4
  cases hl : Go.Lib.decDigits v with
  | nil => exact absurd hl h1
  | cons c r =>
    have hc := h2 c (by rw [hl]; simp)
    have n43 : ¬ c.toNat = 43 := by have := hc.1; omega
    have n45 : ¬ c.toNat = 45 := by have := hc.1; omega
    unfold Go.Lib.atoiAll
    simp only
    rw [if_neg (by omega), ← hl]
    unfold Go.Lib.parseMag
    rw [if_neg h1, hp]
    simp only
    rw [if_neg (by omega), if_neg (by omega), if_neg n45]
theorem rdI_iff (l : List UInt8) (v : Nat) (hv : v ≤ 1000) : rdI l = some (v : Int) ↔ l = Go.Lib.decDigits v := by
  constructor
  · intro h
    unfold rdI at h
    split at h
    · split at h
      · rename_i e
        have := Option.some.inj h
        subst this
        rw [← e, Go.Lib.itoa_nonneg]
      · cases h
    · cases h
  · rintro rfl
    unfold rdI
    rw [atoi_dec v (by omega)]
    simp only
    rw [Go.Lib.itoa_nonneg, if_pos rfl]
/-- What the reference reads. -/
noncomputable def rdS (l : List UInt8) : Int := open Classical in if (1 ≤ l.length ∧ l.length ≤ 6) ∧ Plain l then (numOf l : Int) else -1
theorem dec_len : ∀ (n u : Nat), u < 10 ^ (n + 1) → (Go.Lib.decDigits u).length ≤ n + 1
  | 0, u, h => by
    rw [Go.Lib.decDigits, dif_pos (by simpa using h)]
    simp
  | n + 1, u, h => by
    rw [Go.Lib.decDigits]
    by_cases c : u < 10
    · rw [dif_pos c]; simp
    · rw [dif_neg c, List.length_append]
      have := dec_len n (u / 10) (by rw [Nat.pow_succ] at h; omega)
      simp
      omega
theorem rdS_iff (l : List UInt8) (v : Nat) (hv : v ≤ 1000) : rdS l = (v : Int) ↔ l = Go.Lib.decDigits v := by
  unfold rdS
  constructor
  · intro h
    split at h
    · rename_i c
      have e : numOf l = v := by omega
      rw [← e]
      exact dec_plain c.2
    · omega
  · rintro rfl
    obtain ⟨h1, h2, -⟩ := plain_dec v
    have h3 := dec_len 3 v (Nat.lt_of_le_of_lt hv (by decide))
    have h4 : 1 ≤ (Go.Lib.decDigits v).length := List.length_pos_iff.2 h1.1
    rw [if_pos ⟨⟨h4, by omega⟩, h1⟩, h2]

/-! ### the reference's reading of a number -/
theorem bt_list (s : ByteArray) (i : Nat) (h : i < s.size) : bt s (i : Int) = ((s.data.toList[i]'(by simpa using h)).toNat : Int) := by
  rw [bt_lt s i h]
  rfl
theorem dig_or {c : Int} : (48 ≤ c ∧ c ≤ 57) ∨ c < 48 ∨ c > 57 := by omega
theorem read_l0 (s : ByteArray) (hs : s.size ≤ 6) : ∀ i : Nat, i ≤ s.size → ∀ n : Nat, n < 10 ^ i → Ev (fun k => spec_l1Read.l0 k s (n : Int) (i : Int))
    (open Classical in if ∀ c ∈ s.data.toList.drop i, dig c then ((s.data.toList.drop i).foldl (fun n c => 10 * n + (c.toNat - 48)) n : Nat) else (-1 : Int)) := by
  have hl : s.data.toList.length = s.size := by simp
  refine down s.size ?_ ?_
  · intro n _
    refine succ ?_
    simp only [spec_l1Read.l0]
    refine neg (by omega) (conv (now _) ?_)
    rw [List.drop_eq_nil_of_le (by omega), if_pos (fun c hc => by cases hc)]
    rfl
  · intro i hi ih n hn
    have hb := bt_list s i hi
    have e10 : 10 ^ (i + 1) ≤ 10 ^ 6 := Nat.pow_le_pow_right (by omega) (by omega)
    have e11 : 10 ^ (i + 1) = 10 * 10 ^ i := by rw [Nat.pow_succ]; omega
    have hr := bt_range s i
    refine succ ?_
    simp only [spec_l1Read.l0]
    refine pos (by omega) (pos (by omega) ?_)
    rw [List.drop_eq_getElem_cons (by omega : i < s.data.toList.length)]
    by_cases c1 : bt s i < 48
    · refine pos c1 (conv (now _) (Eq.symm (if_neg fun h => ?_)))
      have := (h _ (List.mem_cons_self)).1
      omega
    · refine neg c1 ?_
      by_cases c2 : bt s i > 57
      · refine pos c2 (conv (now _) (Eq.symm (if_neg fun h => ?_)))
        have := (h _ (List.mem_cons_self)).2
        omega
      · refine neg c2 ?_
        obtain ⟨v, hv⟩ : ∃ v, v = s.data.toList[i]'(by omega) := ⟨_, rfl⟩
        rw [← hv] at hb ⊢
        have hd : dig v := by unfold dig; omega
        have e : wrap64 (wrap64 (10 * (n : Int)) + (bt s i - 48) % 256) = ((10 * n + (v.toNat - 48) : Nat) : Int) := by
          have e6 : (10 : Nat) ^ 6 = 1000000 := by decide
          rw [w64 (x := 10 * (n : Int)) (by omega) (by omega), w64 (by omega) (by omega)]
          omega
        rw [e, wnat (by omega)]
        have := ih (10 * n + (v.toNat - 48)) (by have := hd.1; have := hd.2; omega)
        refine conv this ?_
        by_cases q : ∀ c ∈ s.data.toList.drop (i + 1), dig c
        · rw [if_pos q, if_pos (List.forall_mem_cons.2 ⟨hd, q⟩)]
          rfl
        · rw [if_neg q, if_neg (fun h => q (List.forall_mem_cons.1 h).2)]
theorem read_f (s : ByteArray) : Ev (fun k => spec_l1Read.f k s) (rdS s.data.toList) := by
  have hl : s.data.toList.length = s.size := by simp
  unfold spec_l1Read.f rdS
  rw [spec_in]
  refine bindSome rfl ?_
  by_cases c : (1 : Int) ≤ s.size ∧ (s.size : Int) ≤ 6
  · refine pos (by simpa using c) (pos (by omega) ?_)
    have h0 : s.data.toList ≠ [] := fun e => by rw [e] at hl; simp at hl; omega
    have hb := bt_list s 0 (by omega)
    have hh : s.data.toList.head? = some (s.data.toList[0]'(by omega)) := by
      rw [List.head?_eq_getElem?, List.getElem?_eq_getElem]
    have hlong := read_l0 s (by omega) 0 (by omega) 0 (by simp)
    simp only [List.drop_zero] at hlong
    have fin : ¬ (s.data.toList.head? = some 48 ∧ s.size > 1) → Ev (fun k => spec_l1Read.j0 k s false) (open Classical in if (1 ≤ s.data.toList.length ∧ s.data.toList.length ≤ 6) ∧ Plain s.data.toList then (numOf s.data.toList : Int) else -1) := by
      intro hz
      refine succ ?_
      simp only [spec_l1Read.j0]
      refine neg (by simp) (conv hlong ?_)
      have z0 : s.data.toList.drop 0 = s.data.toList := rfl
      by_cases q : ∀ c ∈ s.data.toList, dig c
      · rw [if_pos (show ∀ c ∈ s.data.toList.drop 0, dig c from q), if_pos ⟨by omega, h0, q, fun z => by
          by_cases g : s.size > 1
          · exact absurd ⟨z, g⟩ hz
          · omega⟩]
        rfl
      · rw [if_neg (show ¬ ∀ c ∈ s.data.toList.drop 0, dig c from q), if_neg (fun g => q g.2.2.1)]
    by_cases d : bt s 0 = 48
    · refine pos d ?_
      have h48 : s.data.toList.head? = some 48 := by
        rw [hh]
        congr 1
        refine UInt8.toNat_inj.1 ?_
        have : bt s 0 = bt s ((0 : Nat) : Int) := rfl
        have e48 : (48 : UInt8).toNat = 48 := rfl
        omega
      by_cases g : (s.size : Int) > 1
      · rw [decide_eq_true g]
        refine succ ?_
        simp only [spec_l1Read.j0]
        refine pos trivial (conv (now _) (Eq.symm (if_neg fun z => ?_)))
        have := z.2.2.2 h48
        omega
      · rw [decide_eq_false g]
        exact fin (fun z => by omega)
    · refine neg d (fin fun z => d ?_)
      have h1 := z.1
      rw [hh] at h1
      have h1 := Option.some.inj h1
      have : bt s 0 = bt s ((0 : Nat) : Int) := rfl
      rw [h1] at hb
      have e48 : (48 : UInt8).toNat = 48 := rfl
      omega
  · refine neg (by simpa using c) (succ ?_)
    simp only [spec_l1Read.j0]
    exact pos trivial (conv (now _) (Eq.symm (if_neg fun z => c (by omega))))
/-! ### the words of a text -/
theorem words_seg (s : ByteArray) : ∀ (n p : Nat), p ≤ s.size → s.size - p ≤ n →
    Go.Lib.splitB ⟨#[45]⟩ 0 (Go.Lib.countB (s.extract p s.size) ⟨#[45]⟩) (s.extract p s.size) = seg s 45 (s.size - p) p p := by
  intro n
  induction n with
  | zero =>
    intro p hp hn
    obtain rfl : p = s.size := by omega
    have hz : Go.Lib.indexB (s.extract s.size s.size) ⟨#[45]⟩ = -1 := by
      rcases Go.Lib.indexB_cases (s.extract s.size s.size) ⟨#[45]⟩ with h | ⟨i, -, h⟩
      · exact h
      · have : (⟨#[45]⟩ : ByteArray).size = 1 := rfl
        rw [ByteArray.size_extract] at h
        omega
    rw [Go.Lib.splitB_miss _ _ _ _ hz, Nat.sub_self]
    rfl
  | succ n ih =>
    intro p hp hn
    obtain ⟨t, ht⟩ : ∃ t, t = s.extract p s.size := ⟨_, rfl⟩
    have htz : t.size = s.size - p := by rw [ht, ByteArray.size_extract]; omega
    have htl : t.data.toList.length = s.size - p := by simp [htz]
    have hget : ∀ (j : Nat) (hj : j < t.data.toList.length), bt s ((p + j : Nat) : Int) = ((t.data.toList[j]'hj).toNat : Int) := by
      intro j hj
      rw [bt_lt s (p + j) (by omega)]
      congr 2
      subst ht
      have : (s.extract p s.size).data.toList[j]'hj = (s.extract p s.size)[j]'(by omega) := rfl
      rw [this, ByteArray.getElem_extract]
    have e45 : (45 : UInt8).toNat = 45 := rfl
    have hone : Go.Lib.indexB t ⟨#[45]⟩ = Go.Lib.indexByte t.data.toList 45 := Go.Lib.index_one _ _
    rw [← ht]
    rcases indexByte_spec t.data.toList 45 with ⟨h1, h2⟩ | ⟨i, hi, h1, h2, h3⟩
    · rw [Go.Lib.splitB_miss _ _ _ _ (hone.trans h1), seg_none s 45 (s.size - p) p p rfl, ht]
      intro j hj1 hj2 e
      have := hget (j - p) (by omega)
      rw [show p + (j - p) = j by omega, e] at this
      refine h2 ?_
      have : t.data.toList[j - p]'(by omega) = 45 := UInt8.toNat_inj.1 (by omega)
      rw [← this]
      exact List.getElem_mem _
    · have h1' : Go.Lib.indexB t ⟨#[45]⟩ = i := hone.trans h1
      have hsz : (⟨#[45]⟩ : ByteArray).size = 1 := rfl
      rw [Go.Lib.countB_hit _ _ i (by rw [hsz]; omega) h1', Nat.add_comm 1, Go.Lib.splitB_hit _ _ _ _ i h1', hsz]
      have ex : t.extract (i + 1) t.size = s.extract (p + i + 1) s.size := by
        rw [ht, ByteArray.extract_extract]
        congr 1
        rw [← ht, htz]
        omega
      rw [ex, ih (p + i + 1) (by omega) (by omega), seg_first s 45 (p + i) (by omega) (by rw [hget i hi, h2]; rfl) (s.size - p) p p rfl (by omega) (fun q g1 g2 e => ?_)]
      · congr 1
        rw [ht, ByteArray.extract_extract]
        congr 1
        omega
      · have := hget (q - p) (by omega)
        rw [show p + (q - p) = q by omega, e] at this
        exact h3 (q - p) (by omega) (UInt8.toNat_inj.1 (by omega))
theorem seg_le (s : ByteArray) (c : Int) (m : Nat) : ∀ d f i : Nat, d = s.size - i → f ≤ i → i ≤ s.size → (∀ x ∈ seg s c d f i, x.size ≤ m) → s.size - f + 1 ≤ (m + 1) * (seg s c d f i).length := by
  intro d
  induction d with
  | zero =>
    intro f i h1 h2 h3 h
    have := h _ (List.mem_singleton.2 rfl)
    rw [ByteArray.size_extract] at this
    simp only [seg, List.length_singleton]
    omega
  | succ d ih =>
    intro f i h1 h2 h3 h
    simp only [seg] at h ⊢
    split at h
    · rename_i e
      rw [if_pos e]
      have a1 := h _ List.mem_cons_self
      rw [ByteArray.size_extract] at a1
      have a2 := ih (i + 1) (i + 1) (by omega) (by omega) (by omega) (fun x hx => h x (List.mem_cons_of_mem _ hx))
      rw [List.length_cons, Nat.mul_add]
      omega
    · rename_i e
      rw [if_neg e]
      exact ih f (i + 1) (by omega) (by omega) (by omega) h
theorem seg_mem_le (s : ByteArray) (c : Int) : ∀ d f i : Nat, ∀ x ∈ seg s c d f i, x.size ≤ s.size := by
  intro d
  induction d with
  | zero =>
    intro f i x h
    rw [List.mem_singleton.1 h, ByteArray.size_extract]
    omega
  | succ d ih =>
    intro f i x h
    simp only [seg] at h
    split at h
    · rcases List.mem_cons.1 h with rfl | h
      · rw [ByteArray.size_extract]; omega
      · exact ih _ _ x h
    · exact ih _ _ x h
theorem seg_count (s : ByteArray) (c : Int) : ∀ d f i : Nat, (seg s c d f i).length ≤ d + 1 := by
  intro d
  induction d with
  | zero => intro f i; simp [seg]
  | succ d ih =>
    intro f i
    simp only [seg]
    split
    · have := ih (i + 1) (i + 1); simp; omega
    · have := ih f (i + 1); omega

theorem impl_words (s : ByteArray) : impl_readNumbers.words s ⟨#[45]⟩ = seg s 45 s.size 0 0 := by
  have h := words_seg s s.size 0 (by omega) (by omega)
  have e : s.extract 0 s.size = s := by
    refine ByteArray.ext ?_
    simp
  rwa [e, Nat.sub_zero] at h
/-- What the reference tells of the words. -/
noncomputable def told (ws : List ByteArray) : List Int := ws.map fun w => rdS w.data.toList
theorem parse_l0 (ws : List ByteArray) (hw : ws.length ≤ 1048576) : ∀ i : Nat, i ≤ ws.length → Ev (fun k => spec_mdParse.l0 k (told (ws.take i)) ws (ws.length : Int) (i : Int)) (if People (told ws) then (told ws, true) else ([], false)) := by
  refine down ws.length ?_ ?_
  · refine succ ?_
    simp only [spec_mdParse.l0]
    rw [List.take_length]
    refine neg (by omega) (bind (good_spec _ (by simp [told]; omega)) ?_)
    by_cases c : People (told ws)
    · refine pos (by simpa using c) (conv (now _) (by rw [if_pos c]))
    · refine neg (by simpa using c) (conv (now _) (by rw [if_neg c]))
  · intro i hi ih
    refine succ ?_
    simp only [spec_mdParse.l0]
    refine pos (by omega) (pos (by omega) (pos (by omega) ?_))
    have e : rdOf ByteArray.empty ws (i : Int) = ws[i] := by simp [rdOf, hi]
    rw [e]
    refine bind (read_f _) (pos (by simp [told]; omega) ?_)
    rw [wnat (by omega), show told (ws.take i) ++ [rdS ws[i].data.toList] = told (ws.take (i + 1)) by unfold told; rw [List.take_succ_eq_append_getElem hi, List.map_append]; rfl]
    exact ih
theorem all_told {ws : List ByteArray} (h : ∀ w ∈ ws, 0 ≤ rdS w.data.toList ∧ rdS w.data.toList ≤ 1000) : impl_readNumbers.all_ ws = some (told ws) ∧ ∀ w ∈ ws, w.size ≤ 4 := by
  induction ws with
  | nil => exact ⟨rfl, fun w hw => by cases hw⟩
  | cons w ws ih =>
    obtain ⟨h1, h2⟩ := List.forall_mem_cons.1 h
    obtain ⟨g1, g2⟩ := ih h2
    have e : rdS w.data.toList = ((rdS w.data.toList).toNat : Int) := by omega
    have hd := (rdS_iff _ (rdS w.data.toList).toNat (by omega)).1 e
    have hi : rdI w.data.toList = some (rdS w.data.toList) := by rw [e]; exact (rdI_iff _ _ (by omega)).2 hd
    refine ⟨?_, List.forall_mem_cons.2 ⟨?_, g2⟩⟩
    · show (rdI w.data.toList).bind _ = _
      rw [hi, Option.bind_some, g1]
      rfl
    · have := dec_len 3 (rdS w.data.toList).toNat (by omega)
      rw [← hd] at this
      simpa using this
theorem told_all {ws : List ByteArray} : ∀ {l : List Int}, impl_readNumbers.all_ ws = some l → (∀ x ∈ l, 0 ≤ x ∧ x ≤ 1000) → l = told ws := by
  induction ws with
  | nil =>
    intro l h _
    exact (Option.some.inj h).symm
  | cons w ws ih =>
    intro l h hx
    have h : (rdI w.data.toList).bind (fun v => (impl_readNumbers.all_ ws).map fun l => v :: l) = some l := h
    obtain ⟨v, h1, h2⟩ := Option.bind_eq_some_iff.1 h
    obtain ⟨t, h3, rfl⟩ := Option.map_eq_some_iff.1 h2
    obtain ⟨g1, g2⟩ := List.forall_mem_cons.1 hx
    have e : v = (v.toNat : Int) := by omega
    have hd := (rdI_iff w.data.toList v.toNat (by omega)).1 (by rw [h1, ← e])
    have hs := (rdS_iff w.data.toList v.toNat (by omega)).2 hd
    rw [ih h3 g2]
    show v :: told ws = rdS w.data.toList :: told ws
    rw [hs, ← e]
theorem both_same (s : ByteArray) (h1 : s.size ≤ 1048576) : ∃ v : List Int × Bool, v.1.length ≤ 1048577 ∧ Ev (fun k => spec_ParsePeople.f k s) v ∧ Ev (fun k => impl_ParsePeople.f k s) v := by
  obtain ⟨ws, hws⟩ : ∃ ws, ws = seg s 45 s.size 0 0 := ⟨_, rfl⟩
  have hlen : ws.length ≤ 1048577 := by have := seg_count s 45 s.size 0 0; rw [hws]; omega
  have hmem : ∀ x ∈ ws, x.size ≤ 1048576 := fun x hx => by have := seg_mem_le s 45 s.size 0 0 x (by rw [← hws]; exact hx); omega
  have hcnt : ws.length = Go.Lib.countB s ⟨#[45]⟩ + 1 := by
    rw [hws, ← impl_words]
    exact Go.Lib.splitB_all _ (by decide) 0 _ _ rfl
  have hI : impl_readNumbers.f s ⟨#[45]⟩ = some (match impl_readNumbers.all_ ws with
      | some l => (l, true)
      | none => ([], false)) := by
    unfold impl_readNumbers.f
    rw [impl_words, ← hws, if_pos ⟨⟨h1, by decide⟩, ⟨hlen, hcnt⟩, List.all_eq_true.2 fun x hx => decide_eq_true (hmem x hx)⟩]
    cases impl_readNumbers.all_ ws <;> rfl
  refine ⟨if People (told ws) then (told ws, true) else ([], false), ?_, ?_, ?_⟩
  · split <;> simp [told, hlen]
  · unfold spec_ParsePeople.f
    refine bind (a := if People (told ws) then (told ws, true) else ([], false)) ?_ (now _)
    unfold spec_mdParse.f
    by_cases c : (s.size : Int) > 300
    · refine pos c (conv (now _) (Eq.symm (if_neg fun h => ?_)))
      have h4 := (all_told (ws := ws) (fun w hw => h.1.2 _ (List.mem_map.2 ⟨w, hw, rfl⟩))).2
      have h60 : ws.length ≤ 60 := by simpa [told] using h.1.1.2
      have := seg_le s 45 4 s.size 0 0 (by omega) (by omega) (by omega) (by rw [← hws]; exact h4)
      rw [← hws] at this
      omega
    · refine neg c (bind (split_f s 45 h1) ?_)
      rw [← hws]
      exact parse_l0 ws (by have := seg_count s 45 s.size 0 0; rw [hws]; omega) 0 (by omega)
  · unfold impl_ParsePeople.f
    refine bindSome hI ?_
    cases ha : impl_readNumbers.all_ ws with
    | none =>
      refine neg (by simp) (conv (now _) (Eq.symm (if_neg fun h => ?_)))
      have h4 := (all_told (ws := ws) (fun w hw => h.1.2 _ (List.mem_map.2 ⟨w, hw, rfl⟩))).1
      rw [ha] at h4
      cases h4
    | some l =>
      have hll : l.length ≤ 35184372088832 := by
        have : ∀ (ws : List ByteArray) (l : List Int), impl_readNumbers.all_ ws = some l → l.length = ws.length := by
          intro ws
          induction ws with
          | nil => intro l h; rw [← Option.some.inj h]; rfl
          | cons w ws ih =>
            intro l h
            obtain ⟨v, h1, h2⟩ := Option.bind_eq_some_iff.1 (show (impl_readNumber.rd_ w.data.toList).bind (fun v => (impl_readNumbers.all_ ws).map fun l => v :: l) = some l from h)
            obtain ⟨t, h3, rfl⟩ := Option.map_eq_some_iff.1 h2
            simp [ih t h3]
        have := this ws l ha
        omega
      refine pos rfl (bind (good_impl l hll) ?_)
      by_cases c : People l
      · refine pos (by simpa using c) (conv (now _) ?_)
        obtain rfl := told_all ha c.1.2
        rw [if_pos c]
      · refine neg (by simpa using c) (conv (now _) (Eq.symm (if_neg fun h => c ?_)))
        have h4 := (all_told (ws := ws) (fun w hw => h.1.2 _ (List.mem_map.2 ⟨w, hw, rfl⟩))).1
        rw [ha] at h4
        rw [Option.some.inj h4]
        exact h
theorem FnExactParsePeople : laws_FnExactParsePeople.Pure := by
  intro s hs
  refine Ev.rounds ?_
  unfold laws_FnExactParsePeople.f
  by_cases h : (s.size : Int) > 1048576
  · exact pos h (now _)
  refine neg h ?_
  obtain ⟨v, hv, h1, h2⟩ := both_same s (by omega)
  have hvl : v.1.length ≤ 35184372088832 := by omega
  refine bind h1 (bind h2 (bind (eqIntS_same _ hvl) (pos rfl (succ ?_))))
  simp only [laws_FnExactParsePeople.j0]
  refine neg (by simp) (bind (markIntS_f v.1 hvl) (bind (heldIntS_f _ hvl) (neg (by omega) (pos rfl (bind h2 (bind (eqIntS_same _ hvl) (pos rfl (succ ?_))))))))
  simp only [laws_FnExactParsePeople.j1]
  exact neg (by simp) (bind (heldIntS_f _ hvl) (neg (by omega) (pos rfl (now _))))

end Go.Proofs.YtgpnnepagfnfgaaDoor.Pure
