/- The plain law of FnExactPeopleText: the program and the reference write the same text of all people, at every input within the bounds that the print tells. -/
import Derived.Test.YtgpnnepagfnfgaaDoorMYx3
import Derived.Test.YtgpnnepagfnfgaaDoorLib
namespace Go.Proofs.YtgpnnepagfnfgaaDoor.Pure
open Go.RowKit Go.Proofs.YtgpnnepagfnfgaaDoor.MY Go.Proofs.YtgpnnepagfnfgaaDoorW.PrintWords Go.Proofs.YtgpnnepagfnfgaaDoorW.PrintLast Go.Proofs.YtgpnnepagfnfgaaDoorW.PrintMore Go.Proofs.YtgpnnepagfnfgaaDoor.Lib
set_option linter.unusedVariables false
set_option linter.unusedSimpArgs false

theorem spec_in (a b c : Int) : spec_l1In.f a b c = some (decide (b ≤ a ∧ a ≤ c)) := by
  unfold spec_l1In.f
  by_cases h : a ≥ b
  · rw [if_pos h]; simp [show b ≤ a from h]
  · rw [if_neg h]; simp [show ¬ b ≤ a from h]
theorem impl_in (a b c : Int) : impl_within.f a b c = some (decide (b ≤ a ∧ a ≤ c)) := by
  unfold impl_within.f
  by_cases h : a ≥ b
  · rw [if_pos h]; simp [show b ≤ a from h]
  · rw [if_neg h]; simp [show ¬ b ≤ a from h]

theorem toIntS_l0 (xs : List Int) (hx : xs.length ≤ 35184372088832) : ∀ i : Nat, i ≤ xs.length → ∀ ys : List Int, ys.length = xs.length → (∀ j : Nat, j < i → ys.getD j 0 = xs.getD j 0) → Ev (fun k => laws_toIntS.l0 k xs ys i) xs := by
  refine down xs.length ?_ ?_
  · intro ys hl hy
    refine succ ?_
    simp only [laws_toIntS.l0]
    refine neg (by omega) (conv (now _) ?_)
    refine List.ext_getElem hl (fun j h1 h2 => ?_)
    have := hy j h2
    simpa [h1, h2] using this
  · intro i hi ih ys hl hy
    refine succ ?_
    simp only [laws_toIntS.l0]
    rw [wnat (by omega)]
    refine pos (by omega) (pos (by omega) (pos (by omega) ?_))
    refine ih _ (by simp [hl]) (fun j hj => ?_)
    simp only [Int.toNat_natCast, rd_nat]
    by_cases e : j = i
    · subst e
      simp [hl, hi]
    · rw [List.getD_eq_getElem?_getD, List.getElem?_set_ne (Ne.symm e), ← List.getD_eq_getElem?_getD]
      exact hy j (by omega)
theorem toIntS_f (xs : List Int) (hx : xs.length ≤ 35184372088832) : Ev (fun k => laws_toIntS.f k xs) xs := by
  unfold laws_toIntS.f
  refine pos (by omega) (pos (by omega) ?_)
  exact toIntS_l0 xs hx 0 (by omega) _ (by simp) (fun j hj => by omega)
theorem eqIntS_l0 (xs ys : List Int) (hx : xs.length ≤ 35184372088832) (hl : xs.length = ys.length) : ∀ i : Nat, i ≤ xs.length → Ev (fun k => laws_eqIntS.l0 k xs ys i) (decide (xs.drop i = ys.drop i)) := by
  refine down xs.length ?_ ?_
  · refine succ ?_
    simp only [laws_eqIntS.l0]
    exact neg (by omega) (conv (now _) (by simp [hl]))
  · intro i hi ih
    refine succ ?_
    simp only [laws_eqIntS.l0]
    rw [wnat (by omega)]
    refine pos (by omega) (pos (by omega) (pos (by omega) ?_))
    rw [rd_lt xs i hi, rd_lt ys i (by omega)]
    by_cases e : xs[i] = ys[i]'(by omega)
    · exact pos e (conv ih (by rw [decide_eq_decide, drop_iff hi (by omega)]; exact ⟨fun h => ⟨e, h⟩, fun h => h.2⟩))
    · exact neg e (conv (now _) (Eq.symm (decide_eq_false (by rw [drop_iff hi (by omega)]; exact fun h => e h.1))))
theorem eqIntS_f (xs ys : List Int) (hx : xs.length ≤ 35184372088832) : Ev (fun k => laws_eqIntS.f k xs ys) (decide (xs = ys)) := by
  unfold laws_eqIntS.f
  by_cases e : xs.length = ys.length
  · exact pos (by omega) (conv (eqIntS_l0 xs ys hx e 0 (by omega)) (by simp))
  · exact neg (by omega) (conv (now _) (by simp; intro h; exact e (by rw [h])))
theorem eqIntS_same (xs : List Int) (hx : xs.length ≤ 35184372088832) : Ev (fun k => laws_eqIntS.f k xs xs) true := conv (eqIntS_f xs xs hx) (by simp)

theorem spec_l1All_l0 (xs : List Int) (a b : Int) (hx : xs.length ≤ 35184372088832) : ∀ i : Nat, i ≤ xs.length → Ev (fun k => spec_l1All.l0 k a b xs xs.length i) (decide (∀ x ∈ xs.drop i, a ≤ x ∧ x ≤ b)) := by
  refine down xs.length ?_ ?_
  · refine succ ?_
    simp only [spec_l1All.l0]
    exact neg (by omega) (conv (now _) (by simp))
  · intro i hi ih
    refine succ ?_
    simp only [spec_l1All.l0, spec_in, Option.bind_some]
    rw [wnat (by omega)]
    refine pos (by omega) (pos (by omega) (pos (by omega) ?_))
    rw [rd_lt xs i hi]
    by_cases e : a ≤ xs[i] ∧ xs[i] ≤ b
    · exact pos (by simpa using e) (conv ih (by rw [decide_eq_decide, all_drop hi]; exact ⟨fun h => ⟨e, h⟩, fun h => h.2⟩))
    · exact neg (by simpa using e) (conv (now _) (Eq.symm (decide_eq_false (by rw [all_drop hi]; exact fun h => e h.1))))
theorem spec_l1All_f (xs : List Int) (a b : Int) (hx : xs.length ≤ 35184372088832) : Ev (fun k => spec_l1All.f k xs a b) (decide (∀ x ∈ xs, a ≤ x ∧ x ≤ b)) :=
  spec_l1All_l0 xs a b hx 0 (by omega)

theorem impl_allWithin_l0 (xs : List Int) (a b : Int) (hx : xs.length ≤ 35184372088832) : ∀ i : Nat, i ≤ xs.length → Ev (fun k => impl_allWithin.l0 k a b xs xs.length i) (decide (∀ x ∈ xs.drop i, a ≤ x ∧ x ≤ b)) := by
  refine down xs.length ?_ ?_
  · refine succ ?_
    simp only [impl_allWithin.l0]
    exact neg (by omega) (conv (now _) (by simp))
  · intro i hi ih
    refine succ ?_
    simp only [impl_allWithin.l0, impl_in, Option.bind_some]
    rw [wnat (by omega)]
    refine pos (by omega) (pos (by omega) (pos (by omega) ?_))
    rw [rd_lt xs i hi]
    by_cases e : a ≤ xs[i] ∧ xs[i] ≤ b
    · exact pos (by simpa using e) (conv ih (by rw [decide_eq_decide, all_drop hi]; exact ⟨fun h => ⟨e, h⟩, fun h => h.2⟩))
    · exact neg (by simpa using e) (conv (now _) (Eq.symm (decide_eq_false (by rw [all_drop hi]; exact fun h => e h.1))))
theorem impl_allWithin_f (xs : List Int) (a b : Int) (hx : xs.length ≤ 35184372088832) : Ev (fun k => impl_allWithin.f k xs a b) (decide (∀ x ∈ xs, a ≤ x ∧ x ≤ b)) :=
  impl_allWithin_l0 xs a b hx 0 (by omega)

/-- What people hold. -/
def Q (vs : List Int) : Prop := (1 ≤ vs.length ∧ vs.length ≤ 60) ∧ ∀ i : Nat, 0 ≤ rd vs i ∧ rd vs i ≤ 1000
theorem q_of {vs : List Int} (h : 1 ≤ vs.length ∧ vs.length ≤ 60) (hv : ∀ x ∈ vs, 0 ≤ x ∧ x ≤ 1000) : Q vs := by
  refine ⟨h, fun i => ?_⟩
  by_cases c : i < vs.length
  · exact hv _ (rd_mem vs i c)
  · simp [rd, c]
theorem spec_sum_l0 {vs : List Int} (hv : Q vs) : ∀ i : Nat, i ≤ vs.length → ∀ s : Int, 0 ≤ s → s ≤ 1000 * i → Ev (fun k => spec_mdSum.l0 k s vs vs.length i) (s + (vs.drop i).sum) := by
  have hl := hv.1
  refine down vs.length ?_ ?_
  · intro s _ _
    refine succ ?_
    simp only [spec_mdSum.l0]
    exact neg (by omega) (conv (now _) (by simp))
  · intro i hi ih s h0 h1
    have hb := hv.2 i
    refine succ ?_
    simp only [spec_mdSum.l0]
    rw [wnat (by omega), w64 (by omega) (by omega)]
    refine pos (by omega) (pos (by omega) (pos (by omega) (conv (ih _ (by omega) (by omega)) ?_)))
    rw [List.drop_eq_getElem_cons hi, List.sum_cons, rd_lt vs i hi]
    omega
theorem impl_sum_l0 {vs : List Int} (hv : Q vs) : ∀ i : Nat, i ≤ vs.length → ∀ s : Int, 0 ≤ s → s ≤ 1000 * i → Ev (fun k => impl_sumOf.l0 k s vs vs.length i) (s + (vs.drop i).sum) := by
  have hl := hv.1
  refine down vs.length ?_ ?_
  · intro s _ _
    refine succ ?_
    simp only [impl_sumOf.l0]
    exact neg (by omega) (conv (now _) (by simp))
  · intro i hi ih s h0 h1
    have hb := hv.2 i
    refine succ ?_
    simp only [impl_sumOf.l0]
    rw [wnat (by omega), w64 (by omega) (by omega)]
    refine pos (by omega) (pos (by omega) (pos (by omega) (conv (ih _ (by omega) (by omega)) ?_)))
    rw [List.drop_eq_getElem_cons hi, List.sum_cons, rd_lt vs i hi]
    omega
/-- People. -/
def People (vs : List Int) : Prop := ((1 ≤ vs.length ∧ vs.length ≤ 60) ∧ ∀ x ∈ vs, 0 ≤ x ∧ x ≤ 1000) ∧ 0 < vs.sum
instance (vs : List Int) : Decidable (People vs) := by unfold People; infer_instance
theorem good_spec (vs : List Int) (hx : vs.length ≤ 35184372088832) : Ev (fun k => spec_mdGood.f k vs) (decide (People vs)) := by
  unfold spec_mdGood.f
  rw [spec_in]
  refine bind (now _) ?_
  by_cases c : 1 ≤ (vs.length : Int) ∧ (vs.length : Int) ≤ 60
  · refine pos (by simpa using c) (bind (spec_l1All_f vs 0 1000 hx) ?_)
    by_cases d : ∀ x ∈ vs, 0 ≤ x ∧ x ≤ 1000
    · refine pos (by simpa using d) ?_
      unfold spec_mdSum.f
      refine conv (bind (spec_sum_l0 (q_of (by omega) d) 0 (by omega) 0 (by omega) (by omega)) (now _)) ?_
      rw [decide_eq_decide]
      simp only [List.drop_zero]
      exact ⟨fun g => ⟨⟨by omega, d⟩, by omega⟩, fun g => by have := g.2; omega⟩
    · refine neg (by simpa using d) (conv (now _) (Eq.symm (decide_eq_false (fun g => d g.1.2))))
  · refine neg (by simpa using c) (conv (now _) (Eq.symm (decide_eq_false (fun g => c (by have := g.1.1; omega)))))
theorem good_impl (vs : List Int) (hx : vs.length ≤ 35184372088832) : Ev (fun k => impl_ArePeople.f k vs) (decide (People vs)) := by
  unfold impl_ArePeople.f
  rw [impl_in]
  refine bind (now _) ?_
  by_cases c : 1 ≤ (vs.length : Int) ∧ (vs.length : Int) ≤ 60
  · refine pos (by simpa using c) (bind (impl_allWithin_f vs 0 1000 hx) ?_)
    by_cases d : ∀ x ∈ vs, 0 ≤ x ∧ x ≤ 1000
    · refine pos (by simpa using d) ?_
      unfold impl_sumOf.f
      refine conv (bind (impl_sum_l0 (q_of (by omega) d) 0 (by omega) 0 (by omega) (by omega)) (now _)) ?_
      rw [decide_eq_decide]
      simp only [List.drop_zero]
      exact ⟨fun g => ⟨⟨by omega, d⟩, by omega⟩, fun g => by have := g.2; omega⟩
    · refine neg (by simpa using d) (conv (now _) (Eq.symm (decide_eq_false (fun g => d g.1.2))))
  · refine neg (by simpa using c) (conv (now _) (Eq.symm (decide_eq_false (fun g => c (by have := g.1.1; omega)))))
theorem people_q {vs : List Int} (h : People vs) : Q vs := q_of h.1.1 h.1.2

/-! ### decimals -/
def dig (c : UInt8) : Prop := 48 ≤ c.toNat ∧ c.toNat ≤ 57
def numOf (l : List UInt8) : Nat := l.foldl (fun n c => 10 * n + (c.toNat - 48)) 0
theorem numOf_snoc (l : List UInt8) (c : UInt8) : numOf (l ++ [c]) = 10 * numOf l + (c.toNat - 48) := by simp [numOf]
theorem numOf_one (c : UInt8) : numOf [c] = c.toNat - 48 := by simp [numOf]
/-- A decimal without superfluous zeros. -/
def Plain (l : List UInt8) : Prop := l ≠ [] ∧ (∀ c ∈ l, dig c) ∧ (l.head? = some 48 → l.length = 1)
theorem of_nat (n : Nat) (h : n < 10) : (UInt8.ofNat (48 + n)).toNat = 48 + n := by
  rw [UInt8.toNat_ofNat']
  omega
theorem numOf_pos {l : List UInt8} (h1 : l ≠ []) (h2 : ∀ c ∈ l, dig c) (h3 : l.head? ≠ some 48) : 1 ≤ numOf l := by
  obtain ⟨m, hm⟩ : ∃ m, m = l.length := ⟨_, rfl⟩
  induction m generalizing l with
  | zero => exact absurd (List.eq_nil_of_length_eq_zero hm.symm) h1
  | succ m ih =>
    rcases List.eq_nil_or_concat l with rfl | ⟨l', c, rfl⟩
    · exact absurd rfl h1
    · rw [List.concat_eq_append] at *
      rw [numOf_snoc]
      cases l' with
      | nil =>
        have hd := h2 c (by simp)
        have hne : c ≠ 48 := fun e => h3 (by rw [e]; rfl)
        have : c.toNat ≠ 48 := fun e => hne (UInt8.toNat_inj.1 e)
        have := hd.1
        simp [numOf]
        omega
      | cons a t =>
        have := ih (l := a :: t) (by simp) (fun x hx => h2 x (List.mem_append_left _ hx)) (by simpa using h3) (by simp at hm ⊢; omega)
        omega
theorem plain_dec : ∀ (u : Nat), Plain (Go.Lib.decDigits u) ∧ numOf (Go.Lib.decDigits u) = u ∧ (1 ≤ u → (Go.Lib.decDigits u).head? ≠ some 48) := by
  intro u
  induction u using Nat.strongRecOn with
  | ind u ih =>
    rw [Go.Lib.decDigits]
    by_cases h : u < 10
    · rw [dif_pos h]
      have e := of_nat u h
      refine ⟨⟨by simp, fun c hc => ?_, fun _ => rfl⟩, by rw [numOf_one, e]; omega, fun h1 z => ?_⟩
      · obtain rfl := List.mem_singleton.1 hc
        unfold dig
        omega
      · have z : UInt8.ofNat (48 + u) = 48 := by simpa using z
        have : (UInt8.ofNat (48 + u)).toNat = 48 := by rw [z]; rfl
        omega
    · rw [dif_neg h]
      obtain ⟨⟨a1, a2, a3⟩, a4, a5⟩ := ih (u / 10) (by omega)
      have e := of_nat (u % 10) (by omega)
      have hh : (Go.Lib.decDigits (u / 10) ++ [UInt8.ofNat (48 + u % 10)]).head? = (Go.Lib.decDigits (u / 10)).head? := by
        cases hl : Go.Lib.decDigits (u / 10) with
        | nil => exact absurd hl a1
        | cons a t => rfl
      refine ⟨⟨by simp, fun c hc => ?_, fun z => ?_⟩, by rw [numOf_snoc, a4, e]; omega, fun _ => by rw [hh]; exact a5 (by omega)⟩
      · rcases List.mem_append.1 hc with hc | hc
        · exact a2 c hc
        · obtain rfl := List.mem_singleton.1 hc
          unfold dig
          omega
      · rw [hh] at z
        exact absurd z (a5 (by omega))
theorem dec_plain {l : List UInt8} (h : Plain l) : l = Go.Lib.decDigits (numOf l) := by
  obtain ⟨m, hm⟩ : ∃ m, m = l.length := ⟨_, rfl⟩
  induction m generalizing l with
  | zero => exact absurd (List.eq_nil_of_length_eq_zero hm.symm) h.1
  | succ m ih =>
    obtain ⟨h1, h2, h3⟩ := h
    rcases List.eq_nil_or_concat l with rfl | ⟨l', c, rfl⟩
    · exact absurd rfl h1
    · rw [List.concat_eq_append] at *
      have hd := h2 c (by simp)
      have hc : UInt8.ofNat (48 + (c.toNat - 48)) = c := by
        refine UInt8.toNat_inj.1 ?_
        rw [of_nat _ (by have := hd.1; have := hd.2; omega)]
        have := hd.1
        omega
      cases l' with
      | nil =>
        rw [List.nil_append, numOf_one, Go.Lib.decDigits, dif_pos (by have := hd.2; omega), hc]
      | cons a t =>
        have hne : (a :: t).head? ≠ some 48 := fun z => by
          have := h3 (by simpa using z)
          simp at this
        have hp : Plain (a :: t) := ⟨by simp, fun x hx => h2 x (List.mem_append_left _ hx), fun z => absurd z hne⟩
        have h5 := numOf_pos hp.1 hp.2.1 hne
        have h6 := ih hp (by simp at hm ⊢; omega)
        rw [numOf_snoc, Go.Lib.decDigits, dif_neg (by omega)]
        have e1 : (10 * numOf (a :: t) + (c.toNat - 48)) / 10 = numOf (a :: t) := by have := hd.2; omega
        have e2 : (10 * numOf (a :: t) + (c.toNat - 48)) % 10 = c.toNat - 48 := by have := hd.2; omega
        rw [e1, e2, hc, ← h6]
theorem parse_plain : ∀ (l : List UInt8) (acc : Nat), (∀ c ∈ l, dig c) → l.foldl (fun n c => 10 * n + (c.toNat - 48)) acc < 1000000000000000000 → acc ≤ l.foldl (fun n c => 10 * n + (c.toNat - 48)) acc ∧ Go.Lib.parseUint10 acc l = .ok (l.foldl (fun n c => 10 * n + (c.toNat - 48)) acc)
  | [], acc, _, _ => ⟨Nat.le_refl _, rfl⟩
  | c :: r, acc, h, hl => by
    obtain ⟨h1, h2⟩ := parse_plain r (10 * acc + (c.toNat - 48)) (fun x hx => h x (by simp [hx])) hl
    have hd := h c (by simp)
    have hl' : r.foldl (fun n c => 10 * n + (c.toNat - 48)) (10 * acc + (c.toNat - 48)) < 1000000000000000000 := hl
    refine ⟨by show acc ≤ r.foldl _ (10 * acc + (c.toNat - 48)); omega, ?_⟩
    show Go.Lib.parseUint10 acc (c :: r) = .ok (r.foldl _ (10 * acc + (c.toNat - 48)))
    rw [Go.Lib.parseUint10, if_pos (show 48 ≤ c.toNat ∧ c.toNat ≤ 57 from hd), if_neg (by omega), if_neg (by omega), Nat.mul_comm acc 10]
    exact h2
/-- What the program reads. -/
def rdI (l : List UInt8) : Option Int := match Go.Lib.atoiAll l with
  | .ok v => if Go.Lib.itoa v = l then some v else none
  | _ => none
theorem atoi_dec (v : Nat) (hv : v ≤ 1000000) : Go.Lib.atoiAll (Go.Lib.decDigits v) = .ok (v : Int) := by
  obtain ⟨⟨h1, h2, h3⟩, h4, -⟩ := plain_dec v
  obtain ⟨-, hp⟩ := parse_plain (Go.Lib.decDigits v) 0 h2 (by have : numOf (Go.Lib.decDigits v) = v := h4; show numOf _ < _; omega)
  have hp : Go.Lib.parseUint10 0 (Go.Lib.decDigits v) = .ok v := by rw [hp]; exact congrArg Go.Lib.NumEnd.ok h4
  cases hl : Go.Lib.decDigits v with
  | nil => exact absurd hl h1
  | cons c r =>
    have hc := h2 c (by rw [hl]; simp)
    have n43 : ¬ c.toNat = 43 := by have := hc.1; omega
    have n45 : ¬ c.toNat = 45 := by have := hc.1; omega
    unfold Go.Lib.atoiAll
    simp only
    rw [if_neg (by omega), ← hl]
    unfold Go.Lib.parseMag
    rw [if_neg h1, hp]
    simp only
    rw [if_neg (by omega), if_neg (by omega), if_neg n45]
theorem rdI_iff (l : List UInt8) (v : Nat) (hv : v ≤ 1000) : rdI l = some (v : Int) ↔ l = Go.Lib.decDigits v := by
  constructor
  · intro h
    unfold rdI at h
    split at h
    · split at h
      · rename_i e
        have := Option.some.inj h
        subst this
        rw [← e, Go.Lib.itoa_nonneg]
      · cases h
    · cases h
  · rintro rfl
    unfold rdI
    rw [atoi_dec v (by omega)]
    simp only
    rw [Go.Lib.itoa_nonneg, if_pos rfl]
/-- What the reference reads. -/
noncomputable def rdS (l : List UInt8) : Int := open Classical in if (1 ≤ l.length ∧ l.length ≤ 6) ∧ Plain l then (numOf l : Int) else -1
theorem dec_len : ∀ (n u : Nat), u < 10 ^ (n + 1) → (Go.Lib.decDigits u).length ≤ n + 1
  | 0, u, h => by
    rw [Go.Lib.decDigits, dif_pos (by simpa using h)]
    simp
  | n + 1, u, h => by
    rw [Go.Lib.decDigits]
    by_cases c : u < 10
    · rw [dif_pos c]; simp
    · rw [dif_neg c, List.length_append]
      have := dec_len n (u / 10) (by rw [Nat.pow_succ] at h; omega)
      simp
      omega
theorem rdS_iff (l : List UInt8) (v : Nat) (hv : v ≤ 1000) : rdS l = (v : Int) ↔ l = Go.Lib.decDigits v := by
  unfold rdS
  constructor
  · intro h
    split at h
    · rename_i c
      have e : numOf l = v := by omega
      rw [← e]
      exact dec_plain c.2
    · omega
  · rintro rfl
    obtain ⟨h1, h2, -⟩ := plain_dec v
    have h3 := dec_len 3 v (Nat.lt_of_le_of_lt hv (by decide))
    have h4 : 1 ≤ (Go.Lib.decDigits v).length := List.length_pos_iff.2 h1.1
    rw [if_pos ⟨⟨h4, by omega⟩, h1⟩, h2]

/-- A list of bytes as a text. -/
def tx (l : List UInt8) : ByteArray := ⟨l.toArray⟩
theorem tx_append (a b : List UInt8) : tx a ++ tx b = tx (a ++ b) := by
  refine ByteArray.ext ?_
  rw [ByteArray.data_append]
  simp [tx]
theorem tx_size (l : List UInt8) : (tx l).size = l.length := by simp [tx, ByteArray.size]
theorem str_one (n : Nat) (h : n < 10) : strOfNums [(wrap64 (48 + (n : Int))) % 256] = tx [UInt8.ofNat (48 + n)] := by
  rw [w64 (by omega) (by omega), show (48 + (n : Int)) % 256 = ((48 + n : Nat) : Int) by omega]
  unfold strOfNums tx
  simp only [List.map_cons, List.map_nil, Int.toNat_natCast]
theorem num_f : ∀ (m : Nat) (n : Nat), n < 10 ^ (m + 1) → m ≤ 8 → Ev (fun k => spec_l1Num.f k (n : Int)) (tx (Go.Lib.decDigits n)) := by
  intro m
  induction m with
  | zero =>
    intro n h _
    refine succ ?_
    simp only [spec_l1Num.f]
    have h : n < 10 := by simpa using h
    refine pos (by omega) (conv (now _) ?_)
    rw [str_one n h, Go.Lib.decDigits, dif_pos h]
  | succ m ih =>
    intro n h hm
    refine succ ?_
    simp only [spec_l1Num.f]
    have e9 : 10 ^ (m + 1 + 1) ≤ 10 ^ 10 := Nat.pow_le_pow_right (by omega) (by omega)
    have e10 : (10 : Nat) ^ 10 = 10000000000 := by decide
    by_cases c : n < 10
    · refine pos (by omega) (conv (now _) ?_)
      rw [str_one n c, Go.Lib.decDigits, dif_pos c]
    · have q1 : Int.tdiv (n : Int) 10 = ((n / 10 : Nat) : Int) := rfl
      have q2 : Int.tmod (n : Int) 10 = ((n % 10 : Nat) : Int) := rfl
      rw [q1, q2, wnat0 (by omega)]
      refine neg (by omega) (bind (ih (n / 10) (by rw [Nat.pow_succ] at h; omega) (by omega)) (bindSome rfl (pos ?_ (conv (now _) ?_))))
      · have hl := dec_len (m) (n / 10) (by rw [Nat.pow_succ] at h; omega)
        show (tx (Go.Lib.decDigits (n / 10))).size + (strOfNums [(wrap64 (48 + ((n % 10 : Nat) : Int))) % 256]).size ≤ 9223372036854775807
        rw [str_one (n % 10) (by omega), tx_size, tx_size]
        simp only [List.length_singleton]
        omega
      · rw [str_one (n % 10) (by omega), tx_append]
        conv => rhs; rw [Go.Lib.decDigits, dif_neg c]
/-- The text of the first so many. -/
def told (vs : List Int) : List UInt8 := Go.Lib.join (vs.map Go.Lib.itoa) [45]
theorem told_one (v : Int) : told [v] = Go.Lib.itoa v := Go.Lib.join_one _ _
theorem told_snoc (a : Int) (t : List Int) (v : Int) : told ((a :: t) ++ [v]) = told (a :: t) ++ [45] ++ Go.Lib.itoa v := by
  unfold told
  rw [List.cons_append, List.map_cons, List.map_cons, Go.Lib.join_cons, Go.Lib.join_cons]
  simp [Go.Lib.joinTail]
theorem itoa_len {v : Int} (h : 0 ≤ v ∧ v ≤ 1000) : (Go.Lib.itoa v).length ≤ 4 := by
  obtain ⟨n, rfl⟩ := Int.eq_ofNat_of_zero_le h.1
  rw [Go.Lib.itoa_nonneg]
  exact dec_len 3 n (by omega)
theorem told_len : ∀ (vs : List Int), (∀ x ∈ vs, 0 ≤ x ∧ x ≤ 1000) → (told vs).length ≤ 5 * vs.length := by
  intro vs
  cases vs with
  | nil => intro _; simp [told, Go.Lib.join_nil]
  | cons a t =>
    intro h
    unfold told
    rw [List.map_cons, Go.Lib.join_cons, List.length_append, List.length_cons]
    obtain ⟨h1, h2⟩ := List.forall_mem_cons.1 h
    have ha := itoa_len h1
    have : ∀ (t : List Int), (∀ x ∈ t, 0 ≤ x ∧ x ≤ 1000) → (Go.Lib.joinTail [45] (t.map Go.Lib.itoa)).length ≤ 5 * t.length := by
      intro t
      induction t with
      | nil => intro _; simp [Go.Lib.joinTail]
      | cons b t ih =>
        intro h
        obtain ⟨g1, g2⟩ := List.forall_mem_cons.1 h
        have hb := itoa_len g1
        have := ih g2
        unfold Go.Lib.joinTail at this ⊢
        simp only [List.map_cons, List.flatten_cons, List.length_append, List.length_cons, List.length_nil]
        omega
    have := this t h2
    omega
theorem text_l0 (vs : List Int) (hv : ∀ x ∈ vs, 0 ≤ x ∧ x ≤ 1000) (hl : vs.length ≤ 60) : ∀ i : Nat, i ≤ vs.length → Ev (fun k => spec_mdText.l0 k (tx (told (vs.take i))) vs (vs.length : Int) (i : Int)) (tx (told vs)) := by
  refine down vs.length ?_ ?_
  · refine succ ?_
    simp only [spec_mdText.l0]
    exact neg (by omega) (conv (now _) (by rw [List.take_length]))
  · intro i hi ih
    refine succ ?_
    simp only [spec_mdText.l0]
    rw [rd_lt vs i hi, wnat (by omega)]
    have h1 := hv vs[i] (List.getElem_mem hi)
    obtain ⟨n, hn⟩ := Int.eq_ofNat_of_zero_le h1.1
    have hnum : Ev (fun k => spec_l1Num.f k vs[i]) (tx (Go.Lib.itoa vs[i])) := by
      rw [hn, Go.Lib.itoa_nonneg]
      exact num_f 3 n (by omega) (by omega)
    have hlen := told_len (vs.take i) (fun x hx => hv x (List.mem_of_mem_take hx))
    have hil := itoa_len h1
    have htk : (vs.take i).length = i := by simp; omega
    rw [List.take_succ_eq_append_getElem hi] at ih
    refine pos (by omega) (pos (by omega) (pos (by omega) ?_))
    by_cases c : (i : Int) > 0
    · have c45 : (⟨#[45]⟩ : ByteArray) = tx [45] := rfl
      refine pos c (pos (by rw [tx_size]; omega) (bind hnum (pos ?_ ?_)))
      · rw [c45, tx_append, tx_size, tx_size]
        simp
        omega
      · rw [c45, tx_append, tx_append]
        cases ht : vs.take i with
        | nil => rw [ht] at htk; simp at htk; omega
        | cons a t =>
          rw [ht, told_snoc] at ih
          exact ih
    · refine neg c (bind hnum (pos (by rw [tx_size, tx_size]; omega) ?_))
      obtain rfl : i = 0 := by omega
      rw [tx_append]
      rw [List.take_zero, List.nil_append, told_one] at ih
      simpa [told, Go.Lib.join_nil] using ih
theorem itoa_f (v : Int) (h : 0 ≤ v ∧ v ≤ 1000) : strconv_Itoa.f v = some (tx (Go.Lib.itoa v)) := by
  unfold strconv_Itoa.f
  rw [if_pos (by omega)]
  rfl
theorem join_l0 (vs : List Int) (hv : ∀ x ∈ vs, 0 ≤ x ∧ x ≤ 1000) (hl : vs.length ≤ 60) : ∀ i : Nat, i ≤ vs.length → ∀ ps : List ByteArray, ps.length = vs.length → (∀ j : Nat, j < i → ps.getD j ByteArray.empty = tx (Go.Lib.itoa (vs.getD j 0))) → Ev (fun k => impl_joinNumbers.l0 k ⟨#[45]⟩ ps vs (vs.length : Int) (i : Int)) (tx (told vs)) := by
  refine down vs.length ?_ ?_
  · intro ps hp hy
    have e : ps.map (·.data.toList) = vs.map Go.Lib.itoa := by
      refine List.ext_getElem (by simp [hp]) (fun j g1 g2 => ?_)
      have g1 : j < ps.length := by simpa using g1
      have := hy j (by omega)
      simp only [List.getElem_map]
      rw [List.getD_eq_getElem?_getD, List.getElem?_eq_getElem g1, List.getD_eq_getElem?_getD, List.getElem?_eq_getElem (by omega : j < vs.length)] at this
      have this : ps[j] = tx (Go.Lib.itoa vs[j]) := this
      rw [this]
      simp [tx]
    refine succ ?_
    simp only [impl_joinNumbers.l0]
    refine neg (by omega) (bindSome ?_ (now _))
    have hlen := told_len vs hv
    unfold strings_Join.f
    rw [e, if_pos ⟨by omega, by show (told vs).length ≤ _; omega⟩]
    rfl
  · intro i hi ih ps hp hy
    have h1 := hv vs[i] (List.getElem_mem hi)
    refine succ ?_
    simp only [impl_joinNumbers.l0]
    rw [rd_lt vs i hi, wnat (by omega)]
    refine pos (by omega) (pos (by omega) (pos (by omega) (bindSome (itoa_f _ h1) (pos (by omega) ?_))))
    refine ih _ (by simp [hp]) (fun j hj => ?_)
    simp only [Int.toNat_natCast]
    by_cases e : j = i
    · subst e
      simp [hp, hi]
    · rw [List.getD_eq_getElem?_getD, List.getElem?_set_ne (Ne.symm e), ← List.getD_eq_getElem?_getD]
      exact hy j (by omega)
theorem both_same (vs : List Int) (hx : vs.length ≤ 35184372088832) : ∃ v : ByteArray × Bool, Ev (fun k => spec_PeopleText.f k vs) v ∧ Ev (fun k => impl_PeopleText.f k vs) v := by
  unfold spec_PeopleText.f impl_PeopleText.f
  by_cases c : People vs
  · have hl := c.1.1.2
    refine ⟨(tx (told vs), true), bind (good_spec vs hx) (pos (by simpa using c) (bind ?_ (now _))), bind (good_impl vs hx) (pos (by simpa using c) (bind ?_ (now _)))⟩
    · unfold spec_mdText.f
      have := text_l0 vs c.1.2 hl 0 (by omega)
      rw [List.take_zero] at this
      exact this
    · unfold impl_joinNumbers.f
      refine pos (by omega) (pos (by omega) ?_)
      exact join_l0 vs c.1.2 hl 0 (by omega) _ (by simp) (fun j hj => by omega)
  · exact ⟨(⟨#[]⟩, false), bind (good_spec vs hx) (neg (by simpa using c) (now _)), bind (good_impl vs hx) (neg (by simpa using c) (now _))⟩
theorem FnExactPeopleText : laws_FnExactPeopleText.Pure := by
  intro xs hm _ _
  refine Ev.rounds ?_
  unfold laws_FnExactPeopleText.f
  by_cases h : (xs.length : Int) > 1048576
  · exact pos h (now _)
  refine neg h ?_
  have hl : xs.length ≤ 35184372088832 := by omega
  obtain ⟨v, h1, h2⟩ := both_same xs hl
  refine bind (toIntS_f xs hl) (bind h1 (bind (toIntS_f xs hl) (bind h2 (pos rfl ?_))))
  rw [bne_false rfl]
  refine succ ?_
  simp only [laws_FnExactPeopleText.j0]
  exact neg (by simp) (bind (toIntS_f xs hl) (bind (eqIntS_same xs hl) (pos rfl (now _))))

end Go.Proofs.YtgpnnepagfnfgaaDoor.Pure
