/- The plain law of FnExactIsPainted: what the printed functions compute answers true at every input within the bounds that the print tells. -/
import Derived.Test.YtbchfajbobploaaMAx3
import Derived.Test.YtbchfajbobploaaLib
namespace Go.Proofs.Ytbchfajbobploaa.Pure
open Go.RowKit Go.Proofs.Ytbchfajbobploaa.MA Go.Proofs.YtbchfajbobploaaW.PrintWords Go.Proofs.YtbchfajbobploaaW.PrintLast Go.Proofs.YtbchfajbobploaaW.PrintMore Go.Proofs.Ytbchfajbobploaa.Lib
set_option linter.unusedVariables false
set_option linter.unusedSimpArgs false

theorem spec_in (a b c : Int) : spec_l1In.f a b c = some (decide (b ≤ a ∧ a ≤ c)) := by
  unfold spec_l1In.f
  by_cases h : a ≥ b
  · rw [if_pos h]; simp [show b ≤ a from h]
  · rw [if_neg h]; simp [show ¬ b ≤ a from h]
theorem impl_in (a b c : Int) : impl_within.f a b c = some (decide (b ≤ a ∧ a ≤ c)) := by
  unfold impl_within.f
  by_cases h : a ≥ b
  · rw [if_pos h]; simp [show b ≤ a from h]
  · rw [if_neg h]; simp [show ¬ b ≤ a from h]

theorem toIntS_l0 (xs : List Int) (hx : xs.length ≤ 35184372088832) : ∀ i : Nat, i ≤ xs.length → ∀ ys : List Int, ys.length = xs.length → (∀ j : Nat, j < i → ys.getD j 0 = xs.getD j 0) → Ev (fun k => laws_toIntS.l0 k xs ys i) xs := by
  refine down xs.length ?_ ?_
  · intro ys hl hy
    refine succ ?_
    simp only [laws_toIntS.l0]
    refine neg (by omega) (conv (now _) ?_)
    refine List.ext_getElem hl (fun j h1 h2 => ?_)
    have := hy j h2
    simpa [h1, h2] using this
  · intro i hi ih ys hl hy
    refine succ ?_
    simp only [laws_toIntS.l0]
    rw [wnat (by omega)]
    refine pos (by omega) (pos (by omega) (pos (by omega) ?_))
    refine ih _ (by simp [hl]) (fun j hj => ?_)
    simp only [Int.toNat_natCast, rd_nat]
    by_cases e : j = i
    · subst e
      simp [hl, hi]
    · rw [List.getD_eq_getElem?_getD, List.getElem?_set_ne (Ne.symm e), ← List.getD_eq_getElem?_getD]
      exact hy j (by omega)
theorem toIntS_f (xs : List Int) (hx : xs.length ≤ 35184372088832) : Ev (fun k => laws_toIntS.f k xs) xs := by
  unfold laws_toIntS.f
  refine pos (by omega) (pos (by omega) ?_)
  exact toIntS_l0 xs hx 0 (by omega) _ (by simp) (fun j hj => by omega)
theorem eqIntS_l0 (xs ys : List Int) (hx : xs.length ≤ 35184372088832) (hl : xs.length = ys.length) : ∀ i : Nat, i ≤ xs.length → Ev (fun k => laws_eqIntS.l0 k xs ys i) (decide (xs.drop i = ys.drop i)) := by
  refine down xs.length ?_ ?_
  · refine succ ?_
    simp only [laws_eqIntS.l0]
    exact neg (by omega) (conv (now _) (by simp [hl]))
  · intro i hi ih
    refine succ ?_
    simp only [laws_eqIntS.l0]
    rw [wnat (by omega)]
    refine pos (by omega) (pos (by omega) (pos (by omega) ?_))
    rw [rd_lt xs i hi, rd_lt ys i (by omega)]
    by_cases e : xs[i] = ys[i]'(by omega)
    · exact pos e (conv ih (by rw [decide_eq_decide, drop_iff hi (by omega)]; exact ⟨fun h => ⟨e, h⟩, fun h => h.2⟩))
    · exact neg e (conv (now _) (Eq.symm (decide_eq_false (by rw [drop_iff hi (by omega)]; exact fun h => e h.1))))
theorem eqIntS_f (xs ys : List Int) (hx : xs.length ≤ 35184372088832) : Ev (fun k => laws_eqIntS.f k xs ys) (decide (xs = ys)) := by
  unfold laws_eqIntS.f
  by_cases e : xs.length = ys.length
  · exact pos (by omega) (conv (eqIntS_l0 xs ys hx e 0 (by omega)) (by simp))
  · exact neg (by omega) (conv (now _) (by simp; intro h; exact e (by rw [h])))
theorem eqIntS_same (xs : List Int) (hx : xs.length ≤ 35184372088832) : Ev (fun k => laws_eqIntS.f k xs xs) true := conv (eqIntS_f xs xs hx) (by simp)

theorem spec_l1All_l0 (xs : List Int) (a b : Int) (hx : xs.length ≤ 35184372088832) : ∀ i : Nat, i ≤ xs.length → Ev (fun k => spec_l1All.l0 k a b xs xs.length i) (decide (∀ x ∈ xs.drop i, a ≤ x ∧ x ≤ b)) := by
  refine down xs.length ?_ ?_
  · refine succ ?_
    simp only [spec_l1All.l0]
    exact neg (by omega) (conv (now _) (by simp))
  · intro i hi ih
    refine succ ?_
    simp only [spec_l1All.l0, spec_in, Option.bind_some]
    rw [wnat (by omega)]
    refine pos (by omega) (pos (by omega) (pos (by omega) ?_))
    rw [rd_lt xs i hi]
    by_cases e : a ≤ xs[i] ∧ xs[i] ≤ b
    · exact pos (by simpa using e) (conv ih (by rw [decide_eq_decide, all_drop hi]; exact ⟨fun h => ⟨e, h⟩, fun h => h.2⟩))
    · exact neg (by simpa using e) (conv (now _) (Eq.symm (decide_eq_false (by rw [all_drop hi]; exact fun h => e h.1))))
theorem spec_l1All_f (xs : List Int) (a b : Int) (hx : xs.length ≤ 35184372088832) : Ev (fun k => spec_l1All.f k xs a b) (decide (∀ x ∈ xs, a ≤ x ∧ x ≤ b)) :=
  spec_l1All_l0 xs a b hx 0 (by omega)

theorem impl_allWithin_l0 (xs : List Int) (a b : Int) (hx : xs.length ≤ 35184372088832) : ∀ i : Nat, i ≤ xs.length → Ev (fun k => impl_allWithin.l0 k a b xs xs.length i) (decide (∀ x ∈ xs.drop i, a ≤ x ∧ x ≤ b)) := by
  refine down xs.length ?_ ?_
  · refine succ ?_
    simp only [impl_allWithin.l0]
    exact neg (by omega) (conv (now _) (by simp))
  · intro i hi ih
    refine succ ?_
    simp only [impl_allWithin.l0, impl_in, Option.bind_some]
    rw [wnat (by omega)]
    refine pos (by omega) (pos (by omega) (pos (by omega) ?_))
    rw [rd_lt xs i hi]
    by_cases e : a ≤ xs[i] ∧ xs[i] ≤ b
    · exact pos (by simpa using e) (conv ih (by rw [decide_eq_decide, all_drop hi]; exact ⟨fun h => ⟨e, h⟩, fun h => h.2⟩))
    · exact neg (by simpa using e) (conv (now _) (Eq.symm (decide_eq_false (by rw [all_drop hi]; exact fun h => e h.1))))
theorem impl_allWithin_f (xs : List Int) (a b : Int) (hx : xs.length ≤ 35184372088832) : Ev (fun k => impl_allWithin.f k xs a b) (decide (∀ x ∈ xs, a ≤ x ∧ x ≤ b)) :=
  impl_allWithin_l0 xs a b hx 0 (by omega)

theorem spec_ring (n : Int) (r : Bool) : spec_rwRing.f n r = some (r && decide (n > 2)) := by
  unfold spec_rwRing.f; cases r <;> simp
theorem impl_ring (n : Int) (r : Bool) : impl_isRing.f n r = some (r && decide (n > 2)) := by
  unfold impl_isRing.f; cases r <;> simp
/-- What the last row of both tells. -/
def ends (xs : List Int) (r : Bool) : Bool × Bool := if (r && decide ((xs.length : Int) > 2)) = true then (rd xs 0 != rd xs ((xs.length : Int) - 1), true) else (true, true)
theorem both (xs : List Int) (r : Bool) (h1 : 1 ≤ xs.length) (hx : xs.length ≤ 20) : ∀ i : Nat, i ≤ xs.length → 1 ≤ i → ∃ v, Ev (fun k => spec_IsPainted.l0 k xs r xs.length i) v ∧ Ev (fun k => impl_IsPainted.l0 k xs r xs.length i) v := by
  refine down xs.length ?_ ?_
  · intro _
    refine ⟨ends xs r, succ ?_, succ ?_⟩
    · simp only [spec_IsPainted.l0, spec_ring, Option.bind_some]
      refine neg (by omega) ?_
      unfold ends
      by_cases c : (r && decide ((xs.length : Int) > 2)) = true
      · refine pos c ?_
        rw [if_pos c, wsub1 (by omega)]
        exact pos (by omega) (pos (by omega) (pos (by omega) (now _)))
      · refine neg c ?_
        rw [if_neg c]; exact now _
    · simp only [impl_IsPainted.l0, impl_ring, Option.bind_some]
      refine neg (by omega) ?_
      unfold ends
      by_cases c : (r && decide ((xs.length : Int) > 2)) = true
      · refine pos c ?_
        rw [if_pos c, wsub1 (by omega)]
        exact pos (by omega) (pos (by omega) (pos (by omega) (now _)))
      · refine neg c ?_
        rw [if_neg c]; exact now _
  · intro i hi ih h
    obtain ⟨v, hs, hm⟩ := ih (by omega)
    by_cases c : rd xs ((i : Int) - 1) = rd xs i
    · refine ⟨(false, true), succ ?_, succ ?_⟩
      · simp only [spec_IsPainted.l0]
        rw [wsub1 (by omega)]
        exact pos (by omega) (pos (by omega) (pos (by omega) (pos (by omega) (pos (by omega) (pos c (now _))))))
      · simp only [impl_IsPainted.l0]
        rw [wsub1 (by omega)]
        exact pos (by omega) (pos (by omega) (pos (by omega) (pos (by omega) (pos (by omega) (pos c.symm (now _))))))
    · refine ⟨v, succ ?_, succ ?_⟩
      · simp only [spec_IsPainted.l0]
        rw [wsub1 (by omega), wnat (by omega)]
        exact pos (by omega) (pos (by omega) (pos (by omega) (pos (by omega) (pos (by omega) (neg c hs)))))
      · simp only [impl_IsPainted.l0]
        rw [wsub1 (by omega), wnat (by omega)]
        exact pos (by omega) (pos (by omega) (pos (by omega) (pos (by omega) (pos (by omega) (neg (fun e => c e.symm) hm)))))
theorem same (xs : List Int) (r : Bool) (hx : xs.length ≤ 35184372088832) : ∃ v, Ev (fun k => spec_IsPainted.f k xs r) v ∧ Ev (fun k => impl_IsPainted.f k xs r) v := by
  unfold spec_IsPainted.f impl_IsPainted.f spec_rwHouses.f impl_isRowLength.f
  simp only [spec_in, impl_in, Option.bind_some]
  by_cases c : 1 ≤ (xs.length : Int) ∧ (xs.length : Int) ≤ 20
  · by_cases d : ∀ x ∈ xs, (0 : Int) ≤ x ∧ x ≤ 4
    · obtain ⟨v, h1, h2⟩ := both xs r (by omega) (by omega) 1 (by omega) (by omega)
      refine ⟨v, pos (by simpa using c) (bind (spec_l1All_f xs 0 4 hx) (succ ?_)), pos (by simpa using c) (bind (impl_allWithin_f xs 0 4 hx) (succ ?_))⟩
      · simp only [spec_IsPainted.j0]; exact neg (by simp; simpa using d) h1
      · simp only [impl_IsPainted.j0]; exact neg (by simp; simpa using d) h2
    · refine ⟨(false, false), pos (by simpa using c) (bind (spec_l1All_f xs 0 4 hx) (succ ?_)), pos (by simpa using c) (bind (impl_allWithin_f xs 0 4 hx) (succ ?_))⟩
      · simp only [spec_IsPainted.j0]; exact pos (by simp only [d, decide_false, Bool.not_false]) (now _)
      · simp only [impl_IsPainted.j0]; exact pos (by simp only [d, decide_false, Bool.not_false]) (now _)
  · refine ⟨(false, false), neg (by simp; omega) (succ ?_), neg (by simp; omega) (succ ?_)⟩
    · simp only [spec_IsPainted.j0]; exact now _
    · simp only [impl_IsPainted.j0]; exact now _
theorem FnExactIsPainted : laws_FnExactIsPainted.Pure := by
  intro xs r hm hs hw
  refine Ev.rounds ?_
  unfold laws_FnExactIsPainted.f
  by_cases h : (xs.length : Int) > 1048576
  · exact pos h (now _)
  · refine neg h ?_
    have hl : xs.length ≤ 35184372088832 := by omega
    obtain ⟨v, h1, h2⟩ := same xs r hl
    refine bind (toIntS_f xs hl) (bind h1 (bind (toIntS_f xs hl) (bind h2 ?_)))
    refine neg (by simp) (succ ?_)
    simp only [laws_FnExactIsPainted.j0]
    refine neg (by simp) ?_
    exact bind (toIntS_f xs hl) (bind (eqIntS_same xs hl) (pos rfl (now _)))

end Go.Proofs.Ytbchfajbobploaa.Pure
