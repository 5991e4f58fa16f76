/- The plain law of FnExactCountLoots: what the printed functions compute answers true at every input within the bounds that the print tells. -/
import Derived.Test.YtbchfajbobploaaMAx2
import Derived.Test.YtbchfajbobploaaLib
namespace Go.Proofs.Ytbchfajbobploaa.Pure
open Go.RowKit Go.Proofs.Ytbchfajbobploaa.MA Go.Proofs.YtbchfajbobploaaW.PrintWords Go.Proofs.YtbchfajbobploaaW.PrintLast Go.Proofs.YtbchfajbobploaaW.PrintMore Go.Proofs.Ytbchfajbobploaa.Lib
set_option linter.unusedVariables false
set_option linter.unusedSimpArgs false

theorem spec_in (a b c : Int) : spec_l1In.f a b c = some (decide (b ≤ a ∧ a ≤ c)) := by
  unfold spec_l1In.f
  by_cases h : a ≥ b
  · rw [if_pos h]; simp [show b ≤ a from h]
  · rw [if_neg h]; simp [show ¬ b ≤ a from h]
theorem impl_in (a b c : Int) : impl_within.f a b c = some (decide (b ≤ a ∧ a ≤ c)) := by
  unfold impl_within.f
  by_cases h : a ≥ b
  · rw [if_pos h]; simp [show b ≤ a from h]
  · rw [if_neg h]; simp [show ¬ b ≤ a from h]

theorem spec_ring (n : Int) (r : Bool) : spec_rwRing.f n r = some (r && decide (n > 2)) := by
  unfold spec_rwRing.f; cases r <;> simp
theorem impl_ring (n : Int) (r : Bool) : impl_isRing.f n r = some (r && decide (n > 2)) := by
  unfold impl_isRing.f; cases r <;> simp

theorem spec_abs (n : Int) (h1 : -9223372036854775808 < n) (h2 : n ≤ 9223372036854775807) : spec_l1Abs.f n = some (n.natAbs : Int) := by
  unfold spec_l1Abs.f spec_l1Most.f
  rw [w64 (by omega) (by omega)]
  by_cases h : n > -n
  · rw [if_pos h]; simp; omega
  · rw [if_neg h]; simp; omega
/-- Neighbours, of n houses. -/
def nbr (n a b : Int) (ring : Bool) : Bool := decide ((a - b).natAbs = 1) || (ring && decide (n > 2) && decide (((a - b).natAbs : Int) = n - 1))
theorem spec_next (n a b : Int) (ring : Bool) (hn : 0 ≤ n) (hn2 : n ≤ 9223372036854775807) (h1 : -9223372036854775808 < a - b) (h2 : a - b ≤ 9223372036854775807) : spec_rwNext.f n a b ring = some (nbr n a b ring) := by
  unfold spec_rwNext.f nbr
  rw [w64 (by omega) (by omega), spec_abs _ (by omega) (by omega), spec_ring]
  simp only [Option.bind_some]
  by_cases c : ((a - b).natAbs : Int) = 1
  · rw [if_pos c]; simp; omega
  · rw [if_neg c]
    have c' : ¬ (a - b).natAbs = 1 := by omega
    rw [w64 (by omega) (by omega)]
    cases ring
    · simp [c']
    · by_cases d : n > 2
      · simp only [d, c', decide_true, decide_false, Bool.and_self, Bool.true_and, Bool.false_or, if_true]
        congr 1
      · simp [d, c']

theorem l1Own_f (xs : List Int) (h : xs.length < 17592186044416) : spec_l1Own.f xs = some xs := by
  unfold spec_l1Own.f
  simp [h]
/-- Whether a house is no neighbour of those taken. -/
def free (n : Int) (ring : Bool) (b : List Int) (i : Int) : Bool := b.all fun x => !nbr n x i ring
/-- All loots that go on from some houses, from a house on, so many houses left. -/
def lootsFrom (n : Int) (ring : Bool) : Nat → List Int → Int → List (List Int)
  | 0, _, _ => []
  | d + 1, b, i => (if free n ring b i = true then (b ++ [i]) :: lootsFrom n ring d (b ++ [i]) (i + 1) else []) ++ lootsFrom n ring d b (i + 1)
theorem lootsFrom_bound (n : Int) (ring : Bool) : ∀ d b i, (lootsFrom n ring d b i).length + 1 ≤ 2 ^ d := by
  intro d
  induction d with
  | zero => intro b i; simp [lootsFrom]
  | succ d ih =>
    intro b i
    simp only [lootsFrom]
    have h1 := ih (b ++ [i]) (i + 1)
    have h2 := ih b (i + 1)
    have e : 2 ^ (d + 1) = 2 ^ d + 2 ^ d := by rw [Nat.pow_succ]; omega
    rw [e, List.length_append]
    split
    · rw [List.length_cons]; omega
    · simp; omega
/-- What begins hold: houses below the next one. -/
def BelowB (b : List Int) (i : Nat) : Prop := (∀ x ∈ b, 0 ≤ x ∧ x < (i : Int)) ∧ b.length ≤ i
theorem belowB_step {b : List Int} {i : Nat} (h : BelowB b i) : BelowB b (i + 1) := ⟨fun x hx => by have := h.1 x hx; omega, by have := h.2; omega⟩
theorem belowB_snoc {b : List Int} {i : Nat} (h : BelowB b i) : BelowB (b ++ [(i : Int)]) (i + 1) := by
  refine ⟨fun x hx => ?_, by rw [List.length_append]; have := h.2; simp; omega⟩
  rcases List.mem_append.1 hx with hx | hx
  · have := h.1 x hx; omega
  · rw [List.mem_singleton.1 hx]; omega
/-- The inner loop: is a house free. -/
theorem loots_l1 (n : Nat) (ring : Bool) (b : List Int) (out : List (List Int)) (i : Nat) (hn : n ≤ 20) (hi : i < n) (hb : BelowB b i) (v : List (List Int))
    (hyes : free n ring b i = true → Ev (fun k => (spec_l1Own.f b).bind fun t => (if t.length < 17592186044416 then ((spec_rwLoots.f k n (t ++ [(i : Int)]) ring).bind fun t127 => (if out.length + t127.length < 5864062014805 then (spec_rwLoots.l0 k n b ring (out ++ t127) (wrap64 ((i : Int) + 1))) else (none))) else (none))) v)
    (hno : free n ring b i = false → Ev (fun k => spec_rwLoots.l0 k n b ring out (wrap64 ((i : Int) + 1))) v) :
    Ev (fun k => spec_rwLoots.l1 k n b ring out i true b b.length 0) v := by
  have key : ∀ j : Nat, j ≤ b.length → ∀ fr : Bool, (fr && (b.drop j).all fun x => !nbr n x i ring) = free n ring b i → Ev (fun k => spec_rwLoots.l1 k n b ring out i fr b b.length j) v := by
    refine down b.length ?_ ?_
    · intro fr hf
      rw [List.drop_length, List.all_nil, Bool.and_true] at hf
      refine succ ?_
      simp only [spec_rwLoots.l1]
      refine neg (by omega) ?_
      cases fr with
      | true => exact pos rfl (hyes hf.symm)
      | false => exact neg (by simp) (hno hf.symm)
    · intro j hj ih fr hf
      refine succ ?_
      simp only [spec_rwLoots.l1]
      have hl := hb.2
      rw [wnat (by omega), rd_lt b j hj]
      have hx := hb.1 _ (List.getElem_mem hj)
      rw [List.drop_eq_getElem_cons hj, List.all_cons] at hf
      refine pos (by omega) (pos (by omega) (pos (by omega) ?_))
      cases fr with
      | true =>
        refine pos rfl (bindSome (spec_next _ _ _ _ (by omega) (by omega) (by omega) (by omega)) ?_)
        exact ih _ (by simpa using hf)
      | false => exact neg (by simp) (ih false (by simpa using hf))
  exact key 0 (by omega) true (by simp [free])
theorem loots_both (n : Nat) (ring : Bool) (hn : n ≤ 20) : ∀ d : Nat, ∀ i : Nat, i ≤ n → n - i = d →
    (∀ b out, BelowB b i → out.length + 2 ^ d ≤ 2 ^ 30 → Ev (fun k => spec_rwLoots.l0 k n b ring out i) (out ++ lootsFrom n ring d b i)) := by
  intro d
  induction d with
  | zero =>
    intro i hi hd b out hb ho
    refine succ ?_
    simp only [spec_rwLoots.l0]
    exact neg (by omega) (conv (now _) (by simp [lootsFrom]))
  | succ d ih =>
    intro i hi hd b out hb ho
    have hin : i < n := by omega
    have ihn := ih (i + 1) (by omega) (by omega)
    have e2 : 2 ^ (d + 1) = 2 ^ d + 2 ^ d := by rw [Nat.pow_succ]; omega
    have p20 : 2 ^ d ≤ 2 ^ 20 := Nat.pow_le_pow_right (by omega) (by omega)
    have pd : 1 ≤ 2 ^ d := Nat.one_le_two_pow
    rw [e2] at ho
    generalize hG : 2 ^ d = G at ho p20 pd ihn e2
    have hl := hb.2
    refine succ ?_
    simp only [spec_rwLoots.l0]
    refine pos (by omega) ?_
    refine loots_l1 n ring b out i hn hin hb _ ?_ ?_
    · intro hf
      refine bindSome (l1Own_f b (by omega)) (pos (by omega) ?_)
      have hb1 := belowB_snoc hb
      have hrec : Ev (fun k => spec_rwLoots.f k n (b ++ [(i : Int)]) ring) ((b ++ [(i : Int)]) :: lootsFrom n ring d (b ++ [(i : Int)]) ((i + 1 : Nat) : Int)) := by
        refine succ ?_
        simp only [spec_rwLoots.f]
        refine bindSome (l1Own_f _ (by rw [List.length_append]; simp; omega)) ?_
        simp only [Option.bind_some]
        have el : ((b ++ [(i : Int)]).length : Int) = ((b.length + 1 : Nat) : Int) := by simp
        rw [el]
        have es : wrap64 (((b.length + 1 : Nat) : Int) - 1) = (b.length : Int) := by unfold wrap64; omega
        rw [es, rd_lt _ b.length (by simp)]
        have eg : (b ++ [(i : Int)])[b.length]'(by simp) = (i : Int) := by simp
        rw [eg, wnat (by omega)]
        refine pos (by omega) (pos (by omega) (pos (by omega) (succ ?_)))
        simp only [spec_rwLoots.j0]
        refine conv (ihn (b ++ [(i : Int)]) [b ++ [(i : Int)]] hb1 (by simp; omega)) (by simp)
      refine bind hrec ?_
      have bd := lootsFrom_bound n ring d (b ++ [(i : Int)]) ((i + 1 : Nat) : Int)
      rw [hG] at bd
      refine pos (by rw [List.length_cons]; omega) ?_
      rw [wnat (by omega)]
      refine conv (ihn b _ (belowB_step hb) (by rw [List.length_append, List.length_cons]; omega)) ?_
      simp only [lootsFrom]
      rw [if_pos hf]
      simp
    · intro hf
      rw [wnat (by omega)]
      refine conv (ihn b out (belowB_step hb) (by omega)) ?_
      simp only [lootsFrom]
      rw [if_neg (by simp [hf])]
      simp
theorem rwLoots_f (n : Nat) (ring : Bool) (hn : n ≤ 20) : Ev (fun k => spec_rwLoots.f k n ([] : List Int) ring) ([] :: lootsFrom n ring n [] 0) := by
  refine succ ?_
  simp only [spec_rwLoots.f]
  refine bindSome (l1Own_f [] (by simp)) ?_
  simp only [Option.bind_some]
  refine neg (by simp) (succ ?_)
  simp only [spec_rwLoots.j0]
  have p20 : 2 ^ n ≤ 2 ^ 20 := Nat.pow_le_pow_right (by omega) (by omega)
  exact conv (loots_both n ring hn n 0 (by omega) (by omega) [] [[]] ⟨fun x hx => by simp at hx, by simp⟩ (by simp; omega)) (by simp)

/-- How many loots a row has: by its houses; and where the house before is taken. -/
def fibW : Nat → Nat
  | 0 => 1
  | 1 => 2
  | d + 2 => fibW d + fibW (d + 1)
theorem free_iff (n : Nat) (ring : Bool) (b : List Int) (i : Nat) (hi : i < n) (hb : BelowB b i) :
    free n ring b i = true ↔ ¬ ((i : Int) - 1 ∈ b) ∧ ¬ ((ring = true ∧ n > 2) ∧ i + 1 = n ∧ (0 : Int) ∈ b ∧ 0 < i) := by
  unfold free
  rw [List.all_eq_true]
  constructor
  · intro h
    refine ⟨fun m => ?_, fun m => ?_⟩
    · have := h _ m
      simp only [nbr, Bool.not_eq_true', Bool.or_eq_false_iff, decide_eq_false_iff_not] at this
      exact this.1 (by omega)
    · have := h _ m.2.2.1
      simp only [nbr, Bool.not_eq_true', Bool.or_eq_false_iff, decide_eq_false_iff_not] at this
      have t2 := this.2
      rw [m.1.1] at t2
      simp only [Bool.true_and, Bool.and_eq_false_iff, decide_eq_false_iff_not] at t2
      rcases t2 with t2 | t2
      · exact t2 (by have := m.1.2; omega)
      · exact t2 (by have := m.2.1; omega)
  · rintro ⟨h1, h2⟩ x hx
    have bx := hb.1 x hx
    simp only [nbr, Bool.not_eq_true', Bool.or_eq_false_iff, decide_eq_false_iff_not]
    refine ⟨fun e => h1 ?_, ?_⟩
    · rw [show (i : Int) - 1 = x by omega]; exact hx
    · cases ring with
      | false => rfl
      | true =>
        simp only [Bool.true_and, Bool.and_eq_false_iff, decide_eq_false_iff_not]
        by_cases c : (n : Int) > 2
        · right
          intro e
          refine h2 ⟨⟨rfl, by omega⟩, by omega, ?_, by omega⟩
          rw [show (0 : Int) = x by omega]; exact hx
        · left; exact c
/-- The count from a house on: 'near': the house before is taken; 'last': the last house is shut. -/
theorem count_from (n : Nat) (ring : Bool) : ∀ d : Nat, ∀ i : Nat, i + d = n → ∀ b, BelowB b i → ¬ ((ring = true ∧ n > 2) ∧ (0 : Int) ∈ b) → ((ring = true ∧ n > 2) → 0 < i) →
    ((¬ (i : Int) - 1 ∈ b → (lootsFrom n ring d b i).length + 1 = fibW d) ∧ ((i : Int) - 1 ∈ b → (lootsFrom n ring d b i).length + 1 = fibW (d - 1))) := by
  intro d
  induction d with
  | zero => intro i h b _ _ _; constructor <;> intro _ <;> simp [lootsFrom, fibW]
  | succ d ih =>
    intro i h b hb hz h0
    have hin : i < n := by omega
    have hn1 : ¬ ((i + 1 : Nat) : Int) - 1 ∈ b := by
      intro m
      have := hb.1 _ m
      omega
    have hy1 : ((i + 1 : Nat) : Int) - 1 ∈ b ++ [(i : Int)] := by rw [show ((i + 1 : Nat) : Int) - 1 = (i : Int) by omega]; simp
    have hz1 : ¬ ((ring = true ∧ n > 2) ∧ (0 : Int) ∈ b ++ [(i : Int)]) := by
      rintro ⟨r, m⟩
      rcases List.mem_append.1 m with m | m
      · exact hz ⟨r, m⟩
      · have := h0 r
        have := List.mem_singleton.1 m
        omega
    have A := (ih (i + 1) (by omega) b (belowB_step hb) hz (fun r => by omega)).1 hn1
    have B := (ih (i + 1) (by omega) (b ++ [(i : Int)]) (belowB_snoc hb) hz1 (fun r => by omega)).2 hy1
    have fr := free_iff n ring b i hin hb
    constructor
    · intro hm
      have f : free n ring b i = true := fr.2 ⟨hm, fun g => hz ⟨g.1, g.2.2.1⟩⟩
      simp only [lootsFrom]
      rw [if_pos f, List.length_append, List.length_cons]
      cases d with
      | zero => simp [lootsFrom, fibW]
      | succ d =>
        simp only [Nat.add_sub_cancel] at B
        simp only [fibW]
        have c : ((i : Int) + 1) = ((i + 1 : Nat) : Int) := by omega
        rw [c]
        omega
    · intro hm
      have f : ¬ free n ring b i = true := fun g => (fr.1 g).1 hm
      simp only [lootsFrom]
      rw [if_neg f, List.nil_append, Nat.add_sub_cancel]
      exact A
/-- The same where the first house is taken in a ring. -/
theorem count_zero (n : Nat) (hn : n > 2) : ∀ d : Nat, ∀ i : Nat, i + d = n → 0 < i → 0 < d → ∀ b, BelowB b i → (0 : Int) ∈ b →
    ((¬ (i : Int) - 1 ∈ b → (lootsFrom n true d b i).length + 1 = fibW (d - 1)) ∧ ((i : Int) - 1 ∈ b → (lootsFrom n true d b i).length + 1 = fibW (d - 1 - 1))) := by
  intro d
  induction d with
  | zero => intro i h h1 h2; omega
  | succ d ih =>
    intro i h h0 _ b hb hz
    have hin : i < n := by omega
    have fr := free_iff n true b i hin hb
    rw [Nat.add_sub_cancel]
    cases d with
    | zero =>
      have f : ¬ free n true b i = true := fun g => (fr.1 g).2 ⟨⟨rfl, hn⟩, by omega, hz, h0⟩
      constructor <;> intro _ <;> simp [lootsFrom, f, fibW]
    | succ d =>
      have hn1 : ¬ ((i + 1 : Nat) : Int) - 1 ∈ b := by
        intro m
        have := hb.1 _ m
        omega
      have hy1 : ((i + 1 : Nat) : Int) - 1 ∈ b ++ [(i : Int)] := by rw [show ((i + 1 : Nat) : Int) - 1 = (i : Int) by omega]; simp
      have A := (ih (i + 1) (by omega) (by omega) (by omega) b (belowB_step hb) hz).1 hn1
      have B := (ih (i + 1) (by omega) (by omega) (by omega) (b ++ [(i : Int)]) (belowB_snoc hb) (List.mem_append.2 (.inl hz))).2 hy1
      rw [Nat.add_sub_cancel] at A B
      have c : ((i : Int) + 1) = ((i + 1 : Nat) : Int) := by omega
      constructor
      · intro hm
        have f : free n true b i = true := fr.2 ⟨hm, fun g => by have := g.2.1; omega⟩
        simp only [lootsFrom] at A B ⊢
        rw [if_pos f, List.length_append, List.length_cons]
        rw [c]
        cases d with
        | zero => simp only [fibW, Nat.zero_sub] at A B ⊢; omega
        | succ d =>
          rw [Nat.add_sub_cancel] at B
          simp only [fibW] at A B ⊢
          omega
      · intro hm
        have f : ¬ free n true b i = true := fun g => (fr.1 g).1 hm
        simp only [lootsFrom] at A ⊢
        rw [if_neg f, List.nil_append, Nat.add_sub_cancel, c]
        exact A
theorem rowLoots_l0 (n : Nat) (hn : n ≤ 20) : ∀ d : Nat, ∀ i : Nat, i + d = n → ∀ a b : Nat, a ≤ 2 ^ i → b ≤ 2 ^ i → Ev (fun k => impl_rowLoots.l0 k a b n i) (((if d = 0 then a + b else a * fibW (d - 1) + b * fibW d : Nat) : Int)) := by
  intro d
  induction d with
  | zero =>
    intro i h a b ha hb
    have p20 : 2 ^ i ≤ 2 ^ 20 := Nat.pow_le_pow_right (by omega) (by omega)
    refine succ ?_
    simp only [impl_rowLoots.l0]
    refine neg (by omega) (conv (now _) ?_)
    rw [w64 (by omega) (by omega)]
    simp
  | succ d ih =>
    intro i h a b ha hb
    have p20 : 2 ^ i ≤ 2 ^ 20 := Nat.pow_le_pow_right (by omega) (by omega)
    have e2 : 2 ^ (i + 1) = 2 ^ i + 2 ^ i := by rw [Nat.pow_succ]; omega
    refine succ ?_
    simp only [impl_rowLoots.l0]
    refine pos (by omega) ?_
    rw [wnat (by omega), w64 (x := (a : Int) + b) (by omega) (by omega), show (a : Int) + b = ((a + b : Nat) : Int) by omega]
    refine conv (ih (i + 1) (by omega) b (a + b) (by omega) (by omega)) ?_
    rw [if_neg (show ¬ d + 1 = 0 by omega), Nat.add_sub_cancel]
    cases d with
    | zero => simp [fibW]; omega
    | succ d =>
      rw [if_neg (by omega), Nat.add_sub_cancel]
      simp only [fibW]
      congr 1
      rw [Nat.mul_add, Nat.add_mul]
      omega
theorem rowLoots_f (n : Nat) (hn : n ≤ 20) : Ev (fun k => impl_rowLoots.f k n) (fibW n : Int) := by
  unfold impl_rowLoots.f
  refine conv (rowLoots_l0 n hn n 0 (by omega) 0 1 (by simp) (by simp)) ?_
  split
  · rename_i h; subst h; rfl
  · simp

theorem lootsCount (n : Nat) (ring : Bool) (h : 1 ≤ n) : (([] : List Int) :: lootsFrom n ring n [] 0).length = if ring = true ∧ n > 2 then fibW (n - 1) + fibW (n - 3) else fibW n := by
  have b0 : BelowB [] 0 := ⟨fun x hx => by simp at hx, by simp⟩
  by_cases c : ring = true ∧ n > 2
  · rw [if_pos c]
    obtain ⟨rfl, hn⟩ := c
    obtain ⟨m, rfl⟩ : ∃ m, n = m + 1 := ⟨n - 1, by omega⟩
    have f : free ((m + 1 : Nat) : Int) true [] 0 = true := by simp [free]
    simp only [lootsFrom, f, if_true, List.length_cons, List.length_append, List.nil_append]
    have A := (count_from (m + 1) true m 1 (by omega) [] (belowB_step b0) (by simp) (fun _ => by omega)).1 (by simp)
    have hb1 : BelowB [(0 : Int)] 1 := belowB_snoc b0
    have B := (count_zero (m + 1) hn m 1 (by omega) (by omega) (by omega) [0] hb1 (by simp)).2 (by simp)
    have e : (0 : Int) + 1 = ((1 : Nat) : Int) := rfl
    rw [e]
    rw [show m + 1 - 1 = m by omega, show m + 1 - 3 = m - 1 - 1 by omega]
    omega
  · rw [if_neg c]
    have A := (count_from n ring n 0 (by omega) [] b0 (by simp) (fun r => absurd r c)).1 (by simp)
    rw [List.length_cons]
    exact A
theorem both_same (n : Int) (ring : Bool) : ∃ v, Ev (fun k => spec_CountLoots.f k n ring) v ∧ Ev (fun k => impl_CountLoots.f k n ring) v := by
  unfold spec_CountLoots.f impl_CountLoots.f spec_rwHouses.f impl_isRowLength.f
  simp only [spec_in, impl_in, impl_ring, Option.bind_some]
  by_cases c : 1 ≤ n ∧ n ≤ 20
  · obtain ⟨m, rfl⟩ := Int.eq_ofNat_of_zero_le (show 0 ≤ n by omega)
    have L := lootsCount m ring (by omega)
    refine ⟨(((if ring = true ∧ m > 2 then fibW (m - 1) + fibW (m - 3) else fibW m : Nat) : Int), true), pos (by simpa using c) (bind (rwLoots_f m ring (by omega)) (conv (now _) (by rw [L]))), pos (by simpa using c) ?_⟩
    by_cases r : ring = true ∧ m > 2
    · rw [if_pos r]
      refine pos (by simp [r.1]; omega) ?_
      rw [w64 (x := (m : Int) - 1) (by omega) (by omega), w64 (x := (m : Int) - 3) (by omega) (by omega), show (m : Int) - 1 = ((m - 1 : Nat) : Int) by omega, show (m : Int) - 3 = ((m - 3 : Nat) : Int) by omega]
      refine bind (rowLoots_f (m - 1) (by omega)) (bind (rowLoots_f (m - 3) (by omega)) (conv (now _) ?_))
      have b1 : ∀ d, fibW d ≤ 2 ^ d := by
        intro d
        induction d using Nat.strongRecOn with
        | _ d ih =>
          match d with
          | 0 => simp [fibW]
          | 1 => simp [fibW]
          | d + 2 =>
            simp only [fibW]
            have h1 := ih d (by omega)
            have h2 := ih (d + 1) (by omega)
            have e1 : 2 ^ (d + 1) = 2 ^ d + 2 ^ d := by rw [Nat.pow_succ]; omega
            have e2 : 2 ^ (d + 2) = 2 ^ (d + 1) + 2 ^ (d + 1) := by rw [Nat.pow_succ 2 (d + 1)]; omega
            omega
      have p1 := b1 (m - 1)
      have p2 := b1 (m - 3)
      have q1 : 2 ^ (m - 1) ≤ 2 ^ 20 := Nat.pow_le_pow_right (by omega) (by omega)
      have q2 : 2 ^ (m - 3) ≤ 2 ^ 20 := Nat.pow_le_pow_right (by omega) (by omega)
      rw [w64 (by omega) (by omega)]
      simp
    · rw [if_neg r]
      refine neg ?_ (bind (rowLoots_f m (by omega)) (now _))
      intro h
      simp only [Bool.and_eq_true, decide_eq_true_eq] at h
      exact r ⟨h.1, by omega⟩
  · exact ⟨(0, false), neg (by simpa using c) (now _), neg (by simpa using c) (now _)⟩
theorem FnExactCountLoots : laws_FnExactCountLoots.Pure := by
  intro n ring hn
  refine Ev.rounds ?_
  unfold laws_FnExactCountLoots.f
  obtain ⟨v, h1, h2⟩ := both_same n ring
  exact bind h1 (bind h2 (pos rfl (neg (by simp) (now _))))

end Go.Proofs.Ytbchfajbobploaa.Pure
