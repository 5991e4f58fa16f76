/- The plain law of FnExactTurnsOfWord: what the printed functions compute answers true at every input within the bounds that the print tells. -/
import Derived.Test.YtnnoeamcdbnbaaaMDx3
import Derived.Test.YtnnoeamcdbnbaaaLib
namespace Go.Proofs.Ytnnoeamcdbnbaaa.Pure
open Go.RowKit Go.Proofs.Ytnnoeamcdbnbaaa.MD Go.Proofs.YtnnoeamcdbnbaaaW.PrintWords Go.Proofs.YtnnoeamcdbnbaaaW.PrintLast Go.Proofs.YtnnoeamcdbnbaaaW.PrintMore Go.Proofs.Ytnnoeamcdbnbaaa.Lib
set_option linter.unusedVariables false
set_option linter.unusedSimpArgs false

theorem pos_val (x : Int) (h0 : 0 ≤ x) (h1 : x ≤ 255) : impl_TurnsOfWord.pos x = if x = 101 then 0 else if x = 110 then 1 else if x = 119 then 2 else if x = 115 then 3 else -1 := by
  have key : ∀ u : UInt8, (u == x.toNat.toUInt8) = decide (x = (u.toNat : Int)) := by
    intro u
    have hx : x.toNat.toUInt8.toNat = x.toNat := by simp; omega
    rw [Bool.eq_iff_iff, beq_iff_eq, decide_eq_true_eq, ← UInt8.toNat_inj, hx]
    omega
  unfold impl_TurnsOfWord.pos
  simp only [Go.Lib.indexByte, key]
  have e1 : ((101 : UInt8).toNat : Int) = 101 := rfl
  have e2 : ((110 : UInt8).toNat : Int) = 110 := rfl
  have e3 : ((119 : UInt8).toNat : Int) = 119 := rfl
  have e4 : ((115 : UInt8).toNat : Int) = 115 := rfl
  rw [e1, e2, e3, e4]
  by_cases c1 : x = 101
  · simp [c1]
  · by_cases c2 : x = 110
    · simp [c2]
    · by_cases c3 : x = 119
      · simp [c3]
      · by_cases c4 : x = 115
        · simp [c4]
        · simp [c1, c2, c3, c4]
theorem owSign_pos (x : Int) (h0 : 0 ≤ x) (h1 : x ≤ 255) : spec_owSign.f x = some (decide (0 ≤ impl_TurnsOfWord.pos x)) := by
  rw [pos_val x h0 h1]
  unfold spec_owSign.f
  by_cases c1 : x = 101
  · simp [c1]
  · by_cases c2 : x = 110
    · simp [c2]
    · by_cases c3 : x = 119
      · simp [c3]
      · by_cases c4 : x = 115
        · simp [c4]
        · simp [c1, c2, c3, c4]
theorem owWay_pos (x : Int) (h0 : 0 ≤ x) (h1 : x ≤ 255) : spec_owWay.f x = some (impl_TurnsOfWord.pos x) := by
  rw [pos_val x h0 h1]
  unfold spec_owWay.f
  by_cases c1 : x = 101
  · simp [c1]
  · by_cases c2 : x = 110
    · simp [c2]
    · by_cases c3 : x = 119
      · simp [c3]
      · by_cases c4 : x = 115
        · simp [c4]
        · simp [c1, c2, c3, c4]
theorem pos_le (x : Int) : -1 ≤ impl_TurnsOfWord.pos x ∧ impl_TurnsOfWord.pos x ≤ 3 := impl_TurnsOfWord.pos_range x
/-- What is known of the sign before one. -/
def PrevOk (s : ByteArray) (i : Nat) : Prop := 0 < i → 0 ≤ impl_TurnsOfWord.pos (bt s ((i : Int) - 1))
theorem prevOk_step {s : ByteArray} {i : Nat} (h : 0 ≤ impl_TurnsOfWord.pos (bt s i)) : PrevOk s (i + 1) := by
  intro _
  rw [show ((i + 1 : Nat) : Int) - 1 = (i : Int) by omega]
  exact h
/-- Somebody turned about: the answer is no, whatever follows. -/
theorem about (s : ByteArray) (hs : s.size ≤ 100) : ∀ i : Nat, i ≤ s.size → PrevOk s i → ∀ t0 t1 t2 t3 : Int, 0 ≤ t0 → t0 ≤ i → 0 ≤ t1 → t1 ≤ i → 0 < t2 → t2 ≤ i → 0 ≤ t3 → t3 ≤ i →
    impl_TurnsOfWord.l (101 - i) s i t0 t1 t2 t3 = some (0, 0, false) := by
  refine down s.size ?_ ?_
  · intro _ t0 t1 t2 t3 _ _ _ _ h _ _ _
    rw [show 101 - s.size = (100 - s.size) + 1 by omega]
    simp only [impl_TurnsOfWord.l]
    rw [if_neg (by omega), if_pos h]
  · intro i hi ih hp t0 t1 t2 t3 a0 b0 a1 b1 a2 b2 a3 b3
    rw [show 101 - i = (100 - i) + 1 by omega]
    simp only [impl_TurnsOfWord.l]
    rw [if_pos hi]
    by_cases c : impl_TurnsOfWord.pos (bt s i) < 0
    · rw [if_pos c]
    · rw [if_neg c]
      have ih := ih (prevOk_step (by omega))
      rw [show 101 - (i + 1) = 100 - i by omega] at ih
      by_cases z : 0 < i
      · rw [if_pos z]
        have q := hp z
        have r1 := pos_le (bt s i)
        have r2 := pos_le (bt s ((i : Int) - 1))
        generalize impl_TurnsOfWord.pos (bt s i) = p at c r1
        generalize impl_TurnsOfWord.pos (bt s ((i : Int) - 1)) = u at q r2
        have hj : (p - u + 4).tmod 4 = 0 ∨ (p - u + 4).tmod 4 = 1 ∨ (p - u + 4).tmod 4 = 2 ∨ (p - u + 4).tmod 4 = 3 := by
          rw [Int.tmod_eq_emod_of_nonneg (by omega)]; omega
        rcases hj with e | e | e | e
        · rw [if_pos e, w64 (by omega) (by omega)]
          exact ih _ _ _ _ (by omega) (by omega) a1 (by omega) a2 (by omega) a3 (by omega)
        · rw [if_neg (by omega), if_pos e, w64 (by omega) (by omega)]
          exact ih _ _ _ _ a0 (by omega) (by omega) (by omega) a2 (by omega) a3 (by omega)
        · rw [if_neg (by omega), if_neg (by omega), if_pos e, w64 (by omega) (by omega)]
          exact ih _ _ _ _ a0 (by omega) a1 (by omega) (by omega) (by omega) a3 (by omega)
        · rw [if_neg (by omega), if_neg (by omega), if_neg (by omega), if_pos e, w64 (by omega) (by omega)]
          exact ih _ _ _ _ a0 (by omega) a1 (by omega) a2 (by omega) (by omega) (by omega)
      · rw [if_neg z]
        exact ih _ _ _ _ a0 (by omega) a1 (by omega) a2 (by omega) a3 (by omega)
theorem turns_same (s : ByteArray) (hs : s.size ≤ 100) : ∀ i : Nat, i ≤ s.size → PrevOk s i → ∀ t0 t1 t3 : Int, 0 ≤ t0 → t0 ≤ i → 0 ≤ t1 → t1 ≤ i → 0 ≤ t3 → t3 ≤ i →
    ∃ v, impl_TurnsOfWord.l (101 - i) s i t0 t1 0 t3 = some v ∧ Ev (fun k => spec_TurnsOfWord.l0 k s t1 t3 i) v := by
  refine down s.size ?_ ?_
  · intro _ t0 t1 t3 _ _ _ _ _ _
    refine ⟨(t1, t3, true), ?_, succ ?_⟩
    · rw [show 101 - s.size = (100 - s.size) + 1 by omega]
      simp only [impl_TurnsOfWord.l]
      rw [if_neg (by omega), if_neg (by omega)]
    · simp only [spec_TurnsOfWord.l0]
      exact neg (by omega) (now _)
  · intro i hi ih hp t0 t1 t3 a0 b0 a1 b1 a3 b3
    have hb := bt_range s i
    have hb2 := bt_range s ((i : Int) - 1)
    have s1 := owSign_pos (bt s i) hb.1 hb.2
    have s2 := owWay_pos (bt s i) hb.1 hb.2
    have s3 := owWay_pos (bt s ((i : Int) - 1)) hb2.1 hb2.2
    have i1 : ∀ t2, impl_TurnsOfWord.l (101 - i) s i t0 t1 t2 t3 = impl_TurnsOfWord.l ((100 - i) + 1) s i t0 t1 t2 t3 := fun t2 => by rw [show 101 - i = (100 - i) + 1 by omega]
    have ab := about s hs (i + 1) (by omega)
    rw [show 101 - (i + 1) = 100 - i by omega] at ih ab
    have r1 := pos_le (bt s i)
    have r2 := pos_le (bt s ((i : Int) - 1))
    by_cases c : impl_TurnsOfWord.pos (bt s i) < 0
    · refine ⟨(0, 0, false), ?_, succ ?_⟩
      · rw [i1]; simp only [impl_TurnsOfWord.l]; rw [if_pos hi, if_pos c]
      · simp only [spec_TurnsOfWord.l0]
        exact pos (by omega) (pos (by omega) (bindSome s1 (neg (by simp; omega) (now _))))
    · have hp1 := prevOk_step (s := s) (i := i) (by omega)
      by_cases z : 0 < i
      · have q := hp z
        have hj : (impl_TurnsOfWord.pos (bt s i) - impl_TurnsOfWord.pos (bt s ((i : Int) - 1)) + 4).tmod 4 = 0 ∨ (impl_TurnsOfWord.pos (bt s i) - impl_TurnsOfWord.pos (bt s ((i : Int) - 1)) + 4).tmod 4 = 1 ∨ (impl_TurnsOfWord.pos (bt s i) - impl_TurnsOfWord.pos (bt s ((i : Int) - 1)) + 4).tmod 4 = 2 ∨ (impl_TurnsOfWord.pos (bt s i) - impl_TurnsOfWord.pos (bt s ((i : Int) - 1)) + 4).tmod 4 = 3 := by
          rw [Int.tmod_eq_emod_of_nonneg (by omega)]; omega
        have w1 : wrap64 (wrap64 (4 + impl_TurnsOfWord.pos (bt s i)) - impl_TurnsOfWord.pos (bt s ((i : Int) - 1))) = impl_TurnsOfWord.pos (bt s i) - impl_TurnsOfWord.pos (bt s ((i : Int) - 1)) + 4 := by unfold wrap64; omega
        have spec : ∀ v, Ev (fun k => if (impl_TurnsOfWord.pos (bt s i) - impl_TurnsOfWord.pos (bt s ((i : Int) - 1)) + 4).tmod 4 = 1 then spec_TurnsOfWord.l0 k s (wrap64 (t1 + 1)) t3 ((i + 1 : Nat) : Int) else if (impl_TurnsOfWord.pos (bt s i) - impl_TurnsOfWord.pos (bt s ((i : Int) - 1)) + 4).tmod 4 = 2 then some (0, 0, false) else if (impl_TurnsOfWord.pos (bt s i) - impl_TurnsOfWord.pos (bt s ((i : Int) - 1)) + 4).tmod 4 = 3 then spec_TurnsOfWord.l0 k s t1 (wrap64 (t3 + 1)) ((i + 1 : Nat) : Int) else spec_TurnsOfWord.l0 k s t1 t3 ((i + 1 : Nat) : Int)) v → Ev (fun k => spec_TurnsOfWord.l0 k s t1 t3 i) v := by
          intro v h
          refine succ ?_
          simp only [spec_TurnsOfWord.l0]
          rw [wnat (by omega), wsub1 (by omega)]
          refine pos (by omega) (pos (by omega) (bindSome s1 (pos (by simp; omega) (neg (by omega) (bindSome s2 (pos (by omega) (pos (by omega) (bindSome s3 ?_))))))))
          rw [w1]
          exact h
        rcases hj with e | e | e | e
        · obtain ⟨v, g1, g2⟩ := ih hp1 (t0 + 1) t1 t3 (by omega) (by omega) a1 (by omega) a3 (by omega)
          refine ⟨v, ?_, spec v (neg (by omega) (neg (by omega) (neg (by omega) g2)))⟩
          rw [i1]; simp only [impl_TurnsOfWord.l]
          rw [if_pos hi, if_neg c, if_pos z, if_pos e, w64 (by omega) (by omega)]
          exact g1
        · obtain ⟨v, g1, g2⟩ := ih hp1 t0 (t1 + 1) t3 a0 (by omega) (by omega) (by omega) a3 (by omega)
          refine ⟨v, ?_, spec v (pos e ?_)⟩
          · rw [i1]; simp only [impl_TurnsOfWord.l]
            rw [if_pos hi, if_neg c, if_pos z, if_neg (by omega), if_pos e, w64 (by omega) (by omega)]
            exact g1
          · rw [w64 (by omega) (by omega)]; exact g2
        · refine ⟨(0, 0, false), ?_, spec _ (neg (by omega) (pos e (now _)))⟩
          rw [i1]; simp only [impl_TurnsOfWord.l]
          rw [if_pos hi, if_neg c, if_pos z, if_neg (by omega), if_neg (by omega), if_pos e, w64 (by omega) (by omega)]
          exact ab hp1 t0 t1 _ t3 a0 (by omega) a1 (by omega) (by omega) (by omega) a3 (by omega)
        · obtain ⟨v, g1, g2⟩ := ih hp1 t0 t1 (t3 + 1) a0 (by omega) a1 (by omega) (by omega) (by omega)
          refine ⟨v, ?_, spec v (neg (by omega) (neg (by omega) (pos e ?_)))⟩
          · rw [i1]; simp only [impl_TurnsOfWord.l]
            rw [if_pos hi, if_neg c, if_pos z, if_neg (by omega), if_neg (by omega), if_neg (by omega), if_pos e, w64 (by omega) (by omega)]
            exact g1
          · rw [w64 (by omega) (by omega)]; exact g2
      · obtain ⟨v, g1, g2⟩ := ih hp1 t0 t1 t3 a0 (by omega) a1 (by omega) a3 (by omega)
        refine ⟨v, ?_, succ ?_⟩
        · rw [i1]; simp only [impl_TurnsOfWord.l]
          rw [if_pos hi, if_neg c, if_neg z]
          exact g1
        · simp only [spec_TurnsOfWord.l0]
          rw [wnat (by omega)]
          exact pos (by omega) (pos (by omega) (bindSome s1 (pos (by simp; omega) (pos (by omega) g2))))

theorem FnExactTurnsOfWord : laws_FnExactTurnsOfWord.Pure := by
  intro s hs
  refine Ev.rounds ?_
  unfold laws_FnExactTurnsOfWord.f
  by_cases h : (s.size : Int) > 1048576
  · exact pos h (now _)
  · refine neg h ?_
    have fin : ∃ v, Ev (fun k => spec_TurnsOfWord.f k s) v ∧ impl_TurnsOfWord.f s = some v := by
      unfold spec_TurnsOfWord.f impl_TurnsOfWord.f
      by_cases c : (s.size : Int) > 100
      · exact ⟨(0, 0, false), pos c (now _), by rw [if_pos c]⟩
      · obtain ⟨v, g1, g2⟩ := turns_same s (by omega) 0 (by omega) (fun h => by omega) 0 0 0 (by omega) (by omega) (by omega) (by omega) (by omega) (by omega)
        exact ⟨v, neg c g2, by rw [if_neg c]; exact g1⟩
    obtain ⟨v, h1, h2⟩ := fin
    exact bind h1 (bindSome h2 (pos rfl (pos rfl (neg (by simp) (now _)))))

end Go.Proofs.Ytnnoeamcdbnbaaa.Pure
