-- The machine side, written by this repo's program mp.py; contracts marked as of this repo are this session's own.
import Derived.Test.YtopbmiedlpkmjaaMRx0
namespace Go.Proofs.Ytopbmiedlpkmjaa.MR
open Go.RowKit Go.Proofs.YtopbmiedlpkmjaaW.PrintWords Go.Proofs.YtopbmiedlpkmjaaW.PrintLast Go.Proofs.YtopbmiedlpkmjaaW.PrintMore
attribute [local go_sem] max2_int min2_int max_two min_two max_three min_three max_four min_four   -- for this text's walks alone
set_option linter.unusedVariables false
set_option linter.unusedSimpArgs false

/-! ### impl_moved: function 70 -/
def impl_moved.f (l0 : List Int) (a1 : Int) : Option (List Int) := if 0 ≤ a1 then (if a1 < 4 then (if (bt (⟨#[101, 110, 115, 119]⟩ : ByteArray) a1) = 101 then (if 0 < (l0.length : Int) then (if 1 < (l0.length : Int) then (some (([wrap64 ((rd l0 0) + 1), rd l0 1] : List Int))) else (none)) else (none)) else (if (bt (⟨#[101, 110, 115, 119]⟩ : ByteArray) a1) = 110 then (if 0 < (l0.length : Int) then (if 1 < (l0.length : Int) then (some (([rd l0 0, wrap64 ((rd l0 1) + 1)] : List Int))) else (none)) else (none)) else (if (bt (⟨#[101, 110, 115, 119]⟩ : ByteArray) a1) = 115 then (if 0 < (l0.length : Int) then (if 1 < (l0.length : Int) then (some (([rd l0 0, wrap64 ((rd l0 1) - 1)] : List Int))) else (none)) else (none)) else (if 0 < (l0.length : Int) then (if 1 < (l0.length : Int) then (some (([wrap64 ((rd l0 0) - 1), rd l0 1] : List Int))) else (none)) else (none))))) else (none)) else (none)
def impl_moved.T3 : Bool × List (List Nat × List Nat) := (true, [([], []), ([0], [0]), ([1], [1]), ([2], [2]), ([], []), ([4], [4]), ([5], [5]), ([3, 6], [3, 6]), ([7, 0, 1, 2, 3, 4, 5, 6, 7], [7])])
def impl_moved.B3 : List Nat := [0, 1, 3, 7, 0, 16, 48, 127, 255]
theorem impl_moved.tab3 : rtab .any (opsOf Try.f70 3) = impl_moved.T3 := by kernel_rfl
theorem impl_moved.bits3 : waitsOk impl_moved.T3.2 impl_moved.B3 = true := by kernel_rfl
def impl_moved.T5 : Bool × List (List Nat × List Nat) := (true, [([], []), ([0], [0]), ([1], [1]), ([], []), ([3], [3]), ([4], [4]), ([5], [5]), ([2, 6], [2, 6]), ([7, 0, 1, 2, 3, 4, 5, 6, 7], [7])])
def impl_moved.B5 : List Nat := [0, 1, 3, 0, 8, 24, 56, 127, 255]
theorem impl_moved.tab5 : rtab .any (opsOf Try.f70 5) = impl_moved.T5 := by kernel_rfl
theorem impl_moved.bits5 : waitsOk impl_moved.T5.2 impl_moved.B5 = true := by kernel_rfl
def impl_moved.T7 : Bool × List (List Nat × List Nat) := (true, [([], []), ([0], [0]), ([1], [1]), ([], []), ([3], [3]), ([4], [4]), ([5], [5]), ([2, 6], [2, 6]), ([7, 0, 1, 2, 3, 4, 5, 6, 7], [7])])
def impl_moved.B7 : List Nat := [0, 1, 3, 0, 8, 24, 56, 127, 255]
theorem impl_moved.tab7 : rtab .any (opsOf Try.f70 7) = impl_moved.T7 := by kernel_rfl
theorem impl_moved.bits7 : waitsOk impl_moved.T7.2 impl_moved.B7 = true := by kernel_rfl
def impl_moved.T8 : Bool × List (List Nat × List Nat) := (true, [([], []), ([0], [0]), ([1], [1]), ([2], [2]), ([], []), ([4], [4]), ([5], [5]), ([3, 6], [3, 6]), ([7, 0, 1, 2, 3, 4, 5, 6, 7], [7])])
def impl_moved.B8 : List Nat := [0, 1, 3, 7, 0, 16, 48, 127, 255]
theorem impl_moved.tab8 : rtab .any (opsOf Try.f70 8) = impl_moved.T8 := by kernel_rfl
theorem impl_moved.bits8 : waitsOk impl_moved.T8.2 impl_moved.B8 = true := by kernel_rfl
set_option maxHeartbeats 8000000 in
set_option maxRecDepth 100000 in
theorem impl_moved.calls (A0 : Option Addr) (c0 : Nat) (l0 : List Int) (a1 : Int) (r : List Int) (w : World) (hr0 : Kd.C (Kd.int .i64) w A0 l0.length l0) (hc0 : l0.length ≤ c0) (h : impl_moved.f l0 a1 = some r) :
    Calls Try.prog 70 #[.slice A0 l0.length c0, .int .i64 a1] w fun e w' => ∃ v0_ : Value, e = .returned (v0_) ∧ Kd.R (Kd.int .i64) 3 w' w.heap.size (fun _ => True) v0_ r ∧ Below w.heap.size w w' := by
  have HR0 := Aside0.mk hr0
  have HC0 := Aside0.mk hc0
  clear hr0 hc0
  have HB := Aside0.mk (Below.refl w.heap.size w)
  have H : (if 0 ≤ a1 then (if a1 < 4 then (if (bt (⟨#[101, 110, 115, 119]⟩ : ByteArray) a1) = 101 then (if 0 < (l0.length : Int) then (if 1 < (l0.length : Int) then (some (([wrap64 ((rd l0 0) + 1), rd l0 1] : List Int))) else (none)) else (none)) else (if (bt (⟨#[101, 110, 115, 119]⟩ : ByteArray) a1) = 110 then (if 0 < (l0.length : Int) then (if 1 < (l0.length : Int) then (some (([rd l0 0, wrap64 ((rd l0 1) + 1)] : List Int))) else (none)) else (none)) else (if (bt (⟨#[101, 110, 115, 119]⟩ : ByteArray) a1) = 115 then (if 0 < (l0.length : Int) then (if 1 < (l0.length : Int) then (some (([rd l0 0, wrap64 ((rd l0 1) - 1)] : List Int))) else (none)) else (none)) else (if 0 < (l0.length : Int) then (if 1 < (l0.length : Int) then (some (([wrap64 ((rd l0 0) - 1), rd l0 1] : List Int))) else (none)) else (none))))) else (none)) else (none)) = some r := h
  clear h
  by_cases c3 : 0 ≤ a1
  · rw [if_pos c3] at H
    have c3b0 : decide (0 ≤ a1) = true := decide_eq_true c3
    clear c3
    by_cases c4 : a1 < 4
    · rw [if_pos c4] at H
      have c4b0 : decide (a1 < 4) = true := decide_eq_true c4
      clear c4
      by_cases c6 : (bt (⟨#[101, 110, 115, 119]⟩ : ByteArray) a1) = 101
      · rw [if_pos c6] at H
        have c6b0 : ((bt (⟨#[101, 110, 115, 119]⟩ : ByteArray) a1) == 101) = true := beq_iff_eq.mpr c6
        have c6b1 : ((bt (⟨#[101, 110, 115, 119]⟩ : ByteArray) a1) != 101) = false := bne_eq_false_iff_eq.mpr c6
        clear c6
        by_cases c7 : 0 < (l0.length : Int)
        · rw [if_pos c7] at H
          have c7b0 : decide (0 < (l0.length : Int)) = true := decide_eq_true c7
          have c7b1 : decide (0 < l0.length) = true := decide_eq_true (by omega)
          clear c7
          by_cases c8 : 1 < (l0.length : Int)
          · rw [if_pos c8] at H
            have c8b0 : decide (1 < (l0.length : Int)) = true := decide_eq_true c8
            have c8b1 : decide (1 < l0.length) = true := decide_eq_true (by omega)
            clear c8
            obtain ⟨y131, hy131⟩ : ∃ y_ : List Int, y_ = (([wrap64 ((rd l0 0) + 1), rd l0 1] : List Int)) := ⟨_, rfl⟩
            replace H : (some y131) = some r := by first | (rw [hy131]; with_reducible exact H) | (have H2_ := (Option.bind_some _ _).symm.trans H; rw [hy131]; with_reducible exact H2_) | (have H2_ := (Option.bind_some _ _).symm.trans H; with_reducible exact H2_) | with_reducible exact H | (rw [hy131]; exact H) | exact H
            have Ny131 := Aside0.mk hy131
            clear hy131
            obtain rfl := Option.some.inj H
            have p5 : 0 ≤ (a1 : Int) := of_decide_eq_true (by first | (with_reducible assumption) | assumption)
            have q5 : a1 < (4 : Int) := of_decide_eq_true (by first | (with_reducible assumption) | assumption)
            have hx5 := bt_at (⟨#[101, 110, 115, 119]⟩ : ByteArray) a1
            replace p5 := eq_true p5
            replace q5 := eq_true q5
            go_enter Try.func70, Try.ntmps70
            try go_wp2
            have n0_ := Aside0.mk (below_drew1 HB.out)
            clear HB
            have HB := n0_
            clear n0_
            have p129 : 0 ≤ (0 : Int) := (by omega)
            have q129 : 0 < (l0.length : Int) := of_decide_eq_true (by first | (with_reducible assumption) | assumption)
            obtain ⟨ad129, e129, hx129_0⟩ := Kd.at_int HR0.out 0 p129 q129
            have hw129_0 := hx129_0
            (try rw [show ((0 : Int)).toNat = 0 from rfl] at hw129_0)
            (try rw [show 0 * 1 = 0 from rfl] at hw129_0)
            (try rw [Addr.add_zero'] at hw129_0)
            cases e129
            have qi129 : (0 < l0.length) = True := eq_true (by omega)
            (try rw [show ((0 : Int)).toNat = 0 from rfl] at hx129_0)
            (try rw [Addr.add_zero'] at hx129_0)
            replace hx129_0 := (HB.out.cell (World.block_lt_of_cell? w _ hx129_0)).trans hx129_0
            replace p129 := eq_true p129
            replace q129 := eq_true q129
            have p130 : 0 ≤ (1 : Int) := (by omega)
            have q130 : 1 < (l0.length : Int) := of_decide_eq_true (by first | (with_reducible assumption) | assumption)
            obtain ⟨ad130, e130, hx130_0⟩ := Kd.at_int HR0.out 1 p130 q130
            have hw130_0 := hx130_0
            (try rw [show ((1 : Int)).toNat = 1 from rfl] at hw130_0)
            (try rw [show 1 * 1 = 1 from rfl] at hw130_0)
            (try simp only [Nat.reduceMul, Nat.reduceEqDiff, Go.Addr.add, ↓reduceIte] at hw130_0)
            obtain rfl : ad129 = ad130 := (by injection e130)
            (try simp only [show (1 : Int).toNat = 1 from rfl, Nat.reduceMul, Nat.reduceEqDiff, Go.Addr.add, ↓reduceIte] at hx130_0)
            have qi130 : (1 < l0.length) = True := eq_true (by omega)
            (try rw [show ((1 : Int)).toNat = 1 from rfl] at hx130_0)
            replace hx130_0 := (HB.out.cell (World.block_lt_of_cell? w _ hx130_0)).trans hx130_0
            replace p130 := eq_true p130
            replace q130 := eq_true q130
            refine start_ (n := 9) (S := fun w' => w'.cell? ad129 = some (.int .i64 (rd l0 0)) ∧ w'.cell? ⟨ad129.block, ad129.off + 1, none⟩ = some (.int .i64 (rd l0 1))) (ds := []) #[false, false, false, false, false, false, false, false, false] (by kernel_rfl) rfl rfl ⟨((HB.out.cell (World.block_lt_of_cell? w _ hw129_0)).trans hw129_0), ((HB.out.cell (World.block_lt_of_cell? w _ hw130_0)).trans hw130_0)⟩ (fun hHeld => ?_); refine with_tabW impl_moved.tab3 impl_moved.bits3 (fun HT_ HW_ => ?_)
            generalize w.drew = w9 at HB hx129_0 hx130_0 hHeld ⊢
            refine pure_ (i := 0) (N := some 9) (v := ?_) (a' := ?_) #[true, false, false, false, false, false, false, false, false] rfl rfl (any_of HT_.out (by kernel_rfl)) (fun _ _ _ h => h) (Or.inl ⟨by rfl, ?_⟩) ?_ ?_
            rotate_left
            · intro w'
              go_simp
              with_reducible rfl
            rotate_left
            · simp only [Act.put, List.setIfInBounds_toArray, List.set_cons_zero, List.set_cons_succ, i64_w, i32_w]
              rfl
            refine pure_ (i := 1) (N := some 10) (v := ?_) (a' := ?_) #[true, true, false, false, false, false, false, false, false] rfl rfl (any_of HT_.out (by kernel_rfl)) (fun _ _ _ h => h) (Or.inl ⟨by rfl, ?_⟩) ?_ ?_
            rotate_left
            · intro w'
              go_simp
              with_reducible rfl
            rotate_left
            · simp only [Act.put, List.setIfInBounds_toArray, List.set_cons_zero, List.set_cons_succ, i64_w, i32_w]
              rfl
            refine pure_ (i := 4) (N := some 13) (v := ?_) (a' := ?_) #[true, true, false, false, true, false, false, false, false] rfl rfl (any_of HT_.out (by kernel_rfl)) (fun _ _ _ h => h) (Or.inl ⟨by rfl, ?_⟩) ?_ ?_
            rotate_left
            · intro w'
              go_simp
              with_reducible rfl
            rotate_left
            · simp only [Act.put, List.setIfInBounds_toArray, List.set_cons_zero, List.set_cons_succ, i64_w, i32_w]
              rfl
            refine pure_ (i := 5) (N := some 14) (v := ?_) (a' := ?_) #[true, true, false, false, true, true, false, false, false] rfl rfl (any_of HT_.out (by kernel_rfl)) (fun _ _ _ h => h) (Or.inl ⟨by rfl, ?_⟩) ?_ ?_
            rotate_left
            · intro w'
              go_simp
              with_reducible rfl
            rotate_left
            · simp only [Act.put, List.setIfInBounds_toArray, List.set_cons_zero, List.set_cons_succ, i64_w, i32_w]
              rfl
            refine take_ (i := 2) (N := some 11) (v := ?_) (a' := ?_) #[true, true, true, false, true, true, false, false, false] rfl rfl (take_ofW HT_.out HW_.out (by kernel_rfl)) (fun _ _ _ h => h) (Or.inl ⟨by rfl, ?_⟩) hHeld ?_ ?_
            rotate_left
            · rintro w' ⟨s0, s1⟩
              go_simp
              with_reducible rfl
            rotate_left
            · simp only [Act.put, List.setIfInBounds_toArray, List.set_cons_zero, List.set_cons_succ, i64_w, i32_w]
              rfl
            refine pure_ (i := 3) (N := some 12) (v := ?_) (a' := ?_) #[true, true, true, true, true, true, false, false, false] rfl rfl (any_of HT_.out (by kernel_rfl)) (fun _ _ _ h => h) (Or.inl ⟨by rfl, ?_⟩) ?_ ?_
            rotate_left
            · intro w'
              go_simp
              with_reducible rfl
            rotate_left
            · simp only [Act.put, List.setIfInBounds_toArray, List.set_cons_zero, List.set_cons_succ, i64_w, i32_w]
              rfl
            refine take_ (i := 6) (N := some 15) (v := ?_) (a' := ?_) #[true, true, true, true, true, true, true, false, false] rfl rfl (take_ofW HT_.out HW_.out (by kernel_rfl)) (fun _ _ _ h => h) (Or.inl ⟨by rfl, ?_⟩) hHeld ?_ ?_
            rotate_left
            · rintro w' ⟨s0, s1⟩
              go_simp
              with_reducible rfl
            rotate_left
            · simp only [Act.put, List.setIfInBounds_toArray, List.set_cons_zero, List.set_cons_succ, i64_w, i32_w]
              rfl
            refine one_ (i := 7) (N := some 16) #[true, true, true, true, true, true, true, true, false] rfl rfl (one_of HT_.out (by kernel_rfl)) (by decide) (fun K hK => ?_)
            refine Kd.R_lit_step (Kd.int .i64) _ 3 ?hg (N := 16) ?hd (xs := ([wrap64 ((rd l0 0) + 1), rd l0 1] : List Int)) (inner := [.int .i64 (wrap64 ((rd l0 0) + 1)), .int .i64 (rd l0 1)]) (ok := fun _ => True) (okp := fun _ => True) ?hr ?hp (fun _ hk => hk) trivial (Below.refl _ _) (Nat.le_refl _) (by simp) ?_; (case hd => rfl); (case hg => rfl); (case hr => first | (go_simp; done) | (go_simp; rfl)); (case hp => exact (Reps.one (show Kd.M (Kd.int .i64) _ _ _ (wrap64 ((rd l0 0) + 1)) [.int .i64 (wrap64 ((rd l0 0) + 1))] from rfl) (Reps.one (show Kd.M (Kd.int .i64) _ _ _ (rd l0 1) [.int .i64 (rd l0 1)] from rfl) (Reps.none _ _))))
            intro v132 w10 ho11 hb hg_ hnew_
            clear hg_ hnew_
            (first | rw [← Ny131.out] at ho11 | (simp only [Int.reduceToNat] at ho11; rw [← Ny131.out] at ho11))
            have n0_ := Aside0.mk (Kd.R_lower ho11 (below_size (by repeat (first | (with_reducible first | exact HB.out | apply below_alloc | apply pw_below_drewN | apply below_drew1) | exact HB.out))))
            have n1_ := Aside0.mk (below_step (by repeat (first | (with_reducible first | exact HB.out | apply below_alloc | apply pw_below_drewN | apply below_drew1) | exact HB.out)) hb)
            clear HB
            have HO133 := n0_
            have HB := n1_
            clear n0_ n1_
            clear hb ho11
            refine hK.out _ _ ⟨((HB.out.cell (World.block_lt_of_cell? w _ hw129_0)).trans hw129_0), ((HB.out.cell (World.block_lt_of_cell? w _ hw130_0)).trans hw130_0)⟩ (fun hHeld => ?_)
            clear hK K
            refine norm_ (a' := ?_) ?_ ?_
            rotate_left
            · show Act.put _ (some 16) _ = _
              simp only [Act.put, List.setIfInBounds_toArray, List.set_cons_zero, List.set_cons_succ, i64_w, i32_w]
              rfl
            refine pure_ (i := 8) (N := some 4) (v := ?_) (a' := ?_) #[true, true, true, true, true, true, true, true, true] rfl rfl (any_of HT_.out (by kernel_rfl)) (fun _ _ _ h => h) (Or.inl ⟨by rfl, ?_⟩) ?_ ?_
            rotate_left
            · intro w'
              go_simp
              with_reducible rfl
            rotate_left
            · simp only [Act.put, List.setIfInBounds_toArray, List.set_cons_zero, List.set_cons_succ, i64_w, i32_w]
              rfl
            refine done_ (done_of HT_.out (by kernel_rfl)) ?_
            try go_wp2
            go_ret
            exact ⟨_, by first | rfl | (simp [errW_none, errW_some] <;> rfl) | (simp [*, errW_none, errW_some] <;> rfl), by (with_reducible repeat (first | apply Kd.R_alloc | apply Kd.R_drewN | apply Kd.R_drew)); exact HO133.out, by repeat (first | (with_reducible first | exact HB.out | apply below_alloc | apply pw_below_drewN | apply below_drew1) | exact HB.out)⟩
          · rw [if_neg c8] at H
            exact absurd H (by simp)
        · rw [if_neg c7] at H
          exact absurd H (by simp)
      · rw [if_neg c6] at H
        have c6b0 : ((bt (⟨#[101, 110, 115, 119]⟩ : ByteArray) a1) == 101) = false := beq_eq_false_iff_ne.mpr c6
        have c6b1 : ((bt (⟨#[101, 110, 115, 119]⟩ : ByteArray) a1) != 101) = true := bne_iff_ne.mpr c6
        by_cases c12 : (bt (⟨#[101, 110, 115, 119]⟩ : ByteArray) a1) = 110
        · rw [if_pos c12] at H
          have c12b0 : ((bt (⟨#[101, 110, 115, 119]⟩ : ByteArray) a1) == 110) = true := beq_iff_eq.mpr c12
          have c12b1 : ((bt (⟨#[101, 110, 115, 119]⟩ : ByteArray) a1) != 110) = false := bne_eq_false_iff_eq.mpr c12
          clear c12
          by_cases c13 : 0 < (l0.length : Int)
          · rw [if_pos c13] at H
            have c13b0 : decide (0 < (l0.length : Int)) = true := decide_eq_true c13
            have c13b1 : decide (0 < l0.length) = true := decide_eq_true (by omega)
            clear c13
            by_cases c14 : 1 < (l0.length : Int)
            · rw [if_pos c14] at H
              have c14b0 : decide (1 < (l0.length : Int)) = true := decide_eq_true c14
              have c14b1 : decide (1 < l0.length) = true := decide_eq_true (by omega)
              clear c14
              obtain ⟨y136, hy136⟩ : ∃ y_ : List Int, y_ = (([rd l0 0, wrap64 ((rd l0 1) + 1)] : List Int)) := ⟨_, rfl⟩
              replace H : (some y136) = some r := by first | (rw [hy136]; with_reducible exact H) | (have H2_ := (Option.bind_some _ _).symm.trans H; rw [hy136]; with_reducible exact H2_) | (have H2_ := (Option.bind_some _ _).symm.trans H; with_reducible exact H2_) | with_reducible exact H | (rw [hy136]; exact H) | exact H
              have Ny136 := Aside0.mk hy136
              clear hy136
              obtain rfl := Option.some.inj H
              have p5 : 0 ≤ (a1 : Int) := of_decide_eq_true (by first | (with_reducible assumption) | assumption)
              have q5 : a1 < (4 : Int) := of_decide_eq_true (by first | (with_reducible assumption) | assumption)
              have hx5 := bt_at (⟨#[101, 110, 115, 119]⟩ : ByteArray) a1
              replace p5 := eq_true p5
              replace q5 := eq_true q5
              go_enter Try.func70, Try.ntmps70
              try go_wp2
              have n0_ := Aside0.mk (below_drew1 HB.out)
              clear HB
              have HB := n0_
              clear n0_
              have p134 : 0 ≤ (0 : Int) := (by omega)
              have q134 : 0 < (l0.length : Int) := of_decide_eq_true (by first | (with_reducible assumption) | assumption)
              obtain ⟨ad134, e134, hx134_0⟩ := Kd.at_int HR0.out 0 p134 q134
              have hw134_0 := hx134_0
              (try rw [show ((0 : Int)).toNat = 0 from rfl] at hw134_0)
              (try rw [show 0 * 1 = 0 from rfl] at hw134_0)
              (try rw [Addr.add_zero'] at hw134_0)
              cases e134
              have qi134 : (0 < l0.length) = True := eq_true (by omega)
              (try rw [show ((0 : Int)).toNat = 0 from rfl] at hx134_0)
              (try rw [Addr.add_zero'] at hx134_0)
              replace hx134_0 := (HB.out.cell (World.block_lt_of_cell? w _ hx134_0)).trans hx134_0
              replace p134 := eq_true p134
              replace q134 := eq_true q134
              have p135 : 0 ≤ (1 : Int) := (by omega)
              have q135 : 1 < (l0.length : Int) := of_decide_eq_true (by first | (with_reducible assumption) | assumption)
              obtain ⟨ad135, e135, hx135_0⟩ := Kd.at_int HR0.out 1 p135 q135
              have hw135_0 := hx135_0
              (try rw [show ((1 : Int)).toNat = 1 from rfl] at hw135_0)
              (try rw [show 1 * 1 = 1 from rfl] at hw135_0)
              (try simp only [Nat.reduceMul, Nat.reduceEqDiff, Go.Addr.add, ↓reduceIte] at hw135_0)
              obtain rfl : ad134 = ad135 := (by injection e135)
              (try simp only [show (1 : Int).toNat = 1 from rfl, Nat.reduceMul, Nat.reduceEqDiff, Go.Addr.add, ↓reduceIte] at hx135_0)
              have qi135 : (1 < l0.length) = True := eq_true (by omega)
              (try rw [show ((1 : Int)).toNat = 1 from rfl] at hx135_0)
              replace hx135_0 := (HB.out.cell (World.block_lt_of_cell? w _ hx135_0)).trans hx135_0
              replace p135 := eq_true p135
              replace q135 := eq_true q135
              refine start_ (n := 9) (S := fun w' => w'.cell? ad134 = some (.int .i64 (rd l0 0)) ∧ w'.cell? ⟨ad134.block, ad134.off + 1, none⟩ = some (.int .i64 (rd l0 1))) (ds := []) #[false, false, false, false, false, false, false, false, false] (by kernel_rfl) rfl rfl ⟨((HB.out.cell (World.block_lt_of_cell? w _ hw134_0)).trans hw134_0), ((HB.out.cell (World.block_lt_of_cell? w _ hw135_0)).trans hw135_0)⟩ (fun hHeld => ?_); refine with_tabW impl_moved.tab5 impl_moved.bits5 (fun HT_ HW_ => ?_)
              generalize w.drew = w15 at HB hx134_0 hx135_0 hHeld ⊢
              refine pure_ (i := 0) (N := some 19) (v := ?_) (a' := ?_) #[true, false, false, false, false, false, false, false, false] rfl rfl (any_of HT_.out (by kernel_rfl)) (fun _ _ _ h => h) (Or.inl ⟨by rfl, ?_⟩) ?_ ?_
              rotate_left
              · intro w'
                go_simp
                with_reducible rfl
              rotate_left
              · simp only [Act.put, List.setIfInBounds_toArray, List.set_cons_zero, List.set_cons_succ, i64_w, i32_w]
                rfl
              refine pure_ (i := 1) (N := some 20) (v := ?_) (a' := ?_) #[true, true, false, false, false, false, false, false, false] rfl rfl (any_of HT_.out (by kernel_rfl)) (fun _ _ _ h => h) (Or.inl ⟨by rfl, ?_⟩) ?_ ?_
              rotate_left
              · intro w'
                go_simp
                with_reducible rfl
              rotate_left
              · simp only [Act.put, List.setIfInBounds_toArray, List.set_cons_zero, List.set_cons_succ, i64_w, i32_w]
                rfl
              refine pure_ (i := 3) (N := some 22) (v := ?_) (a' := ?_) #[true, true, false, true, false, false, false, false, false] rfl rfl (any_of HT_.out (by kernel_rfl)) (fun _ _ _ h => h) (Or.inl ⟨by rfl, ?_⟩) ?_ ?_
              rotate_left
              · intro w'
                go_simp
                with_reducible rfl
              rotate_left
              · simp only [Act.put, List.setIfInBounds_toArray, List.set_cons_zero, List.set_cons_succ, i64_w, i32_w]
                rfl
              refine pure_ (i := 4) (N := some 23) (v := ?_) (a' := ?_) #[true, true, false, true, true, false, false, false, false] rfl rfl (any_of HT_.out (by kernel_rfl)) (fun _ _ _ h => h) (Or.inl ⟨by rfl, ?_⟩) ?_ ?_
              rotate_left
              · intro w'
                go_simp
                with_reducible rfl
              rotate_left
              · simp only [Act.put, List.setIfInBounds_toArray, List.set_cons_zero, List.set_cons_succ, i64_w, i32_w]
                rfl
              refine take_ (i := 2) (N := some 21) (v := ?_) (a' := ?_) #[true, true, true, true, true, false, false, false, false] rfl rfl (take_ofW HT_.out HW_.out (by kernel_rfl)) (fun _ _ _ h => h) (Or.inl ⟨by rfl, ?_⟩) hHeld ?_ ?_
              rotate_left
              · rintro w' ⟨s0, s1⟩
                go_simp
                with_reducible rfl
              rotate_left
              · simp only [Act.put, List.setIfInBounds_toArray, List.set_cons_zero, List.set_cons_succ, i64_w, i32_w]
                rfl
              refine take_ (i := 5) (N := some 24) (v := ?_) (a' := ?_) #[true, true, true, true, true, true, false, false, false] rfl rfl (take_ofW HT_.out HW_.out (by kernel_rfl)) (fun _ _ _ h => h) (Or.inl ⟨by rfl, ?_⟩) hHeld ?_ ?_
              rotate_left
              · rintro w' ⟨s0, s1⟩
                go_simp
                with_reducible rfl
              rotate_left
              · simp only [Act.put, List.setIfInBounds_toArray, List.set_cons_zero, List.set_cons_succ, i64_w, i32_w]
                rfl
              refine pure_ (i := 6) (N := some 25) (v := ?_) (a' := ?_) #[true, true, true, true, true, true, true, false, false] rfl rfl (any_of HT_.out (by kernel_rfl)) (fun _ _ _ h => h) (Or.inl ⟨by rfl, ?_⟩) ?_ ?_
              rotate_left
              · intro w'
                go_simp
                with_reducible rfl
              rotate_left
              · simp only [Act.put, List.setIfInBounds_toArray, List.set_cons_zero, List.set_cons_succ, i64_w, i32_w]
                rfl
              refine one_ (i := 7) (N := some 26) #[true, true, true, true, true, true, true, true, false] rfl rfl (one_of HT_.out (by kernel_rfl)) (by decide) (fun K hK => ?_)
              refine Kd.R_lit_step (Kd.int .i64) _ 3 ?hg (N := 26) ?hd (xs := ([rd l0 0, wrap64 ((rd l0 1) + 1)] : List Int)) (inner := [.int .i64 (rd l0 0), .int .i64 (wrap64 ((rd l0 1) + 1))]) (ok := fun _ => True) (okp := fun _ => True) ?hr ?hp (fun _ hk => hk) trivial (Below.refl _ _) (Nat.le_refl _) (by simp) ?_; (case hd => rfl); (case hg => rfl); (case hr => first | (go_simp; done) | (go_simp; rfl)); (case hp => exact (Reps.one (show Kd.M (Kd.int .i64) _ _ _ (rd l0 0) [.int .i64 (rd l0 0)] from rfl) (Reps.one (show Kd.M (Kd.int .i64) _ _ _ (wrap64 ((rd l0 1) + 1)) [.int .i64 (wrap64 ((rd l0 1) + 1))] from rfl) (Reps.none _ _))))
              intro v137 w16 ho17 hb hg_ hnew_
              clear hg_ hnew_
              (first | rw [← Ny136.out] at ho17 | (simp only [Int.reduceToNat] at ho17; rw [← Ny136.out] at ho17))
              have n0_ := Aside0.mk (Kd.R_lower ho17 (below_size (by repeat (first | (with_reducible first | exact HB.out | apply below_alloc | apply pw_below_drewN | apply below_drew1) | exact HB.out))))
              have n1_ := Aside0.mk (below_step (by repeat (first | (with_reducible first | exact HB.out | apply below_alloc | apply pw_below_drewN | apply below_drew1) | exact HB.out)) hb)
              clear HB
              have HO138 := n0_
              have HB := n1_
              clear n0_ n1_
              clear hb ho17
              refine hK.out _ _ ⟨((HB.out.cell (World.block_lt_of_cell? w _ hw134_0)).trans hw134_0), ((HB.out.cell (World.block_lt_of_cell? w _ hw135_0)).trans hw135_0)⟩ (fun hHeld => ?_)
              clear hK K
              refine norm_ (a' := ?_) ?_ ?_
              rotate_left
              · show Act.put _ (some 26) _ = _
                simp only [Act.put, List.setIfInBounds_toArray, List.set_cons_zero, List.set_cons_succ, i64_w, i32_w]
                rfl
              refine pure_ (i := 8) (N := some 4) (v := ?_) (a' := ?_) #[true, true, true, true, true, true, true, true, true] rfl rfl (any_of HT_.out (by kernel_rfl)) (fun _ _ _ h => h) (Or.inl ⟨by rfl, ?_⟩) ?_ ?_
              rotate_left
              · intro w'
                go_simp
                with_reducible rfl
              rotate_left
              · simp only [Act.put, List.setIfInBounds_toArray, List.set_cons_zero, List.set_cons_succ, i64_w, i32_w]
                rfl
              refine done_ (done_of HT_.out (by kernel_rfl)) ?_
              try go_wp2
              go_ret
              exact ⟨_, by first | rfl | (simp [errW_none, errW_some] <;> rfl) | (simp [*, errW_none, errW_some] <;> rfl), by (with_reducible repeat (first | apply Kd.R_alloc | apply Kd.R_drewN | apply Kd.R_drew)); exact HO138.out, by repeat (first | (with_reducible first | exact HB.out | apply below_alloc | apply pw_below_drewN | apply below_drew1) | exact HB.out)⟩
            · rw [if_neg c14] at H
              exact absurd H (by simp)
          · rw [if_neg c13] at H
            exact absurd H (by simp)
        · rw [if_neg c12] at H
          have c12b0 : ((bt (⟨#[101, 110, 115, 119]⟩ : ByteArray) a1) == 110) = false := beq_eq_false_iff_ne.mpr c12
          have c12b1 : ((bt (⟨#[101, 110, 115, 119]⟩ : ByteArray) a1) != 110) = true := bne_iff_ne.mpr c12
          by_cases c18 : (bt (⟨#[101, 110, 115, 119]⟩ : ByteArray) a1) = 115
          · rw [if_pos c18] at H
            have c18b0 : ((bt (⟨#[101, 110, 115, 119]⟩ : ByteArray) a1) == 115) = true := beq_iff_eq.mpr c18
            have c18b1 : ((bt (⟨#[101, 110, 115, 119]⟩ : ByteArray) a1) != 115) = false := bne_eq_false_iff_eq.mpr c18
            clear c18
            by_cases c19 : 0 < (l0.length : Int)
            · rw [if_pos c19] at H
              have c19b0 : decide (0 < (l0.length : Int)) = true := decide_eq_true c19
              have c19b1 : decide (0 < l0.length) = true := decide_eq_true (by omega)
              clear c19
              by_cases c20 : 1 < (l0.length : Int)
              · rw [if_pos c20] at H
                have c20b0 : decide (1 < (l0.length : Int)) = true := decide_eq_true c20
                have c20b1 : decide (1 < l0.length) = true := decide_eq_true (by omega)
                clear c20
                obtain ⟨y141, hy141⟩ : ∃ y_ : List Int, y_ = (([rd l0 0, wrap64 ((rd l0 1) - 1)] : List Int)) := ⟨_, rfl⟩
                replace H : (some y141) = some r := by first | (rw [hy141]; with_reducible exact H) | (have H2_ := (Option.bind_some _ _).symm.trans H; rw [hy141]; with_reducible exact H2_) | (have H2_ := (Option.bind_some _ _).symm.trans H; with_reducible exact H2_) | with_reducible exact H | (rw [hy141]; exact H) | exact H
                have Ny141 := Aside0.mk hy141
                clear hy141
                obtain rfl := Option.some.inj H
                have p5 : 0 ≤ (a1 : Int) := of_decide_eq_true (by first | (with_reducible assumption) | assumption)
                have q5 : a1 < (4 : Int) := of_decide_eq_true (by first | (with_reducible assumption) | assumption)
                have hx5 := bt_at (⟨#[101, 110, 115, 119]⟩ : ByteArray) a1
                replace p5 := eq_true p5
                replace q5 := eq_true q5
                go_enter Try.func70, Try.ntmps70
                try go_wp2
                have n0_ := Aside0.mk (below_drew1 HB.out)
                clear HB
                have HB := n0_
                clear n0_
                have p139 : 0 ≤ (0 : Int) := (by omega)
                have q139 : 0 < (l0.length : Int) := of_decide_eq_true (by first | (with_reducible assumption) | assumption)
                obtain ⟨ad139, e139, hx139_0⟩ := Kd.at_int HR0.out 0 p139 q139
                have hw139_0 := hx139_0
                (try rw [show ((0 : Int)).toNat = 0 from rfl] at hw139_0)
                (try rw [show 0 * 1 = 0 from rfl] at hw139_0)
                (try rw [Addr.add_zero'] at hw139_0)
                cases e139
                have qi139 : (0 < l0.length) = True := eq_true (by omega)
                (try rw [show ((0 : Int)).toNat = 0 from rfl] at hx139_0)
                (try rw [Addr.add_zero'] at hx139_0)
                replace hx139_0 := (HB.out.cell (World.block_lt_of_cell? w _ hx139_0)).trans hx139_0
                replace p139 := eq_true p139
                replace q139 := eq_true q139
                have p140 : 0 ≤ (1 : Int) := (by omega)
                have q140 : 1 < (l0.length : Int) := of_decide_eq_true (by first | (with_reducible assumption) | assumption)
                obtain ⟨ad140, e140, hx140_0⟩ := Kd.at_int HR0.out 1 p140 q140
                have hw140_0 := hx140_0
                (try rw [show ((1 : Int)).toNat = 1 from rfl] at hw140_0)
                (try rw [show 1 * 1 = 1 from rfl] at hw140_0)
                (try simp only [Nat.reduceMul, Nat.reduceEqDiff, Go.Addr.add, ↓reduceIte] at hw140_0)
                obtain rfl : ad139 = ad140 := (by injection e140)
                (try simp only [show (1 : Int).toNat = 1 from rfl, Nat.reduceMul, Nat.reduceEqDiff, Go.Addr.add, ↓reduceIte] at hx140_0)
                have qi140 : (1 < l0.length) = True := eq_true (by omega)
                (try rw [show ((1 : Int)).toNat = 1 from rfl] at hx140_0)
                replace hx140_0 := (HB.out.cell (World.block_lt_of_cell? w _ hx140_0)).trans hx140_0
                replace p140 := eq_true p140
                replace q140 := eq_true q140
                refine start_ (n := 9) (S := fun w' => w'.cell? ad139 = some (.int .i64 (rd l0 0)) ∧ w'.cell? ⟨ad139.block, ad139.off + 1, none⟩ = some (.int .i64 (rd l0 1))) (ds := []) #[false, false, false, false, false, false, false, false, false] (by kernel_rfl) rfl rfl ⟨((HB.out.cell (World.block_lt_of_cell? w _ hw139_0)).trans hw139_0), ((HB.out.cell (World.block_lt_of_cell? w _ hw140_0)).trans hw140_0)⟩ (fun hHeld => ?_); refine with_tabW impl_moved.tab7 impl_moved.bits7 (fun HT_ HW_ => ?_)
                generalize w.drew = w21 at HB hx139_0 hx140_0 hHeld ⊢
                refine pure_ (i := 0) (N := some 29) (v := ?_) (a' := ?_) #[true, false, false, false, false, false, false, false, false] rfl rfl (any_of HT_.out (by kernel_rfl)) (fun _ _ _ h => h) (Or.inl ⟨by rfl, ?_⟩) ?_ ?_
                rotate_left
                · intro w'
                  go_simp
                  with_reducible rfl
                rotate_left
                · simp only [Act.put, List.setIfInBounds_toArray, List.set_cons_zero, List.set_cons_succ, i64_w, i32_w]
                  rfl
                refine pure_ (i := 1) (N := some 30) (v := ?_) (a' := ?_) #[true, true, false, false, false, false, false, false, false] rfl rfl (any_of HT_.out (by kernel_rfl)) (fun _ _ _ h => h) (Or.inl ⟨by rfl, ?_⟩) ?_ ?_
                rotate_left
                · intro w'
                  go_simp
                  with_reducible rfl
                rotate_left
                · simp only [Act.put, List.setIfInBounds_toArray, List.set_cons_zero, List.set_cons_succ, i64_w, i32_w]
                  rfl
                refine pure_ (i := 3) (N := some 32) (v := ?_) (a' := ?_) #[true, true, false, true, false, false, false, false, false] rfl rfl (any_of HT_.out (by kernel_rfl)) (fun _ _ _ h => h) (Or.inl ⟨by rfl, ?_⟩) ?_ ?_
                rotate_left
                · intro w'
                  go_simp
                  with_reducible rfl
                rotate_left
                · simp only [Act.put, List.setIfInBounds_toArray, List.set_cons_zero, List.set_cons_succ, i64_w, i32_w]
                  rfl
                refine pure_ (i := 4) (N := some 33) (v := ?_) (a' := ?_) #[true, true, false, true, true, false, false, false, false] rfl rfl (any_of HT_.out (by kernel_rfl)) (fun _ _ _ h => h) (Or.inl ⟨by rfl, ?_⟩) ?_ ?_
                rotate_left
                · intro w'
                  go_simp
                  with_reducible rfl
                rotate_left
                · simp only [Act.put, List.setIfInBounds_toArray, List.set_cons_zero, List.set_cons_succ, i64_w, i32_w]
                  rfl
                refine take_ (i := 2) (N := some 31) (v := ?_) (a' := ?_) #[true, true, true, true, true, false, false, false, false] rfl rfl (take_ofW HT_.out HW_.out (by kernel_rfl)) (fun _ _ _ h => h) (Or.inl ⟨by rfl, ?_⟩) hHeld ?_ ?_
                rotate_left
                · rintro w' ⟨s0, s1⟩
                  go_simp
                  with_reducible rfl
                rotate_left
                · simp only [Act.put, List.setIfInBounds_toArray, List.set_cons_zero, List.set_cons_succ, i64_w, i32_w]
                  rfl
                refine take_ (i := 5) (N := some 34) (v := ?_) (a' := ?_) #[true, true, true, true, true, true, false, false, false] rfl rfl (take_ofW HT_.out HW_.out (by kernel_rfl)) (fun _ _ _ h => h) (Or.inl ⟨by rfl, ?_⟩) hHeld ?_ ?_
                rotate_left
                · rintro w' ⟨s0, s1⟩
                  go_simp
                  with_reducible rfl
                rotate_left
                · simp only [Act.put, List.setIfInBounds_toArray, List.set_cons_zero, List.set_cons_succ, i64_w, i32_w]
                  rfl
                refine pure_ (i := 6) (N := some 35) (v := ?_) (a' := ?_) #[true, true, true, true, true, true, true, false, false] rfl rfl (any_of HT_.out (by kernel_rfl)) (fun _ _ _ h => h) (Or.inl ⟨by rfl, ?_⟩) ?_ ?_
                rotate_left
                · intro w'
                  go_simp
                  with_reducible rfl
                rotate_left
                · simp only [Act.put, List.setIfInBounds_toArray, List.set_cons_zero, List.set_cons_succ, i64_w, i32_w]
                  rfl
                refine one_ (i := 7) (N := some 36) #[true, true, true, true, true, true, true, true, false] rfl rfl (one_of HT_.out (by kernel_rfl)) (by decide) (fun K hK => ?_)
                refine Kd.R_lit_step (Kd.int .i64) _ 3 ?hg (N := 36) ?hd (xs := ([rd l0 0, wrap64 ((rd l0 1) - 1)] : List Int)) (inner := [.int .i64 (rd l0 0), .int .i64 (wrap64 ((rd l0 1) - 1))]) (ok := fun _ => True) (okp := fun _ => True) ?hr ?hp (fun _ hk => hk) trivial (Below.refl _ _) (Nat.le_refl _) (by simp) ?_; (case hd => rfl); (case hg => rfl); (case hr => first | (go_simp; done) | (go_simp; rfl)); (case hp => exact (Reps.one (show Kd.M (Kd.int .i64) _ _ _ (rd l0 0) [.int .i64 (rd l0 0)] from rfl) (Reps.one (show Kd.M (Kd.int .i64) _ _ _ (wrap64 ((rd l0 1) - 1)) [.int .i64 (wrap64 ((rd l0 1) - 1))] from rfl) (Reps.none _ _))))
                intro v142 w22 ho23 hb hg_ hnew_
                clear hg_ hnew_
                (first | rw [← Ny141.out] at ho23 | (simp only [Int.reduceToNat] at ho23; rw [← Ny141.out] at ho23))
                have n0_ := Aside0.mk (Kd.R_lower ho23 (below_size (by repeat (first | (with_reducible first | exact HB.out | apply below_alloc | apply pw_below_drewN | apply below_drew1) | exact HB.out))))
                have n1_ := Aside0.mk (below_step (by repeat (first | (with_reducible first | exact HB.out | apply below_alloc | apply pw_below_drewN | apply below_drew1) | exact HB.out)) hb)
                clear HB
                have HO143 := n0_
                have HB := n1_
                clear n0_ n1_
                clear hb ho23
                refine hK.out _ _ ⟨((HB.out.cell (World.block_lt_of_cell? w _ hw139_0)).trans hw139_0), ((HB.out.cell (World.block_lt_of_cell? w _ hw140_0)).trans hw140_0)⟩ (fun hHeld => ?_)
                clear hK K
                refine norm_ (a' := ?_) ?_ ?_
                rotate_left
                · show Act.put _ (some 36) _ = _
                  simp only [Act.put, List.setIfInBounds_toArray, List.set_cons_zero, List.set_cons_succ, i64_w, i32_w]
                  rfl
                refine pure_ (i := 8) (N := some 4) (v := ?_) (a' := ?_) #[true, true, true, true, true, true, true, true, true] rfl rfl (any_of HT_.out (by kernel_rfl)) (fun _ _ _ h => h) (Or.inl ⟨by rfl, ?_⟩) ?_ ?_
                rotate_left
                · intro w'
                  go_simp
                  with_reducible rfl
                rotate_left
                · simp only [Act.put, List.setIfInBounds_toArray, List.set_cons_zero, List.set_cons_succ, i64_w, i32_w]
                  rfl
                refine done_ (done_of HT_.out (by kernel_rfl)) ?_
                try go_wp2
                go_ret
                exact ⟨_, by first | rfl | (simp [errW_none, errW_some] <;> rfl) | (simp [*, errW_none, errW_some] <;> rfl), by (with_reducible repeat (first | apply Kd.R_alloc | apply Kd.R_drewN | apply Kd.R_drew)); exact HO143.out, by repeat (first | (with_reducible first | exact HB.out | apply below_alloc | apply pw_below_drewN | apply below_drew1) | exact HB.out)⟩
              · rw [if_neg c20] at H
                exact absurd H (by simp)
            · rw [if_neg c19] at H
              exact absurd H (by simp)
          · rw [if_neg c18] at H
            have c18b0 : ((bt (⟨#[101, 110, 115, 119]⟩ : ByteArray) a1) == 115) = false := beq_eq_false_iff_ne.mpr c18
            have c18b1 : ((bt (⟨#[101, 110, 115, 119]⟩ : ByteArray) a1) != 115) = true := bne_iff_ne.mpr c18
            by_cases c24 : 0 < (l0.length : Int)
            · rw [if_pos c24] at H
              have c24b0 : decide (0 < (l0.length : Int)) = true := decide_eq_true c24
              have c24b1 : decide (0 < l0.length) = true := decide_eq_true (by omega)
              clear c24
              by_cases c25 : 1 < (l0.length : Int)
              · rw [if_pos c25] at H
                have c25b0 : decide (1 < (l0.length : Int)) = true := decide_eq_true c25
                have c25b1 : decide (1 < l0.length) = true := decide_eq_true (by omega)
                clear c25
                obtain ⟨y146, hy146⟩ : ∃ y_ : List Int, y_ = (([wrap64 ((rd l0 0) - 1), rd l0 1] : List Int)) := ⟨_, rfl⟩
                replace H : (some y146) = some r := by first | (rw [hy146]; with_reducible exact H) | (have H2_ := (Option.bind_some _ _).symm.trans H; rw [hy146]; with_reducible exact H2_) | (have H2_ := (Option.bind_some _ _).symm.trans H; with_reducible exact H2_) | with_reducible exact H | (rw [hy146]; exact H) | exact H
                have Ny146 := Aside0.mk hy146
                clear hy146
                obtain rfl := Option.some.inj H
                have p5 : 0 ≤ (a1 : Int) := of_decide_eq_true (by first | (with_reducible assumption) | assumption)
                have q5 : a1 < (4 : Int) := of_decide_eq_true (by first | (with_reducible assumption) | assumption)
                have hx5 := bt_at (⟨#[101, 110, 115, 119]⟩ : ByteArray) a1
                replace p5 := eq_true p5
                replace q5 := eq_true q5
                go_enter Try.func70, Try.ntmps70
                try go_wp2
                have n0_ := Aside0.mk (below_drew1 HB.out)
                clear HB
                have HB := n0_
                clear n0_
                have p144 : 0 ≤ (0 : Int) := (by omega)
                have q144 : 0 < (l0.length : Int) := of_decide_eq_true (by first | (with_reducible assumption) | assumption)
                obtain ⟨ad144, e144, hx144_0⟩ := Kd.at_int HR0.out 0 p144 q144
                have hw144_0 := hx144_0
                (try rw [show ((0 : Int)).toNat = 0 from rfl] at hw144_0)
                (try rw [show 0 * 1 = 0 from rfl] at hw144_0)
                (try rw [Addr.add_zero'] at hw144_0)
                cases e144
                have qi144 : (0 < l0.length) = True := eq_true (by omega)
                (try rw [show ((0 : Int)).toNat = 0 from rfl] at hx144_0)
                (try rw [Addr.add_zero'] at hx144_0)
                replace hx144_0 := (HB.out.cell (World.block_lt_of_cell? w _ hx144_0)).trans hx144_0
                replace p144 := eq_true p144
                replace q144 := eq_true q144
                have p145 : 0 ≤ (1 : Int) := (by omega)
                have q145 : 1 < (l0.length : Int) := of_decide_eq_true (by first | (with_reducible assumption) | assumption)
                obtain ⟨ad145, e145, hx145_0⟩ := Kd.at_int HR0.out 1 p145 q145
                have hw145_0 := hx145_0
                (try rw [show ((1 : Int)).toNat = 1 from rfl] at hw145_0)
                (try rw [show 1 * 1 = 1 from rfl] at hw145_0)
                (try simp only [Nat.reduceMul, Nat.reduceEqDiff, Go.Addr.add, ↓reduceIte] at hw145_0)
                obtain rfl : ad144 = ad145 := (by injection e145)
                (try simp only [show (1 : Int).toNat = 1 from rfl, Nat.reduceMul, Nat.reduceEqDiff, Go.Addr.add, ↓reduceIte] at hx145_0)
                have qi145 : (1 < l0.length) = True := eq_true (by omega)
                (try rw [show ((1 : Int)).toNat = 1 from rfl] at hx145_0)
                replace hx145_0 := (HB.out.cell (World.block_lt_of_cell? w _ hx145_0)).trans hx145_0
                replace p145 := eq_true p145
                replace q145 := eq_true q145
                refine start_ (n := 9) (S := fun w' => w'.cell? ad144 = some (.int .i64 (rd l0 0)) ∧ w'.cell? ⟨ad144.block, ad144.off + 1, none⟩ = some (.int .i64 (rd l0 1))) (ds := []) #[false, false, false, false, false, false, false, false, false] (by kernel_rfl) rfl rfl ⟨((HB.out.cell (World.block_lt_of_cell? w _ hw144_0)).trans hw144_0), ((HB.out.cell (World.block_lt_of_cell? w _ hw145_0)).trans hw145_0)⟩ (fun hHeld => ?_); refine with_tabW impl_moved.tab8 impl_moved.bits8 (fun HT_ HW_ => ?_)
                generalize w.drew = w26 at HB hx144_0 hx145_0 hHeld ⊢
                refine pure_ (i := 0) (N := some 37) (v := ?_) (a' := ?_) #[true, false, false, false, false, false, false, false, false] rfl rfl (any_of HT_.out (by kernel_rfl)) (fun _ _ _ h => h) (Or.inl ⟨by rfl, ?_⟩) ?_ ?_
                rotate_left
                · intro w'
                  go_simp
                  with_reducible rfl
                rotate_left
                · simp only [Act.put, List.setIfInBounds_toArray, List.set_cons_zero, List.set_cons_succ, i64_w, i32_w]
                  rfl
                refine pure_ (i := 1) (N := some 38) (v := ?_) (a' := ?_) #[true, true, false, false, false, false, false, false, false] rfl rfl (any_of HT_.out (by kernel_rfl)) (fun _ _ _ h => h) (Or.inl ⟨by rfl, ?_⟩) ?_ ?_
                rotate_left
                · intro w'
                  go_simp
                  with_reducible rfl
                rotate_left
                · simp only [Act.put, List.setIfInBounds_toArray, List.set_cons_zero, List.set_cons_succ, i64_w, i32_w]
                  rfl
                refine pure_ (i := 4) (N := some 41) (v := ?_) (a' := ?_) #[true, true, false, false, true, false, false, false, false] rfl rfl (any_of HT_.out (by kernel_rfl)) (fun _ _ _ h => h) (Or.inl ⟨by rfl, ?_⟩) ?_ ?_
                rotate_left
                · intro w'
                  go_simp
                  with_reducible rfl
                rotate_left
                · simp only [Act.put, List.setIfInBounds_toArray, List.set_cons_zero, List.set_cons_succ, i64_w, i32_w]
                  rfl
                refine pure_ (i := 5) (N := some 42) (v := ?_) (a' := ?_) #[true, true, false, false, true, true, false, false, false] rfl rfl (any_of HT_.out (by kernel_rfl)) (fun _ _ _ h => h) (Or.inl ⟨by rfl, ?_⟩) ?_ ?_
                rotate_left
                · intro w'
                  go_simp
                  with_reducible rfl
                rotate_left
                · simp only [Act.put, List.setIfInBounds_toArray, List.set_cons_zero, List.set_cons_succ, i64_w, i32_w]
                  rfl
                refine take_ (i := 2) (N := some 39) (v := ?_) (a' := ?_) #[true, true, true, false, true, true, false, false, false] rfl rfl (take_ofW HT_.out HW_.out (by kernel_rfl)) (fun _ _ _ h => h) (Or.inl ⟨by rfl, ?_⟩) hHeld ?_ ?_
                rotate_left
                · rintro w' ⟨s0, s1⟩
                  go_simp
                  with_reducible rfl
                rotate_left
                · simp only [Act.put, List.setIfInBounds_toArray, List.set_cons_zero, List.set_cons_succ, i64_w, i32_w]
                  rfl
                refine pure_ (i := 3) (N := some 40) (v := ?_) (a' := ?_) #[true, true, true, true, true, true, false, false, false] rfl rfl (any_of HT_.out (by kernel_rfl)) (fun _ _ _ h => h) (Or.inl ⟨by rfl, ?_⟩) ?_ ?_
                rotate_left
                · intro w'
                  go_simp
                  with_reducible rfl
                rotate_left
                · simp only [Act.put, List.setIfInBounds_toArray, List.set_cons_zero, List.set_cons_succ, i64_w, i32_w]
                  rfl
                refine take_ (i := 6) (N := some 43) (v := ?_) (a' := ?_) #[true, true, true, true, true, true, true, false, false] rfl rfl (take_ofW HT_.out HW_.out (by kernel_rfl)) (fun _ _ _ h => h) (Or.inl ⟨by rfl, ?_⟩) hHeld ?_ ?_
                rotate_left
                · rintro w' ⟨s0, s1⟩
                  go_simp
                  with_reducible rfl
                rotate_left
                · simp only [Act.put, List.setIfInBounds_toArray, List.set_cons_zero, List.set_cons_succ, i64_w, i32_w]
                  rfl
                refine one_ (i := 7) (N := some 44) #[true, true, true, true, true, true, true, true, false] rfl rfl (one_of HT_.out (by kernel_rfl)) (by decide) (fun K hK => ?_)
                refine Kd.R_lit_step (Kd.int .i64) _ 3 ?hg (N := 44) ?hd (xs := ([wrap64 ((rd l0 0) - 1), rd l0 1] : List Int)) (inner := [.int .i64 (wrap64 ((rd l0 0) - 1)), .int .i64 (rd l0 1)]) (ok := fun _ => True) (okp := fun _ => True) ?hr ?hp (fun _ hk => hk) trivial (Below.refl _ _) (Nat.le_refl _) (by simp) ?_; (case hd => rfl); (case hg => rfl); (case hr => first | (go_simp; done) | (go_simp; rfl)); (case hp => exact (Reps.one (show Kd.M (Kd.int .i64) _ _ _ (wrap64 ((rd l0 0) - 1)) [.int .i64 (wrap64 ((rd l0 0) - 1))] from rfl) (Reps.one (show Kd.M (Kd.int .i64) _ _ _ (rd l0 1) [.int .i64 (rd l0 1)] from rfl) (Reps.none _ _))))
                intro v147 w27 ho28 hb hg_ hnew_
                clear hg_ hnew_
                (first | rw [← Ny146.out] at ho28 | (simp only [Int.reduceToNat] at ho28; rw [← Ny146.out] at ho28))
                have n0_ := Aside0.mk (Kd.R_lower ho28 (below_size (by repeat (first | (with_reducible first | exact HB.out | apply below_alloc | apply pw_below_drewN | apply below_drew1) | exact HB.out))))
                have n1_ := Aside0.mk (below_step (by repeat (first | (with_reducible first | exact HB.out | apply below_alloc | apply pw_below_drewN | apply below_drew1) | exact HB.out)) hb)
                clear HB
                have HO148 := n0_
                have HB := n1_
                clear n0_ n1_
                clear hb ho28
                refine hK.out _ _ ⟨((HB.out.cell (World.block_lt_of_cell? w _ hw144_0)).trans hw144_0), ((HB.out.cell (World.block_lt_of_cell? w _ hw145_0)).trans hw145_0)⟩ (fun hHeld => ?_)
                clear hK K
                refine norm_ (a' := ?_) ?_ ?_
                rotate_left
                · show Act.put _ (some 44) _ = _
                  simp only [Act.put, List.setIfInBounds_toArray, List.set_cons_zero, List.set_cons_succ, i64_w, i32_w]
                  rfl
                refine pure_ (i := 8) (N := some 4) (v := ?_) (a' := ?_) #[true, true, true, true, true, true, true, true, true] rfl rfl (any_of HT_.out (by kernel_rfl)) (fun _ _ _ h => h) (Or.inl ⟨by rfl, ?_⟩) ?_ ?_
                rotate_left
                · intro w'
                  go_simp
                  with_reducible rfl
                rotate_left
                · simp only [Act.put, List.setIfInBounds_toArray, List.set_cons_zero, List.set_cons_succ, i64_w, i32_w]
                  rfl
                refine done_ (done_of HT_.out (by kernel_rfl)) ?_
                try go_wp2
                go_ret
                exact ⟨_, by first | rfl | (simp [errW_none, errW_some] <;> rfl) | (simp [*, errW_none, errW_some] <;> rfl), by (with_reducible repeat (first | apply Kd.R_alloc | apply Kd.R_drewN | apply Kd.R_drew)); exact HO148.out, by repeat (first | (with_reducible first | exact HB.out | apply below_alloc | apply pw_below_drewN | apply below_drew1) | exact HB.out)⟩
              · rw [if_neg c25] at H
                exact absurd H (by simp)
            · rw [if_neg c24] at H
              exact absurd H (by simp)
    · rw [if_neg c4] at H
      exact absurd H (by simp)
  · rw [if_neg c3] at H
    exact absurd H (by simp)

/-! ### impl_within: function 72 -/
def impl_within.f (a0 : Int) (a1 : Int) (a2 : Int) : Option (Bool) := if a0 ≥ a1 then (some (decide (a0 ≤ a2))) else (some false)
set_option maxHeartbeats 8000000 in
set_option maxRecDepth 100000 in
theorem impl_within.calls (a0 : Int) (a1 : Int) (a2 : Int) (r : Bool) (w : World) (h : impl_within.f a0 a1 a2 = some r) :
    Calls Try.prog 72 #[.int .i64 a0, .int .i64 a1, .int .i64 a2] w fun e w' => e = .returned (.bool r) ∧ Drawn0 w w' := by
  have H : (if a0 ≥ a1 then (some (decide (a0 ≤ a2))) else (some false)) = some r := h
  clear h
  by_cases c4 : a0 ≥ a1
  · rw [if_pos c4] at H
    have c4b0 : decide (a1 ≤ a0) = true := decide_eq_true c4
    clear c4
    obtain rfl := Option.some.inj H
    go_enter Try.func72, Try.ntmps72
    go_wp2
    go_ret
    exact ⟨by first | rfl | (simp; done) | (simp [*]; done), by repeat (first | exact Drawn0.refl _ | apply Drawn0.step)⟩
  · rw [if_neg c4] at H
    have c4b0 : decide (a1 ≤ a0) = false := decide_eq_false c4
    clear c4
    obtain rfl := Option.some.inj H
    go_enter Try.func72, Try.ntmps72
    go_wp2
    go_ret
    exact ⟨by first | rfl | (simp; done) | (simp [*]; done), by repeat (first | exact Drawn0.refl _ | apply Drawn0.step)⟩

/-! ### impl_driveIn: function 47 (a contract of this repo) -/
/-- A sign by its index. -/
def impl_driveIn.sg (n : Nat) : Int := if n = 0 then 101 else if n = 1 then 110 else if n = 2 then 115 else 119
/-- The corner behind a block. -/
def impl_driveIn.dx (n : Nat) : Int := if n = 0 then 1 else if n = 3 then -1 else 0
def impl_driveIn.dy (n : Nat) : Int := if n = 1 then 1 else if n = 2 then -1 else 0
/-- Whether one can drive from a corner by a sign. -/
def impl_driveIn.can (s a : ByteArray) (x y : Int) (n : Nat) : Bool := decide ((0 ≤ x + impl_driveIn.dx n ∧ x + impl_driveIn.dx n ≤ (a.size : Int) - 1) ∧ (0 ≤ y + impl_driveIn.dy n ∧ y + impl_driveIn.dy n ≤ (s.size : Int) - 1)) && (decide (impl_driveIn.sg n = bt s y) || decide (impl_driveIn.sg n = bt a x))
/-- Ways of a size. -/
def impl_driveIn.Sized (s a : ByteArray) : Prop := (1 ≤ a.size ∧ a.size ≤ 8) ∧ (1 ≤ s.size ∧ s.size ≤ 8)
instance (s a : ByteArray) : Decidable (impl_driveIn.Sized s a) := by unfold impl_driveIn.Sized; infer_instance
/-- A corner. -/
def impl_driveIn.At (s a : ByteArray) (x y : Int) : Prop := (0 ≤ x ∧ x < (a.size : Int)) ∧ (0 ≤ y ∧ y < (s.size : Int))
instance (s a : ByteArray) (x y : Int) : Decidable (impl_driveIn.At s a x y) := by unfold impl_driveIn.At; infer_instance
theorem impl_driveIn.moved (x y : Int) (n : Nat) (hn : n ≤ 3) (hx : 0 ≤ x ∧ x < 8) (hy : 0 ≤ y ∧ y < 8) : impl_moved.f [x, y] n = some [x + impl_driveIn.dx n, y + impl_driveIn.dy n] := by
  have w1 : wrap64 (x + 1) = x + 1 := by unfold wrap64; omega
  have w2 : wrap64 (x - 1) = x + -1 := by unfold wrap64; omega
  have w3 : wrap64 (y + 1) = y + 1 := by unfold wrap64; omega
  have w4 : wrap64 (y - 1) = y + -1 := by unfold wrap64; omega
  have r0 : rd [x, y] 0 = x := rfl
  have r1 : rd [x, y] 1 = y := rfl
  have b0 : bt (⟨#[101, 110, 115, 119]⟩ : ByteArray) 0 = 101 := rfl
  have b1 : bt (⟨#[101, 110, 115, 119]⟩ : ByteArray) 1 = 110 := rfl
  have b2 : bt (⟨#[101, 110, 115, 119]⟩ : ByteArray) 2 = 115 := rfl
  have b3 : bt (⟨#[101, 110, 115, 119]⟩ : ByteArray) 3 = 119 := rfl
  have c : n = 0 ∨ n = 1 ∨ n = 2 ∨ n = 3 := by omega
  rcases c with rfl | rfl | rfl | rfl
  · show impl_moved.f [x, y] 0 = _
    unfold impl_moved.f
    simp [r0, r1, w1, impl_driveIn.dx, impl_driveIn.dy, b0, b1, b2, b3]
  · show impl_moved.f [x, y] 1 = _
    unfold impl_moved.f
    simp [r0, r1, w3, impl_driveIn.dx, impl_driveIn.dy, b0, b1, b2, b3]
  · show impl_moved.f [x, y] 2 = _
    unfold impl_moved.f
    simp [r0, r1, w4, impl_driveIn.dx, impl_driveIn.dy, b0, b1, b2, b3]
  · show impl_moved.f [x, y] 3 = _
    unfold impl_moved.f
    simp [r0, r1, w2, impl_driveIn.dx, impl_driveIn.dy, b0, b1, b2, b3]
theorem impl_driveIn.within (a b c : Int) : impl_within.f a b c = some (decide (b ≤ a ∧ a ≤ c)) := by
  unfold impl_within.f
  by_cases h : a ≥ b
  · rw [if_pos h]; simp [show b ≤ a from h]
  · rw [if_neg h]; simp [show ¬ b ≤ a from h]
theorem impl_driveIn.bt_k (s : ByteArray) (k : Nat) (h : k < s.size) : bt s (k : Int) = ((s[k].toNat : Nat) : Int) := by simp [bt, h]
set_option maxHeartbeats 8000000 in
set_option maxRecDepth 100000 in
theorem impl_driveIn.clo (s a : ByteArray) (hs : impl_driveIn.Sized s a) (p : Nat) (A : Option Addr) (c : Nat) (x y : Int) (n : Nat) (hn : n ≤ 3) (w : World) (hr : Kd.C (Kd.int .i64) w A 2 [x, y]) (hc : 2 ≤ c) (ha : impl_driveIn.At s a x y) (hp : w.heap[p]? = some (.cells #[.string s, .string a] 27 (0, 0))) :
    Calls Try.prog 71 #[.slice A 2 c, .int .i64 n, .pointer (some ⟨p, 0, none⟩)] w fun e w' => e = .returned (.bool (impl_driveIn.can s a x y n)) ∧ Below w.heap.size w w' := by
  obtain ⟨⟨a1, a8⟩, s1, s8⟩ := hs
  obtain ⟨⟨x0, x9⟩, y0, y9⟩ := ha
  have HM := Aside0.mk (impl_driveIn.moved x y n hn (by omega) (by omega))
  have hc0 : w.cell? ⟨p, 0, none⟩ = some (.string s) := (blk_cell hp 0).trans rfl
  have hc1 : w.cell? ⟨p, 1, none⟩ = some (.string a) := (blk_cell hp 1).trans rfl
  have HR := Aside0.mk hr
  obtain ⟨ad, hA, hx0⟩ := Kd.at_int HR.out 0 (by omega) (by omega)
  obtain ⟨ad1, hA1, hx1⟩ := Kd.at_int HR.out 1 (by omega) (by omega)
  subst hA
  obtain rfl : ad = ad1 := by injection hA1
  rw [show (0 : Int).toNat = 0 from rfl, Addr.add_zero', show rd [x, y] 0 = x from rfl] at hx0
  rw [show rd [x, y] 1 = y from rfl] at hx1
  simp only [show (1 : Int).toNat = 1 from rfl, Nat.reduceMul, Nat.reduceEqDiff, Go.Addr.add, ↓reduceIte] at hx1
  have C0 := Aside0.mk hc0
  have C1 := Aside0.mk hc1
  have X0 := Aside0.mk hx0
  have X1 := Aside0.mk hx1
  clear hr hp hc0 hc1 hx0 hx1 hA1
  have W0 := Aside0.mk (impl_driveIn.within (x + impl_driveIn.dx n) 0 ((a.size : Int) - 1))
  have W1 := Aside0.mk (impl_driveIn.within (y + impl_driveIn.dy n) 0 ((s.size : Int) - 1))
  obtain ⟨b0, e0⟩ : ∃ b, b = decide (0 ≤ x + impl_driveIn.dx n ∧ x + impl_driveIn.dx n ≤ (a.size : Int) - 1) := ⟨_, rfl⟩
  obtain ⟨b1, e1⟩ : ∃ b, b = decide (0 ≤ y + impl_driveIn.dy n ∧ y + impl_driveIn.dy n ≤ (s.size : Int) - 1) := ⟨_, rfl⟩
  have ec : impl_driveIn.can s a x y n = (b0 && b1 && (decide (impl_driveIn.sg n = bt s y) || decide (impl_driveIn.sg n = bt a x))) := by
    unfold impl_driveIn.can
    rw [e0, e1, Bool.decide_and]
  rw [ec]
  rw [← e0] at W0
  rw [← e1] at W1
  clear ec e0 e1
  cases b0 with
  | false =>
    go_enter Try.func71, Try.ntmps71
    go_wp2_with (go_at_call 70; refine (impl_moved.calls _ _ [x, y] (n : Int) _ _ HR.out hc HM.out).mono ?_; rintro e w1 ⟨v0, rfl, hR, hB⟩; obtain ⟨A2, c2, e2⟩ := Kd.R_slice hR; rw [show ([x + impl_driveIn.dx n, y + impl_driveIn.dy n] : List Int).length = 2 from rfl] at e2; subst e2; have hC2 := (Kd.R_reads' hR).2.2; rw [show ([x + impl_driveIn.dx n, y + impl_driveIn.dy n] : List Int).length = 2 from rfl] at hC2; have hl2 := (Kd.R_reads' hR).2.1; obtain ⟨ad2, hA2, hu0⟩ := Kd.at_int hC2 0 (by omega) (by omega); obtain ⟨ad3, hA3, hu1⟩ := Kd.at_int hC2 1 (by omega) (by omega); subst hA2; obtain rfl : ad2 = ad3 := (by injection hA3); rw [show (0 : Int).toNat = 0 from rfl, Addr.add_zero', show rd [x + impl_driveIn.dx n, y + impl_driveIn.dy n] 0 = x + impl_driveIn.dx n from rfl] at hu0; rw [show rd [x + impl_driveIn.dx n, y + impl_driveIn.dy n] 1 = y + impl_driveIn.dy n from rfl] at hu1; simp only [show (1 : Int).toNat = 1 from rfl, Nat.reduceMul, Nat.reduceEqDiff, Go.Addr.add, ↓reduceIte] at hu1; have hc0 := (hB.cell (World.block_lt_of_cell? _ _ C0.out)).trans C0.out; have hc1 := (hB.cell (World.block_lt_of_cell? _ _ C1.out)).trans C1.out; have hx0 := (hB.cell (World.block_lt_of_cell? _ _ X0.out)).trans X0.out; have hx1 := (hB.cell (World.block_lt_of_cell? _ _ X1.out)).trans X1.out; have HB := Aside0.mk hB; clear hB hR hC2 hA3)
    go_quiet (first | (go_at_call 72; (with_reducible refine (impl_within.calls (x + impl_driveIn.dx n) 0 ((a.size : Int) - 1) false _ W0.out).mono ?_); rintro e w' ⟨rfl, ⟨nd, rfl⟩⟩; exact ⟨rfl, _, World.drewN_drewN _ _ _⟩))
    go_wp2
    go_ret
    exact ⟨by simp, pw_below_drewN HB.out _⟩
  | true =>
    cases b1 with
    | false =>
      go_enter Try.func71, Try.ntmps71
      go_wp2_with (go_at_call 70; refine (impl_moved.calls _ _ [x, y] (n : Int) _ _ HR.out hc HM.out).mono ?_; rintro e w1 ⟨v0, rfl, hR, hB⟩; obtain ⟨A2, c2, e2⟩ := Kd.R_slice hR; rw [show ([x + impl_driveIn.dx n, y + impl_driveIn.dy n] : List Int).length = 2 from rfl] at e2; subst e2; have hC2 := (Kd.R_reads' hR).2.2; rw [show ([x + impl_driveIn.dx n, y + impl_driveIn.dy n] : List Int).length = 2 from rfl] at hC2; have hl2 := (Kd.R_reads' hR).2.1; obtain ⟨ad2, hA2, hu0⟩ := Kd.at_int hC2 0 (by omega) (by omega); obtain ⟨ad3, hA3, hu1⟩ := Kd.at_int hC2 1 (by omega) (by omega); subst hA2; obtain rfl : ad2 = ad3 := (by injection hA3); rw [show (0 : Int).toNat = 0 from rfl, Addr.add_zero', show rd [x + impl_driveIn.dx n, y + impl_driveIn.dy n] 0 = x + impl_driveIn.dx n from rfl] at hu0; rw [show rd [x + impl_driveIn.dx n, y + impl_driveIn.dy n] 1 = y + impl_driveIn.dy n from rfl] at hu1; simp only [show (1 : Int).toNat = 1 from rfl, Nat.reduceMul, Nat.reduceEqDiff, Go.Addr.add, ↓reduceIte] at hu1; have hc0 := (hB.cell (World.block_lt_of_cell? _ _ C0.out)).trans C0.out; have hc1 := (hB.cell (World.block_lt_of_cell? _ _ C1.out)).trans C1.out; have hx0 := (hB.cell (World.block_lt_of_cell? _ _ X0.out)).trans X0.out; have hx1 := (hB.cell (World.block_lt_of_cell? _ _ X1.out)).trans X1.out; have HB := Aside0.mk hB; clear hB hR hC2 hA3)
      go_quiet (first | (go_at_call 72; (with_reducible refine (impl_within.calls (x + impl_driveIn.dx n) 0 ((a.size : Int) - 1) true _ W0.out).mono ?_); rintro e w' ⟨rfl, ⟨nd, rfl⟩⟩; exact ⟨rfl, _, World.drewN_drewN _ _ _⟩) | (go_at_call 72; (with_reducible refine (impl_within.calls (y + impl_driveIn.dy n) 0 ((s.size : Int) - 1) false _ W1.out).mono ?_); rintro e w' ⟨rfl, ⟨nd, rfl⟩⟩; exact ⟨rfl, _, World.drewN_drewN _ _ _⟩))
      go_wp2
      go_ret
      exact ⟨by simp, pw_below_drewN HB.out _⟩
    | true =>
      obtain ⟨mx, rfl⟩ := Int.eq_ofNat_of_zero_le x0
      obtain ⟨my, rfl⟩ := Int.eq_ofNat_of_zero_le y0
      have hmx : mx < a.size := by omega
      have hmy : my < s.size := by omega
      rw [impl_driveIn.bt_k s my hmy, impl_driveIn.bt_k a mx hmx]
      go_enter Try.func71, Try.ntmps71
      go_wp2_with (go_at_call 70; refine (impl_moved.calls _ _ [(mx : Int), (my : Int)] (n : Int) _ _ HR.out hc HM.out).mono ?_; rintro e w1 ⟨v0, rfl, hR, hB⟩; obtain ⟨A2, c2, e2⟩ := Kd.R_slice hR; rw [show ([(mx : Int) + impl_driveIn.dx n, (my : Int) + impl_driveIn.dy n] : List Int).length = 2 from rfl] at e2; subst e2; have hC2 := (Kd.R_reads' hR).2.2; rw [show ([(mx : Int) + impl_driveIn.dx n, (my : Int) + impl_driveIn.dy n] : List Int).length = 2 from rfl] at hC2; have hl2 := (Kd.R_reads' hR).2.1; obtain ⟨ad2, hA2, hu0⟩ := Kd.at_int hC2 0 (by omega) (by omega); obtain ⟨ad3, hA3, hu1⟩ := Kd.at_int hC2 1 (by omega) (by omega); subst hA2; obtain rfl : ad2 = ad3 := (by injection hA3); rw [show (0 : Int).toNat = 0 from rfl, Addr.add_zero', show rd [(mx : Int) + impl_driveIn.dx n, (my : Int) + impl_driveIn.dy n] 0 = (mx : Int) + impl_driveIn.dx n from rfl] at hu0; rw [show rd [(mx : Int) + impl_driveIn.dx n, (my : Int) + impl_driveIn.dy n] 1 = (my : Int) + impl_driveIn.dy n from rfl] at hu1; simp only [show (1 : Int).toNat = 1 from rfl, Nat.reduceMul, Nat.reduceEqDiff, Go.Addr.add, ↓reduceIte] at hu1; have hc0 := (hB.cell (World.block_lt_of_cell? _ _ C0.out)).trans C0.out; have hc1 := (hB.cell (World.block_lt_of_cell? _ _ C1.out)).trans C1.out; have hx0 := (hB.cell (World.block_lt_of_cell? _ _ X0.out)).trans X0.out; have hx1 := (hB.cell (World.block_lt_of_cell? _ _ X1.out)).trans X1.out; have HB := Aside0.mk hB; clear hB hR hC2 hA3)
      go_quiet (first | (go_at_call 72; (with_reducible refine (impl_within.calls ((mx : Int) + impl_driveIn.dx n) 0 ((a.size : Int) - 1) true _ W0.out).mono ?_); rintro e w' ⟨rfl, ⟨nd, rfl⟩⟩; exact ⟨rfl, _, World.drewN_drewN _ _ _⟩) | (go_at_call 72; (with_reducible refine (impl_within.calls ((my : Int) + impl_driveIn.dy n) 0 ((s.size : Int) - 1) true _ W1.out).mono ?_); rintro e w' ⟨rfl, ⟨nd, rfl⟩⟩; exact ⟨rfl, _, World.drewN_drewN _ _ _⟩))
      go_wp2
      have cn : n = 0 ∨ n = 1 ∨ n = 2 ∨ n = 3 := by omega
      rcases cn with rfl | rfl | rfl | rfl
      · have sg : impl_driveIn.sg 0 = 101 := rfl
        by_cases q : (101 : Int) = ((s[my].toNat : Nat) : Int)
        · have q1 : ((101 : Int) == ((s[my].toNat : Nat) : Int)) = true := beq_iff_eq.2 q
          have q3 : ((((⟨#[101, 110, 115, 119]⟩ : ByteArray)[0]'(by decide)).toNat : Int) == ((s[my].toNat : Nat) : Int)) = true := q1
          have q2 : decide ((101 : Int) = ((s[my].toNat : Nat) : Int)) = true := decide_eq_true q
          go_quiet (fail)
          go_wp2
          go_ret
          exact ⟨by first | (simp [sg, q2]; done) | (simp [sg, q2]; rfl), pw_below_drewN (pw_below_drewN HB.out _) _⟩
        · have q1 : ((101 : Int) == ((s[my].toNat : Nat) : Int)) = false := beq_eq_false_iff_ne.2 q
          have q3 : ((((⟨#[101, 110, 115, 119]⟩ : ByteArray)[0]'(by decide)).toNat : Int) == ((s[my].toNat : Nat) : Int)) = false := q1
          have q2 : decide ((101 : Int) = ((s[my].toNat : Nat) : Int)) = false := decide_eq_false q
          go_quiet (fail)
          go_wp2
          go_ret
          exact ⟨by first | (simp [sg, q2]; done) | (simp [sg, q2]; rfl), pw_below_drewN (pw_below_drewN HB.out _) _⟩
      · have sg : impl_driveIn.sg 1 = 110 := rfl
        by_cases q : (110 : Int) = ((s[my].toNat : Nat) : Int)
        · have q1 : ((110 : Int) == ((s[my].toNat : Nat) : Int)) = true := beq_iff_eq.2 q
          have q3 : ((((⟨#[101, 110, 115, 119]⟩ : ByteArray)[1]'(by decide)).toNat : Int) == ((s[my].toNat : Nat) : Int)) = true := q1
          have q2 : decide ((110 : Int) = ((s[my].toNat : Nat) : Int)) = true := decide_eq_true q
          go_quiet (fail)
          go_wp2
          go_ret
          exact ⟨by first | (simp [sg, q2]; done) | (simp [sg, q2]; rfl), pw_below_drewN (pw_below_drewN HB.out _) _⟩
        · have q1 : ((110 : Int) == ((s[my].toNat : Nat) : Int)) = false := beq_eq_false_iff_ne.2 q
          have q3 : ((((⟨#[101, 110, 115, 119]⟩ : ByteArray)[1]'(by decide)).toNat : Int) == ((s[my].toNat : Nat) : Int)) = false := q1
          have q2 : decide ((110 : Int) = ((s[my].toNat : Nat) : Int)) = false := decide_eq_false q
          go_quiet (fail)
          go_wp2
          go_ret
          exact ⟨by first | (simp [sg, q2]; done) | (simp [sg, q2]; rfl), pw_below_drewN (pw_below_drewN HB.out _) _⟩
      · have sg : impl_driveIn.sg 2 = 115 := rfl
        by_cases q : (115 : Int) = ((s[my].toNat : Nat) : Int)
        · have q1 : ((115 : Int) == ((s[my].toNat : Nat) : Int)) = true := beq_iff_eq.2 q
          have q3 : ((((⟨#[101, 110, 115, 119]⟩ : ByteArray)[2]'(by decide)).toNat : Int) == ((s[my].toNat : Nat) : Int)) = true := q1
          have q2 : decide ((115 : Int) = ((s[my].toNat : Nat) : Int)) = true := decide_eq_true q
          go_quiet (fail)
          go_wp2
          go_ret
          exact ⟨by first | (simp [sg, q2]; done) | (simp [sg, q2]; rfl), pw_below_drewN (pw_below_drewN HB.out _) _⟩
        · have q1 : ((115 : Int) == ((s[my].toNat : Nat) : Int)) = false := beq_eq_false_iff_ne.2 q
          have q3 : ((((⟨#[101, 110, 115, 119]⟩ : ByteArray)[2]'(by decide)).toNat : Int) == ((s[my].toNat : Nat) : Int)) = false := q1
          have q2 : decide ((115 : Int) = ((s[my].toNat : Nat) : Int)) = false := decide_eq_false q
          go_quiet (fail)
          go_wp2
          go_ret
          exact ⟨by first | (simp [sg, q2]; done) | (simp [sg, q2]; rfl), pw_below_drewN (pw_below_drewN HB.out _) _⟩
      · have sg : impl_driveIn.sg 3 = 119 := rfl
        by_cases q : (119 : Int) = ((s[my].toNat : Nat) : Int)
        · have q1 : ((119 : Int) == ((s[my].toNat : Nat) : Int)) = true := beq_iff_eq.2 q
          have q3 : ((((⟨#[101, 110, 115, 119]⟩ : ByteArray)[3]'(by decide)).toNat : Int) == ((s[my].toNat : Nat) : Int)) = true := q1
          have q2 : decide ((119 : Int) = ((s[my].toNat : Nat) : Int)) = true := decide_eq_true q
          go_quiet (fail)
          go_wp2
          go_ret
          exact ⟨by first | (simp [sg, q2]; done) | (simp [sg, q2]; rfl), pw_below_drewN (pw_below_drewN HB.out _) _⟩
        · have q1 : ((119 : Int) == ((s[my].toNat : Nat) : Int)) = false := beq_eq_false_iff_ne.2 q
          have q3 : ((((⟨#[101, 110, 115, 119]⟩ : ByteArray)[3]'(by decide)).toNat : Int) == ((s[my].toNat : Nat) : Int)) = false := q1
          have q2 : decide ((119 : Int) = ((s[my].toNat : Nat) : Int)) = false := decide_eq_false q
          go_quiet (fail)
          go_wp2
          go_ret
          exact ⟨by first | (simp [sg, q2]; done) | (simp [sg, q2]; rfl), pw_below_drewN (pw_below_drewN HB.out _) _⟩
set_option maxRecDepth 100000 in
/-- The steps of ways are made: a box of their own, and the closure over it. -/
theorem impl_driveIn.made (s a : ByteArray) (w : World) :
    Calls Try.prog 47 #[.agg #[.string s, .string a]] w fun e w' => e = .returned (.func (.func 71) #[] #[.pointer (some ⟨w.heap.size, 0, none⟩)]) ∧ w' = w.alloc (.cells #[.string s, .string a] 27) := by
  have hmf : ∀ (fn : Fn) (first cap : Array Value) (w : World), (Instr.makeFunc fn first cap).run Try.prog w = .ok (.func fn first cap) w := fun _ _ _ _ => rfl
  go_enter Try.func47, Try.ntmps47
  go_wp2
  go_ret
  exact ⟨rfl, rfl⟩
theorem impl_driveIn.clo' (s a : ByteArray) (hs : impl_driveIn.Sized s a) (p : Nat) (A : Option Addr) (c : Nat) (l : List Int) (hl : l.length = 2) (n : Nat) (hn : n ≤ 3) (w : World) (hr : Kd.C (Kd.int .i64) w A l.length l) (hc : l.length ≤ c) (ha : impl_driveIn.At s a (rd l 0) (rd l 1)) (hp : w.heap[p]? = some (.cells #[.string s, .string a] 27 (0, 0))) :
    Calls Try.prog 71 #[.slice A l.length c, .int .i64 n, .pointer (some ⟨p, 0, none⟩)] w fun e w' => e = .returned (.bool (impl_driveIn.can s a (rd l 0) (rd l 1) n)) ∧ Below w.heap.size w w' := by
  match l, hl with
  | [x, y], _ => exact impl_driveIn.clo s a hs p A c x y n hn w hr hc ha hp
/-- The maker, in the form of the print: what it makes tells the ways. -/
def impl_driveIn.f (s a : ByteArray) : Option (ByteArray × ByteArray) := some (s, a)
theorem impl_driveIn.calls (s a : ByteArray) (r : ByteArray × ByteArray) (w : World) (h : impl_driveIn.f s a = some r) :
    Calls Try.prog 47 #[.agg #[.string s, .string a]] w fun e w' => ∃ p, e = .returned (.func (.func 71) #[] #[.pointer (some ⟨p, 0, none⟩)]) ∧ w'.heap[p]? = some (.cells #[.string r.1, .string r.2] 27 (0, 0)) ∧ Below w.heap.size w w' := by
  obtain rfl := Option.some.inj h
  refine (impl_driveIn.made s a w).mono ?_
  rintro e w' ⟨rfl, rfl⟩
  exact ⟨_, rfl, heap_alloc_new _ _, below_alloc (Below.refl _ _) _⟩

end Go.Proofs.Ytopbmiedlpkmjaa.MR
