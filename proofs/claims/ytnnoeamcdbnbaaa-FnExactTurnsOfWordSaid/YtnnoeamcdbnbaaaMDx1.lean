-- The machine side, written by this repo's program mp.py; contracts marked as of this repo are this session's own.
import Derived.Test.YtnnoeamcdbnbaaaMDx0
namespace Go.Proofs.Ytnnoeamcdbnbaaa.MD
open Go.RowKit Go.Proofs.YtnnoeamcdbnbaaaW.PrintWords Go.Proofs.YtnnoeamcdbnbaaaW.PrintLast Go.Proofs.YtnnoeamcdbnbaaaW.PrintMore
attribute [local go_sem] max2_int min2_int max_two min_two max_three min_three max_four min_four   -- for this text's walks alone
set_option linter.unusedVariables false
set_option linter.unusedSimpArgs false

/-! ### spec_owSign: function 40 -/
def spec_owSign.f (a0 : Int) : Option (Bool) := if a0 = 101 then (some true) else (if a0 = 110 then (some true) else (if a0 = 119 then (some true) else (some (a0 == 115))))
set_option maxHeartbeats 8000000 in
set_option maxRecDepth 100000 in
theorem spec_owSign.calls (a0 : Int) (r : Bool) (w : World) (h : spec_owSign.f a0 = some r) :
    Calls Try.prog 40 #[.int .u8 a0] w fun e w' => e = .returned (.bool r) ∧ Drawn0 w w' := by
  have H : (if a0 = 101 then (some true) else (if a0 = 110 then (some true) else (if a0 = 119 then (some true) else (some (a0 == 115))))) = some r := h
  clear h
  by_cases c2 : a0 = 101
  · rw [if_pos c2] at H
    have c2b0 : (a0 == 101) = true := beq_iff_eq.mpr c2
    have c2b1 : (a0 != 101) = false := bne_eq_false_iff_eq.mpr c2
    clear c2
    obtain rfl := Option.some.inj H
    go_enter Try.func40, Try.ntmps40
    go_wp2
    go_ret
    exact ⟨by first | rfl | (simp; done) | (simp [*]; done), by repeat (first | exact Drawn0.refl _ | apply Drawn0.step)⟩
  · rw [if_neg c2] at H
    have c2b0 : (a0 == 101) = false := beq_eq_false_iff_ne.mpr c2
    have c2b1 : (a0 != 101) = true := bne_iff_ne.mpr c2
    by_cases c3 : a0 = 110
    · rw [if_pos c3] at H
      have c3b0 : (a0 == 110) = true := beq_iff_eq.mpr c3
      have c3b1 : (a0 != 110) = false := bne_eq_false_iff_eq.mpr c3
      clear c3
      obtain rfl := Option.some.inj H
      go_enter Try.func40, Try.ntmps40
      go_wp2
      go_ret
      exact ⟨by first | rfl | (simp; done) | (simp [*]; done), by repeat (first | exact Drawn0.refl _ | apply Drawn0.step)⟩
    · rw [if_neg c3] at H
      have c3b0 : (a0 == 110) = false := beq_eq_false_iff_ne.mpr c3
      have c3b1 : (a0 != 110) = true := bne_iff_ne.mpr c3
      by_cases c4 : a0 = 119
      · rw [if_pos c4] at H
        have c4b0 : (a0 == 119) = true := beq_iff_eq.mpr c4
        have c4b1 : (a0 != 119) = false := bne_eq_false_iff_eq.mpr c4
        clear c4
        obtain rfl := Option.some.inj H
        go_enter Try.func40, Try.ntmps40
        go_wp2
        go_ret
        exact ⟨by first | rfl | (simp; done) | (simp [*]; done), by repeat (first | exact Drawn0.refl _ | apply Drawn0.step)⟩
      · rw [if_neg c4] at H
        have c4b0 : (a0 == 119) = false := beq_eq_false_iff_ne.mpr c4
        have c4b1 : (a0 != 119) = true := bne_iff_ne.mpr c4
        obtain rfl := Option.some.inj H
        go_enter Try.func40, Try.ntmps40
        go_wp2
        go_ret
        exact ⟨by first | rfl | (simp; done) | (simp [*]; done), by repeat (first | exact Drawn0.refl _ | apply Drawn0.step)⟩

/-! ### spec_owWay: function 41 (a contract of this repo) -/
def spec_owWay.f (a0 : Int) : Option (Int) := if a0 = 101 then some 0 else (if a0 = 110 then some 1 else (if a0 = 119 then some 2 else (if a0 = 115 then some 3 else some (-1))))
/-- What is known of the sign behind so many rounds. -/
def spec_owWay.Nb (a0 : Int) (k : Nat) : Prop := (0 < k → a0 ≠ 101) ∧ (1 < k → a0 ≠ 110) ∧ (2 < k → a0 ≠ 119) ∧ (3 < k → a0 ≠ 115)
theorem spec_owWay.at0 {a0 r : Int} (h : spec_owWay.f a0 = some r) (c : a0 = 101) : r = 0 := by subst c; simpa [spec_owWay.f] using h.symm
theorem spec_owWay.at1 {a0 r : Int} (h : spec_owWay.f a0 = some r) (c : a0 = 110) : r = 1 := by subst c; simpa [spec_owWay.f] using h.symm
theorem spec_owWay.at2 {a0 r : Int} (h : spec_owWay.f a0 = some r) (c : a0 = 119) : r = 2 := by subst c; simpa [spec_owWay.f] using h.symm
theorem spec_owWay.at3 {a0 r : Int} (h : spec_owWay.f a0 = some r) (c : a0 = 115) : r = 3 := by subst c; simpa [spec_owWay.f] using h.symm
theorem spec_owWay.at4 {a0 r : Int} (h : spec_owWay.f a0 = some r) (c : spec_owWay.Nb a0 4) : r = -1 := by
  obtain ⟨c1, c2, c3, c4⟩ := c
  unfold spec_owWay.f at h
  rw [if_neg (c1 (by omega)), if_neg (c2 (by omega)), if_neg (c3 (by omega)), if_neg (c4 (by omega))] at h
  exact (Option.some.inj h).symm
set_option maxHeartbeats 1000000 in
set_option maxRecDepth 100000 in
theorem spec_owWay.calls (a0 : Int) (r : Int) (w : World) (h : spec_owWay.f a0 = some r) :
    Calls Try.prog 41 #[.int .u8 a0] w fun e w' => e = .returned (.int .i64 r) ∧ Below w.heap.size w w' := by
  have H := Aside0.mk h
  clear h
  have kc := fun (w : World) (C : Array Value) (n c : Nat) => Go.Lib.run_convert_bytes_const (P := Try.prog) w 64 5 C n c Try.underlying64 Try.underlying5
  have f0 : (w.alloc (Obj.cells #[Value.int IntKind.u8 101, Value.int IntKind.u8 110, Value.int IntKind.u8 119, Value.int IntKind.u8 115] 5 (4, 5))).cell? ⟨w.heap.size, 0, none⟩ = some (.int .u8 101) := by rw [World.cell?_alloc_mark]; rfl
  have f1 : (w.alloc (Obj.cells #[Value.int IntKind.u8 101, Value.int IntKind.u8 110, Value.int IntKind.u8 119, Value.int IntKind.u8 115] 5 (4, 5))).cell? ⟨w.heap.size, 1, none⟩ = some (.int .u8 110) := by rw [World.cell?_alloc_mark]; rfl
  have f2 : (w.alloc (Obj.cells #[Value.int IntKind.u8 101, Value.int IntKind.u8 110, Value.int IntKind.u8 119, Value.int IntKind.u8 115] 5 (4, 5))).cell? ⟨w.heap.size, 2, none⟩ = some (.int .u8 119) := by rw [World.cell?_alloc_mark]; rfl
  have f3 : (w.alloc (Obj.cells #[Value.int IntKind.u8 101, Value.int IntKind.u8 110, Value.int IntKind.u8 119, Value.int IntKind.u8 115] 5 (4, 5))).cell? ⟨w.heap.size, 3, none⟩ = some (.int .u8 115) := by rw [World.cell?_alloc_mark]; rfl
  go_enter Try.func41, Try.ntmps41
  go_wp2
  go_loop [8] (fun i => ∃ k : Nat, k ≤ 4 ∧ i = .int .i64 k ∧ Aside0 (spec_owWay.Nb a0 k)) (fun i => 4 - (intOf i).toNat)
  case atStart => exact ⟨0, by omega, rfl, ⟨by unfold spec_owWay.Nb; omega⟩⟩
  case round =>
    obtain ⟨k, hk, rfl, hN⟩ := hrel
    clear kc
    have bel := (Below.refl w.heap.size w).alloc (Nat.le_refl _) (Obj.cells #[Value.int IntKind.u8 101, Value.int IntKind.u8 110, Value.int IntKind.u8 119, Value.int IntKind.u8 115] 5 (4, 5))
    have B := Aside0.mk bel
    clear bel
    rcases (show k = 0 ∨ k = 1 ∨ k = 2 ∨ k = 3 ∨ k = 4 by omega) with rfl | rfl | rfl | rfl | rfl
    · by_cases c : a0 = 101
      · have R := Aside0.mk (spec_owWay.at0 H.out c)
        have cb : (a0 == 101) = true := beq_iff_eq.2 c
        clear c hk
        go_wp2
        go_ret
        exact ⟨by rw [R.out]; rfl, B.out⟩
      · have N := Aside0.mk (show spec_owWay.Nb a0 1 from ⟨fun _ => c, fun h => by omega, fun h => by omega, fun h => by omega⟩)
        have cb : (a0 == 101) = false := beq_eq_false_iff_ne.2 c
        clear c hk
        go_wp2
        go_round
        case rel => exact ⟨1, by omega, rfl, N⟩
        case measure => simp [intOf]
    · by_cases c : a0 = 110
      · have R := Aside0.mk (spec_owWay.at1 H.out c)
        have cb : (a0 == 110) = true := beq_iff_eq.2 c
        clear c hk
        go_wp2
        go_ret
        exact ⟨by rw [R.out]; rfl, B.out⟩
      · have N := Aside0.mk (show spec_owWay.Nb a0 2 from ⟨fun _ => hN.out.1 (by omega), fun _ => c, fun h => by omega, fun h => by omega⟩)
        have cb : (a0 == 110) = false := beq_eq_false_iff_ne.2 c
        clear c hk
        go_wp2
        go_round
        case rel => exact ⟨2, by omega, rfl, N⟩
        case measure => simp [intOf]
    · by_cases c : a0 = 119
      · have R := Aside0.mk (spec_owWay.at2 H.out c)
        have cb : (a0 == 119) = true := beq_iff_eq.2 c
        clear c hk
        go_wp2
        go_ret
        exact ⟨by rw [R.out]; rfl, B.out⟩
      · have N := Aside0.mk (show spec_owWay.Nb a0 3 from ⟨fun _ => hN.out.1 (by omega), fun _ => hN.out.2.1 (by omega), fun _ => c, fun h => by omega⟩)
        have cb : (a0 == 119) = false := beq_eq_false_iff_ne.2 c
        clear c hk
        go_wp2
        go_round
        case rel => exact ⟨3, by omega, rfl, N⟩
        case measure => simp [intOf]
    · by_cases c : a0 = 115
      · have R := Aside0.mk (spec_owWay.at3 H.out c)
        have cb : (a0 == 115) = true := beq_iff_eq.2 c
        clear c hk
        go_wp2
        go_ret
        exact ⟨by rw [R.out]; rfl, B.out⟩
      · have N := Aside0.mk (show spec_owWay.Nb a0 4 from ⟨fun _ => hN.out.1 (by omega), fun _ => hN.out.2.1 (by omega), fun _ => hN.out.2.2.1 (by omega), fun _ => c⟩)
        have cb : (a0 == 115) = false := beq_eq_false_iff_ne.2 c
        clear c hk
        go_wp2
        go_round
        case rel => exact ⟨4, by omega, rfl, N⟩
        case measure => simp [intOf]
    · have R := Aside0.mk (spec_owWay.at4 H.out hN.out)
      clear hk
      go_wp2
      go_ret
      exact ⟨by rw [R.out]; rfl, B.out⟩

end Go.Proofs.Ytnnoeamcdbnbaaa.MD
