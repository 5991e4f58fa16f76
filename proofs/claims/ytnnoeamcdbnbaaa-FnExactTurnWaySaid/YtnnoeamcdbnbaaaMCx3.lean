-- The machine side, written by this repo's program mp.py; contracts marked as of this repo are this session's own.
import Derived.Test.YtnnoeamcdbnbaaaMCx0
namespace Go.Proofs.Ytnnoeamcdbnbaaa.MC
open Go.RowKit Go.Proofs.YtnnoeamcdbnbaaaW.PrintWords Go.Proofs.YtnnoeamcdbnbaaaW.PrintLast Go.Proofs.YtnnoeamcdbnbaaaW.PrintMore
attribute [local go_sem] max2_int min2_int max_two min_two max_three min_three max_four min_four   -- for this text's walks alone
set_option linter.unusedVariables false
set_option linter.unusedSimpArgs false

/-! ### impl_within: function 37 -/
def impl_within.f (a0 : Int) (a1 : Int) (a2 : Int) : Option (Bool) := if a0 ≥ a1 then (some (decide (a0 ≤ a2))) else (some false)
set_option maxHeartbeats 8000000 in
set_option maxRecDepth 100000 in
theorem impl_within.calls (a0 : Int) (a1 : Int) (a2 : Int) (r : Bool) (w : World) (h : impl_within.f a0 a1 a2 = some r) :
    Calls Try.prog 37 #[.int .i64 a0, .int .i64 a1, .int .i64 a2] w fun e w' => e = .returned (.bool r) ∧ Drawn0 w w' := by
  have H : (if a0 ≥ a1 then (some (decide (a0 ≤ a2))) else (some false)) = some r := h
  clear h
  by_cases c4 : a0 ≥ a1
  · rw [if_pos c4] at H
    have c4b0 : decide (a1 ≤ a0) = true := decide_eq_true c4
    clear c4
    obtain rfl := Option.some.inj H
    go_enter Try.func37, Try.ntmps37
    go_wp2
    go_ret
    exact ⟨by first | rfl | (simp; done) | (simp [*]; done), by repeat (first | exact Drawn0.refl _ | apply Drawn0.step)⟩
  · rw [if_neg c4] at H
    have c4b0 : decide (a1 ≤ a0) = false := decide_eq_false c4
    clear c4
    obtain rfl := Option.some.inj H
    go_enter Try.func37, Try.ntmps37
    go_wp2
    go_ret
    exact ⟨by first | rfl | (simp; done) | (simp [*]; done), by repeat (first | exact Drawn0.refl _ | apply Drawn0.step)⟩

/-! ### strings_IndexByte: function 42 (a contract of this repo) -/
def strings_IndexByte.f (a0 : ByteArray) (a1 : Int) : Option (Int) := some (Go.Lib.indexByte a0.data.toList a1.toNat.toUInt8)
theorem strings_IndexByte.calls (a0 : ByteArray) (a1 : Int) (r : Int) (w : World) (h : strings_IndexByte.f a0 a1 = some r) :
    Calls Try.prog 42 #[.string a0, .int .u8 a1] w fun e w' => e = .returned (.int .i64 r) ∧ Drawn0 w w' := by
  obtain rfl := Option.some.inj h
  refine (Try.strings_IndexByte a0 a1 w).mono ?_
  rintro e w' ⟨rfl, rfl⟩
  exact ⟨rfl, Drawn0.refl _⟩

/-! ### impl_areSigns: function 39 -/
def impl_areSigns.l0 : Nat → ByteArray → ByteArray → Int → Int → Option (Bool)
  | 0, _, _, _, _ => none
  | k + 1, x0, x1, x7, x8 => if x8 < x7 then (if 0 ≤ x8 then (if x8 < (x0.size : Int) then ((strings_IndexByte.f x1 (bt x0 x8)).bind fun t122 => (if t122 < 0 then (some false) else (impl_areSigns.l0 k x0 x1 x7 (wrap64 (x8 + 1))))) else (none)) else (none)) else ((impl_within.f (x0.size : Int) 2 8).bind fun t123 => (some t123))
def impl_areSigns.f (k : Nat) (a0 : ByteArray) (a1 : ByteArray) : Option (Bool) := impl_areSigns.l0 k a0 a1 (a0.size : Int) 0
theorem impl_areSigns.mono_l : ∀ k, (∀ y0 y1 y2 y3, LeO (impl_areSigns.l0 k y0 y1 y2 y3) (impl_areSigns.l0 (k + 1) y0 y1 y2 y3))
  | 0 => fun _ _ _ _ r h => by simp [impl_areSigns.l0] at h
  | k + 1 => by
    have ih0 := impl_areSigns.mono_l k
    · intro y0 y1 y2 y3
      unfold impl_areSigns.l0
      repeat' first
      | (with_reducible exact ih0 _ _ _ _)
      | (with_reducible exact LeO.refl _)
      | (with_reducible exact LeO.none _)
      | (with_reducible refine LeO.ite ?_ ?_)
      | (with_reducible refine LeO.bind ?_ (fun _ => ?_))
      | exact ih0 _ _ _ _
      | exact LeO.none _
      | refine LeO.ite ?_ ?_
      | refine LeO.bind ?_ (fun _ => ?_)
theorem impl_areSigns.mono : ∀ a0 a1 k, LeO (impl_areSigns.f k a0 a1) (impl_areSigns.f (k + 1) a0 a1) := by
  intro a0 a1 k
  have ih0 := impl_areSigns.mono_l k
  unfold impl_areSigns.f
  repeat' first
      | (with_reducible exact ih0 _ _ _ _)
      | (with_reducible exact LeO.refl _)
      | (with_reducible exact LeO.none _)
      | (with_reducible refine LeO.ite ?_ ?_)
      | (with_reducible refine LeO.bind ?_ (fun _ => ?_))
      | exact ih0 _ _ _ _
      | exact LeO.none _
      | refine LeO.ite ?_ ?_
      | refine LeO.bind ?_ (fun _ => ?_)
set_option maxHeartbeats 8000000 in
set_option maxRecDepth 100000 in
theorem impl_areSigns.calls (k : Nat) (a0 : ByteArray) (a1 : ByteArray) (r : Bool) (w : World) (h : impl_areSigns.f k a0 a1 = some r) :
    Calls Try.prog 39 #[.string a0, .string a1] w fun e w' => e = .returned (.bool r) ∧ Drawn0 w w' := by
  have H : (impl_areSigns.l0 k a0 a1 (a0.size : Int) 0) = some r := h
  clear h
  have H' := Aside0.mk H
  clear H
  go_enter Try.func39, Try.ntmps39
  go_wp2
  go_loopg [8] k (fun kq v8 w' => ∃ (x8_1 : Int), v8 = .int .i64 x8_1 ∧ Aside0 (impl_areSigns.l0 kq a0 a1 (a0.size : Int) x8_1 = some r) ∧ Aside0 (kq ≤ k) ∧ Drawn0 w w')
  case atStart => exact ⟨(0), (by first | rfl | (simp; done) | (simp [*]; done)), H', ⟨Nat.le_refl _⟩, by repeat (first | exact Drawn0.refl _ | apply Drawn0.step)⟩
  case round =>
    clear H'
    try clear p2
    obtain ⟨x8_1, rfl, HA, HK1, ⟨m1, rfl⟩⟩ := hrel
    cases gk with
    | zero => exact absurd HA.out (by simp [impl_areSigns.l0])
    | succ k1 =>
      have H := HA.out
      clear HA
      simp only [impl_areSigns.l0] at H
      by_cases c3 : x8_1 < (a0.size : Int)
      · rw [if_pos c3] at H
        have c3b0 : decide (x8_1 < (a0.size : Int)) = true := decide_eq_true c3
        clear c3
        by_cases c4 : 0 ≤ x8_1
        · rw [if_pos c4] at H
          have c4b0 : decide (0 ≤ x8_1) = true := decide_eq_true c4
          clear c4
          by_cases c5 : x8_1 < (a0.size : Int)
          · rw [if_pos c5] at H
            have c5b0 : decide (x8_1 < (a0.size : Int)) = true := decide_eq_true c5
            clear c5
            replace H := Option.bind_eq_some_iff.mp H
            obtain ⟨t122, A70, H⟩ := H
            replace H : (if t122 < 0 then (some false) else (impl_areSigns.l0 k1 a0 a1 (a0.size : Int) (wrap64 (x8_1 + 1)))) = some r := H
            have A7 := Aside0.mk A70
            clear A70
            by_cases c8 : t122 < 0
            · rw [if_pos c8] at H
              have c8b0 : decide (t122 < 0) = true := decide_eq_true c8
              clear c8
              obtain rfl := Option.some.inj H
              have p6 : 0 ≤ (x8_1 : Int) := of_decide_eq_true (by first | (with_reducible assumption) | assumption)
              have q6 : x8_1 < (a0.size : Int) := of_decide_eq_true (by first | (with_reducible assumption) | assumption)
              have hx6 := bt_at a0 x8_1
              replace p6 := eq_true p6
              replace q6 := eq_true q6
              go_wp2_with (first | ((with_reducible refine gate_callee (f := 42) rfl ?_); refine goesL_ (some 15) rfl rfl Try.func42 (by kernel_rfl) rfl #[.string a1, .int .u8 (bt a0 x8_1)] rfl (by (try simp only [List.map_toArray, List.map_cons, List.map_nil]); first | done | rfl | (simp only [List.length_drop, List.length_take]; rfl)) ?_; (with_reducible refine (strings_IndexByte.calls a1 (bt a0 x8_1) t122 _ A7.out).mono ?_); rintro e w' ⟨rfl, ⟨nd, rfl⟩⟩; refine ⟨_, rfl, ?_⟩))
              go_ret
              exact ⟨by first | rfl | (simp; done) | (simp [*]; done), by repeat (first | exact Drawn0.refl _ | apply Drawn0.step)⟩
            · rw [if_neg c8] at H
              have c8b0 : decide (t122 < 0) = false := decide_eq_false c8
              clear c8
              have H' := Aside0.mk H
              clear H
              have p6 : 0 ≤ (x8_1 : Int) := of_decide_eq_true (by first | (with_reducible assumption) | assumption)
              have q6 : x8_1 < (a0.size : Int) := of_decide_eq_true (by first | (with_reducible assumption) | assumption)
              have hx6 := bt_at a0 x8_1
              replace p6 := eq_true p6
              replace q6 := eq_true q6
              go_wp2_with (first | ((with_reducible refine gate_callee (f := 42) rfl ?_); refine goesL_ (some 15) rfl rfl Try.func42 (by kernel_rfl) rfl #[.string a1, .int .u8 (bt a0 x8_1)] rfl (by (try simp only [List.map_toArray, List.map_cons, List.map_nil]); first | done | rfl | (simp only [List.length_drop, List.length_take]; rfl)) ?_; (with_reducible refine (strings_IndexByte.calls a1 (bt a0 x8_1) t122 _ A7.out).mono ?_); rintro e w' ⟨rfl, ⟨nd, rfl⟩⟩; refine ⟨_, rfl, ?_⟩))
              go_roundg k1
              case measure => have := HK1.out; omega
              case rel => exact ⟨(wrap64 (x8_1 + 1)), (by first | rfl | (simp; done) | (simp [*]; done)), H', ⟨by have := HK1.out; omega⟩, by repeat (first | exact Drawn0.refl _ | apply Drawn0.step)⟩
          · rw [if_neg c5] at H
            exact absurd H (by simp)
        · rw [if_neg c4] at H
          exact absurd H (by simp)
      · rw [if_neg c3] at H
        have c3b0 : decide (x8_1 < (a0.size : Int)) = false := decide_eq_false c3
        clear c3
        replace H := Option.bind_eq_some_iff.mp H
        obtain ⟨t123, A90, H⟩ := H
        replace H : (some t123) = some r := H
        have A9 := Aside0.mk A90
        clear A90
        obtain rfl := Option.some.inj H
        go_wp2_with (first | ((with_reducible refine gate_callee (f := 37) rfl ?_); refine goesL_ (some 20) rfl rfl Try.func37 (by kernel_rfl) rfl #[.int .i64 (a0.size : Int), .int .i64 2, .int .i64 8] rfl (by (try simp only [List.map_toArray, List.map_cons, List.map_nil]); first | done | rfl | (simp only [List.length_drop, List.length_take]; rfl)) ?_; (with_reducible refine (impl_within.calls (a0.size : Int) 2 8 t123 _ A9.out).mono ?_); rintro e w' ⟨rfl, ⟨nd, rfl⟩⟩; refine ⟨_, rfl, ?_⟩))
        go_ret
        exact ⟨by first | rfl | (simp; done) | (simp [*]; done), by repeat (first | exact Drawn0.refl _ | apply Drawn0.step)⟩

/-! ### impl_AreWays: function 18 -/
def impl_AreWays.f (k : Nat) (a0_0 : ByteArray) (a0_1 : ByteArray) : Option (Bool) := (impl_areSigns.f k a0_0 (⟨#[101, 119]⟩ : ByteArray)).bind fun t125 => (if t125 = true then ((impl_areSigns.f k a0_1 (⟨#[110, 115]⟩ : ByteArray)).bind fun t126 => (some t126)) else (some false))
theorem impl_AreWays.mono : ∀ a0 a1 k, LeO (impl_AreWays.f k a0 a1) (impl_AreWays.f (k + 1) a0 a1) := by
  intro a0 a1 k
  unfold impl_AreWays.f
  repeat' first
      | (with_reducible exact impl_areSigns.mono _ _ _)
      | (with_reducible exact LeO.refl _)
      | (with_reducible exact LeO.none _)
      | (with_reducible refine LeO.ite ?_ ?_)
      | (with_reducible refine LeO.bind ?_ (fun _ => ?_))
      | exact impl_areSigns.mono _ _ _
      | exact LeO.none _
      | refine LeO.ite ?_ ?_
      | refine LeO.bind ?_ (fun _ => ?_)
set_option maxHeartbeats 8000000 in
set_option maxRecDepth 100000 in
theorem impl_AreWays.calls (k : Nat) (a0_0 : ByteArray) (a0_1 : ByteArray) (r : Bool) (w : World) (h : impl_AreWays.f k a0_0 a0_1 = some r) :
    Calls Try.prog 18 #[.agg #[.string a0_0, .string a0_1]] w fun e w' => e = .returned (.bool r) ∧ Below w.heap.size w w' := by
  have hu29 := Try.underlying29
  have HB := Aside0.mk (Below.refl w.heap.size w)
  have H : ((impl_areSigns.f k a0_0 (⟨#[101, 119]⟩ : ByteArray)).bind fun t125 => (if t125 = true then ((impl_areSigns.f k a0_1 (⟨#[110, 115]⟩ : ByteArray)).bind fun t126 => (some t126)) else (some false))) = some r := h
  clear h
  replace H := Option.bind_eq_some_iff.mp H
  obtain ⟨t125, A20, H⟩ := H
  replace H : (if t125 = true then ((impl_areSigns.f k a0_1 (⟨#[110, 115]⟩ : ByteArray)).bind fun t126 => (some t126)) else (some false)) = some r := H
  have A2 := Aside0.mk A20
  clear A20
  by_cases c3 : t125 = true
  · subst c3
    have H1 : ((impl_areSigns.f k a0_1 (⟨#[110, 115]⟩ : ByteArray)).bind fun t126 => (some t126)) = some r := by rw [if_pos rfl] at H; exact H
    clear H
    have H := H1
    clear H1
    replace H := Option.bind_eq_some_iff.mp H
    obtain ⟨t126, A40, H⟩ := H
    replace H : (some t126) = some r := H
    have A4 := Aside0.mk A40
    clear A40
    obtain rfl := Option.some.inj H
    go_enter Try.func18, Try.ntmps18
    go_wp2_with (first | ((with_reducible refine gate_dst (N := 1) rfl ?_); refine box_event ?hg (N := 1) ?hd (cs := #[.string a0_0, .string a0_1]) (t := 29) ?hr ?_; (case hd => rfl); (case hg => rfl); (case hr => first | (go_simp; done) | (go_simp; rfl)); intro gb124 hg w5 hbox hb; have n0_ := Aside0.mk (below_step (by repeat (first | (with_reducible first | exact HB.out | apply below_alloc | apply pw_below_drewN | apply below_drew1) | exact HB.out)) hb); have n1_ := Aside0.mk (hbox); have n2_ := Aside0.mk ((by rw [hg]; exact (below_size (by repeat (first | (with_reducible first | exact HB.out | apply below_alloc | apply pw_below_drewN | apply below_drew1) | exact HB.out))) : w.heap.size ≤ gb124)); have n3_ := Aside0.mk ((by rw [hg]; exact (below_size (by repeat (first | (with_reducible first | exact HB.out | apply below_alloc | apply pw_below_drewN | apply below_drew1) | exact HB.out))) : w.heap.size ≤ gb124)); clear HB; have HB := n0_; have BK124 := n1_; have GW124 := n2_; have GE124 := n3_; clear n0_ n1_ n2_ n3_; clear hb hbox hg; have hcz6_0 : w5.cell? ⟨gb124, 0, none⟩ = some (.string a0_0) := (blk_cell BK124.out 0).trans rfl; have hcz6_1 : w5.cell? ⟨gb124, 1, none⟩ = some (.string a0_1) := (blk_cell BK124.out 1).trans rfl; have hfz6_0 := blk_frozen BK124.out 0; have hfz6_1 := blk_frozen BK124.out 1) | ((with_reducible refine gate_callee (f := 39) rfl ?_); refine goesL_ (some 5) rfl rfl Try.func39 (by kernel_rfl) rfl #[.string a0_0, .string (⟨#[101, 119]⟩ : ByteArray)] rfl (by (try simp only [List.map_toArray, List.map_cons, List.map_nil]); first | done | rfl | (simp only [List.length_drop, List.length_take]; rfl)) ?_; (with_reducible refine (impl_areSigns.calls k a0_0 (⟨#[101, 119]⟩ : ByteArray) true _ A2.out).mono ?_); rintro e w' ⟨rfl, ⟨nd, rfl⟩⟩; refine ⟨_, rfl, ?_⟩) | (go_at_call 39; (with_reducible refine (impl_areSigns.calls k a0_1 (⟨#[110, 115]⟩ : ByteArray) t126 _ A4.out).mono ?_); rintro e w' ⟨rfl, ⟨nd, rfl⟩⟩))
    go_ret
    exact ⟨by first | rfl | (simp [errW_none, errW_some] <;> rfl) | (simp [*, errW_none, errW_some] <;> rfl), by repeat (first | (with_reducible first | exact HB.out | apply below_alloc | apply pw_below_drewN | apply below_drew1 | refine below_set ?_ GE124.out) | exact HB.out)⟩
  · replace c3 := Bool.eq_false_iff.mpr c3
    subst c3
    have H1 : (some false) = some r := by rw [if_neg (show ¬ (false = true) by decide)] at H; exact H
    clear H
    have H := H1
    clear H1
    obtain rfl := Option.some.inj H
    go_enter Try.func18, Try.ntmps18
    go_wp2_with (first | ((with_reducible refine gate_dst (N := 1) rfl ?_); refine box_event ?hg (N := 1) ?hd (cs := #[.string a0_0, .string a0_1]) (t := 29) ?hr ?_; (case hd => rfl); (case hg => rfl); (case hr => first | (go_simp; done) | (go_simp; rfl)); intro gb124 hg w7 hbox hb; have n0_ := Aside0.mk (below_step (by repeat (first | (with_reducible first | exact HB.out | apply below_alloc | apply pw_below_drewN | apply below_drew1) | exact HB.out)) hb); have n1_ := Aside0.mk (hbox); have n2_ := Aside0.mk ((by rw [hg]; exact (below_size (by repeat (first | (with_reducible first | exact HB.out | apply below_alloc | apply pw_below_drewN | apply below_drew1) | exact HB.out))) : w.heap.size ≤ gb124)); have n3_ := Aside0.mk ((by rw [hg]; exact (below_size (by repeat (first | (with_reducible first | exact HB.out | apply below_alloc | apply pw_below_drewN | apply below_drew1) | exact HB.out))) : w.heap.size ≤ gb124)); clear HB; have HB := n0_; have BK124 := n1_; have GW124 := n2_; have GE124 := n3_; clear n0_ n1_ n2_ n3_; clear hb hbox hg; have hcz8_0 : w7.cell? ⟨gb124, 0, none⟩ = some (.string a0_0) := (blk_cell BK124.out 0).trans rfl; have hcz8_1 : w7.cell? ⟨gb124, 1, none⟩ = some (.string a0_1) := (blk_cell BK124.out 1).trans rfl; have hfz8_0 := blk_frozen BK124.out 0; have hfz8_1 := blk_frozen BK124.out 1) | ((with_reducible refine gate_callee (f := 39) rfl ?_); refine goesL_ (some 5) rfl rfl Try.func39 (by kernel_rfl) rfl #[.string a0_0, .string (⟨#[101, 119]⟩ : ByteArray)] rfl (by (try simp only [List.map_toArray, List.map_cons, List.map_nil]); first | done | rfl | (simp only [List.length_drop, List.length_take]; rfl)) ?_; (with_reducible refine (impl_areSigns.calls k a0_0 (⟨#[101, 119]⟩ : ByteArray) false _ A2.out).mono ?_); rintro e w' ⟨rfl, ⟨nd, rfl⟩⟩; refine ⟨_, rfl, ?_⟩))
    go_ret
    exact ⟨by first | rfl | (simp [errW_none, errW_some] <;> rfl) | (simp [*, errW_none, errW_some] <;> rfl), by repeat (first | (with_reducible first | exact HB.out | apply below_alloc | apply pw_below_drewN | apply below_drew1 | refine below_set ?_ GE124.out) | exact HB.out)⟩

/-! ### impl_turnedSigns: function 47 (a contract of this repo) -/
/-- A text's bytes as numbers. -/
def impl_turnedSigns.nums (s : ByteArray) : List Int := s.data.toList.map fun b => (b.toNat : Int)
/-- Whether a byte is one of the four signs. -/
def impl_turnedSigns.sign (x : Int) : Bool := x == 101 || x == 110 || x == 115 || x == 119
/-- The sign of the opposite way. -/
def impl_turnedSigns.turn (x : Int) : Int := if x = 101 then 119 else if x = 110 then 115 else if x = 115 then 110 else 101
def impl_turnedSigns.f (a0 : ByteArray) : Option (ByteArray) := if (impl_turnedSigns.nums a0).all impl_turnedSigns.sign = true ∧ a0.size ≤ 1048576 then some (strOfNums ((impl_turnedSigns.nums a0).map impl_turnedSigns.turn)) else none
/-- Block g holds these bytes at its head. -/
def impl_turnedSigns.Blk (w : World) (g : Nat) (xs : List Int) : Prop := ∃ (cur : Array Value) (N : Nat), w.heap[g]? = some (.cells cur 5 (N, N + 1)) ∧ xs.length ≤ N ∧ cur.size = N ∧ ∀ j, j < xs.length → cur[j]? = some (.int .u8 (xs.getD j 0))
theorem impl_turnedSigns.Blk.cell {w : World} {g : Nat} {xs : List Int} (h : impl_turnedSigns.Blk w g xs) (j : Nat) (hj : j < xs.length) : w.cell? ⟨g, j, none⟩ = some (.int .u8 (xs.getD j 0)) := by
  obtain ⟨cur, N, hh, h1, h2, h3⟩ := h
  simp only [World.cell?, hh]
  exact h3 j hj
theorem impl_turnedSigns.Blk.free {w : World} {g : Nat} {xs : List Int} (h : impl_turnedSigns.Blk w g xs) (j : Nat) (hj : j < xs.length) : w.frozen? ⟨g, j, none⟩ = false := by
  obtain ⟨cur, N, hh, h1, h2, h3⟩ := h
  simp [World.frozen?, hh]
  omega
theorem impl_turnedSigns.Blk.set {w : World} {g : Nat} {xs : List Int} (h : impl_turnedSigns.Blk w g xs) (i : Nat) (hi : i < xs.length) (v : Int) : impl_turnedSigns.Blk (w.setCell ⟨g, i, none⟩ (.int .u8 v)) g (xs.set i v) := by
  obtain ⟨cur, N, hh, h1, h2, h3⟩ := h
  refine ⟨cur.setIfInBounds i (.int .u8 v), N, ?_, by simpa using h1, by simpa using h2, fun j hj => ?_⟩
  · simp [World.setCell, Array.getElem?_modify, hh]
  · rw [List.length_set] at hj
    rw [Array.getElem?_setIfInBounds]
    by_cases e : i = j
    · subst e
      simp [h2, hj]
      omega
    · rw [if_neg e, h3 j hj]
      simp [List.getD_eq_getElem?_getD, List.getElem?_set_ne e]
theorem impl_turnedSigns.Blk.size {w : World} {g : Nat} {xs : List Int} (h : impl_turnedSigns.Blk w g xs) : g < w.heap.size := by
  obtain ⟨cur, N, hh, _⟩ := h
  exact (Array.getElem?_eq_some_iff.1 hh).1
theorem impl_turnedSigns.nums_length (s : ByteArray) : (impl_turnedSigns.nums s).length = s.size := by
  unfold impl_turnedSigns.nums
  rw [List.length_map]
  exact Array.length_toList
theorem impl_turnedSigns.Blk.made (w : World) (s : ByteArray) : impl_turnedSigns.Blk (Go.Lib.bytesWorld w 5 s) w.heap.size (impl_turnedSigns.nums s) := by
  refine ⟨Go.Lib.bytesCells w 5 s, (Go.Lib.bytesCells w 5 s).size, Go.Lib.bytesWorld_at_new w 5 s, ?_, rfl, fun j hj => ?_⟩
  · rw [impl_turnedSigns.nums_length]
    unfold Go.Lib.bytesCells
    rw [Array.size_append, Array.size_map]
    exact Nat.le_add_right _ _
  · have h := Go.Lib.bytesWorld_cell w 5 s j (by rw [impl_turnedSigns.nums_length] at hj; exact hj)
    have hn := Go.Lib.bytesWorld_at_new w 5 s
    simp only [World.cell?, hn] at h
    refine Eq.trans (b := some (Value.int IntKind.u8 ↑(s.data.toList.getD j 0).toNat)) h ?_
    rw [impl_turnedSigns.nums_length] at hj
    have hj' : j < s.data.toList.length := by rw [Array.length_toList]; exact hj
    unfold impl_turnedSigns.nums
    rw [List.getD_eq_getElem?_getD, List.getElem?_eq_getElem hj', List.getD_eq_getElem?_getD, List.getElem?_map, List.getElem?_eq_getElem hj']
    rfl
theorem impl_turnedSigns.made_below (w : World) (s : ByteArray) : Below w.heap.size w (Go.Lib.bytesWorld w 5 s) :=
  ⟨rfl, rfl, rfl, by rw [Go.Lib.bytesWorld_size]; omega, fun j hj => Go.Lib.bytesWorld_at_old w 5 s j hj⟩
/-- The bytes behind so many rounds. -/
def impl_turnedSigns.upto (xs : List Int) (k : Nat) : List Int := (xs.take k).map impl_turnedSigns.turn ++ xs.drop k
theorem impl_turnedSigns.upto_length (xs : List Int) (k : Nat) : (impl_turnedSigns.upto xs k).length = xs.length := by simp [impl_turnedSigns.upto]; omega
theorem impl_turnedSigns.upto_at (xs : List Int) (k : Nat) (hk : k < xs.length) : (impl_turnedSigns.upto xs k).getD k 0 = xs.getD k 0 := by
  unfold impl_turnedSigns.upto
  rw [List.getD_eq_getElem?_getD, List.getElem?_append_right (by simp; omega)]
  have e : k - (List.map turn (List.take k xs)).length = 0 := by simp; omega
  rw [e]
  simp [List.getElem?_drop, List.getD_eq_getElem?_getD]
theorem impl_turnedSigns.upto_step (xs : List Int) (k : Nat) (hk : k < xs.length) : (impl_turnedSigns.upto xs k).set k (impl_turnedSigns.turn (xs.getD k 0)) = impl_turnedSigns.upto xs (k + 1) := by
  have e : xs.getD k 0 = xs[k] := by simp [hk]
  have l : (List.map turn (List.take k xs)).length = k := by simp; omega
  unfold impl_turnedSigns.upto
  rw [List.set_append_right _ _ (by omega), l, Nat.sub_self, List.drop_eq_getElem_cons hk, List.set_cons_zero, List.take_succ_eq_append_getElem hk, e, List.map_append, List.map_cons, List.map_nil, List.append_assoc]
  rfl
theorem impl_turnedSigns.upto_zero (xs : List Int) : impl_turnedSigns.upto xs 0 = xs := by simp [impl_turnedSigns.upto]
theorem impl_turnedSigns.upto_end (xs : List Int) : impl_turnedSigns.upto xs xs.length = xs.map impl_turnedSigns.turn := by simp [impl_turnedSigns.upto]
theorem impl_turnedSigns.signs {xs : List Int} (h : xs.all impl_turnedSigns.sign = true) (k : Nat) (hk : k < xs.length) : xs.getD k 0 = 101 ∨ xs.getD k 0 = 110 ∨ xs.getD k 0 = 115 ∨ xs.getD k 0 = 119 := by
  have := List.all_eq_true.1 h (xs.getD k 0) (by simp [hk])
  simpa [impl_turnedSigns.sign, or_assoc] using this
set_option maxHeartbeats 1000000 in
set_option maxRecDepth 100000 in
theorem impl_turnedSigns.calls (a0 : ByteArray) (r : ByteArray) (w : World) (h : impl_turnedSigns.f a0 = some r) :
    Calls Try.prog 47 #[.string a0] w fun e w' => e = .returned (.string r) ∧ Below w.heap.size w w' := by
  unfold impl_turnedSigns.f at h
  by_cases hs : (impl_turnedSigns.nums a0).all impl_turnedSigns.sign = true ∧ a0.size ≤ 1048576
  · rw [if_pos hs] at h
    have R := Aside0.mk (Option.some.inj h)
    clear h
    obtain ⟨hs, hz⟩ := hs
    have HS := Aside0.mk hs
    clear hs
    have conv1 := Go.Lib.run_convert_string_bytes (P := Try.prog) w 9 64 5 a0 Try.underlying9 Try.underlying64 Try.underlying5
    have B0 := impl_turnedSigns.Blk.made w a0
    have L0 := impl_turnedSigns.made_below w a0
    have N0 := Aside0.mk (impl_turnedSigns.nums_length a0)
    have e0 : w.heap.size ≤ w.heap.size := Nat.le_refl _
    generalize Go.Lib.bytesWorld w 5 a0 = w1 at conv1 B0 L0
    have B := Aside0.mk (show impl_turnedSigns.Blk w1 w.heap.size (impl_turnedSigns.upto (impl_turnedSigns.nums a0) 0) by rw [impl_turnedSigns.upto_zero]; exact B0)
    have L := Aside0.mk L0
    clear B0 L0
    go_enter Try.func47, Try.ntmps47
    go_wp2
    generalize grownCap w a0.size 0 5 = cap at conv1 ⊢
    go_loopw [10] (fun i wr => ∃ k : Nat, k ≤ a0.size ∧ i = .int .i64 k ∧ Aside0 (impl_turnedSigns.Blk wr w.heap.size (impl_turnedSigns.upto (impl_turnedSigns.nums a0) k)) ∧ Aside0 (Below w.heap.size w wr)) (fun i _ => a0.size - (intOf i).toNat)
    case atStart => exact ⟨0, Nat.zero_le _, rfl, B, L⟩
    case round =>
      obtain ⟨k, hk, rfl, HB, HL⟩ := hrel
      clear conv1 B L
      by_cases hlt : k < a0.size
      · have hlen : k < (impl_turnedSigns.upto (impl_turnedSigns.nums a0) k).length := by rw [impl_turnedSigns.upto_length, N0.out]; exact hlt
        have hc := HB.out.cell k hlen
        rw [impl_turnedSigns.upto_at _ _ (by rw [N0.out]; exact hlt)] at hc
        have hf := HB.out.free k hlen
        have X := Aside0.mk (impl_turnedSigns.upto_step (impl_turnedSigns.nums a0) k (by rw [N0.out]; exact hlt))
        have hb := HL.out.size
        have four := impl_turnedSigns.signs HS.out k (by rw [N0.out]; exact hlt)
        have HB2 := fun v => Aside0.mk (HB.out.set k hlen v)
        clear hlen
        generalize (impl_turnedSigns.nums a0).getD k 0 = x at hc X four
        rcases four with rfl | rfl | rfl | rfl
        · have HB3 := Aside0.mk (show impl_turnedSigns.Blk _ _ (impl_turnedSigns.upto (impl_turnedSigns.nums a0) (k + 1)) by have z := (HB2 119).out; rw [show (119 : Int) = impl_turnedSigns.turn 101 from rfl] at z; rw [X.out] at z; exact z)
          clear HB2 X
          go_wp2_with (go_at_call 42; refine (strings_IndexByte.calls _ _ 0 _ (by rfl)).mono ?_; rintro e w' ⟨rfl, ⟨nd, rfl⟩⟩)
          go_roundw
          case rel => exact ⟨k + 1, by omega, by go_num, ⟨HB3.out⟩, ⟨(pw_below_drewN HL.out nd).setCell (p := ⟨w.heap.size, k, none⟩) (by simp) _⟩⟩
          case measure => simp [intOf]; omega
        · have HB3 := Aside0.mk (show impl_turnedSigns.Blk _ _ (impl_turnedSigns.upto (impl_turnedSigns.nums a0) (k + 1)) by have z := (HB2 115).out; rw [show (115 : Int) = impl_turnedSigns.turn 110 from rfl] at z; rw [X.out] at z; exact z)
          clear HB2 X
          go_wp2_with (go_at_call 42; refine (strings_IndexByte.calls _ _ 1 _ (by rfl)).mono ?_; rintro e w' ⟨rfl, ⟨nd, rfl⟩⟩)
          go_roundw
          case rel => exact ⟨k + 1, by omega, by go_num, ⟨HB3.out⟩, ⟨(pw_below_drewN HL.out nd).setCell (p := ⟨w.heap.size, k, none⟩) (by simp) _⟩⟩
          case measure => simp [intOf]; omega
        · have HB3 := Aside0.mk (show impl_turnedSigns.Blk _ _ (impl_turnedSigns.upto (impl_turnedSigns.nums a0) (k + 1)) by have z := (HB2 110).out; rw [show (110 : Int) = impl_turnedSigns.turn 115 from rfl] at z; rw [X.out] at z; exact z)
          clear HB2 X
          go_wp2_with (go_at_call 42; refine (strings_IndexByte.calls _ _ 2 _ (by rfl)).mono ?_; rintro e w' ⟨rfl, ⟨nd, rfl⟩⟩)
          go_roundw
          case rel => exact ⟨k + 1, by omega, by go_num, ⟨HB3.out⟩, ⟨(pw_below_drewN HL.out nd).setCell (p := ⟨w.heap.size, k, none⟩) (by simp) _⟩⟩
          case measure => simp [intOf]; omega
        · have HB3 := Aside0.mk (show impl_turnedSigns.Blk _ _ (impl_turnedSigns.upto (impl_turnedSigns.nums a0) (k + 1)) by have z := (HB2 101).out; rw [show (101 : Int) = impl_turnedSigns.turn 119 from rfl] at z; rw [X.out] at z; exact z)
          clear HB2 X
          go_wp2_with (go_at_call 42; refine (strings_IndexByte.calls _ _ 3 _ (by rfl)).mono ?_; rintro e w' ⟨rfl, ⟨nd, rfl⟩⟩)
          go_roundw
          case rel => exact ⟨k + 1, by omega, by go_num, ⟨HB3.out⟩, ⟨(pw_below_drewN HL.out nd).setCell (p := ⟨w.heap.size, k, none⟩) (by simp) _⟩⟩
          case measure => simp [intOf]; omega
      · obtain rfl : k = a0.size := by omega
        have HB2 := HB.out
        rw [show impl_turnedSigns.upto (impl_turnedSigns.nums a0) a0.size = (impl_turnedSigns.nums a0).map impl_turnedSigns.turn by rw [← N0.out]; exact impl_turnedSigns.upto_end _] at HB2
        have hrd : ReadsInt wr .u8 (some ⟨w.heap.size, 0, none⟩) a0.size ((impl_turnedSigns.nums a0).map impl_turnedSigns.turn) := by
          refine ⟨by rw [List.length_map]; exact N0.out, by omega, fun _ => ⟨_, rfl, fun j hj => ?_⟩⟩
          have z := HB2.cell j (by rw [List.length_map, N0.out]; exact hj)
          have e : (⟨w.heap.size, 0, none⟩ : Addr).add j = ⟨w.heap.size, j, none⟩ := by
            unfold Addr.add
            by_cases h : j = 0
            · subst h; rfl
            · simp [h]
          rw [e]; exact z
        have conv2 := string_of_reads (P := Try.prog) (src := 64) (dst := 9) (e := 5) (c := cap) Try.underlying64 Try.underlying5 Try.underlying9 hrd
        rw [R.out] at conv2
        clear hrd HB2
        go_wp2
        go_ret
        exact ⟨rfl, HL.out⟩
  · rw [if_neg hs] at h
    cases h

end Go.Proofs.Ytnnoeamcdbnbaaa.MC
