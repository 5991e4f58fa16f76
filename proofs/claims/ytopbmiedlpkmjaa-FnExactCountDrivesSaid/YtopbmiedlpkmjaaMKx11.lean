-- The machine side, written by this repo's program mp.py; contracts marked as of this repo are this session's own.
import Derived.Test.YtopbmiedlpkmjaaMKx0
import Derived.Test.YtopbmiedlpkmjaaMKx3
import Derived.Test.YtopbmiedlpkmjaaMKx4
import Derived.Test.YtopbmiedlpkmjaaMKx5
import Derived.Test.YtopbmiedlpkmjaaMKx10
namespace Go.Proofs.Ytopbmiedlpkmjaa.MK
open Go.RowKit Go.Proofs.YtopbmiedlpkmjaaW.PrintWords Go.Proofs.YtopbmiedlpkmjaaW.PrintLast Go.Proofs.YtopbmiedlpkmjaaW.PrintMore
attribute [local go_sem] max2_int min2_int max_two min_two max_three min_three max_four min_four   -- for this text's walks alone
set_option linter.unusedVariables false
set_option linter.unusedSimpArgs false

/-! ### impl_areDriven: function 45 (a contract of this repo) -/
/-- A corner of a city so wide and so high. -/
def impl_areDriven.corner (wide high : Int) (x : List Int) : Bool := decide (x.length = 2) && (decide (0 ≤ rd x 0 ∧ rd x 0 ≤ wide - 1) && decide (0 ≤ rd x 1 ∧ rd x 1 ≤ high - 1))
/-- Sizes of a city. -/
def impl_areDriven.sizes (s a : ByteArray) : Prop := (1 ≤ a.size ∧ a.size ≤ 8) ∧ (1 ≤ s.size ∧ s.size ≤ 8)
instance (s a : ByteArray) : Decidable (impl_areDriven.sizes s a) := by unfold impl_areDriven.sizes; infer_instance
def impl_areDriven.f (k : Nat) (a0_0 a0_1 : ByteArray) (l1 : List (List Int)) : Option Bool := (impl_AreWays.f k a0_0 a0_1).bind fun t => if t = true then (if impl_areDriven.sizes a0_0 a0_1 then some (l1.all (impl_areDriven.corner a0_1.size a0_0.size)) else none) else some false
theorem impl_areDriven.mono : ∀ a0_0 a0_1 a1 k, LeO (impl_areDriven.f k a0_0 a0_1 a1) (impl_areDriven.f (k + 1) a0_0 a0_1 a1) := fun a0_0 a0_1 a1 k => LeO.bind (impl_AreWays.mono _ _ k) (fun _ => LeO.refl _)
theorem impl_areDriven.within (a b c : Int) : impl_within.f a b c = some (decide (b ≤ a ∧ a ≤ c)) := by
  unfold impl_within.f
  by_cases h : a ≥ b
  · rw [if_pos h]; simp [show b ≤ a from h]
  · rw [if_neg h]; simp [show ¬ b ≤ a from h]
/-- What the captured city holds. -/
def impl_areDriven.Box (w : World) (p : Nat) (wide high : Int) : Prop := w.heap[p]? = some (.cells #[.int .i64 wide, .int .i64 high, .slice none 0 0] 80 (0, 0))
theorem impl_areDriven.Box.cell0 {w : World} {p : Nat} {wide high : Int} (h : impl_areDriven.Box w p wide high) : w.cell? ⟨p, 0, none⟩ = some (.int .i64 wide) := by
  simp only [World.cell?, impl_areDriven.Box] at h ⊢; rw [h]; rfl
theorem impl_areDriven.Box.cell1 {w : World} {p : Nat} {wide high : Int} (h : impl_areDriven.Box w p wide high) : w.cell? ⟨p, 1, none⟩ = some (.int .i64 high) := by
  simp only [World.cell?, impl_areDriven.Box] at h ⊢; rw [h]; rfl
theorem impl_areDriven.Box.cell2 {w : World} {p : Nat} {wide high : Int} (h : impl_areDriven.Box w p wide high) : w.cell? ⟨p, 2, none⟩ = some (.slice none 0 0) := by
  simp only [World.cell?, impl_areDriven.Box] at h ⊢; rw [h]; rfl
set_option maxHeartbeats 4000000 in
set_option maxRecDepth 100000 in
theorem impl_areDriven.clo (wide high : Nat) (hw : 1 ≤ wide ∧ wide ≤ 8) (hh : 1 ≤ high ∧ high ≤ 8) (p : Nat) (A : Option Addr) (c : Nat) (x : List Int) (w : World) (hr : Kd.C (Kd.int .i64) w A x.length x) (hc : x.length ≤ c) (hp : impl_areDriven.Box w p wide high) :
    Calls Try.prog 78 #[.slice A x.length c, .pointer (some ⟨p, 0, none⟩)] w fun e w' => e = .returned (.bool (!impl_areDriven.corner wide high x)) ∧ Drawn0 w w' := by
  have h0 := hp.cell0
  have h1 := hp.cell1
  clear hp
  have HR := Aside0.mk hr
  clear hr
  by_cases hl : x.length = 2
  · obtain ⟨ad, hA, hx0⟩ := Kd.at_int HR.out 0 (by omega) (by omega)
    obtain ⟨ad1, hA1, hx1⟩ := Kd.at_int HR.out 1 (by omega) (by omega)
    subst hA
    obtain rfl : ad = ad1 := by injection hA1
    rw [show (0 : Int).toNat = 0 from rfl, Addr.add_zero'] at hx0
    rw [show (1 : Int).toNat = 1 from rfl] at hx1
    have e : (!impl_areDriven.corner wide high x) = (!(decide (0 ≤ rd x 0 ∧ rd x 0 ≤ (wide : Int) - 1)) || !(decide (0 ≤ rd x 1 ∧ rd x 1 ≤ (high : Int) - 1))) := by
      unfold impl_areDriven.corner
      rw [decide_eq_true hl, Bool.true_and, Bool.not_and]
    rw [e]
    clear e HR
    generalize rd x 0 = u at hx0 ⊢
    generalize rd x 1 = v at hx1 ⊢
    rw [hl]
    clear hl
    have W0 := Aside0.mk (impl_areDriven.within u 0 ((wide : Int) - 1))
    have W1 := Aside0.mk (impl_areDriven.within v 0 ((high : Int) - 1))
    have hx1' := hx1
    simp only [show (1 : Int).toNat = 1 from rfl, Nat.reduceMul, Nat.reduceEqDiff, Go.Addr.add, ↓reduceIte] at hx1'
    generalize decide (0 ≤ u ∧ u ≤ (wide : Int) - 1) = b0 at W0 ⊢
    generalize decide (0 ≤ v ∧ v ≤ (high : Int) - 1) = b1 at W1 ⊢
    cases b0 with
    | false =>
      go_enter Try.func78, Try.ntmps78
      go_wp2
      go_quiet (first | (go_at_call 72; (with_reducible refine (impl_within.calls u 0 ((wide : Int) - 1) false _ W0.out).mono ?_); rintro e w' ⟨rfl, ⟨nd, rfl⟩⟩; exact ⟨rfl, _, World.drewN_drewN _ _ _⟩))
      go_wp2
      go_ret
      exact ⟨rfl, ⟨_, rfl⟩⟩
    | true =>
      go_enter Try.func78, Try.ntmps78
      go_wp2
      go_quiet (first | (go_at_call 72; (with_reducible refine (impl_within.calls u 0 ((wide : Int) - 1) true _ W0.out).mono ?_); rintro e w' ⟨rfl, ⟨nd, rfl⟩⟩; exact ⟨rfl, _, World.drewN_drewN _ _ _⟩) | (go_at_call 72; (with_reducible refine (impl_within.calls v 0 ((high : Int) - 1) b1 _ W1.out).mono ?_); rintro e w' ⟨rfl, ⟨nd, rfl⟩⟩; exact ⟨rfl, _, World.drewN_drewN _ _ _⟩))
      go_wp2
      go_ret
      exact ⟨rfl, ⟨_, rfl⟩⟩
  · have e : (!impl_areDriven.corner wide high x) = true := by unfold impl_areDriven.corner; rw [decide_eq_false hl]; rfl
    rw [e]
    have hn : ((x.length : Int) != 2) = true := bne_iff_ne.2 (fun z => hl (by omega))
    go_enter Try.func78, Try.ntmps78
    go_wp2
    go_quiet (fail)
    go_wp2
    go_ret
    exact ⟨rfl, ⟨_, rfl⟩⟩
set_option maxHeartbeats 4000000 in
set_option maxRecDepth 100000 in
theorem impl_areDriven.idx (wide high : Nat) (hw : 1 ≤ wide ∧ wide ≤ 8) (hh : 1 ≤ high ∧ high ≤ 8) (p : Nat) (A1 : Option Addr) (c1 : Nat) (l1 : List (List Int)) (w : World) (hr : Kd.C (Kd.slice 3 (Kd.int .i64)) w A1 l1.length l1) (hc : l1.length ≤ c1) (hp : impl_areDriven.Box w p wide high) :
    Calls Try.prog 86 #[.slice A1 l1.length c1, .func (.func 78) #[] #[.pointer (some ⟨p, 0, none⟩)]] w fun e w' => ∃ r : Int, e = .returned (.int .i64 r) ∧ decide (0 ≤ r) = !(l1.all (impl_areDriven.corner wide high)) ∧ Drawn0 w w' := by
  have HR := Aside0.mk hr
  have HP := Aside0.mk hp
  have HW := Aside0.mk hw
  have HH := Aside0.mk hh
  have hmax : l1.length ≤ 9223372036854775807 := Kd.C_max hr
  clear hr hp hw hh
  go_enter Try.func86, Try.ntmps86
  go_wp2
  go_loopw [8] (fun i wr => ∃ (j m : Nat), j ≤ l1.length ∧ i = .int .i64 j ∧ Aside0 ((l1.take j).all (impl_areDriven.corner wide high) = true) ∧ wr = w.drewN m) (fun i _ => l1.length - (intOf i).toNat)
  case atStart => exact ⟨0, 0, Nat.zero_le _, rfl, ⟨rfl⟩, (World.drewN_zero _).symm⟩
  case round =>
    obtain ⟨j, m, hj, rfl, HA, rfl⟩ := hrel
    by_cases hlt : j < l1.length
    · obtain ⟨ad, cs, hA, hcl, hK, hcc⟩ := Kd.C_get (Kd.C_drewN HR.out m) [] (j : Int) (by omega) (by omega)
      rw [show l1.getD (j : Int).toNat [] = l1[j] by simp [hlt]] at hK
      obtain ⟨A2, c2, hcs, hl2, hC2⟩ := hK
      have hx : (w.drewN m).cell? (ad.add j) = some (.slice A2 (l1[j]).length c2) := by
        have z := hcc 0 (.slice A2 (l1[j]).length c2) (by rw [hcs]; rfl)
        simpa [show (Kd.slice 3 (Kd.int .i64)).sz = 1 from rfl] using z
      have HA2 := Aside0.mk (show (l1.take (j + 1)).all (impl_areDriven.corner wide high) = impl_areDriven.corner wide high l1[j] by
        rw [List.take_succ_eq_append_getElem hlt, List.all_append, HA.out]; simp)
      have HN := Aside0.mk (show impl_areDriven.corner wide high l1[j] = false → l1.all (impl_areDriven.corner wide high) = false from fun h => by
        rw [List.all_eq_false]; exact ⟨l1[j], List.getElem_mem hlt, by rw [h]; simp⟩)
      have HC2 := Aside0.mk hC2
      clear hcs hcl hcc hC2 HA
      generalize l1[j] = x at hx hl2 HA2 HN HC2
      obtain rfl := hA
      have HK := Aside0.mk (impl_areDriven.clo wide high HW.out HH.out p A2 c2 x (w.drewN m) HC2.out hl2 HP.out)
      clear HC2
      generalize impl_areDriven.corner wide high x = b at HA2 HN HK
      cases b with
      | true =>
        go_wp2_with (go_at_call 78; refine HK.out.mono ?_; rintro e w' ⟨rfl, ⟨nd, rfl⟩⟩)
        go_roundw
        case rel => exact ⟨j + 1, m + nd, by omega, by go_num, HA2, rfl⟩
        case measure => simp [intOf]; omega
      | false =>
        have HN2 := HN.out rfl
        go_wp2_with (go_at_call 78; refine HK.out.mono ?_; rintro e w' ⟨rfl, ⟨nd, rfl⟩⟩)
        go_ret
        exact ⟨_, rfl, by rw [HN2]; simp, ⟨_, rfl⟩⟩
    · obtain rfl : j = l1.length := by omega
      have hA := HA.out
      rw [List.take_length] at hA
      clear HA hlt
      go_wp2
      go_ret
      exact ⟨_, rfl, by rw [hA]; rfl, ⟨_, rfl⟩⟩
set_option maxHeartbeats 4000000 in
set_option maxRecDepth 100000 in
theorem impl_areDriven.city (wide high : Nat) (hw : 1 ≤ wide ∧ wide ≤ 8) (hh : 1 ≤ high ∧ high ≤ 8) (w : World) :
    Calls Try.prog 76 #[.agg #[.int .i64 wide, .int .i64 high, .slice none 0 0]] w fun e w' => e = .returned (.bool true) ∧ Below w.heap.size w w' := by
  have hb : impl_areDriven.Box (w.alloc (.cells #[.int .i64 wide, .int .i64 high, .slice none 0 0] 80)) w.heap.size wide high := heap_alloc_new _ _
  have h0 := hb.cell0
  have h1 := hb.cell1
  have h2 := hb.cell2
  have HB := Aside0.mk (below_alloc (Below.refl w.heap.size w) (.cells #[.int .i64 wide, .int .i64 high, .slice none 0 0] 80))
  have W0 := Aside0.mk ((impl_areDriven.within wide 1 8).trans (congrArg some (decide_eq_true (by omega))))
  have W1 := Aside0.mk ((impl_areDriven.within high 1 8).trans (congrArg some (decide_eq_true (by omega))))
  clear hb
  go_enter Try.func76, Try.ntmps76
  go_wp2
  refine wp_loop_rounds 1 ?_
  rw [rounds_succ]
  go_wp2
  go_ret
  exact ⟨rfl, HB.out⟩
set_option maxHeartbeats 4000000 in
set_option maxRecDepth 100000 in
theorem impl_areDriven.cf (wide high : Nat) (hw : 1 ≤ wide ∧ wide ≤ 8) (hh : 1 ≤ high ∧ high ≤ 8) (p : Nat) (A1 : Option Addr) (c1 : Nat) (l1 : List (List Int)) (w : World) (hr : Kd.C (Kd.slice 3 (Kd.int .i64)) w A1 l1.length l1) (hc : l1.length ≤ c1) (hp : impl_areDriven.Box w p wide high) :
    Calls Try.prog 77 #[.slice A1 l1.length c1, .func (.func 78) #[] #[.pointer (some ⟨p, 0, none⟩)]] w fun e w' => e = .returned (.bool (!(l1.all (impl_areDriven.corner wide high)))) ∧ Drawn0 w w' := by
  have HK := Aside0.mk (impl_areDriven.idx wide high hw hh p A1 c1 l1 w hr hc hp)
  clear hr hp
  go_enter Try.func77, Try.ntmps77
  go_wp2_with (go_at_call 86; refine HK.out.mono ?_; rintro e w' ⟨r, rfl, hrr, ⟨nd, rfl⟩⟩)
  go_ret
  exact ⟨by rw [← hrr]; rfl, ⟨_, rfl⟩⟩
set_option maxHeartbeats 4000000 in
set_option maxRecDepth 100000 in
theorem impl_areDriven.corners (wide high : Nat) (hw : 1 ≤ wide ∧ wide ≤ 8) (hh : 1 ≤ high ∧ high ≤ 8) (A1 : Option Addr) (c1 : Nat) (l1 : List (List Int)) (w : World) (hr : Kd.C (Kd.slice 3 (Kd.int .i64)) w A1 l1.length l1) (hc : l1.length ≤ c1) :
    Calls Try.prog 67 #[.agg #[.int .i64 wide, .int .i64 high, .slice none 0 0], .slice A1 l1.length c1] w fun e w' => e = .returned (.bool (l1.all (impl_areDriven.corner wide high))) ∧ Below w.heap.size w w' := by
  have hmf : ∀ (fn : Fn) (first cap : Array Value) (w : World), (Instr.makeFunc fn first cap).run Try.prog w = .ok (.func fn first cap) w := fun _ _ _ _ => rfl
  have hb : impl_areDriven.Box (w.alloc (.cells #[.int .i64 wide, .int .i64 high, .slice none 0 0] 80)) w.heap.size wide high := heap_alloc_new _ _
  have h0 := hb.cell0
  have h1 := hb.cell1
  have h2 := hb.cell2
  have HBx := Aside0.mk hb
  have HR := Aside0.mk (Kd.C_alloc hr (.cells #[.int .i64 wide, .int .i64 high, .slice none 0 0] 80))
  have HB := Aside0.mk (below_alloc (Below.refl w.heap.size w) (.cells #[.int .i64 wide, .int .i64 high, .slice none 0 0] 80))
  have HZ := Aside0.mk (show w.heap.size < (w.alloc (.cells #[.int .i64 wide, .int .i64 high, .slice none 0 0] 80)).heap.size by simp)
  clear hb hr
  go_enter Try.func67, Try.ntmps67
  go_wp2_with (first | (go_at_call 76; refine (impl_areDriven.city wide high hw hh _).mono ?_; rintro e w1 ⟨rfl, hb1⟩) | (go_at_call 77; refine (impl_areDriven.cf wide high hw hh w.heap.size A1 c1 l1 _ (Kd.C_below HR.out hb1) hc ((hb1.block _ HZ.out).trans HBx.out)).mono ?_; rintro e w2 ⟨rfl, ⟨nd, rfl⟩⟩))
  go_ret
  exact ⟨by simp, pw_below_drewN (below_then HB.out HB.out.size hb1) _⟩
set_option maxHeartbeats 4000000 in
set_option maxRecDepth 100000 in
theorem impl_areDriven.calls (k : Nat) (a0_0 a0_1 : ByteArray) (A1 : Option Addr) (c1 : Nat) (l1 : List (List Int)) (r : Bool) (w : World) (hr1 : Kd.C (Kd.slice 3 (Kd.int .i64)) w A1 l1.length l1) (hc1 : l1.length ≤ c1) (h : impl_areDriven.f k a0_0 a0_1 l1 = some r) :
    Calls Try.prog 45 #[.agg #[.string a0_0, .string a0_1], .slice A1 l1.length c1] w fun e w' => e = .returned (.bool r) ∧ Below w.heap.size w w' := by
  unfold impl_areDriven.f at h
  obtain ⟨t, ht, h⟩ := Option.bind_eq_some_iff.1 h
  have HT := Aside0.mk ht
  clear ht
  have hp0 : (w.alloc (.cells #[.string a0_0, .string a0_1] 27)).cell? ⟨w.heap.size, 0, none⟩ = some (.string a0_0) := by
    rw [World.cell?_alloc_at _ _ _ _ rfl]; rfl
  have hp1 : (w.alloc (.cells #[.string a0_0, .string a0_1] 27)).cell? ⟨w.heap.size, 1, none⟩ = some (.string a0_1) := by
    rw [World.cell?_alloc_at _ _ _ _ rfl]; rfl
  have HR := Aside0.mk (Kd.C_alloc hr1 (.cells #[.string a0_0, .string a0_1] 27))
  have HB := Aside0.mk (below_alloc (Below.refl w.heap.size w) (.cells #[.string a0_0, .string a0_1] 27))
  clear hr1
  cases t with
  | false =>
    rw [if_neg (by simp)] at h
    obtain rfl := Option.some.inj h
    go_enter Try.func45, Try.ntmps45
    go_wp2_with (go_at_call 41; refine (impl_AreWays.calls k a0_0 a0_1 false _ HT.out).mono ?_; rintro e w1 ⟨rfl, hb1⟩)
    go_ret
    exact ⟨rfl, below_then HB.out HB.out.size hb1⟩
  | true =>
    rw [if_pos rfl] at h
    by_cases hz : impl_areDriven.sizes a0_0 a0_1
    case neg => rw [if_neg hz] at h; cases h
    rw [if_pos hz] at h
    obtain rfl := Option.some.inj h
    clear h
    obtain ⟨z1, z0⟩ := hz
    go_enter Try.func45, Try.ntmps45
    go_wp2_with (first | (go_at_call 41; refine (impl_AreWays.calls k a0_0 a0_1 true _ HT.out).mono ?_; rintro e w1 ⟨rfl, hb1⟩; have hq0 := (hb1.cell (World.block_lt_of_cell? _ _ hp0)).trans hp0; have hq1 := (hb1.cell (World.block_lt_of_cell? _ _ hp1)).trans hp1) | (go_at_call 67; refine (impl_areDriven.corners a0_1.size a0_0.size z1 z0 A1 c1 l1 _ (Kd.C_below HR.out hb1) hc1).mono ?_; rintro e w2 ⟨rfl, hb2⟩))
    go_ret
    exact ⟨rfl, below_then (below_then HB.out HB.out.size hb1) (Nat.le_trans HB.out.size hb1.size) hb2⟩
/-- A list of one corner, or two, told in a call. -/
theorem impl_areDriven.lit1 {w : World} {g : Nat} {x : List Int} {A : Option Addr} {c : Nat} (h0 : w.cell? ⟨g, 0, none⟩ = some (.slice A x.length c)) (hl : x.length ≤ c) (hC : Kd.C (Kd.int .i64) w A x.length x) : Kd.C (Kd.slice 3 (Kd.int .i64)) w (some ⟨g, 0, none⟩) 1 [x] := by
  refine ⟨rfl, by omega, fun _ => ⟨_, rfl, fun j p hp => ?_⟩⟩
  match j with
  | 0 =>
    obtain rfl : x = p := by simpa using hp
    refine ⟨[.slice A x.length c], rfl, ⟨A, c, rfl, hl, hC⟩, fun i u hu => ?_⟩
    match i with
    | 0 => obtain rfl : Value.slice A x.length c = u := by simpa using hu
           exact h0
    | i + 1 => simp at hu
  | j + 1 => simp at hp
theorem impl_areDriven.lit2 {w : World} {g : Nat} {x y : List Int} {A B : Option Addr} {c d : Nat} (h0 : w.cell? ⟨g, 0, none⟩ = some (.slice A x.length c)) (h1 : w.cell? ⟨g, 1, none⟩ = some (.slice B y.length d)) (hl : x.length ≤ c) (hl2 : y.length ≤ d) (hC : Kd.C (Kd.int .i64) w A x.length x) (hD : Kd.C (Kd.int .i64) w B y.length y) : Kd.C (Kd.slice 3 (Kd.int .i64)) w (some ⟨g, 0, none⟩) 2 [x, y] := by
  refine ⟨rfl, by omega, fun _ => ⟨_, rfl, fun j p hp => ?_⟩⟩
  match j with
  | 0 =>
    obtain rfl : x = p := by simpa using hp
    refine ⟨[.slice A x.length c], rfl, ⟨A, c, rfl, hl, hC⟩, fun i u hu => ?_⟩
    match i with
    | 0 => obtain rfl : Value.slice A x.length c = u := by simpa using hu
           exact h0
    | i + 1 => simp at hu
  | 1 =>
    obtain rfl : y = p := by simpa using hp
    refine ⟨[.slice B y.length d], rfl, ⟨B, d, rfl, hl2, hD⟩, fun i u hu => ?_⟩
    match i with
    | 0 => obtain rfl : Value.slice B y.length d = u := by simpa using hu
           exact h1
    | i + 1 => simp at hu
  | j + 2 => simp at hp

/-! ### impl_drivesTo: function 52 -/
def impl_drivesTo.f (k : Nat) (a0_0 : ByteArray) (a0_1 : ByteArray) (l1 : List Int) : Option ((List (List Int))) := (impl_driveIn.f a0_0 a0_1).bind fun t158 => ((impl_distancesBy.f k (a0_1.size : Int) (a0_0.size : Int) l1 t158 true).bind fun t159 => (some t159))
theorem impl_drivesTo.mono : ∀ a0 a1 a2 k, LeO (impl_drivesTo.f k a0 a1 a2) (impl_drivesTo.f (k + 1) a0 a1 a2) := by
  intro a0 a1 a2 k
  unfold impl_drivesTo.f
  repeat' first
      | (with_reducible exact impl_distancesBy.mono _ _ _ _ _ _)
      | (with_reducible exact LeO.refl _)
      | (with_reducible exact LeO.none _)
      | (with_reducible refine LeO.ite ?_ ?_)
      | (with_reducible refine LeO.bind ?_ (fun _ => ?_))
      | exact impl_distancesBy.mono _ _ _ _ _ _
      | exact LeO.none _
      | refine LeO.ite ?_ ?_
      | refine LeO.bind ?_ (fun _ => ?_)
def impl_drivesTo.T1 : Bool × List (List Nat × List Nat) := (true, [([], []), ([0], [0]), ([1], [1]), ([], []), ([3], [3]), ([4], [4]), ([], []), ([], []), ([7], [7]), ([2, 5, 6, 8, 8], [2, 5, 6, 8]), ([9, 9, 0, 1, 2, 3, 4, 5, 6, 7, 8, 9], [9])])
def impl_drivesTo.B1 : List Nat := [0, 1, 3, 0, 8, 24, 0, 0, 128, 511, 1023]
theorem impl_drivesTo.tab1 : rtab .any (opsOf Try.f52 1) = impl_drivesTo.T1 := by kernel_rfl
theorem impl_drivesTo.bits1 : waitsOk impl_drivesTo.T1.2 impl_drivesTo.B1 = true := by kernel_rfl
set_option maxHeartbeats 8000000 in
set_option maxRecDepth 100000 in
theorem impl_drivesTo.calls (k : Nat) (a0_0 : ByteArray) (a0_1 : ByteArray) (A1 : Option Addr) (c1 : Nat) (l1 : List Int) (r : List (List Int)) (w : World) (hr1 : Kd.C (Kd.int .i64) w A1 l1.length l1) (hc1 : l1.length ≤ c1) (h : impl_drivesTo.f k a0_0 a0_1 l1 = some r) :
    Calls Try.prog 52 #[.agg #[.string a0_0, .string a0_1], .slice A1 l1.length c1] w fun e w' => ∃ v0_ : Value, e = .returned (v0_) ∧ Kd.S (Kd.slice 3 (Kd.int .i64)) 30 w' w.heap.size (fun _ => True) v0_ r ∧ Below w.heap.size w w' := by
  have hu27 := Try.underlying27
  have HR1 := Aside0.mk hr1
  have HC1 := Aside0.mk hc1
  clear hr1 hc1
  have HB := Aside0.mk (Below.refl w.heap.size w)
  have H : ((impl_driveIn.f a0_0 a0_1).bind fun t158 => ((impl_distancesBy.f k (a0_1.size : Int) (a0_0.size : Int) l1 t158 true).bind fun t159 => (some t159))) = some r := h
  clear h
  replace H := Option.bind_eq_some_iff.mp H
  obtain ⟨t158, A30, H⟩ := H
  replace H : ((impl_distancesBy.f k (a0_1.size : Int) (a0_0.size : Int) l1 t158 true).bind fun t159 => (some t159)) = some r := H
  have A3 := Aside0.mk A30
  clear A30
  replace H := Option.bind_eq_some_iff.mp H
  obtain ⟨t159, A40, H⟩ := H
  replace H : (some t159) = some r := H
  have A4 := Aside0.mk A40
  clear A40
  obtain rfl := Option.some.inj H
  go_enter Try.func52, Try.ntmps52
  try go_wp2_with (first | ((with_reducible refine gate_dst (N := 2) rfl ?_); refine box_event ?hg (N := 2) ?hd (cs := #[.string a0_0, .string a0_1]) (t := 27) ?hr ?_; (case hd => rfl); (case hg => rfl); (case hr => first | (go_simp; done) | (go_simp; rfl)); intro gb157 hg w5 hbox hb; have n0_ := Aside0.mk (below_step (by repeat (first | (with_reducible first | exact HB.out | apply below_alloc | apply pw_below_drewN | apply below_drew1) | exact HB.out)) hb); have n1_ := Aside0.mk (hbox); have n2_ := Aside0.mk ((by rw [hg]; exact (below_size (by repeat (first | (with_reducible first | exact HB.out | apply below_alloc | apply pw_below_drewN | apply below_drew1) | exact HB.out))) : w.heap.size ≤ gb157)); have n3_ := Aside0.mk ((by rw [hg]; exact (below_size (by repeat (first | (with_reducible first | exact HB.out | apply below_alloc | apply pw_below_drewN | apply below_drew1) | exact HB.out))) : w.heap.size ≤ gb157)); clear HB; have HB := n0_; have BK157 := n1_; have GW157 := n2_; have GE157 := n3_; clear n0_ n1_ n2_ n3_; clear hb hbox hg))
  have n0_ := Aside0.mk (blk_drew BK157.out)
  have n1_ := Aside0.mk (below_drew1 HB.out)
  clear BK157
  clear HB
  have BK157 := n0_
  have HB := n1_
  clear n0_ n1_
  refine start_ (n := 11) (S := fun w' => w'.cell? ⟨gb157, 0, none⟩ = some (.string a0_0) ∧ w'.cell? ⟨gb157, 1, none⟩ = some (.string a0_1)) (ds := []) #[false, false, false, false, false, false, false, false, false, false, false] (by kernel_rfl) rfl rfl ⟨(blk_cell BK157.out 0).trans rfl, (blk_cell BK157.out 1).trans rfl⟩ (fun hHeld => ?_); refine with_tabW impl_drivesTo.tab1 impl_drivesTo.bits1 (fun HT_ HW_ => ?_)
  generalize w5.drew = w6 at BK157 HB hHeld ⊢
  refine pure_ (i := 0) (N := some 5) (v := ?_) (a' := ?_) #[true, false, false, false, false, false, false, false, false, false, false] rfl rfl (any_of HT_.out (by kernel_rfl)) (fun _ _ _ h => h) (Or.inl ⟨by rfl, ?_⟩) ?_ ?_
  rotate_left
  · intro w'
    go_simp
    with_reducible rfl
  rotate_left
  · simp only [Act.put, List.setIfInBounds_toArray, List.set_cons_zero, List.set_cons_succ, i64_w, i32_w]
    rfl
  refine pure_ (i := 3) (N := some 8) (v := ?_) (a' := ?_) #[true, false, false, true, false, false, false, false, false, false, false] rfl rfl (any_of HT_.out (by kernel_rfl)) (fun _ _ _ h => h) (Or.inl ⟨by rfl, ?_⟩) ?_ ?_
  rotate_left
  · intro w'
    go_simp
    with_reducible rfl
  rotate_left
  · simp only [Act.put, List.setIfInBounds_toArray, List.set_cons_zero, List.set_cons_succ, i64_w, i32_w]
    rfl
  refine pure_ (i := 6) (N := some 11) (v := ?_) (a' := ?_) #[true, false, false, true, false, false, true, false, false, false, false] rfl rfl (any_of HT_.out (by kernel_rfl)) (fun _ _ _ h => h) (Or.inl ⟨by rfl, ?_⟩) ?_ ?_
  rotate_left
  · intro w'
    go_simp
    with_reducible rfl
  rotate_left
  · simp only [Act.put, List.setIfInBounds_toArray, List.set_cons_zero, List.set_cons_succ, i64_w, i32_w]
    rfl
  refine take_ (i := 1) (N := some 6) (v := ?_) (a' := ?_) #[true, true, false, true, false, false, true, false, false, false, false] rfl rfl (take_ofW HT_.out HW_.out (by kernel_rfl)) (fun _ _ _ h => h) (Or.inl ⟨by rfl, ?_⟩) hHeld ?_ ?_
  rotate_left
  · rintro w' ⟨s0, s1⟩
    go_simp
    with_reducible rfl
  rotate_left
  · simp only [Act.put, List.setIfInBounds_toArray, List.set_cons_zero, List.set_cons_succ, i64_w, i32_w]
    rfl
  refine pure_ (i := 2) (N := some 7) (v := ?_) (a' := ?_) #[true, true, true, true, false, false, true, false, false, false, false] rfl rfl (any_of HT_.out (by kernel_rfl)) (fun _ _ _ h => h) (Or.inl ⟨by rfl, ?_⟩) ?_ ?_
  rotate_left
  · intro w'
    go_simp
    with_reducible rfl
  rotate_left
  · simp only [Act.put, List.setIfInBounds_toArray, List.set_cons_zero, List.set_cons_succ, i64_w, i32_w]
    rfl
  refine take_ (i := 4) (N := some 9) (v := ?_) (a' := ?_) #[true, true, true, true, true, false, true, false, false, false, false] rfl rfl (take_ofW HT_.out HW_.out (by kernel_rfl)) (fun _ _ _ h => h) (Or.inl ⟨by rfl, ?_⟩) hHeld ?_ ?_
  rotate_left
  · rintro w' ⟨s0, s1⟩
    go_simp
    with_reducible rfl
  rotate_left
  · simp only [Act.put, List.setIfInBounds_toArray, List.set_cons_zero, List.set_cons_succ, i64_w, i32_w]
    rfl
  refine pure_ (i := 5) (N := some 10) (v := ?_) (a' := ?_) #[true, true, true, true, true, true, true, false, false, false, false] rfl rfl (any_of HT_.out (by kernel_rfl)) (fun _ _ _ h => h) (Or.inl ⟨by rfl, ?_⟩) ?_ ?_
  rotate_left
  · intro w'
    go_simp
    with_reducible rfl
  rotate_left
  · simp only [Act.put, List.setIfInBounds_toArray, List.set_cons_zero, List.set_cons_succ, i64_w, i32_w]
    rfl
  refine take_ (i := 7) (N := some 12) (v := ?_) (a' := ?_) #[true, true, true, true, true, true, true, true, false, false, false] rfl rfl (take_ofW HT_.out HW_.out (by kernel_rfl)) (fun _ _ _ h => h) (Or.inl ⟨by rfl, ?_⟩) hHeld ?_ ?_
  rotate_left
  · rintro w' ⟨s0, s1⟩
    go_simp
    with_reducible rfl
  rotate_left
  · simp only [Act.put, List.setIfInBounds_toArray, List.set_cons_zero, List.set_cons_succ, i64_w, i32_w]
    rfl
  refine one_ (i := 8) (N := some 13) #[true, true, true, true, true, true, true, true, true, false, false] rfl rfl (one_of HT_.out (by kernel_rfl)) (by decide) (fun K hK => ?_)
  refine goes_ Try.func47 (by kernel_rfl) rfl #[.agg #[.string a0_0, .string a0_1]] (by rfl) rfl rfl (by (try simp only [List.map_toArray, List.map_cons, List.map_nil]); first | done | rfl | (simp only [List.length_drop, List.length_take]; rfl)) ?_
  with_reducible refine (impl_driveIn.calls a0_0 a0_1 t158 _ A3.out).mono ?_
  rintro e w7 ⟨p158, rfl, HP158, hb⟩
  refine ⟨_, rfl, ?_⟩
  have n0_ := Aside0.mk (blk_below (g := gb157) (o := .cells #[.string a0_0, .string a0_1] 27 (0, 0)) (by (with_reducible repeat (first | refine blk_drewN ?_ _ | refine blk_drew ?_ | refine blk_alloc ?_ _)); exact BK157.out) hb)
  have n1_ := Aside0.mk (below_step (by repeat (first | (with_reducible first | exact HB.out | apply below_alloc | apply pw_below_drewN | apply below_drew1 | refine below_set ?_ GE157.out) | exact HB.out)) hb)
  clear BK157
  clear HB
  have BK157 := n0_
  have HB := n1_
  clear n0_ n1_
  (try clear hb)
  (try clear hb2)
  (try clear hk)
  (try clear hi)
  refine hK.out _ _ ⟨(blk_cell BK157.out 0).trans rfl, (blk_cell BK157.out 1).trans rfl⟩ (fun hHeld => ?_)
  clear hK K
  refine norm_ (a' := ?_) ?_ ?_
  rotate_left
  · show Act.put _ (some 13) _ = _
    simp only [Act.put, List.setIfInBounds_toArray, List.set_cons_zero, List.set_cons_succ, i64_w, i32_w]
    rfl
  refine one_ (i := 9) (N := some 14) #[true, true, true, true, true, true, true, true, true, true, false] rfl rfl (one_of HT_.out (by kernel_rfl)) (by decide) (fun K hK => ?_)
  refine goes_ Try.func58 (by kernel_rfl) rfl #[.int .i64 (a0_1.size : Int), .int .i64 (a0_0.size : Int), .slice A1 l1.length c1, .func (.func 71) #[] #[.pointer (some ⟨p158, 0, none⟩)], .bool true] (by rfl) rfl rfl (by (try simp only [List.map_toArray, List.map_cons, List.map_nil]); first | done | rfl | (simp only [List.length_drop, List.length_take]; rfl)) ?_
  with_reducible refine (impl_distancesBy.calls k (a0_1.size : Int) (a0_0.size : Int) _ _ l1 t158 true t159 _ ?side1 ?side2 A4.out _ HP158).mono ?_
  (case side1 => repeat (first | exact (Kd.C_below HR1.out HB.out) | (with_reducible refine Kd.C_alloc ?_ _) | (with_reducible refine Kd.C_drewN ?_ _) | (with_reducible refine Kd.C_drew ?_)))
  (case side2 => exact HC1.out)
  rintro e w8 ⟨v160, rfl, ho0, hb⟩
  refine ⟨_, rfl, ?_⟩
  have n0_ := Aside0.mk (Kd.S_lower ho0 (below_size (by repeat (first | (with_reducible first | exact HB.out | apply below_alloc | apply pw_below_drewN | apply below_drew1 | refine below_set ?_ GE157.out) | exact HB.out))))
  have n1_ := Aside0.mk (blk_below (g := gb157) (o := .cells #[.string a0_0, .string a0_1] 27 (0, 0)) (by (with_reducible repeat (first | refine blk_drewN ?_ _ | refine blk_drew ?_ | refine blk_alloc ?_ _)); exact BK157.out) hb)
  have n2_ := Aside0.mk (below_step (by repeat (first | (with_reducible first | exact HB.out | apply below_alloc | apply pw_below_drewN | apply below_drew1 | refine below_set ?_ GE157.out) | exact HB.out)) hb)
  clear BK157
  clear HB
  have HO161 := n0_
  have BK157 := n1_
  have HB := n2_
  clear n0_ n1_ n2_
  (try clear hb)
  (try clear hb2)
  (try clear hk)
  (try clear hi)
  (try clear ho0)
  refine hK.out _ _ ⟨(blk_cell BK157.out 0).trans rfl, (blk_cell BK157.out 1).trans rfl⟩ (fun hHeld => ?_)
  clear hK K
  refine norm_ (a' := ?_) ?_ ?_
  rotate_left
  · show Act.put _ (some 14) _ = _
    simp only [Act.put, List.setIfInBounds_toArray, List.set_cons_zero, List.set_cons_succ, i64_w, i32_w]
    rfl
  refine pure_ (i := 10) (N := some 4) (v := ?_) (a' := ?_) #[true, true, true, true, true, true, true, true, true, true, true] rfl rfl (any_of HT_.out (by kernel_rfl)) (fun _ _ _ h => h) (Or.inl ⟨by rfl, ?_⟩) ?_ ?_
  rotate_left
  · intro w'
    go_simp
    with_reducible rfl
  rotate_left
  · simp only [Act.put, List.setIfInBounds_toArray, List.set_cons_zero, List.set_cons_succ, i64_w, i32_w]
    rfl
  refine done_ (done_of HT_.out (by kernel_rfl)) ?_
  try go_wp2
  go_ret
  exact ⟨_, by first | rfl | (simp [errW_none, errW_some] <;> rfl) | (simp [*, errW_none, errW_some] <;> rfl), by (with_reducible repeat (first | apply Kd.S_alloc | apply Kd.S_drewN | apply Kd.S_drew)); exact HO161.out, by repeat (first | (with_reducible first | exact HB.out | apply below_alloc | apply pw_below_drewN | apply below_drew1 | refine below_set ?_ GE157.out) | exact HB.out)⟩

end Go.Proofs.Ytopbmiedlpkmjaa.MK
