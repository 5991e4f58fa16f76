-- The machine side, written by this repo's program mp.py; contracts marked as of this repo are this session's own.
import Derived.Test.YtdhdkkhbgfcoiaaMXx0
import Derived.Test.YtdhdkkhbgfcoiaaMXx3
namespace Go.Proofs.Ytdhdkkhbgfcoiaa.MX
open Go.RowKit Go.Proofs.YtdhdkkhbgfcoiaaW.PrintWords Go.Proofs.YtdhdkkhbgfcoiaaW.PrintLast Go.Proofs.YtdhdkkhbgfcoiaaW.PrintMore
attribute [local go_sem] max2_int min2_int max_two min_two max_three min_three max_four min_four   -- for this text's walks alone
set_option maxHeartbeats 8000000
set_option maxRecDepth 100000
set_option linter.unusedVariables false
set_option linter.unusedSimpArgs false
def impl_areDriven.corner (wide high : Int) (x : List Int) : Bool := decide (x.length = 2) && (decide (0 ≤ rd x 0 ∧ rd x 0 ≤ wide - 1) && decide (0 ≤ rd x 1 ∧ rd x 1 ≤ high - 1))
def impl_areDriven.sizes (s a : ByteArray) : Prop := (1 ≤ a.size ∧ a.size ≤ 8) ∧ (1 ≤ s.size ∧ s.size ≤ 8)
instance (s a : ByteArray) : Decidable (impl_areDriven.sizes s a) := by unfold impl_areDriven.sizes; infer_instance
def impl_areDriven.f (k : Nat) (a0_0 a0_1 : ByteArray) (l1 : List (List Int)) : Option Bool := (impl_AreWays.f k a0_0 a0_1).bind fun t => if t = true then (if impl_areDriven.sizes a0_0 a0_1 then some (l1.all (impl_areDriven.corner a0_1.size a0_0.size)) else none) else some false
theorem impl_areDriven.within (a b c : Int) : impl_within.f a b c = some (decide (b ≤ a ∧ a ≤ c)) := by
 unfold impl_within.f
 by_cases h : a ≥ b
 ·rw [if_pos h]; simp [show b ≤ a from h]
 ·rw [if_neg h]; simp [show ¬ b ≤ a from h]
def impl_areDriven.Box (w : World) (p : Nat) (wide high : Int) : Prop := w.heap[p]? = some (.cells #[.int .i64 wide, .int .i64 high, .slice none 0 0] 83 (0, 0))
theorem impl_areDriven.Box.cell0 {w : World} {p : Nat} {wide high : Int} (h : impl_areDriven.Box w p wide high) : w.cell? ⟨p, 0, none⟩ = some (.int .i64 wide) := by
 simp only [World.cell?, impl_areDriven.Box] at h ⊢; rw [h]; rfl
theorem impl_areDriven.Box.cell1 {w : World} {p : Nat} {wide high : Int} (h : impl_areDriven.Box w p wide high) : w.cell? ⟨p, 1, none⟩ = some (.int .i64 high) := by
 simp only [World.cell?, impl_areDriven.Box] at h ⊢; rw [h]; rfl
theorem impl_areDriven.Box.cell2 {w : World} {p : Nat} {wide high : Int} (h : impl_areDriven.Box w p wide high) : w.cell? ⟨p, 2, none⟩ = some (.slice none 0 0) := by
 simp only [World.cell?, impl_areDriven.Box] at h ⊢; rw [h]; rfl
theorem impl_areDriven.clo (wide high : Nat) (hw : 1 ≤ wide ∧ wide ≤ 8) (hh : 1 ≤ high ∧ high ≤ 8) (p : Nat) (A : Option Addr) (c : Nat) (x : List Int) (w : World) (hr : Kd.C (Kd.int .i64) w A x.length x) (hc : x.length ≤ c) (hp : impl_areDriven.Box w p wide high) :
  Calls Try.prog 75 #[.slice A x.length c, .pointer (some ⟨p, 0, none⟩)] w fun e w' => e = .returned (.bool (!impl_areDriven.corner wide high x)) ∧ Drawn0 w w' := by
 have h0 := hp.cell0
 have h1 := hp.cell1
 clear hp
 have HR := am hr
 clear hr
 by_cases hl : x.length = 2
 ·obtain ⟨ad, hA, hx0⟩ := Kd.at_int HR.out 0 (by omega) (by omega)
  obtain ⟨ad1, hA1, hx1⟩ := Kd.at_int HR.out 1 (by omega) (by omega)
  subst hA
  obtain rfl : ad = ad1 := by injection hA1
  rw [show (0 : Int).toNat = 0 from rfl, Addr.add_zero'] at hx0
  rw [show (1 : Int).toNat = 1 from rfl] at hx1
  have e : (!impl_areDriven.corner wide high x) = (!(decide (0 ≤ rd x 0 ∧ rd x 0 ≤ (wide : Int) - 1)) || !(decide (0 ≤ rd x 1 ∧ rd x 1 ≤ (high : Int) - 1))) := by
   unfold impl_areDriven.corner
   rw [decide_eq_true hl, Bool.true_and, Bool.not_and]
  rw [e]
  clear e HR
  generalize rd x 0 = u at hx0 ⊢
  generalize rd x 1 = v at hx1 ⊢
  rw [hl]
  clear hl
  have W0 := am (impl_areDriven.within u 0 ((wide : Int) - 1))
  have W1 := am (impl_areDriven.within v 0 ((high : Int) - 1))
  have hx1' := hx1
  simp only [show (1 : Int).toNat = 1 from rfl, Nat.reduceMul, Nat.reduceEqDiff, Go.Addr.add, ↓reduceIte] at hx1'
  generalize decide (0 ≤ u ∧ u ≤ (wide : Int) - 1) = b0 at W0 ⊢
  generalize decide (0 ≤ v ∧ v ≤ (high : Int) - 1) = b1 at W1 ⊢
  cases b0 with
  | false =>
   go_enter Try.func75, Try.ntmps75
   go_wp2
   go_quiet ((go_at_call 61; (with_reducible refine (impl_within.calls u 0 ((wide : Int) - 1) false _ W0.out).mono ?_); rintro e w' ⟨rfl, ⟨nd, rfl⟩⟩; exact ⟨rfl, _, World.drewN_drewN _ _ _⟩))
   go_wp2
   go_ret
   exact ⟨rfl, ⟨_, rfl⟩⟩
  | true =>
   go_enter Try.func75, Try.ntmps75
   go_wp2
   go_quiet (first | (go_at_call 61; (with_reducible refine (impl_within.calls u 0 ((wide : Int) - 1) true _ W0.out).mono ?_); rintro e w' ⟨rfl, ⟨nd, rfl⟩⟩; exact ⟨rfl, _, World.drewN_drewN _ _ _⟩) | (go_at_call 61; (with_reducible refine (impl_within.calls v 0 ((high : Int) - 1) b1 _ W1.out).mono ?_); rintro e w' ⟨rfl, ⟨nd, rfl⟩⟩; exact ⟨rfl, _, World.drewN_drewN _ _ _⟩))
   go_wp2
   go_ret
   exact ⟨rfl, ⟨_, rfl⟩⟩
 ·have e : (!impl_areDriven.corner wide high x) = true := by unfold impl_areDriven.corner; rw [decide_eq_false hl]; rfl
  rw [e]
  have hn : ((x.length : Int) != 2) = true := bne_iff_ne.2 (fun z => hl (by omega))
  go_enter Try.func75, Try.ntmps75
  go_wp2
  go_quiet (fail)
  go_wp2
  go_ret
  exact ⟨rfl, ⟨_, rfl⟩⟩
theorem impl_areDriven.idx (wide high : Nat) (hw : 1 ≤ wide ∧ wide ≤ 8) (hh : 1 ≤ high ∧ high ≤ 8) (p : Nat) (A1 : Option Addr) (c1 : Nat) (l1 : List (List Int)) (w : World) (hr : Kd.C (Kd.slice 3 (Kd.int .i64)) w A1 l1.length l1) (hc : l1.length ≤ c1) (hp : impl_areDriven.Box w p wide high) :
  Calls Try.prog 85 #[.slice A1 l1.length c1, .func (.func 75) #[] #[.pointer (some ⟨p, 0, none⟩)]] w fun e w' => ∃ r : Int, e = .returned (.int .i64 r) ∧ decide (0 ≤ r) = !(l1.all (impl_areDriven.corner wide high)) ∧ Drawn0 w w' := by
 have HR := am hr
 have HP := am hp
 have HW := am hw
 have HH := am hh
 have hmax : l1.length ≤ 9223372036854775807 := Kd.C_max hr
 clear hr hp hw hh
 go_enter Try.func85, Try.ntmps85
 go_wp2
 go_loopw [8] (fun i wr => ∃ (j m : Nat), j ≤ l1.length ∧ i = .int .i64 j ∧ Aside0 ((l1.take j).all (impl_areDriven.corner wide high) = true) ∧ wr = w.drewN m) (fun i _ => l1.length - (intOf i).toNat)
 case atStart => exact ⟨0, 0, Nat.zero_le _, rfl, ⟨rfl⟩, (World.drewN_zero _).symm⟩
 case round =>
  obtain ⟨j, m, hj, rfl, HA, rfl⟩ := hrel
  by_cases hlt : j < l1.length
  ·obtain ⟨ad, cs, hA, hcl, hK, hcc⟩ := Kd.C_get (Kd.C_drewN HR.out m) [] (j : Int) (by omega) (by omega)
   rw [show l1.getD (j : Int).toNat [] = l1[j] by simp [hlt]] at hK
   obtain ⟨A2, c2, hcs, hl2, hC2⟩ := hK
   have hx : (w.drewN m).cell? (ad.add j) = some (.slice A2 (l1[j]).length c2) := by
    have z := hcc 0 (.slice A2 (l1[j]).length c2) (by rw [hcs]; rfl)
    simpa [show (Kd.slice 3 (Kd.int .i64)).sz = 1 from rfl] using z
   have HA2 := am (show (l1.take (j + 1)).all (impl_areDriven.corner wide high) = impl_areDriven.corner wide high l1[j] by
    rw [List.take_succ_eq_append_getElem hlt, List.all_append, HA.out]; simp)
   have HN := am (show impl_areDriven.corner wide high l1[j] = false → l1.all (impl_areDriven.corner wide high) = false from fun h => by
    rw [List.all_eq_false]; exact ⟨l1[j], List.getElem_mem hlt, by rw [h]; simp⟩)
   have HC2 := am hC2
   clear hcs hcl hcc hC2 HA
   generalize l1[j] = x at hx hl2 HA2 HN HC2
   obtain rfl := hA
   have HK := am (impl_areDriven.clo wide high HW.out HH.out p A2 c2 x (w.drewN m) HC2.out hl2 HP.out)
   clear HC2
   generalize impl_areDriven.corner wide high x = b at HA2 HN HK
   cases b with
   | true =>
    go_wp2_with (go_at_call 75; refine HK.out.mono ?_; rintro e w' ⟨rfl, ⟨nd, rfl⟩⟩)
    go_roundw
    case rel => exact ⟨j + 1, m + nd, by omega, by go_num, HA2, rfl⟩
    case measure => simp [intOf]; omega
   | false =>
    have HN2 := HN.out rfl
    go_wp2_with (go_at_call 75; refine HK.out.mono ?_; rintro e w' ⟨rfl, ⟨nd, rfl⟩⟩)
    go_ret
    exact ⟨_, rfl, by rw [HN2]; simp, ⟨_, rfl⟩⟩
  ·obtain rfl : j = l1.length := by omega
   have hA := HA.out
   rw [List.take_length] at hA
   clear HA hlt
   go_wp2
   go_ret
   exact ⟨_, rfl, by rw [hA]; rfl, ⟨_, rfl⟩⟩
theorem impl_areDriven.city (wide high : Nat) (hw : 1 ≤ wide ∧ wide ≤ 8) (hh : 1 ≤ high ∧ high ≤ 8) (w : World) :
  Calls Try.prog 73 #[.agg #[.int .i64 wide, .int .i64 high, .slice none 0 0]] w fun e w' => e = .returned (.bool true) ∧ Below w.heap.size w w' := by
 have hb : impl_areDriven.Box (w.alloc (.cells #[.int .i64 wide, .int .i64 high, .slice none 0 0] 83)) w.heap.size wide high := heap_alloc_new _ _
 have h0 := hb.cell0
 have h1 := hb.cell1
 have h2 := hb.cell2
 have HB := am (below_alloc (Below.refl w.heap.size w) (.cells #[.int .i64 wide, .int .i64 high, .slice none 0 0] 83))
 have W0 := am ((impl_areDriven.within wide 1 8).trans (congrArg some (decide_eq_true (by omega))))
 have W1 := am ((impl_areDriven.within high 1 8).trans (congrArg some (decide_eq_true (by omega))))
 clear hb
 go_enter Try.func73, Try.ntmps73
 go_wp2
 refine wp_loop_rounds 1 ?_
 rw [rounds_succ]
 go_wp2
 go_ret
 exact ⟨rfl, HB.out⟩
theorem impl_areDriven.cf (wide high : Nat) (hw : 1 ≤ wide ∧ wide ≤ 8) (hh : 1 ≤ high ∧ high ≤ 8) (p : Nat) (A1 : Option Addr) (c1 : Nat) (l1 : List (List Int)) (w : World) (hr : Kd.C (Kd.slice 3 (Kd.int .i64)) w A1 l1.length l1) (hc : l1.length ≤ c1) (hp : impl_areDriven.Box w p wide high) :
  Calls Try.prog 74 #[.slice A1 l1.length c1, .func (.func 75) #[] #[.pointer (some ⟨p, 0, none⟩)]] w fun e w' => e = .returned (.bool (!(l1.all (impl_areDriven.corner wide high)))) ∧ Drawn0 w w' := by
 have HK := am (impl_areDriven.idx wide high hw hh p A1 c1 l1 w hr hc hp)
 clear hr hp
 go_enter Try.func74, Try.ntmps74
 go_wp2_with (go_at_call 85; refine HK.out.mono ?_; rintro e w' ⟨r, rfl, hrr, ⟨nd, rfl⟩⟩)
 go_ret
 exact ⟨by rw [← hrr]; rfl, ⟨_, rfl⟩⟩
theorem impl_areDriven.corners (wide high : Nat) (hw : 1 ≤ wide ∧ wide ≤ 8) (hh : 1 ≤ high ∧ high ≤ 8) (A1 : Option Addr) (c1 : Nat) (l1 : List (List Int)) (w : World) (hr : Kd.C (Kd.slice 3 (Kd.int .i64)) w A1 l1.length l1) (hc : l1.length ≤ c1) :
  Calls Try.prog 56 #[.agg #[.int .i64 wide, .int .i64 high, .slice none 0 0], .slice A1 l1.length c1] w fun e w' => e = .returned (.bool (l1.all (impl_areDriven.corner wide high))) ∧ Below w.heap.size w w' := by
 have hmf : ∀ (fn : Fn) (first cap : Array Value) (w : World), (Instr.makeFunc fn first cap).run Try.prog w = .ok (.func fn first cap) w := fun _ _ _ _ => rfl
 have hb : impl_areDriven.Box (w.alloc (.cells #[.int .i64 wide, .int .i64 high, .slice none 0 0] 83)) w.heap.size wide high := heap_alloc_new _ _
 have h0 := hb.cell0
 have h1 := hb.cell1
 have h2 := hb.cell2
 have HBx := am hb
 have HR := am (Kd.C_alloc hr (.cells #[.int .i64 wide, .int .i64 high, .slice none 0 0] 83))
 have HB := am (below_alloc (Below.refl w.heap.size w) (.cells #[.int .i64 wide, .int .i64 high, .slice none 0 0] 83))
 have HZ := am (show w.heap.size < (w.alloc (.cells #[.int .i64 wide, .int .i64 high, .slice none 0 0] 83)).heap.size by simp)
 clear hb hr
 go_enter Try.func56, Try.ntmps56
 go_wp2_with (first | (go_at_call 73; refine (impl_areDriven.city wide high hw hh _).mono ?_; rintro e w1 ⟨rfl, hb1⟩) | (go_at_call 74; refine (impl_areDriven.cf wide high hw hh w.heap.size A1 c1 l1 _ (Kd.C_below HR.out hb1) hc ((hb1.block _ HZ.out).trans HBx.out)).mono ?_; rintro e w2 ⟨rfl, ⟨nd, rfl⟩⟩))
 go_ret
 exact ⟨by simp, pw_below_drewN (below_then HB.out HB.out.size hb1) _⟩
theorem impl_areDriven.calls (k : Nat) (a0_0 a0_1 : ByteArray) (A1 : Option Addr) (c1 : Nat) (l1 : List (List Int)) (r : Bool) (w : World) (hr1 : Kd.C (Kd.slice 3 (Kd.int .i64)) w A1 l1.length l1) (hc1 : l1.length ≤ c1) (h : impl_areDriven.f k a0_0 a0_1 l1 = some r) :
  Calls Try.prog 29 #[.agg #[.string a0_0, .string a0_1], .slice A1 l1.length c1] w fun e w' => e = .returned (.bool r) ∧ Below w.heap.size w w' := by
 unfold impl_areDriven.f at h
 obtain ⟨t, ht, h⟩ := Option.bind_eq_some_iff.1 h
 have HT := am ht
 clear ht
 have hp0 : (w.alloc (.cells #[.string a0_0, .string a0_1] 25)).cell? ⟨w.heap.size, 0, none⟩ = some (.string a0_0) := by
  rw [World.cell?_alloc_at _ _ _ _ rfl]; rfl
 have hp1 : (w.alloc (.cells #[.string a0_0, .string a0_1] 25)).cell? ⟨w.heap.size, 1, none⟩ = some (.string a0_1) := by
  rw [World.cell?_alloc_at _ _ _ _ rfl]; rfl
 have HR := am (Kd.C_alloc hr1 (.cells #[.string a0_0, .string a0_1] 25))
 have HB := am (below_alloc (Below.refl w.heap.size w) (.cells #[.string a0_0, .string a0_1] 25))
 clear hr1
 cases t with
 | false =>
  rw [if_neg (by simp)] at h
  obtain rfl := Option.some.inj h
  go_enter Try.func29, Try.ntmps29
  go_wp2_with (go_at_call 43; refine (impl_AreWays.calls k a0_0 a0_1 false _ HT.out).mono ?_; rintro e w1 ⟨rfl, hb1⟩)
  go_ret
  exact ⟨rfl, below_then HB.out HB.out.size hb1⟩
 | true =>
  rw [if_pos rfl] at h
  by_cases hz : impl_areDriven.sizes a0_0 a0_1
  case neg => rw [if_neg hz] at h; cases h
  rw [if_pos hz] at h
  obtain rfl := Option.some.inj h
  clear h
  obtain ⟨z1, z0⟩ := hz
  go_enter Try.func29, Try.ntmps29
  go_wp2_with (first | (go_at_call 43; refine (impl_AreWays.calls k a0_0 a0_1 true _ HT.out).mono ?_; rintro e w1 ⟨rfl, hb1⟩; have hq0 := (hb1.cell (World.block_lt_of_cell? _ _ hp0)).trans hp0; have hq1 := (hb1.cell (World.block_lt_of_cell? _ _ hp1)).trans hp1) | (go_at_call 56; refine (impl_areDriven.corners a0_1.size a0_0.size z1 z0 A1 c1 l1 _ (Kd.C_below HR.out hb1) hc1).mono ?_; rintro e w2 ⟨rfl, hb2⟩))
  go_ret
  exact ⟨rfl, below_then (below_then HB.out HB.out.size hb1) (Nat.le_trans HB.out.size hb1.size) hb2⟩
theorem impl_areDriven.lit1 {w : World} {g : Nat} {x : List Int} {A : Option Addr} {c : Nat} (h0 : w.cell? ⟨g, 0, none⟩ = some (.slice A x.length c)) (hl : x.length ≤ c) (hC : Kd.C (Kd.int .i64) w A x.length x) : Kd.C (Kd.slice 3 (Kd.int .i64)) w (some ⟨g, 0, none⟩) 1 [x] := by
  refine ⟨rfl, by omega, fun _ => ⟨_, rfl, fun j p hp => ?_⟩⟩
  match j with
  | 0 =>
    obtain rfl : x = p := by simpa using hp
    refine ⟨[.slice A x.length c], rfl, ⟨A, c, rfl, hl, hC⟩, fun i u hu => ?_⟩
    match i with
    | 0 => obtain rfl : Value.slice A x.length c = u := by simpa using hu
           exact h0
    | i + 1 => simp at hu
  | j + 1 => simp at hp
theorem impl_areDriven.lit2 {w : World} {g : Nat} {x y : List Int} {A B : Option Addr} {c d : Nat} (h0 : w.cell? ⟨g, 0, none⟩ = some (.slice A x.length c)) (h1 : w.cell? ⟨g, 1, none⟩ = some (.slice B y.length d)) (hl : x.length ≤ c) (hl2 : y.length ≤ d) (hC : Kd.C (Kd.int .i64) w A x.length x) (hD : Kd.C (Kd.int .i64) w B y.length y) : Kd.C (Kd.slice 3 (Kd.int .i64)) w (some ⟨g, 0, none⟩) 2 [x, y] := by
  refine ⟨rfl, by omega, fun _ => ⟨_, rfl, fun j p hp => ?_⟩⟩
  match j with
  | 0 =>
    obtain rfl : x = p := by simpa using hp
    refine ⟨[.slice A x.length c], rfl, ⟨A, c, rfl, hl, hC⟩, fun i u hu => ?_⟩
    match i with
    | 0 => obtain rfl : Value.slice A x.length c = u := by simpa using hu
           exact h0
    | i + 1 => simp at hu
  | 1 =>
    obtain rfl : y = p := by simpa using hp
    refine ⟨[.slice B y.length d], rfl, ⟨B, d, rfl, hl2, hD⟩, fun i u hu => ?_⟩
    match i with
    | 0 => obtain rfl : Value.slice B y.length d = u := by simpa using hu
           exact h1
    | i + 1 => simp at hu
  | j + 2 => simp at hp
def impl_moved.f (l0 : List Int) (a1 : Int) : Option (List Int) := if 0 ≤ a1 then (if a1 < 4 then (if (bt (⟨#[101, 110, 115, 119]⟩ : ByteArray) a1) = 101 then (if 0 < (l0.length : Int) then (if 1 < (l0.length : Int) then (some (([wrap64 ((rd l0 0) + 1), rd l0 1] : List Int))) else (none)) else (none)) else (if (bt (⟨#[101, 110, 115, 119]⟩ : ByteArray) a1) = 110 then (if 0 < (l0.length : Int) then (if 1 < (l0.length : Int) then (some (([rd l0 0, wrap64 ((rd l0 1) + 1)] : List Int))) else (none)) else (none)) else (if (bt (⟨#[101, 110, 115, 119]⟩ : ByteArray) a1) = 115 then (if 0 < (l0.length : Int) then (if 1 < (l0.length : Int) then (some (([rd l0 0, wrap64 ((rd l0 1) - 1)] : List Int))) else (none)) else (none)) else (if 0 < (l0.length : Int) then (if 1 < (l0.length : Int) then (some (([wrap64 ((rd l0 0) - 1), rd l0 1] : List Int))) else (none)) else (none))))) else (none)) else (none)
def impl_moved.T3 : Bool × List (List Nat × List Nat) := (true, [([], []), ([0], [0]), ([1], [1]), ([2], [2]), ([], []), ([4], [4]), ([5], [5]), ([3, 6], [3, 6]), ([7, 0, 1, 2, 3, 4, 5, 6, 7], [7])])
def impl_moved.B3 : List Nat := [0, 1, 3, 7, 0, 16, 48, 127, 255]
theorem impl_moved.tab3 : rtab .any (opsOf Try.f59 3) = impl_moved.T3 := by kernel_rfl
theorem impl_moved.bits3 : waitsOk impl_moved.T3.2 impl_moved.B3 = true := by kernel_rfl
def impl_moved.T5 : Bool × List (List Nat × List Nat) := (true, [([], []), ([0], [0]), ([1], [1]), ([], []), ([3], [3]), ([4], [4]), ([5], [5]), ([2, 6], [2, 6]), ([7, 0, 1, 2, 3, 4, 5, 6, 7], [7])])
def impl_moved.B5 : List Nat := [0, 1, 3, 0, 8, 24, 56, 127, 255]
theorem impl_moved.tab5 : rtab .any (opsOf Try.f59 5) = impl_moved.T5 := by kernel_rfl
theorem impl_moved.bits5 : waitsOk impl_moved.T5.2 impl_moved.B5 = true := by kernel_rfl
def impl_moved.T7 : Bool × List (List Nat × List Nat) := (true, [([], []), ([0], [0]), ([1], [1]), ([], []), ([3], [3]), ([4], [4]), ([5], [5]), ([2, 6], [2, 6]), ([7, 0, 1, 2, 3, 4, 5, 6, 7], [7])])
def impl_moved.B7 : List Nat := [0, 1, 3, 0, 8, 24, 56, 127, 255]
theorem impl_moved.tab7 : rtab .any (opsOf Try.f59 7) = impl_moved.T7 := by kernel_rfl
theorem impl_moved.bits7 : waitsOk impl_moved.T7.2 impl_moved.B7 = true := by kernel_rfl
def impl_moved.T8 : Bool × List (List Nat × List Nat) := (true, [([], []), ([0], [0]), ([1], [1]), ([2], [2]), ([], []), ([4], [4]), ([5], [5]), ([3, 6], [3, 6]), ([7, 0, 1, 2, 3, 4, 5, 6, 7], [7])])
def impl_moved.B8 : List Nat := [0, 1, 3, 7, 0, 16, 48, 127, 255]
theorem impl_moved.tab8 : rtab .any (opsOf Try.f59 8) = impl_moved.T8 := by kernel_rfl
theorem impl_moved.bits8 : waitsOk impl_moved.T8.2 impl_moved.B8 = true := by kernel_rfl
theorem impl_moved.calls (A0 : Option Addr) (c0 : Nat) (l0 : List Int) (a1 : Int) (r : List Int) (w : World) (hr0 : Kd.C (Kd.int .i64) w A0 l0.length l0) (hc0 : l0.length ≤ c0) (h : impl_moved.f l0 a1 = some r) :
  Calls Try.prog 59 #[.slice A0 l0.length c0, .int .i64 a1] w fun e w' => ∃ v0_ : Value, e = .returned (v0_) ∧ Kd.R (Kd.int .i64) 3 w' w.heap.size (fun _ => True) v0_ r ∧ Below w.heap.size w w' := by
 have HR0 := am hr0
 have HC0 := am hc0
 clear hr0 hc0
 have HB := am (Below.refl w.heap.size w)
 unfold impl_moved.f at h
 have H := h
 clear h
 by_cases c3 : 0 ≤ a1
 ·rw [if_pos c3] at H
  have c3b0 : decide (0 ≤ a1) = true := decide_eq_true c3
  clear c3
  by_cases c4 : a1 < 4
  ·rw [if_pos c4] at H
   have c4b0 : decide (a1 < 4) = true := decide_eq_true c4
   clear c4
   by_cases c6 : (bt (⟨#[101, 110, 115, 119]⟩ : ByteArray) a1) = 101
   ·rw [if_pos c6] at H
    have c6b0 : ((bt (⟨#[101, 110, 115, 119]⟩ : ByteArray) a1) == 101) = true := beq_iff_eq.mpr c6
    have c6b1 : ((bt (⟨#[101, 110, 115, 119]⟩ : ByteArray) a1) != 101) = false := bne_eq_false_iff_eq.mpr c6
    clear c6
    by_cases c7 : 0 < (l0.length : Int)
    ·rw [if_pos c7] at H
     have c7b0 : decide (0 < (l0.length : Int)) = true := decide_eq_true c7
     have c7b1 : decide (0 < l0.length) = true := decide_eq_true (by omega)
     clear c7
     by_cases c8 : 1 < (l0.length : Int)
     ·rw [if_pos c8] at H
      have c8b0 : decide (1 < (l0.length : Int)) = true := decide_eq_true c8
      have c8b1 : decide (1 < l0.length) = true := decide_eq_true (by omega)
      clear c8
      obtain ⟨y228, hy228⟩ : ∃ y_ : List Int, y_ = (([wrap64 ((rd l0 0) + 1), rd l0 1] : List Int)) := ⟨_, rfl⟩
      rw [← hy228] at H
      have Ny228 := am hy228
      clear hy228
      obtain rfl := Option.some.inj H
      have p5 : 0 ≤ (a1 : Int) := of_decide_eq_true (by with_reducible assumption)
      have q5 : a1 < (4 : Int) := of_decide_eq_true (by with_reducible assumption)
      have hx5 := bt_at (⟨#[101, 110, 115, 119]⟩ : ByteArray) a1
      replace p5 := eq_true p5
      replace q5 := eq_true q5
      go_enter Try.func59, Try.ntmps59
      try go_wp2
      replace HB := am (below_drew1 HB.out)
      have p226 : 0 ≤ (0 : Int) := (by omega)
      have q226 : 0 < (l0.length : Int) := of_decide_eq_true (by with_reducible assumption)
      obtain ⟨ad226, e226, hx226_0⟩ := Kd.at_int HR0.out 0 p226 q226
      have hw226_0 := hx226_0
      (try rw [show ((0 : Int)).toNat = 0 from rfl] at hw226_0)
      (try rw [Addr.add_zero'] at hw226_0)
      cases e226
      have qi226 : (0 < l0.length) = True := eq_true (by omega)
      (try rw [show ((0 : Int)).toNat = 0 from rfl] at hx226_0)
      (try rw [Addr.add_zero'] at hx226_0)
      replace hx226_0 := (HB.out.cell (World.block_lt_of_cell? w _ hx226_0)).trans hx226_0
      replace p226 := eq_true p226
      replace q226 := eq_true q226
      have p227 : 0 ≤ (1 : Int) := (by omega)
      have q227 : 1 < (l0.length : Int) := of_decide_eq_true (by with_reducible assumption)
      obtain ⟨ad227, e227, hx227_0⟩ := Kd.at_int HR0.out 1 p227 q227
      have hw227_0 := hx227_0
      (try rw [show ((1 : Int)).toNat = 1 from rfl] at hw227_0)
      (try simp only [Nat.reduceMul, Nat.reduceEqDiff, Go.Addr.add, ↓reduceIte] at hw227_0)
      obtain rfl : ad226 = ad227 := (by injection e227)
      (try simp only [show (1 : Int).toNat = 1 from rfl, Nat.reduceMul, Nat.reduceEqDiff, Go.Addr.add, ↓reduceIte] at hx227_0)
      have qi227 : (1 < l0.length) = True := eq_true (by omega)
      replace hx227_0 := (HB.out.cell (World.block_lt_of_cell? w _ hx227_0)).trans hx227_0
      replace p227 := eq_true p227
      replace q227 := eq_true q227
      refine start_ (n := 9) (S := fun w' => w'.cell? ad226 = some (.int .i64 (rd l0 0)) ∧ w'.cell? ⟨ad226.block, ad226.off + 1, none⟩ = some (.int .i64 (rd l0 1))) (ds := []) #[false, false, false, false, false, false, false, false, false] (by kernel_rfl) rfl rfl ⟨((HB.out.cell (World.block_lt_of_cell? w _ hw226_0)).trans hw226_0), ((HB.out.cell (World.block_lt_of_cell? w _ hw227_0)).trans hw227_0)⟩ (fun hHeld => ?_); refine with_tabW impl_moved.tab3 impl_moved.bits3 (fun HT_ HW_ => ?_)
      generalize w.drew = w9 at HB hx226_0 hx227_0 hHeld ⊢
      refine pu_ 0 9 (fl_ 9 1) HT_ ?_
      refine pu_ 1 10 (fl_ 9 3) HT_ ?_
      refine pu_ 4 13 (fl_ 9 19) HT_ ?_
      refine pu_ 5 14 (fl_ 9 51) HT_ ?_
      refine tk_ 2 11 (fl_ 9 55) HT_ HW_ hHeld ?_ (hy := by rintro w' ⟨s0, s1⟩; go_simp; with_reducible rfl)
      refine pu_ 3 12 (fl_ 9 63) HT_ ?_
      refine tk_ 6 15 (fl_ 9 127) HT_ HW_ hHeld ?_ (hy := by rintro w' ⟨s0, s1⟩; go_simp; with_reducible rfl)
      refine on_ 7 16 (fl_ 9 255) HT_ fun K hK => ?_
      refine Kd.R_lit_step (Kd.int .i64) _ 3 ?hg (N := 16) ?hd (xs := ([wrap64 ((rd l0 0) + 1), rd l0 1] : List Int)) (inner := [.int .i64 (wrap64 ((rd l0 0) + 1)), .int .i64 (rd l0 1)]) (ok := fun _ => True) (okp := fun _ => True) ?hr ?hp (fun _ hk => hk) trivial (Below.refl _ _) (Nat.le_refl _) (by simp) ?_; (case hd => rfl); (case hg => rfl); (case hr => go_simp; done); (case hp => exact (Reps.one (show Kd.M (Kd.int .i64) _ _ _ (wrap64 ((rd l0 0) + 1)) [.int .i64 (wrap64 ((rd l0 0) + 1))] from rfl) (Reps.one (show Kd.M (Kd.int .i64) _ _ _ (rd l0 1) [.int .i64 (rd l0 1)] from rfl) (Reps.none _ _))))
      intro v229 w10 ho11 hb hg_ hnew_
      clear hg_ hnew_
      (rw [← Ny228.out] at ho11)
      have HO230 := am (Kd.R_lower ho11 (below_size HB.out))
      replace HB := am (below_step HB.out hb)
      clear hb ho11
      refine hK.out _ _ ⟨((HB.out.cell (World.block_lt_of_cell? w _ hw226_0)).trans hw226_0), ((HB.out.cell (World.block_lt_of_cell? w _ hw227_0)).trans hw227_0)⟩ (fun hHeld => ?_)
      clear hK K
      refine nm_ 16 ?_
      refine pu_ 8 4 (fl_ 9 511) HT_ ?_
      refine done_ (done_of HT_.out (by kernel_rfl)) ?_
      try go_wp2
      go_ret
      exact ⟨_, by rfl, by (with_reducible skip); exact HO230.out, by exact HB.out⟩
     ·rw [if_neg c8] at H
      exact absurd H (by simp)
    ·rw [if_neg c7] at H
     exact absurd H (by simp)
   ·rw [if_neg c6] at H
    have c6b0 : ((bt (⟨#[101, 110, 115, 119]⟩ : ByteArray) a1) == 101) = false := beq_eq_false_iff_ne.mpr c6
    have c6b1 : ((bt (⟨#[101, 110, 115, 119]⟩ : ByteArray) a1) != 101) = true := bne_iff_ne.mpr c6
    by_cases c12 : (bt (⟨#[101, 110, 115, 119]⟩ : ByteArray) a1) = 110
    ·rw [if_pos c12] at H
     have c12b0 : ((bt (⟨#[101, 110, 115, 119]⟩ : ByteArray) a1) == 110) = true := beq_iff_eq.mpr c12
     have c12b1 : ((bt (⟨#[101, 110, 115, 119]⟩ : ByteArray) a1) != 110) = false := bne_eq_false_iff_eq.mpr c12
     clear c12
     by_cases c13 : 0 < (l0.length : Int)
     ·rw [if_pos c13] at H
      have c13b0 : decide (0 < (l0.length : Int)) = true := decide_eq_true c13
      have c13b1 : decide (0 < l0.length) = true := decide_eq_true (by omega)
      clear c13
      by_cases c14 : 1 < (l0.length : Int)
      ·rw [if_pos c14] at H
       have c14b0 : decide (1 < (l0.length : Int)) = true := decide_eq_true c14
       have c14b1 : decide (1 < l0.length) = true := decide_eq_true (by omega)
       clear c14
       obtain ⟨y233, hy233⟩ : ∃ y_ : List Int, y_ = (([rd l0 0, wrap64 ((rd l0 1) + 1)] : List Int)) := ⟨_, rfl⟩
       rw [← hy233] at H
       have Ny233 := am hy233
       clear hy233
       obtain rfl := Option.some.inj H
       have p5 : 0 ≤ (a1 : Int) := of_decide_eq_true (by with_reducible assumption)
       have q5 : a1 < (4 : Int) := of_decide_eq_true (by with_reducible assumption)
       have hx5 := bt_at (⟨#[101, 110, 115, 119]⟩ : ByteArray) a1
       replace p5 := eq_true p5
       replace q5 := eq_true q5
       go_enter Try.func59, Try.ntmps59
       try go_wp2
       replace HB := am (below_drew1 HB.out)
       have p231 : 0 ≤ (0 : Int) := (by omega)
       have q231 : 0 < (l0.length : Int) := of_decide_eq_true (by with_reducible assumption)
       obtain ⟨ad231, e231, hx231_0⟩ := Kd.at_int HR0.out 0 p231 q231
       have hw231_0 := hx231_0
       (try rw [show ((0 : Int)).toNat = 0 from rfl] at hw231_0)
       (try rw [Addr.add_zero'] at hw231_0)
       cases e231
       have qi231 : (0 < l0.length) = True := eq_true (by omega)
       (try rw [show ((0 : Int)).toNat = 0 from rfl] at hx231_0)
       (try rw [Addr.add_zero'] at hx231_0)
       replace hx231_0 := (HB.out.cell (World.block_lt_of_cell? w _ hx231_0)).trans hx231_0
       replace p231 := eq_true p231
       replace q231 := eq_true q231
       have p232 : 0 ≤ (1 : Int) := (by omega)
       have q232 : 1 < (l0.length : Int) := of_decide_eq_true (by with_reducible assumption)
       obtain ⟨ad232, e232, hx232_0⟩ := Kd.at_int HR0.out 1 p232 q232
       have hw232_0 := hx232_0
       (try rw [show ((1 : Int)).toNat = 1 from rfl] at hw232_0)
       (try simp only [Nat.reduceMul, Nat.reduceEqDiff, Go.Addr.add, ↓reduceIte] at hw232_0)
       obtain rfl : ad231 = ad232 := (by injection e232)
       (try simp only [show (1 : Int).toNat = 1 from rfl, Nat.reduceMul, Nat.reduceEqDiff, Go.Addr.add, ↓reduceIte] at hx232_0)
       have qi232 : (1 < l0.length) = True := eq_true (by omega)
       replace hx232_0 := (HB.out.cell (World.block_lt_of_cell? w _ hx232_0)).trans hx232_0
       replace p232 := eq_true p232
       replace q232 := eq_true q232
       refine start_ (n := 9) (S := fun w' => w'.cell? ad231 = some (.int .i64 (rd l0 0)) ∧ w'.cell? ⟨ad231.block, ad231.off + 1, none⟩ = some (.int .i64 (rd l0 1))) (ds := []) #[false, false, false, false, false, false, false, false, false] (by kernel_rfl) rfl rfl ⟨((HB.out.cell (World.block_lt_of_cell? w _ hw231_0)).trans hw231_0), ((HB.out.cell (World.block_lt_of_cell? w _ hw232_0)).trans hw232_0)⟩ (fun hHeld => ?_); refine with_tabW impl_moved.tab5 impl_moved.bits5 (fun HT_ HW_ => ?_)
       generalize w.drew = w15 at HB hx231_0 hx232_0 hHeld ⊢
       refine pu_ 0 19 (fl_ 9 1) HT_ ?_
       refine pu_ 1 20 (fl_ 9 3) HT_ ?_
       refine pu_ 3 22 (fl_ 9 11) HT_ ?_
       refine pu_ 4 23 (fl_ 9 27) HT_ ?_
       refine tk_ 2 21 (fl_ 9 31) HT_ HW_ hHeld ?_ (hy := by rintro w' ⟨s0, s1⟩; go_simp; with_reducible rfl)
       refine tk_ 5 24 (fl_ 9 63) HT_ HW_ hHeld ?_ (hy := by rintro w' ⟨s0, s1⟩; go_simp; with_reducible rfl)
       refine pu_ 6 25 (fl_ 9 127) HT_ ?_
       refine on_ 7 26 (fl_ 9 255) HT_ fun K hK => ?_
       refine Kd.R_lit_step (Kd.int .i64) _ 3 ?hg (N := 26) ?hd (xs := ([rd l0 0, wrap64 ((rd l0 1) + 1)] : List Int)) (inner := [.int .i64 (rd l0 0), .int .i64 (wrap64 ((rd l0 1) + 1))]) (ok := fun _ => True) (okp := fun _ => True) ?hr ?hp (fun _ hk => hk) trivial (Below.refl _ _) (Nat.le_refl _) (by simp) ?_; (case hd => rfl); (case hg => rfl); (case hr => go_simp; done); (case hp => exact (Reps.one (show Kd.M (Kd.int .i64) _ _ _ (rd l0 0) [.int .i64 (rd l0 0)] from rfl) (Reps.one (show Kd.M (Kd.int .i64) _ _ _ (wrap64 ((rd l0 1) + 1)) [.int .i64 (wrap64 ((rd l0 1) + 1))] from rfl) (Reps.none _ _))))
       intro v234 w16 ho17 hb hg_ hnew_
       clear hg_ hnew_
       (rw [← Ny233.out] at ho17)
       have HO235 := am (Kd.R_lower ho17 (below_size HB.out))
       replace HB := am (below_step HB.out hb)
       clear hb ho17
       refine hK.out _ _ ⟨((HB.out.cell (World.block_lt_of_cell? w _ hw231_0)).trans hw231_0), ((HB.out.cell (World.block_lt_of_cell? w _ hw232_0)).trans hw232_0)⟩ (fun hHeld => ?_)
       clear hK K
       refine nm_ 26 ?_
       refine pu_ 8 4 (fl_ 9 511) HT_ ?_
       refine done_ (done_of HT_.out (by kernel_rfl)) ?_
       try go_wp2
       go_ret
       exact ⟨_, by rfl, by (with_reducible skip); exact HO235.out, by exact HB.out⟩
      ·rw [if_neg c14] at H
       exact absurd H (by simp)
     ·rw [if_neg c13] at H
      exact absurd H (by simp)
    ·rw [if_neg c12] at H
     have c12b0 : ((bt (⟨#[101, 110, 115, 119]⟩ : ByteArray) a1) == 110) = false := beq_eq_false_iff_ne.mpr c12
     have c12b1 : ((bt (⟨#[101, 110, 115, 119]⟩ : ByteArray) a1) != 110) = true := bne_iff_ne.mpr c12
     by_cases c18 : (bt (⟨#[101, 110, 115, 119]⟩ : ByteArray) a1) = 115
     ·rw [if_pos c18] at H
      have c18b0 : ((bt (⟨#[101, 110, 115, 119]⟩ : ByteArray) a1) == 115) = true := beq_iff_eq.mpr c18
      have c18b1 : ((bt (⟨#[101, 110, 115, 119]⟩ : ByteArray) a1) != 115) = false := bne_eq_false_iff_eq.mpr c18
      clear c18
      by_cases c19 : 0 < (l0.length : Int)
      ·rw [if_pos c19] at H
       have c19b0 : decide (0 < (l0.length : Int)) = true := decide_eq_true c19
       have c19b1 : decide (0 < l0.length) = true := decide_eq_true (by omega)
       clear c19
       by_cases c20 : 1 < (l0.length : Int)
       ·rw [if_pos c20] at H
        have c20b0 : decide (1 < (l0.length : Int)) = true := decide_eq_true c20
        have c20b1 : decide (1 < l0.length) = true := decide_eq_true (by omega)
        clear c20
        obtain ⟨y238, hy238⟩ : ∃ y_ : List Int, y_ = (([rd l0 0, wrap64 ((rd l0 1) - 1)] : List Int)) := ⟨_, rfl⟩
        rw [← hy238] at H
        have Ny238 := am hy238
        clear hy238
        obtain rfl := Option.some.inj H
        have p5 : 0 ≤ (a1 : Int) := of_decide_eq_true (by with_reducible assumption)
        have q5 : a1 < (4 : Int) := of_decide_eq_true (by with_reducible assumption)
        have hx5 := bt_at (⟨#[101, 110, 115, 119]⟩ : ByteArray) a1
        replace p5 := eq_true p5
        replace q5 := eq_true q5
        go_enter Try.func59, Try.ntmps59
        try go_wp2
        replace HB := am (below_drew1 HB.out)
        have p236 : 0 ≤ (0 : Int) := (by omega)
        have q236 : 0 < (l0.length : Int) := of_decide_eq_true (by with_reducible assumption)
        obtain ⟨ad236, e236, hx236_0⟩ := Kd.at_int HR0.out 0 p236 q236
        have hw236_0 := hx236_0
        (try rw [show ((0 : Int)).toNat = 0 from rfl] at hw236_0)
        (try rw [Addr.add_zero'] at hw236_0)
        cases e236
        have qi236 : (0 < l0.length) = True := eq_true (by omega)
        (try rw [show ((0 : Int)).toNat = 0 from rfl] at hx236_0)
        (try rw [Addr.add_zero'] at hx236_0)
        replace hx236_0 := (HB.out.cell (World.block_lt_of_cell? w _ hx236_0)).trans hx236_0
        replace p236 := eq_true p236
        replace q236 := eq_true q236
        have p237 : 0 ≤ (1 : Int) := (by omega)
        have q237 : 1 < (l0.length : Int) := of_decide_eq_true (by with_reducible assumption)
        obtain ⟨ad237, e237, hx237_0⟩ := Kd.at_int HR0.out 1 p237 q237
        have hw237_0 := hx237_0
        (try rw [show ((1 : Int)).toNat = 1 from rfl] at hw237_0)
        (try simp only [Nat.reduceMul, Nat.reduceEqDiff, Go.Addr.add, ↓reduceIte] at hw237_0)
        obtain rfl : ad236 = ad237 := (by injection e237)
        (try simp only [show (1 : Int).toNat = 1 from rfl, Nat.reduceMul, Nat.reduceEqDiff, Go.Addr.add, ↓reduceIte] at hx237_0)
        have qi237 : (1 < l0.length) = True := eq_true (by omega)
        replace hx237_0 := (HB.out.cell (World.block_lt_of_cell? w _ hx237_0)).trans hx237_0
        replace p237 := eq_true p237
        replace q237 := eq_true q237
        refine start_ (n := 9) (S := fun w' => w'.cell? ad236 = some (.int .i64 (rd l0 0)) ∧ w'.cell? ⟨ad236.block, ad236.off + 1, none⟩ = some (.int .i64 (rd l0 1))) (ds := []) #[false, false, false, false, false, false, false, false, false] (by kernel_rfl) rfl rfl ⟨((HB.out.cell (World.block_lt_of_cell? w _ hw236_0)).trans hw236_0), ((HB.out.cell (World.block_lt_of_cell? w _ hw237_0)).trans hw237_0)⟩ (fun hHeld => ?_); refine with_tabW impl_moved.tab7 impl_moved.bits7 (fun HT_ HW_ => ?_)
        generalize w.drew = w21 at HB hx236_0 hx237_0 hHeld ⊢
        refine pu_ 0 29 (fl_ 9 1) HT_ ?_
        refine pu_ 1 30 (fl_ 9 3) HT_ ?_
        refine pu_ 3 32 (fl_ 9 11) HT_ ?_
        refine pu_ 4 33 (fl_ 9 27) HT_ ?_
        refine tk_ 2 31 (fl_ 9 31) HT_ HW_ hHeld ?_ (hy := by rintro w' ⟨s0, s1⟩; go_simp; with_reducible rfl)
        refine tk_ 5 34 (fl_ 9 63) HT_ HW_ hHeld ?_ (hy := by rintro w' ⟨s0, s1⟩; go_simp; with_reducible rfl)
        refine pu_ 6 35 (fl_ 9 127) HT_ ?_
        refine on_ 7 36 (fl_ 9 255) HT_ fun K hK => ?_
        refine Kd.R_lit_step (Kd.int .i64) _ 3 ?hg (N := 36) ?hd (xs := ([rd l0 0, wrap64 ((rd l0 1) - 1)] : List Int)) (inner := [.int .i64 (rd l0 0), .int .i64 (wrap64 ((rd l0 1) - 1))]) (ok := fun _ => True) (okp := fun _ => True) ?hr ?hp (fun _ hk => hk) trivial (Below.refl _ _) (Nat.le_refl _) (by simp) ?_; (case hd => rfl); (case hg => rfl); (case hr => go_simp; done); (case hp => exact (Reps.one (show Kd.M (Kd.int .i64) _ _ _ (rd l0 0) [.int .i64 (rd l0 0)] from rfl) (Reps.one (show Kd.M (Kd.int .i64) _ _ _ (wrap64 ((rd l0 1) - 1)) [.int .i64 (wrap64 ((rd l0 1) - 1))] from rfl) (Reps.none _ _))))
        intro v239 w22 ho23 hb hg_ hnew_
        clear hg_ hnew_
        (rw [← Ny238.out] at ho23)
        have HO240 := am (Kd.R_lower ho23 (below_size HB.out))
        replace HB := am (below_step HB.out hb)
        clear hb ho23
        refine hK.out _ _ ⟨((HB.out.cell (World.block_lt_of_cell? w _ hw236_0)).trans hw236_0), ((HB.out.cell (World.block_lt_of_cell? w _ hw237_0)).trans hw237_0)⟩ (fun hHeld => ?_)
        clear hK K
        refine nm_ 36 ?_
        refine pu_ 8 4 (fl_ 9 511) HT_ ?_
        refine done_ (done_of HT_.out (by kernel_rfl)) ?_
        try go_wp2
        go_ret
        exact ⟨_, by rfl, by (with_reducible skip); exact HO240.out, by exact HB.out⟩
       ·rw [if_neg c20] at H
        exact absurd H (by simp)
      ·rw [if_neg c19] at H
       exact absurd H (by simp)
     ·rw [if_neg c18] at H
      have c18b0 : ((bt (⟨#[101, 110, 115, 119]⟩ : ByteArray) a1) == 115) = false := beq_eq_false_iff_ne.mpr c18
      have c18b1 : ((bt (⟨#[101, 110, 115, 119]⟩ : ByteArray) a1) != 115) = true := bne_iff_ne.mpr c18
      by_cases c24 : 0 < (l0.length : Int)
      ·rw [if_pos c24] at H
       have c24b0 : decide (0 < (l0.length : Int)) = true := decide_eq_true c24
       have c24b1 : decide (0 < l0.length) = true := decide_eq_true (by omega)
       clear c24
       by_cases c25 : 1 < (l0.length : Int)
       ·rw [if_pos c25] at H
        have c25b0 : decide (1 < (l0.length : Int)) = true := decide_eq_true c25
        have c25b1 : decide (1 < l0.length) = true := decide_eq_true (by omega)
        clear c25
        obtain ⟨y243, hy243⟩ : ∃ y_ : List Int, y_ = (([wrap64 ((rd l0 0) - 1), rd l0 1] : List Int)) := ⟨_, rfl⟩
        rw [← hy243] at H
        have Ny243 := am hy243
        clear hy243
        obtain rfl := Option.some.inj H
        have p5 : 0 ≤ (a1 : Int) := of_decide_eq_true (by with_reducible assumption)
        have q5 : a1 < (4 : Int) := of_decide_eq_true (by with_reducible assumption)
        have hx5 := bt_at (⟨#[101, 110, 115, 119]⟩ : ByteArray) a1
        replace p5 := eq_true p5
        replace q5 := eq_true q5
        go_enter Try.func59, Try.ntmps59
        try go_wp2
        replace HB := am (below_drew1 HB.out)
        have p241 : 0 ≤ (0 : Int) := (by omega)
        have q241 : 0 < (l0.length : Int) := of_decide_eq_true (by with_reducible assumption)
        obtain ⟨ad241, e241, hx241_0⟩ := Kd.at_int HR0.out 0 p241 q241
        have hw241_0 := hx241_0
        (try rw [show ((0 : Int)).toNat = 0 from rfl] at hw241_0)
        (try rw [Addr.add_zero'] at hw241_0)
        cases e241
        have qi241 : (0 < l0.length) = True := eq_true (by omega)
        (try rw [show ((0 : Int)).toNat = 0 from rfl] at hx241_0)
        (try rw [Addr.add_zero'] at hx241_0)
        replace hx241_0 := (HB.out.cell (World.block_lt_of_cell? w _ hx241_0)).trans hx241_0
        replace p241 := eq_true p241
        replace q241 := eq_true q241
        have p242 : 0 ≤ (1 : Int) := (by omega)
        have q242 : 1 < (l0.length : Int) := of_decide_eq_true (by with_reducible assumption)
        obtain ⟨ad242, e242, hx242_0⟩ := Kd.at_int HR0.out 1 p242 q242
        have hw242_0 := hx242_0
        (try rw [show ((1 : Int)).toNat = 1 from rfl] at hw242_0)
        (try simp only [Nat.reduceMul, Nat.reduceEqDiff, Go.Addr.add, ↓reduceIte] at hw242_0)
        obtain rfl : ad241 = ad242 := (by injection e242)
        (try simp only [show (1 : Int).toNat = 1 from rfl, Nat.reduceMul, Nat.reduceEqDiff, Go.Addr.add, ↓reduceIte] at hx242_0)
        have qi242 : (1 < l0.length) = True := eq_true (by omega)
        replace hx242_0 := (HB.out.cell (World.block_lt_of_cell? w _ hx242_0)).trans hx242_0
        replace p242 := eq_true p242
        replace q242 := eq_true q242
        refine start_ (n := 9) (S := fun w' => w'.cell? ad241 = some (.int .i64 (rd l0 0)) ∧ w'.cell? ⟨ad241.block, ad241.off + 1, none⟩ = some (.int .i64 (rd l0 1))) (ds := []) #[false, false, false, false, false, false, false, false, false] (by kernel_rfl) rfl rfl ⟨((HB.out.cell (World.block_lt_of_cell? w _ hw241_0)).trans hw241_0), ((HB.out.cell (World.block_lt_of_cell? w _ hw242_0)).trans hw242_0)⟩ (fun hHeld => ?_); refine with_tabW impl_moved.tab8 impl_moved.bits8 (fun HT_ HW_ => ?_)
        generalize w.drew = w26 at HB hx241_0 hx242_0 hHeld ⊢
        refine pu_ 0 37 (fl_ 9 1) HT_ ?_
        refine pu_ 1 38 (fl_ 9 3) HT_ ?_
        refine pu_ 4 41 (fl_ 9 19) HT_ ?_
        refine pu_ 5 42 (fl_ 9 51) HT_ ?_
        refine tk_ 2 39 (fl_ 9 55) HT_ HW_ hHeld ?_ (hy := by rintro w' ⟨s0, s1⟩; go_simp; with_reducible rfl)
        refine pu_ 3 40 (fl_ 9 63) HT_ ?_
        refine tk_ 6 43 (fl_ 9 127) HT_ HW_ hHeld ?_ (hy := by rintro w' ⟨s0, s1⟩; go_simp; with_reducible rfl)
        refine on_ 7 44 (fl_ 9 255) HT_ fun K hK => ?_
        refine Kd.R_lit_step (Kd.int .i64) _ 3 ?hg (N := 44) ?hd (xs := ([wrap64 ((rd l0 0) - 1), rd l0 1] : List Int)) (inner := [.int .i64 (wrap64 ((rd l0 0) - 1)), .int .i64 (rd l0 1)]) (ok := fun _ => True) (okp := fun _ => True) ?hr ?hp (fun _ hk => hk) trivial (Below.refl _ _) (Nat.le_refl _) (by simp) ?_; (case hd => rfl); (case hg => rfl); (case hr => go_simp; done); (case hp => exact (Reps.one (show Kd.M (Kd.int .i64) _ _ _ (wrap64 ((rd l0 0) - 1)) [.int .i64 (wrap64 ((rd l0 0) - 1))] from rfl) (Reps.one (show Kd.M (Kd.int .i64) _ _ _ (rd l0 1) [.int .i64 (rd l0 1)] from rfl) (Reps.none _ _))))
        intro v244 w27 ho28 hb hg_ hnew_
        clear hg_ hnew_
        (rw [← Ny243.out] at ho28)
        have HO245 := am (Kd.R_lower ho28 (below_size HB.out))
        replace HB := am (below_step HB.out hb)
        clear hb ho28
        refine hK.out _ _ ⟨((HB.out.cell (World.block_lt_of_cell? w _ hw241_0)).trans hw241_0), ((HB.out.cell (World.block_lt_of_cell? w _ hw242_0)).trans hw242_0)⟩ (fun hHeld => ?_)
        clear hK K
        refine nm_ 44 ?_
        refine pu_ 8 4 (fl_ 9 511) HT_ ?_
        refine done_ (done_of HT_.out (by kernel_rfl)) ?_
        try go_wp2
        go_ret
        exact ⟨_, by rfl, by (with_reducible skip); exact HO245.out, by exact HB.out⟩
       ·rw [if_neg c25] at H
        exact absurd H (by simp)
      ·rw [if_neg c24] at H
       exact absurd H (by simp)
  ·rw [if_neg c4] at H
   exact absurd H (by simp)
 ·rw [if_neg c3] at H
  exact absurd H (by simp)
end Go.Proofs.Ytdhdkkhbgfcoiaa.MX
