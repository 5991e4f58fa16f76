-- The machine side, written by this repo's program mp.py; contracts marked as of this repo are this session's own.
import Derived.Test.YtdhdkkhbgfcoiaaMXx0
import Derived.Test.YtdhdkkhbgfcoiaaMXx3
import Derived.Test.YtdhdkkhbgfcoiaaMXx4
namespace Go.Proofs.Ytdhdkkhbgfcoiaa.MX
open Go.RowKit Go.Proofs.YtdhdkkhbgfcoiaaW.PrintWords Go.Proofs.YtdhdkkhbgfcoiaaW.PrintLast Go.Proofs.YtdhdkkhbgfcoiaaW.PrintMore
attribute [local go_sem] max2_int min2_int max_two min_two max_three min_three max_four min_four   -- for this text's walks alone
set_option maxHeartbeats 8000000
set_option maxRecDepth 100000
set_option linter.unusedVariables false
set_option linter.unusedSimpArgs false
def impl_driveIn.sg (n : Nat) : Int := if n = 0 then 101 else if n = 1 then 110 else if n = 2 then 115 else 119
def impl_driveIn.dx (n : Nat) : Int := if n = 0 then 1 else if n = 3 then -1 else 0
def impl_driveIn.dy (n : Nat) : Int := if n = 1 then 1 else if n = 2 then -1 else 0
def impl_driveIn.can (s a : ByteArray) (x y : Int) (n : Nat) : Bool := decide ((0 ≤ x + impl_driveIn.dx n ∧ x + impl_driveIn.dx n ≤ (a.size : Int) - 1) ∧ (0 ≤ y + impl_driveIn.dy n ∧ y + impl_driveIn.dy n ≤ (s.size : Int) - 1)) && (decide (impl_driveIn.sg n = bt s y) || decide (impl_driveIn.sg n = bt a x))
def impl_driveIn.Sized (s a : ByteArray) : Prop := (1 ≤ a.size ∧ a.size ≤ 8) ∧ (1 ≤ s.size ∧ s.size ≤ 8)
instance (s a : ByteArray) : Decidable (impl_driveIn.Sized s a) := by unfold impl_driveIn.Sized; infer_instance
def impl_driveIn.At (s a : ByteArray) (x y : Int) : Prop := (0 ≤ x ∧ x < (a.size : Int)) ∧ (0 ≤ y ∧ y < (s.size : Int))
instance (s a : ByteArray) (x y : Int) : Decidable (impl_driveIn.At s a x y) := by unfold impl_driveIn.At; infer_instance
theorem impl_driveIn.moved (x y : Int) (n : Nat) (hn : n ≤ 3) (hx : 0 ≤ x ∧ x < 8) (hy : 0 ≤ y ∧ y < 8) : impl_moved.f [x, y] n = some [x + impl_driveIn.dx n, y + impl_driveIn.dy n] := by
 have w1 : wrap64 (x + 1) = x + 1 := by unfold wrap64; omega
 have w2 : wrap64 (x - 1) = x + -1 := by unfold wrap64; omega
 have w3 : wrap64 (y + 1) = y + 1 := by unfold wrap64; omega
 have w4 : wrap64 (y - 1) = y + -1 := by unfold wrap64; omega
 have r0 : rd [x, y] 0 = x := rfl
 have r1 : rd [x, y] 1 = y := rfl
 have b0 : bt (⟨#[101, 110, 115, 119]⟩ : ByteArray) 0 = 101 := rfl
 have b1 : bt (⟨#[101, 110, 115, 119]⟩ : ByteArray) 1 = 110 := rfl
 have b2 : bt (⟨#[101, 110, 115, 119]⟩ : ByteArray) 2 = 115 := rfl
 have b3 : bt (⟨#[101, 110, 115, 119]⟩ : ByteArray) 3 = 119 := rfl
 have c : n = 0 ∨ n = 1 ∨ n = 2 ∨ n = 3 := by omega
 rcases c with rfl | rfl | rfl | rfl
 ·show impl_moved.f [x, y] 0 = _
  unfold impl_moved.f
  simp [r0, r1, w1, impl_driveIn.dx, impl_driveIn.dy, b0, b1, b2, b3]
 ·show impl_moved.f [x, y] 1 = _
  unfold impl_moved.f
  simp [r0, r1, w3, impl_driveIn.dx, impl_driveIn.dy, b0, b1, b2, b3]
 ·show impl_moved.f [x, y] 2 = _
  unfold impl_moved.f
  simp [r0, r1, w4, impl_driveIn.dx, impl_driveIn.dy, b0, b1, b2, b3]
 ·show impl_moved.f [x, y] 3 = _
  unfold impl_moved.f
  simp [r0, r1, w2, impl_driveIn.dx, impl_driveIn.dy, b0, b1, b2, b3]
theorem impl_driveIn.within (a b c : Int) : impl_within.f a b c = some (decide (b ≤ a ∧ a ≤ c)) := by
 unfold impl_within.f
 by_cases h : a ≥ b
 ·rw [if_pos h]; simp [show b ≤ a from h]
 ·rw [if_neg h]; simp [show ¬ b ≤ a from h]
theorem impl_driveIn.bt_k (s : ByteArray) (k : Nat) (h : k < s.size) : bt s (k : Int) = ((s[k].toNat : Nat) : Int) := by simp [bt, h]
theorem impl_driveIn.clo (s a : ByteArray) (hs : impl_driveIn.Sized s a) (p : Nat) (A : Option Addr) (c : Nat) (x y : Int) (n : Nat) (hn : n ≤ 3) (w : World) (hr : Kd.C (Kd.int .i64) w A 2 [x, y]) (hc : 2 ≤ c) (ha : impl_driveIn.At s a x y) (hp : w.heap[p]? = some (.cells #[.string s, .string a] 25 (0, 0))) :
  Calls Try.prog 60 #[.slice A 2 c, .int .i64 n, .pointer (some ⟨p, 0, none⟩)] w fun e w' => e = .returned (.bool (impl_driveIn.can s a x y n)) ∧ Below w.heap.size w w' := by
 obtain ⟨⟨a1, a8⟩, s1, s8⟩ := hs
 obtain ⟨⟨x0, x9⟩, y0, y9⟩ := ha
 have HM := am (impl_driveIn.moved x y n hn (by omega) (by omega))
 have hc0 : w.cell? ⟨p, 0, none⟩ = some (.string s) := (blk_cell hp 0).trans rfl
 have hc1 : w.cell? ⟨p, 1, none⟩ = some (.string a) := (blk_cell hp 1).trans rfl
 have HR := am hr
 obtain ⟨ad, hA, hx0⟩ := Kd.at_int HR.out 0 (by omega) (by omega)
 obtain ⟨ad1, hA1, hx1⟩ := Kd.at_int HR.out 1 (by omega) (by omega)
 subst hA
 obtain rfl : ad = ad1 := by injection hA1
 rw [show (0 : Int).toNat = 0 from rfl, Addr.add_zero', show rd [x, y] 0 = x from rfl] at hx0
 rw [show rd [x, y] 1 = y from rfl] at hx1
 simp only [show (1 : Int).toNat = 1 from rfl, Nat.reduceMul, Nat.reduceEqDiff, Go.Addr.add, ↓reduceIte] at hx1
 have C0 := am hc0
 have C1 := am hc1
 have X0 := am hx0
 have X1 := am hx1
 clear hr hp hc0 hc1 hx0 hx1 hA1
 have W0 := am (impl_driveIn.within (x + impl_driveIn.dx n) 0 ((a.size : Int) - 1))
 have W1 := am (impl_driveIn.within (y + impl_driveIn.dy n) 0 ((s.size : Int) - 1))
 obtain ⟨b0, e0⟩ : ∃ b, b = decide (0 ≤ x + impl_driveIn.dx n ∧ x + impl_driveIn.dx n ≤ (a.size : Int) - 1) := ⟨_, rfl⟩
 obtain ⟨b1, e1⟩ : ∃ b, b = decide (0 ≤ y + impl_driveIn.dy n ∧ y + impl_driveIn.dy n ≤ (s.size : Int) - 1) := ⟨_, rfl⟩
 have ec : impl_driveIn.can s a x y n = (b0 && b1 && (decide (impl_driveIn.sg n = bt s y) || decide (impl_driveIn.sg n = bt a x))) := by
  unfold impl_driveIn.can
  rw [e0, e1, Bool.decide_and]
 rw [ec]
 rw [← e0] at W0
 rw [← e1] at W1
 clear ec e0 e1
 cases b0 with
 | false =>
  go_enter Try.func60, Try.ntmps60
  go_wp2_with (go_at_call 59; refine (impl_moved.calls _ _ [x, y] (n : Int) _ _ HR.out hc HM.out).mono ?_; rintro e w1 ⟨v0, rfl, hR, hB⟩; obtain ⟨A2, c2, e2⟩ := Kd.R_slice hR; rw [show ([x + impl_driveIn.dx n, y + impl_driveIn.dy n] : List Int).length = 2 from rfl] at e2; subst e2; have hC2 := (Kd.R_reads' hR).2.2; rw [show ([x + impl_driveIn.dx n, y + impl_driveIn.dy n] : List Int).length = 2 from rfl] at hC2; have hl2 := (Kd.R_reads' hR).2.1; obtain ⟨ad2, hA2, hu0⟩ := Kd.at_int hC2 0 (by omega) (by omega); obtain ⟨ad3, hA3, hu1⟩ := Kd.at_int hC2 1 (by omega) (by omega); subst hA2; obtain rfl : ad2 = ad3 := (by injection hA3); rw [show (0 : Int).toNat = 0 from rfl, Addr.add_zero', show rd [x + impl_driveIn.dx n, y + impl_driveIn.dy n] 0 = x + impl_driveIn.dx n from rfl] at hu0; rw [show rd [x + impl_driveIn.dx n, y + impl_driveIn.dy n] 1 = y + impl_driveIn.dy n from rfl] at hu1; simp only [show (1 : Int).toNat = 1 from rfl, Nat.reduceMul, Nat.reduceEqDiff, Go.Addr.add, ↓reduceIte] at hu1; have hc0 := (hB.cell (World.block_lt_of_cell? _ _ C0.out)).trans C0.out; have hc1 := (hB.cell (World.block_lt_of_cell? _ _ C1.out)).trans C1.out; have hx0 := (hB.cell (World.block_lt_of_cell? _ _ X0.out)).trans X0.out; have hx1 := (hB.cell (World.block_lt_of_cell? _ _ X1.out)).trans X1.out; have HB := am hB; clear hB hR hC2 hA3)
  go_quiet ((go_at_call 61; (with_reducible refine (impl_within.calls (x + impl_driveIn.dx n) 0 ((a.size : Int) - 1) false _ W0.out).mono ?_); rintro e w' ⟨rfl, ⟨nd, rfl⟩⟩; exact ⟨rfl, _, World.drewN_drewN _ _ _⟩))
  go_wp2
  go_ret
  exact ⟨by simp, pw_below_drewN HB.out _⟩
 | true =>
  cases b1 with
  | false =>
   go_enter Try.func60, Try.ntmps60
   go_wp2_with (go_at_call 59; refine (impl_moved.calls _ _ [x, y] (n : Int) _ _ HR.out hc HM.out).mono ?_; rintro e w1 ⟨v0, rfl, hR, hB⟩; obtain ⟨A2, c2, e2⟩ := Kd.R_slice hR; rw [show ([x + impl_driveIn.dx n, y + impl_driveIn.dy n] : List Int).length = 2 from rfl] at e2; subst e2; have hC2 := (Kd.R_reads' hR).2.2; rw [show ([x + impl_driveIn.dx n, y + impl_driveIn.dy n] : List Int).length = 2 from rfl] at hC2; have hl2 := (Kd.R_reads' hR).2.1; obtain ⟨ad2, hA2, hu0⟩ := Kd.at_int hC2 0 (by omega) (by omega); obtain ⟨ad3, hA3, hu1⟩ := Kd.at_int hC2 1 (by omega) (by omega); subst hA2; obtain rfl : ad2 = ad3 := (by injection hA3); rw [show (0 : Int).toNat = 0 from rfl, Addr.add_zero', show rd [x + impl_driveIn.dx n, y + impl_driveIn.dy n] 0 = x + impl_driveIn.dx n from rfl] at hu0; rw [show rd [x + impl_driveIn.dx n, y + impl_driveIn.dy n] 1 = y + impl_driveIn.dy n from rfl] at hu1; simp only [show (1 : Int).toNat = 1 from rfl, Nat.reduceMul, Nat.reduceEqDiff, Go.Addr.add, ↓reduceIte] at hu1; have hc0 := (hB.cell (World.block_lt_of_cell? _ _ C0.out)).trans C0.out; have hc1 := (hB.cell (World.block_lt_of_cell? _ _ C1.out)).trans C1.out; have hx0 := (hB.cell (World.block_lt_of_cell? _ _ X0.out)).trans X0.out; have hx1 := (hB.cell (World.block_lt_of_cell? _ _ X1.out)).trans X1.out; have HB := am hB; clear hB hR hC2 hA3)
   go_quiet (first | (go_at_call 61; (with_reducible refine (impl_within.calls (x + impl_driveIn.dx n) 0 ((a.size : Int) - 1) true _ W0.out).mono ?_); rintro e w' ⟨rfl, ⟨nd, rfl⟩⟩; exact ⟨rfl, _, World.drewN_drewN _ _ _⟩) | (go_at_call 61; (with_reducible refine (impl_within.calls (y + impl_driveIn.dy n) 0 ((s.size : Int) - 1) false _ W1.out).mono ?_); rintro e w' ⟨rfl, ⟨nd, rfl⟩⟩; exact ⟨rfl, _, World.drewN_drewN _ _ _⟩))
   go_wp2
   go_ret
   exact ⟨by simp, pw_below_drewN HB.out _⟩
  | true =>
   obtain ⟨mx, rfl⟩ := Int.eq_ofNat_of_zero_le x0
   obtain ⟨my, rfl⟩ := Int.eq_ofNat_of_zero_le y0
   have hmx : mx < a.size := by omega
   have hmy : my < s.size := by omega
   rw [impl_driveIn.bt_k s my hmy, impl_driveIn.bt_k a mx hmx]
   go_enter Try.func60, Try.ntmps60
   go_wp2_with (go_at_call 59; refine (impl_moved.calls _ _ [(mx : Int), (my : Int)] (n : Int) _ _ HR.out hc HM.out).mono ?_; rintro e w1 ⟨v0, rfl, hR, hB⟩; obtain ⟨A2, c2, e2⟩ := Kd.R_slice hR; rw [show ([(mx : Int) + impl_driveIn.dx n, (my : Int) + impl_driveIn.dy n] : List Int).length = 2 from rfl] at e2; subst e2; have hC2 := (Kd.R_reads' hR).2.2; rw [show ([(mx : Int) + impl_driveIn.dx n, (my : Int) + impl_driveIn.dy n] : List Int).length = 2 from rfl] at hC2; have hl2 := (Kd.R_reads' hR).2.1; obtain ⟨ad2, hA2, hu0⟩ := Kd.at_int hC2 0 (by omega) (by omega); obtain ⟨ad3, hA3, hu1⟩ := Kd.at_int hC2 1 (by omega) (by omega); subst hA2; obtain rfl : ad2 = ad3 := (by injection hA3); rw [show (0 : Int).toNat = 0 from rfl, Addr.add_zero', show rd [(mx : Int) + impl_driveIn.dx n, (my : Int) + impl_driveIn.dy n] 0 = (mx : Int) + impl_driveIn.dx n from rfl] at hu0; rw [show rd [(mx : Int) + impl_driveIn.dx n, (my : Int) + impl_driveIn.dy n] 1 = (my : Int) + impl_driveIn.dy n from rfl] at hu1; simp only [show (1 : Int).toNat = 1 from rfl, Nat.reduceMul, Nat.reduceEqDiff, Go.Addr.add, ↓reduceIte] at hu1; have hc0 := (hB.cell (World.block_lt_of_cell? _ _ C0.out)).trans C0.out; have hc1 := (hB.cell (World.block_lt_of_cell? _ _ C1.out)).trans C1.out; have hx0 := (hB.cell (World.block_lt_of_cell? _ _ X0.out)).trans X0.out; have hx1 := (hB.cell (World.block_lt_of_cell? _ _ X1.out)).trans X1.out; have HB := am hB; clear hB hR hC2 hA3)
   go_quiet (first | (go_at_call 61; (with_reducible refine (impl_within.calls ((mx : Int) + impl_driveIn.dx n) 0 ((a.size : Int) - 1) true _ W0.out).mono ?_); rintro e w' ⟨rfl, ⟨nd, rfl⟩⟩; exact ⟨rfl, _, World.drewN_drewN _ _ _⟩) | (go_at_call 61; (with_reducible refine (impl_within.calls ((my : Int) + impl_driveIn.dy n) 0 ((s.size : Int) - 1) true _ W1.out).mono ?_); rintro e w' ⟨rfl, ⟨nd, rfl⟩⟩; exact ⟨rfl, _, World.drewN_drewN _ _ _⟩))
   go_wp2
   have cn : n = 0 ∨ n = 1 ∨ n = 2 ∨ n = 3 := by omega
   rcases cn with rfl | rfl | rfl | rfl
   ·have sg : impl_driveIn.sg 0 = 101 := rfl
    by_cases q : (101 : Int) = ((s[my].toNat : Nat) : Int)
    ·have q1 : ((101 : Int) == ((s[my].toNat : Nat) : Int)) = true := beq_iff_eq.2 q
     have q3 : ((((⟨#[101, 110, 115, 119]⟩ : ByteArray)[0]'(by decide)).toNat : Int) == ((s[my].toNat : Nat) : Int)) = true := q1
     have q2 : decide ((101 : Int) = ((s[my].toNat : Nat) : Int)) = true := decide_eq_true q
     go_quiet (fail)
     go_wp2
     go_ret
     exact ⟨by (simp [sg, q2]; done), pw_below_drewN (pw_below_drewN HB.out _) _⟩
    ·have q1 : ((101 : Int) == ((s[my].toNat : Nat) : Int)) = false := beq_eq_false_iff_ne.2 q
     have q3 : ((((⟨#[101, 110, 115, 119]⟩ : ByteArray)[0]'(by decide)).toNat : Int) == ((s[my].toNat : Nat) : Int)) = false := q1
     have q2 : decide ((101 : Int) = ((s[my].toNat : Nat) : Int)) = false := decide_eq_false q
     go_quiet (fail)
     go_wp2
     go_ret
     exact ⟨by (simp [sg, q2]; rfl), pw_below_drewN (pw_below_drewN HB.out _) _⟩
   ·have sg : impl_driveIn.sg 1 = 110 := rfl
    by_cases q : (110 : Int) = ((s[my].toNat : Nat) : Int)
    ·have q1 : ((110 : Int) == ((s[my].toNat : Nat) : Int)) = true := beq_iff_eq.2 q
     have q3 : ((((⟨#[101, 110, 115, 119]⟩ : ByteArray)[1]'(by decide)).toNat : Int) == ((s[my].toNat : Nat) : Int)) = true := q1
     have q2 : decide ((110 : Int) = ((s[my].toNat : Nat) : Int)) = true := decide_eq_true q
     go_quiet (fail)
     go_wp2
     go_ret
     exact ⟨by (simp [sg, q2]; done), pw_below_drewN (pw_below_drewN HB.out _) _⟩
    ·have q1 : ((110 : Int) == ((s[my].toNat : Nat) : Int)) = false := beq_eq_false_iff_ne.2 q
     have q3 : ((((⟨#[101, 110, 115, 119]⟩ : ByteArray)[1]'(by decide)).toNat : Int) == ((s[my].toNat : Nat) : Int)) = false := q1
     have q2 : decide ((110 : Int) = ((s[my].toNat : Nat) : Int)) = false := decide_eq_false q
     go_quiet (fail)
     go_wp2
     go_ret
     exact ⟨by (simp [sg, q2]; rfl), pw_below_drewN (pw_below_drewN HB.out _) _⟩
   ·have sg : impl_driveIn.sg 2 = 115 := rfl
    by_cases q : (115 : Int) = ((s[my].toNat : Nat) : Int)
    ·have q1 : ((115 : Int) == ((s[my].toNat : Nat) : Int)) = true := beq_iff_eq.2 q
     have q3 : ((((⟨#[101, 110, 115, 119]⟩ : ByteArray)[2]'(by decide)).toNat : Int) == ((s[my].toNat : Nat) : Int)) = true := q1
     have q2 : decide ((115 : Int) = ((s[my].toNat : Nat) : Int)) = true := decide_eq_true q
     go_quiet (fail)
     go_wp2
     go_ret
     exact ⟨by (simp [sg, q2]; done), pw_below_drewN (pw_below_drewN HB.out _) _⟩
    ·have q1 : ((115 : Int) == ((s[my].toNat : Nat) : Int)) = false := beq_eq_false_iff_ne.2 q
     have q3 : ((((⟨#[101, 110, 115, 119]⟩ : ByteArray)[2]'(by decide)).toNat : Int) == ((s[my].toNat : Nat) : Int)) = false := q1
     have q2 : decide ((115 : Int) = ((s[my].toNat : Nat) : Int)) = false := decide_eq_false q
     go_quiet (fail)
     go_wp2
     go_ret
     exact ⟨by (simp [sg, q2]; rfl), pw_below_drewN (pw_below_drewN HB.out _) _⟩
   ·have sg : impl_driveIn.sg 3 = 119 := rfl
    by_cases q : (119 : Int) = ((s[my].toNat : Nat) : Int)
    ·have q1 : ((119 : Int) == ((s[my].toNat : Nat) : Int)) = true := beq_iff_eq.2 q
     have q3 : ((((⟨#[101, 110, 115, 119]⟩ : ByteArray)[3]'(by decide)).toNat : Int) == ((s[my].toNat : Nat) : Int)) = true := q1
     have q2 : decide ((119 : Int) = ((s[my].toNat : Nat) : Int)) = true := decide_eq_true q
     go_quiet (fail)
     go_wp2
     go_ret
     exact ⟨by (simp [sg, q2]; done), pw_below_drewN (pw_below_drewN HB.out _) _⟩
    ·have q1 : ((119 : Int) == ((s[my].toNat : Nat) : Int)) = false := beq_eq_false_iff_ne.2 q
     have q3 : ((((⟨#[101, 110, 115, 119]⟩ : ByteArray)[3]'(by decide)).toNat : Int) == ((s[my].toNat : Nat) : Int)) = false := q1
     have q2 : decide ((119 : Int) = ((s[my].toNat : Nat) : Int)) = false := decide_eq_false q
     go_quiet (fail)
     go_wp2
     go_ret
     exact ⟨by (simp [sg, q2]; rfl), pw_below_drewN (pw_below_drewN HB.out _) _⟩
theorem impl_driveIn.made (s a : ByteArray) (w : World) :
  Calls Try.prog 32 #[.agg #[.string s, .string a]] w fun e w' => e = .returned (.func (.func 60) #[] #[.pointer (some ⟨w.heap.size, 0, none⟩)]) ∧ w' = w.alloc (.cells #[.string s, .string a] 25) := by
 have hmf : ∀ (fn : Fn) (first cap : Array Value) (w : World), (Instr.makeFunc fn first cap).run Try.prog w = .ok (.func fn first cap) w := fun _ _ _ _ => rfl
 go_enter Try.func32, Try.ntmps32
 go_wp2
 go_ret
 exact ⟨rfl, rfl⟩
theorem impl_driveIn.clo' (s a : ByteArray) (hs : impl_driveIn.Sized s a) (p : Nat) (A : Option Addr) (c : Nat) (l : List Int) (hl : l.length = 2) (n : Nat) (hn : n ≤ 3) (w : World) (hr : Kd.C (Kd.int .i64) w A l.length l) (hc : l.length ≤ c) (ha : impl_driveIn.At s a (rd l 0) (rd l 1)) (hp : w.heap[p]? = some (.cells #[.string s, .string a] 25 (0, 0))) :
  Calls Try.prog 60 #[.slice A l.length c, .int .i64 n, .pointer (some ⟨p, 0, none⟩)] w fun e w' => e = .returned (.bool (impl_driveIn.can s a (rd l 0) (rd l 1) n)) ∧ Below w.heap.size w w' := by
 match l, hl with
 | [x, y], _ => exact impl_driveIn.clo s a hs p A c x y n hn w hr hc ha hp
def impl_driveIn.f (s a : ByteArray) : Option (ByteArray × ByteArray) := some (s, a)
theorem impl_driveIn.calls (s a : ByteArray) (r : ByteArray × ByteArray) (w : World) (h : impl_driveIn.f s a = some r) :
  Calls Try.prog 32 #[.agg #[.string s, .string a]] w fun e w' => ∃ p, e = .returned (.func (.func 60) #[] #[.pointer (some ⟨p, 0, none⟩)]) ∧ w'.heap[p]? = some (.cells #[.string r.1, .string r.2] 25 (0, 0)) ∧ Below w.heap.size w w' := by
 obtain rfl := Option.some.inj h
 refine (impl_driveIn.made s a w).mono ?_
 rintro e w' ⟨rfl, rfl⟩
 exact ⟨_, rfl, heap_alloc_new _ _, below_alloc (Below.refl _ _) _⟩
def slices_Repeat_int_int.Row (w : World) (g n k : Nat) (x : Int) : Prop := ∃ cur : Array Value, w.heap[g]? = some (.cells cur 3 (0, 0)) ∧ cur.size = n ∧ ∀ j, j < k → cur[j]? = some (.int .i64 x)
theorem slices_Repeat_int_int.copy (w : World) (g n k m : Nat) (x : Int) (a : Addr) (sl sc : Nat) (dc : Nat) (hk : k + m ≤ n) (hm : m = Nat.min sl (n - k)) (hR : slices_Repeat_int_int.Row w g n k x) (hs : ∀ j, j < m → w.cell? (a.add j) = some (.int .i64 x)) :
  ∃ w', (Builtin.copy_ #[26, 26] 3 #[.slice (some ⟨g, k, none⟩) (n - k) dc, .slice (some a) sl sc]).run Try.prog w = .ok (.int .i64 m) w' ∧ slices_Repeat_int_int.Row w' g n (k + m) x ∧ (∀ B, B ≤ g → Below B w w') := by
 obtain ⟨cur, hg, hn, hc⟩ := hR
 have hinfo : (Try.prog.info? 3).map (·.size) = some 1 := by
  have := info3
  cases h : Try.prog.info? 3 with
  | none => rw [h] at this; simp at this
  | some i => rw [h] at this; simp at this; simp [this.2.1]
 have h := run_copy_row (P := Try.prog) w 26 26 3 3 g k (n - k) dc a sl sc cur 3 (List.replicate m (.int .i64 x)) Try.underlying26 hinfo hg (by simpa using hm) (fun j v hj => by
  have hjm : j < m := by have := (List.getElem?_eq_some_iff.1 hj).1; simpa using this
  rw [hs j hjm]
  rw [List.getElem?_replicate, if_pos hjm] at hj
  exact hj) (by simp; omega) (fun v hv => by rw [List.eq_of_mem_replicate hv]; rfl)
 rw [List.length_replicate] at h
 refine ⟨_, h, ⟨_, setRow_heap w g cur _ 3 _ hg, ?_, fun j hj => ?_⟩, fun B hB => ?_⟩
 ·simp; omega
 ·simp only [List.getElem?_toArray]
  by_cases c : j < k
  ·rw [List.append_assoc, List.getElem?_append_left (by simp; omega), List.getElem?_take, if_pos c]
   simpa using hc j c
  ·rw [List.append_assoc, List.getElem?_append_right (by simp; omega), List.getElem?_append_left (by simp; omega), List.getElem?_replicate, if_pos (by simp; omega)]
 ·exact below_setRow (Below.refl _ _) hB _
theorem slices_Repeat_int_int.one (A : Option Addr) (c : Nat) (x : Int) (n : Nat) (hn : 1 ≤ n ∧ n ≤ 1048576) (w : World) (hr : Kd.C (Kd.int .i64) w A 1 [x]) :
  Calls Try.prog 76 #[.slice A 1 c, .int .i64 n] w fun e w' => e = .returned (.slice (some ⟨w.heap.size, 0, none⟩) n n) ∧ slices_Repeat_int_int.Row w' w.heap.size n n x ∧ Below w.heap.size w w' := by
 have hneg : decide ((n : Int) < 0) = false := decide_eq_false (by omega)
 obtain ⟨ad, hA, hx⟩ := Kd.at_int hr 0 (by omega) (by omega)
 rw [show (0 : Int).toNat = 0 from rfl, Addr.add_zero', show rd [x] 0 = x from rfl] at hx
 subst hA
 clear hr
 obtain ⟨i0, hi, hz0, hz1, hz2⟩ := info_parts info3
 have hmk := run_makeSlice (P := Try.prog) (w := w) 26 3 i0 (.int .i64 0) Try.underlying26 hi hz0 .i64 .i64 (n : Int) (n : Int) (by omega) (Int.le_refl _) (by rw [hz1]; omega) (by rw [hz2]; omega) (by omega)
 rw [Int.toNat_natCast, hz1, Nat.mul_one] at hmk
 obtain ⟨w1, hw1⟩ : ∃ w1 : World, w1 = w.alloc (.cells (madeCells (Value.int .i64 0).cells n) 3) := ⟨_, rfl⟩
 rw [← hw1] at hmk
 have hR1 : slices_Repeat_int_int.Row w1 w.heap.size n 0 x := by
  rw [hw1]
  exact ⟨_, heap_alloc_new _ _, by rw [size_madeCells], fun j hj => by omega⟩
 have hB1 : Below w.heap.size w w1 := by rw [hw1]; exact below_alloc (Below.refl _ _) _
 have hx1 : w1.cell? ad = some (.int .i64 x) := (hB1.cell (World.block_lt_of_cell? _ _ hx)).trans hx
 obtain ⟨w2, hcp, hR2, hB2⟩ := slices_Repeat_int_int.copy w1 w.heap.size n 0 1 x ad 1 c n (by omega) (Nat.min_eq_left (by omega)).symm hR1 (fun j hj => by
  obtain rfl : j = 0 := by omega
  rw [Addr.add_zero']; exact hx1)
 rw [Nat.sub_zero] at hcp
 have HB := am (hB1.trans (hB2 _ (Nat.le_refl _)))
 have HR := am hR2
 clear hR1 hB1 hx1 hR2 hB2 hx hw1 hi hz0 hz1 hz2
 go_enter Try.func76, Try.ntmps76
 go_wp2_with (go_at_call 86; refine (Try.bits_Mul 1 n (by omega) (by omega) _).mono ?_; rintro e w' ⟨rfl, hw⟩; cases hw.symm; rw [Nat.one_mul, Nat.div_eq_of_lt (by omega), Nat.mod_eq_of_lt (by omega)])
 clear hcp hmk
 rw [Nat.zero_add] at HR
 go_loopw [8] (fun k wr => ∃ q : Nat, 1 ≤ q ∧ q ≤ n ∧ k = .int .i64 q ∧ Aside0 (slices_Repeat_int_int.Row wr w.heap.size n q x) ∧ Aside0 (Below w.heap.size w wr)) (fun k _ => n - (intOf k).toNat)
 case atStart => exact ⟨1, by omega, by omega, rfl, HR, HB⟩
 case round =>
  clear HR HB
  obtain ⟨q, q1, qn, rfl, HR, HB⟩ := hrel
  by_cases hlt : q < n
  ·obtain ⟨w2, hw2⟩ : ∃ w2 : World, wr.drew = w2 := ⟨_, rfl⟩
   have hR2 : slices_Repeat_int_int.Row w2 w.heap.size n q x := by rw [← hw2]; exact HR.out
   have hB2 : Below w.heap.size w w2 := by rw [← hw2]; exact below_drew1 HB.out
   obtain ⟨w3, hcp, hR3, hB3⟩ := slices_Repeat_int_int.copy w2 w.heap.size n q (Nat.min q (n - q)) x ⟨w.heap.size, 0, none⟩ q n (n - q) (by have h : Nat.min q (n - q) ≤ n - q := Nat.min_le_right q (n - q); omega) rfl hR2 (fun j hj => by
    obtain ⟨cur, h1, h2, h3⟩ := hR2
    have hjq : j < q := Nat.lt_of_lt_of_le hj (Nat.min_le_left _ _)
    rw [Addr.add_lit]
    simp only [World.cell?, h1]
    simpa using h3 j hjq)
   have HR3 := am hR3
   have HB3 := am (hB2.trans (hB3 _ (Nat.le_refl _)))
   have HM := am (show 1 ≤ Nat.min q (n - q) ∧ q + Nat.min q (n - q) ≤ n by
    have h : Nat.min q (n - q) ≤ n - q := Nat.min_le_right q (n - q)
    exact ⟨Nat.le_min.2 ⟨q1, by omega⟩, by omega⟩)
   have HCP := am hcp
   generalize Nat.min q (n - q) = m at HCP HR3 HM
   clear hcp hR3 hB3 hR2 hB2 HR HB
   have hcp1 := HCP.out
   rw [← hw2] at hcp1
   have hcp2 : (Builtin.copy_ #[26, 26] 3 #[.slice (if n = q then some ⟨w.heap.size, 0, none⟩ else some ⟨w.heap.size, q, none⟩) (n - q) (n - q), .slice (some ⟨w.heap.size, 0, none⟩) q n]).run Try.prog wr.drew = .ok (.int .i64 m) w3 := by rw [if_neg (by omega)]; exact hcp1
   clear hw2
   have hm := HM.out
   go_wp2
   go_region
   all_goals go_wp2
   go_roundw
   case rel => exact ⟨q + m, by omega, by omega, by go_num, HR3, HB3⟩
   case measure => simp [intOf]; omega
  ·obtain rfl : q = n := by omega
   clear hlt
   go_wp2
   go_ret
   exact ⟨rfl, HR.out, HB.out⟩
end Go.Proofs.Ytdhdkkhbgfcoiaa.MX
