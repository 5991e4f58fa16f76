-- The machine side, written by this repo's program mp.py; contracts marked as of this repo are this session's own.
import Derived.Test.YtopbmiedlpkmjaaMTx0
import Derived.Test.YtopbmiedlpkmjaaMTx3
import Derived.Test.YtopbmiedlpkmjaaMTx4
import Derived.Test.YtopbmiedlpkmjaaMTx5
namespace Go.Proofs.Ytopbmiedlpkmjaa.MT
open Go.RowKit Go.Proofs.YtopbmiedlpkmjaaW.PrintWords Go.Proofs.YtopbmiedlpkmjaaW.PrintLast Go.Proofs.YtopbmiedlpkmjaaW.PrintMore
attribute [local go_sem] max2_int min2_int max_two min_two max_three min_three max_four min_four   -- for this text's walks alone
set_option linter.unusedVariables false
set_option linter.unusedSimpArgs false

/-! ### impl_driveIn: function 47 (a contract of this repo) -/
/-- A sign by its index. -/
def impl_driveIn.sg (n : Nat) : Int := if n = 0 then 101 else if n = 1 then 110 else if n = 2 then 115 else 119
/-- The corner behind a block. -/
def impl_driveIn.dx (n : Nat) : Int := if n = 0 then 1 else if n = 3 then -1 else 0
def impl_driveIn.dy (n : Nat) : Int := if n = 1 then 1 else if n = 2 then -1 else 0
/-- Whether one can drive from a corner by a sign. -/
def impl_driveIn.can (s a : ByteArray) (x y : Int) (n : Nat) : Bool := decide ((0 ≤ x + impl_driveIn.dx n ∧ x + impl_driveIn.dx n ≤ (a.size : Int) - 1) ∧ (0 ≤ y + impl_driveIn.dy n ∧ y + impl_driveIn.dy n ≤ (s.size : Int) - 1)) && (decide (impl_driveIn.sg n = bt s y) || decide (impl_driveIn.sg n = bt a x))
/-- Ways of a size. -/
def impl_driveIn.Sized (s a : ByteArray) : Prop := (1 ≤ a.size ∧ a.size ≤ 8) ∧ (1 ≤ s.size ∧ s.size ≤ 8)
instance (s a : ByteArray) : Decidable (impl_driveIn.Sized s a) := by unfold impl_driveIn.Sized; infer_instance
/-- A corner. -/
def impl_driveIn.At (s a : ByteArray) (x y : Int) : Prop := (0 ≤ x ∧ x < (a.size : Int)) ∧ (0 ≤ y ∧ y < (s.size : Int))
instance (s a : ByteArray) (x y : Int) : Decidable (impl_driveIn.At s a x y) := by unfold impl_driveIn.At; infer_instance
theorem impl_driveIn.moved (x y : Int) (n : Nat) (hn : n ≤ 3) (hx : 0 ≤ x ∧ x < 8) (hy : 0 ≤ y ∧ y < 8) : impl_moved.f [x, y] n = some [x + impl_driveIn.dx n, y + impl_driveIn.dy n] := by
  have w1 : wrap64 (x + 1) = x + 1 := by unfold wrap64; omega
  have w2 : wrap64 (x - 1) = x + -1 := by unfold wrap64; omega
  have w3 : wrap64 (y + 1) = y + 1 := by unfold wrap64; omega
  have w4 : wrap64 (y - 1) = y + -1 := by unfold wrap64; omega
  have r0 : rd [x, y] 0 = x := rfl
  have r1 : rd [x, y] 1 = y := rfl
  have b0 : bt (⟨#[101, 110, 115, 119]⟩ : ByteArray) 0 = 101 := rfl
  have b1 : bt (⟨#[101, 110, 115, 119]⟩ : ByteArray) 1 = 110 := rfl
  have b2 : bt (⟨#[101, 110, 115, 119]⟩ : ByteArray) 2 = 115 := rfl
  have b3 : bt (⟨#[101, 110, 115, 119]⟩ : ByteArray) 3 = 119 := rfl
  have c : n = 0 ∨ n = 1 ∨ n = 2 ∨ n = 3 := by omega
  rcases c with rfl | rfl | rfl | rfl
  · show impl_moved.f [x, y] 0 = _
    unfold impl_moved.f
    simp [r0, r1, w1, impl_driveIn.dx, impl_driveIn.dy, b0, b1, b2, b3]
  · show impl_moved.f [x, y] 1 = _
    unfold impl_moved.f
    simp [r0, r1, w3, impl_driveIn.dx, impl_driveIn.dy, b0, b1, b2, b3]
  · show impl_moved.f [x, y] 2 = _
    unfold impl_moved.f
    simp [r0, r1, w4, impl_driveIn.dx, impl_driveIn.dy, b0, b1, b2, b3]
  · show impl_moved.f [x, y] 3 = _
    unfold impl_moved.f
    simp [r0, r1, w2, impl_driveIn.dx, impl_driveIn.dy, b0, b1, b2, b3]
theorem impl_driveIn.within (a b c : Int) : impl_within.f a b c = some (decide (b ≤ a ∧ a ≤ c)) := by
  unfold impl_within.f
  by_cases h : a ≥ b
  · rw [if_pos h]; simp [show b ≤ a from h]
  · rw [if_neg h]; simp [show ¬ b ≤ a from h]
theorem impl_driveIn.bt_k (s : ByteArray) (k : Nat) (h : k < s.size) : bt s (k : Int) = ((s[k].toNat : Nat) : Int) := by simp [bt, h]
set_option maxHeartbeats 8000000 in
set_option maxRecDepth 100000 in
theorem impl_driveIn.calls (s a : ByteArray) (hs : impl_driveIn.Sized s a) (p : Nat) (A : Option Addr) (c : Nat) (x y : Int) (n : Nat) (hn : n ≤ 3) (w : World) (hr : Kd.C (Kd.int .i64) w A 2 [x, y]) (hc : 2 ≤ c) (ha : impl_driveIn.At s a x y) (hp : w.heap[p]? = some (.cells #[.string s, .string a] 27 (0, 0))) :
    Calls Try.prog 71 #[.slice A 2 c, .int .i64 n, .pointer (some ⟨p, 0, none⟩)] w fun e w' => e = .returned (.bool (impl_driveIn.can s a x y n)) ∧ Below w.heap.size w w' := by
  obtain ⟨⟨a1, a8⟩, s1, s8⟩ := hs
  obtain ⟨⟨x0, x9⟩, y0, y9⟩ := ha
  have HM := Aside0.mk (impl_driveIn.moved x y n hn (by omega) (by omega))
  have hc0 : w.cell? ⟨p, 0, none⟩ = some (.string s) := (blk_cell hp 0).trans rfl
  have hc1 : w.cell? ⟨p, 1, none⟩ = some (.string a) := (blk_cell hp 1).trans rfl
  have HR := Aside0.mk hr
  obtain ⟨ad, hA, hx0⟩ := Kd.at_int HR.out 0 (by omega) (by omega)
  obtain ⟨ad1, hA1, hx1⟩ := Kd.at_int HR.out 1 (by omega) (by omega)
  subst hA
  obtain rfl : ad = ad1 := by injection hA1
  rw [show (0 : Int).toNat = 0 from rfl, Addr.add_zero', show rd [x, y] 0 = x from rfl] at hx0
  rw [show rd [x, y] 1 = y from rfl] at hx1
  simp only [show (1 : Int).toNat = 1 from rfl, Nat.reduceMul, Nat.reduceEqDiff, Go.Addr.add, ↓reduceIte] at hx1
  have C0 := Aside0.mk hc0
  have C1 := Aside0.mk hc1
  have X0 := Aside0.mk hx0
  have X1 := Aside0.mk hx1
  clear hr hp hc0 hc1 hx0 hx1 hA1
  have W0 := Aside0.mk (impl_driveIn.within (x + impl_driveIn.dx n) 0 ((a.size : Int) - 1))
  have W1 := Aside0.mk (impl_driveIn.within (y + impl_driveIn.dy n) 0 ((s.size : Int) - 1))
  obtain ⟨b0, e0⟩ : ∃ b, b = decide (0 ≤ x + impl_driveIn.dx n ∧ x + impl_driveIn.dx n ≤ (a.size : Int) - 1) := ⟨_, rfl⟩
  obtain ⟨b1, e1⟩ : ∃ b, b = decide (0 ≤ y + impl_driveIn.dy n ∧ y + impl_driveIn.dy n ≤ (s.size : Int) - 1) := ⟨_, rfl⟩
  have ec : impl_driveIn.can s a x y n = (b0 && b1 && (decide (impl_driveIn.sg n = bt s y) || decide (impl_driveIn.sg n = bt a x))) := by
    unfold impl_driveIn.can
    rw [e0, e1, Bool.decide_and]
  rw [ec]
  rw [← e0] at W0
  rw [← e1] at W1
  clear ec e0 e1
  cases b0 with
  | false =>
    go_enter Try.func71, Try.ntmps71
    go_wp2_with (go_at_call 70; refine (impl_moved.calls _ _ [x, y] (n : Int) _ _ HR.out hc HM.out).mono ?_; rintro e w1 ⟨v0, rfl, hR, hB⟩; obtain ⟨A2, c2, e2⟩ := Kd.R_slice hR; rw [show ([x + impl_driveIn.dx n, y + impl_driveIn.dy n] : List Int).length = 2 from rfl] at e2; subst e2; have hC2 := (Kd.R_reads' hR).2.2; rw [show ([x + impl_driveIn.dx n, y + impl_driveIn.dy n] : List Int).length = 2 from rfl] at hC2; have hl2 := (Kd.R_reads' hR).2.1; obtain ⟨ad2, hA2, hu0⟩ := Kd.at_int hC2 0 (by omega) (by omega); obtain ⟨ad3, hA3, hu1⟩ := Kd.at_int hC2 1 (by omega) (by omega); subst hA2; obtain rfl : ad2 = ad3 := (by injection hA3); rw [show (0 : Int).toNat = 0 from rfl, Addr.add_zero', show rd [x + impl_driveIn.dx n, y + impl_driveIn.dy n] 0 = x + impl_driveIn.dx n from rfl] at hu0; rw [show rd [x + impl_driveIn.dx n, y + impl_driveIn.dy n] 1 = y + impl_driveIn.dy n from rfl] at hu1; simp only [show (1 : Int).toNat = 1 from rfl, Nat.reduceMul, Nat.reduceEqDiff, Go.Addr.add, ↓reduceIte] at hu1; have hc0 := (hB.cell (World.block_lt_of_cell? _ _ C0.out)).trans C0.out; have hc1 := (hB.cell (World.block_lt_of_cell? _ _ C1.out)).trans C1.out; have hx0 := (hB.cell (World.block_lt_of_cell? _ _ X0.out)).trans X0.out; have hx1 := (hB.cell (World.block_lt_of_cell? _ _ X1.out)).trans X1.out; have HB := Aside0.mk hB; clear hB hR hC2 hA3)
    go_quiet (first | (go_at_call 72; (with_reducible refine (impl_within.calls (x + impl_driveIn.dx n) 0 ((a.size : Int) - 1) false _ W0.out).mono ?_); rintro e w' ⟨rfl, ⟨nd, rfl⟩⟩; exact ⟨rfl, _, World.drewN_drewN _ _ _⟩))
    go_wp2
    go_ret
    exact ⟨by simp, pw_below_drewN HB.out _⟩
  | true =>
    cases b1 with
    | false =>
      go_enter Try.func71, Try.ntmps71
      go_wp2_with (go_at_call 70; refine (impl_moved.calls _ _ [x, y] (n : Int) _ _ HR.out hc HM.out).mono ?_; rintro e w1 ⟨v0, rfl, hR, hB⟩; obtain ⟨A2, c2, e2⟩ := Kd.R_slice hR; rw [show ([x + impl_driveIn.dx n, y + impl_driveIn.dy n] : List Int).length = 2 from rfl] at e2; subst e2; have hC2 := (Kd.R_reads' hR).2.2; rw [show ([x + impl_driveIn.dx n, y + impl_driveIn.dy n] : List Int).length = 2 from rfl] at hC2; have hl2 := (Kd.R_reads' hR).2.1; obtain ⟨ad2, hA2, hu0⟩ := Kd.at_int hC2 0 (by omega) (by omega); obtain ⟨ad3, hA3, hu1⟩ := Kd.at_int hC2 1 (by omega) (by omega); subst hA2; obtain rfl : ad2 = ad3 := (by injection hA3); rw [show (0 : Int).toNat = 0 from rfl, Addr.add_zero', show rd [x + impl_driveIn.dx n, y + impl_driveIn.dy n] 0 = x + impl_driveIn.dx n from rfl] at hu0; rw [show rd [x + impl_driveIn.dx n, y + impl_driveIn.dy n] 1 = y + impl_driveIn.dy n from rfl] at hu1; simp only [show (1 : Int).toNat = 1 from rfl, Nat.reduceMul, Nat.reduceEqDiff, Go.Addr.add, ↓reduceIte] at hu1; have hc0 := (hB.cell (World.block_lt_of_cell? _ _ C0.out)).trans C0.out; have hc1 := (hB.cell (World.block_lt_of_cell? _ _ C1.out)).trans C1.out; have hx0 := (hB.cell (World.block_lt_of_cell? _ _ X0.out)).trans X0.out; have hx1 := (hB.cell (World.block_lt_of_cell? _ _ X1.out)).trans X1.out; have HB := Aside0.mk hB; clear hB hR hC2 hA3)
      go_quiet (first | (go_at_call 72; (with_reducible refine (impl_within.calls (x + impl_driveIn.dx n) 0 ((a.size : Int) - 1) true _ W0.out).mono ?_); rintro e w' ⟨rfl, ⟨nd, rfl⟩⟩; exact ⟨rfl, _, World.drewN_drewN _ _ _⟩) | (go_at_call 72; (with_reducible refine (impl_within.calls (y + impl_driveIn.dy n) 0 ((s.size : Int) - 1) false _ W1.out).mono ?_); rintro e w' ⟨rfl, ⟨nd, rfl⟩⟩; exact ⟨rfl, _, World.drewN_drewN _ _ _⟩))
      go_wp2
      go_ret
      exact ⟨by simp, pw_below_drewN HB.out _⟩
    | true =>
      obtain ⟨mx, rfl⟩ := Int.eq_ofNat_of_zero_le x0
      obtain ⟨my, rfl⟩ := Int.eq_ofNat_of_zero_le y0
      have hmx : mx < a.size := by omega
      have hmy : my < s.size := by omega
      rw [impl_driveIn.bt_k s my hmy, impl_driveIn.bt_k a mx hmx]
      go_enter Try.func71, Try.ntmps71
      go_wp2_with (go_at_call 70; refine (impl_moved.calls _ _ [(mx : Int), (my : Int)] (n : Int) _ _ HR.out hc HM.out).mono ?_; rintro e w1 ⟨v0, rfl, hR, hB⟩; obtain ⟨A2, c2, e2⟩ := Kd.R_slice hR; rw [show ([(mx : Int) + impl_driveIn.dx n, (my : Int) + impl_driveIn.dy n] : List Int).length = 2 from rfl] at e2; subst e2; have hC2 := (Kd.R_reads' hR).2.2; rw [show ([(mx : Int) + impl_driveIn.dx n, (my : Int) + impl_driveIn.dy n] : List Int).length = 2 from rfl] at hC2; have hl2 := (Kd.R_reads' hR).2.1; obtain ⟨ad2, hA2, hu0⟩ := Kd.at_int hC2 0 (by omega) (by omega); obtain ⟨ad3, hA3, hu1⟩ := Kd.at_int hC2 1 (by omega) (by omega); subst hA2; obtain rfl : ad2 = ad3 := (by injection hA3); rw [show (0 : Int).toNat = 0 from rfl, Addr.add_zero', show rd [(mx : Int) + impl_driveIn.dx n, (my : Int) + impl_driveIn.dy n] 0 = (mx : Int) + impl_driveIn.dx n from rfl] at hu0; rw [show rd [(mx : Int) + impl_driveIn.dx n, (my : Int) + impl_driveIn.dy n] 1 = (my : Int) + impl_driveIn.dy n from rfl] at hu1; simp only [show (1 : Int).toNat = 1 from rfl, Nat.reduceMul, Nat.reduceEqDiff, Go.Addr.add, ↓reduceIte] at hu1; have hc0 := (hB.cell (World.block_lt_of_cell? _ _ C0.out)).trans C0.out; have hc1 := (hB.cell (World.block_lt_of_cell? _ _ C1.out)).trans C1.out; have hx0 := (hB.cell (World.block_lt_of_cell? _ _ X0.out)).trans X0.out; have hx1 := (hB.cell (World.block_lt_of_cell? _ _ X1.out)).trans X1.out; have HB := Aside0.mk hB; clear hB hR hC2 hA3)
      go_quiet (first | (go_at_call 72; (with_reducible refine (impl_within.calls ((mx : Int) + impl_driveIn.dx n) 0 ((a.size : Int) - 1) true _ W0.out).mono ?_); rintro e w' ⟨rfl, ⟨nd, rfl⟩⟩; exact ⟨rfl, _, World.drewN_drewN _ _ _⟩) | (go_at_call 72; (with_reducible refine (impl_within.calls ((my : Int) + impl_driveIn.dy n) 0 ((s.size : Int) - 1) true _ W1.out).mono ?_); rintro e w' ⟨rfl, ⟨nd, rfl⟩⟩; exact ⟨rfl, _, World.drewN_drewN _ _ _⟩))
      go_wp2
      have cn : n = 0 ∨ n = 1 ∨ n = 2 ∨ n = 3 := by omega
      rcases cn with rfl | rfl | rfl | rfl
      · have sg : impl_driveIn.sg 0 = 101 := rfl
        by_cases q : (101 : Int) = ((s[my].toNat : Nat) : Int)
        · have q1 : ((101 : Int) == ((s[my].toNat : Nat) : Int)) = true := beq_iff_eq.2 q
          have q3 : ((((⟨#[101, 110, 115, 119]⟩ : ByteArray)[0]'(by decide)).toNat : Int) == ((s[my].toNat : Nat) : Int)) = true := q1
          have q2 : decide ((101 : Int) = ((s[my].toNat : Nat) : Int)) = true := decide_eq_true q
          go_quiet (fail)
          go_wp2
          go_ret
          exact ⟨by first | (simp [sg, q2]; done) | (simp [sg, q2]; rfl), pw_below_drewN (pw_below_drewN HB.out _) _⟩
        · have q1 : ((101 : Int) == ((s[my].toNat : Nat) : Int)) = false := beq_eq_false_iff_ne.2 q
          have q3 : ((((⟨#[101, 110, 115, 119]⟩ : ByteArray)[0]'(by decide)).toNat : Int) == ((s[my].toNat : Nat) : Int)) = false := q1
          have q2 : decide ((101 : Int) = ((s[my].toNat : Nat) : Int)) = false := decide_eq_false q
          go_quiet (fail)
          go_wp2
          go_ret
          exact ⟨by first | (simp [sg, q2]; done) | (simp [sg, q2]; rfl), pw_below_drewN (pw_below_drewN HB.out _) _⟩
      · have sg : impl_driveIn.sg 1 = 110 := rfl
        by_cases q : (110 : Int) = ((s[my].toNat : Nat) : Int)
        · have q1 : ((110 : Int) == ((s[my].toNat : Nat) : Int)) = true := beq_iff_eq.2 q
          have q3 : ((((⟨#[101, 110, 115, 119]⟩ : ByteArray)[1]'(by decide)).toNat : Int) == ((s[my].toNat : Nat) : Int)) = true := q1
          have q2 : decide ((110 : Int) = ((s[my].toNat : Nat) : Int)) = true := decide_eq_true q
          go_quiet (fail)
          go_wp2
          go_ret
          exact ⟨by first | (simp [sg, q2]; done) | (simp [sg, q2]; rfl), pw_below_drewN (pw_below_drewN HB.out _) _⟩
        · have q1 : ((110 : Int) == ((s[my].toNat : Nat) : Int)) = false := beq_eq_false_iff_ne.2 q
          have q3 : ((((⟨#[101, 110, 115, 119]⟩ : ByteArray)[1]'(by decide)).toNat : Int) == ((s[my].toNat : Nat) : Int)) = false := q1
          have q2 : decide ((110 : Int) = ((s[my].toNat : Nat) : Int)) = false := decide_eq_false q
          go_quiet (fail)
          go_wp2
          go_ret
          exact ⟨by first | (simp [sg, q2]; done) | (simp [sg, q2]; rfl), pw_below_drewN (pw_below_drewN HB.out _) _⟩
      · have sg : impl_driveIn.sg 2 = 115 := rfl
        by_cases q : (115 : Int) = ((s[my].toNat : Nat) : Int)
        · have q1 : ((115 : Int) == ((s[my].toNat : Nat) : Int)) = true := beq_iff_eq.2 q
          have q3 : ((((⟨#[101, 110, 115, 119]⟩ : ByteArray)[2]'(by decide)).toNat : Int) == ((s[my].toNat : Nat) : Int)) = true := q1
          have q2 : decide ((115 : Int) = ((s[my].toNat : Nat) : Int)) = true := decide_eq_true q
          go_quiet (fail)
          go_wp2
          go_ret
          exact ⟨by first | (simp [sg, q2]; done) | (simp [sg, q2]; rfl), pw_below_drewN (pw_below_drewN HB.out _) _⟩
        · have q1 : ((115 : Int) == ((s[my].toNat : Nat) : Int)) = false := beq_eq_false_iff_ne.2 q
          have q3 : ((((⟨#[101, 110, 115, 119]⟩ : ByteArray)[2]'(by decide)).toNat : Int) == ((s[my].toNat : Nat) : Int)) = false := q1
          have q2 : decide ((115 : Int) = ((s[my].toNat : Nat) : Int)) = false := decide_eq_false q
          go_quiet (fail)
          go_wp2
          go_ret
          exact ⟨by first | (simp [sg, q2]; done) | (simp [sg, q2]; rfl), pw_below_drewN (pw_below_drewN HB.out _) _⟩
      · have sg : impl_driveIn.sg 3 = 119 := rfl
        by_cases q : (119 : Int) = ((s[my].toNat : Nat) : Int)
        · have q1 : ((119 : Int) == ((s[my].toNat : Nat) : Int)) = true := beq_iff_eq.2 q
          have q3 : ((((⟨#[101, 110, 115, 119]⟩ : ByteArray)[3]'(by decide)).toNat : Int) == ((s[my].toNat : Nat) : Int)) = true := q1
          have q2 : decide ((119 : Int) = ((s[my].toNat : Nat) : Int)) = true := decide_eq_true q
          go_quiet (fail)
          go_wp2
          go_ret
          exact ⟨by first | (simp [sg, q2]; done) | (simp [sg, q2]; rfl), pw_below_drewN (pw_below_drewN HB.out _) _⟩
        · have q1 : ((119 : Int) == ((s[my].toNat : Nat) : Int)) = false := beq_eq_false_iff_ne.2 q
          have q3 : ((((⟨#[101, 110, 115, 119]⟩ : ByteArray)[3]'(by decide)).toNat : Int) == ((s[my].toNat : Nat) : Int)) = false := q1
          have q2 : decide ((119 : Int) = ((s[my].toNat : Nat) : Int)) = false := decide_eq_false q
          go_quiet (fail)
          go_wp2
          go_ret
          exact ⟨by first | (simp [sg, q2]; done) | (simp [sg, q2]; rfl), pw_below_drewN (pw_below_drewN HB.out _) _⟩
set_option maxRecDepth 100000 in
/-- The steps of ways are made: a box of their own, and the closure over it. -/
theorem impl_driveIn.made (s a : ByteArray) (w : World) :
    Calls Try.prog 47 #[.agg #[.string s, .string a]] w fun e w' => e = .returned (.func (.func 71) #[] #[.pointer (some ⟨w.heap.size, 0, none⟩)]) ∧ w' = w.alloc (.cells #[.string s, .string a] 27) := by
  have hmf : ∀ (fn : Fn) (first cap : Array Value) (w : World), (Instr.makeFunc fn first cap).run Try.prog w = .ok (.func fn first cap) w := fun _ _ _ _ => rfl
  go_enter Try.func47, Try.ntmps47
  go_wp2
  go_ret
  exact ⟨rfl, rfl⟩
theorem impl_driveIn.calls' (s a : ByteArray) (hs : impl_driveIn.Sized s a) (p : Nat) (A : Option Addr) (c : Nat) (l : List Int) (hl : l.length = 2) (n : Nat) (hn : n ≤ 3) (w : World) (hr : Kd.C (Kd.int .i64) w A l.length l) (hc : l.length ≤ c) (ha : impl_driveIn.At s a (rd l 0) (rd l 1)) (hp : w.heap[p]? = some (.cells #[.string s, .string a] 27 (0, 0))) :
    Calls Try.prog 71 #[.slice A l.length c, .int .i64 n, .pointer (some ⟨p, 0, none⟩)] w fun e w' => e = .returned (.bool (impl_driveIn.can s a (rd l 0) (rd l 1) n)) ∧ Below w.heap.size w w' := by
  match l, hl with
  | [x, y], _ => exact impl_driveIn.calls s a hs p A c x y n hn w hr hc ha hp

/-! ### stringslite_Index: function 73 (a contract of this repo) -/
/-- At a substr of one byte alone. -/
def stringslite_Index.f (a0 : ByteArray) (a1 : ByteArray) : Option (Int) := match a1 with | ⟨⟨[c]⟩⟩ => some (Go.Lib.indexByte a0.data.toList c) | _ => none
theorem stringslite_Index.calls (a0 : ByteArray) (a1 : ByteArray) (r : Int) (w : World) (h : stringslite_Index.f a0 a1 = some r) :
    Calls Try.prog 73 #[.string a0, .string a1] w fun e w' => e = .returned (.int .i64 r) ∧ Drawn0 w w' := by
  unfold stringslite_Index.f at h
  split at h
  · obtain rfl := Option.some.inj h
    refine (Try.stringslite_Index_one a0 _ w).mono ?_
    rintro e w' ⟨rfl, rfl⟩
    exact ⟨rfl, Drawn0.refl _⟩
  · cases h

/-! ### strings_Index: function 55 -/
def strings_Index.f (a0 : ByteArray) (a1 : ByteArray) : Option (Int) := (stringslite_Index.f a0 a1).bind fun t159 => (some t159)
set_option maxHeartbeats 8000000 in
set_option maxRecDepth 100000 in
theorem strings_Index.calls (a0 : ByteArray) (a1 : ByteArray) (r : Int) (w : World) (h : strings_Index.f a0 a1 = some r) :
    Calls Try.prog 55 #[.string a0, .string a1] w fun e w' => e = .returned (.int .i64 r) ∧ Drawn0 w w' := by
  have H : ((stringslite_Index.f a0 a1).bind fun t159 => (some t159)) = some r := h
  clear h
  replace H := Option.bind_eq_some_iff.mp H
  obtain ⟨t159, A30, H⟩ := H
  replace H : (some t159) = some r := H
  have A3 := Aside0.mk A30
  clear A30
  obtain rfl := Option.some.inj H
  go_enter Try.func55, Try.ntmps55
  go_wp2_with (first | ((with_reducible refine gate_callee (f := 73) rfl ?_); refine goesL_ (some 7) rfl rfl Try.func73 (by kernel_rfl) rfl #[.string a0, .string a1] rfl (by (try simp only [List.map_toArray, List.map_cons, List.map_nil]); first | done | rfl | (simp only [List.length_drop, List.length_take]; rfl)) ?_; (with_reducible refine (stringslite_Index.calls a0 a1 t159 _ A3.out).mono ?_); rintro e w' ⟨rfl, ⟨nd, rfl⟩⟩; refine ⟨_, rfl, ?_⟩))
  go_ret
  exact ⟨by first | rfl | (simp; done) | (simp [*]; done), by repeat (first | exact Drawn0.refl _ | apply Drawn0.step)⟩

/-! ### strings_Contains: function 54 -/
def strings_Contains.f (a0 : ByteArray) (a1 : ByteArray) : Option (Bool) := (strings_Index.f a0 a1).bind fun t160 => (some (decide (t160 ≥ 0)))
set_option maxHeartbeats 8000000 in
set_option maxRecDepth 100000 in
theorem strings_Contains.calls (a0 : ByteArray) (a1 : ByteArray) (r : Bool) (w : World) (h : strings_Contains.f a0 a1 = some r) :
    Calls Try.prog 54 #[.string a0, .string a1] w fun e w' => e = .returned (.bool r) ∧ Drawn0 w w' := by
  have H : ((strings_Index.f a0 a1).bind fun t160 => (some (decide (t160 ≥ 0)))) = some r := h
  clear h
  replace H := Option.bind_eq_some_iff.mp H
  obtain ⟨t160, A30, H⟩ := H
  replace H : (some (decide (t160 ≥ 0))) = some r := H
  have A3 := Aside0.mk A30
  clear A30
  obtain rfl := Option.some.inj H
  go_enter Try.func54, Try.ntmps54
  go_wp2_with (first | ((with_reducible refine gate_callee (f := 55) rfl ?_); refine goesL_ (some 7) rfl rfl Try.func55 (by kernel_rfl) rfl #[.string a0, .string a1] rfl (by (try simp only [List.map_toArray, List.map_cons, List.map_nil]); first | done | rfl | (simp only [List.length_drop, List.length_take]; rfl)) ?_; (with_reducible refine (strings_Index.calls a0 a1 t160 _ A3.out).mono ?_); rintro e w' ⟨rfl, ⟨nd, rfl⟩⟩; refine ⟨_, rfl, ?_⟩))
  go_ret
  exact ⟨by first | rfl | (simp; done) | (simp [*]; done), by repeat (first | exact Drawn0.refl _ | apply Drawn0.step)⟩

/-! ### impl_CanDrive: function 28 (a contract of this repo) -/
def impl_CanDrive.f (k : Nat) (a0_0 a0_1 : ByteArray) (l1 : List Int) (a2 : ByteArray) : Option (Bool × Bool) :=
  (impl_areDriven.f k a0_0 a0_1 [l1]).bind fun t => if t = true then (if a2.size = 1 then ((strings_Contains.f ⟨#[101, 110, 115, 119]⟩ a2).bind fun u => if u = true then ((strings_Index.f ⟨#[101, 110, 115, 119]⟩ a2).bind fun i =>
    if ((0 ≤ i ∧ i ≤ 3) ∧ l1.length = 2) ∧ impl_driveIn.Sized a0_0 a0_1 ∧ impl_driveIn.At a0_0 a0_1 (rd l1 0) (rd l1 1) then some (impl_driveIn.can a0_0 a0_1 (rd l1 0) (rd l1 1) i.toNat, true) else none) else some (false, false)) else some (false, false)) else some (false, false)
theorem impl_CanDrive.mono : ∀ a0_0 a0_1 a1 a2 k, LeO (impl_CanDrive.f k a0_0 a0_1 a1 a2) (impl_CanDrive.f (k + 1) a0_0 a0_1 a1 a2) := fun a0_0 a0_1 a1 a2 k => LeO.bind (impl_areDriven.mono _ _ _ k) (fun _ => LeO.refl _)
set_option maxHeartbeats 8000000 in
set_option maxRecDepth 100000 in
theorem impl_CanDrive.calls (k : Nat) (a0_0 a0_1 : ByteArray) (A1 : Option Addr) (c1 : Nat) (l1 : List Int) (a2 : ByteArray) (r1 r2 : Bool) (w : World) (hr1 : Kd.C (Kd.int .i64) w A1 l1.length l1) (hc1 : l1.length ≤ c1) (h : impl_CanDrive.f k a0_0 a0_1 l1 a2 = some (r1, r2)) :
    Calls Try.prog 28 #[.agg #[.string a0_0, .string a0_1], .slice A1 l1.length c1, .string a2] w fun e w' => e = .returned (.tuple #[.bool r1, .bool r2]) ∧ Below w.heap.size w w' := by
  unfold impl_CanDrive.f at h
  obtain ⟨t, ht, h⟩ := Option.bind_eq_some_iff.1 h
  have HT := Aside0.mk ht
  clear ht
  have hp0 : (w.alloc (.cells #[.string a0_0, .string a0_1] 27)).cell? ⟨w.heap.size, 0, none⟩ = some (.string a0_0) := by
    rw [World.cell?_alloc_at _ _ _ _ rfl]; rfl
  have hp1 : (w.alloc (.cells #[.string a0_0, .string a0_1] 27)).cell? ⟨w.heap.size, 1, none⟩ = some (.string a0_1) := by
    rw [World.cell?_alloc_at _ _ _ _ rfl]; rfl
  have hq0 : ((w.alloc (.cells #[.string a0_0, .string a0_1] 27)).alloc (.cells #[.slice A1 l1.length c1] 30)).cell? ⟨w.heap.size, 0, none⟩ = some (.string a0_0) := by
    rw [World.cell?_alloc_past _ _ _ (by simp)]; exact hp0
  have hq1 : ((w.alloc (.cells #[.string a0_0, .string a0_1] 27)).alloc (.cells #[.slice A1 l1.length c1] 30)).cell? ⟨w.heap.size, 1, none⟩ = some (.string a0_1) := by
    rw [World.cell?_alloc_past _ _ _ (by simp)]; exact hp1
  have hq2 : ((w.alloc (.cells #[.string a0_0, .string a0_1] 27)).alloc (.cells #[.slice A1 l1.length c1] 30)).cell? ⟨w.heap.size + 1, 0, none⟩ = some (.slice A1 l1.length c1) := by
    rw [World.cell?_alloc_at _ _ _ _ (by simp)]; rfl
  have HR := Aside0.mk (Kd.C_alloc (Kd.C_alloc hr1 (.cells #[.string a0_0, .string a0_1] 27)) (.cells #[.slice A1 l1.length c1] 30))
  have HL := Aside0.mk (impl_areDriven.lit1 hq2 hc1 HR.out)
  have HB := Aside0.mk (below_alloc (below_alloc (Below.refl w.heap.size w) (.cells #[.string a0_0, .string a0_1] 27)) (.cells #[.slice A1 l1.length c1] 30))
  clear hr1 hq2
  cases t with
  | false =>
    rw [if_neg (by simp)] at h
    simp only [Option.some.injEq, Prod.mk.injEq] at h
    obtain ⟨rfl, rfl⟩ := h
    go_enter Try.func28, Try.ntmps28
    go_wp2_with (go_at_call 45; refine (impl_areDriven.calls k a0_0 a0_1 _ 1 [l1] false _ HL.out (by simp) HT.out).mono ?_; rintro e w1 ⟨rfl, hb1⟩; have hs0 := (hb1.cell (World.block_lt_of_cell? _ _ hq0)).trans hq0; have hs1 := (hb1.cell (World.block_lt_of_cell? _ _ hq1)).trans hq1; have HB1 := Aside0.mk (below_then HB.out HB.out.size hb1); have HR1 := Aside0.mk (Kd.C_below HR.out hb1); clear hb1)
    go_ret2
    exact ⟨rfl, HB1.out⟩
  | true =>
    rw [if_pos rfl] at h
    by_cases hz : a2.size = 1
    case neg =>
      rw [if_neg hz] at h
      simp only [Option.some.injEq, Prod.mk.injEq] at h
      obtain ⟨rfl, rfl⟩ := h
      have hn : ((a2.size : Int) != 1) = true := bne_iff_ne.2 (fun z => hz (by omega))
      go_enter Try.func28, Try.ntmps28
      go_wp2_with (go_at_call 45; refine (impl_areDriven.calls k a0_0 a0_1 _ 1 [l1] true _ HL.out (by simp) HT.out).mono ?_; rintro e w1 ⟨rfl, hb1⟩; have hs0 := (hb1.cell (World.block_lt_of_cell? _ _ hq0)).trans hq0; have hs1 := (hb1.cell (World.block_lt_of_cell? _ _ hq1)).trans hq1; have HB1 := Aside0.mk (below_then HB.out HB.out.size hb1); have HR1 := Aside0.mk (Kd.C_below HR.out hb1); clear hb1)
      go_ret2
      exact ⟨rfl, HB1.out⟩
    rw [if_pos hz] at h
    have hn : ((a2.size : Int) != 1) = false := bne_eq_false_iff_eq.2 (by omega)
    obtain ⟨u, hu, h⟩ := Option.bind_eq_some_iff.1 h
    have HU := Aside0.mk hu
    clear hu
    cases u with
    | false =>
      rw [if_neg (by simp)] at h
      simp only [Option.some.injEq, Prod.mk.injEq] at h
      obtain ⟨rfl, rfl⟩ := h
      go_enter Try.func28, Try.ntmps28
      go_wp2_with (first | (go_at_call 45; refine (impl_areDriven.calls k a0_0 a0_1 _ 1 [l1] true _ HL.out (by simp) HT.out).mono ?_; rintro e w1 ⟨rfl, hb1⟩; have hs0 := (hb1.cell (World.block_lt_of_cell? _ _ hq0)).trans hq0; have hs1 := (hb1.cell (World.block_lt_of_cell? _ _ hq1)).trans hq1; have HB1 := Aside0.mk (below_then HB.out HB.out.size hb1); have HR1 := Aside0.mk (Kd.C_below HR.out hb1); clear hb1) | (go_at_call 54; refine (strings_Contains.calls _ a2 false _ HU.out).mono ?_; rintro e w' ⟨rfl, ⟨nd, rfl⟩⟩))
      go_ret2
      exact ⟨rfl, pw_below_drewN HB1.out _⟩
    | true =>
      rw [if_pos rfl] at h
      obtain ⟨i, hi, h⟩ := Option.bind_eq_some_iff.1 h
      by_cases hg : ((0 ≤ i ∧ i ≤ 3) ∧ l1.length = 2) ∧ impl_driveIn.Sized a0_0 a0_1 ∧ impl_driveIn.At a0_0 a0_1 (rd l1 0) (rd l1 1)
      case neg => rw [if_neg hg] at h; cases h
      rw [if_pos hg] at h
      simp only [Option.some.injEq, Prod.mk.injEq] at h
      obtain ⟨rfl, rfl⟩ := h
      obtain ⟨⟨⟨i0, i3⟩, hl⟩, hS, hA⟩ := hg
      obtain ⟨n, rfl⟩ := Int.eq_ofNat_of_zero_le i0
      rw [Int.toNat_natCast]
      have HI := Aside0.mk hi
      have Hl := Aside0.mk hl
      clear hi hl
      go_enter Try.func28, Try.ntmps28
      go_upto_region 3 with (first | (go_at_call 45; refine (impl_areDriven.calls k a0_0 a0_1 _ 1 [l1] true _ HL.out (by simp) HT.out).mono ?_; rintro e w1 ⟨rfl, hb1⟩; have hs0 := (hb1.cell (World.block_lt_of_cell? _ _ hq0)).trans hq0; have hs1 := (hb1.cell (World.block_lt_of_cell? _ _ hq1)).trans hq1; have HB1 := Aside0.mk (below_then HB.out HB.out.size hb1); have HR1 := Aside0.mk (Kd.C_below HR.out hb1); clear hb1) | (go_at_call 54; refine (strings_Contains.calls _ a2 true _ HU.out).mono ?_; rintro e w' ⟨rfl, ⟨nd, rfl⟩⟩))
      have HX := fun nd2 => Aside0.mk (Kd.C_drewN (Kd.C_alloc (Kd.C_drewN HR1.out nd) (.cells #[.string a0_0, .string a0_1] 27)) nd2)
      have HP := fun nd2 => Aside0.mk (show (((w1.drewN nd).alloc (.cells #[.string a0_0, .string a0_1] 27)).drewN nd2).heap[(w1.drewN nd).heap.size]? = some (.cells #[.string a0_0, .string a0_1] 27 (0, 0)) from heap_alloc_new _ _)
      have HBB := fun nd2 => Aside0.mk (pw_below_drewN (below_alloc (pw_below_drewN HB1.out nd) (.cells #[.string a0_0, .string a0_1] 27)) nd2)
      go_wp2_with (first | (go_at_call 47; refine (impl_driveIn.made a0_0 a0_1 _).mono ?_; rintro e w3 ⟨rfl, rfl⟩) | (go_at_call 55; refine (strings_Index.calls _ a2 (n : Int) _ HI.out).mono ?_; rintro e w' ⟨rfl, ⟨nd2, rfl⟩⟩) | (go_at_call 71; refine (impl_driveIn.calls' a0_0 a0_1 hS (w1.drewN nd).heap.size A1 c1 l1 Hl.out n (by omega) _ (HX nd2).out hc1 hA (HP nd2).out).mono ?_; rintro e w4 ⟨rfl, hb4⟩))
      go_ret2
      exact ⟨rfl, below_then (HBB nd2).out (HBB nd2).out.size hb4⟩

end Go.Proofs.Ytopbmiedlpkmjaa.MT
