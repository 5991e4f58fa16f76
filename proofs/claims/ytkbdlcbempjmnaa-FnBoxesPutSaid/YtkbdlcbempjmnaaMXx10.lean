-- The machine side, written by this repo's program mp.py; contracts marked as of this repo are this session's own.
import Derived.Test.YtkbdlcbempjmnaaMXx0
import Derived.Test.YtkbdlcbempjmnaaMXx1
import Derived.Test.YtkbdlcbempjmnaaMXx2
import Derived.Test.YtkbdlcbempjmnaaMXx3
import Derived.Test.YtkbdlcbempjmnaaMXx5
import Derived.Test.YtkbdlcbempjmnaaMXx6
import Derived.Test.YtkbdlcbempjmnaaMXx7
import Derived.Test.YtkbdlcbempjmnaaMXx8
import Derived.Test.YtkbdlcbempjmnaaMXx9
namespace Go.Proofs.Ytkbdlcbempjmnaa.MX
open Go.RowKit Go.Proofs.YtkbdlcbempjmnaaW.PrintWords Go.Proofs.YtkbdlcbempjmnaaW.PrintLast Go.Proofs.YtkbdlcbempjmnaaW.PrintMore
attribute [local go_sem] max2_int min2_int max_two min_two max_three min_three max_four min_four   -- for this text's walks alone
set_option linter.unusedVariables false
set_option linter.unusedSimpArgs false

/-! ### laws_FnBoxesPut: function 3 (a contract of this repo) -/
/-- The sum of the walks of those before a house, each to a house of its own. -/
def laws_FnBoxesPut.tot (p each : List Int) : Nat → Int
  | 0 => 0
  | j + 1 => laws_FnBoxesPut.tot p each j + rd p j * ((rd each j - (j : Int)).natAbs : Int)
theorem laws_FnBoxesPut.tot_le (p each : List Int) (n : Nat) (h : ∀ j : Nat, j < n → (0 ≤ rd p j ∧ rd p j ≤ 1000) ∧ (0 ≤ rd each j ∧ rd each j ≤ 100)) (hn : n ≤ 100) : ∀ j, j ≤ n → 0 ≤ laws_FnBoxesPut.tot p each j ∧ laws_FnBoxesPut.tot p each j ≤ 100000 * (j : Int) := by
  intro j
  induction j with
  | zero => intro _; exact ⟨Int.le_refl _, Int.le_refl _⟩
  | succ j ih =>
    intro hj
    obtain ⟨h1, h2⟩ := ih (by omega)
    obtain ⟨⟨h3, h4⟩, h5, h6⟩ := h j (by omega)
    simp only [laws_FnBoxesPut.tot]
    have h7 : ((rd each j - (j : Int)).natAbs : Int) ≤ 100 := by omega
    have h8 : 0 ≤ ((rd each j - (j : Int)).natAbs : Int) := by omega
    have h9 := Int.mul_nonneg h3 h8
    have h10 := Int.mul_le_mul h4 h7 h8 (by omega : (0 : Int) ≤ 1000)
    omega
theorem laws_FnBoxesPut.cell_C {W : World} {A : Option Addr} {l : List Int} (h : Kd.C (Kd.int .i64) W A l.length l) (j : Nat) (hj : j < l.length) : ∃ ad, A = some ad ∧ W.cell? (ad.add j) = some (.int .i64 (rd l j)) := by
  obtain ⟨ad, cs, e, -, hK, hc⟩ := Kd.C_get h 0 (j : Int) (by omega) (by omega)
  have hK : cs = [Value.int .i64 (l.getD j 0)] := hK
  have h0 := hc 0 (Value.int .i64 (l.getD j 0)) (by rw [hK]; rfl)
  rw [show (j : Int).toNat * (Kd.int .i64).sz + 0 = j by show j * 1 + 0 = j; omega] at h0
  exact ⟨ad, e, by rw [show rd l j = l.getD j 0 by simp [rd]]; exact h0⟩
theorem laws_FnBoxesPut.cell_keep {W W' : World} {p : Addr} {v : Value} (hb : Below W.heap.size W W') (h : W.cell? p = some v) : W'.cell? p = some v := by
  have hlt : p.block < W.heap.size := by
    by_cases e : p.block < W.heap.size
    · exact e
    · rw [World.cell?, Array.getElem?_eq_none (by omega)] at h
      cases h
  simp only [World.cell?, hb.block _ hlt] at h ⊢
  exact h
def laws_FnBoxesPut.Put (k : Nat) (people first : List Int) (many least far : Int) : Prop := ∃ need : Int, impl_BoxesSum.f k people first = some (least, true) ∧ impl_FewestBoxes.f k people far = some (need, true) ∧ (first.length : Int) = many ∧ laws_zRises.f k first = some true ∧ need ≤ many ∧ (0 ≤ far ∧ far ≤ 1000) ∧ (1 ≤ many ∧ many ≤ 5) ∧
  (0 < far → ∃ (over : Int) (b : Bool), impl_FewestBoxes.f k people (far - 1) = some (over, b) ∧ (b = true → many < over)) ∧
  (1 < many → ∃ fewer wide : Int, impl_LeastBoxesSum.f k people (many - 1) = some (fewer, true) ∧ impl_FarthestBoxes.f k people (many - 1) = some (wide, true) ∧ least ≤ fewer ∧ far ≤ wide) ∧
  (many ≤ 1 → ∃ best center : List Int, impl_BestHouses.f k people = some (best, true) ∧ impl_CenterHouses.f k people = some (center, true) ∧ 0 < best.length ∧ 0 < center.length ∧ rd first 0 = rd best 0 ∧ impl_FarthestTo.f k people (rd center 0) = some (far, true))
def laws_FnBoxesPut.One (k : Nat) (l0 : List Int) : Prop := ∃ (people first : List Int) (many least far : Int) (ok : Bool), spec_DrawFirstBoxes.f k l0 = some (people, many) ∧ impl_FirstBoxes.f k people many = some (first, ok) ∧ spec_FirstBoxes.f k people many = some (first, ok) ∧ impl_LeastBoxesSum.f k people many = some (least, ok) ∧ spec_LeastBoxesSum.f k people many = some (least, ok) ∧ impl_FarthestBoxes.f k people many = some (far, ok) ∧ spec_FarthestBoxes.f k people many = some (far, ok) ∧ laws_zSame.f k first first = some true ∧ (ok = true → laws_FnBoxesPut.Put k people first many least far)
def laws_FnBoxesPut.Near (k : Nat) (p boxes each : List Int) (sum : Int) : Prop := each.length = p.length ∧ p.length ≤ 100 ∧ boxes.length ≤ 100 ∧ (∀ j : Nat, j < p.length → (0 ≤ rd p j ∧ rd p j ≤ 1000) ∧ (0 ≤ rd each j ∧ rd each j ≤ 100)) ∧ (∀ j : Nat, j < p.length → laws_zHas.f k boxes (rd each j) = some true ∧ (0 < j → rd each ((j - 1 : Nat) : Int) ≤ rd each j)) ∧ (∀ i : Nat, i < boxes.length → 0 ≤ rd boxes i ∧ rd boxes i ≤ 100) ∧ (∀ j : Nat, j < p.length → ∀ i : Nat, i < boxes.length → (rd each j - (j : Int)).natAbs ≤ (rd boxes i - (j : Int)).natAbs ∧ ((rd boxes i - (j : Int)).natAbs = (rd each j - (j : Int)).natAbs → rd each j ≤ rd boxes i)) ∧ laws_FnBoxesPut.tot p each p.length = sum ∧ ∃ lowest : Int, impl_LeastBoxesSum.f k p (boxes.length : Int) = some (lowest, true) ∧ lowest ≤ sum
def laws_FnBoxesPut.Two (k : Nat) (l1 : List Int) : Prop := ∃ (p boxes each q : List Int) (sum wide need : Int) (five nine : Bool), spec_DrawBoxOfEach.f k l1 = some (p, boxes) ∧ impl_BoxOfEach.f k p boxes = some (each, five) ∧ spec_BoxOfEach.f k p boxes = some (each, five) ∧ impl_BoxesSum.f k p boxes = some (sum, five) ∧ spec_BoxesSum.f k p boxes = some (sum, five) ∧ spec_DrawFewestBoxes.f k l1 = some (q, wide) ∧ impl_FewestBoxes.f k q wide = some (need, nine) ∧ spec_FewestBoxes.f k q wide = some (need, nine) ∧ laws_zSame.f k each each = some true ∧ (five = true → laws_FnBoxesPut.Near k p boxes each sum) ∧ (nine = true → 1 ≤ need ∧ need ≤ 5 ∧ need ≤ (q.length : Int))
open Classical in
noncomputable def laws_FnBoxesPut.f (l0 l1 : List Int) : Option Bool := if ∃ k, laws_big.f l0 l1 = some false ∧ laws_FnBoxesPut.One k l0 ∧ laws_FnBoxesPut.Two k l1 then some true else if laws_big.f l0 l1 = some true then some true else none
set_option maxHeartbeats 4000000 in
set_option maxRecDepth 100000 in
theorem laws_FnBoxesPut.calls (A0 : Option Addr) (c0 : Nat) (l0 : List Int) (A1 : Option Addr) (c1 : Nat) (l1 : List Int) (r : Bool) (w : World) (hr0 : Kd.C (Kd.int .u8) w A0 l0.length l0) (hc0 : l0.length ≤ c0) (hr1 : Kd.C (Kd.int .u8) w A1 l1.length l1) (hc1 : l1.length ≤ c1) (h : laws_FnBoxesPut.f l0 l1 = some r) :
    Calls Try.prog 3 #[.slice A0 l0.length c0, .slice A1 l1.length c1] w fun e w' => e = .returned (.bool r) ∧ Below w.heap.size w w' := by
  have HR0 := Aside0.mk hr0
  have HC0 := Aside0.mk hc0
  have HR1 := Aside0.mk hr1
  have HC1 := Aside0.mk hc1
  clear hr0 hc0 hr1 hc1
  unfold laws_FnBoxesPut.f at h
  split at h
  case isFalse =>
    split at h
    · rename_i hb
      obtain rfl : true = r := Option.some.inj h
      have H := Aside0.mk hb
      clear h hb
      go_enter Try.func3, Try.ntmps3
      go_wp2_with (go_at_call 4; refine (laws_big.calls _ _ _ _ _ _ _ _ HR0.out HC0.out HR1.out HC1.out H.out).mono ?_; rintro e w1 ⟨rfl, hd⟩; have HB1 := Aside0.mk hd.below; clear hd)
      go_ret
      exact ⟨rfl, HB1.out⟩
    · cases h
  case isTrue hh =>
  obtain rfl : true = r := Option.some.inj h
  obtain ⟨k, hb, hO, hT⟩ := hh
  have HBG := Aside0.mk hb
  have HT := Aside0.mk hT
  obtain ⟨people, first, many, least, far, ok, o1, o2, o3, o4, o5, o6, o7, o8, o9⟩ := hO
  have O1 := Aside0.mk o1
  have O2 := Aside0.mk o2
  have O3 := Aside0.mk o3
  have O4 := Aside0.mk o4
  have O5 := Aside0.mk o5
  have O6 := Aside0.mk o6
  have O7 := Aside0.mk o7
  have O8 := Aside0.mk o8
  have O9 := Aside0.mk o9
  have HB0 := Aside0.mk (Below.refl w.heap.size w)
  clear h hb hT o1 o2 o3 o4 o5 o6 o7 o8 o9
  go_enter Try.func3, Try.ntmps3
  have q1 : (ok != ok) = false := bne_self_eq_false ok
  have q2 : (least != least) = false := bne_self_eq_false least
  have q3 : (far != far) = false := bne_self_eq_false far
  go_upto_if 143 with (first | (go_at_call 4; refine (laws_big.calls _ _ _ _ _ _ _ _ HR0.out HC0.out HR1.out HC1.out HBG.out).mono ?_; rintro e w1 ⟨rfl, hb⟩; have hb : Below w.heap.size w w1 := (by first | exact hb | exact hb.below); have HB1 := Aside0.mk (below_then HB0.out HB0.out.size hb); clear hb) | (go_at_call 5; refine (spec_DrawFirstBoxes.calls k _ _ _ people many _ (Kd.C_below HR0.out HB1.out) HC0.out O1.out).mono ?_; rintro e w2 ⟨v5, rfl, hR, hb⟩; have hb : Below w1.heap.size w1 w2 := (by first | exact hb | exact hb.below); have HB2 := Aside0.mk (below_then HB1.out HB1.out.size hb); obtain ⟨A5, c5, rfl, hl5, hC5⟩ := Kd.R_reads hR; have HL5 := Aside0.mk hl5; have Rp2 := Aside0.mk hC5; clear hl5 hC5 hR; clear hb) | (go_at_call 6; refine (impl_FirstBoxes.calls k _ _ people many first ok _ Rp2.out HL5.out O2.out).mono ?_; rintro e w3 ⟨v7, rfl, hR, hb⟩; have hb : Below w2.heap.size w2 w3 := (by first | exact hb | exact hb.below); have HB3 := Aside0.mk (below_then HB2.out HB2.out.size hb); have Rp3 := Aside0.mk (Kd.C_below Rp2.out hb); obtain ⟨A7, c7, rfl, hl7, hC7⟩ := Kd.R_reads hR; have HL7 := Aside0.mk hl7; have Rf3 := Aside0.mk hC7; clear hl7 hC7 hR; clear hb) | (go_at_call 7; refine (spec_FirstBoxes.calls k _ _ people many first ok _ Rp3.out HL5.out O3.out).mono ?_; rintro e w4 ⟨v9, rfl, hR, hb⟩; have hb : Below w3.heap.size w3 w4 := (by first | exact hb | exact hb.below); have HB4 := Aside0.mk (below_then HB3.out HB3.out.size hb); have Rp4 := Aside0.mk (Kd.C_below Rp3.out hb); have Rf4 := Aside0.mk (Kd.C_below Rf3.out hb); obtain ⟨A9, c9, rfl, hl9, hC9⟩ := Kd.R_reads hR; have HL9 := Aside0.mk hl9; have Rg4 := Aside0.mk hC9; clear hl9 hC9 hR; clear hb) | (go_at_call 8; refine (impl_LeastBoxesSum.calls k _ _ people many least ok _ Rp4.out HL5.out O4.out).mono ?_; rintro e w5 ⟨rfl, hb⟩; have hb : Below w4.heap.size w4 w5 := (by first | exact hb | exact hb.below); have HB5 := Aside0.mk (below_then HB4.out HB4.out.size hb); have Rp5 := Aside0.mk (Kd.C_below Rp4.out hb); have Rf5 := Aside0.mk (Kd.C_below Rf4.out hb); have Rg5 := Aside0.mk (Kd.C_below Rg4.out hb); clear hb) | (go_at_call 9; refine (spec_LeastBoxesSum.calls k _ _ people many least ok _ Rp5.out HL5.out O5.out).mono ?_; rintro e w6 ⟨rfl, hb⟩; have hb : Below w5.heap.size w5 w6 := (by first | exact hb | exact hb.below); have HB6 := Aside0.mk (below_then HB5.out HB5.out.size hb); have Rp6 := Aside0.mk (Kd.C_below Rp5.out hb); have Rf6 := Aside0.mk (Kd.C_below Rf5.out hb); have Rg6 := Aside0.mk (Kd.C_below Rg5.out hb); clear hb) | (go_at_call 10; refine (impl_FarthestBoxes.calls k _ _ people many far ok _ Rp6.out HL5.out O6.out).mono ?_; rintro e w7 ⟨rfl, hb⟩; have hb : Below w6.heap.size w6 w7 := (by first | exact hb | exact hb.below); have HB7 := Aside0.mk (below_then HB6.out HB6.out.size hb); have Rp7 := Aside0.mk (Kd.C_below Rp6.out hb); have Rf7 := Aside0.mk (Kd.C_below Rf6.out hb); have Rg7 := Aside0.mk (Kd.C_below Rg6.out hb); clear hb) | (go_at_call 11; refine (spec_FarthestBoxes.calls k _ _ people many far ok _ Rp7.out HL5.out O7.out).mono ?_; rintro e w8 ⟨rfl, hb⟩; have hb : Below w7.heap.size w7 w8 := (by first | exact hb | exact hb.below); have HB8 := Aside0.mk (below_then HB7.out HB7.out.size hb); have Rp8 := Aside0.mk (Kd.C_below Rp7.out hb); have Rf8 := Aside0.mk (Kd.C_below Rf7.out hb); have Rg8 := Aside0.mk (Kd.C_below Rg7.out hb); clear hb) | (go_at_call 12; refine (laws_zSame.calls k _ _ _ _ _ _ true _ Rf8.out HL7.out Rg8.out HL9.out O8.out).mono ?_; rintro e w9 ⟨rfl, hb⟩; have hb : Below w8.heap.size w8 w9 := (by first | exact hb | exact hb.below); have HB9 := Aside0.mk (below_then HB8.out HB8.out.size hb); have Rp9 := Aside0.mk (Kd.C_below Rp8.out hb); have Rf9 := Aside0.mk (Kd.C_below Rf8.out hb); have Rg9 := Aside0.mk (Kd.C_below Rg8.out hb); clear hb))
  clear q1 q2 q3
  go_cut [] (fun wc => Aside0 (Below w.heap.size w wc))
  case first => as_aux_lemma =>
    cases ok with
    | false =>
      go_wp2
      go_meet
      case rel => exact HB9
    | true =>
      obtain ⟨need, p1, p2, p3, p4, p5, p6, p7, p8, p9, p10⟩ := O9.out rfl
      have P1 := Aside0.mk p1
      have P2 := Aside0.mk p2
      have P4 := Aside0.mk p4
      have P8 := Aside0.mk p8
      have P9 := Aside0.mk p9
      have P10 := Aside0.mk p10
      have P3 := Aside0.mk p3
      have e1 : ((first.length : Int) != many) = false := by rw [p3]; exact bne_self_eq_false _
      have e2 : decide (many < need) = false := decide_eq_false (by omega)
      have e3 : (least != least) = false := bne_self_eq_false least
      clear p1 p2 p3 p4 p5 p8 p9 p10 O9
      go_upto_if 184 with (first | (go_at_call 13; refine (impl_BoxesSum.calls k _ _ people _ _ first least true _ Rp9.out HL5.out Rf9.out HL7.out P1.out).mono ?_; rintro e w10 ⟨rfl, hb⟩; have hb : Below w9.heap.size w9 w10 := (by first | exact hb | exact hb.below); have HB10 := Aside0.mk (below_then HB9.out HB9.out.size hb); have Rp10 := Aside0.mk (Kd.C_below Rp9.out hb); have Rf10 := Aside0.mk (Kd.C_below Rf9.out hb); have Rg10 := Aside0.mk (Kd.C_below Rg9.out hb); clear hb) | (go_at_call 14; refine (impl_FewestBoxes.calls k _ _ people far need true _ Rp10.out HL5.out P2.out).mono ?_; rintro e w11 ⟨rfl, hb⟩; have hb : Below w10.heap.size w10 w11 := (by first | exact hb | exact hb.below); have HB11 := Aside0.mk (below_then HB10.out HB10.out.size hb); have Rp11 := Aside0.mk (Kd.C_below Rp10.out hb); have Rf11 := Aside0.mk (Kd.C_below Rf10.out hb); have Rg11 := Aside0.mk (Kd.C_below Rg10.out hb); clear hb) | (go_at_call 15; refine (laws_zRises.calls k _ _ _ true _ Rf11.out HL7.out P4.out).mono ?_; rintro e w12 ⟨rfl, hb⟩; have hb : Below w11.heap.size w11 w12 := (by first | exact hb | exact hb.below); have HB12 := Aside0.mk (below_then HB11.out HB11.out.size hb); have Rp12 := Aside0.mk (Kd.C_below Rp11.out hb); have Rf12 := Aside0.mk (Kd.C_below Rf11.out hb); have Rg12 := Aside0.mk (Kd.C_below Rg11.out hb); clear hb))
      clear e1 e2 e3
      go_cut [] (fun wd => Aside0 (Below w12.heap.size w12 wd))
      case first => as_aux_lemma =>
        by_cases hf : 0 < far
        · have d1 : decide ((0 : Int) < far) = true := decide_eq_true hf
          obtain ⟨over, b, x1, x2⟩ := P8.out hf
          have X1 := Aside0.mk x1
          cases b with
          | true =>
            have d2 : decide (over ≤ many) = false := decide_eq_false (by have := x2 rfl; omega)
            clear x1 x2
            go_wp2_with (go_at_call 14; refine (impl_FewestBoxes.calls k _ _ people (far - 1) over _ _ Rp12.out HL5.out X1.out).mono ?_; rintro e wz ⟨rfl, hb⟩; have HBz := Aside0.mk hb.below; clear hb)
            go_meet
            case rel => exact HBz
          | false =>
            clear x1 x2
            go_wp2_with (go_at_call 14; refine (impl_FewestBoxes.calls k _ _ people (far - 1) over _ _ Rp12.out HL5.out X1.out).mono ?_; rintro e wz ⟨rfl, hb⟩; have HBz := Aside0.mk hb.below; clear hb)
            go_meet
            case rel => exact HBz
        · have d1 : decide ((0 : Int) < far) = false := decide_eq_false hf
          go_wp2
          go_meet
          case rel => exact ⟨Below.refl _ _⟩
      case rest => as_aux_lemma =>
        have HBd := Aside0.mk (below_then HB12.out HB12.out.size hcut.out)
        have Pd := Aside0.mk (Kd.C_below Rp12.out hcut.out)
        have Fd := Aside0.mk (Kd.C_below Rf12.out hcut.out)
        clear hcut
        by_cases hm : 1 < many
        · have d1 : decide ((1 : Int) < many) = true := decide_eq_true hm
          obtain ⟨fewer, wide, y1, y2, y3, y4⟩ := P9.out hm
          have Y1 := Aside0.mk y1
          have Y2 := Aside0.mk y2
          have d2 : decide (fewer < least) = false := decide_eq_false (by omega)
          have d3 : decide (wide < far) = false := decide_eq_false (by omega)
          clear y1 y2 y3 y4
          go_wp2_with (first | (go_at_call 8; refine (impl_LeastBoxesSum.calls k _ _ people (many - 1) fewer true _ Pd.out HL5.out Y1.out).mono ?_; rintro e w51 ⟨rfl, hb⟩; have hb : Below wc.heap.size wc w51 := (by first | exact hb | exact hb.below); have HB51 := Aside0.mk (below_then HBd.out HBd.out.size hb); have Rp51 := Aside0.mk (Kd.C_below Pd.out hb); have Rf51 := Aside0.mk (Kd.C_below Fd.out hb); clear hb) | (go_at_call 10; refine (impl_FarthestBoxes.calls k _ _ people (many - 1) wide true _ Rp51.out HL5.out Y2.out).mono ?_; rintro e w52 ⟨rfl, hb⟩; have hb : Below w51.heap.size w51 w52 := (by first | exact hb | exact hb.below); have HB52 := Aside0.mk (below_then HB51.out HB51.out.size hb); have Rp52 := Aside0.mk (Kd.C_below Rp51.out hb); have Rf52 := Aside0.mk (Kd.C_below Rf51.out hb); clear hb))
          go_meet
          case rel => exact HB52
        · have d1 : decide ((1 : Int) < many) = false := decide_eq_false hm
          obtain ⟨best, center, y1, y2, y3, y4, y5, y6⟩ := P10.out (by omega)
          have Y1 := Aside0.mk y1
          have Y2 := Aside0.mk y2
          have Y6 := Aside0.mk y6
          have d2 : (rd first 0 != rd best 0) = false := by rw [y5]; exact bne_self_eq_false _
          have d3 : (far != far) = false := bne_self_eq_false far
          have d4 : 0 < first.length := by have := P3.out; omega
          clear y1 y2 y5 y6
          go_upto_region 28 with (first | (go_at_call 16; refine (impl_BestHouses.calls k _ _ people best true _ Pd.out HL5.out Y1.out).mono ?_; rintro e w51 ⟨v29, rfl, hR, hb⟩; have hb : Below wc.heap.size wc w51 := (by first | exact hb | exact hb.below); have HB51 := Aside0.mk (below_then HBd.out HBd.out.size hb); have Rp51 := Aside0.mk (Kd.C_below Pd.out hb); have Rf51 := Aside0.mk (Kd.C_below Fd.out hb); obtain ⟨A29, c29, rfl, hl29, hC29⟩ := Kd.R_reads hR; have HL29 := Aside0.mk hl29; have Rs51 := Aside0.mk hC29; clear hl29 hC29 hR; clear hb) | (go_at_call 17; refine (impl_CenterHouses.calls k _ _ people center true _ Rp51.out HL5.out Y2.out).mono ?_; rintro e w52 ⟨v31, rfl, hR, hb⟩; have hb : Below w51.heap.size w51 w52 := (by first | exact hb | exact hb.below); have HB52 := Aside0.mk (below_then HB51.out HB51.out.size hb); have Rp52 := Aside0.mk (Kd.C_below Rp51.out hb); have Rf52 := Aside0.mk (Kd.C_below Rf51.out hb); have Rs52 := Aside0.mk (Kd.C_below Rs51.out hb); obtain ⟨A31, c31, rfl, hl31, hC31⟩ := Kd.R_reads hR; have HL31 := Aside0.mk hl31; have Rc52 := Aside0.mk hC31; clear hl31 hC31 hR; clear hb))
          obtain ⟨ac, rfl, hcc⟩ := laws_FnBoxesPut.cell_C Rc52.out 0 y4
          obtain ⟨as_, rfl, hcs⟩ := laws_FnBoxesPut.cell_C Rs52.out 0 y3
          obtain ⟨af, rfl, hcf⟩ := laws_FnBoxesPut.cell_C Rf52.out 0 d4
          have d5 : decide ((0 : Int) < (center.length : Int)) = true := decide_eq_true (by omega)
          have d6 : decide ((0 : Int) < (best.length : Int)) = true := decide_eq_true (by omega)
          have d7 : decide ((0 : Int) < (first.length : Int)) = true := decide_eq_true (by omega)
          have hcc0 := hcc
          simp only [Go.Addr.add, if_true] at hcc0
          have d5b : (0 : Int) < (center.length : Int) := by omega
          have d6b : (0 : Int) < (best.length : Int) := by omega
          have d7b : (0 : Int) < (first.length : Int) := by omega
          go_wp2_with (go_at_call 18; refine (impl_FarthestTo.calls k _ _ people (rd center 0) far true _ Rp52.out HL5.out Y6.out).mono ?_; rintro e wz ⟨rfl, hb⟩; have hcs' : wz.cell? (as_.add 0) = some (.int .i64 (rd best 0)) := laws_FnBoxesPut.cell_keep hb hcs; have hcf' : wz.cell? (af.add 0) = some (.int .i64 (rd first 0)) := laws_FnBoxesPut.cell_keep hb hcf; have hcs0 := hcs'; have hcf0 := hcf'; simp only [Go.Addr.add, if_true] at hcs0 hcf0; have HBz := Aside0.mk (below_then HB52.out HB52.out.size hb); clear hb)
          go_quiet (fail)
          go_wp2
          go_meet
          case rel => exact ⟨pw_below_drewN HBz.out _⟩

  case rest => as_aux_lemma =>
    have HBc := hcut
    clear hcut HB0 HB1 HB2 HB3 HB4 HB5 HB6 HB7 HB8 HB9 Rp2 Rp3 Rp4 Rp5 Rp6 Rp7 Rp8 Rp9 Rf3 Rf4 Rf5 Rf6 Rf7 Rf8 Rf9 Rg4 Rg5 Rg6 Rg7 Rg8 Rg9 HL5 HL7 HL9 O1 O2 O3 O4 O5 O6 O7 O8 O9 HR0 HC0 HBG
    obtain ⟨p, boxes, each, q, sum, wide, need, five, nine, u1, u2, u3, u4, u5, u6, u7, u8, u9, u10, u11⟩ := HT.out
    have U1 := Aside0.mk u1
    have U2 := Aside0.mk u2
    have U3 := Aside0.mk u3
    have U4 := Aside0.mk u4
    have U5 := Aside0.mk u5
    have U6 := Aside0.mk u6
    have U7 := Aside0.mk u7
    have U8 := Aside0.mk u8
    have U9 := Aside0.mk u9
    have U10 := Aside0.mk u10
    have U11 := Aside0.mk u11
    have q1 : (five != five) = false := bne_self_eq_false five
    have q2 : (nine != nine) = false := bne_self_eq_false nine
    have q3 : (sum != sum) = false := bne_self_eq_false sum
    have q4 : (need != need) = false := bne_self_eq_false need
    clear u1 u2 u3 u4 u5 u6 u7 u8 u9 u10 u11 HT
    go_upto_if 352 with (first | (go_at_call 19; refine (spec_DrawBoxOfEach.calls k _ _ _ p boxes _ (Kd.C_below HR1.out HBc.out) HC1.out U1.out).mono ?_; rintro e w61 ⟨v35, v36, rfl, hR, hS, hb⟩; have hb : Below wc.heap.size wc w61 := (by first | exact hb | exact hb.below); have HB61 := Aside0.mk (below_then HBc.out HBc.out.size hb); obtain ⟨A35, c35, rfl, hl35, hC35⟩ := Kd.R_reads hR; have HL35 := Aside0.mk hl35; have Ra61 := Aside0.mk hC35; clear hl35 hC35 hR; obtain ⟨A36, c36, rfl, hl36, hC36⟩ := Kd.R_reads hS; have HL36 := Aside0.mk hl36; have Rb61 := Aside0.mk hC36; clear hl36 hC36 hS; clear hb) | (go_at_call 20; refine (impl_BoxOfEach.calls k _ _ p _ _ boxes each five _ Ra61.out HL35.out Rb61.out HL36.out U2.out).mono ?_; rintro e w62 ⟨v37, rfl, hR, hb⟩; have hb : Below w61.heap.size w61 w62 := (by first | exact hb | exact hb.below); have HB62 := Aside0.mk (below_then HB61.out HB61.out.size hb); have Ra62 := Aside0.mk (Kd.C_below Ra61.out hb); have Rb62 := Aside0.mk (Kd.C_below Rb61.out hb); obtain ⟨A37, c37, rfl, hl37, hC37⟩ := Kd.R_reads hR; have HL37 := Aside0.mk hl37; have Re62 := Aside0.mk hC37; clear hl37 hC37 hR; clear hb) | (go_at_call 21; refine (spec_BoxOfEach.calls k _ _ p _ _ boxes each five _ Ra62.out HL35.out Rb62.out HL36.out U3.out).mono ?_; rintro e w63 ⟨v39, rfl, hR, hb⟩; have hb : Below w62.heap.size w62 w63 := (by first | exact hb | exact hb.below); have HB63 := Aside0.mk (below_then HB62.out HB62.out.size hb); have Ra63 := Aside0.mk (Kd.C_below Ra62.out hb); have Rb63 := Aside0.mk (Kd.C_below Rb62.out hb); have Re63 := Aside0.mk (Kd.C_below Re62.out hb); obtain ⟨A39, c39, rfl, hl39, hC39⟩ := Kd.R_reads hR; have HL39 := Aside0.mk hl39; have Rv63 := Aside0.mk hC39; clear hl39 hC39 hR; clear hb) | (go_at_call 13; refine (impl_BoxesSum.calls k _ _ p _ _ boxes sum five _ Ra63.out HL35.out Rb63.out HL36.out U4.out).mono ?_; rintro e w64 ⟨rfl, hb⟩; have hb : Below w63.heap.size w63 w64 := (by first | exact hb | exact hb.below); have HB64 := Aside0.mk (below_then HB63.out HB63.out.size hb); have Ra64 := Aside0.mk (Kd.C_below Ra63.out hb); have Rb64 := Aside0.mk (Kd.C_below Rb63.out hb); have Re64 := Aside0.mk (Kd.C_below Re63.out hb); have Rv64 := Aside0.mk (Kd.C_below Rv63.out hb); clear hb) | (go_at_call 22; refine (spec_BoxesSum.calls k _ _ p _ _ boxes sum five _ Ra64.out HL35.out Rb64.out HL36.out U5.out).mono ?_; rintro e w65 ⟨rfl, hb⟩; have hb : Below w64.heap.size w64 w65 := (by first | exact hb | exact hb.below); have HB65 := Aside0.mk (below_then HB64.out HB64.out.size hb); have Ra65 := Aside0.mk (Kd.C_below Ra64.out hb); have Rb65 := Aside0.mk (Kd.C_below Rb64.out hb); have Re65 := Aside0.mk (Kd.C_below Re64.out hb); have Rv65 := Aside0.mk (Kd.C_below Rv64.out hb); clear hb) | (go_at_call 23; refine (spec_DrawFewestBoxes.calls k _ _ _ q wide _ (Kd.C_below HR1.out HB65.out) HC1.out U6.out).mono ?_; rintro e w66 ⟨v45, rfl, hR, hb⟩; have hb : Below w65.heap.size w65 w66 := (by first | exact hb | exact hb.below); have HB66 := Aside0.mk (below_then HB65.out HB65.out.size hb); have Ra66 := Aside0.mk (Kd.C_below Ra65.out hb); have Rb66 := Aside0.mk (Kd.C_below Rb65.out hb); have Re66 := Aside0.mk (Kd.C_below Re65.out hb); have Rv66 := Aside0.mk (Kd.C_below Rv65.out hb); obtain ⟨A45, c45, rfl, hl45, hC45⟩ := Kd.R_reads hR; have HL45 := Aside0.mk hl45; have Rq66 := Aside0.mk hC45; clear hl45 hC45 hR; clear hb) | (go_at_call 14; refine (impl_FewestBoxes.calls k _ _ q wide need nine _ Rq66.out HL45.out U7.out).mono ?_; rintro e w67 ⟨rfl, hb⟩; have hb : Below w66.heap.size w66 w67 := (by first | exact hb | exact hb.below); have HB67 := Aside0.mk (below_then HB66.out HB66.out.size hb); have Ra67 := Aside0.mk (Kd.C_below Ra66.out hb); have Rb67 := Aside0.mk (Kd.C_below Rb66.out hb); have Re67 := Aside0.mk (Kd.C_below Re66.out hb); have Rv67 := Aside0.mk (Kd.C_below Rv66.out hb); have Rq67 := Aside0.mk (Kd.C_below Rq66.out hb); clear hb) | (go_at_call 24; refine (spec_FewestBoxes.calls k _ _ q wide need nine _ Rq67.out HL45.out U8.out).mono ?_; rintro e w68 ⟨rfl, hb⟩; have hb : Below w67.heap.size w67 w68 := (by first | exact hb | exact hb.below); have HB68 := Aside0.mk (below_then HB67.out HB67.out.size hb); have Ra68 := Aside0.mk (Kd.C_below Ra67.out hb); have Rb68 := Aside0.mk (Kd.C_below Rb67.out hb); have Re68 := Aside0.mk (Kd.C_below Re67.out hb); have Rv68 := Aside0.mk (Kd.C_below Rv67.out hb); have Rq68 := Aside0.mk (Kd.C_below Rq67.out hb); clear hb) | (go_at_call 12; refine (laws_zSame.calls k _ _ _ _ _ _ true _ Re68.out HL37.out Rv68.out HL39.out U9.out).mono ?_; rintro e w69 ⟨rfl, hb⟩; have hb : Below w68.heap.size w68 w69 := (by first | exact hb | exact hb.below); have HB69 := Aside0.mk (below_then HB68.out HB68.out.size hb); have Ra69 := Aside0.mk (Kd.C_below Ra68.out hb); have Rb69 := Aside0.mk (Kd.C_below Rb68.out hb); have Re69 := Aside0.mk (Kd.C_below Re68.out hb); have Rv69 := Aside0.mk (Kd.C_below Rv68.out hb); have Rq69 := Aside0.mk (Kd.C_below Rq68.out hb); clear hb))
    clear q1 q2 q3 q4
    go_cut [] (fun wc => Aside0 (Below w.heap.size w wc))
    case first => as_aux_lemma =>
      cases five with
      | false =>
        go_wp2
        go_meet
        case rel => exact HB69
      | true =>
        obtain ⟨n1, n2, n3, n4, n5, n6, n7, n8, lowest, n9, n10⟩ := U10.out rfl
        have N4 := Aside0.mk n4
        have N5 := Aside0.mk n5
        have N6 := Aside0.mk n6
        have N7 := Aside0.mk n7
        have N8 := Aside0.mk n8
        have N9 := Aside0.mk n9
        have N10 := Aside0.mk n10
        have N1 := Aside0.mk n1
        have NT := Aside0.mk (laws_FnBoxesPut.tot_le p each p.length n4 n2)
        clear n1 n4 n5 n6 n7 n8 n9 n10 U10 U11
        go_wp2
        go_loopw [51, 355] (fun v51 v355 wr => ∃ j : Nat, j ≤ p.length ∧ v51 = .int .i64 (laws_FnBoxesPut.tot p each j) ∧ v355 = .int .i64 (j : Int) ∧ Aside0 (Below w69.heap.size w69 wr)) (fun _ v355 _ => p.length - (intOf v355).toNat)
        case atStart => exact ⟨0, Nat.zero_le _, rfl, rfl, ⟨Below.refl _ _⟩⟩
        case round => as_aux_lemma =>
          obtain ⟨j, hj, rfl, rfl, HB⟩ := hrel
          by_cases hlt : j < p.length
          · as_aux_lemma =>
            have d1 : decide ((j : Int) < (each.length : Int)) = true := decide_eq_true (by have := N1.out; omega)
            have d1b : decide (j < each.length) = true := decide_eq_true (by have := N1.out; omega)
            have d1c : (j : Int) < (each.length : Int) := by have := N1.out; omega
            have d1d : j < each.length := by have := N1.out; omega
            obtain ⟨ae, rfl, hce⟩ := laws_FnBoxesPut.cell_C (Kd.C_below Re69.out HB.out) j (by have := N1.out; omega)
            obtain ⟨⟨hp0, hp1⟩, hx0, hx1⟩ := N4.out j hlt
            obtain ⟨hzh, hpr⟩ := N5.out j hlt
            have HZH := Aside0.mk hzh
            have HPR := Aside0.mk hpr
            have HN7 := Aside0.mk (N7.out j hlt)
            obtain ⟨ht0, ht1⟩ := NT.out j hj
            have HTS := Aside0.mk (show laws_FnBoxesPut.tot p each (j + 1) = laws_FnBoxesPut.tot p each j + rd p j * ((rd each j - (j : Int)).natAbs : Int) from rfl)
            clear hzh hpr
            generalize laws_FnBoxesPut.tot p each j = T at *
            generalize hX : rd each (j : Int) = x at *
            clear hX
            go_upto_if 364 with (fail)
            go_cut [54] (fun v54 wd => v54 = .int .i64 ((x - (j : Int)).natAbs : Int) ∧ wd = wr)
            case first => as_aux_lemma =>
              by_cases hs : x - (j : Int) < 0
              · have d2 : decide (x - (j : Int) < 0) = true := decide_eq_true hs
                go_wp2
                go_meet
                case rel => exact ⟨by first | exact congrArg (Value.int .i64) (by omega) | exact congrArg (Value.int .i64) (by unfold wrap64; omega), rfl⟩
              · have d2 : decide (x - (j : Int) < 0) = false := decide_eq_false hs
                go_wp2
                go_meet
                case rel => exact ⟨by first | exact congrArg (Value.int .i64) (by omega) | exact congrArg (Value.int .i64) (by unfold wrap64; omega), rfl⟩
            case rest => as_aux_lemma =>
              obtain ⟨rfl, rfl⟩ := hcut
              obtain ⟨W, hW⟩ : ∃ W : Nat, W = (x - (j : Int)).natAbs := ⟨_, rfl⟩
              rw [← hW] at HN7 HTS ⊢
              have hW100 : W ≤ 100 := by omega
              clear hW
              go_upto_region 49 with (fail)
              go_cut [383] (fun v383 wd => v383 = .bool false ∧ Aside0 (Below w69.heap.size w69 wd))
              case first => as_aux_lemma =>
                by_cases h0 : j = 0
                · have d3 : decide ((0 : Int) < (j : Int)) = false := decide_eq_false (by omega)
                  have d3b : decide (0 < j) = false := decide_eq_false (by omega)
                  clear h0
                  go_wp2_with (go_at_call 25; refine (laws_zHas.calls k _ _ boxes x true _ (Kd.C_below Rb69.out HB.out) HL36.out HZH.out).mono ?_; rintro e we ⟨rfl, hd⟩; have HBz := Aside0.mk (below_then HB.out HB.out.size hd.below); clear hd)
                  go_meet
                  case rel => exact ⟨rfl, HBz⟩
                · obtain ⟨m, rfl⟩ : ∃ m, j = m + 1 := ⟨j - 1, by omega⟩
                  have d3 : decide ((0 : Int) < ((m + 1 : Nat) : Int)) = true := decide_eq_true (by omega)
                  have hcp : wc.cell? (ae.add m) = some (.int .i64 (rd each (m : Int))) := by
                    obtain ⟨ae', e, h⟩ := laws_FnBoxesPut.cell_C (Kd.C_below Re69.out HB.out) m (by have := N1.out; omega)
                    obtain rfl := Option.some.inj e
                    exact h
                  have hle : rd each (m : Int) ≤ x := HPR.out (by omega)
                  have d4 : decide (x < rd each (m : Int)) = false := decide_eq_false (by omega)
                  have d5 : decide ((m : Int) < (each.length : Int)) = true := decide_eq_true (by have := N1.out; omega)
                  have d5c : (m : Int) < (each.length : Int) := by have := N1.out; omega
                  have d5d : m < each.length := by have := N1.out; omega
                  have d3b : decide ((0 : Int) < (m : Int) + 1) = true := decide_eq_true (by omega)
                  have e1 : (((m + 1 : Nat) : Int) - 1) = (m : Int) := by omega
                  have e2 : IntKind.i64.wrap (m : Int) = (m : Int) := (i64_w _).trans (by unfold wrap64; omega)
                  have e4 : ((m : Int) + 1 - 1) = (m : Int) := by omega
                  have hjm : m + 1 ≤ 100 := by omega
                  go_wp2_with (go_at_call 25; refine (laws_zHas.calls k _ _ boxes x true _ (Kd.C_below Rb69.out HB.out) HL36.out HZH.out).mono ?_; rintro e we ⟨rfl, hd⟩; have HBz := Aside0.mk (below_then HB.out HB.out.size hd.below); have hcp2 := laws_FnBoxesPut.cell_keep hd.below hcp; clear hd)
                  go_meet
                  case rel => exact ⟨rfl, HBz⟩
              case rest => as_aux_lemma =>
                obtain ⟨rfl, HB2⟩ := hcut
                clear HB hce d1 d1b d1c d1d
                go_wp2
                go_loop [386] (fun v386 => ∃ i : Nat, i ≤ boxes.length ∧ v386 = .int .i64 (i : Int)) (fun v386 => boxes.length - (intOf v386).toNat)
                case atStart => exact ⟨0, Nat.zero_le _, rfl⟩
                case round => as_aux_lemma =>
                  obtain ⟨i, hi, rfl⟩ := hrel
                  by_cases hib : i < boxes.length
                  · have d6 : decide ((i : Int) < (boxes.length : Int)) = true := decide_eq_true (by omega)
                    obtain ⟨ab, rfl, hcb⟩ := laws_FnBoxesPut.cell_C (Kd.C_below Rb69.out HB2.out) i hib
                    obtain ⟨hy0, hy1⟩ := N6.out i hib
                    obtain ⟨h7, h8⟩ := HN7.out i hib
                    generalize rd boxes (i : Int) = y at *
                    go_upto_if 394 with (fail)
                    go_cut [57] (fun v57 we => v57 = .int .i64 ((y - (j : Int)).natAbs : Int) ∧ we = wc)
                    case first => as_aux_lemma =>
                      by_cases hs : y - (j : Int) < 0
                      · have d2 : decide (y - (j : Int) < 0) = true := decide_eq_true hs
                        go_wp2
                        go_meet
                        case rel => exact ⟨by first | exact congrArg (Value.int .i64) (by omega) | exact congrArg (Value.int .i64) (by unfold wrap64; omega), rfl⟩
                      · have d2 : decide (y - (j : Int) < 0) = false := decide_eq_false hs
                        go_wp2
                        go_meet
                        case rel => exact ⟨by first | exact congrArg (Value.int .i64) (by omega) | exact congrArg (Value.int .i64) (by unfold wrap64; omega), rfl⟩
                    case rest => as_aux_lemma =>
                      obtain ⟨rfl, rfl⟩ := hcut
                      generalize (y - (j : Int)).natAbs = O at *
                      have d7 : decide ((O : Int) < (W : Int)) = false := decide_eq_false (by omega)
                      by_cases hOW : O = W
                      · have d8 : ((O : Int) == (W : Int)) = true := by rw [hOW]; exact beq_self_eq_true _
                        have d9 : decide (y < x) = false := decide_eq_false (by have := h8 hOW; omega)
                        clear h8 hOW
                        go_wp2
                        go_round
                        case rel => exact ⟨i + 1, by omega, by go_num⟩
                        case measure => first | (simp [intOf]; done) | (simp [intOf]; omega)
                      · have d8 : ((O : Int) == (W : Int)) = false := beq_eq_false_iff_ne.2 (by omega)
                        clear h8 hOW
                        go_wp2
                        go_round
                        case rel => exact ⟨i + 1, by omega, by go_num⟩
                        case measure => first | (simp [intOf]; done) | (simp [intOf]; omega)
                  · obtain rfl : i = boxes.length := by omega
                    have d6 : decide ((boxes.length : Int) < (boxes.length : Int)) = false := decide_eq_false (by omega)
                    obtain ⟨ap, rfl, hcp⟩ := laws_FnBoxesPut.cell_C (Kd.C_below Ra69.out HB2.out) j hlt
                    have d7 : decide ((j : Int) < (p.length : Int)) = true := decide_eq_true (by omega)
                    generalize rd p (j : Int) = z at *
                    have hzW : 0 ≤ z * (W : Int) ∧ z * (W : Int) ≤ 100000 := by
                      have h1 := Int.mul_nonneg hp0 (by omega : (0 : Int) ≤ (W : Int))
                      have h2 := Int.mul_le_mul hp1 (by omega : (W : Int) ≤ 100) (by omega : (0 : Int) ≤ (W : Int)) (by omega : (0 : Int) ≤ 1000)
                      exact ⟨h1, by omega⟩
                    have e1 : IntKind.i64.wrap (z * (W : Int)) = z * (W : Int) := (i64_w _).trans (by unfold wrap64; omega)
                    have e2 : IntKind.i64.wrap (T + z * (W : Int)) = T + z * (W : Int) := (i64_w _).trans (by unfold wrap64; omega)
                    clear hib hi
                    go_wp2
                    go_roundw
                    case rel => exact ⟨j + 1, by omega, by rw [HTS.out], by go_num, HB2⟩
                    case measure => first | (simp [intOf]; done) | (simp [intOf]; omega)
          · as_aux_lemma =>
            obtain rfl : j = p.length := by omega
            have d1 : decide ((p.length : Int) < (each.length : Int)) = false := decide_eq_false (by have := N1.out; omega)
            have d1b : decide (p.length < each.length) = false := decide_eq_false (by have := N1.out; omega)
            have d1c : ¬ (p.length : Int) < (each.length : Int) := by have := N1.out; omega
            have d1d : ¬ p.length < each.length := by have := N1.out; omega
            rw [N8.out]
            have d2 : ((each.length : Int) != (p.length : Int)) = false := by rw [N1.out]; exact bne_self_eq_false _
            have d3 : (sum != sum) = false := bne_self_eq_false sum
            have d4 : decide (sum < lowest) = false := decide_eq_false (by have := N10.out; omega)
            clear hlt hj
            go_wp2_with (go_at_call 8; refine (impl_LeastBoxesSum.calls k _ _ p (boxes.length : Int) lowest true _ (Kd.C_below Ra69.out HB.out) HL35.out N9.out).mono ?_; rintro e wz ⟨rfl, hb⟩; have HBz := Aside0.mk (below_then HB69.out HB69.out.size (below_then HB.out HB.out.size hb)); clear hb)
            go_meet
            case rel => exact HBz
    case rest => as_aux_lemma =>
      have HBd := hcut
      clear hcut
      cases nine with
      | false =>
        go_wp2
        go_ret
        exact ⟨rfl, HBd.out⟩
      | true =>
        obtain ⟨h1, h2, h3⟩ := U11.out rfl
        have d1 : decide (need < 1) = false := decide_eq_false (by omega)
        have d2 : decide (5 < need) = false := decide_eq_false (by omega)
        have d3 : decide ((q.length : Int) < need) = false := decide_eq_false (by omega)
        go_wp2
        go_ret
        exact ⟨rfl, HBd.out⟩

/-- The one pure statement of laws_FnBoxesPut. -/
def laws_FnBoxesPut.Pure : Prop := ∀ (l0 : List Int) (l1 : List Int), l0.length ≤ maxLen → l0.length * 1 ≤ 140737488351232 → (∀ x ∈ l0, (Lit.int .u8 x).wf = true) → l1.length ≤ maxLen → l1.length * 1 ≤ 140737488351232 → (∀ x ∈ l1, (Lit.int .u8 x).wf = true) → laws_FnBoxesPut.f l0 l1 = some true
theorem laws_FnBoxesPut.walk (P : laws_FnBoxesPut.Pure) (a0 : Option Addr) (len0 cap0 : Nat) (z0 : List Int) (a1 : Option Addr) (len1 cap1 : Nat) (z1 : List Int) (w : World) (w0 : (a0 = none ∧ len0 = 0 ∧ cap0 = 0 ∧ z0 = []) ∨ ∃ x, a0 = some x ∧ len0 ≤ cap0 ∧ cap0 ≤ maxLen ∧ z0.length = cap0 ∧ (∀ i, i < z0.length → w.cell? (x.add i) = some (.int .u8 (z0.getD i 0))) ∧ ∀ n ∈ z0, (Lit.int .u8 n).wf = true) (y0 : len0 * 1 ≤ 140737488351232) (w1 : (a1 = none ∧ len1 = 0 ∧ cap1 = 0 ∧ z1 = []) ∨ ∃ x, a1 = some x ∧ len1 ≤ cap1 ∧ cap1 ≤ maxLen ∧ z1.length = cap1 ∧ (∀ i, i < z1.length → w.cell? (x.add i) = some (.int .u8 (z1.getD i 0))) ∧ ∀ n ∈ z1, (Lit.int .u8 n).wf = true) (y1 : len1 * 1 ≤ 140737488351232) :
    Calls Try.prog 3 #[.slice a0 len0 cap0, .slice a1 len1 cap1] w fun e w' => e = .returned (.bool true) ∧ Below w.heap.size w w' := by
  obtain ⟨l0, rfl, hr0, hm0, hw0, hc0⟩ := ReadsInt.ofRowC w0
  obtain ⟨l1, rfl, hr1, hm1, hw1, hc1⟩ := ReadsInt.ofRowC w1
  have h := P l0 l1 hm0 y0 hw0 hm1 y1 hw1
  refine (laws_FnBoxesPut.calls _ _ l0 _ _ l1 true w (Kd.C_of_reads (d := (0 : Int)) (h1 := fun _ => rfl) hr0) hc0 (Kd.C_of_reads (d := (0 : Int)) (h1 := fun _ => rfl) hr1) hc1 h).mono ?_
  rintro e w' ⟨rfl, hd⟩
  exact ⟨rfl, hd⟩

end Go.Proofs.Ytkbdlcbempjmnaa.MX
