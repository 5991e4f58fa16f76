-- The machine side, written by this repo's program mp.py; contracts marked as of this repo are this session's own.
import Derived.Test.YteldjmljidmffaaGreatDoorMXx0
import Derived.Test.YteldjmljidmffaaGreatDoorMXx1
import Derived.Test.YteldjmljidmffaaGreatDoorMXx2
import Derived.Test.YteldjmljidmffaaGreatDoorMXx3
import Derived.Test.YteldjmljidmffaaGreatDoorMXx4
import Derived.Test.YteldjmljidmffaaGreatDoorMXx5
import Derived.Test.YteldjmljidmffaaGreatDoorMXx6
import Derived.Test.YteldjmljidmffaaGreatDoorMXx7
import Derived.Test.YteldjmljidmffaaGreatDoorMXx8
import Derived.Test.YteldjmljidmffaaGreatDoorMXx9
import Derived.Test.YteldjmljidmffaaGreatDoorMXx10
import Derived.Test.YteldjmljidmffaaGreatDoorMXx11
namespace Go.Proofs.YteldjmljidmffaaGreatDoor.MX
open Go.RowKit Go.Proofs.YteldjmljidmffaaGreatDoorW.PrintWords Go.Proofs.YteldjmljidmffaaGreatDoorW.PrintLast Go.Proofs.YteldjmljidmffaaGreatDoorW.PrintMore
attribute [local go_sem] max2_int min2_int max_two min_two max_three min_three max_four min_four   -- for this text's walks alone
set_option linter.unusedVariables false
set_option linter.unusedSimpArgs false

/-! ### laws_FnPeopleMeet: function 3 (a contract of this repo) -/
/-- A row of numbers that is only read; the blocks that it leads to lie in ok. -/
def laws_FnPeopleMeet.Rw (W : World) (ok : Nat → Prop) (A : Option Addr) (c : Nat) (l : List Int) : Prop := Kd.V (Kd.int .i64) 3 W 0 ok (.slice A l.length c) l
theorem laws_FnPeopleMeet.Rw.of {W : World} {b : Nat} {ok : Nat → Prop} {v : Value} {l : List Int} (h : Kd.V (Kd.int .i64) 3 W b ok v l) : ∃ A c, v = .slice A l.length c ∧ laws_FnPeopleMeet.Rw W ok A c l := by
  obtain ⟨A, c, rfl, hl, hf⟩ := h
  exact ⟨A, c, rfl, A, c, rfl, hl, hf⟩
theorem laws_FnPeopleMeet.Rw.C {W : World} {ok : Nat → Prop} {A : Option Addr} {c : Nat} {l : List Int} (h : laws_FnPeopleMeet.Rw W ok A c l) : Kd.C (Kd.int .i64) W A l.length l := (Kd.V_reads' h).2.2
theorem laws_FnPeopleMeet.Rw.le {W : World} {ok : Nat → Prop} {A : Option Addr} {c : Nat} {l : List Int} (h : laws_FnPeopleMeet.Rw W ok A c l) : l.length ≤ c := (Kd.V_reads' h).2.1
theorem laws_FnPeopleMeet.Rw.mono {W : World} {ok ok' : Nat → Prop} {A : Option Addr} {c : Nat} {l : List Int} (h : laws_FnPeopleMeet.Rw W ok A c l) (hk : ∀ k, ok k → ok' k) : laws_FnPeopleMeet.Rw W ok' A c l := Kd.V_mono h hk
theorem laws_FnPeopleMeet.Rw.V {W : World} {ok : Nat → Prop} {A : Option Addr} {c : Nat} {l : List Int} (h : laws_FnPeopleMeet.Rw W ok A c l) (b : Nat) : Kd.V (Kd.int .i64) 3 W b (fun _ => True) (.slice A l.length c) l := Kd.V_map h (fun _ hf => Kd.F_mono hf (fun _ _ => trivial))
theorem laws_FnPeopleMeet.Rw.below {W W' : World} {ok : Nat → Prop} {A : Option Addr} {c : Nat} {l : List Int} (h : laws_FnPeopleMeet.Rw W ok A c l) (hb : Below W.heap.size W W') : laws_FnPeopleMeet.Rw W' ok A c l := Kd.V_below h hb
theorem laws_FnPeopleMeet.Rw.alloc {W : World} {ok : Nat → Prop} {A : Option Addr} {c : Nat} {l : List Int} (h : laws_FnPeopleMeet.Rw W ok A c l) (o : Obj) : laws_FnPeopleMeet.Rw (W.alloc o) ok A c l := Kd.V_alloc h o
theorem laws_FnPeopleMeet.Rw.drew {W : World} {ok : Nat → Prop} {A : Option Addr} {c : Nat} {l : List Int} (h : laws_FnPeopleMeet.Rw W ok A c l) : laws_FnPeopleMeet.Rw W.drew ok A c l := Kd.V_drew h
theorem laws_FnPeopleMeet.Rw.bound {W : World} {ok : Nat → Prop} {A : Option Addr} {c : Nat} {l : List Int} (h : laws_FnPeopleMeet.Rw W ok A c l) : laws_FnPeopleMeet.Rw W (fun k => k < W.heap.size) A c l := Kd.V_mono (Kd.V_bound h) (fun _ hk => hk.2)
theorem laws_FnPeopleMeet.Rw.step {W W' : World} {ok : Nat → Prop} {A : Option Addr} {c : Nat} {l : List Int} (h : laws_FnPeopleMeet.Rw W ok A c l) (hm : ∀ k, ok k → k < W.heap.size → W'.heap[k]? = W.heap[k]?) : laws_FnPeopleMeet.Rw W' ok A c l := Kd.V_step h hm
/-- A row of one's own, made behind a world: its blocks lie behind it. -/
theorem laws_FnPeopleMeet.Rw.ofR {W : World} {b : Nat} {ok : Nat → Prop} {v : Value} {l : List Int} (h : Kd.R (Kd.int .i64) 3 W b ok v l) : ∃ A c, v = .slice A l.length c ∧ laws_FnPeopleMeet.Rw W (fun k => b ≤ k) A c l := by
  have h2 : Kd.V (Kd.int .i64) 3 W 0 (fun k => b ≤ k) v l := Kd.V_mono (Kd.R_V (Kd.R_bound h)) (fun _ hk => hk.2.1)
  obtain ⟨A, c, rfl, hl, hf⟩ := h2
  exact ⟨A, c, rfl, A, c, rfl, hl, hf⟩
theorem laws_FnPeopleMeet.cell_C {W : World} {A : Option Addr} {l : List Int} (h : Kd.C (Kd.int .i64) W A l.length l) (j : Nat) (hj : j < l.length) : ∃ ad, A = some ad ∧ W.cell? (ad.add j) = some (.int .i64 (rd l j)) := by
  obtain ⟨ad, cs, e, -, hK, hc⟩ := Kd.C_get h 0 (j : Int) (by omega) (by omega)
  have hK : cs = [Value.int .i64 (l.getD j 0)] := hK
  have h0 := hc 0 (Value.int .i64 (l.getD j 0)) (by rw [hK]; rfl)
  rw [show (j : Int).toNat * (Kd.int .i64).sz + 0 = j by show j * 1 + 0 = j; omega] at h0
  exact ⟨ad, e, by rw [show rd l j = l.getD j 0 by simp [rd]]; exact h0⟩
/-- What is asked of a house. -/
def laws_FnPeopleMeet.Each (k : Nat) (p best center table : List Int) (far all : Int) (tw before total : Nat → Int) (b0 j : Nat) : Prop :=
  impl_WalksTo.f k p (j : Int) = some (rd table (j : Int), true) ∧ impl_FarthestTo.f k p (j : Int) = some (tw j, true) ∧ impl_PeopleWithin.f k p (j : Int) 0 = some (rd p (j : Int), true) ∧ laws_zHas.f k center (j : Int) = some (tw j == far) ∧ laws_zHas.f k best (j : Int) = some (rd table (j : Int) == rd table (b0 : Int)) ∧
  (far ≤ tw j ∧ rd table (b0 : Int) ≤ rd table (j : Int)) ∧ (rd table (j : Int) == rd table (b0 : Int)) = (decide (2 * before j ≤ all) && decide (2 * (all - before j - rd p (j : Int)) ≤ all)) ∧ before (j + 1) = before j + rd p (j : Int) ∧ total (j + 1) = total j + (j : Int) * rd p (j : Int) ∧ 0 ≤ rd p (j : Int) ∧ rd p (j : Int) ≤ 1000
/-- What is asked where there are people. -/
def laws_FnPeopleMeet.Ok (k : Nat) (p best center table mirror : List Int) (num den : Int) (text : ByteArray) : Prop := ∃ (far all : Int) (other : List Int) (tw before total : Nat → Int) (b0 : Nat),
  table.length = p.length ∧ laws_zRises.f k best = some true ∧ laws_zRises.f k center = some true ∧ (1 ≤ best.length ∧ best.length ≤ 100) ∧ (1 ≤ center.length ∧ center.length ≤ 2) ∧ impl_FarthestTo.f k p (rd center 0) = some (far, true) ∧ laws_zSum.f k p = some all ∧ (p.length ≤ 100 ∧ 0 ≤ all ∧ all ≤ 100000) ∧ (before 0 = 0 ∧ total 0 = 0) ∧
  (∀ j : Nat, j ≤ p.length → (0 ≤ before j ∧ before j ≤ 100000) ∧ 0 ≤ total j ∧ total j ≤ 10000000) ∧ (∀ j : Nat, j < p.length → laws_FnPeopleMeet.Each k p best center table far all tw before total b0 j) ∧ (rd best 0 = (b0 : Int) ∧ b0 < p.length) ∧
  impl_ParsePeople.f k text = some (p, true) ∧ impl_MirrorPeople.f k mirror = some (p, true) ∧ impl_BestHouses.f k mirror = some (other, true) ∧ laws_zSame.f k p p = some true ∧ (num * all = total p.length * den ∧ (0 ≤ num * all ∧ num * all ≤ 1000000000000000) ∧ 1 ≤ den) ∧ other.length = best.length ∧
  (rd other 0 = (p.length : Int) - 1 - rd best ((best.length : Int) - 1) ∧ 0 ≤ rd best ((best.length : Int) - 1) ∧ rd best ((best.length : Int) - 1) ≤ 1000)
def laws_FnPeopleMeet.One (k : Nat) (l0 : List Int) : Prop := ∃ (p best center table mirror : List Int) (num den : Int) (text : ByteArray) (ok : Bool), spec_DrawBestHouses.f k l0 = some p ∧ impl_BestHouses.f k p = some (best, ok) ∧ spec_BestHouses.f k p = some (best, ok) ∧ impl_CenterHouses.f k p = some (center, ok) ∧ spec_CenterHouses.f k p = some (center, ok) ∧ impl_SumTable.f k p = some (table, ok) ∧ spec_SumTable.f k p = some (table, ok) ∧ impl_MeanHouse.f k p = some (num, den, ok) ∧ spec_MeanHouse.f k p = some (num, den, ok) ∧ impl_MirrorPeople.f k p = some (mirror, ok) ∧ spec_MirrorPeople.f k p = some (mirror, ok) ∧ impl_PeopleText.f k p = some (text, ok) ∧ spec_PeopleText.f k p = some (text, ok) ∧ impl_ArePeople.f k p = some ok ∧ spec_ArePeople.f k p = some ok ∧ laws_zSame.f k best best = some true ∧ laws_zSame.f k center center = some true ∧ laws_zSame.f k table table = some true ∧ laws_zSame.f k mirror mirror = some true ∧ (ok = true → laws_FnPeopleMeet.Ok k p best center table mirror num den text)
def laws_FnPeopleMeet.Two (k : Nat) (l1 : List Int) : Prop := ∃ (p moved q read : List Int) (fr tw many house wide within far : Int) (s : ByteArray) (e t f v : Bool), spec_DrawMovedPeople.f k l1 = some (p, fr, tw, many) ∧ impl_MovedPeople.f k p fr tw many = some (moved, e) ∧ spec_MovedPeople.f k p fr tw many = some (moved, e) ∧ spec_DrawPeopleWithin.f k l1 = some (q, house, wide) ∧ impl_PeopleWithin.f k q house wide = some (within, t) ∧ spec_PeopleWithin.f k q house wide = some (within, t) ∧ impl_FarthestTo.f k q house = some (far, f) ∧ spec_FarthestTo.f k q house = some (far, f) ∧ spec_DrawParsePeople.f k l1 = some s ∧ impl_ParsePeople.f k s = some (read, v) ∧ spec_ParsePeople.f k s = some (read, v) ∧ laws_zSame.f k moved moved = some true ∧ laws_zSame.f k read read = some true ∧ (t = true → f = true) ∧
  (e = true → ∃ x y sum : Int, impl_WalksTo.f k p tw = some (x, true) ∧ impl_WalksTo.f k moved tw = some (y, true) ∧ laws_zSum.f k moved = some sum ∧ laws_zSum.f k p = some sum ∧ x - y = many * ((tw - fr).natAbs : Int) ∧ (0 ≤ x ∧ x ≤ 10000000) ∧ (0 ≤ y ∧ y ≤ 10000000) ∧ (0 ≤ tw ∧ tw ≤ 1000) ∧ 0 ≤ fr ∧ fr ≤ 1000) ∧
  (t = true → ∃ sum : Int, laws_zSum.f k q = some sum ∧ 0 ≤ within ∧ within ≤ sum ∧ (within == sum) = decide (far ≤ wide)) ∧ (v = true → impl_PeopleText.f k read = some (s, true))
open Classical in
noncomputable def laws_FnPeopleMeet.f (l0 l1 : List Int) : Option Bool := if ∃ k, laws_big.f l0 l1 = some false ∧ laws_FnPeopleMeet.One k l0 ∧ laws_FnPeopleMeet.Two k l1 then some true else if laws_big.f l0 l1 = some true then some true else none
set_option maxHeartbeats 100000000 in
set_option maxRecDepth 100000 in
theorem laws_FnPeopleMeet.calls (A0 : Option Addr) (c0 : Nat) (l0 : List Int) (A1 : Option Addr) (c1 : Nat) (l1 : List Int) (r : Bool) (w : World) (hr0 : Kd.C (Kd.int .u8) w A0 l0.length l0) (hc0 : l0.length ≤ c0) (hr1 : Kd.C (Kd.int .u8) w A1 l1.length l1) (hc1 : l1.length ≤ c1) (h : laws_FnPeopleMeet.f l0 l1 = some r) (hL : impl_readNumber.Laid w) :
    Calls Tryz.prog 3 #[.slice A0 l0.length c0, .slice A1 l1.length c1] w fun e w' => e = .returned (.bool r) ∧ Below w.heap.size w w' := by
  have HR0 := Aside0.mk hr0
  have HC0 := Aside0.mk hc0
  have HR1 := Aside0.mk hr1
  have HC1 := Aside0.mk hc1
  have HL0 := Aside0.mk hL
  clear hr0 hc0 hr1 hc1 hL
  unfold laws_FnPeopleMeet.f at h
  split at h
  case isFalse =>
    split at h
    · rename_i hb
      obtain rfl : true = r := Option.some.inj h
      have H := Aside0.mk hb
      clear h hb
      go_enter Tryz.func3, Tryz.ntmps3
      go_wp2_with (go_at_call 4; refine (laws_big.calls _ _ _ _ _ _ _ _ HR0.out HC0.out HR1.out HC1.out H.out).mono ?_; rintro e w1 ⟨rfl, hd⟩; have HB1 := Aside0.mk hd.below; clear hd)
      go_ret
      exact ⟨rfl, HB1.out⟩
    · cases h
  case isTrue hh =>
  obtain rfl : true = r := Option.some.inj h
  obtain ⟨k, hb, hO, hT⟩ := hh
  have HBG := Aside0.mk hb
  have HT := Aside0.mk hT
  obtain ⟨p, best, center, table, mirror, num, den, text, ok, o1, o2, o3, o4, o5, o6, o7, o8, o9, o10, o11, o12, o13, o14, o15, o16, o17, o18, o19, o20⟩ := hO
  have O1 := Aside0.mk o1
  have O2 := Aside0.mk o2
  have O3 := Aside0.mk o3
  have O4 := Aside0.mk o4
  have O5 := Aside0.mk o5
  have O6 := Aside0.mk o6
  have O7 := Aside0.mk o7
  have O8 := Aside0.mk o8
  have O9 := Aside0.mk o9
  have O10 := Aside0.mk o10
  have O11 := Aside0.mk o11
  have O12 := Aside0.mk o12
  have O13 := Aside0.mk o13
  have O14 := Aside0.mk o14
  have O15 := Aside0.mk o15
  have O16 := Aside0.mk o16
  have O17 := Aside0.mk o17
  have O18 := Aside0.mk o18
  have O19 := Aside0.mk o19
  have O20 := Aside0.mk o20
  have HB0 := Aside0.mk (Below.refl w.heap.size w)
  clear h hb hT o1 o2 o3 o4 o5 o6 o7 o8 o9 o10 o11 o12 o13 o14 o15 o16 o17 o18 o19 o20
  go_enter Tryz.func3, Tryz.ntmps3
  go_upto_region 3 with (go_at_call 4; refine (laws_big.calls _ _ _ _ _ _ _ _ HR0.out HC0.out HR1.out HC1.out HBG.out).mono ?_; rintro e w1 ⟨rfl, hb⟩; have hb : Below w.heap.size w w1 := (by first | exact hb | exact hb.below); have HB1 := Aside0.mk (below_then HB0.out HB0.out.size hb); have HL1 := Aside0.mk (impl_readNumber.Laid.below HL0.out hb); clear hb HB0 HL0)
  go_upto_region 4 with (go_at_call 5; refine (spec_DrawBestHouses.calls k _ _ _ p _ (Kd.C_below HR0.out HB1.out) HC0.out O1.out).mono ?_; rintro e w2 ⟨v2, rfl, hP, hb⟩; have hb : Below w1.heap.size w1 w2 := (by first | exact hb | exact hb.below); have HB2 := Aside0.mk (below_then HB1.out HB1.out.size hb); have HL2 := Aside0.mk (impl_readNumber.Laid.below HL1.out hb); obtain ⟨ARp, cRp, rfl, hRp_⟩ := laws_FnPeopleMeet.Rw.of (Kd.R_V (base' := 0) hP); have Rp2 := Aside0.mk ((hRp_.mono (fun _ _ => trivial))); clear hRp_ hP; clear hb HB1 HL1)
  go_upto_region 5 with (go_at_call 6; refine (impl_BestHouses.calls k _ _ p best ok _ Rp2.out.C Rp2.out.le O2.out).mono ?_; rintro e w3 ⟨v3, rfl, hP, hb⟩; have hb : Below w2.heap.size w2 w3 := (by first | exact hb | exact hb.below); have HB3 := Aside0.mk (below_then HB2.out HB2.out.size hb); have HL3 := Aside0.mk (impl_readNumber.Laid.below HL2.out hb); have Rp3 := Aside0.mk ((Rp2.out.below hb)); obtain ⟨ARb, cRb, rfl, hRb_⟩ := laws_FnPeopleMeet.Rw.of (Kd.R_V (base' := 0) hP); have Rb3 := Aside0.mk ((hRb_.mono (fun _ _ => trivial))); clear hRb_ hP; clear hb HB2 Rp2 HL2)
  go_upto_region 6 with (go_at_call 7; refine (spec_BestHouses.calls k _ _ p best ok _ Rp3.out.C Rp3.out.le O3.out).mono ?_; rintro e w4 ⟨v4, rfl, hP, hb⟩; have hb : Below w3.heap.size w3 w4 := (by first | exact hb | exact hb.below); have HB4 := Aside0.mk (below_then HB3.out HB3.out.size hb); have HL4 := Aside0.mk (impl_readNumber.Laid.below HL3.out hb); have Rp4 := Aside0.mk ((Rp3.out.below hb)); have Rb4 := Aside0.mk ((Rb3.out.below hb)); obtain ⟨ARc, cRc, rfl, hRc_⟩ := laws_FnPeopleMeet.Rw.of (Kd.R_V (base' := 0) hP); have Rc4 := Aside0.mk ((hRc_.mono (fun _ _ => trivial))); clear hRc_ hP; clear hb HB3 Rp3 Rb3 HL3)
  go_upto_region 7 with (go_at_call 8; refine (impl_CenterHouses.calls k _ _ p center ok _ Rp4.out.C Rp4.out.le O4.out).mono ?_; rintro e w5 ⟨v5, rfl, hP, hb⟩; have hb : Below w4.heap.size w4 w5 := (by first | exact hb | exact hb.below); have HB5 := Aside0.mk (below_then HB4.out HB4.out.size hb); have HL5 := Aside0.mk (impl_readNumber.Laid.below HL4.out hb); have Rp5 := Aside0.mk ((Rp4.out.below hb)); have Rb5 := Aside0.mk ((Rb4.out.below hb)); have Rc5 := Aside0.mk ((Rc4.out.below hb)); obtain ⟨ARe, cRe, rfl, hRe_⟩ := laws_FnPeopleMeet.Rw.of (Kd.R_V (base' := 0) hP); have Re5 := Aside0.mk ((hRe_.mono (fun _ _ => trivial))); clear hRe_ hP; clear hb HB4 Rp4 Rb4 Rc4 HL4)
  go_upto_region 8 with (go_at_call 9; refine (spec_CenterHouses.calls k _ _ p center ok _ Rp5.out.C Rp5.out.le O5.out).mono ?_; rintro e w6 ⟨v6, rfl, hP, hb⟩; have hb : Below w5.heap.size w5 w6 := (by first | exact hb | exact hb.below); have HB6 := Aside0.mk (below_then HB5.out HB5.out.size hb); have HL6 := Aside0.mk (impl_readNumber.Laid.below HL5.out hb); have Rp6 := Aside0.mk ((Rp5.out.below hb)); have Rb6 := Aside0.mk ((Rb5.out.below hb)); have Rc6 := Aside0.mk ((Rc5.out.below hb)); have Re6 := Aside0.mk ((Re5.out.below hb)); obtain ⟨ARf, cRf, rfl, hRf_⟩ := laws_FnPeopleMeet.Rw.of (Kd.R_V (base' := 0) hP); have Rf6 := Aside0.mk ((hRf_.mono (fun _ _ => trivial))); clear hRf_ hP; clear hb HB5 Rp5 Rb5 Rc5 Re5 HL5)
  go_upto_region 9 with (go_at_call 10; refine (impl_SumTable.calls k _ _ p table ok _ Rp6.out.C Rp6.out.le O6.out).mono ?_; rintro e w7 ⟨v7, rfl, hP, hb⟩; have hb : Below w6.heap.size w6 w7 := (by first | exact hb | exact hb.below); have HB7 := Aside0.mk (below_then HB6.out HB6.out.size hb); have HL7 := Aside0.mk (impl_readNumber.Laid.below HL6.out hb); have Rp7 := Aside0.mk ((Rp6.out.below hb)); have Rb7 := Aside0.mk ((Rb6.out.below hb)); have Rc7 := Aside0.mk ((Rc6.out.below hb)); have Re7 := Aside0.mk ((Re6.out.below hb)); have Rf7 := Aside0.mk ((Rf6.out.below hb)); obtain ⟨ARt, cRt, rfl, hRt_⟩ := laws_FnPeopleMeet.Rw.of (Kd.R_V (base' := 0) hP); have Rt7 := Aside0.mk ((hRt_.mono (fun _ _ => trivial))); clear hRt_ hP; clear hb HB6 Rp6 Rb6 Rc6 Re6 Rf6 HL6)
  go_upto_region 10 with (go_at_call 11; refine (spec_SumTable.calls k _ _ p table ok _ Rp7.out.C Rp7.out.le O7.out).mono ?_; rintro e w8 ⟨v8, rfl, hP, hb⟩; have hb : Below w7.heap.size w7 w8 := (by first | exact hb | exact hb.below); have HB8 := Aside0.mk (below_then HB7.out HB7.out.size hb); have HL8 := Aside0.mk (impl_readNumber.Laid.below HL7.out hb); have Rp8 := Aside0.mk ((Rp7.out.below hb)); have Rb8 := Aside0.mk ((Rb7.out.below hb)); have Rc8 := Aside0.mk ((Rc7.out.below hb)); have Re8 := Aside0.mk ((Re7.out.below hb)); have Rf8 := Aside0.mk ((Rf7.out.below hb)); have Rt8 := Aside0.mk ((Rt7.out.below hb)); obtain ⟨ARu, cRu, rfl, hRu_⟩ := laws_FnPeopleMeet.Rw.of (Kd.R_V (base' := 0) hP); have Ru8 := Aside0.mk ((hRu_.mono (fun _ _ => trivial))); clear hRu_ hP; clear hb HB7 Rp7 Rb7 Rc7 Re7 Rf7 Rt7 HL7)
  go_upto_region 11 with (go_at_call 12; refine (impl_MeanHouse.calls k _ _ p num den ok _ Rp8.out.C Rp8.out.le O8.out).mono ?_; rintro e w9 ⟨rfl, hb⟩; have hb : Below w8.heap.size w8 w9 := (by first | exact hb | exact hb.below); have HB9 := Aside0.mk (below_then HB8.out HB8.out.size hb); have HL9 := Aside0.mk (impl_readNumber.Laid.below HL8.out hb); have Rp9 := Aside0.mk ((Rp8.out.below hb)); have Rb9 := Aside0.mk ((Rb8.out.below hb)); have Rc9 := Aside0.mk ((Rc8.out.below hb)); have Re9 := Aside0.mk ((Re8.out.below hb)); have Rf9 := Aside0.mk ((Rf8.out.below hb)); have Rt9 := Aside0.mk ((Rt8.out.below hb)); have Ru9 := Aside0.mk ((Ru8.out.below hb)); clear hb HB8 Rp8 Rb8 Rc8 Re8 Rf8 Rt8 Ru8 HL8)
  go_upto_region 12 with (go_at_call 13; refine (spec_MeanHouse.calls k _ _ p num den ok _ Rp9.out.C Rp9.out.le O9.out).mono ?_; rintro e w10 ⟨rfl, hb⟩; have hb : Below w9.heap.size w9 w10 := (by first | exact hb | exact hb.below); have HB10 := Aside0.mk (below_then HB9.out HB9.out.size hb); have HL10 := Aside0.mk (impl_readNumber.Laid.below HL9.out hb); have Rp10 := Aside0.mk ((Rp9.out.below hb)); have Rb10 := Aside0.mk ((Rb9.out.below hb)); have Rc10 := Aside0.mk ((Rc9.out.below hb)); have Re10 := Aside0.mk ((Re9.out.below hb)); have Rf10 := Aside0.mk ((Rf9.out.below hb)); have Rt10 := Aside0.mk ((Rt9.out.below hb)); have Ru10 := Aside0.mk ((Ru9.out.below hb)); clear hb HB9 Rp9 Rb9 Rc9 Re9 Rf9 Rt9 Ru9 HL9)
  go_upto_region 13 with (go_at_call 14; refine (impl_MirrorPeople.calls k _ _ p mirror ok _ Rp10.out.C Rp10.out.le O10.out).mono ?_; rintro e w11 ⟨v9, rfl, hP, hb⟩; have hb : Below w10.heap.size w10 w11 := (by first | exact hb | exact hb.below); have HB11 := Aside0.mk (below_then HB10.out HB10.out.size hb); have HL11 := Aside0.mk (impl_readNumber.Laid.below HL10.out hb); have Rp11 := Aside0.mk ((Rp10.out.below hb)); have Rb11 := Aside0.mk ((Rb10.out.below hb)); have Rc11 := Aside0.mk ((Rc10.out.below hb)); have Re11 := Aside0.mk ((Re10.out.below hb)); have Rf11 := Aside0.mk ((Rf10.out.below hb)); have Rt11 := Aside0.mk ((Rt10.out.below hb)); have Ru11 := Aside0.mk ((Ru10.out.below hb)); obtain ⟨ARm, cRm, rfl, hRm_⟩ := laws_FnPeopleMeet.Rw.of (Kd.R_V (base' := 0) hP); have Rm11 := Aside0.mk ((hRm_.mono (fun _ _ => trivial))); clear hRm_ hP; clear hb HB10 Rp10 Rb10 Rc10 Re10 Rf10 Rt10 Ru10 HL10)
  go_upto_region 14 with (go_at_call 15; refine (spec_MirrorPeople.calls k _ _ p mirror ok _ Rp11.out.C Rp11.out.le O11.out).mono ?_; rintro e w12 ⟨v10, rfl, hP, hb⟩; have hb : Below w11.heap.size w11 w12 := (by first | exact hb | exact hb.below); have HB12 := Aside0.mk (below_then HB11.out HB11.out.size hb); have HL12 := Aside0.mk (impl_readNumber.Laid.below HL11.out hb); have Rp12 := Aside0.mk ((Rp11.out.below hb)); have Rb12 := Aside0.mk ((Rb11.out.below hb)); have Rc12 := Aside0.mk ((Rc11.out.below hb)); have Re12 := Aside0.mk ((Re11.out.below hb)); have Rf12 := Aside0.mk ((Rf11.out.below hb)); have Rt12 := Aside0.mk ((Rt11.out.below hb)); have Ru12 := Aside0.mk ((Ru11.out.below hb)); have Rm12 := Aside0.mk ((Rm11.out.below hb)); obtain ⟨ARn, cRn, rfl, hRn_⟩ := laws_FnPeopleMeet.Rw.of (Kd.R_V (base' := 0) hP); have Rn12 := Aside0.mk ((hRn_.mono (fun _ _ => trivial))); clear hRn_ hP; clear hb HB11 Rp11 Rb11 Rc11 Re11 Rf11 Rt11 Ru11 Rm11 HL11)
  go_upto_region 15 with (go_at_call 16; refine (impl_PeopleText.calls k _ _ p text ok _ Rp12.out.C Rp12.out.le O12.out HL12.out.2.1).mono ?_; rintro e w13 ⟨rfl, hb⟩; have hb : Below w12.heap.size w12 w13 := (by first | exact hb | exact hb.below); have HB13 := Aside0.mk (below_then HB12.out HB12.out.size hb); have HL13 := Aside0.mk (impl_readNumber.Laid.below HL12.out hb); have Rp13 := Aside0.mk ((Rp12.out.below hb)); have Rb13 := Aside0.mk ((Rb12.out.below hb)); have Rc13 := Aside0.mk ((Rc12.out.below hb)); have Re13 := Aside0.mk ((Re12.out.below hb)); have Rf13 := Aside0.mk ((Rf12.out.below hb)); have Rt13 := Aside0.mk ((Rt12.out.below hb)); have Ru13 := Aside0.mk ((Ru12.out.below hb)); have Rm13 := Aside0.mk ((Rm12.out.below hb)); have Rn13 := Aside0.mk ((Rn12.out.below hb)); clear hb HB12 Rp12 Rb12 Rc12 Re12 Rf12 Rt12 Ru12 Rm12 Rn12 HL12)
  go_upto_region 16 with (go_at_call 17; refine (spec_PeopleText.calls k _ _ p text ok _ Rp13.out.C Rp13.out.le O13.out).mono ?_; rintro e w14 ⟨rfl, hb⟩; have hb : Below w13.heap.size w13 w14 := (by first | exact hb | exact hb.below); have HB14 := Aside0.mk (below_then HB13.out HB13.out.size hb); have HL14 := Aside0.mk (impl_readNumber.Laid.below HL13.out hb); have Rp14 := Aside0.mk ((Rp13.out.below hb)); have Rb14 := Aside0.mk ((Rb13.out.below hb)); have Rc14 := Aside0.mk ((Rc13.out.below hb)); have Re14 := Aside0.mk ((Re13.out.below hb)); have Rf14 := Aside0.mk ((Rf13.out.below hb)); have Rt14 := Aside0.mk ((Rt13.out.below hb)); have Ru14 := Aside0.mk ((Ru13.out.below hb)); have Rm14 := Aside0.mk ((Rm13.out.below hb)); have Rn14 := Aside0.mk ((Rn13.out.below hb)); clear hb HB13 Rp13 Rb13 Rc13 Re13 Rf13 Rt13 Ru13 Rm13 Rn13 HL13)
  have q1 : (ok != ok) = false := bne_self_eq_false ok
  have q2 : (num != num) = false := bne_self_eq_false num
  have q3 : (den != den) = false := bne_self_eq_false den
  have q4 : (text.toList == text.toList) = true := beq_self_eq_true _
  go_cut [254] from 150 to 254 (fun v254 wc => v254 = .bool false ∧ Aside0 (Below (w14).heap.size (w14) wc))
  case first => as_aux_lemma =>
    have HBR := Aside0.mk (Below.refl (w14).heap.size (w14))
    go_wp2_with (first | (have hg_ := HBR; clear hg_; go_at_call 18; refine (laws_zSame.calls k _ _ best _ _ best true _ Rb14.out.C Rb14.out.le Rc14.out.C Rc14.out.le O16.out).mono ?_; rintro e w15z ⟨rfl, hb⟩; have hb : Below w14.heap.size w14 w15z := (by first | exact hb | exact hb.below); have HB15z := Aside0.mk (below_then HBR.out HBR.out.size hb); have HL15z := Aside0.mk (impl_readNumber.Laid.below HL14.out hb); have Rp15z := Aside0.mk ((Rp14.out.below hb)); have Rb15z := Aside0.mk ((Rb14.out.below hb)); have Rc15z := Aside0.mk ((Rc14.out.below hb)); have Re15z := Aside0.mk ((Re14.out.below hb)); have Rf15z := Aside0.mk ((Rf14.out.below hb)); have Rt15z := Aside0.mk ((Rt14.out.below hb)); have Ru15z := Aside0.mk ((Ru14.out.below hb)); have Rm15z := Aside0.mk ((Rm14.out.below hb)); have Rn15z := Aside0.mk ((Rn14.out.below hb)); clear hb HBR Rp14 Rb14 Rc14 Re14 Rf14 Rt14 Ru14 Rm14 Rn14 HL14) | (have hg_ := HB15z; clear hg_; go_at_call 18; refine (laws_zSame.calls k _ _ center _ _ center true _ Re15z.out.C Re15z.out.le Rf15z.out.C Rf15z.out.le O17.out).mono ?_; rintro e w16z ⟨rfl, hb⟩; have hb : Below w15z.heap.size w15z w16z := (by first | exact hb | exact hb.below); have HB16z := Aside0.mk (below_then HB15z.out HB15z.out.size hb); have HL16z := Aside0.mk (impl_readNumber.Laid.below HL15z.out hb); have Rp16z := Aside0.mk ((Rp15z.out.below hb)); have Rb16z := Aside0.mk ((Rb15z.out.below hb)); have Rc16z := Aside0.mk ((Rc15z.out.below hb)); have Re16z := Aside0.mk ((Re15z.out.below hb)); have Rf16z := Aside0.mk ((Rf15z.out.below hb)); have Rt16z := Aside0.mk ((Rt15z.out.below hb)); have Ru16z := Aside0.mk ((Ru15z.out.below hb)); have Rm16z := Aside0.mk ((Rm15z.out.below hb)); have Rn16z := Aside0.mk ((Rn15z.out.below hb)); clear hb HB15z Rp15z Rb15z Rc15z Re15z Rf15z Rt15z Ru15z Rm15z Rn15z HL15z) | (have hg_ := HB16z; clear hg_; go_at_call 18; refine (laws_zSame.calls k _ _ table _ _ table true _ Rt16z.out.C Rt16z.out.le Ru16z.out.C Ru16z.out.le O18.out).mono ?_; rintro e w17z ⟨rfl, hb⟩; have hb : Below w16z.heap.size w16z w17z := (by first | exact hb | exact hb.below); have HB17z := Aside0.mk (below_then HB16z.out HB16z.out.size hb); have HL17z := Aside0.mk (impl_readNumber.Laid.below HL16z.out hb); have Rp17z := Aside0.mk ((Rp16z.out.below hb)); have Rb17z := Aside0.mk ((Rb16z.out.below hb)); have Rc17z := Aside0.mk ((Rc16z.out.below hb)); have Re17z := Aside0.mk ((Re16z.out.below hb)); have Rf17z := Aside0.mk ((Rf16z.out.below hb)); have Rt17z := Aside0.mk ((Rt16z.out.below hb)); have Ru17z := Aside0.mk ((Ru16z.out.below hb)); have Rm17z := Aside0.mk ((Rm16z.out.below hb)); have Rn17z := Aside0.mk ((Rn16z.out.below hb)); clear hb HB16z Rp16z Rb16z Rc16z Re16z Rf16z Rt16z Ru16z Rm16z Rn16z HL16z) | (have hg_ := HB17z; clear hg_; go_at_call 18; refine (laws_zSame.calls k _ _ mirror _ _ mirror true _ Rm17z.out.C Rm17z.out.le Rn17z.out.C Rn17z.out.le O19.out).mono ?_; rintro e w18z ⟨rfl, hb⟩; have hb : Below w17z.heap.size w17z w18z := (by first | exact hb | exact hb.below); have HB18z := Aside0.mk (below_then HB17z.out HB17z.out.size hb); have HL18z := Aside0.mk (impl_readNumber.Laid.below HL17z.out hb); have Rp18z := Aside0.mk ((Rp17z.out.below hb)); have Rb18z := Aside0.mk ((Rb17z.out.below hb)); have Rc18z := Aside0.mk ((Rc17z.out.below hb)); have Re18z := Aside0.mk ((Re17z.out.below hb)); have Rf18z := Aside0.mk ((Rf17z.out.below hb)); have Rt18z := Aside0.mk ((Rt17z.out.below hb)); have Ru18z := Aside0.mk ((Ru17z.out.below hb)); have Rm18z := Aside0.mk ((Rm17z.out.below hb)); have Rn18z := Aside0.mk ((Rn17z.out.below hb)); clear hb HB17z Rp17z Rb17z Rc17z Re17z Rf17z Rt17z Ru17z Rm17z Rn17z HL17z) | (have hg_ := HB18z; clear hg_; go_at_call 19; refine (impl_ArePeople.calls k _ _ p ok _ Rp18z.out.C Rp18z.out.le O14.out).mono ?_; rintro e w19z ⟨rfl, hb⟩; have hb : Below w18z.heap.size w18z w19z := (by first | exact hb | exact hb.below); have HB19z := Aside0.mk (below_then HB18z.out HB18z.out.size hb); have HL19z := Aside0.mk (impl_readNumber.Laid.below HL18z.out hb); have Rp19z := Aside0.mk ((Rp18z.out.below hb)); have Rb19z := Aside0.mk ((Rb18z.out.below hb)); have Rc19z := Aside0.mk ((Rc18z.out.below hb)); have Re19z := Aside0.mk ((Re18z.out.below hb)); have Rf19z := Aside0.mk ((Rf18z.out.below hb)); have Rt19z := Aside0.mk ((Rt18z.out.below hb)); have Ru19z := Aside0.mk ((Ru18z.out.below hb)); have Rm19z := Aside0.mk ((Rm18z.out.below hb)); have Rn19z := Aside0.mk ((Rn18z.out.below hb)); clear hb HB18z Rp18z Rb18z Rc18z Re18z Rf18z Rt18z Ru18z Rm18z Rn18z HL18z) | (have hg_ := HB19z; clear hg_; go_at_call 19; refine (impl_ArePeople.calls k _ _ p ok _ Rp19z.out.C Rp19z.out.le O14.out).mono ?_; rintro e w20z ⟨rfl, hb⟩; have hb : Below w19z.heap.size w19z w20z := (by first | exact hb | exact hb.below); have HB20z := Aside0.mk (below_then HB19z.out HB19z.out.size hb); have HL20z := Aside0.mk (impl_readNumber.Laid.below HL19z.out hb); have Rp20z := Aside0.mk ((Rp19z.out.below hb)); have Rb20z := Aside0.mk ((Rb19z.out.below hb)); have Rc20z := Aside0.mk ((Rc19z.out.below hb)); have Re20z := Aside0.mk ((Re19z.out.below hb)); have Rf20z := Aside0.mk ((Rf19z.out.below hb)); have Rt20z := Aside0.mk ((Rt19z.out.below hb)); have Ru20z := Aside0.mk ((Ru19z.out.below hb)); have Rm20z := Aside0.mk ((Rm19z.out.below hb)); have Rn20z := Aside0.mk ((Rn19z.out.below hb)); clear hb HB19z Rp19z Rb19z Rc19z Re19z Rf19z Rt19z Ru19z Rm19z Rn19z HL19z) | (have hg_ := HB20z; clear hg_; go_at_call 20; refine (spec_ArePeople.calls k _ _ p ok _ Rp20z.out.C Rp20z.out.le O15.out).mono ?_; rintro e w21z ⟨rfl, hb⟩; have hb : Below w20z.heap.size w20z w21z := (by first | exact hb | exact hb.below); have HB21z := Aside0.mk (below_then HB20z.out HB20z.out.size hb); have HL21z := Aside0.mk (impl_readNumber.Laid.below HL20z.out hb); have Rp21z := Aside0.mk ((Rp20z.out.below hb)); have Rb21z := Aside0.mk ((Rb20z.out.below hb)); have Rc21z := Aside0.mk ((Rc20z.out.below hb)); have Re21z := Aside0.mk ((Re20z.out.below hb)); have Rf21z := Aside0.mk ((Rf20z.out.below hb)); have Rt21z := Aside0.mk ((Rt20z.out.below hb)); have Ru21z := Aside0.mk ((Ru20z.out.below hb)); have Rm21z := Aside0.mk ((Rm20z.out.below hb)); have Rn21z := Aside0.mk ((Rn20z.out.below hb)); clear hb HB20z Rp20z Rb20z Rc20z Re20z Rf20z Rt20z Ru20z Rm20z Rn20z HL20z))
    go_meet
    case rel => exact ⟨rfl, HB21z⟩
  case rest => as_aux_lemma =>
  obtain ⟨rfl, hcut⟩ := hcut
  have HBx := Aside0.mk (below_then HB14.out HB14.out.size hcut.out)
  have HLx := Aside0.mk (impl_readNumber.Laid.below HL14.out hcut.out)
  have Rpx := Aside0.mk (Rp14.out.below hcut.out)
  have Rbx := Aside0.mk (Rb14.out.below hcut.out)
  have Rex := Aside0.mk (Re14.out.below hcut.out)
  have Rtx := Aside0.mk (Rt14.out.below hcut.out)
  have Rmx := Aside0.mk (Rm14.out.below hcut.out)
  clear HB14 Rp14 Rb14 Re14 Rt14 Rm14 HL14
  clear hcut q1 q2 q3 q4 O1 O2 O3 O4 O5 O6 O7 O8 O9 O10 O11 O12 O13 O14 O15 O16 O17 O18 O19 Rc14 Rf14 Ru14 Rn14
  go_upto_if 255 with (fail)
  go_cut [] from 255 to 255 (fun wd => Aside0 (Below wc.heap.size wc wd))
  case first => as_aux_lemma =>
    cases ok with
    | false =>
      go_wp2
      go_meet
      case rel => exact ⟨Below.refl _ _⟩
    | true =>
      obtain ⟨far, all, other, tw, before, total, b0, p1, p2, p3, p4, p5, p6, p7, p8, p9, p10, p11, p12, p13, p14, p15, p16, p17, p18, p19⟩ := O20.out rfl
      have P1 := Aside0.mk p1
      have P2 := Aside0.mk p2
      have P3 := Aside0.mk p3
      have P4 := Aside0.mk p4
      have P5 := Aside0.mk p5
      have P6 := Aside0.mk p6
      have P7 := Aside0.mk p7
      have P8 := Aside0.mk p8
      have P9 := Aside0.mk p9
      have P10 := Aside0.mk p10
      have P11 := Aside0.mk p11
      have P12 := Aside0.mk p12
      have P13 := Aside0.mk p13
      have P14 := Aside0.mk p14
      have P15 := Aside0.mk p15
      have P16 := Aside0.mk p16
      have P17 := Aside0.mk p17
      have P18 := Aside0.mk p18
      have P19 := Aside0.mk p19
      have e1 : ((table.length : Int) != (p.length : Int)) = false := by rw [p1]; exact bne_self_eq_false _
      have e2 : decide ((best.length : Int) < 1) = false := decide_eq_false (by omega)
      have e3 : decide ((center.length : Int) < 1) = false := decide_eq_false (by omega)
      have e4 : decide ((2 : Int) < (center.length : Int)) = false := decide_eq_false (by omega)
      have e5 : decide ((0 : Int) < (center.length : Int)) = true := decide_eq_true (by omega)
      have e6 : (0 : Int) < (center.length : Int) := by omega
      have hcl : 0 < center.length := by omega
      clear O20 p1 p2 p3 p4 p5 p6 p7 p8 p9 p10 p11 p12 p13 p14 p15 p16 p17 p18 p19
      have HBR := Aside0.mk (Below.refl wc.heap.size wc)
      go_upto_region 22 with (first | (have hg_ := HBR; clear hg_; go_at_call 21; refine (laws_zRises.calls k _ _ best true _ Rbx.out.C Rbx.out.le P2.out).mono ?_; rintro e w15b ⟨rfl, hb⟩; have hb : Below wc.heap.size wc w15b := (by first | exact hb | exact hb.below); have HB15b := Aside0.mk (below_then HBR.out HBR.out.size hb); have HL15b := Aside0.mk (impl_readNumber.Laid.below HLx.out hb); have Rp15b := Aside0.mk ((Rpx.out.below hb)); have Rb15b := Aside0.mk ((Rbx.out.below hb)); have Re15b := Aside0.mk ((Rex.out.below hb)); have Rt15b := Aside0.mk ((Rtx.out.below hb)); have Rm15b := Aside0.mk ((Rmx.out.below hb)); clear hb HBR Rpx Rbx Rex Rtx Rmx HLx) | (have hg_ := HB15b; clear hg_; go_at_call 21; refine (laws_zRises.calls k _ _ center true _ Re15b.out.C Re15b.out.le P3.out).mono ?_; rintro e w16b ⟨rfl, hb⟩; have hb : Below w15b.heap.size w15b w16b := (by first | exact hb | exact hb.below); have HB16b := Aside0.mk (below_then HB15b.out HB15b.out.size hb); have HL16b := Aside0.mk (impl_readNumber.Laid.below HL15b.out hb); have Rp16b := Aside0.mk ((Rp15b.out.below hb)); have Rb16b := Aside0.mk ((Rb15b.out.below hb)); have Re16b := Aside0.mk ((Re15b.out.below hb)); have Rt16b := Aside0.mk ((Rt15b.out.below hb)); have Rm16b := Aside0.mk ((Rm15b.out.below hb)); clear hb HB15b Rp15b Rb15b Re15b Rt15b Rm15b HL15b))
      clear e1 e2 e3 e4
      obtain ⟨ac, hac, hcc⟩ := laws_FnPeopleMeet.cell_C Re16b.out.C 0 hcl
      subst hac
      simp only [Go.Addr.add, if_true] at hcc
      go_upto_region 23 with (go_at_call 22; refine (impl_FarthestTo.calls k _ _ p (rd center 0) far true _ Rp16b.out.C Rp16b.out.le P6.out).mono ?_; rintro e w17b ⟨rfl, hb⟩; have hb : Below w16b.heap.size w16b w17b := (by first | exact hb | exact hb.below); have HB17b := Aside0.mk (below_then HB16b.out HB16b.out.size hb); have HL17b := Aside0.mk (impl_readNumber.Laid.below HL16b.out hb); have Rp17b := Aside0.mk ((Rp16b.out.below hb)); have Rb17b := Aside0.mk ((Rb16b.out.below hb)); have Re17b := Aside0.mk ((Re16b.out.below hb)); have Rt17b := Aside0.mk ((Rt16b.out.below hb)); have Rm17b := Aside0.mk ((Rm16b.out.below hb)); clear hb HB16b Rp16b Rb16b Re16b Rt16b Rm16b HL16b)
      go_wp2_with (go_at_call 23; refine (laws_zSum.calls k _ _ p all _ Rp17b.out.C Rp17b.out.le P7.out).mono ?_; rintro e w18b ⟨rfl, hb⟩; have hb : Below w17b.heap.size w17b w18b := (by first | exact hb | exact hb.below); have HB18b := Aside0.mk (below_then HB17b.out HB17b.out.size hb); have HL18b := Aside0.mk (impl_readNumber.Laid.below HL17b.out hb); have Rp18b := Aside0.mk ((Rp17b.out.below hb)); have Rb18b := Aside0.mk ((Rb17b.out.below hb)); have Re18b := Aside0.mk ((Re17b.out.below hb)); have Rt18b := Aside0.mk ((Rt17b.out.below hb)); have Rm18b := Aside0.mk ((Rm17b.out.below hb)); clear hb HB17b Rp17b Rb17b Re17b Rt17b Rm17b HL17b)
      clear e5 e6 hcc hcl
      go_loopw [36, 37, 299] (fun v36 v37 v299 wr => ∃ j : Nat, j ≤ p.length ∧ v36 = .int .i64 (before j) ∧ v37 = .int .i64 (total j) ∧ v299 = .int .i64 (j : Int) ∧ Aside0 (Below (w18b).heap.size (w18b) wr)) (fun _ _ v299 _ => p.length - (intOf v299).toNat)
      case atStart => exact ⟨0, Nat.zero_le _, by rw [P9.out.1], by rw [P9.out.2], rfl, ⟨Below.refl _ _⟩⟩
      case round => as_aux_lemma =>
        obtain ⟨j, hj, rfl, rfl, rfl, HB⟩ := hrel
        by_cases hlt : j < p.length
        · as_aux_lemma =>
          obtain ⟨m1, m2, m3, m4, m5, m6, m7, m8, m9, m10⟩ := P11.out j hlt
          have M1 := Aside0.mk m1
          have M2 := Aside0.mk m2
          have M3 := Aside0.mk m3
          have M4 := Aside0.mk m4
          have M5 := Aside0.mk m5
          have M6 := Aside0.mk m6
          have M7 := Aside0.mk m7
          have M8 := Aside0.mk m8
          have M9 := Aside0.mk m9
          have M10 := Aside0.mk m10
          clear m1 m2 m3 m4 m5 m6 m7 m8 m9 m10 P11
          have d1 : decide ((j : Int) < (p.length : Int)) = true := decide_eq_true (by omega)
          have d2 : (j : Int) < (p.length : Int) := by omega
          have d3 : j < p.length := hlt
          have d4 : decide (j < p.length) = true := decide_eq_true hlt
          have HBr := Aside0.mk (below_then HB18b.out HB18b.out.size HB.out)
          have HLr := Aside0.mk (impl_readNumber.Laid.below HL18b.out HB.out)
          have Rpr := Aside0.mk (Rp18b.out.below HB.out)
          have Rbr := Aside0.mk (Rb18b.out.below HB.out)
          have Rer := Aside0.mk (Re18b.out.below HB.out)
          have Rtr := Aside0.mk (Rt18b.out.below HB.out)
          have Rmr := Aside0.mk (Rm18b.out.below HB.out)
          obtain ⟨ap, hap, hcp⟩ := laws_FnPeopleMeet.cell_C Rpr.out.C j hlt
          subst hap
          have HBQ := Aside0.mk (Below.refl wr.heap.size wr)
          clear hj
          go_upto_region 29 with (go_at_call 24; refine (impl_WalksTo.calls k _ _ p (j : Int) (rd table (j : Int)) true _ Rpr.out.C Rpr.out.le M1.out).mono ?_; rintro e w19d ⟨rfl, hb⟩; have hb : Below wr.heap.size wr w19d := (by first | exact hb | exact hb.below); have HB19d := Aside0.mk (below_then HBQ.out HBQ.out.size hb); have HL19d := Aside0.mk (impl_readNumber.Laid.below HLr.out hb); have Rp19d := Aside0.mk ((Rpr.out.below hb)); have Rb19d := Aside0.mk ((Rbr.out.below hb)); have Re19d := Aside0.mk ((Rer.out.below hb)); have Rt19d := Aside0.mk ((Rtr.out.below hb)); have Rm19d := Aside0.mk ((Rmr.out.below hb)); clear hb HBQ Rpr Rbr Rer Rtr Rmr HLr)
          go_upto_region 30 with (go_at_call 22; refine (impl_FarthestTo.calls k _ _ p (j : Int) (tw j) true _ Rp19d.out.C Rp19d.out.le M2.out).mono ?_; rintro e w20d ⟨rfl, hb⟩; have hb : Below w19d.heap.size w19d w20d := (by first | exact hb | exact hb.below); have HB20d := Aside0.mk (below_then HB19d.out HB19d.out.size hb); have HL20d := Aside0.mk (impl_readNumber.Laid.below HL19d.out hb); have Rp20d := Aside0.mk ((Rp19d.out.below hb)); have Rb20d := Aside0.mk ((Rb19d.out.below hb)); have Re20d := Aside0.mk ((Re19d.out.below hb)); have Rt20d := Aside0.mk ((Rt19d.out.below hb)); have Rm20d := Aside0.mk ((Rm19d.out.below hb)); clear hb HB19d Rp19d Rb19d Re19d Rt19d Rm19d HL19d)
          go_upto_region 31 with (go_at_call 25; refine (impl_PeopleWithin.calls k _ _ p (j : Int) 0 (rd p (j : Int)) true _ Rp20d.out.C Rp20d.out.le M3.out).mono ?_; rintro e w21d ⟨rfl, hb⟩; have hb : Below w20d.heap.size w20d w21d := (by first | exact hb | exact hb.below); have HB21d := Aside0.mk (below_then HB20d.out HB20d.out.size hb); have HL21d := Aside0.mk (impl_readNumber.Laid.below HL20d.out hb); have Rp21d := Aside0.mk ((Rp20d.out.below hb)); have Rb21d := Aside0.mk ((Rb20d.out.below hb)); have Re21d := Aside0.mk ((Re20d.out.below hb)); have Rt21d := Aside0.mk ((Rt20d.out.below hb)); have Rm21d := Aside0.mk ((Rm20d.out.below hb)); clear hb HB20d Rp20d Rb20d Re20d Rt20d Rm20d HL20d)
          go_cut [388] from 300 to 388 (fun v388 wd => v388 = .bool false ∧ Aside0 (Below (w21d).heap.size (w21d) wd))
          case first => as_aux_lemma =>
            have hlen := P1.out
            have hb1 := P4.out.1
            obtain ⟨hb0, hb0l⟩ := P12.out
            obtain ⟨at_, hat, hct⟩ := laws_FnPeopleMeet.cell_C Rt21d.out.C j (by omega)
            obtain ⟨at2, hat2, hcb⟩ := laws_FnPeopleMeet.cell_C Rt21d.out.C b0 (by omega)
            obtain ⟨ab, hab, hcz⟩ := laws_FnPeopleMeet.cell_C Rb21d.out.C 0 (by omega)
            subst hat hab
            obtain rfl := Option.some.inj hat2
            clear hat2
            rw [show ((0 : Nat) : Int) = 0 from rfl, hb0] at hcz
            simp only [Go.Addr.add, if_true] at hcz
            clear hb0
            have f1 : decide ((j : Int) < (table.length : Int)) = true := decide_eq_true (by omega)
            have f2 : (j : Int) < (table.length : Int) := by omega
            have f3 : j < table.length := by omega
            have f4 : decide ((b0 : Int) < (table.length : Int)) = true := decide_eq_true (by omega)
            have f5 : (b0 : Int) < (table.length : Int) := by omega
            have f6 : b0 < table.length := by omega
            have f7 : decide ((0 : Int) < (best.length : Int)) = true := decide_eq_true (by omega)
            have f8 : (0 : Int) < (best.length : Int) := by omega
            have f9 : 0 < best.length := by omega
            have HM4 := Aside0.mk M4.out
            have HM5 := Aside0.mk M5.out
            obtain ⟨h61, h62⟩ := M6.out
            clear hlen hb1 hb0l d1 d2 d3 d4
            obtain ⟨tj, htj⟩ : ∃ x, x = rd table (j : Int) := ⟨_, rfl⟩
            obtain ⟨tb, htb⟩ : ∃ x, x = rd table (b0 : Int) := ⟨_, rfl⟩
            obtain ⟨tf, htf⟩ : ∃ x, x = tw j := ⟨_, rfl⟩
            obtain ⟨pj, hpj⟩ : ∃ x, x = rd p (j : Int) := ⟨_, rfl⟩
            rw [← htj] at hct h62 HM5 ⊢
            rw [← htb] at hcb h62 HM5
            rw [← htf] at h61 HM4 ⊢
            rw [← hpj]
            have HX1 := Aside0.mk htj
            have HX2 := Aside0.mk htb
            have HX3 := Aside0.mk htf
            have HX4 := Aside0.mk hpj
            clear htj htb htf hpj
            obtain ⟨bc, hbc⟩ : ∃ b : Bool, b = (tf == far) := ⟨_, rfl⟩
            obtain ⟨bb, hbb⟩ : ∃ b : Bool, b = (tj == tb) := ⟨_, rfl⟩
            rw [← hbc] at HM4
            rw [← hbb] at HM5
            have g1 : (tj != tj) = false := bne_self_eq_false _
            have g2 : decide (tf < far) = false := decide_eq_false (by omega)
            have g4 : (pj != pj) = false := bne_self_eq_false _
            have g5 : decide (tj < tb) = false := decide_eq_false (by omega)
            clear h61 h62
            have g3 : (tf == far) = bc := hbc.symm
            have g6 : (tj == tb) = bb := hbb.symm
            have g7 : (bc != bc) = false := bne_self_eq_false _
            have g8 : (bb != bb) = false := bne_self_eq_false _
            clear hbc hbb
            go_wp2
            go_quiet (first | (go_at_call 26; (with_reducible refine (laws_zHas.calls k _ _ center (j : Int) _ _ (Kd.C_drewN Re21d.out.C _) Re21d.out.le HM4.out).mono ?_); rintro e w' ⟨rfl, ⟨nd, rfl⟩⟩; exact ⟨rfl, _, World.drewN_drewN _ _ _⟩) | (go_at_call 26; (with_reducible refine (laws_zHas.calls k _ _ best (j : Int) _ _ (Kd.C_drewN Rb21d.out.C _) Rb21d.out.le HM5.out).mono ?_); rintro e w' ⟨rfl, ⟨nd, rfl⟩⟩; exact ⟨rfl, _, World.drewN_drewN _ _ _⟩))
            go_wp2
            have x1 := HX1.out
            have x2 := HX2.out
            have x3 := HX3.out
            have x4 := HX4.out
            subst x1 x2 x3 x4
            go_meet
            case rel => exact ⟨rfl, ⟨pw_below_drewN (Below.refl _ _) _⟩⟩
          case rest => as_aux_lemma =>
          obtain ⟨rfl, hcut⟩ := hcut
          have HBy := Aside0.mk (below_then HB21d.out HB21d.out.size hcut.out)
          have HLy := Aside0.mk (impl_readNumber.Laid.below HL21d.out hcut.out)
          have Rpy := Aside0.mk (Rp21d.out.below hcut.out)
          have Rby := Aside0.mk (Rb21d.out.below hcut.out)
          have Rey := Aside0.mk (Re21d.out.below hcut.out)
          have Rty := Aside0.mk (Rt21d.out.below hcut.out)
          have Rmy := Aside0.mk (Rm21d.out.below hcut.out)
          clear HB21d Rp21d Rb21d Re21d Rt21d Rm21d HL21d
          clear hcut
          have HC9 := M7.out
          have hp0 := M10.out.1
          have hp1 := M10.out.2
          obtain ⟨ha0, hall0, hall1⟩ := P8.out
          obtain ⟨⟨hbe0, hbe1⟩, hto0, hto1⟩ := P10.out j (by omega)
          have HB8 := Aside0.mk M8.out
          have HT9 := Aside0.mk M9.out
          have HM5 := Aside0.mk M5.out
          rw [HC9] at HM5
          obtain ⟨B, hB⟩ : ∃ x, x = before j := ⟨_, rfl⟩
          obtain ⟨T, hT⟩ : ∃ x, x = total j := ⟨_, rfl⟩
          obtain ⟨pj, hpj⟩ : ∃ x, x = rd p (j : Int) := ⟨_, rfl⟩
          rw [← hB, ← hpj] at HB8 HM5
          rw [← hT, ← hpj] at HT9
          rw [← hB] at hbe0 hbe1 ⊢
          rw [← hT] at hto0 hto1 ⊢
          rw [← hpj] at hp0 hp1 ⊢
          clear hB hT hpj HC9
          have hj100 : j < 100 := by omega
          have hjp : 0 ≤ (j : Int) * pj ∧ (j : Int) * pj ≤ 100000 := by
            have h1 := Int.mul_nonneg (by omega : (0 : Int) ≤ (j : Int)) hp0
            have h2 := Int.mul_le_mul (by omega : (j : Int) ≤ 100) hp1 hp0 (by omega : (0 : Int) ≤ 100)
            exact ⟨h1, by omega⟩
          have s1 : IntKind.i64.wrap (2 * B) = 2 * B := (i64_w _).trans (by unfold wrap64; omega)
          have s2 : IntKind.i64.wrap (all - B) = all - B := (i64_w _).trans (by unfold wrap64; omega)
          have s3 : IntKind.i64.wrap (all - B - pj) = all - B - pj := (i64_w _).trans (by unfold wrap64; omega)
          have s4 : IntKind.i64.wrap (2 * (all - B - pj)) = 2 * (all - B - pj) := (i64_w _).trans (by unfold wrap64; omega)
          have s5 : IntKind.i64.wrap (B + pj) = B + pj := (i64_w _).trans (by unfold wrap64; omega)
          have s6 : IntKind.i64.wrap ((j : Int) * pj) = (j : Int) * pj := (i64_w _).trans (by unfold wrap64; omega)
          have s7 : IntKind.i64.wrap (T + (j : Int) * pj) = T + (j : Int) * pj := (i64_w _).trans (by unfold wrap64; omega)
          have s8 : IntKind.i64.wrap ((j : Int) + 1) = (j : Int) + 1 := (i64_w _).trans (by unfold wrap64; omega)
          clear hp0 hp1 hbe0 hbe1 hto0 hto1 hall0 hall1 ha0 hjp
          by_cases c1 : 2 * B ≤ all
          · have c1b : decide (2 * B ≤ all) = true := decide_eq_true c1
            by_cases c2 : 2 * (all - B - pj) ≤ all
            · have c2b : decide (2 * (all - B - pj) ≤ all) = true := decide_eq_true c2
              have HM6 := HM5
              rw [c1b, c2b] at HM6
              clear HM5
              as_aux_lemma =>
              go_wp2_with (go_at_call 26; refine (laws_zHas.calls k _ _ best (j : Int) _ _ Rby.out.C Rby.out.le HM6.out).mono ?_; rintro e we ⟨rfl, hd⟩; have HBe := Aside0.mk (below_then HB.out HB.out.size (below_then HBy.out HBy.out.size hd.below)); clear hd)
              go_roundw
              case rel => exact ⟨j + 1, by omega, by rw [HB8.out], by rw [HT9.out], by go_num, HBe⟩
              case measure => first | (simp [intOf]; done) | (simp [intOf]; omega)
            · have c2b : decide (2 * (all - B - pj) ≤ all) = false := decide_eq_false c2
              have HM6 := HM5
              rw [c1b, c2b] at HM6
              clear HM5
              as_aux_lemma =>
              go_wp2_with (go_at_call 26; refine (laws_zHas.calls k _ _ best (j : Int) _ _ Rby.out.C Rby.out.le HM6.out).mono ?_; rintro e we ⟨rfl, hd⟩; have HBe := Aside0.mk (below_then HB.out HB.out.size (below_then HBy.out HBy.out.size hd.below)); clear hd)
              go_roundw
              case rel => exact ⟨j + 1, by omega, by rw [HB8.out], by rw [HT9.out], by go_num, HBe⟩
              case measure => first | (simp [intOf]; done) | (simp [intOf]; omega)
          · have c1b : decide (2 * B ≤ all) = false := decide_eq_false c1
            have HM6 := HM5
            rw [c1b] at HM6
            clear HM5
            as_aux_lemma =>
            go_wp2_with (go_at_call 26; refine (laws_zHas.calls k _ _ best (j : Int) _ _ Rby.out.C Rby.out.le HM6.out).mono ?_; rintro e we ⟨rfl, hd⟩; have HBe := Aside0.mk (below_then HB.out HB.out.size (below_then HBy.out HBy.out.size hd.below)); clear hd)
            go_roundw
            case rel => exact ⟨j + 1, by omega, by rw [HB8.out], by rw [HT9.out], by go_num, HBe⟩
            case measure => first | (simp [intOf]; done) | (simp [intOf]; omega)
        · as_aux_lemma =>
          obtain rfl : j = p.length := by omega
          have d1 : decide ((p.length : Int) < (p.length : Int)) = false := decide_eq_false (by omega)
          have d2 : ¬ (p.length : Int) < (p.length : Int) := by omega
          have HBz := Aside0.mk (below_then HB18b.out HB18b.out.size HB.out)
          have HLz := Aside0.mk (impl_readNumber.Laid.below HL18b.out HB.out)
          have Rpz := Aside0.mk (Rp18b.out.below HB.out)
          have Rbz := Aside0.mk (Rb18b.out.below HB.out)
          have Rez := Aside0.mk (Re18b.out.below HB.out)
          have Rtz := Aside0.mk (Rt18b.out.below HB.out)
          have Rmz := Aside0.mk (Rm18b.out.below HB.out)
          go_upto_region 39 with (go_at_call 27; refine (impl_ParsePeople.calls k text p true _ P13.out HLz.out).mono ?_; rintro e w19g ⟨v46, rfl, hV, hb⟩; have hb : Below wr.heap.size wr w19g := (by first | exact hb | exact hb.below); have HB19g := Aside0.mk (below_then HBz.out HBz.out.size hb); have HL19g := Aside0.mk (impl_readNumber.Laid.below HLz.out hb); have Rp19g := Aside0.mk ((Rpz.out.below hb)); have Rb19g := Aside0.mk ((Rbz.out.below hb)); have Re19g := Aside0.mk ((Rez.out.below hb)); have Rt19g := Aside0.mk ((Rtz.out.below hb)); have Rm19g := Aside0.mk ((Rmz.out.below hb)); obtain ⟨ARx, cRx, rfl, hRx_⟩ := laws_FnPeopleMeet.Rw.of (Kd.R_V (base' := 0) hV); have Rx19g := Aside0.mk ((hRx_.mono (fun _ _ => trivial))); clear hRx_ hV; clear hb HBz Rpz Rbz Rez Rtz Rmz HLz)
          go_upto_region 40 with (go_at_call 14; refine (impl_MirrorPeople.calls k _ _ mirror p true _ Rm19g.out.C Rm19g.out.le P14.out).mono ?_; rintro e w20g ⟨v48, rfl, hV, hb⟩; have hb : Below w19g.heap.size w19g w20g := (by first | exact hb | exact hb.below); have HB20g := Aside0.mk (below_then HB19g.out HB19g.out.size hb); have HL20g := Aside0.mk (impl_readNumber.Laid.below HL19g.out hb); have Rp20g := Aside0.mk ((Rp19g.out.below hb)); have Rb20g := Aside0.mk ((Rb19g.out.below hb)); have Re20g := Aside0.mk ((Re19g.out.below hb)); have Rt20g := Aside0.mk ((Rt19g.out.below hb)); have Rm20g := Aside0.mk ((Rm19g.out.below hb)); have Rx20g := Aside0.mk ((Rx19g.out.below hb)); obtain ⟨ARy, cRy, rfl, hRy_⟩ := laws_FnPeopleMeet.Rw.of (Kd.R_V (base' := 0) hV); have Ry20g := Aside0.mk ((hRy_.mono (fun _ _ => trivial))); clear hRy_ hV; clear hb HB19g Rp19g Rb19g Re19g Rt19g Rm19g Rx19g HL19g)
          go_upto_region 41 with (go_at_call 6; refine (impl_BestHouses.calls k _ _ mirror other true _ Rm20g.out.C Rm20g.out.le P15.out).mono ?_; rintro e w21g ⟨v50, rfl, hV, hb⟩; have hb : Below w20g.heap.size w20g w21g := (by first | exact hb | exact hb.below); have HB21g := Aside0.mk (below_then HB20g.out HB20g.out.size hb); have HL21g := Aside0.mk (impl_readNumber.Laid.below HL20g.out hb); have Rp21g := Aside0.mk ((Rp20g.out.below hb)); have Rb21g := Aside0.mk ((Rb20g.out.below hb)); have Re21g := Aside0.mk ((Re20g.out.below hb)); have Rt21g := Aside0.mk ((Rt20g.out.below hb)); have Rm21g := Aside0.mk ((Rm20g.out.below hb)); have Rx21g := Aside0.mk ((Rx20g.out.below hb)); have Ry21g := Aside0.mk ((Ry20g.out.below hb)); obtain ⟨ARo, cRo, rfl, hRo_⟩ := laws_FnPeopleMeet.Rw.of (Kd.R_V (base' := 0) hV); have Ro21g := Aside0.mk ((hRo_.mono (fun _ _ => trivial))); clear hRo_ hV; clear hb HB20g Rp20g Rb20g Re20g Rt20g Rm20g Rx20g Ry20g HL20g)
          have hb1 := P4.out
          obtain ⟨hp100, hall0, hall1⟩ := P8.out
          obtain ⟨hnd, ⟨hnd0, hnd1⟩, hden⟩ := P17.out
          obtain ⟨ho0, ho1, ho2⟩ := P19.out
          have hol := P18.out
          obtain ⟨ji, hji⟩ : ∃ x : Int, x = (best.length : Int) - 1 := ⟨_, rfl⟩
          rw [← hji] at ho0 ho1 ho2
          obtain ⟨ao, hao, hco⟩ := laws_FnPeopleMeet.cell_C Ro21g.out.C 0 (by omega)
          obtain ⟨ab, hab, hcb⟩ := laws_FnPeopleMeet.cell_C Rb21g.out.C ji.toNat (by omega)
          subst hao hab
          rw [show ((0 : Nat) : Int) = 0 from rfl] at hco
          simp only [Go.Addr.add, if_true] at hco
          rw [show ((ji.toNat : Nat) : Int) = ji by omega] at hcb
          obtain ⟨TN, hTN⟩ : ∃ x, x = total p.length := ⟨_, rfl⟩
          rw [← hTN] at hnd ⊢
          clear hTN
          obtain ⟨bl, hbl⟩ : ∃ x, x = rd best ji := ⟨_, rfl⟩
          rw [← hbl] at ho0 ho1 ho2 hcb
          clear hbl
          rw [ho0] at hco
          have k1 : IntKind.i64.wrap (num * all) = num * all := (i64_w _).trans (by unfold wrap64; omega)
          have k2 : IntKind.i64.wrap (TN * den) = num * all := (i64_w _).trans (by rw [← hnd]; unfold wrap64; omega)
          have k3 : (num * all != num * all) = false := bne_self_eq_false _
          have k4 : decide (den < 1) = false := decide_eq_false (by omega)
          have k5 : ((other.length : Int) != (best.length : Int)) = false := by rw [hol]; exact bne_self_eq_false _
          have k6 : decide ((0 : Int) < (other.length : Int)) = true := decide_eq_true (by omega)
          have k7 : (0 : Int) < (other.length : Int) := by omega
          have k7b : 0 < other.length := by omega
          have k8 : IntKind.i64.wrap ((p.length : Int) - 1) = (p.length : Int) - 1 := (i64_w _).trans (by unfold wrap64; omega)
          have k9 : IntKind.i64.wrap ((best.length : Int) - 1) = ji := (i64_w _).trans (by rw [hji]; unfold wrap64; omega)
          have k10 : decide (0 ≤ ji) = true := decide_eq_true (by omega)
          have k11 : 0 ≤ ji := by omega
          have k12 : decide (ji < (best.length : Int)) = true := decide_eq_true (by omega)
          have k13 : ji < (best.length : Int) := by omega
          have k14 : IntKind.i64.wrap ((p.length : Int) - 1 - bl) = (p.length : Int) - 1 - bl := (i64_w _).trans (by unfold wrap64; omega)
          have k15 : ((p.length : Int) - 1 - bl != (p.length : Int) - 1 - bl) = false := bne_self_eq_false _
          clear hb1 hp100 hall0 hall1 hnd hnd0 hnd1 hden ho0 ho1 ho2 hol hji
          go_wp2
          go_quiet (first | (go_at_call 18; (with_reducible refine (laws_zSame.calls k _ _ p _ _ p true _ (Kd.C_drewN Rx21g.out.C _) Rx21g.out.le (Kd.C_drewN Rp21g.out.C _) Rp21g.out.le P16.out).mono ?_); rintro e w' ⟨rfl, ⟨nd, rfl⟩⟩; exact ⟨rfl, _, World.drewN_drewN _ _ _⟩) | (go_at_call 18; (with_reducible refine (laws_zSame.calls k _ _ p _ _ p true _ (Kd.C_drewN Ry21g.out.C _) Ry21g.out.le (Kd.C_drewN Rp21g.out.C _) Rp21g.out.le P16.out).mono ?_); rintro e w' ⟨rfl, ⟨nd, rfl⟩⟩; exact ⟨rfl, _, World.drewN_drewN _ _ _⟩))
          go_wp2
          go_meet
          case rel => exact ⟨pw_below_drewN HB21g.out _⟩
  case rest => as_aux_lemma =>
  have HBc := Aside0.mk (below_then HBx.out HBx.out.size hcut.out)
  have HLc := Aside0.mk (impl_readNumber.Laid.below HLx.out hcut.out)
  clear HBx HLx
  clear hcut Rpx Rbx Rex Rtx Rmx O20
  obtain ⟨p2, moved, q, read, fr, tw, many, house, wide, within, far, s, e, t, f, v, u1, u2, u3, u4, u5, u6, u7, u8, u9, u10, u11, u12, u13, u14, u15, u16, u17⟩ := HT.out
  have U1 := Aside0.mk u1
  have U2 := Aside0.mk u2
  have U3 := Aside0.mk u3
  have U4 := Aside0.mk u4
  have U5 := Aside0.mk u5
  have U6 := Aside0.mk u6
  have U7 := Aside0.mk u7
  have U8 := Aside0.mk u8
  have U9 := Aside0.mk u9
  have U10 := Aside0.mk u10
  have U11 := Aside0.mk u11
  have U12 := Aside0.mk u12
  have U13 := Aside0.mk u13
  have U14 := Aside0.mk u14
  have U15 := Aside0.mk u15
  have U16 := Aside0.mk u16
  have U17 := Aside0.mk u17
  clear HT u1 u2 u3 u4 u5 u6 u7 u8 u9 u10 u11 u12 u13 u14 u15 u16 u17
  go_upto_region 44 with (go_at_call 28; refine (spec_DrawMovedPeople.calls k _ _ _ p2 fr tw many _ (Kd.C_below HR1.out HBc.out) HC1.out U1.out).mono ?_; rintro e w15h ⟨v52, rfl, hV, hb⟩; have hb : Below wc.heap.size wc w15h := (by first | exact hb | exact hb.below); have HB15h := Aside0.mk (below_then HBc.out HBc.out.size hb); have HL15h := Aside0.mk (impl_readNumber.Laid.below HLc.out hb); obtain ⟨ARp, cRp, rfl, hRp_⟩ := laws_FnPeopleMeet.Rw.of (Kd.R_V (base' := 0) hV); have Rp15h := Aside0.mk ((hRp_.mono (fun _ _ => trivial))); clear hRp_ hV; clear hb HBc HLc)
  go_upto_region 45 with (go_at_call 29; refine (impl_MovedPeople.calls k _ _ p2 fr tw many moved e _ Rp15h.out.C Rp15h.out.le U2.out).mono ?_; rintro e w16h ⟨v56, rfl, hV, hb⟩; have hb : Below w15h.heap.size w15h w16h := (by first | exact hb | exact hb.below); have HB16h := Aside0.mk (below_then HB15h.out HB15h.out.size hb); have HL16h := Aside0.mk (impl_readNumber.Laid.below HL15h.out hb); have Rp16h := Aside0.mk ((Rp15h.out.below hb)); obtain ⟨ARm, cRm, rfl, hRm_⟩ := laws_FnPeopleMeet.Rw.of (Kd.R_V (base' := 0) hV); have Rm16h := Aside0.mk ((hRm_.mono (fun _ _ => trivial))); clear hRm_ hV; clear hb HB15h Rp15h HL15h)
  go_upto_region 46 with (go_at_call 30; refine (spec_MovedPeople.calls k _ _ p2 fr tw many moved e _ Rp16h.out.C Rp16h.out.le U3.out).mono ?_; rintro e w17h ⟨v58, rfl, hV, hb⟩; have hb : Below w16h.heap.size w16h w17h := (by first | exact hb | exact hb.below); have HB17h := Aside0.mk (below_then HB16h.out HB16h.out.size hb); have HL17h := Aside0.mk (impl_readNumber.Laid.below HL16h.out hb); have Rp17h := Aside0.mk ((Rp16h.out.below hb)); have Rm17h := Aside0.mk ((Rm16h.out.below hb)); obtain ⟨ARn, cRn, rfl, hRn_⟩ := laws_FnPeopleMeet.Rw.of (Kd.R_V (base' := 0) hV); have Rn17h := Aside0.mk ((hRn_.mono (fun _ _ => trivial))); clear hRn_ hV; clear hb HB16h Rp16h Rm16h HL16h)
  go_upto_region 47 with (go_at_call 31; refine (spec_DrawPeopleWithin.calls k _ _ _ q house wide _ (Kd.C_below HR1.out HB17h.out) HC1.out U4.out).mono ?_; rintro e w18h ⟨v60, rfl, hV, hb⟩; have hb : Below w17h.heap.size w17h w18h := (by first | exact hb | exact hb.below); have HB18h := Aside0.mk (below_then HB17h.out HB17h.out.size hb); have HL18h := Aside0.mk (impl_readNumber.Laid.below HL17h.out hb); have Rp18h := Aside0.mk ((Rp17h.out.below hb)); have Rm18h := Aside0.mk ((Rm17h.out.below hb)); have Rn18h := Aside0.mk ((Rn17h.out.below hb)); obtain ⟨ARq, cRq, rfl, hRq_⟩ := laws_FnPeopleMeet.Rw.of (Kd.R_V (base' := 0) hV); have Rq18h := Aside0.mk ((hRq_.mono (fun _ _ => trivial))); clear hRq_ hV; clear hb HB17h Rp17h Rm17h Rn17h HL17h)
  go_upto_region 48 with (go_at_call 25; refine (impl_PeopleWithin.calls k _ _ q house wide within t _ Rq18h.out.C Rq18h.out.le U5.out).mono ?_; rintro e w19h ⟨rfl, hb⟩; have hb : Below w18h.heap.size w18h w19h := (by first | exact hb | exact hb.below); have HB19h := Aside0.mk (below_then HB18h.out HB18h.out.size hb); have HL19h := Aside0.mk (impl_readNumber.Laid.below HL18h.out hb); have Rp19h := Aside0.mk ((Rp18h.out.below hb)); have Rm19h := Aside0.mk ((Rm18h.out.below hb)); have Rn19h := Aside0.mk ((Rn18h.out.below hb)); have Rq19h := Aside0.mk ((Rq18h.out.below hb)); clear hb HB18h Rp18h Rm18h Rn18h Rq18h HL18h)
  go_upto_region 49 with (go_at_call 32; refine (spec_PeopleWithin.calls k _ _ q house wide within t _ Rq19h.out.C Rq19h.out.le U6.out).mono ?_; rintro e w20h ⟨rfl, hb⟩; have hb : Below w19h.heap.size w19h w20h := (by first | exact hb | exact hb.below); have HB20h := Aside0.mk (below_then HB19h.out HB19h.out.size hb); have HL20h := Aside0.mk (impl_readNumber.Laid.below HL19h.out hb); have Rp20h := Aside0.mk ((Rp19h.out.below hb)); have Rm20h := Aside0.mk ((Rm19h.out.below hb)); have Rn20h := Aside0.mk ((Rn19h.out.below hb)); have Rq20h := Aside0.mk ((Rq19h.out.below hb)); clear hb HB19h Rp19h Rm19h Rn19h Rq19h HL19h)
  go_upto_region 50 with (go_at_call 22; refine (impl_FarthestTo.calls k _ _ q house far f _ Rq20h.out.C Rq20h.out.le U7.out).mono ?_; rintro e w21h ⟨rfl, hb⟩; have hb : Below w20h.heap.size w20h w21h := (by first | exact hb | exact hb.below); have HB21h := Aside0.mk (below_then HB20h.out HB20h.out.size hb); have HL21h := Aside0.mk (impl_readNumber.Laid.below HL20h.out hb); have Rp21h := Aside0.mk ((Rp20h.out.below hb)); have Rm21h := Aside0.mk ((Rm20h.out.below hb)); have Rn21h := Aside0.mk ((Rn20h.out.below hb)); have Rq21h := Aside0.mk ((Rq20h.out.below hb)); clear hb HB20h Rp20h Rm20h Rn20h Rq20h HL20h)
  go_upto_region 51 with (go_at_call 33; refine (spec_FarthestTo.calls k _ _ q house far f _ Rq21h.out.C Rq21h.out.le U8.out).mono ?_; rintro e w22h ⟨rfl, hb⟩; have hb : Below w21h.heap.size w21h w22h := (by first | exact hb | exact hb.below); have HB22h := Aside0.mk (below_then HB21h.out HB21h.out.size hb); have HL22h := Aside0.mk (impl_readNumber.Laid.below HL21h.out hb); have Rp22h := Aside0.mk ((Rp21h.out.below hb)); have Rm22h := Aside0.mk ((Rm21h.out.below hb)); have Rn22h := Aside0.mk ((Rn21h.out.below hb)); have Rq22h := Aside0.mk ((Rq21h.out.below hb)); clear hb HB21h Rp21h Rm21h Rn21h Rq21h HL21h)
  go_upto_region 52 with (go_at_call 34; refine (spec_DrawParsePeople.calls k _ _ _ s _ (Kd.C_below HR1.out HB22h.out) HC1.out U9.out).mono ?_; rintro e w23h ⟨rfl, hb⟩; have hb : Below w22h.heap.size w22h w23h := (by first | exact hb | exact hb.below); have HB23h := Aside0.mk (below_then HB22h.out HB22h.out.size hb); have HL23h := Aside0.mk (impl_readNumber.Laid.below HL22h.out hb); have Rp23h := Aside0.mk ((Rp22h.out.below hb)); have Rm23h := Aside0.mk ((Rm22h.out.below hb)); have Rn23h := Aside0.mk ((Rn22h.out.below hb)); have Rq23h := Aside0.mk ((Rq22h.out.below hb)); clear hb HB22h Rp22h Rm22h Rn22h Rq22h HL22h)
  go_upto_region 53 with (go_at_call 27; refine (impl_ParsePeople.calls k s read v _ U10.out HL23h.out).mono ?_; rintro e w24h ⟨v72, rfl, hV, hb⟩; have hb : Below w23h.heap.size w23h w24h := (by first | exact hb | exact hb.below); have HB24h := Aside0.mk (below_then HB23h.out HB23h.out.size hb); have HL24h := Aside0.mk (impl_readNumber.Laid.below HL23h.out hb); have Rp24h := Aside0.mk ((Rp23h.out.below hb)); have Rm24h := Aside0.mk ((Rm23h.out.below hb)); have Rn24h := Aside0.mk ((Rn23h.out.below hb)); have Rq24h := Aside0.mk ((Rq23h.out.below hb)); obtain ⟨ARr, cRr, rfl, hRr_⟩ := laws_FnPeopleMeet.Rw.of (Kd.R_V (base' := 0) hV); have Rr24h := Aside0.mk ((hRr_.mono (fun _ _ => trivial))); clear hRr_ hV; clear hb HB23h Rp23h Rm23h Rn23h Rq23h HL23h)
  go_upto_region 54 with (go_at_call 35; refine (spec_ParsePeople.calls k s read v _ U11.out).mono ?_; rintro e w25h ⟨v74, rfl, hV, hb⟩; have hb : Below w24h.heap.size w24h w25h := (by first | exact hb | exact hb.below); have HB25h := Aside0.mk (below_then HB24h.out HB24h.out.size hb); have HL25h := Aside0.mk (impl_readNumber.Laid.below HL24h.out hb); have Rp25h := Aside0.mk ((Rp24h.out.below hb)); have Rm25h := Aside0.mk ((Rm24h.out.below hb)); have Rn25h := Aside0.mk ((Rn24h.out.below hb)); have Rq25h := Aside0.mk ((Rq24h.out.below hb)); have Rr25h := Aside0.mk ((Rr24h.out.below hb)); obtain ⟨ARs, cRs, rfl, hRs_⟩ := laws_FnPeopleMeet.Rw.of (Kd.R_V (base' := 0) hV); have Rs25h := Aside0.mk ((hRs_.mono (fun _ _ => trivial))); clear hRs_ hV; clear hb HB24h Rp24h Rm24h Rn24h Rq24h Rr24h HL24h)
  clear U1 U2 U3 U4 U5 U6 U7 U8 U9 U10 U11
  have q1 : (e != e) = false := bne_self_eq_false e
  have q2 : (t != t) = false := bne_self_eq_false t
  have q3 : (within != within) = false := bne_self_eq_false within
  have q4 : (f != f) = false := bne_self_eq_false f
  have q5 : (far != far) = false := bne_self_eq_false far
  have q6 : (v != v) = false := bne_self_eq_false v
  go_cut [605] from 605 to 605 (fun v605 wd => v605 = .bool false ∧ Aside0 (Below (w25h).heap.size (w25h) wd))
  case first => as_aux_lemma =>
    have HBR := Aside0.mk (Below.refl (w25h).heap.size (w25h))
    cases t with
    | false =>
      go_wp2_with (first | (have hg_ := HBR; clear hg_; go_at_call 18; refine (laws_zSame.calls k _ _ moved _ _ moved true _ Rm25h.out.C Rm25h.out.le Rn25h.out.C Rn25h.out.le U12.out).mono ?_; rintro e w26j ⟨rfl, hb⟩; have hb : Below w25h.heap.size w25h w26j := (by first | exact hb | exact hb.below); have HB26j := Aside0.mk (below_then HBR.out HBR.out.size hb); have HL26j := Aside0.mk (impl_readNumber.Laid.below HL25h.out hb); have Rp26j := Aside0.mk ((Rp25h.out.below hb)); have Rm26j := Aside0.mk ((Rm25h.out.below hb)); have Rn26j := Aside0.mk ((Rn25h.out.below hb)); have Rq26j := Aside0.mk ((Rq25h.out.below hb)); have Rr26j := Aside0.mk ((Rr25h.out.below hb)); have Rs26j := Aside0.mk ((Rs25h.out.below hb)); clear hb HBR Rp25h Rm25h Rn25h Rq25h Rr25h Rs25h HL25h) | (have hg_ := HB26j; clear hg_; go_at_call 18; refine (laws_zSame.calls k _ _ read _ _ read true _ Rr26j.out.C Rr26j.out.le Rs26j.out.C Rs26j.out.le U13.out).mono ?_; rintro e w27j ⟨rfl, hb⟩; have hb : Below w26j.heap.size w26j w27j := (by first | exact hb | exact hb.below); have HB27j := Aside0.mk (below_then HB26j.out HB26j.out.size hb); have HL27j := Aside0.mk (impl_readNumber.Laid.below HL26j.out hb); have Rp27j := Aside0.mk ((Rp26j.out.below hb)); have Rm27j := Aside0.mk ((Rm26j.out.below hb)); have Rn27j := Aside0.mk ((Rn26j.out.below hb)); have Rq27j := Aside0.mk ((Rq26j.out.below hb)); have Rr27j := Aside0.mk ((Rr26j.out.below hb)); have Rs27j := Aside0.mk ((Rs26j.out.below hb)); clear hb HB26j Rp26j Rm26j Rn26j Rq26j Rr26j Rs26j HL26j))
      go_meet
      case rel => exact ⟨rfl, HB27j⟩
    | true =>
      obtain rfl : f = true := U14.out rfl
      go_wp2_with (first | (have hg_ := HBR; clear hg_; go_at_call 18; refine (laws_zSame.calls k _ _ moved _ _ moved true _ Rm25h.out.C Rm25h.out.le Rn25h.out.C Rn25h.out.le U12.out).mono ?_; rintro e w26j ⟨rfl, hb⟩; have hb : Below w25h.heap.size w25h w26j := (by first | exact hb | exact hb.below); have HB26j := Aside0.mk (below_then HBR.out HBR.out.size hb); have HL26j := Aside0.mk (impl_readNumber.Laid.below HL25h.out hb); have Rp26j := Aside0.mk ((Rp25h.out.below hb)); have Rm26j := Aside0.mk ((Rm25h.out.below hb)); have Rn26j := Aside0.mk ((Rn25h.out.below hb)); have Rq26j := Aside0.mk ((Rq25h.out.below hb)); have Rr26j := Aside0.mk ((Rr25h.out.below hb)); have Rs26j := Aside0.mk ((Rs25h.out.below hb)); clear hb HBR Rp25h Rm25h Rn25h Rq25h Rr25h Rs25h HL25h) | (have hg_ := HB26j; clear hg_; go_at_call 18; refine (laws_zSame.calls k _ _ read _ _ read true _ Rr26j.out.C Rr26j.out.le Rs26j.out.C Rs26j.out.le U13.out).mono ?_; rintro e w27j ⟨rfl, hb⟩; have hb : Below w26j.heap.size w26j w27j := (by first | exact hb | exact hb.below); have HB27j := Aside0.mk (below_then HB26j.out HB26j.out.size hb); have HL27j := Aside0.mk (impl_readNumber.Laid.below HL26j.out hb); have Rp27j := Aside0.mk ((Rp26j.out.below hb)); have Rm27j := Aside0.mk ((Rm26j.out.below hb)); have Rn27j := Aside0.mk ((Rn26j.out.below hb)); have Rq27j := Aside0.mk ((Rq26j.out.below hb)); have Rr27j := Aside0.mk ((Rr26j.out.below hb)); have Rs27j := Aside0.mk ((Rs26j.out.below hb)); clear hb HB26j Rp26j Rm26j Rn26j Rq26j Rr26j Rs26j HL26j))
      go_meet
      case rel => exact ⟨rfl, HB27j⟩
  case rest => as_aux_lemma =>
  obtain ⟨rfl, hcut⟩ := hcut
  have HBk := Aside0.mk (below_then HB25h.out HB25h.out.size hcut.out)
  have HLk := Aside0.mk (impl_readNumber.Laid.below HL25h.out hcut.out)
  have Rpk := Aside0.mk (Rp25h.out.below hcut.out)
  have Rmk := Aside0.mk (Rm25h.out.below hcut.out)
  have Rqk := Aside0.mk (Rq25h.out.below hcut.out)
  have Rrk := Aside0.mk (Rr25h.out.below hcut.out)
  clear HB25h Rp25h Rm25h Rq25h Rr25h HL25h
  clear hcut U12 U13 U14 q1 q2 q3 q4 q5 q6 Rn25h Rs25h
  go_upto_if 606 with (fail)
  go_cut [] from 255 to 255 (fun wd => Aside0 (Below wc.heap.size wc wd))
  case first => as_aux_lemma =>
    cases e with
    | false =>
      go_wp2
      go_meet
      case rel => exact ⟨Below.refl _ _⟩
    | true =>
      obtain ⟨x, y, sum, h1, h2, h3, h4, h5, ⟨h6, h7⟩, ⟨h8, h9⟩, ⟨h10, h11⟩, h12, h13⟩ := U15.out rfl
      have V1 := Aside0.mk h1
      have V2 := Aside0.mk h2
      have V3 := Aside0.mk h3
      have V4 := Aside0.mk h4
      have V5 := Aside0.mk h5
      have HBR := Aside0.mk (Below.refl wc.heap.size wc)
      have e1 : IntKind.i64.wrap (tw - fr) = tw - fr := (i64_w _).trans (by unfold wrap64; omega)
      have e2 : IntKind.i64.wrap (-(tw - fr)) = -(tw - fr) := (i64_w _).trans (by unfold wrap64; omega)
      have e3 : IntKind.i64.wrap (x - y) = x - y := (i64_w _).trans (by unfold wrap64; omega)
      have e4 : (sum != sum) = false := bne_self_eq_false _
      have HE5 := Aside0.mk (show IntKind.i64.wrap (many * ((tw - fr).natAbs : Int)) = x - y from (i64_w _).trans (by rw [← h5]; unfold wrap64; omega))
      have e6 : (x - y != x - y) = false := bne_self_eq_false _
      clear h1 h2 h3 h4 h5 h6 h7 h8 h9 h10 h11 h12 h13 U15 U16 U17
      go_upto_region 58 with (go_at_call 24; refine (impl_WalksTo.calls k _ _ p2 tw x true _ Rpk.out.C Rpk.out.le V1.out).mono ?_; rintro e w26m ⟨rfl, hb⟩; have hb : Below wc.heap.size wc w26m := (by first | exact hb | exact hb.below); have HB26m := Aside0.mk (below_then HBR.out HBR.out.size hb); have HL26m := Aside0.mk (impl_readNumber.Laid.below HLk.out hb); have Rp26m := Aside0.mk ((Rpk.out.below hb)); have Rm26m := Aside0.mk ((Rmk.out.below hb)); have Rq26m := Aside0.mk ((Rqk.out.below hb)); have Rr26m := Aside0.mk ((Rrk.out.below hb)); clear hb HBR Rpk Rmk Rqk Rrk HLk)
      go_upto_region 59 with (go_at_call 24; refine (impl_WalksTo.calls k _ _ moved tw y true _ Rm26m.out.C Rm26m.out.le V2.out).mono ?_; rintro e w27m ⟨rfl, hb⟩; have hb : Below w26m.heap.size w26m w27m := (by first | exact hb | exact hb.below); have HB27m := Aside0.mk (below_then HB26m.out HB26m.out.size hb); have HL27m := Aside0.mk (impl_readNumber.Laid.below HL26m.out hb); have Rp27m := Aside0.mk ((Rp26m.out.below hb)); have Rm27m := Aside0.mk ((Rm26m.out.below hb)); have Rq27m := Aside0.mk ((Rq26m.out.below hb)); have Rr27m := Aside0.mk ((Rr26m.out.below hb)); clear hb HB26m Rp26m Rm26m Rq26m Rr26m HL26m)
      go_upto_if 623 with (fail)
      go_cut [80] from 623 to 623 (fun v80 wd => v80 = .int .i64 ((tw - fr).natAbs : Int) ∧ wd = w27m)
      case first => as_aux_lemma =>
        by_cases hs : tw - fr < 0
        · have d2 : decide (tw - fr < 0) = true := decide_eq_true hs
          go_wp2
          go_meet
          case rel => exact ⟨congrArg (Value.int .i64) (by first | omega | (rw [e2]; omega)), rfl⟩
        · have d2 : decide (tw - fr < 0) = false := decide_eq_false hs
          go_wp2
          go_meet
          case rel => exact ⟨congrArg (Value.int .i64) (by omega), rfl⟩
      case rest => as_aux_lemma =>
      obtain ⟨rfl, hwc⟩ := hcut
      have hwc := hwc.symm
      subst hwc
      clear e1 e2
      obtain ⟨st, hst⟩ : ∃ x : Int, x = ((tw - fr).natAbs : Int) := ⟨_, rfl⟩
      rw [← hst] at HE5 ⊢
      clear hst
      have e5 := HE5.out
      go_wp2_with (first | (have hg_ := HB27m; clear hg_; go_at_call 23; refine (laws_zSum.calls k _ _ moved sum _ Rm27m.out.C Rm27m.out.le V3.out).mono ?_; rintro e w28m ⟨rfl, hb⟩; have hb : Below w27m.heap.size w27m w28m := (by first | exact hb | exact hb.below); have HB28m := Aside0.mk (below_then HB27m.out HB27m.out.size hb); have HL28m := Aside0.mk (impl_readNumber.Laid.below HL27m.out hb); have Rp28m := Aside0.mk ((Rp27m.out.below hb)); have Rm28m := Aside0.mk ((Rm27m.out.below hb)); have Rq28m := Aside0.mk ((Rq27m.out.below hb)); have Rr28m := Aside0.mk ((Rr27m.out.below hb)); clear hb HB27m Rp27m Rm27m Rq27m Rr27m HL27m) | (have hg_ := HB28m; clear hg_; go_at_call 23; refine (laws_zSum.calls k _ _ p2 sum _ Rp28m.out.C Rp28m.out.le V4.out).mono ?_; rintro e w29m ⟨rfl, hb⟩; have hb : Below w28m.heap.size w28m w29m := (by first | exact hb | exact hb.below); have HB29m := Aside0.mk (below_then HB28m.out HB28m.out.size hb); have HL29m := Aside0.mk (impl_readNumber.Laid.below HL28m.out hb); have Rp29m := Aside0.mk ((Rp28m.out.below hb)); have Rm29m := Aside0.mk ((Rm28m.out.below hb)); have Rq29m := Aside0.mk ((Rq28m.out.below hb)); have Rr29m := Aside0.mk ((Rr28m.out.below hb)); clear hb HB28m Rp28m Rm28m Rq28m Rr28m HL28m))
      go_meet
      case rel => exact HB29m
  case rest => as_aux_lemma =>
  have HBl := Aside0.mk (below_then HBk.out HBk.out.size hcut.out)
  have HLl := Aside0.mk (impl_readNumber.Laid.below HLk.out hcut.out)
  have Rql := Aside0.mk (Rqk.out.below hcut.out)
  have Rrl := Aside0.mk (Rrk.out.below hcut.out)
  clear HBk Rqk Rrk HLk
  clear hcut U15 Rpk Rmk
  go_upto_region 64 with (fail)
  go_cut [668] from 668 to 668 (fun v668 wd => v668 = .bool false ∧ Aside0 (Below wc.heap.size wc wd))
  case first => as_aux_lemma =>
    cases t with
    | false =>
      go_wp2
      go_meet
      case rel => exact ⟨rfl, ⟨Below.refl _ _⟩⟩
    | true =>
      obtain ⟨sum, h1, h2, h3, h4⟩ := U16.out rfl
      have V1 := Aside0.mk h1
      have HBR := Aside0.mk (Below.refl wc.heap.size wc)
      have e1 : decide (within < 0) = false := decide_eq_false (by omega)
      have e2 : decide (sum < within) = false := decide_eq_false (by omega)
      have hw : (within == sum) = decide (far ≤ wide) := h4
      clear h1 h2 h3 h4 U16 U17
      by_cases hf : far ≤ wide
      all_goals
        first | have hf2 : decide (far ≤ wide) = true := decide_eq_true hf | have hf2 : decide (far ≤ wide) = false := decide_eq_false hf
        rw [hf2] at hw
        go_wp2_with (first | (have hg_ := HBR; clear hg_; go_at_call 23; refine (laws_zSum.calls k _ _ q sum _ Rql.out.C Rql.out.le V1.out).mono ?_; rintro e w26q ⟨rfl, hb⟩; have hb : Below wc.heap.size wc w26q := (by first | exact hb | exact hb.below); have HB26q := Aside0.mk (below_then HBR.out HBR.out.size hb); have HL26q := Aside0.mk (impl_readNumber.Laid.below HLl.out hb); have Rq26q := Aside0.mk ((Rql.out.below hb)); have Rr26q := Aside0.mk ((Rrl.out.below hb)); clear hb HBR Rql Rrl HLl) | (have hg_ := HB26q; clear hg_; go_at_call 23; refine (laws_zSum.calls k _ _ q sum _ Rq26q.out.C Rq26q.out.le V1.out).mono ?_; rintro e w27q ⟨rfl, hb⟩; have hb : Below w26q.heap.size w26q w27q := (by first | exact hb | exact hb.below); have HB27q := Aside0.mk (below_then HB26q.out HB26q.out.size hb); have HL27q := Aside0.mk (impl_readNumber.Laid.below HL26q.out hb); have Rq27q := Aside0.mk ((Rq26q.out.below hb)); have Rr27q := Aside0.mk ((Rr26q.out.below hb)); clear hb HB26q Rq26q Rr26q HL26q))
        go_meet
        case rel => exact ⟨rfl, HB27q⟩
  case rest => as_aux_lemma =>
  obtain ⟨rfl, hcut⟩ := hcut
  have HBn := Aside0.mk (below_then HBl.out HBl.out.size hcut.out)
  have HLn := Aside0.mk (impl_readNumber.Laid.below HLl.out hcut.out)
  have Rrn := Aside0.mk (Rrl.out.below hcut.out)
  clear HBl Rrl HLl
  clear hcut U16 Rql
  cases v with
  | false =>
    go_wp2
    go_ret
    exact ⟨rfl, HBn.out⟩
  | true =>
    have V1 := Aside0.mk (U17.out rfl)
    have q1 : (s.toList == s.toList) = true := beq_self_eq_true _
    go_wp2_with (go_at_call 16; refine (impl_PeopleText.calls k _ _ read s true _ Rrn.out.C Rrn.out.le V1.out HLn.out.2.1).mono ?_; rintro e w26r ⟨rfl, hb⟩; have hb : Below wc.heap.size wc w26r := (by first | exact hb | exact hb.below); have HB26r := Aside0.mk (below_then HBn.out HBn.out.size hb); have HL26r := Aside0.mk (impl_readNumber.Laid.below HLn.out hb); have Rr26r := Aside0.mk ((Rrn.out.below hb)); clear hb HBn Rrn HLn)
    go_ret
    exact ⟨rfl, HB26r.out⟩

/-- The one pure statement of laws_FnPeopleMeet. -/
def laws_FnPeopleMeet.Pure : Prop := ∀ (l0 : List Int) (l1 : List Int), l0.length ≤ maxLen → l0.length * 1 ≤ 140737488351232 → (∀ x ∈ l0, (Lit.int .u8 x).wf = true) → l1.length ≤ maxLen → l1.length * 1 ≤ 140737488351232 → (∀ x ∈ l1, (Lit.int .u8 x).wf = true) → laws_FnPeopleMeet.f l0 l1 = some true
theorem laws_FnPeopleMeet.walk (P : laws_FnPeopleMeet.Pure) (a0 : Option Addr) (len0 cap0 : Nat) (z0 : List Int) (a1 : Option Addr) (len1 cap1 : Nat) (z1 : List Int) (w : World) (w0 : (a0 = none ∧ len0 = 0 ∧ cap0 = 0 ∧ z0 = []) ∨ ∃ x, a0 = some x ∧ len0 ≤ cap0 ∧ cap0 ≤ maxLen ∧ z0.length = cap0 ∧ (∀ i, i < z0.length → w.cell? (x.add i) = some (.int .u8 (z0.getD i 0))) ∧ ∀ n ∈ z0, (Lit.int .u8 n).wf = true) (y0 : len0 * 1 ≤ 140737488351232) (w1 : (a1 = none ∧ len1 = 0 ∧ cap1 = 0 ∧ z1 = []) ∨ ∃ x, a1 = some x ∧ len1 ≤ cap1 ∧ cap1 ≤ maxLen ∧ z1.length = cap1 ∧ (∀ i, i < z1.length → w.cell? (x.add i) = some (.int .u8 (z1.getD i 0))) ∧ ∀ n ∈ z1, (Lit.int .u8 n).wf = true) (y1 : len1 * 1 ≤ 140737488351232) (hL : impl_readNumber.Laid w) :
    Calls Tryz.prog 3 #[.slice a0 len0 cap0, .slice a1 len1 cap1] w fun e w' => e = .returned (.bool true) ∧ Below w.heap.size w w' := by
  obtain ⟨l0, rfl, hr0, hm0, hw0, hc0⟩ := ReadsInt.ofRowC w0
  obtain ⟨l1, rfl, hr1, hm1, hw1, hc1⟩ := ReadsInt.ofRowC w1
  have h := P l0 l1 hm0 y0 hw0 hm1 y1 hw1
  refine (laws_FnPeopleMeet.calls _ _ l0 _ _ l1 true w (Kd.C_of_reads (d := (0 : Int)) (h1 := fun _ => rfl) hr0) hc0 (Kd.C_of_reads (d := (0 : Int)) (h1 := fun _ => rfl) hr1) hc1 h hL).mono ?_
  rintro e w' ⟨rfl, hd⟩
  exact ⟨rfl, hd⟩

end Go.Proofs.YteldjmljidmffaaGreatDoor.MX
