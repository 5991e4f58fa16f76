-- The machine side, written by this repo's program mp.py; contracts marked as of this repo are this session's own.
import Derived.Test.YtlmenkhklpfefaaMRx0
import Derived.Test.YtlmenkhklpfefaaMRx1
import Derived.Test.YtlmenkhklpfefaaMRx3
import Derived.Test.YtlmenkhklpfefaaMRx6
import Derived.Test.YtlmenkhklpfefaaMRx7
import Derived.Test.YtlmenkhklpfefaaMRx8
namespace Go.Proofs.Ytlmenkhklpfefaa.MR
open Go.RowKit Go.Proofs.YtlmenkhklpfefaaW.PrintWords Go.Proofs.YtlmenkhklpfefaaW.PrintLast Go.Proofs.YtlmenkhklpfefaaW.PrintMore
attribute [local go_sem] max2_int min2_int max_two min_two max_three min_three max_four min_four   -- for this text's walks alone
set_option linter.unusedVariables false
set_option linter.unusedSimpArgs false

/-! ### laws_FnRowsLit: function 3 (a contract of this repo) -/
/-- Whether no house up to j has to be lit. -/
def laws_FnRowsLit.dark (row : ByteArray) : Nat → Bool
  | 0 => true
  | j + 1 => if bt row j = 35 then false else laws_FnRowsLit.dark row j
/-- How many houses up to j shine. -/
def laws_FnRowsLit.shine (lit : ByteArray) : Nat → Nat
  | 0 => 0
  | j + 1 => if bt lit j = 35 then laws_FnRowsLit.shine lit j + 1 else laws_FnRowsLit.shine lit j
/-- A row of so many houses that all have to be lit. -/
def laws_FnRowsLit.full (n : Nat) : ByteArray := ⟨(List.replicate n (35 : UInt8)).toArray⟩
theorem laws_FnRowsLit.full_size (n : Nat) : (laws_FnRowsLit.full n).size = n := by
  show (Array.size _) = n
  simp [laws_FnRowsLit.full]
theorem laws_FnRowsLit.bt_k (s : ByteArray) (k : Nat) (h : k < s.size) : bt s (k : Int) = ((s[k].toNat : Nat) : Int) := by simp [bt, h]
theorem laws_FnRowsLit.ipos {w : World} {k : Nat} {s : ByteArray} {p : Nat} (h : w.heap[k]? = some (.stringIter s p)) : w.iterPos k = p := by simp [World.iterPos, h]
theorem laws_FnRowsLit.full_succ (n : Nat) : laws_FnRowsLit.full n ++ (⟨#[35]⟩ : ByteArray) = laws_FnRowsLit.full (n + 1) := by
  unfold laws_FnRowsLit.full
  rw [List.replicate_succ']
  refine ByteArray.ext ?_
  rw [ByteArray.data_append]
  refine Array.toList_inj.1 ?_
  simp
theorem laws_FnRowsLit.shine_le (lit : ByteArray) : ∀ j, laws_FnRowsLit.shine lit j ≤ j := by
  intro j
  induction j with
  | zero => exact Nat.le_refl _
  | succ j ih =>
    simp only [laws_FnRowsLit.shine]
    split <;> omega
def laws_FnRowsLit.Turned (k : Nat) (row : ByteArray) (few count : Int) : Prop := ∃ (turned : ByteArray) (same ways : Int) (t : Bool), impl_TurnRow.f k row ((row.size : Int) / 2) = some (turned, true) ∧ impl_FewestLamps.f k turned true = some (same, true) ∧ impl_CountLamps.f k turned true = some (ways, t) ∧ (2 < row.size → same = few ∧ t = true ∧ ways = count)
def laws_FnRowsLit.LitRow (k : Nat) (row : ByteArray) (ring : Bool) (first : List Int) (few count : Int) : Prop := ∃ (lit : ByteArray) (guards line : Int), impl_LitBy.f k row first ring = some (lit, true) ∧ impl_FewestGuards.f (row.size : Int) ring = some (guards, true) ∧ impl_FewestLamps.f k row false = some (line, true) ∧ laws_zRises.f k first = some true ∧ (first.length : Int) = few ∧ 1 ≤ count ∧ (lit.size = row.size ∧ row.size ≤ 20) ∧ few ≤ guards ∧ few ≤ line ∧ (∀ j : Nat, j < row.size → bt row j < 128 ∧ (bt row j = 35 → bt lit j = 35)) ∧ laws_FnRowsLit.dark row row.size = decide (few = 0) ∧ (ring = true → laws_FnRowsLit.Turned k row few count)
def laws_FnRowsLit.One (k : Nat) (l0 : List Int) : Prop := ∃ (row : ByteArray) (ring : Bool) (first : List Int) (few count : Int) (ok : Bool), spec_DrawFirstLamps.f l0 = some (row, ring) ∧ impl_FirstLamps.f k row ring = some (first, ok) ∧ spec_FirstLamps.f k row ring = some (first, ok) ∧ impl_FewestLamps.f k row ring = some (few, ok) ∧ spec_FewestLamps.f k row ring = some (few, ok) ∧ impl_CountLamps.f k row ring = some (count, ok) ∧ spec_CountLamps.f k row ring = some (count, ok) ∧ impl_IsLitRow.f k row = some ok ∧ spec_IsLitRow.f k row = some ok ∧ laws_zSame.f k first first = some true ∧ (ok = true → laws_FnRowsLit.LitRow k row ring first few count)
def laws_FnRowsLit.Shines (k : Nat) (lit : ByteArray) (lamps : List Int) : Prop := lit.size ≤ 1000 ∧ lamps.length ≤ 1000 ∧ (∀ j : Nat, j < lit.size → bt lit j < 128 ∧ ∃ b, laws_zHas.f k lamps j = some b ∧ (b = true → bt lit j = 35)) ∧ laws_FnRowsLit.shine lit lit.size ≤ 3 * lamps.length ∧ (laws_FnRowsLit.shine lit lit.size = 0 ↔ lamps.length = 0)
def laws_FnRowsLit.Two (k : Nat) (l1 : List Int) : Prop := ∃ (r : ByteArray) (lamps : List Int) (round five : Bool) (lit : ByteArray) (n guards : Int) (around seven : Bool) (t turned : ByteArray) (b : Int) (nine : Bool), spec_DrawLitBy.f l1 = some (r, lamps, round) ∧ impl_LitBy.f k r lamps round = some (lit, five) ∧ spec_LitBy.f k r lamps round = some (lit, five) ∧ spec_DrawFewestGuards.f l1 = some (n, around) ∧ impl_FewestGuards.f n around = some (guards, seven) ∧ spec_FewestGuards.f n around = some (guards, seven) ∧ spec_DrawTurnRow.f l1 = some (t, b) ∧ impl_TurnRow.f k t b = some (turned, nine) ∧ spec_TurnRow.f k t b = some (turned, nine) ∧ (five = true → laws_FnRowsLit.Shines k lit lamps) ∧ (seven = true → n ≤ 9 → 0 ≤ n ∧ impl_FewestLamps.f k (laws_FnRowsLit.full n.toNat) around = some (guards, true)) ∧ (nine = true → 0 ≤ b ∧ b < (t.size : Int) ∧ impl_TurnRow.f k turned (-b % (t.size : Int)) = some (t, true)) ∧ t.size ≤ 1000
open Classical in
noncomputable def laws_FnRowsLit.f (l0 l1 : List Int) : Option Bool := if ∃ k, laws_big.f l0 l1 = some false ∧ laws_FnRowsLit.One k l0 ∧ laws_FnRowsLit.Two k l1 then some true else if laws_big.f l0 l1 = some true then some true else none
set_option maxHeartbeats 4000000 in
set_option maxRecDepth 100000 in
theorem laws_FnRowsLit.calls (A0 : Option Addr) (c0 : Nat) (l0 : List Int) (A1 : Option Addr) (c1 : Nat) (l1 : List Int) (r : Bool) (w : World) (hr0 : Kd.C (Kd.int .u8) w A0 l0.length l0) (hc0 : l0.length ≤ c0) (hr1 : Kd.C (Kd.int .u8) w A1 l1.length l1) (hc1 : l1.length ≤ c1) (h : laws_FnRowsLit.f l0 l1 = some r) :
    Calls Try.prog 3 #[.slice A0 l0.length c0, .slice A1 l1.length c1] w fun e w' => e = .returned (.bool r) ∧ Below w.heap.size w w' := by
  have HR0 := Aside0.mk hr0
  have HC0 := Aside0.mk hc0
  have HR1 := Aside0.mk hr1
  have HC1 := Aside0.mk hc1
  clear hr0 hc0 hr1 hc1
  unfold laws_FnRowsLit.f at h
  split at h
  case isFalse =>
    split at h
    · rename_i hb
      obtain rfl : true = r := Option.some.inj h
      have H := Aside0.mk hb
      clear h hb
      go_enter Try.func3, Try.ntmps3
      go_wp2_with (go_at_call 4; refine (laws_big.calls _ _ _ _ _ _ _ _ HR0.out HC0.out HR1.out HC1.out H.out).mono ?_; rintro e w1 ⟨rfl, hd⟩; have HB1 := Aside0.mk hd.below; clear hd)
      go_ret
      exact ⟨rfl, HB1.out⟩
    · cases h
  case isTrue hh =>
  obtain rfl : true = r := Option.some.inj h
  obtain ⟨k, hb, hO, hT⟩ := hh
  have HBG := Aside0.mk hb
  have HT := Aside0.mk hT
  obtain ⟨row, ring, first, few, count, ok, o1, o2, o3, o4, o5, o6, o7, o8, o9, o10, o11⟩ := hO
  have O1 := Aside0.mk o1
  have O2 := Aside0.mk o2
  have O3 := Aside0.mk o3
  have O4 := Aside0.mk o4
  have O5 := Aside0.mk o5
  have O6 := Aside0.mk o6
  have O7 := Aside0.mk o7
  have O8 := Aside0.mk o8
  have O9 := Aside0.mk o9
  have O10 := Aside0.mk o10
  have O11 := Aside0.mk o11
  have HB0 := Aside0.mk (Below.refl w.heap.size w)
  clear h hb hT o1 o2 o3 o4 o5 o6 o7 o8 o9 o10 o11
  go_enter Try.func3, Try.ntmps3
  have q1 : (ok != ok) = false := bne_self_eq_false ok
  have q2 : (few != few) = false := bne_self_eq_false few
  have q3 : (count != count) = false := bne_self_eq_false count
  go_upto_if 156 with (first | (go_at_call 4; refine (laws_big.calls _ _ _ _ _ _ _ _ HR0.out HC0.out HR1.out HC1.out HBG.out).mono ?_; rintro e w1 ⟨rfl, hb⟩; have hb := hb.below; have HB1 := Aside0.mk (below_then HB0.out HB0.out.size hb); clear hb) | (go_at_call 5; refine (spec_DrawFirstLamps.calls _ _ _ row ring _ (Kd.C_below HR0.out HB1.out) HC0.out O1.out).mono ?_; rintro e w2 ⟨rfl, hb⟩; have HB2 := Aside0.mk (below_then HB1.out HB1.out.size hb); clear hb) | (go_at_call 6; refine (impl_FirstLamps.calls k row ring first ok _ O2.out).mono ?_; rintro e w3 ⟨v7, rfl, hR, hb⟩; have HB3 := Aside0.mk (below_then HB2.out HB2.out.size hb); obtain ⟨A7, c7, rfl, hl7, hC7⟩ := Kd.R_reads hR; have HL7 := Aside0.mk hl7; have F3 := Aside0.mk hC7; clear hl7 hC7 hR; clear hb) | (go_at_call 7; refine (spec_FirstLamps.calls k row ring first ok _ O3.out).mono ?_; rintro e w4 ⟨v9, rfl, hR, hb⟩; have HB4 := Aside0.mk (below_then HB3.out HB3.out.size hb); have F4 := Aside0.mk (Kd.C_below F3.out hb); obtain ⟨A9, c9, rfl, hl9, hC9⟩ := Kd.R_reads hR; have HL9 := Aside0.mk hl9; have G4 := Aside0.mk hC9; clear hl9 hC9 hR; clear hb) | (go_at_call 8; refine (impl_FewestLamps.calls k row ring few ok _ O4.out).mono ?_; rintro e w5 ⟨rfl, hb⟩; have HB5 := Aside0.mk (below_then HB4.out HB4.out.size hb); have F5 := Aside0.mk (Kd.C_below F4.out hb); have G5 := Aside0.mk (Kd.C_below G4.out hb); clear hb) | (go_at_call 9; refine (spec_FewestLamps.calls k row ring few ok _ O5.out).mono ?_; rintro e w6 ⟨rfl, hb⟩; have HB6 := Aside0.mk (below_then HB5.out HB5.out.size hb); have F6 := Aside0.mk (Kd.C_below F5.out hb); have G6 := Aside0.mk (Kd.C_below G5.out hb); clear hb) | (go_at_call 10; refine (impl_CountLamps.calls k row ring count ok _ O6.out).mono ?_; rintro e w7 ⟨rfl, hb⟩; have HB7 := Aside0.mk (below_then HB6.out HB6.out.size hb); have F7 := Aside0.mk (Kd.C_below F6.out hb); have G7 := Aside0.mk (Kd.C_below G6.out hb); clear hb) | (go_at_call 11; refine (spec_CountLamps.calls k row ring count ok _ O7.out).mono ?_; rintro e w8 ⟨rfl, hb⟩; have HB8 := Aside0.mk (below_then HB7.out HB7.out.size hb); have F8 := Aside0.mk (Kd.C_below F7.out hb); have G8 := Aside0.mk (Kd.C_below G7.out hb); clear hb) | (go_at_call 12; refine (laws_zSame.calls k _ _ _ _ _ _ true _ F8.out HL7.out G8.out HL9.out O10.out).mono ?_; rintro e w9 ⟨rfl, hb⟩; have hb := hb.below; have HB9 := Aside0.mk (below_then HB8.out HB8.out.size hb); have F9 := Aside0.mk (Kd.C_below F8.out hb); have G9 := Aside0.mk (Kd.C_below G8.out hb); clear hb) | (go_at_call 13; refine (impl_IsLitRow.calls k row ok _ O8.out).mono ?_; rintro e w10 ⟨rfl, hb⟩; have hb := hb.below; have HB10 := Aside0.mk (below_then HB9.out HB9.out.size hb); have F10 := Aside0.mk (Kd.C_below F9.out hb); have G10 := Aside0.mk (Kd.C_below G9.out hb); clear hb) | (go_at_call 13; refine (impl_IsLitRow.calls k row ok _ O8.out).mono ?_; rintro e w11 ⟨rfl, hb⟩; have hb := hb.below; have HB11 := Aside0.mk (below_then HB10.out HB10.out.size hb); have F11 := Aside0.mk (Kd.C_below F10.out hb); have G11 := Aside0.mk (Kd.C_below G10.out hb); clear hb) | (go_at_call 14; refine (spec_IsLitRow.calls k row ok _ O9.out).mono ?_; rintro e w12 ⟨rfl, hb⟩; have hb := hb.below; have HB12 := Aside0.mk (below_then HB11.out HB11.out.size hb); have F12 := Aside0.mk (Kd.C_below F11.out hb); have G12 := Aside0.mk (Kd.C_below G11.out hb); clear hb))
  clear q1 q2 q3
  go_cut [] (fun wc => Aside0 (Below w.heap.size w wc))
  case first =>
    cases ok with
    | false =>
      go_wp2
      go_meet
      case rel => exact HB12
    | true => as_aux_lemma =>
      obtain ⟨lit, guards, line, p1, p2, p3, p4, p5, p6, p7, p8, p9, p10, p11, p12⟩ := O11.out rfl
      have P1 := Aside0.mk p1
      have P2 := Aside0.mk p2
      have P3 := Aside0.mk p3
      have P4 := Aside0.mk p4
      have P10 := Aside0.mk p10
      have P11 := Aside0.mk p11
      have P12 := Aside0.mk p12
      have HZ := Aside0.mk p7.1
      have hz := p7.2
      have e1 : decide (count < 1) = false := decide_eq_false (by omega)
      have e2 : decide (guards < few) = false := decide_eq_false (by omega)
      have e3 : decide (line < few) = false := decide_eq_false (by omega)
      have e4 : ((lit.size : Int) != (row.size : Int)) = false := by rw [p7.1]; exact bne_self_eq_false _
      have e5 : ((first.length : Int) != few) = false := by rw [p5]; exact bne_self_eq_false _
      clear p1 p2 p3 p4 p5 p6 p7 p8 p9 p10 p11 p12 O11
      go_wp2_with (first | (go_at_call 15; refine (impl_LitBy.calls k row _ _ first ring lit true _ F12.out HL7.out P1.out).mono ?_; rintro e w13 ⟨rfl, hb⟩; have HB13 := Aside0.mk (below_then HB12.out HB12.out.size hb); have F13 := Aside0.mk (Kd.C_below F12.out hb); have G13 := Aside0.mk (Kd.C_below G12.out hb); clear hb) | (go_at_call 16; refine (impl_FewestGuards.calls _ ring guards true _ P2.out).mono ?_; rintro e w14 ⟨rfl, hb⟩; have hb := hb.below; have HB14 := Aside0.mk (below_then HB13.out HB13.out.size hb); have F14 := Aside0.mk (Kd.C_below F13.out hb); have G14 := Aside0.mk (Kd.C_below G13.out hb); clear hb) | (go_at_call 8; refine (impl_FewestLamps.calls k row false line true _ P3.out).mono ?_; rintro e w15 ⟨rfl, hb⟩; have HB15 := Aside0.mk (below_then HB14.out HB14.out.size hb); have F15 := Aside0.mk (Kd.C_below F14.out hb); have G15 := Aside0.mk (Kd.C_below G14.out hb); clear hb) | (go_at_call 17; refine (laws_zRises.calls k _ _ _ true _ F15.out HL7.out P4.out).mono ?_; rintro e w16 ⟨rfl, hb⟩; have hb := hb.below; have HB16 := Aside0.mk (below_then HB15.out HB15.out.size hb); have F16 := Aside0.mk (Kd.C_below F15.out hb); have G16 := Aside0.mk (Kd.C_below G15.out hb); clear hb))
      have HIT0 := World.iter_heap w16 row 0
      have HBI := Aside0.mk (show Below w.heap.size w (w16.iter row 0) from below_then HB16.out HB16.out.size (below_alloc (Below.refl _ _) _))
      have HLE0 := Aside0.mk HB16.out.size
      obtain ⟨it, hit⟩ : ∃ it, it = w16.heap.size := ⟨_, rfl⟩
      rw [← hit] at HIT0 HLE0
      have HLE := HLE0
      clear HLE0
      go_wp2
      rw [← hit]
      clear hit
      go_loopw [25] (fun v25 wi => ∃ j : Nat, j ≤ row.size ∧ v25 = .bool (laws_FnRowsLit.dark row j) ∧ wi.heap[it]? = some (.stringIter row j) ∧ Aside0 (Below w.heap.size w wi)) (fun _ wi => row.size - wi.iterPos it)
      case atStart => exact ⟨0, by omega, rfl, HIT0, HBI⟩
      case round => as_aux_lemma =>
        clear HIT0 HBI
        obtain ⟨j, hj, rfl, hit, HB⟩ := hrel
        by_cases hlt : j < row.size
        · as_aux_lemma =>
          obtain ⟨h128, himp⟩ := P10.out j hlt
          have ha : (row[j]'hlt).toNat < 128 := by rw [laws_FnRowsLit.bt_k row j hlt] at h128; omega
          have hnx : ∀ ty, (Instr.next (.pointer (some ⟨it, 0, none⟩)) true ty).run Try.prog wr = _ := fun ty => Go.Lib.run_next_ascii_at wr it row j ty hit hlt ha
          have hit1 := Aside0.mk (Go.Lib.iterAt_heap wr it row j (j + 1) hit)
          have HIT := Aside0.mk hit
          have HB1 := Aside0.mk (Go.Lib.below_iterAt HB.out HLE.out row (j + 1))
          have hls : j < lit.size := by rw [HZ.out]; exact hlt
          clear hit HB ha h128
          by_cases h35 : bt row (j : Int) = 35
          · have q35 : (((row[j]'hlt).toNat : Int) == 35) = true := by rw [← laws_FnRowsLit.bt_k row j hlt, h35]; rfl
            have l35 : (((lit[j]'hls).toNat : Int) != 35) = false := by rw [← laws_FnRowsLit.bt_k lit j hls, himp h35]; rfl
            have hdk : laws_FnRowsLit.dark row (j + 1) = false := by simp only [laws_FnRowsLit.dark]; rw [if_pos h35]
            have HDK := Aside0.mk hdk
            clear himp hdk h35
            go_wp2
            go_roundw
            case rel => exact ⟨j + 1, by omega, by rw [HDK.out], hit1.out, HB1⟩
            case measure => rw [laws_FnRowsLit.ipos hit1.out, laws_FnRowsLit.ipos HIT.out]; omega
          · have q35 : (((row[j]'hlt).toNat : Int) == 35) = false := by rw [← laws_FnRowsLit.bt_k row j hlt]; exact beq_eq_false_iff_ne.2 h35
            have hdk : laws_FnRowsLit.dark row (j + 1) = laws_FnRowsLit.dark row j := by simp only [laws_FnRowsLit.dark]; rw [if_neg h35]
            have HDK := Aside0.mk hdk
            clear himp hdk h35
            go_wp2
            go_roundw
            case rel => exact ⟨j + 1, by omega, by rw [HDK.out], hit1.out, HB1⟩
            case measure => rw [laws_FnRowsLit.ipos hit1.out, laws_FnRowsLit.ipos HIT.out]; omega
        · as_aux_lemma =>
          obtain rfl : j = row.size := by omega
          have hnx : ∀ ty, (Instr.next (.pointer (some ⟨it, 0, none⟩)) true ty).run Try.prog wr = _ := fun ty => Go.Lib.run_next_end_at wr it row row.size ty hit (by omega)
          have HDE := P11.out
          obtain ⟨D, hD⟩ : ∃ D, D = decide (few = 0) := ⟨_, rfl⟩
          rw [HDE, ← hD]
          clear HDE hlt
          go_upto_region 26 with (fail)
          go_cut [234] (fun v234 wc => v234 = .bool false ∧ wc = wr)
          case first => as_aux_lemma =>
            by_cases hf : few = 0
            · obtain rfl : D = true := by rw [hD]; exact decide_eq_true hf
              have qf : (few == 0) = true := by rw [hf]; rfl
              clear hD hf
              go_wp2
              go_meet
              case rel => exact ⟨rfl, rfl⟩
            · obtain rfl : D = false := by rw [hD]; exact decide_eq_false hf
              have qf : (few == 0) = false := beq_eq_false_iff_ne.2 hf
              clear hD hf
              go_wp2
              go_meet
              case rel => exact ⟨rfl, rfl⟩
          case rest => as_aux_lemma =>
            obtain ⟨rfl, rfl⟩ := hcut
            clear hD
            cases ring with
            | false =>
              go_wp2
              go_meet
              case rel => exact HB
            | true => as_aux_lemma =>
              obtain ⟨turned, same, ways, t, t1, t2, t3, t4⟩ := P12.out rfl
              have T1 := Aside0.mk t1
              have T2 := Aside0.mk t2
              have T3 := Aside0.mk t3
              clear t1 t2 t3
              by_cases h2 : 2 < row.size
              · obtain ⟨rfl, rfl, rfl⟩ := t4 h2
                have g1 : decide ((2 : Int) < (row.size : Int)) = true := decide_eq_true (by omega)
                have g2 : (same != same) = false := bne_self_eq_false same
                have g3 : (ways != ways) = false := bne_self_eq_false ways
                clear t4 h2
                go_wp2_with (first | (go_at_call 18; refine (impl_TurnRow.calls k row _ turned true _ T1.out).mono ?_; rintro e w21 ⟨rfl, hb⟩; have hb := hb.below; have HB21 := Aside0.mk (below_then HB.out HB.out.size hb); clear hb) | (go_at_call 8; refine (impl_FewestLamps.calls k turned true _ true _ T2.out).mono ?_; rintro e w22 ⟨rfl, hb⟩; have HB22 := Aside0.mk (below_then HB21.out HB21.out.size hb); clear hb) | (go_at_call 10; refine (impl_CountLamps.calls k turned true ways _ _ T3.out).mono ?_; rintro e w23 ⟨rfl, hb⟩; have HB23 := Aside0.mk (below_then HB22.out HB22.out.size hb); clear hb))
                go_meet
                case rel => exact HB23
              · have g1 : decide ((2 : Int) < (row.size : Int)) = false := decide_eq_false (by omega)
                clear t4 h2
                go_wp2_with (first | (go_at_call 18; refine (impl_TurnRow.calls k row _ turned true _ T1.out).mono ?_; rintro e w21 ⟨rfl, hb⟩; have hb := hb.below; have HB21 := Aside0.mk (below_then HB.out HB.out.size hb); clear hb) | (go_at_call 8; refine (impl_FewestLamps.calls k turned true _ true _ T2.out).mono ?_; rintro e w22 ⟨rfl, hb⟩; have HB22 := Aside0.mk (below_then HB21.out HB21.out.size hb); clear hb) | (go_at_call 10; refine (impl_CountLamps.calls k turned true ways _ _ T3.out).mono ?_; rintro e w23 ⟨rfl, hb⟩; have HB23 := Aside0.mk (below_then HB22.out HB22.out.size hb); clear hb))
                go_meet
                case rel => exact HB23
  case rest => as_aux_lemma =>
    have HBc := hcut
    clear hcut HB0 HB1 HB2 HB3 HB4 HB5 HB6 HB7 HB8 HB9 HB10 HB11 HB12 F3 F4 F5 F6 F7 F8 F9 F10 F11 F12 G4 G5 G6 G7 G8 G9 G10 G11 G12 HL7 HL9 O1 O2 O3 O4 O5 O6 O7 O8 O9 O10 O11 HR0 HC0 HBG
    obtain ⟨r, lamps, round, five, lit, n, guards, around, seven, t, turned, b, nine, u1, u2, u3, u4, u5, u6, u7, u8, u9, u10, u11, u12, u13⟩ := HT.out
    have U1 := Aside0.mk u1
    have U2 := Aside0.mk u2
    have U3 := Aside0.mk u3
    have U4 := Aside0.mk u4
    have U5 := Aside0.mk u5
    have U6 := Aside0.mk u6
    have U7 := Aside0.mk u7
    have U8 := Aside0.mk u8
    have U9 := Aside0.mk u9
    have U10 := Aside0.mk u10
    have U11 := Aside0.mk u11
    have U12 := Aside0.mk u12
    have U13 := Aside0.mk u13
    have q1 : (five != five) = false := bne_self_eq_false five
    have q2 : (seven != seven) = false := bne_self_eq_false seven
    have q3 : (nine != nine) = false := bne_self_eq_false nine
    have q4 : (guards != guards) = false := bne_self_eq_false guards
    have q7 : (lit.toList != lit.toList) = false := bne_self_eq_false lit.toList
    have q8 : (turned.toList != turned.toList) = false := bne_self_eq_false turned.toList
    clear u1 u2 u3 u4 u5 u6 u7 u8 u9 u10 u11 u12 u13 HT
    go_upto_if 361 with (first | (go_at_call 19; refine (spec_DrawLitBy.calls _ _ _ r lamps round _ (Kd.C_below HR1.out HBc.out) HC1.out U1.out).mono ?_; rintro e w31 ⟨v34, rfl, hR, hb⟩; have HB31 := Aside0.mk (below_then HBc.out HBc.out.size hb); obtain ⟨A34, c34, rfl, hl34, hC34⟩ := Kd.R_reads hR; have HL34 := Aside0.mk hl34; have M31 := Aside0.mk hC34; clear hl34 hC34 hR; clear hb) | (go_at_call 15; refine (impl_LitBy.calls k r _ _ lamps round lit five _ M31.out HL34.out U2.out).mono ?_; rintro e w32 ⟨rfl, hb⟩; have HB32 := Aside0.mk (below_then HB31.out HB31.out.size hb); have M32 := Aside0.mk (Kd.C_below M31.out hb); clear hb) | (go_at_call 20; refine (spec_LitBy.calls k r _ _ lamps round lit five _ M32.out HL34.out U3.out).mono ?_; rintro e w33 ⟨rfl, hb⟩; have hb := hb.below; have HB33 := Aside0.mk (below_then HB32.out HB32.out.size hb); have M33 := Aside0.mk (Kd.C_below M32.out hb); clear hb) | (go_at_call 21; refine (spec_DrawFewestGuards.calls _ _ _ n around _ (Kd.C_below HR1.out HB33.out) HC1.out U4.out).mono ?_; rintro e w34 ⟨rfl, hb⟩; have HB34 := Aside0.mk (below_then HB33.out HB33.out.size hb); have M34 := Aside0.mk (Kd.C_below M33.out hb); clear hb) | (go_at_call 16; refine (impl_FewestGuards.calls n around guards seven _ U5.out).mono ?_; rintro e w35 ⟨rfl, hb⟩; have hb := hb.below; have HB35 := Aside0.mk (below_then HB34.out HB34.out.size hb); have M35 := Aside0.mk (Kd.C_below M34.out hb); clear hb) | (go_at_call 22; refine (spec_FewestGuards.calls n around guards seven _ U6.out).mono ?_; rintro e w36 ⟨rfl, hb⟩; have hb := hb.below; have HB36 := Aside0.mk (below_then HB35.out HB35.out.size hb); have M36 := Aside0.mk (Kd.C_below M35.out hb); clear hb) | (go_at_call 23; refine (spec_DrawTurnRow.calls _ _ _ t b _ (Kd.C_below HR1.out HB36.out) HC1.out U7.out).mono ?_; rintro e w37 ⟨rfl, hb⟩; have HB37 := Aside0.mk (below_then HB36.out HB36.out.size hb); have M37 := Aside0.mk (Kd.C_below M36.out hb); clear hb) | (go_at_call 18; refine (impl_TurnRow.calls k t b turned nine _ U8.out).mono ?_; rintro e w38 ⟨rfl, hb⟩; have hb := hb.below; have HB38 := Aside0.mk (below_then HB37.out HB37.out.size hb); have M38 := Aside0.mk (Kd.C_below M37.out hb); clear hb) | (go_at_call 24; refine (spec_TurnRow.calls k t b turned nine _ U9.out).mono ?_; rintro e w39 ⟨rfl, hb⟩; have hb := hb.below; have HB39 := Aside0.mk (below_then HB38.out HB38.out.size hb); have M39 := Aside0.mk (Kd.C_below M38.out hb); clear hb))
    clear q1 q2 q3 q4 q7 q8
    go_cut [] (fun wc => Aside0 (Below w.heap.size w wc))
    case first => as_aux_lemma =>
      cases five with
      | false =>
        go_wp2
        go_meet
        case rel => exact HB39
      | true =>
        obtain ⟨hs1, hs2, hs3, hs4, hs5⟩ := U10.out rfl
        have S3 := Aside0.mk hs3
        have S4 := Aside0.mk hs4
        have S5 := Aside0.mk hs5
        clear hs3 hs4 hs5 U10 U11 U12 U13
        have HIT0 := World.iter_heap w39 lit 0
        have HBI := Aside0.mk (show Below w39.heap.size w39 (w39.iter lit 0) from below_alloc (Below.refl _ _) _)
        obtain ⟨it, hit⟩ : ∃ it, it = w39.heap.size := ⟨_, rfl⟩
        have HLE := Aside0.mk (show w39.heap.size ≤ it from Nat.le_of_eq hit.symm)
        rw [← hit] at HIT0
        go_wp2
        rw [← hit]
        clear hit
        go_loopw [52] (fun v52 wi => ∃ j : Nat, j ≤ lit.size ∧ v52 = .int .i64 (laws_FnRowsLit.shine lit j : Int) ∧ wi.heap[it]? = some (.stringIter lit j) ∧ Aside0 (Below w39.heap.size w39 wi)) (fun _ wi => lit.size - wi.iterPos it)
        case atStart => exact ⟨0, by omega, rfl, HIT0, HBI⟩
        case round => as_aux_lemma =>
          clear HIT0 HBI
          obtain ⟨j, hj, rfl, hit, HB⟩ := hrel
          have hsl := laws_FnRowsLit.shine_le lit j
          by_cases hlt : j < lit.size
          · obtain ⟨h128, hb, hz, himp⟩ := S3.out j hlt
            have ha : (lit[j]'hlt).toNat < 128 := by rw [laws_FnRowsLit.bt_k lit j hlt] at h128; omega
            have hnx : ∀ ty, (Instr.next (.pointer (some ⟨it, 0, none⟩)) true ty).run Try.prog wr = _ := fun ty => Go.Lib.run_next_ascii_at wr it lit j ty hit hlt ha
            have hit1 := Aside0.mk (Go.Lib.iterAt_heap wr it lit j (j + 1) hit)
            have HIT := Aside0.mk hit
            have HB1 := Aside0.mk (Go.Lib.below_iterAt HB.out HLE.out lit (j + 1))
            have HZ := Aside0.mk hz
            clear hit HB ha h128 hz
            by_cases h35 : bt lit (j : Int) = 35
            · have q35 : (((lit[j]'hlt).toNat : Int) == 35) = true := by rw [← laws_FnRowsLit.bt_k lit j hlt, h35]; rfl
              have l35 : (((lit[j]'hlt).toNat : Int) != 35) = false := by rw [← laws_FnRowsLit.bt_k lit j hlt, h35]; rfl
              have HDK := Aside0.mk (show laws_FnRowsLit.shine lit (j + 1) = laws_FnRowsLit.shine lit j + 1 by simp only [laws_FnRowsLit.shine]; rw [if_pos h35])
              clear himp h35
              generalize laws_FnRowsLit.shine lit j = sj at *
              cases hb with
              | true =>
                go_wp2_with (go_at_call 25; refine (laws_zHas.calls k _ _ lamps (j : Int) _ _ (Kd.C_below M39.out HB1.out) HL34.out HZ.out).mono ?_; rintro e we ⟨rfl, ⟨nd, rfl⟩⟩)
                go_roundw
                case rel => exact ⟨j + 1, by omega, by rw [HDK.out]; go_num, hit1.out, ⟨pw_below_drewN HB1.out _⟩⟩
                case measure => rw [show ((wr.iterAt it lit (j + 1)).drewN nd).iterPos it = j + 1 from laws_FnRowsLit.ipos hit1.out, laws_FnRowsLit.ipos HIT.out]; omega
              | false =>
                go_wp2_with (go_at_call 25; refine (laws_zHas.calls k _ _ lamps (j : Int) _ _ (Kd.C_below M39.out HB1.out) HL34.out HZ.out).mono ?_; rintro e we ⟨rfl, ⟨nd, rfl⟩⟩)
                go_roundw
                case rel => exact ⟨j + 1, by omega, by rw [HDK.out]; go_num, hit1.out, ⟨pw_below_drewN HB1.out _⟩⟩
                case measure => rw [show ((wr.iterAt it lit (j + 1)).drewN nd).iterPos it = j + 1 from laws_FnRowsLit.ipos hit1.out, laws_FnRowsLit.ipos HIT.out]; omega
            · have q35 : (((lit[j]'hlt).toNat : Int) == 35) = false := by rw [← laws_FnRowsLit.bt_k lit j hlt]; exact beq_eq_false_iff_ne.2 h35
              obtain rfl : hb = false := by
                cases hb with
                | false => rfl
                | true => exact absurd (himp rfl) h35
              have HDK := Aside0.mk (show laws_FnRowsLit.shine lit (j + 1) = laws_FnRowsLit.shine lit j by simp only [laws_FnRowsLit.shine]; rw [if_neg h35])
              clear himp h35
              go_wp2_with (go_at_call 25; refine (laws_zHas.calls k _ _ lamps (j : Int) _ _ (Kd.C_below M39.out HB1.out) HL34.out HZ.out).mono ?_; rintro e we ⟨rfl, ⟨nd, rfl⟩⟩)
              go_roundw
              case rel => exact ⟨j + 1, by omega, by rw [HDK.out], hit1.out, ⟨pw_below_drewN HB1.out _⟩⟩
              case measure => rw [show ((wr.iterAt it lit (j + 1)).drewN nd).iterPos it = j + 1 from laws_FnRowsLit.ipos hit1.out, laws_FnRowsLit.ipos HIT.out]; omega
          · obtain rfl : j = lit.size := by omega
            have hnx : ∀ ty, (Instr.next (.pointer (some ⟨it, 0, none⟩)) true ty).run Try.prog wr = _ := fun ty => Go.Lib.run_next_end_at wr it lit lit.size ty hit (by omega)
            have s4 := S4.out
            have s5 := S5.out
            have HBF := Aside0.mk (below_then HB39.out HB39.out.size HB.out)
            clear hlt hj S3 S4 S5 HB
            generalize laws_FnRowsLit.shine lit lit.size = S at *
            have g1 : decide ((3 : Int) * (lamps.length : Int) < (S : Int)) = false := decide_eq_false (by omega)
            by_cases h0 : S = 0
            · have g2 : ((S : Int) == 0) = true := by rw [h0]; rfl
              have g3 : ((lamps.length : Int) == 0) = true := by rw [s5.1 h0]; rfl
              clear s4 s5 h0
              go_wp2
              go_meet
              case rel => exact HBF
            · have g2 : ((S : Int) == 0) = false := beq_eq_false_iff_ne.2 (by omega)
              have g3 : ((lamps.length : Int) == 0) = false := beq_eq_false_iff_ne.2 (fun e => h0 (s5.2 (by omega)))
              clear s4 s5 h0
              go_wp2
              go_meet
              case rel => exact HBF
    case rest => as_aux_lemma =>
      have HBd := hcut
      clear hcut HBc HB31 HB32 HB33 HB34 HB35 HB36 HB37 HB38 HB39 M31 M32 M33 M34 M35 M36 M37 M38 M39 HL34
      cases seven with
      | false =>
        cases nine with
        | false =>
          go_wp2
          go_ret
          exact ⟨rfl, HBd.out⟩
        | true =>
          obtain ⟨hb0, hb1, x1⟩ := U12.out rfl
          have X1 := Aside0.mk x1
          have ht := U13.out
          have y2 : (t.toList == t.toList) = true := beq_self_eq_true t.toList
          clear x1
          go_wp2_with (go_at_call 18; with_reducible refine (impl_TurnRow.calls k turned _ t true _ X1.out).mono ?_; rintro e wf ⟨rfl, hd⟩; have HBf := Aside0.mk (below_then HBd.out HBd.out.size hd.below); clear hd)
          go_ret
          exact ⟨rfl, HBf.out⟩
      | true =>
        by_cases hn : n ≤ 9
        · obtain ⟨hn0, v1⟩ := U11.out rfl hn
          have V1 := Aside0.mk v1
          obtain ⟨m, rfl⟩ : ∃ m : Nat, n = (m : Int) := ⟨n.toNat, by omega⟩
          have hdn : decide ((m : Int) ≤ 9) = true := decide_eq_true hn
          clear v1
          go_wp2
          go_loop [54, 55] (fun v54 v55 => ∃ i : Nat, i ≤ m ∧ v54 = .string (laws_FnRowsLit.full i) ∧ v55 = .int .i64 (i : Int)) (fun _ v55 => m - (intOf v55).toNat)
          case atStart => exact ⟨0, Nat.zero_le _, rfl, rfl⟩
          case round => as_aux_lemma =>
            obtain ⟨i, hi, rfl, rfl⟩ := hrel
            by_cases hlt : i < m
            · have hd : decide ((i : Int) < (m : Int)) = true := decide_eq_true (by omega)
              have hz1 : (laws_FnRowsLit.full i).size + 1 ≤ 9223372036854775807 := by rw [laws_FnRowsLit.full_size]; omega
              have HFS := Aside0.mk (laws_FnRowsLit.full_succ i)
              go_wp2
              go_round
              case rel => exact ⟨i + 1, by omega, by rw [← HFS.out], by go_num⟩
              case measure => first | (simp [intOf]; done) | (simp [intOf]; omega)
            · obtain rfl : i = m := by omega
              have hd : decide ((i : Int) < (i : Int)) = false := decide_eq_false (by omega)
              have V2 := Aside0.mk (show impl_FewestLamps.f k (laws_FnRowsLit.full i) around = some (guards, true) from by have z := V1.out; rwa [Int.toNat_natCast] at z)
              have q4 : (guards != guards) = false := bne_self_eq_false guards
              clear hlt hi V1
              go_upto_region 63 with (go_at_call 8; refine (impl_FewestLamps.calls k (laws_FnRowsLit.full i) around guards true _ V2.out).mono ?_; rintro e we ⟨rfl, hb⟩; have HBe := Aside0.mk (below_then HBd.out HBd.out.size hb); clear hb)
              cases nine with
              | false =>
                go_wp2
                go_ret
                exact ⟨rfl, HBe.out⟩
              | true =>
                obtain ⟨hb0, hb1, x1⟩ := U12.out rfl
                have X1 := Aside0.mk x1
                have ht := U13.out
                have y2 : (t.toList == t.toList) = true := beq_self_eq_true t.toList
                clear x1
                go_wp2_with (go_at_call 18; with_reducible refine (impl_TurnRow.calls k turned _ t true _ X1.out).mono ?_; rintro e wf ⟨rfl, hd⟩; have HBf := Aside0.mk (below_then HBe.out HBe.out.size hd.below); clear hd)
                go_ret
                exact ⟨rfl, HBf.out⟩
        · have hdn : decide (n ≤ 9) = false := decide_eq_false hn
          cases nine with
          | false =>
            go_wp2
            go_ret
            exact ⟨rfl, HBd.out⟩
          | true =>
            obtain ⟨hb0, hb1, x1⟩ := U12.out rfl
            have X1 := Aside0.mk x1
            have ht := U13.out
            have y2 : (t.toList == t.toList) = true := beq_self_eq_true t.toList
            clear x1
            go_wp2_with (go_at_call 18; with_reducible refine (impl_TurnRow.calls k turned _ t true _ X1.out).mono ?_; rintro e wf ⟨rfl, hd⟩; have HBf := Aside0.mk (below_then HBd.out HBd.out.size hd.below); clear hd)
            go_ret
            exact ⟨rfl, HBf.out⟩

/-- The one pure statement of laws_FnRowsLit. -/
def laws_FnRowsLit.Pure : Prop := ∀ (l0 : List Int) (l1 : List Int), l0.length ≤ maxLen → l0.length * 1 ≤ 140737488351232 → (∀ x ∈ l0, (Lit.int .u8 x).wf = true) → l1.length ≤ maxLen → l1.length * 1 ≤ 140737488351232 → (∀ x ∈ l1, (Lit.int .u8 x).wf = true) → laws_FnRowsLit.f l0 l1 = some true
theorem laws_FnRowsLit.walk (P : laws_FnRowsLit.Pure) (a0 : Option Addr) (len0 cap0 : Nat) (z0 : List Int) (a1 : Option Addr) (len1 cap1 : Nat) (z1 : List Int) (w : World) (w0 : (a0 = none ∧ len0 = 0 ∧ cap0 = 0 ∧ z0 = []) ∨ ∃ x, a0 = some x ∧ len0 ≤ cap0 ∧ cap0 ≤ maxLen ∧ z0.length = cap0 ∧ (∀ i, i < z0.length → w.cell? (x.add i) = some (.int .u8 (z0.getD i 0))) ∧ ∀ n ∈ z0, (Lit.int .u8 n).wf = true) (y0 : len0 * 1 ≤ 140737488351232) (w1 : (a1 = none ∧ len1 = 0 ∧ cap1 = 0 ∧ z1 = []) ∨ ∃ x, a1 = some x ∧ len1 ≤ cap1 ∧ cap1 ≤ maxLen ∧ z1.length = cap1 ∧ (∀ i, i < z1.length → w.cell? (x.add i) = some (.int .u8 (z1.getD i 0))) ∧ ∀ n ∈ z1, (Lit.int .u8 n).wf = true) (y1 : len1 * 1 ≤ 140737488351232) :
    Calls Try.prog 3 #[.slice a0 len0 cap0, .slice a1 len1 cap1] w fun e w' => e = .returned (.bool true) ∧ Below w.heap.size w w' := by
  obtain ⟨l0, rfl, hr0, hm0, hw0, hc0⟩ := ReadsInt.ofRowC w0
  obtain ⟨l1, rfl, hr1, hm1, hw1, hc1⟩ := ReadsInt.ofRowC w1
  have h := P l0 l1 hm0 y0 hw0 hm1 y1 hw1
  refine (laws_FnRowsLit.calls _ _ l0 _ _ l1 true w (Kd.C_of_reads (d := (0 : Int)) (h1 := fun _ => rfl) hr0) hc0 (Kd.C_of_reads (d := (0 : Int)) (h1 := fun _ => rfl) hr1) hc1 h).mono ?_
  rintro e w' ⟨rfl, hd⟩
  exact ⟨rfl, hd⟩

end Go.Proofs.Ytlmenkhklpfefaa.MR
