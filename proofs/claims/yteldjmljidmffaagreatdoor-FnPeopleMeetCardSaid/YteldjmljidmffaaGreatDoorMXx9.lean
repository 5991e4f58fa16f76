-- The machine side, written by this repo's program mp.py; contracts marked as of this repo are this session's own.
import Derived.Test.YteldjmljidmffaaGreatDoorMXx0
import Derived.Test.YteldjmljidmffaaGreatDoorMXx1
import Derived.Test.YteldjmljidmffaaGreatDoorMXx2
import Derived.Test.YteldjmljidmffaaGreatDoorMXx3
import Derived.Test.YteldjmljidmffaaGreatDoorMXx6
import Derived.Test.YteldjmljidmffaaGreatDoorMXx8
namespace Go.Proofs.YteldjmljidmffaaGreatDoor.MX
open Go.RowKit Go.Proofs.YteldjmljidmffaaGreatDoorW.PrintWords Go.Proofs.YteldjmljidmffaaGreatDoorW.PrintLast Go.Proofs.YteldjmljidmffaaGreatDoorW.PrintMore
attribute [local go_sem] max2_int min2_int max_two min_two max_three min_three max_four min_four   -- for this text's walks alone
set_option linter.unusedVariables false
set_option linter.unusedSimpArgs false

/-! ### impl_readNumbers: function 57 (a contract of this repo) -/
def impl_readNumbers.all_ : List ByteArray → Option (List Int)
  | [] => some []
  | x :: r => (impl_readNumber.rd_ x.data.toList).bind fun v => (impl_readNumbers.all_ r).map fun l => v :: l
/-- The words of a text. -/
def impl_readNumbers.words (s sep : ByteArray) : List ByteArray := Go.Lib.splitB sep 0 (Go.Lib.countB s sep) s
def impl_readNumbers.f (a0 a1 : ByteArray) : Option (List Int × Bool) := if (a0.size ≤ 1048576 ∧ 1 ≤ a1.size) ∧ ((impl_readNumbers.words a0 a1).length ≤ 1048577 ∧ (impl_readNumbers.words a0 a1).length = Go.Lib.countB a0 a1 + 1) ∧ (impl_readNumbers.words a0 a1).all (fun x => decide (x.size ≤ 1048576)) = true then (match impl_readNumbers.all_ (impl_readNumbers.words a0 a1) with
  | some l => some (l, true)
  | none => some ([], false)) else none
set_option maxHeartbeats 4000000 in
set_option maxRecDepth 100000 in
theorem impl_readNumbers.walk (a0 a1 : ByteArray) (r1 : List Int) (r2 : Bool) (w : World) (hL : impl_readNumber.Laid w) (h : impl_readNumbers.f a0 a1 = some (r1, r2)) :
    Calls Tryz.prog 57 #[.string a0, .string a1] w fun e w' => ∃ v1 : Value, e = .returned (.tuple #[v1, .bool r2]) ∧ Kd.R (Kd.int .i64) 3 w' w.heap.size (fun _ => True) v1 r1 ∧ Below w.heap.size w w' := by
  unfold impl_readNumbers.f at h
  obtain ⟨⟨⟨hz, hs1⟩, ⟨hlen, hcnt⟩, hsm⟩, h⟩ := Option.ite_none_right_eq_some.1 h
  obtain ⟨ws, hws⟩ : ∃ ws, ws = impl_readNumbers.words a0 a1 := ⟨_, rfl⟩
  rw [← hws] at h hlen hcnt hsm
  have HL := Aside0.mk hL
  have HSP := Aside0.mk (show Calls Tryz.prog 75 #[.string a0, .string a1] w (fun e w' => e = .returned (.slice (some ⟨w.heap.size, 0, none⟩) ws.length ws.length) ∧ w' = w.alloc (.cells (ws.map Value.string).toArray 9)) from by
    obtain ⟨m, hm⟩ := hL.1
    have z := Tryz.strings_Split a0 a1 m w (by omega) hm hs1
    rw [hcnt, hws]
    exact z)
  have HSM := Aside0.mk (show ∀ x ∈ ws, x.size ≤ 1048576 from fun x hx => of_decide_eq_true (List.all_eq_true.1 hsm x hx))
  have HLEN0 := Aside0.mk hlen
  have HW := Aside0.mk (heap_alloc_new w (.cells (ws.map Value.string).toArray 9))
  have HB0 := Aside0.mk (below_alloc (Below.refl w.heap.size w) (.cells (ws.map Value.string).toArray 9))
  have HH := Aside0.mk (show (match (impl_readNumbers.all_ ws).map (fun l => [] ++ l) with
    | some l => some (l, true)
    | none => some ([], false)) = some (r1, r2) from by
      rw [← h]
      cases impl_readNumbers.all_ ws <;> rfl)
  clear h hws hcnt hsm hlen hL hz hs1
  have h0 : 0 ≤ ws.length := Nat.zero_le _
  go_enter Tryz.func57, Tryz.ntmps57
  go_wp2_with (go_at_call 75; refine HSP.out.mono ?_; rintro e w1 ⟨rfl, rfl⟩)
  go_loopw [6, 15] (fun lv iv wr => ∃ (i : Nat) (done : List Int), iv = .int .i64 i ∧ i ≤ ws.length ∧ Aside0 (done.length = i) ∧ Aside0 ((match (impl_readNumbers.all_ (ws.drop i)).map (fun l => done ++ l) with
    | some l => some (l, true)
    | none => some (([] : List Int), false)) = some (r1, r2)) ∧ Aside0 (Kd.R (Kd.int .i64) 3 wr w.heap.size (fun k => k ≠ w.heap.size) lv done) ∧ Aside0 (Below w.heap.size w wr) ∧ Aside0 (wr.heap[w.heap.size]? = some (.cells (ws.map Value.string).toArray 9 (0, 0)))) (fun _ iv _ => ws.length - (intOf iv).toNat)
  case atStart => exact ⟨0, [], rfl, by omega, ⟨rfl⟩, HH, ⟨Kd.R_nil _ _ _ _ _⟩, HB0, HW⟩
  case round =>
    clear HH HB0 HW
    obtain ⟨i, done, rfl, hi, HD, HH, HR, HB, HW⟩ := hrel
    obtain ⟨Ao, co, eo⟩ := Kd.R_slice HR.out
    subst eo
    by_cases hlt : i < ws.length
    · have hd : decide ((i : Int) < (ws.length : Int)) = true := decide_eq_true (by omega)
      obtain ⟨x, hx⟩ : ∃ x, x = ws[i] := ⟨_, rfl⟩
      have hcell : wr.cell? ⟨w.heap.size, i, none⟩ = some (.string x) := by
        rw [blk_cell HW.out]
        simp [hlt, hx]
      have hxs : x.size ≤ 1048576 := HSM.out x (by rw [hx]; exact List.getElem_mem hlt)
      have hh := HH.out
      rw [List.drop_eq_getElem_cons hlt, ← hx] at hh
      have HLEN := Aside0.mk (show done.length ≤ 1048577 by have := HD.out; have := HLEN0.out; omega)
      have HLT := Aside0.mk hlt
      have hrn := fun (o : Int × Bool) (ho : impl_readNumber.f x = some o) (W : World) (hW : Below w.heap.size w W) => impl_readNumber.walk x o.1 o.2 W (HL.out.below hW) ho
      clear hx
      cases hq : impl_readNumber.rd_ x.data.toList with
      | none =>
        simp only [impl_readNumbers.all_, hq, Option.bind_none, Option.map_none, Option.some.injEq, Prod.mk.injEq] at hh
        obtain ⟨rfl, rfl⟩ := hh
        have HC := Aside0.mk (hrn (0, false) (by unfold impl_readNumber.f; rw [if_pos hxs, hq]))
        clear hrn hq HH
        go_wp2_with (go_at_call 76; refine (HC.out _ HB.out).mono ?_; rintro e w1 ⟨rfl, hb1⟩; have HB1 := Aside0.mk (below_then HB.out HB.out.size hb1); clear hb1)
        refine bodyPost_ret (results_list (rs := [.tmp 4, .tmp 5]) rfl (by simp) (.tmp (.tmp .nil))) rfl ?_
        exact ⟨_, rfl, Kd.R_nil _ _ _ _ _, HB1.out⟩
      | some v0 =>
        have HC := Aside0.mk (hrn (v0, true) (by unfold impl_readNumber.f; rw [if_pos hxs, hq]))
        have HH2 := Aside0.mk (show (match (impl_readNumbers.all_ (ws.drop (i + 1))).map (fun l => (done ++ [v0]) ++ l) with
          | some l => some (l, true)
          | none => some (([] : List Int), false)) = some (r1, r2) from by
            rw [← hh]
            simp only [impl_readNumbers.all_, hq, Option.bind_some]
            cases impl_readNumbers.all_ (ws.drop (i + 1)) <;> simp)
        clear hrn hq HH hh
        go_wp2_with (first | (go_at_call 76; refine (HC.out _ HB.out).mono ?_; rintro e w1 ⟨rfl, hb1⟩; have HB1 := Aside0.mk (below_then HB.out HB.out.size hb1); have HR1 := Aside0.mk (Kd.R_below HR.out hb1); have HW1 := Aside0.mk ((hb1.block _ (Array.getElem?_eq_some_iff.1 HW.out).1).trans HW.out); clear hb1) | ((with_reducible refine gate_builtin (b := .append) (xs := #[.tmp 26, .tmp 28]) rfl ?_); at_builtin; refine Kd.R_append (Kd.int .i64) (w0 := w) w.heap.size rfl (.tmp 26) (.tmp 28) 24 3 (.int .i64 0) 8 rfl Tryz.underlying24 info3 rfl (by decide) (by omega) (.slice Ao done.length co) done v0 [.int .i64 v0] (fun k => k ≠ w.heap.size) (fun _ => False) rfl rfl ?aP (fun _ hk => hk.elim) ?aF ?aO ?aB ?aS ?aL ?_; (case aP => exact rfl); (case aB => exact (by repeat (first | (with_reducible first | exact HB1.out | apply below_alloc | apply pw_below_drewN | apply below_drew1) | exact HB1.out))); (case aF => exact (fun k hk => by have := (Array.getElem?_eq_some_iff.1 HW1.out).1; omega)); (case aO => exact HR1.out); (case aS => exact (below_size (by repeat (first | (with_reducible first | exact HB1.out | apply below_alloc | apply pw_below_drewN | apply below_drew1) | exact HB1.out)))); (case aL => have := HLEN.out; omega); intro v9 w9 ho hb hg hat; have HB9 := Aside0.mk hb; have HR9 := Aside0.mk ho; have HW9 := Aside0.mk ((hg.block w.heap.size (Array.getElem?_eq_some_iff.1 HW1.out).1 (Kd.R_away HR1.out (fun k hk => hk))).trans HW1.out); clear ho hb hg hat))
        have h0l := HLEN0.out
        have ew : wrap64 ((i : Int) + 1) = ((i + 1 : Nat) : Int) := by unfold wrap64; omega
        go_roundw
        case rel => exact ⟨i + 1, done ++ [v0], by rw [ew], by omega, ⟨by have := HD.out; simp; omega⟩, HH2, HR9, HB9, HW9⟩
        case measure => rw [ew]; simp only [intOf, Int.toNat_natCast]; omega
    · obtain rfl : i = ws.length := by omega
      have hd : decide ((ws.length : Int) < (ws.length : Int)) = false := decide_eq_false (by omega)
      have hh := HH.out
      rw [List.drop_length] at hh
      simp only [impl_readNumbers.all_, Option.map_some, List.append_nil, Option.some.injEq, Prod.mk.injEq] at hh
      obtain ⟨rfl, rfl⟩ := hh
      clear hi hlt HH
      go_wp2
      refine bodyPost_ret (results_list (rs := [.tmp 4, .tmp 5]) rfl (by simp) (.tmp (.tmp .nil))) rfl ?_
      exact ⟨_, rfl, Kd.R_mono HR.out (fun _ _ => trivial), HB.out⟩

/-! ### impl_ParsePeople: function 27 (a contract of this repo) -/
def impl_ParsePeople.f (k : Nat) (a0 : ByteArray) : Option (List Int × Bool) := (impl_readNumbers.f a0 ⟨#[45]⟩).bind fun p => if p.2 = true then (impl_ArePeople.f k p.1).bind fun t => if t = true then some (p.1, true) else some ([], false) else some ([], false)
theorem impl_ParsePeople.mono : ∀ a0 k, LeO (impl_ParsePeople.f k a0) (impl_ParsePeople.f (k + 1) a0) := fun a0 k => by
  unfold impl_ParsePeople.f
  refine LeO.bind (LeO.refl _) (fun p => LeO.ite (LeO.bind (impl_ArePeople.mono _ k) (fun _ => LeO.refl _)) (LeO.refl _))
set_option maxHeartbeats 4000000 in
set_option maxRecDepth 100000 in
theorem impl_ParsePeople.calls (k : Nat) (a0 : ByteArray) (r1 : List Int) (r2 : Bool) (w : World) (h : impl_ParsePeople.f k a0 = some (r1, r2)) (hL : impl_readNumber.Laid w) :
    Calls Tryz.prog 27 #[.string a0] w fun e w' => ∃ v1 : Value, e = .returned (.tuple #[v1, .bool r2]) ∧ Kd.R (Kd.int .i64) 3 w' w.heap.size (fun _ => True) v1 r1 ∧ Below w.heap.size w w' := by
  unfold impl_ParsePeople.f at h
  obtain ⟨⟨l, b⟩, h1, h⟩ := Option.bind_eq_some_iff.1 h
  have HC := Aside0.mk (impl_readNumbers.walk a0 ⟨#[45]⟩ l b w hL h1)
  clear h1 hL
  cases b with
  | false =>
    rw [if_neg (by simp)] at h
    obtain ⟨rfl, rfl⟩ := Prod.mk.inj (Option.some.inj h)
    clear h
    go_enter Tryz.func27, Tryz.ntmps27
    go_wp2_with (go_at_call 57; refine HC.out.mono ?_; rintro e w1 ⟨v1, rfl, hR, hB⟩; have HB := Aside0.mk hB; clear hR hB)
    refine bodyPost_ret (results_list (rs := [.tmp 2, .tmp 3]) rfl (by simp) (.tmp (.tmp .nil))) rfl ?_
    exact ⟨_, rfl, Kd.R_nil _ _ _ _ _, HB.out⟩
  | true =>
    rw [if_pos rfl] at h
    obtain ⟨t, h2, h⟩ := Option.bind_eq_some_iff.1 h
    have HT := Aside0.mk (show ∀ (A : Option Addr) (c : Nat) (W : World), Kd.C (Kd.int .i64) W A l.length l → l.length ≤ c → Calls Tryz.prog 19 #[.slice A l.length c] W _ from fun A c W hr hc => impl_ArePeople.calls k A c l t W hr hc h2)
    clear h2
    cases t with
    | false =>
      rw [if_neg (by simp)] at h
      obtain ⟨rfl, rfl⟩ := Prod.mk.inj (Option.some.inj h)
      clear h
      go_enter Tryz.func27, Tryz.ntmps27
      go_wp2_with (first | (go_at_call 57; refine HC.out.mono ?_; rintro e w1 ⟨v1, rfl, hR, hB⟩; obtain ⟨A1, c1, e1⟩ := Kd.R_slice hR; subst e1; have HK := Aside0.mk (Kd.R_reads' hR); have HB := Aside0.mk hB; clear hR hB) | (go_at_call 19; refine (HT.out _ _ _ HK.out.2.2 HK.out.2.1).mono ?_; rintro e w2 ⟨rfl, ⟨nd, rfl⟩⟩))
      refine bodyPost_ret (results_list (rs := [.tmp 2, .tmp 3]) rfl (by simp) (.tmp (.tmp .nil))) rfl ?_
      exact ⟨_, rfl, Kd.R_nil _ _ _ _ _, pw_below_drewN HB.out _⟩
    | true =>
      rw [if_pos rfl] at h
      obtain ⟨rfl, rfl⟩ := Prod.mk.inj (Option.some.inj h)
      clear h
      go_enter Tryz.func27, Tryz.ntmps27
      go_wp2_with (first | (go_at_call 57; refine HC.out.mono ?_; rintro e w1 ⟨v1, rfl, hR, hB⟩; obtain ⟨A1, c1, e1⟩ := Kd.R_slice hR; subst e1; have HK := Aside0.mk (Kd.R_reads' hR); have HR := Aside0.mk hR; have HB := Aside0.mk hB; clear hR hB) | (go_at_call 19; refine (HT.out _ _ _ HK.out.2.2 HK.out.2.1).mono ?_; rintro e w2 ⟨rfl, ⟨nd, rfl⟩⟩))
      refine bodyPost_ret (results_list (rs := [.tmp 2, .tmp 3]) rfl (by simp) (.tmp (.tmp .nil))) rfl ?_
      exact ⟨_, rfl, Kd.R_drewN HR.out _, pw_below_drewN HB.out _⟩

/-! ### spec_DrawMovedPeople: function 28 -/
def spec_DrawMovedPeople.in_ (k : Nat) (s0_0 : List Int) (s0_1 : Int) (s0_2 : Int) : Option (List Int × Int × Int × Int × Int × Int) := (spec_l1Cur_people.f k s0_0 s0_1 s0_2).bind fun bt272 => ((spec_l1Cur_pick.f s0_0 bt272.2.1 bt272.2.2 (wrap64 ((bt272.1.length : Int) + 1))).bind fun bt277 => ((spec_l1Cur_pick.f s0_0 bt277.2.1 bt277.2.2 8).bind fun bt280 => ((spec_l1Cur_pick.f s0_0 bt280.2.1 bt280.2.2 (wrap64 ((bt272.1.length : Int) + 1))).bind fun bt283 => ((spec_l1Cur_among.f s0_0 bt283.2.1 bt283.2.2 (([1, 1, 2, 3, 0, (-1), 4611686018427387904] : List Int))).bind fun bt289 => (some (bt272.1, wrap64 (bt277.1 - (wrap64 (Int.tdiv bt280.1 7))), bt283.1, bt289.1, bt289.2.1, bt289.2.2))))))
theorem spec_DrawMovedPeople.mono_in : ∀ a0 a1 a2 k, LeO (spec_DrawMovedPeople.in_ k a0 a1 a2) (spec_DrawMovedPeople.in_ (k + 1) a0 a1 a2) := by
  intro a0 a1 a2 k
  unfold spec_DrawMovedPeople.in_
  repeat' first
      | (with_reducible exact spec_l1Cur_people.mono _ _ _ _)
      | (with_reducible exact LeO.refl _)
      | (with_reducible exact LeO.none _)
      | (with_reducible refine LeO.ite ?_ ?_)
      | (with_reducible refine LeO.bind ?_ (fun _ => ?_))
      | exact spec_l1Cur_people.mono _ _ _ _
      | exact LeO.none _
      | refine LeO.ite ?_ ?_
      | refine LeO.bind ?_ (fun _ => ?_)
def spec_DrawMovedPeople.f (k : Nat) (l0 : List Int) : Option (List Int × Int × Int × Int) := (spec_DrawMovedPeople.in_ k l0 0 0).bind fun r => some (r.1, r.2.1, r.2.2.1, r.2.2.2.1)
theorem spec_DrawMovedPeople.mono : ∀ a0 k, LeO (spec_DrawMovedPeople.f k a0) (spec_DrawMovedPeople.f (k + 1) a0) := fun a0 k => LeO.bind (spec_DrawMovedPeople.mono_in _ _ _ k) (fun _ => LeO.refl _)
set_option maxHeartbeats 8000000 in
set_option maxRecDepth 100000 in
theorem spec_DrawMovedPeople.calls (k : Nat) (A0 : Option Addr) (c0 : Nat) (l0 : List Int) (r1 : List Int) (r2 : Int) (r3 : Int) (r4 : Int) (w0 : World) (hr0 : Kd.C (Kd.int .u8) w0 A0 l0.length l0) (hc0 : l0.length ≤ c0) (h : spec_DrawMovedPeople.f k l0 = some (r1, r2, r3, r4)) :
    Calls Tryz.prog 28 #[.slice A0 l0.length c0] w0 fun e w' => ∃ v0_ : Value, e = .returned (.tuple #[v0_, .int .i64 r2, .int .i64 r3, .int .i64 r4]) ∧ Kd.R (Kd.int .i64) 3 w' w0.heap.size (fun _ => True) v0_ r1 ∧ Below w0.heap.size w0 w' := by
  unfold spec_DrawMovedPeople.f at h
  obtain ⟨⟨y0_, y1_, y2_, y3_, r5, r6⟩, h1_, h⟩ := Option.bind_eq_some_iff.1 h
  obtain ⟨rfl, rfl, rfl, rfl⟩ : y0_ = r1 ∧ y1_ = r2 ∧ y2_ = r3 ∧ y3_ = r4 := by simpa using h
  clear h
  have HIe := Aside0.mk (show IsS62 w0 (w0.alloc (.cells #[.slice A0 l0.length c0, .int .i64 0, .int .u64 0] 62)) w0.heap.size l0 0 0 from ⟨A0, c0, heap_alloc_new _ _, Nat.le_refl _, hr0⟩)
  have HBe := Aside0.mk (below_alloc (Below.refl w0.heap.size w0) (.cells #[.slice A0 l0.length c0, .int .i64 0, .int .u64 0] 62))
  have HKe := Aside0.mk (show KeepBut w0 (w0.alloc (.cells #[.slice A0 l0.length c0, .int .i64 0, .int .u64 0] 62)) (w0.heap.size) none from ⟨HBe.out.size, fun i hi _ _ => HBe.out.block i hi⟩)
  obtain ⟨W_, hW_⟩ : ∃ W_ : World, W_ = (w0.alloc (.cells #[.slice A0 l0.length c0, .int .i64 0, .int .u64 0] 62)) := ⟨_, rfl⟩
  rw [← hW_] at HIe HBe HKe
  obtain ⟨s0_0, hs0_⟩ : ∃ z : List Int, z = l0 := ⟨_, rfl⟩
  obtain ⟨s0_1, hs1_⟩ : ∃ z : Int, z = 0 := ⟨_, rfl⟩
  obtain ⟨s0_2, hs2_⟩ : ∃ z : Int, z = 0 := ⟨_, rfl⟩
  obtain ⟨g, hg⟩ : ∃ z : Nat, z = w0.heap.size := ⟨_, rfl⟩
  have HIf := Aside0.mk (show IsS62 w0 W_ g s0_0 s0_1 s0_2 by rw [hs0_, hs1_, hs2_, hg]; exact HIe.out)
  have HKf := Aside0.mk (show KeepBut w0 W_ g none by rw [hg]; exact HKe.out)
  have h : spec_DrawMovedPeople.in_ k s0_0 s0_1 s0_2 = some (y0_, y1_, y2_, y3_, r5, r6) := by rw [hs0_, hs1_, hs2_]; exact h1_
  clear hs0_ hs1_ hs2_ h1_ hr0 HIe HKe
  suffices key_ : ∀ Q_ : Ending → World → Prop, (∀ e w', (∃ v0_ : Value, e = .returned (.tuple #[v0_, .int .i64 y1_, .int .i64 y2_, .int .i64 y3_]) ∧ Kd.R (Kd.int .i64) 3 w' w0.heap.size (fun _ => True) v0_ y0_ ∧ IsS62 w0 w' g s0_0 r5 r6 ∧ Below w0.heap.size w0 w' ∧ KeepBut w0 w' g none) → Q_ e w') → Calls Tryz.prog 28 #[.slice A0 l0.length c0] w0 Q_ by
    exact key_ _ (fun e w' z_ => by obtain ⟨q0_, p0_, p1_, p2_, p3_, p4_⟩ := z_; exact ⟨q0_, p0_, p1_, p3_⟩)
  intro Q_ hQ_
  have HQ_ := Aside0.mk hQ_
  clear hQ_
  have H : ((spec_l1Cur_people.f k s0_0 s0_1 s0_2).bind fun bt272 => ((spec_l1Cur_pick.f s0_0 bt272.2.1 bt272.2.2 (wrap64 ((bt272.1.length : Int) + 1))).bind fun bt277 => ((spec_l1Cur_pick.f s0_0 bt277.2.1 bt277.2.2 8).bind fun bt280 => ((spec_l1Cur_pick.f s0_0 bt280.2.1 bt280.2.2 (wrap64 ((bt272.1.length : Int) + 1))).bind fun bt283 => ((spec_l1Cur_among.f s0_0 bt283.2.1 bt283.2.2 (([1, 1, 2, 3, 0, (-1), 4611686018427387904] : List Int))).bind fun bt289 => (some (bt272.1, wrap64 (bt277.1 - (wrap64 (Int.tdiv bt280.1 7))), bt283.1, bt289.1, bt289.2.1, bt289.2.2))))))) = some (y0_, y1_, y2_, y3_, r5, r6) := h
  clear h
  replace H := Option.bind_eq_some_iff.mp H
  obtain ⟨⟨t272, t275, t276⟩, A20, H⟩ := H
  replace H : ((spec_l1Cur_pick.f s0_0 t275 t276 (wrap64 ((t272.length : Int) + 1))).bind fun bt277 => ((spec_l1Cur_pick.f s0_0 bt277.2.1 bt277.2.2 8).bind fun bt280 => ((spec_l1Cur_pick.f s0_0 bt280.2.1 bt280.2.2 (wrap64 ((t272.length : Int) + 1))).bind fun bt283 => ((spec_l1Cur_among.f s0_0 bt283.2.1 bt283.2.2 (([1, 1, 2, 3, 0, (-1), 4611686018427387904] : List Int))).bind fun bt289 => (some (t272, wrap64 (bt277.1 - (wrap64 (Int.tdiv bt280.1 7))), bt283.1, bt289.1, bt289.2.1, bt289.2.2)))))) = some (y0_, y1_, y2_, y3_, r5, r6) := H
  have A2 := Aside0.mk A20
  clear A20
  replace H := Option.bind_eq_some_iff.mp H
  obtain ⟨⟨t277, t278, t279⟩, A30, H⟩ := H
  replace H : ((spec_l1Cur_pick.f s0_0 t278 t279 8).bind fun bt280 => ((spec_l1Cur_pick.f s0_0 bt280.2.1 bt280.2.2 (wrap64 ((t272.length : Int) + 1))).bind fun bt283 => ((spec_l1Cur_among.f s0_0 bt283.2.1 bt283.2.2 (([1, 1, 2, 3, 0, (-1), 4611686018427387904] : List Int))).bind fun bt289 => (some (t272, wrap64 (t277 - (wrap64 (Int.tdiv bt280.1 7))), bt283.1, bt289.1, bt289.2.1, bt289.2.2))))) = some (y0_, y1_, y2_, y3_, r5, r6) := H
  have A3 := Aside0.mk A30
  clear A30
  replace H := Option.bind_eq_some_iff.mp H
  obtain ⟨⟨t280, t281, t282⟩, A40, H⟩ := H
  replace H : ((spec_l1Cur_pick.f s0_0 t281 t282 (wrap64 ((t272.length : Int) + 1))).bind fun bt283 => ((spec_l1Cur_among.f s0_0 bt283.2.1 bt283.2.2 (([1, 1, 2, 3, 0, (-1), 4611686018427387904] : List Int))).bind fun bt289 => (some (t272, wrap64 (t277 - (wrap64 (Int.tdiv t280 7))), bt283.1, bt289.1, bt289.2.1, bt289.2.2)))) = some (y0_, y1_, y2_, y3_, r5, r6) := H
  have A4 := Aside0.mk A40
  clear A40
  replace H := Option.bind_eq_some_iff.mp H
  obtain ⟨⟨t283, t284, t285⟩, A50, H⟩ := H
  replace H : ((spec_l1Cur_among.f s0_0 t284 t285 (([1, 1, 2, 3, 0, (-1), 4611686018427387904] : List Int))).bind fun bt289 => (some (t272, wrap64 (t277 - (wrap64 (Int.tdiv t280 7))), t283, bt289.1, bt289.2.1, bt289.2.2))) = some (y0_, y1_, y2_, y3_, r5, r6) := H
  have A5 := Aside0.mk A50
  clear A50
  obtain ⟨y286, hy286⟩ : ∃ y_ : List Int, y_ = (([1, 1, 2, 3, 0, (-1), 4611686018427387904] : List Int)) := ⟨_, rfl⟩
  replace H : ((spec_l1Cur_among.f s0_0 t284 t285 y286).bind fun bt289 => (some (t272, wrap64 (t277 - (wrap64 (Int.tdiv t280 7))), t283, bt289.1, bt289.2.1, bt289.2.2))) = some (y0_, y1_, y2_, y3_, r5, r6) := by first | (rw [hy286]; with_reducible exact H) | (have H2_ := (Option.bind_some _ _).symm.trans H; rw [hy286]; with_reducible exact H2_) | (have H2_ := (Option.bind_some _ _).symm.trans H; with_reducible exact H2_) | with_reducible exact H | (rw [hy286]; exact H) | exact H
  have Ny286 := Aside0.mk hy286
  clear hy286
  replace H := Option.bind_eq_some_iff.mp H
  obtain ⟨⟨t289, t290, t291⟩, A60, H⟩ := H
  replace H : (some (t272, wrap64 (t277 - (wrap64 (Int.tdiv t280 7))), t283, t289, t290, t291)) = some (y0_, y1_, y2_, y3_, r5, r6) := H
  have A6 := Aside0.mk A60
  clear A60
  simp only [Option.some.injEq, Prod.mk.injEq] at H
  obtain ⟨rfl, rfl, rfl, rfl, rfl, rfl⟩ := H
  go_enter Tryz.func28, Tryz.ntmps28
  go_upto_region 2 with (fail)
  rw [← hW_]
  rw [← hg]
  have HI0 := HIf
  have HK := HKf
  have HB := HBe
  have HL := Aside0.mk (Nat.le_refl w0.heap.size)
  have HW0 := Aside0.mk (Nat.le_refl w0.heap.size)
  clear HIf HKf HBe hW_ hg
  go_wp2_with (first | ((with_reducible refine gate_callee (f := 58) rfl ?_); refine goesL_ (some 14) rfl rfl Tryz.func58 (by kernel_rfl) rfl #[.pointer (some ⟨g, 0, none⟩)] rfl (by (try simp only [List.map_toArray, List.map_cons, List.map_nil]); first | done | rfl | (simp only [List.length_drop, List.length_take]; rfl)) ?_; (with_reducible refine (spec_l1Cur_people.calls k g s0_0 s0_1 s0_2 t272 t275 t276 w0 _ ?side1 ?side2 A2.out).mono ?_); (case side1 => repeat (first | (with_reducible first | exact HI0.out | apply IsS62.alloc | apply IsS62.drewN | apply IsS62.drew | apply IsS62.set_1 | apply IsS62.set_2) | exact HI0.out)); (case side2 => repeat (first | (with_reducible first | exact HB.out | apply below_alloc | apply pw_below_drewN | apply below_drew1 | refine below_set ?_ (IsS62.ge HI0.out)) | exact HB.out)); rintro e w7 ⟨v273, rfl, ho0, hi, hb, hk⟩; refine ⟨_, rfl, ?_⟩; have n0_ := Aside0.mk (Kd.R_lower ho0 (keep_size (w := w0) (g := g) (row := none) (by repeat (first | (with_reducible first | exact HK.out | apply KeepBut.set_ | apply keep_drewN | apply keep_drew | apply keep_alloc) | exact HK.out)))); have n1_ := Aside0.mk (KeepBut.trans (by repeat (first | (with_reducible first | exact HK.out | apply KeepBut.set_ | apply keep_drewN | apply keep_drew | apply keep_alloc) | exact HK.out)) hk (.inl rfl)); have n2_ := Aside0.mk (hb); have n3_ := Aside0.mk (hi); clear HK; clear HB; clear HI0; have HO274 := n0_; have HK := n1_; have HB := n2_; have HI0 := n3_; clear n0_ n1_ n2_ n3_; (try clear hb); (try clear hb2); (try clear hk); (try clear hi); (try clear ho0); obtain ⟨Ao8, co8, eo8⟩ := Kd.R_slice HO274.out; subst eo8) | ((with_reducible refine gate_callee (f := 59) rfl ?_); refine goesL_ (some 19) rfl rfl Tryz.func59 (by kernel_rfl) rfl #[.pointer (some ⟨g, 0, none⟩), .int .i64 (wrap64 ((t272.length : Int) + 1))] rfl (by (try simp only [List.map_toArray, List.map_cons, List.map_nil]); first | done | rfl | (simp only [List.length_drop, List.length_take]; rfl)) ?_; (with_reducible refine (spec_l1Cur_pick.calls g s0_0 t275 t276 (wrap64 ((t272.length : Int) + 1)) t277 t278 t279 w0 _ ?side1 ?side2 A3.out).mono ?_); (case side1 => repeat (first | (with_reducible first | exact HI0.out | apply IsS62.alloc | apply IsS62.drewN | apply IsS62.drew | apply IsS62.set_1 | apply IsS62.set_2) | exact HI0.out)); (case side2 => repeat (first | (with_reducible first | exact HB.out | apply below_alloc | apply pw_below_drewN | apply below_drew1 | refine below_set ?_ (IsS62.ge HI0.out)) | exact HB.out)); rintro e w9 ⟨rfl, hi, hb, hk⟩; refine ⟨_, rfl, ?_⟩; have n0_ := Aside0.mk (Kd.R_mono (Kd.R_keep (IsS62.apart (show IsS62 w0 _ g s0_0 t275 t276 from by repeat (first | (with_reducible first | exact HI0.out | apply IsS62.alloc | apply IsS62.drewN | apply IsS62.drew | apply IsS62.set_1 | apply IsS62.set_2) | exact HI0.out)) (by (with_reducible repeat (first | apply Kd.R_alloc | apply Kd.R_drewN | apply Kd.R_drew)); exact HO274.out) (by decide)) hk (fun _ h => h.2)) (fun _ h => h.1)); have n1_ := Aside0.mk (KeepBut.trans (by repeat (first | (with_reducible first | exact HK.out | apply KeepBut.set_ | apply keep_drewN | apply keep_drew | apply keep_alloc) | exact HK.out)) hk (.inl rfl)); have n2_ := Aside0.mk (hb); have n3_ := Aside0.mk (hi); clear HO274; clear HK; clear HB; clear HI0; have HO274 := n0_; have HK := n1_; have HB := n2_; have HI0 := n3_; clear n0_ n1_ n2_ n3_; (try clear hb); (try clear hb2); (try clear hk); (try clear hi)) | ((with_reducible refine gate_callee (f := 59) rfl ?_); refine goesL_ (some 21) rfl rfl Tryz.func59 (by kernel_rfl) rfl #[.pointer (some ⟨g, 0, none⟩), .int .i64 8] rfl (by (try simp only [List.map_toArray, List.map_cons, List.map_nil]); first | done | rfl | (simp only [List.length_drop, List.length_take]; rfl)) ?_; (with_reducible refine (spec_l1Cur_pick.calls g s0_0 t278 t279 8 t280 t281 t282 w0 _ ?side1 ?side2 A4.out).mono ?_); (case side1 => repeat (first | (with_reducible first | exact HI0.out | apply IsS62.alloc | apply IsS62.drewN | apply IsS62.drew | apply IsS62.set_1 | apply IsS62.set_2) | exact HI0.out)); (case side2 => repeat (first | (with_reducible first | exact HB.out | apply below_alloc | apply pw_below_drewN | apply below_drew1 | refine below_set ?_ (IsS62.ge HI0.out)) | exact HB.out)); rintro e w10 ⟨rfl, hi, hb, hk⟩; refine ⟨_, rfl, ?_⟩; have n0_ := Aside0.mk (Kd.R_mono (Kd.R_keep (IsS62.apart (show IsS62 w0 _ g s0_0 t278 t279 from by repeat (first | (with_reducible first | exact HI0.out | apply IsS62.alloc | apply IsS62.drewN | apply IsS62.drew | apply IsS62.set_1 | apply IsS62.set_2) | exact HI0.out)) (by (with_reducible repeat (first | apply Kd.R_alloc | apply Kd.R_drewN | apply Kd.R_drew)); exact HO274.out) (by decide)) hk (fun _ h => h.2)) (fun _ h => h.1)); have n1_ := Aside0.mk (KeepBut.trans (by repeat (first | (with_reducible first | exact HK.out | apply KeepBut.set_ | apply keep_drewN | apply keep_drew | apply keep_alloc) | exact HK.out)) hk (.inl rfl)); have n2_ := Aside0.mk (hb); have n3_ := Aside0.mk (hi); clear HO274; clear HK; clear HB; clear HI0; have HO274 := n0_; have HK := n1_; have HB := n2_; have HI0 := n3_; clear n0_ n1_ n2_ n3_; (try clear hb); (try clear hb2); (try clear hk); (try clear hi)) | ((with_reducible refine gate_callee (f := 59) rfl ?_); refine goesL_ (some 28) rfl rfl Tryz.func59 (by kernel_rfl) rfl #[.pointer (some ⟨g, 0, none⟩), .int .i64 (wrap64 ((t272.length : Int) + 1))] rfl (by (try simp only [List.map_toArray, List.map_cons, List.map_nil]); first | done | rfl | (simp only [List.length_drop, List.length_take]; rfl)) ?_; (with_reducible refine (spec_l1Cur_pick.calls g s0_0 t281 t282 (wrap64 ((t272.length : Int) + 1)) t283 t284 t285 w0 _ ?side1 ?side2 A5.out).mono ?_); (case side1 => repeat (first | (with_reducible first | exact HI0.out | apply IsS62.alloc | apply IsS62.drewN | apply IsS62.drew | apply IsS62.set_1 | apply IsS62.set_2) | exact HI0.out)); (case side2 => repeat (first | (with_reducible first | exact HB.out | apply below_alloc | apply pw_below_drewN | apply below_drew1 | refine below_set ?_ (IsS62.ge HI0.out)) | exact HB.out)); rintro e w11 ⟨rfl, hi, hb, hk⟩; refine ⟨_, rfl, ?_⟩; have n0_ := Aside0.mk (Kd.R_mono (Kd.R_keep (IsS62.apart (show IsS62 w0 _ g s0_0 t281 t282 from by repeat (first | (with_reducible first | exact HI0.out | apply IsS62.alloc | apply IsS62.drewN | apply IsS62.drew | apply IsS62.set_1 | apply IsS62.set_2) | exact HI0.out)) (by (with_reducible repeat (first | apply Kd.R_alloc | apply Kd.R_drewN | apply Kd.R_drew)); exact HO274.out) (by decide)) hk (fun _ h => h.2)) (fun _ h => h.1)); have n1_ := Aside0.mk (KeepBut.trans (by repeat (first | (with_reducible first | exact HK.out | apply KeepBut.set_ | apply keep_drewN | apply keep_drew | apply keep_alloc) | exact HK.out)) hk (.inl rfl)); have n2_ := Aside0.mk (hb); have n3_ := Aside0.mk (hi); clear HO274; clear HK; clear HB; clear HI0; have HO274 := n0_; have HK := n1_; have HB := n2_; have HI0 := n3_; clear n0_ n1_ n2_ n3_; (try clear hb); (try clear hb2); (try clear hk); (try clear hi)) | ((with_reducible refine gate_dst (N := 33) rfl ?_); refine Kd.R_lit (Kd.int .i64) _ 3 ?hg (N := 33) ?hd (xs := ([1, 1, 2, 3, 0, (-1), 4611686018427387904] : List Int)) (inner := [.int .i64 1, .int .i64 1, .int .i64 2, .int .i64 3, .int .i64 0, .int .i64 (-1), .int .i64 4611686018427387904]) (ok := fun _ => True) (okp := fun _ => True) ?hr ?hp (fun _ hk => hk) trivial (Below.refl _ _) (Nat.le_refl _) (by simp) ?_; (case hd => rfl); (case hg => rfl); (case hr => first | (go_simp; done) | (go_simp; rfl)); (case hp => exact (Reps.one (show Kd.M (Kd.int .i64) _ _ _ 1 [.int .i64 1] from rfl) (Reps.one (show Kd.M (Kd.int .i64) _ _ _ 1 [.int .i64 1] from rfl) (Reps.one (show Kd.M (Kd.int .i64) _ _ _ 2 [.int .i64 2] from rfl) (Reps.one (show Kd.M (Kd.int .i64) _ _ _ 3 [.int .i64 3] from rfl) (Reps.one (show Kd.M (Kd.int .i64) _ _ _ 0 [.int .i64 0] from rfl) (Reps.one (show Kd.M (Kd.int .i64) _ _ _ (-1) [.int .i64 (-1)] from rfl) (Reps.one (show Kd.M (Kd.int .i64) _ _ _ 4611686018427387904 [.int .i64 4611686018427387904] from rfl) (Reps.none _ _))))))))); intro v287 w12 ho13 hb hg_ hnew_; clear hg_ hnew_; (first | rw [← Ny286.out] at ho13 | (simp only [Int.reduceToNat] at ho13; rw [← Ny286.out] at ho13)); have n0_ := Aside0.mk (Kd.R_elder' (by (with_reducible repeat (first | apply Kd.R_alloc | apply Kd.R_drewN | apply Kd.R_drew)); exact HO274.out) (Kd.R_base ho13) hb); have n1_ := Aside0.mk (Kd.R_lower (Kd.R_new' ho13 (Kd.R_lt (by (with_reducible repeat (first | apply Kd.R_alloc | apply Kd.R_drewN | apply Kd.R_drew)); exact HO274.out))) (keep_size (w := w0) (g := g) (row := none) (by repeat (first | (with_reducible first | exact HK.out | apply KeepBut.set_ | apply keep_drewN | apply keep_drew | apply keep_alloc) | exact HK.out)))); have n2_ := Aside0.mk (IsS62.below (by repeat (first | (with_reducible first | exact HI0.out | apply IsS62.alloc | apply IsS62.drewN | apply IsS62.drew | apply IsS62.set_1 | apply IsS62.set_2) | exact HI0.out)) hb); have n3_ := Aside0.mk (KeepBut.trans (by repeat (first | (with_reducible first | exact HK.out | apply KeepBut.set_ | apply keep_drewN | apply keep_drew | apply keep_alloc) | exact HK.out)) (KeepBut.of_below hb g none) (.inl rfl)); have n4_ := Aside0.mk (below_step (by repeat (first | (with_reducible first | exact HB.out | apply below_alloc | apply pw_below_drewN | apply below_drew1 | refine below_set ?_ (IsS62.ge HI0.out)) | exact HB.out)) hb); clear HO274; clear HI0; clear HK; clear HB; have HO274 := n0_; have HO288 := n1_; have HI0 := n2_; have HK := n3_; have HB := n4_; clear n0_ n1_ n2_ n3_ n4_; clear hb ho13; obtain ⟨Ao14, co14, eo14⟩ := Kd.R_slice HO288.out; subst eo14) | ((with_reducible refine gate_callee (f := 60) rfl ?_); refine goesL_ (some 34) rfl rfl Tryz.func60 (by kernel_rfl) rfl #[.pointer (some ⟨g, 0, none⟩), .slice Ao14 y286.length co14] rfl (by (try simp only [List.map_toArray, List.map_cons, List.map_nil]); first | done | rfl | (simp only [List.length_drop, List.length_take]; rfl)) ?_; (with_reducible refine (spec_l1Cur_among.calls g s0_0 t284 t285 _ _ y286 t289 t290 t291 w0 _ ?side1 ?side2 ?side3 ?side4 ?side5 A6.out).mono ?_); (case side1 => repeat (first | (with_reducible first | exact HI0.out | apply IsS62.alloc | apply IsS62.drewN | apply IsS62.drew | apply IsS62.set_1 | apply IsS62.set_2) | exact HI0.out)); (case side2 => repeat (first | (with_reducible first | exact HB.out | apply below_alloc | apply pw_below_drewN | apply below_drew1 | refine below_set ?_ (IsS62.ge HI0.out)) | exact HB.out)); (case side3 => repeat (first | exact (Kd.R_reads' HO288.out).2.2 | (with_reducible refine Kd.C_alloc ?_ _) | (with_reducible refine Kd.C_drewN ?_ _) | (with_reducible refine Kd.C_drew ?_))); (case side4 => exact (Kd.R_reads' HO288.out).2.1); (case side5 => exact far_slice (IsS62.own_ne HI0.out HO288.out (by decide))); rintro e w15 ⟨rfl, hi, hb, hk⟩; refine ⟨_, rfl, ?_⟩; have n0_ := Aside0.mk (Kd.R_mono (Kd.R_keep (IsS62.apart (show IsS62 w0 _ g s0_0 t284 t285 from by repeat (first | (with_reducible first | exact HI0.out | apply IsS62.alloc | apply IsS62.drewN | apply IsS62.drew | apply IsS62.set_1 | apply IsS62.set_2) | exact HI0.out)) (by (with_reducible repeat (first | apply Kd.R_alloc | apply Kd.R_drewN | apply Kd.R_drew)); exact HO274.out) (by decide)) hk (fun _ h => h.2)) (fun _ h => h.1)); have n1_ := Aside0.mk (Kd.R_mono (Kd.R_keep (IsS62.apart (show IsS62 w0 _ g s0_0 t284 t285 from by repeat (first | (with_reducible first | exact HI0.out | apply IsS62.alloc | apply IsS62.drewN | apply IsS62.drew | apply IsS62.set_1 | apply IsS62.set_2) | exact HI0.out)) (by (with_reducible repeat (first | apply Kd.R_alloc | apply Kd.R_drewN | apply Kd.R_drew)); exact HO288.out) (by decide)) hk (fun _ h => h.2)) (fun _ h => h.1)); have n2_ := Aside0.mk (KeepBut.trans (by repeat (first | (with_reducible first | exact HK.out | apply KeepBut.set_ | apply keep_drewN | apply keep_drew | apply keep_alloc) | exact HK.out)) hk (.inl rfl)); have n3_ := Aside0.mk (hb); have n4_ := Aside0.mk (hi); clear HO274; clear HO288; clear HK; clear HB; clear HI0; have HO274 := n0_; have HO288 := n1_; have HK := n2_; have HB := n3_; have HI0 := n4_; clear n0_ n1_ n2_ n3_ n4_; (try clear hb); (try clear hb2); (try clear hk); (try clear hi)))
  refine bodyPost_ret (results_list (rs := [.tmp 2, .tmp 3, .tmp 4, .tmp 5]) rfl (by simp) (.tmp (.tmp (.tmp (.tmp .nil))))) rfl ?_
  exact HQ_.out _ _ ⟨_, by first | rfl | (simp [errW_none, errW_some] <;> rfl) | (simp [*, errW_none, errW_some] <;> rfl), by (with_reducible repeat (first | apply Kd.R_alloc | apply Kd.R_drewN | apply Kd.R_drew)); exact Kd.R_mono HO274.out (fun _ hk => trivial), by repeat (first | (with_reducible first | exact HI0.out | apply IsS62.alloc | apply IsS62.drewN | apply IsS62.drew | apply IsS62.set_1 | apply IsS62.set_2) | exact HI0.out), by repeat (first | (with_reducible first | exact HB.out | apply below_alloc | apply pw_below_drewN | apply below_drew1 | refine below_set ?_ (IsS62.ge HI0.out)) | exact HB.out), by repeat (first | (with_reducible first | exact HK.out | apply KeepBut.set_ | apply keep_drewN | apply keep_drew | apply keep_alloc) | exact HK.out)⟩

/-! ### impl_MovedPeople: function 29 -/
def impl_MovedPeople.f (k : Nat) (l0 : List Int) (a1 : Int) (a2 : Int) (a3 : Int) : Option (List Int × Bool) := (impl_hasHouse.f k l0 a1).bind fun t292 => (if t292 = true then ((impl_hasHouse.f k l0 a2).bind fun t293 => (if t293 = true then (if a1 = a2 then (some (([] : List Int), false)) else (if 0 ≤ a1 then (if a1 < (l0.length : Int) then ((impl_within.f a3 1 (rd l0 a1)).bind fun t295 => (if t295 = true then (if 0 ≤ a2 then (if a2 < (l0.length : Int) then (if (wrap64 ((rd l0 a2) + a3)) > 1000 then (some (([] : List Int), false)) else ((slices_Clone_int_int.f l0).bind fun t297 => (if a1 < (t297.length : Int) then ((some (t297.set (a1 : Int).toNat (wrap64 ((rd t297 a1) - a3)) : List Int)).bind fun y301 => (if a2 < (t297.length : Int) then (some ((y301.set (a2 : Int).toNat (wrap64 ((rd y301 a2) + a3))), true)) else (none))) else (none)))) else (none)) else (none)) else (some (([] : List Int), false)))) else (none)) else (none))) else (some (([] : List Int), false)))) else (some (([] : List Int), false)))
theorem impl_MovedPeople.mono : ∀ a0 a1 a2 a3 k, LeO (impl_MovedPeople.f k a0 a1 a2 a3) (impl_MovedPeople.f (k + 1) a0 a1 a2 a3) := by
  intro a0 a1 a2 a3 k
  unfold impl_MovedPeople.f
  repeat' first
      | (with_reducible exact impl_hasHouse.mono _ _ _)
      | (with_reducible exact LeO.refl _)
      | (with_reducible exact LeO.none _)
      | (with_reducible refine LeO.ite ?_ ?_)
      | (with_reducible refine LeO.bind ?_ (fun _ => ?_))
      | exact impl_hasHouse.mono _ _ _
      | exact LeO.none _
      | refine LeO.ite ?_ ?_
      | refine LeO.bind ?_ (fun _ => ?_)
set_option maxHeartbeats 8000000 in
set_option maxRecDepth 100000 in
theorem impl_MovedPeople.calls (k : Nat) (A0 : Option Addr) (c0 : Nat) (l0 : List Int) (a1 : Int) (a2 : Int) (a3 : Int) (r1 : List Int) (r2 : Bool) (w : World) (hr0 : Kd.C (Kd.int .i64) w A0 l0.length l0) (hc0 : l0.length ≤ c0) (h : impl_MovedPeople.f k l0 a1 a2 a3 = some (r1, r2)) :
    Calls Tryz.prog 29 #[.slice A0 l0.length c0, .int .i64 a1, .int .i64 a2, .int .i64 a3] w fun e w' => ∃ v0_ : Value, e = .returned (.tuple #[v0_, .bool r2]) ∧ Kd.R (Kd.int .i64) 3 w' w.heap.size (fun _ => True) v0_ r1 ∧ Below w.heap.size w w' := by
  have HR0 := Aside0.mk hr0
  have HC0 := Aside0.mk hc0
  clear hr0 hc0
  have HB := Aside0.mk (Below.refl w.heap.size w)
  have H : ((impl_hasHouse.f k l0 a1).bind fun t292 => (if t292 = true then ((impl_hasHouse.f k l0 a2).bind fun t293 => (if t293 = true then (if a1 = a2 then (some (([] : List Int), false)) else (if 0 ≤ a1 then (if a1 < (l0.length : Int) then ((impl_within.f a3 1 (rd l0 a1)).bind fun t295 => (if t295 = true then (if 0 ≤ a2 then (if a2 < (l0.length : Int) then (if (wrap64 ((rd l0 a2) + a3)) > 1000 then (some (([] : List Int), false)) else ((slices_Clone_int_int.f l0).bind fun t297 => (if a1 < (t297.length : Int) then ((some (t297.set (a1 : Int).toNat (wrap64 ((rd t297 a1) - a3)) : List Int)).bind fun y301 => (if a2 < (t297.length : Int) then (some ((y301.set (a2 : Int).toNat (wrap64 ((rd y301 a2) + a3))), true)) else (none))) else (none)))) else (none)) else (none)) else (some (([] : List Int), false)))) else (none)) else (none))) else (some (([] : List Int), false)))) else (some (([] : List Int), false)))) = some (r1, r2) := h
  clear h
  replace H := Option.bind_eq_some_iff.mp H
  obtain ⟨t292, A50, H⟩ := H
  replace H : (if t292 = true then ((impl_hasHouse.f k l0 a2).bind fun t293 => (if t293 = true then (if a1 = a2 then (some (([] : List Int), false)) else (if 0 ≤ a1 then (if a1 < (l0.length : Int) then ((impl_within.f a3 1 (rd l0 a1)).bind fun t295 => (if t295 = true then (if 0 ≤ a2 then (if a2 < (l0.length : Int) then (if (wrap64 ((rd l0 a2) + a3)) > 1000 then (some (([] : List Int), false)) else ((slices_Clone_int_int.f l0).bind fun t297 => (if a1 < (t297.length : Int) then ((some (t297.set (a1 : Int).toNat (wrap64 ((rd t297 a1) - a3)) : List Int)).bind fun y301 => (if a2 < (t297.length : Int) then (some ((y301.set (a2 : Int).toNat (wrap64 ((rd y301 a2) + a3))), true)) else (none))) else (none)))) else (none)) else (none)) else (some (([] : List Int), false)))) else (none)) else (none))) else (some (([] : List Int), false)))) else (some (([] : List Int), false))) = some (r1, r2) := H
  have A5 := Aside0.mk A50
  clear A50
  by_cases c6 : t292 = true
  · subst c6
    have H1 : ((impl_hasHouse.f k l0 a2).bind fun t293 => (if t293 = true then (if a1 = a2 then (some (([] : List Int), false)) else (if 0 ≤ a1 then (if a1 < (l0.length : Int) then ((impl_within.f a3 1 (rd l0 a1)).bind fun t295 => (if t295 = true then (if 0 ≤ a2 then (if a2 < (l0.length : Int) then (if (wrap64 ((rd l0 a2) + a3)) > 1000 then (some (([] : List Int), false)) else ((slices_Clone_int_int.f l0).bind fun t297 => (if a1 < (t297.length : Int) then ((some (t297.set (a1 : Int).toNat (wrap64 ((rd t297 a1) - a3)) : List Int)).bind fun y301 => (if a2 < (t297.length : Int) then (some ((y301.set (a2 : Int).toNat (wrap64 ((rd y301 a2) + a3))), true)) else (none))) else (none)))) else (none)) else (none)) else (some (([] : List Int), false)))) else (none)) else (none))) else (some (([] : List Int), false)))) = some (r1, r2) := by rw [if_pos rfl] at H; exact H
    clear H
    have H := H1
    clear H1
    replace H := Option.bind_eq_some_iff.mp H
    obtain ⟨t293, A70, H⟩ := H
    replace H : (if t293 = true then (if a1 = a2 then (some (([] : List Int), false)) else (if 0 ≤ a1 then (if a1 < (l0.length : Int) then ((impl_within.f a3 1 (rd l0 a1)).bind fun t295 => (if t295 = true then (if 0 ≤ a2 then (if a2 < (l0.length : Int) then (if (wrap64 ((rd l0 a2) + a3)) > 1000 then (some (([] : List Int), false)) else ((slices_Clone_int_int.f l0).bind fun t297 => (if a1 < (t297.length : Int) then ((some (t297.set (a1 : Int).toNat (wrap64 ((rd t297 a1) - a3)) : List Int)).bind fun y301 => (if a2 < (t297.length : Int) then (some ((y301.set (a2 : Int).toNat (wrap64 ((rd y301 a2) + a3))), true)) else (none))) else (none)))) else (none)) else (none)) else (some (([] : List Int), false)))) else (none)) else (none))) else (some (([] : List Int), false))) = some (r1, r2) := H
    have A7 := Aside0.mk A70
    clear A70
    by_cases c8 : t293 = true
    · subst c8
      have H1 : (if a1 = a2 then (some (([] : List Int), false)) else (if 0 ≤ a1 then (if a1 < (l0.length : Int) then ((impl_within.f a3 1 (rd l0 a1)).bind fun t295 => (if t295 = true then (if 0 ≤ a2 then (if a2 < (l0.length : Int) then (if (wrap64 ((rd l0 a2) + a3)) > 1000 then (some (([] : List Int), false)) else ((slices_Clone_int_int.f l0).bind fun t297 => (if a1 < (t297.length : Int) then ((some (t297.set (a1 : Int).toNat (wrap64 ((rd t297 a1) - a3)) : List Int)).bind fun y301 => (if a2 < (t297.length : Int) then (some ((y301.set (a2 : Int).toNat (wrap64 ((rd y301 a2) + a3))), true)) else (none))) else (none)))) else (none)) else (none)) else (some (([] : List Int), false)))) else (none)) else (none))) = some (r1, r2) := by rw [if_pos rfl] at H; exact H
      clear H
      have H := H1
      clear H1
      by_cases c9 : a1 = a2
      · rw [if_pos c9] at H
        have c9b0 : (a1 == a2) = true := beq_iff_eq.mpr c9
        have c9b1 : (a1 != a2) = false := bne_eq_false_iff_eq.mpr c9
        clear c9
        simp only [Option.some.injEq, Prod.mk.injEq] at H
        obtain ⟨rfl, rfl⟩ := H
        go_enter Tryz.func29, Tryz.ntmps29
        go_wp2_with (first | ((with_reducible refine gate_callee (f := 55) rfl ?_); refine goesL_ (some 13) rfl rfl Tryz.func55 (by kernel_rfl) rfl #[.slice A0 l0.length c0, .int .i64 a1] rfl (by (try simp only [List.map_toArray, List.map_cons, List.map_nil]); first | done | rfl | (simp only [List.length_drop, List.length_take]; rfl)) ?_; (with_reducible refine (impl_hasHouse.calls k _ _ l0 a1 true _ ?side1 ?side2 A5.out).mono ?_); (case side1 => repeat (first | exact HR0.out | (with_reducible refine Kd.C_alloc ?_ _) | (with_reducible refine Kd.C_drewN ?_ _) | (with_reducible refine Kd.C_drew ?_))); (case side2 => exact HC0.out); rintro e w' ⟨rfl, ⟨nd, rfl⟩⟩; refine ⟨_, rfl, ?_⟩) | (go_at_call 55; (with_reducible refine (impl_hasHouse.calls k _ _ l0 a2 true _ ?side1 ?side2 A7.out).mono ?_); (case side1 => repeat (first | exact HR0.out | (with_reducible refine Kd.C_alloc ?_ _) | (with_reducible refine Kd.C_drewN ?_ _) | (with_reducible refine Kd.C_drew ?_))); (case side2 => exact HC0.out); rintro e w' ⟨rfl, ⟨nd, rfl⟩⟩))
        go_ret2
        exact ⟨_, by first | rfl | (simp [errW_none, errW_some] <;> rfl) | (simp [*, errW_none, errW_some] <;> rfl), by first | exact Kd.R_nil _ _ _ _ _ | exact Kd.N_nil _ _ _ _ _ | exact Kd.V_nil _ _ _ _ _ | exact Kd.Q_nil _ _ _ _ _ | exact Kd.S_nil _ _ _ _ _, by repeat (first | (with_reducible first | exact HB.out | apply below_alloc | apply pw_below_drewN | apply below_drew1) | exact HB.out)⟩
      · rw [if_neg c9] at H
        have c9b0 : (a1 == a2) = false := beq_eq_false_iff_ne.mpr c9
        have c9b1 : (a1 != a2) = true := bne_iff_ne.mpr c9
        by_cases c10 : 0 ≤ a1
        · rw [if_pos c10] at H
          have c10b0 : decide (0 ≤ a1) = true := decide_eq_true c10
          clear c10
          by_cases c11 : a1 < (l0.length : Int)
          · rw [if_pos c11] at H
            have c11b0 : decide (a1 < (l0.length : Int)) = true := decide_eq_true c11
            clear c11
            replace H := Option.bind_eq_some_iff.mp H
            obtain ⟨t295, A120, H⟩ := H
            replace H : (if t295 = true then (if 0 ≤ a2 then (if a2 < (l0.length : Int) then (if (wrap64 ((rd l0 a2) + a3)) > 1000 then (some (([] : List Int), false)) else ((slices_Clone_int_int.f l0).bind fun t297 => (if a1 < (t297.length : Int) then ((some (t297.set (a1 : Int).toNat (wrap64 ((rd t297 a1) - a3)) : List Int)).bind fun y301 => (if a2 < (t297.length : Int) then (some ((y301.set (a2 : Int).toNat (wrap64 ((rd y301 a2) + a3))), true)) else (none))) else (none)))) else (none)) else (none)) else (some (([] : List Int), false))) = some (r1, r2) := H
            have A12 := Aside0.mk A120
            clear A120
            by_cases c13 : t295 = true
            · subst c13
              have H1 : (if 0 ≤ a2 then (if a2 < (l0.length : Int) then (if (wrap64 ((rd l0 a2) + a3)) > 1000 then (some (([] : List Int), false)) else ((slices_Clone_int_int.f l0).bind fun t297 => (if a1 < (t297.length : Int) then ((some (t297.set (a1 : Int).toNat (wrap64 ((rd t297 a1) - a3)) : List Int)).bind fun y301 => (if a2 < (t297.length : Int) then (some ((y301.set (a2 : Int).toNat (wrap64 ((rd y301 a2) + a3))), true)) else (none))) else (none)))) else (none)) else (none)) = some (r1, r2) := by rw [if_pos rfl] at H; exact H
              clear H
              have H := H1
              clear H1
              by_cases c14 : 0 ≤ a2
              · rw [if_pos c14] at H
                have c14b0 : decide (0 ≤ a2) = true := decide_eq_true c14
                clear c14
                by_cases c15 : a2 < (l0.length : Int)
                · rw [if_pos c15] at H
                  have c15b0 : decide (a2 < (l0.length : Int)) = true := decide_eq_true c15
                  clear c15
                  by_cases c16 : (wrap64 ((rd l0 a2) + a3)) > 1000
                  · rw [if_pos c16] at H
                    have c16b0 : decide (1000 < (wrap64 ((rd l0 a2) + a3))) = true := decide_eq_true c16
                    clear c16
                    simp only [Option.some.injEq, Prod.mk.injEq] at H
                    obtain ⟨rfl, rfl⟩ := H
                    go_enter Tryz.func29, Tryz.ntmps29
                    go_wp2_with (first | ((with_reducible refine gate_callee (f := 55) rfl ?_); refine goesL_ (some 13) rfl rfl Tryz.func55 (by kernel_rfl) rfl #[.slice A0 l0.length c0, .int .i64 a1] rfl (by (try simp only [List.map_toArray, List.map_cons, List.map_nil]); first | done | rfl | (simp only [List.length_drop, List.length_take]; rfl)) ?_; (with_reducible refine (impl_hasHouse.calls k _ _ l0 a1 true _ ?side1 ?side2 A5.out).mono ?_); (case side1 => repeat (first | exact HR0.out | (with_reducible refine Kd.C_alloc ?_ _) | (with_reducible refine Kd.C_drewN ?_ _) | (with_reducible refine Kd.C_drew ?_))); (case side2 => exact HC0.out); rintro e w' ⟨rfl, ⟨nd, rfl⟩⟩; refine ⟨_, rfl, ?_⟩) | (go_at_call 55; (with_reducible refine (impl_hasHouse.calls k _ _ l0 a2 true _ ?side1 ?side2 A7.out).mono ?_); (case side1 => repeat (first | exact HR0.out | (with_reducible refine Kd.C_alloc ?_ _) | (with_reducible refine Kd.C_drewN ?_ _) | (with_reducible refine Kd.C_drew ?_))); (case side2 => exact HC0.out); rintro e w' ⟨rfl, ⟨nd, rfl⟩⟩; have p294 : 0 ≤ (a1 : Int) := of_decide_eq_true (by first | (with_reducible assumption) | assumption); have q294 : a1 < (l0.length : Int) := of_decide_eq_true (by first | (with_reducible assumption) | assumption); obtain ⟨ad294, e294, hx294_0⟩ := Kd.at_int HR0.out a1 p294 q294; cases e294; replace p294 := eq_true p294; replace q294 := eq_true q294) | (go_at_call 53; (with_reducible refine (impl_within.calls a3 1 (rd l0 a1) true _ A12.out).mono ?_); rintro e w' ⟨rfl, ⟨nd, rfl⟩⟩; have p296 : 0 ≤ (a2 : Int) := of_decide_eq_true (by first | (with_reducible assumption) | assumption); have q296 : a2 < (l0.length : Int) := of_decide_eq_true (by first | (with_reducible assumption) | assumption); obtain ⟨ad296, e296, hx296_0⟩ := Kd.at_int HR0.out a2 p296 q296; obtain rfl : ad294 = ad296 := (by injection e296); replace p296 := eq_true p296; replace q296 := eq_true q296))
                    go_ret2
                    exact ⟨_, by first | rfl | (simp [errW_none, errW_some] <;> rfl) | (simp [*, errW_none, errW_some] <;> rfl), by first | exact Kd.R_nil _ _ _ _ _ | exact Kd.N_nil _ _ _ _ _ | exact Kd.V_nil _ _ _ _ _ | exact Kd.Q_nil _ _ _ _ _ | exact Kd.S_nil _ _ _ _ _, by repeat (first | (with_reducible first | exact HB.out | apply below_alloc | apply pw_below_drewN | apply below_drew1) | exact HB.out)⟩
                  · rw [if_neg c16] at H
                    have c16b0 : decide (1000 < (wrap64 ((rd l0 a2) + a3))) = false := decide_eq_false c16
                    clear c16
                    replace H := Option.bind_eq_some_iff.mp H
                    obtain ⟨t297, A170, H⟩ := H
                    replace H : (if a1 < (t297.length : Int) then ((some (t297.set (a1 : Int).toNat (wrap64 ((rd t297 a1) - a3)) : List Int)).bind fun y301 => (if a2 < (t297.length : Int) then (some ((y301.set (a2 : Int).toNat (wrap64 ((rd y301 a2) + a3))), true)) else (none))) else (none)) = some (r1, r2) := H
                    have A17 := Aside0.mk A170
                    clear A170
                    by_cases c18 : a1 < (t297.length : Int)
                    · rw [if_pos c18] at H
                      have c18b0 : decide (a1 < (t297.length : Int)) = true := decide_eq_true c18
                      clear c18
                      obtain ⟨y301, hy301⟩ : ∃ y_ : List Int, y_ = (t297.set (a1 : Int).toNat (wrap64 ((rd t297 a1) - a3))) := ⟨_, rfl⟩
                      replace H : (if a2 < (t297.length : Int) then (some ((y301.set (a2 : Int).toNat (wrap64 ((rd y301 a2) + a3))), true)) else (none)) = some (r1, r2) := by first | (rw [hy301]; with_reducible exact H) | (have H2_ := (Option.bind_some _ _).symm.trans H; rw [hy301]; with_reducible exact H2_) | (have H2_ := (Option.bind_some _ _).symm.trans H; with_reducible exact H2_) | with_reducible exact H | (rw [hy301]; exact H) | exact H
                      have Ny301 := Aside0.mk hy301
                      clear hy301
                      by_cases c20 : a2 < (t297.length : Int)
                      · rw [if_pos c20] at H
                        have c20b0 : decide (a2 < (t297.length : Int)) = true := decide_eq_true c20
                        clear c20
                        obtain ⟨y303, hy303⟩ : ∃ y_ : List Int, y_ = (y301.set (a2 : Int).toNat (wrap64 ((rd y301 a2) + a3))) := ⟨_, rfl⟩
                        replace H : (some (y303, true)) = some (r1, r2) := by first | (rw [hy303]; with_reducible exact H) | (have H2_ := (Option.bind_some _ _).symm.trans H; rw [hy303]; with_reducible exact H2_) | (have H2_ := (Option.bind_some _ _).symm.trans H; with_reducible exact H2_) | with_reducible exact H | (rw [hy303]; exact H) | exact H
                        have Ny303 := Aside0.mk hy303
                        clear hy303
                        simp only [Option.some.injEq, Prod.mk.injEq] at H
                        obtain ⟨rfl, rfl⟩ := H
                        go_enter Tryz.func29, Tryz.ntmps29
                        go_wp2_with (first | ((with_reducible refine gate_callee (f := 55) rfl ?_); refine goesL_ (some 13) rfl rfl Tryz.func55 (by kernel_rfl) rfl #[.slice A0 l0.length c0, .int .i64 a1] rfl (by (try simp only [List.map_toArray, List.map_cons, List.map_nil]); first | done | rfl | (simp only [List.length_drop, List.length_take]; rfl)) ?_; (with_reducible refine (impl_hasHouse.calls k _ _ l0 a1 true _ ?side1 ?side2 A5.out).mono ?_); (case side1 => repeat (first | exact HR0.out | (with_reducible refine Kd.C_alloc ?_ _) | (with_reducible refine Kd.C_drewN ?_ _) | (with_reducible refine Kd.C_drew ?_))); (case side2 => exact HC0.out); rintro e w' ⟨rfl, ⟨nd, rfl⟩⟩; refine ⟨_, rfl, ?_⟩) | (go_at_call 55; (with_reducible refine (impl_hasHouse.calls k _ _ l0 a2 true _ ?side1 ?side2 A7.out).mono ?_); (case side1 => repeat (first | exact HR0.out | (with_reducible refine Kd.C_alloc ?_ _) | (with_reducible refine Kd.C_drewN ?_ _) | (with_reducible refine Kd.C_drew ?_))); (case side2 => exact HC0.out); rintro e w' ⟨rfl, ⟨nd, rfl⟩⟩; have p294 : 0 ≤ (a1 : Int) := of_decide_eq_true (by first | (with_reducible assumption) | assumption); have q294 : a1 < (l0.length : Int) := of_decide_eq_true (by first | (with_reducible assumption) | assumption); obtain ⟨ad294, e294, hx294_0⟩ := Kd.at_int HR0.out a1 p294 q294; cases e294; replace p294 := eq_true p294; replace q294 := eq_true q294) | (go_at_call 53; (with_reducible refine (impl_within.calls a3 1 (rd l0 a1) true _ A12.out).mono ?_); rintro e w' ⟨rfl, ⟨nd, rfl⟩⟩; have p296 : 0 ≤ (a2 : Int) := of_decide_eq_true (by first | (with_reducible assumption) | assumption); have q296 : a2 < (l0.length : Int) := of_decide_eq_true (by first | (with_reducible assumption) | assumption); obtain ⟨ad296, e296, hx296_0⟩ := Kd.at_int HR0.out a2 p296 q296; obtain rfl : ad294 = ad296 := (by injection e296); replace p296 := eq_true p296; replace q296 := eq_true q296) | ((with_reducible refine gate_callee (f := 49) rfl ?_); refine goesL_ (some 45) rfl rfl Tryz.func49 (by kernel_rfl) rfl #[.slice (some ad294) l0.length c0] rfl (by (try simp only [List.map_toArray, List.map_cons, List.map_nil]); first | done | rfl | (simp only [List.length_drop, List.length_take]; rfl)) ?_; (with_reducible refine (slices_Clone_int_int.calls _ _ l0 t297 _ ?side1 ?side2 A17.out).mono ?_); (case side1 => repeat (first | exact HR0.out | (with_reducible refine Kd.C_alloc ?_ _) | (with_reducible refine Kd.C_drewN ?_ _) | (with_reducible refine Kd.C_drew ?_))); (case side2 => exact HC0.out); rintro e w22 ⟨v298, rfl, ho0, hb⟩; refine ⟨_, rfl, ?_⟩; have n0_ := Aside0.mk (Kd.R_lower ho0 (below_size (by repeat (first | (with_reducible first | exact HB.out | apply below_alloc | apply pw_below_drewN | apply below_drew1) | exact HB.out)))); have n1_ := Aside0.mk (below_step (by repeat (first | (with_reducible first | exact HB.out | apply below_alloc | apply pw_below_drewN | apply below_drew1) | exact HB.out)) hb); clear HB; have HO299 := n0_; have HB := n1_; clear n0_ n1_; (try clear hb); (try clear hb2); (try clear hk); (try clear hi); (try clear ho0); obtain ⟨Ao23, co23, eo23⟩ := Kd.R_slice HO299.out; subst eo23; have p300 : 0 ≤ (a1 : Int) := of_decide_eq_true (by first | (with_reducible assumption) | assumption); have q300 : a1 < (t297.length : Int) := of_decide_eq_true (by first | (with_reducible assumption) | assumption); obtain ⟨ad300, e300, hx300_0⟩ := Kd.at_int (Kd.R_reads' HO299.out).2.2 a1 p300 q300; cases e300; replace p300 := eq_true p300; replace q300 := eq_true q300; have p19 : 0 ≤ (a1 : Int) := of_decide_eq_true (by first | (with_reducible assumption) | assumption); have q19 : (a1 : Int) < ((t297.length : Int) : Int) := of_decide_eq_true (by first | (with_reducible assumption) | assumption); obtain ⟨go19, co19, eo19, gb19, gl19, cl19, HG19⟩ := Kd.R_form HO299.out (by omega); (first | cases eo19 | (injection eo19 with ea_ en_ ec_; (first | subst ea_ | (injection ea_ with ea_; subst ea_)); subst ec_; clear en_)); have GB19 := Aside0.mk gb19; have GG19 := Aside0.mk HG19; clear gb19 gl19 HG19; (first | simp only [add_plain] at hx300_0 | skip); obtain ⟨hx19_0, hf19_0⟩ := Kd.R_celln 0 HO299.out (a1 : Int) p19 q19; replace p19 := eq_true p19; replace q19 := eq_true q19; obtain ⟨hy24_, hz24_⟩ := Kd.R_celln 0 HO299.out (a1 : Int) (of_decide_eq_true (by first | (with_reducible assumption) | assumption)) (of_decide_eq_true (by first | (with_reducible assumption) | assumption)); have HP24 := Kd.R_putg HO299.out (a1 : Int) (wrap64 ((rd t297 a1) - a3))) | ((with_reducible refine gate_store (t := 3) (p := 52) rfl ?_); refine store_event (t := 3) (p := 52) (v := ?vo_w25) (w1 := (w22.setCell ⟨go19, (a1 : Int).toNat, none⟩ (.int .i64 (wrap64 ((rd t297 a1) - a3))))) ?hg ?ho ?hn ?hr ?_; (case ho => rfl); (case hg => rfl); (case hn => rfl); (case hr => first | (go_simp; done) | (go_simp; rfl)); intro w25 hw; have hg : w22.grownBy w25 (some go19) := (by rw [hw]; exact HP24.2); have hp_ : Kd.R (Kd.int .i64) 3 w25 w.heap.size (fun _ => True) (.slice (some ⟨go19, 0, none⟩) t297.length co23) y301 := (by rw [hw, Ny301.out]; exact HP24.1); clear HP24; have n0_ := Aside0.mk (hp_); have n1_ := Aside0.mk ((by rw [hw]; exact below_set (HB.out) GB19.out : Below w.heap.size w w25)); clear HO299; clear HB; have HO299 := n0_; have HB := n1_; clear n0_ n1_; clear hg hw hp_; have p302 : 0 ≤ (a2 : Int) := of_decide_eq_true (by first | (with_reducible assumption) | assumption); have q302 : a2 < (y301.length : Int) := (by have h_ : (a2 : Int) < ((t297.length : Int) : Int) := of_decide_eq_true (by first | (with_reducible assumption) | assumption); first | (have e_ := (Kd.R_reads' HO299.out).1; omega) | simpa only [Ny301.out, List.length_set] using h_); have ql302 : ((a2 : Int) < ((t297.length : Int) : Int)) = True := eq_true (of_decide_eq_true (by first | (with_reducible assumption) | assumption)); obtain ⟨ad302, e302, hx302_0⟩ := Kd.at_int (Kd.R_reads' HO299.out).2.2 a2 p302 q302; obtain rfl : (⟨go19, 0, none⟩ : Addr) = ad302 := (by injection e302); (first | simp only [add_plain] at hx302_0 | simp only [add_at] at hx302_0 | simp only [Addr.add, Nat.zero_add] at hx302_0 | skip); replace p302 := eq_true p302; replace q302 := eq_true q302; have p21 : 0 ≤ (a2 : Int) := of_decide_eq_true (by first | (with_reducible assumption) | assumption); have q21 : (a2 : Int) < ((t297.length : Int) : Int) := of_decide_eq_true (by first | (with_reducible assumption) | assumption); obtain ⟨hx21_0, hf21_0⟩ := Kd.R_celln 0 HO299.out (a2 : Int) p21 q21; replace p21 := eq_true p21; replace q21 := eq_true q21; obtain ⟨hy26_, hz26_⟩ := Kd.R_celln 0 HO299.out (a2 : Int) (of_decide_eq_true (by first | (with_reducible assumption) | assumption)) (of_decide_eq_true (by first | (with_reducible assumption) | assumption)); have HP26 := Kd.R_putg HO299.out (a2 : Int) (wrap64 ((rd y301 a2) + a3))) | ((with_reducible refine gate_store (t := 3) (p := 59) rfl ?_); refine store_event (t := 3) (p := 59) (v := ?vo_w27) (w1 := (w25.setCell ⟨go19, (a2 : Int).toNat, none⟩ (.int .i64 (wrap64 ((rd y301 a2) + a3))))) ?hg ?ho ?hn ?hr ?_; (case ho => rfl); (case hg => rfl); (case hn => rfl); (case hr => first | (go_simp; done) | (go_simp; rfl)); intro w27 hw; have hg : w25.grownBy w27 (some go19) := (by rw [hw]; exact HP26.2); have hp_ : Kd.R (Kd.int .i64) 3 w27 w.heap.size (fun _ => True) (.slice (some ⟨go19, 0, none⟩) t297.length co23) y303 := (by rw [hw, Ny303.out]; exact HP26.1); clear HP26; have n0_ := Aside0.mk (hp_); have n1_ := Aside0.mk ((by rw [hw]; exact below_set (HB.out) GB19.out : Below w.heap.size w w27)); clear HO299; clear HB; have HO299 := n0_; have HB := n1_; clear n0_ n1_; clear hg hw hp_))
                        go_ret2
                        exact ⟨_, by first | rfl | (simp [errW_none, errW_some] <;> rfl) | (simp [*, errW_none, errW_some] <;> rfl), by (with_reducible repeat (first | apply Kd.R_alloc | apply Kd.R_drewN | apply Kd.R_drew)); exact HO299.out, by repeat (first | (with_reducible first | exact HB.out | apply below_alloc | apply pw_below_drewN | apply below_drew1) | exact HB.out)⟩
                      · rw [if_neg c20] at H
                        exact absurd H (by simp)
                    · rw [if_neg c18] at H
                      exact absurd H (by simp)
                · rw [if_neg c15] at H
                  exact absurd H (by simp)
              · rw [if_neg c14] at H
                exact absurd H (by simp)
            · replace c13 := Bool.eq_false_iff.mpr c13
              subst c13
              have H1 : (some (([] : List Int), false)) = some (r1, r2) := by rw [if_neg (show ¬ (false = true) by decide)] at H; exact H
              clear H
              have H := H1
              clear H1
              simp only [Option.some.injEq, Prod.mk.injEq] at H
              obtain ⟨rfl, rfl⟩ := H
              go_enter Tryz.func29, Tryz.ntmps29
              go_wp2_with (first | ((with_reducible refine gate_callee (f := 55) rfl ?_); refine goesL_ (some 13) rfl rfl Tryz.func55 (by kernel_rfl) rfl #[.slice A0 l0.length c0, .int .i64 a1] rfl (by (try simp only [List.map_toArray, List.map_cons, List.map_nil]); first | done | rfl | (simp only [List.length_drop, List.length_take]; rfl)) ?_; (with_reducible refine (impl_hasHouse.calls k _ _ l0 a1 true _ ?side1 ?side2 A5.out).mono ?_); (case side1 => repeat (first | exact HR0.out | (with_reducible refine Kd.C_alloc ?_ _) | (with_reducible refine Kd.C_drewN ?_ _) | (with_reducible refine Kd.C_drew ?_))); (case side2 => exact HC0.out); rintro e w' ⟨rfl, ⟨nd, rfl⟩⟩; refine ⟨_, rfl, ?_⟩) | (go_at_call 55; (with_reducible refine (impl_hasHouse.calls k _ _ l0 a2 true _ ?side1 ?side2 A7.out).mono ?_); (case side1 => repeat (first | exact HR0.out | (with_reducible refine Kd.C_alloc ?_ _) | (with_reducible refine Kd.C_drewN ?_ _) | (with_reducible refine Kd.C_drew ?_))); (case side2 => exact HC0.out); rintro e w' ⟨rfl, ⟨nd, rfl⟩⟩; have p294 : 0 ≤ (a1 : Int) := of_decide_eq_true (by first | (with_reducible assumption) | assumption); have q294 : a1 < (l0.length : Int) := of_decide_eq_true (by first | (with_reducible assumption) | assumption); obtain ⟨ad294, e294, hx294_0⟩ := Kd.at_int HR0.out a1 p294 q294; cases e294; replace p294 := eq_true p294; replace q294 := eq_true q294) | (go_at_call 53; (with_reducible refine (impl_within.calls a3 1 (rd l0 a1) false _ A12.out).mono ?_); rintro e w' ⟨rfl, ⟨nd, rfl⟩⟩))
              go_ret2
              exact ⟨_, by first | rfl | (simp [errW_none, errW_some] <;> rfl) | (simp [*, errW_none, errW_some] <;> rfl), by first | exact Kd.R_nil _ _ _ _ _ | exact Kd.N_nil _ _ _ _ _ | exact Kd.V_nil _ _ _ _ _ | exact Kd.Q_nil _ _ _ _ _ | exact Kd.S_nil _ _ _ _ _, by repeat (first | (with_reducible first | exact HB.out | apply below_alloc | apply pw_below_drewN | apply below_drew1) | exact HB.out)⟩
          · rw [if_neg c11] at H
            exact absurd H (by simp)
        · rw [if_neg c10] at H
          exact absurd H (by simp)
    · replace c8 := Bool.eq_false_iff.mpr c8
      subst c8
      have H1 : (some (([] : List Int), false)) = some (r1, r2) := by rw [if_neg (show ¬ (false = true) by decide)] at H; exact H
      clear H
      have H := H1
      clear H1
      simp only [Option.some.injEq, Prod.mk.injEq] at H
      obtain ⟨rfl, rfl⟩ := H
      go_enter Tryz.func29, Tryz.ntmps29
      go_wp2_with (first | ((with_reducible refine gate_callee (f := 55) rfl ?_); refine goesL_ (some 13) rfl rfl Tryz.func55 (by kernel_rfl) rfl #[.slice A0 l0.length c0, .int .i64 a1] rfl (by (try simp only [List.map_toArray, List.map_cons, List.map_nil]); first | done | rfl | (simp only [List.length_drop, List.length_take]; rfl)) ?_; (with_reducible refine (impl_hasHouse.calls k _ _ l0 a1 true _ ?side1 ?side2 A5.out).mono ?_); (case side1 => repeat (first | exact HR0.out | (with_reducible refine Kd.C_alloc ?_ _) | (with_reducible refine Kd.C_drewN ?_ _) | (with_reducible refine Kd.C_drew ?_))); (case side2 => exact HC0.out); rintro e w' ⟨rfl, ⟨nd, rfl⟩⟩; refine ⟨_, rfl, ?_⟩) | (go_at_call 55; (with_reducible refine (impl_hasHouse.calls k _ _ l0 a2 false _ ?side1 ?side2 A7.out).mono ?_); (case side1 => repeat (first | exact HR0.out | (with_reducible refine Kd.C_alloc ?_ _) | (with_reducible refine Kd.C_drewN ?_ _) | (with_reducible refine Kd.C_drew ?_))); (case side2 => exact HC0.out); rintro e w' ⟨rfl, ⟨nd, rfl⟩⟩))
      go_ret2
      exact ⟨_, by first | rfl | (simp [errW_none, errW_some] <;> rfl) | (simp [*, errW_none, errW_some] <;> rfl), by first | exact Kd.R_nil _ _ _ _ _ | exact Kd.N_nil _ _ _ _ _ | exact Kd.V_nil _ _ _ _ _ | exact Kd.Q_nil _ _ _ _ _ | exact Kd.S_nil _ _ _ _ _, by repeat (first | (with_reducible first | exact HB.out | apply below_alloc | apply pw_below_drewN | apply below_drew1) | exact HB.out)⟩
  · replace c6 := Bool.eq_false_iff.mpr c6
    subst c6
    have H1 : (some (([] : List Int), false)) = some (r1, r2) := by rw [if_neg (show ¬ (false = true) by decide)] at H; exact H
    clear H
    have H := H1
    clear H1
    simp only [Option.some.injEq, Prod.mk.injEq] at H
    obtain ⟨rfl, rfl⟩ := H
    go_enter Tryz.func29, Tryz.ntmps29
    go_wp2_with (first | ((with_reducible refine gate_callee (f := 55) rfl ?_); refine goesL_ (some 13) rfl rfl Tryz.func55 (by kernel_rfl) rfl #[.slice A0 l0.length c0, .int .i64 a1] rfl (by (try simp only [List.map_toArray, List.map_cons, List.map_nil]); first | done | rfl | (simp only [List.length_drop, List.length_take]; rfl)) ?_; (with_reducible refine (impl_hasHouse.calls k _ _ l0 a1 false _ ?side1 ?side2 A5.out).mono ?_); (case side1 => repeat (first | exact HR0.out | (with_reducible refine Kd.C_alloc ?_ _) | (with_reducible refine Kd.C_drewN ?_ _) | (with_reducible refine Kd.C_drew ?_))); (case side2 => exact HC0.out); rintro e w' ⟨rfl, ⟨nd, rfl⟩⟩; refine ⟨_, rfl, ?_⟩))
    go_ret2
    exact ⟨_, by first | rfl | (simp [errW_none, errW_some] <;> rfl) | (simp [*, errW_none, errW_some] <;> rfl), by first | exact Kd.R_nil _ _ _ _ _ | exact Kd.N_nil _ _ _ _ _ | exact Kd.V_nil _ _ _ _ _ | exact Kd.Q_nil _ _ _ _ _ | exact Kd.S_nil _ _ _ _ _, by repeat (first | (with_reducible first | exact HB.out | apply below_alloc | apply pw_below_drewN | apply below_drew1) | exact HB.out)⟩

/-! ### spec_mdHouse: function 61 -/
def spec_mdHouse.f (k : Nat) (l0 : List Int) (a1 : Int) : Option (Bool) := (spec_mdGood.f k l0).bind fun t304 => (if t304 = true then ((spec_l1In.f a1 0 (wrap64 ((l0.length : Int) - 1))).bind fun t305 => (some t305)) else (some false))
theorem spec_mdHouse.mono : ∀ a0 a1 k, LeO (spec_mdHouse.f k a0 a1) (spec_mdHouse.f (k + 1) a0 a1) := by
  intro a0 a1 k
  unfold spec_mdHouse.f
  repeat' first
      | (with_reducible exact spec_mdGood.mono _ _)
      | (with_reducible exact LeO.refl _)
      | (with_reducible exact LeO.none _)
      | (with_reducible refine LeO.ite ?_ ?_)
      | (with_reducible refine LeO.bind ?_ (fun _ => ?_))
      | exact spec_mdGood.mono _ _
      | exact LeO.none _
      | refine LeO.ite ?_ ?_
      | refine LeO.bind ?_ (fun _ => ?_)
set_option maxHeartbeats 8000000 in
set_option maxRecDepth 100000 in
theorem spec_mdHouse.calls (k : Nat) (A0 : Option Addr) (c0 : Nat) (l0 : List Int) (a1 : Int) (r : Bool) (w : World) (hr0 : Kd.C (Kd.int .i64) w A0 l0.length l0) (hc0 : l0.length ≤ c0) (h : spec_mdHouse.f k l0 a1 = some r) :
    Calls Tryz.prog 61 #[.slice A0 l0.length c0, .int .i64 a1] w fun e w' => e = .returned (.bool r) ∧ Drawn0 w w' := by
  have HR0 := Aside0.mk hr0
  have HC0 := Aside0.mk hc0
  clear hr0 hc0
  have H : ((spec_mdGood.f k l0).bind fun t304 => (if t304 = true then ((spec_l1In.f a1 0 (wrap64 ((l0.length : Int) - 1))).bind fun t305 => (some t305)) else (some false))) = some r := h
  clear h
  replace H := Option.bind_eq_some_iff.mp H
  obtain ⟨t304, A30, H⟩ := H
  replace H : (if t304 = true then ((spec_l1In.f a1 0 (wrap64 ((l0.length : Int) - 1))).bind fun t305 => (some t305)) else (some false)) = some r := H
  have A3 := Aside0.mk A30
  clear A30
  by_cases c4 : t304 = true
  · subst c4
    have H1 : ((spec_l1In.f a1 0 (wrap64 ((l0.length : Int) - 1))).bind fun t305 => (some t305)) = some r := by rw [if_pos rfl] at H; exact H
    clear H
    have H := H1
    clear H1
    replace H := Option.bind_eq_some_iff.mp H
    obtain ⟨t305, A50, H⟩ := H
    replace H : (some t305) = some r := H
    have A5 := Aside0.mk A50
    clear A50
    obtain rfl := Option.some.inj H
    go_enter Tryz.func61, Tryz.ntmps61
    go_wp2_with (first | ((with_reducible refine gate_callee (f := 40) rfl ?_); refine goesL_ (some 6) rfl rfl Tryz.func40 (by kernel_rfl) rfl #[.slice A0 l0.length c0] rfl (by (try simp only [List.map_toArray, List.map_cons, List.map_nil]); first | done | rfl | (simp only [List.length_drop, List.length_take]; rfl)) ?_; (with_reducible refine (spec_mdGood.calls k _ _ l0 true _ ?side1 ?side2 A3.out).mono ?_); (case side1 => repeat (first | exact HR0.out | (with_reducible refine Kd.C_alloc ?_ _) | (with_reducible refine Kd.C_drewN ?_ _) | (with_reducible refine Kd.C_drew ?_))); (case side2 => exact HC0.out); rintro e w' ⟨rfl, ⟨nd, rfl⟩⟩; refine ⟨_, rfl, ?_⟩) | (go_at_call 62; (with_reducible refine (spec_l1In.calls a1 0 (wrap64 ((l0.length : Int) - 1)) t305 _ A5.out).mono ?_); rintro e w' ⟨rfl, ⟨nd, rfl⟩⟩))
    go_ret
    exact ⟨by first | rfl | (simp; done) | (simp [*]; done), by repeat (first | exact Drawn0.refl _ | apply Drawn0.step)⟩
  · replace c4 := Bool.eq_false_iff.mpr c4
    subst c4
    have H1 : (some false) = some r := by rw [if_neg (show ¬ (false = true) by decide)] at H; exact H
    clear H
    have H := H1
    clear H1
    obtain rfl := Option.some.inj H
    go_enter Tryz.func61, Tryz.ntmps61
    go_wp2_with (first | ((with_reducible refine gate_callee (f := 40) rfl ?_); refine goesL_ (some 6) rfl rfl Tryz.func40 (by kernel_rfl) rfl #[.slice A0 l0.length c0] rfl (by (try simp only [List.map_toArray, List.map_cons, List.map_nil]); first | done | rfl | (simp only [List.length_drop, List.length_take]; rfl)) ?_; (with_reducible refine (spec_mdGood.calls k _ _ l0 false _ ?side1 ?side2 A3.out).mono ?_); (case side1 => repeat (first | exact HR0.out | (with_reducible refine Kd.C_alloc ?_ _) | (with_reducible refine Kd.C_drewN ?_ _) | (with_reducible refine Kd.C_drew ?_))); (case side2 => exact HC0.out); rintro e w' ⟨rfl, ⟨nd, rfl⟩⟩; refine ⟨_, rfl, ?_⟩))
    go_ret
    exact ⟨by first | rfl | (simp; done) | (simp [*]; done), by repeat (first | exact Drawn0.refl _ | apply Drawn0.step)⟩

/-! ### spec_l1Own: function 63 -/
def spec_l1Own.f (l0 : List Int) : Option (List Int) := (some (([] : List Int) : List Int)).bind fun y306 => (if y306.length + l0.length < 17592186044416 then (some (y306 ++ l0)) else (none))
set_option maxHeartbeats 8000000 in
set_option maxRecDepth 100000 in
theorem spec_l1Own.calls (A0 : Option Addr) (c0 : Nat) (l0 : List Int) (r : List Int) (w : World) (hr0 : Kd.C (Kd.int .i64) w A0 l0.length l0) (hc0 : l0.length ≤ c0) (h : spec_l1Own.f l0 = some r) :
    Calls Tryz.prog 63 #[.slice A0 l0.length c0] w fun e w' => ∃ v0_ : Value, e = .returned (v0_) ∧ Kd.R (Kd.int .i64) 3 w' w.heap.size (fun _ => True) v0_ r ∧ Below w.heap.size w w' := by
  have HR0 := Aside0.mk hr0
  have HC0 := Aside0.mk hc0
  clear hr0 hc0
  have HB := Aside0.mk (Below.refl w.heap.size w)
  have H : ((some (([] : List Int) : List Int)).bind fun y306 => (if y306.length + l0.length < 17592186044416 then (some (y306 ++ l0)) else (none))) = some r := h
  clear h
  obtain ⟨y306, hy306⟩ : ∃ y_ : List Int, y_ = (([] : List Int)) := ⟨_, rfl⟩
  replace H : (if y306.length + l0.length < 17592186044416 then (some (y306 ++ l0)) else (none)) = some r := by first | (rw [hy306]; with_reducible exact H) | (have H2_ := (Option.bind_some _ _).symm.trans H; rw [hy306]; with_reducible exact H2_) | (have H2_ := (Option.bind_some _ _).symm.trans H; with_reducible exact H2_) | with_reducible exact H | (rw [hy306]; exact H) | exact H
  have Ny306 := Aside0.mk hy306
  clear hy306
  by_cases c2 : y306.length + l0.length < 17592186044416
  · rw [if_pos c2] at H
    have LMc2 := Aside0.mk c2
    clear c2
    obtain ⟨y309, hy309⟩ : ∃ y_ : List Int, y_ = (y306 ++ l0) := ⟨_, rfl⟩
    replace H : (some y309) = some r := by first | (rw [hy309]; with_reducible exact H) | (have H2_ := (Option.bind_some _ _).symm.trans H; rw [hy309]; with_reducible exact H2_) | (have H2_ := (Option.bind_some _ _).symm.trans H; with_reducible exact H2_) | with_reducible exact H | (rw [hy309]; exact H) | exact H
    have Ny309 := Aside0.mk hy309
    clear hy309
    obtain rfl := Option.some.inj H
    go_enter Tryz.func63, Tryz.ntmps63
    go_wp2_with (first | ((with_reducible refine gate_dst (N := 3) rfl ?_); refine Kd.R_lit (Kd.int .i64) _ 3 ?hg (N := 3) ?hd (xs := ([] : List Int)) (inner := []) (ok := fun _ => True) (okp := fun _ => True) ?hr ?hp (fun _ hk => hk) trivial (Below.refl _ _) (Nat.le_refl _) (by simp) ?_; (case hd => rfl); (case hg => rfl); (case hr => first | (go_simp; done) | (go_simp; rfl)); (case hp => exact (Reps.none _ _)); intro v307 w3 ho4 hb hg_ hnew_; clear hg_ hnew_; (first | rw [← Ny306.out] at ho4 | (simp only [Int.reduceToNat] at ho4; rw [← Ny306.out] at ho4)); have n0_ := Aside0.mk (Kd.R_lower ho4 (below_size (by repeat (first | (with_reducible first | exact HB.out | apply below_alloc | apply pw_below_drewN | apply below_drew1) | exact HB.out)))); have n1_ := Aside0.mk (below_step (by repeat (first | (with_reducible first | exact HB.out | apply below_alloc | apply pw_below_drewN | apply below_drew1) | exact HB.out)) hb); clear HB; have HO308 := n0_; have HB := n1_; clear n0_ n1_; clear hb ho4) | ((with_reducible refine gate_builtin (b := .append) (xs := #[.tmp 3, .tmp 4]) rfl ?_); at_builtin; refine Kd.R_append_rows (Kd.int .i64) (w0 := w) w.heap.size rfl (.tmp 3) (.tmp 4) 24 3 (.int .i64 0) 8 rfl Tryz.underlying24 info3 rfl (by decide) (by omega) v307 y306 l0 _ _ _ (fun _ => True) (fun _ => False) rfl rfl ?aO ?aR (fun _ _ h => h) (fun _ h => h.elim) ?aF ?aB ?aS ?aL ?_; (case aR => repeat (first | exact (Kd.C_below HR0.out HB.out) | (with_reducible refine Kd.C_alloc ?_ _) | (with_reducible refine Kd.C_drewN ?_ _) | (with_reducible refine Kd.C_drew ?_))); (case aB => exact (by repeat (first | (with_reducible first | exact HB.out | apply below_alloc | apply pw_below_drewN | apply below_drew1) | exact HB.out))); (case aF => exact (fun _ _ => trivial)); (case aO => exact (by (with_reducible repeat (first | apply Kd.R_alloc | apply Kd.R_drewN | apply Kd.R_drew)); exact HO308.out)); (case aS => exact (below_size (by repeat (first | (with_reducible first | exact HB.out | apply below_alloc | apply pw_below_drewN | apply below_drew1) | exact HB.out)))); (case aL => have := LMc2.out; omega); intro v310 w5 ho hb hg hat; rw [← Ny309.out] at ho; have n0_ := Aside0.mk (hb); have n1_ := Aside0.mk (ho); clear HB; clear HO308; have HB := n0_; have HO311 := n1_; clear n0_ n1_; clear ho hb hg hat))
    go_ret
    exact ⟨_, by first | rfl | (simp [errW_none, errW_some] <;> rfl) | (simp [*, errW_none, errW_some] <;> rfl), by (with_reducible repeat (first | apply Kd.R_alloc | apply Kd.R_drewN | apply Kd.R_drew)); exact HO311.out, by repeat (first | (with_reducible first | exact HB.out | apply below_alloc | apply pw_below_drewN | apply below_drew1) | exact HB.out)⟩
  · rw [if_neg c2] at H
    exact absurd H (by simp)

/-! ### spec_MovedPeople: function 30 -/
def spec_MovedPeople.j0 : Nat → List Int → Int → Int → Int → Bool → Option (List Int × Bool)
  | 0, _, _, _, _, _ => none
  | k + 1, x0, x1, x2, x3, x34 => if x34 = true then (some (([] : List Int), false)) else ((spec_l1Own.f x0).bind fun t316 => (if 0 ≤ x1 then (if x1 < (t316.length : Int) then ((some (t316.set (x1 : Int).toNat (wrap64 ((rd t316 x1) - x3)) : List Int)).bind fun y320 => (if 0 ≤ x2 then (if x2 < (t316.length : Int) then ((some (y320.set (x2 : Int).toNat (wrap64 ((rd y320 x2) + x3)) : List Int)).bind fun y322 => ((spec_mdGood.f k y322).bind fun t323 => (if t323 = true then (some (y322, true)) else (some (([] : List Int), false))))) else (none)) else (none))) else (none)) else (none)))
def spec_MovedPeople.f (k : Nat) (l0 : List Int) (a1 : Int) (a2 : Int) (a3 : Int) : Option (List Int × Bool) := (spec_mdHouse.f k l0 a1).bind fun t312 => (if t312 = true then ((spec_mdHouse.f k l0 a2).bind fun t313 => (if t313 = true then (if a1 = a2 then (spec_MovedPeople.j0 k l0 a1 a2 a3 true) else (if 0 ≤ a1 then (if a1 < (l0.length : Int) then ((spec_l1In.f a3 1 (rd l0 a1)).bind fun t315 => (spec_MovedPeople.j0 k l0 a1 a2 a3 (!t315))) else (none)) else (none))) else (spec_MovedPeople.j0 k l0 a1 a2 a3 true))) else (spec_MovedPeople.j0 k l0 a1 a2 a3 true))
theorem spec_MovedPeople.mono_l : ∀ k, (∀ y0 y1 y2 y3 y4, LeO (spec_MovedPeople.j0 k y0 y1 y2 y3 y4) (spec_MovedPeople.j0 (k + 1) y0 y1 y2 y3 y4))
  | 0 => fun _ _ _ _ _ r h => by simp [spec_MovedPeople.j0] at h
  | k + 1 => by
    have ih0 := spec_MovedPeople.mono_l k
    · intro y0 y1 y2 y3 y4
      unfold spec_MovedPeople.j0
      repeat' first
      | (with_reducible exact ih0 _ _ _ _ _)
      | (with_reducible exact spec_mdGood.mono _ _)
      | (with_reducible exact spec_mdHouse.mono _ _ _)
      | (with_reducible exact LeO.refl _)
      | (with_reducible exact LeO.none _)
      | (with_reducible refine LeO.ite ?_ ?_)
      | (with_reducible refine LeO.bind ?_ (fun _ => ?_))
      | exact ih0 _ _ _ _ _
      | exact spec_mdGood.mono _ _
      | exact spec_mdHouse.mono _ _ _
      | exact LeO.none _
      | refine LeO.ite ?_ ?_
      | refine LeO.bind ?_ (fun _ => ?_)
theorem spec_MovedPeople.mono : ∀ a0 a1 a2 a3 k, LeO (spec_MovedPeople.f k a0 a1 a2 a3) (spec_MovedPeople.f (k + 1) a0 a1 a2 a3) := by
  intro a0 a1 a2 a3 k
  have ih0 := spec_MovedPeople.mono_l k
  unfold spec_MovedPeople.f
  repeat' first
      | (with_reducible exact ih0 _ _ _ _ _)
      | (with_reducible exact spec_mdGood.mono _ _)
      | (with_reducible exact spec_mdHouse.mono _ _ _)
      | (with_reducible exact LeO.refl _)
      | (with_reducible exact LeO.none _)
      | (with_reducible refine LeO.ite ?_ ?_)
      | (with_reducible refine LeO.bind ?_ (fun _ => ?_))
      | exact ih0 _ _ _ _ _
      | exact spec_mdGood.mono _ _
      | exact spec_mdHouse.mono _ _ _
      | exact LeO.none _
      | refine LeO.ite ?_ ?_
      | refine LeO.bind ?_ (fun _ => ?_)
set_option maxHeartbeats 8000000 in
set_option maxRecDepth 100000 in
theorem spec_MovedPeople.calls (k : Nat) (A0 : Option Addr) (c0 : Nat) (l0 : List Int) (a1 : Int) (a2 : Int) (a3 : Int) (r1 : List Int) (r2 : Bool) (w : World) (hr0 : Kd.C (Kd.int .i64) w A0 l0.length l0) (hc0 : l0.length ≤ c0) (h : spec_MovedPeople.f k l0 a1 a2 a3 = some (r1, r2)) :
    Calls Tryz.prog 30 #[.slice A0 l0.length c0, .int .i64 a1, .int .i64 a2, .int .i64 a3] w fun e w' => ∃ v0_ : Value, e = .returned (.tuple #[v0_, .bool r2]) ∧ Kd.R (Kd.int .i64) 3 w' w.heap.size (fun _ => True) v0_ r1 ∧ Below w.heap.size w w' := by
  have HR0 := Aside0.mk hr0
  have HC0 := Aside0.mk hc0
  clear hr0 hc0
  have HB := Aside0.mk (Below.refl w.heap.size w)
  have H : ((spec_mdHouse.f k l0 a1).bind fun t312 => (if t312 = true then ((spec_mdHouse.f k l0 a2).bind fun t313 => (if t313 = true then (if a1 = a2 then (spec_MovedPeople.j0 k l0 a1 a2 a3 true) else (if 0 ≤ a1 then (if a1 < (l0.length : Int) then ((spec_l1In.f a3 1 (rd l0 a1)).bind fun t315 => (spec_MovedPeople.j0 k l0 a1 a2 a3 (!t315))) else (none)) else (none))) else (spec_MovedPeople.j0 k l0 a1 a2 a3 true))) else (spec_MovedPeople.j0 k l0 a1 a2 a3 true))) = some (r1, r2) := h
  clear h
  have HC5 := Aside0.mk H
  clear H
  go_enter Tryz.func30, Tryz.ntmps30
  go_upto_region 1 with (fail)
  go_cut [34] (fun v34 wc => ∃ (kq : Nat) (x34_4 : Bool), v34 = .bool x34_4 ∧ Aside0 (spec_MovedPeople.j0 kq l0 a1 a2 a3 x34_4 = some (r1, r2)) ∧ Aside0 (kq ≤ k) ∧ Aside0 (Below w.heap.size w wc))
  case first =>
    have H := HC5.out
    clear HC5
    replace H := Option.bind_eq_some_iff.mp H
    obtain ⟨t312, A60, H⟩ := H
    replace H : (if t312 = true then ((spec_mdHouse.f k l0 a2).bind fun t313 => (if t313 = true then (if a1 = a2 then (spec_MovedPeople.j0 k l0 a1 a2 a3 true) else (if 0 ≤ a1 then (if a1 < (l0.length : Int) then ((spec_l1In.f a3 1 (rd l0 a1)).bind fun t315 => (spec_MovedPeople.j0 k l0 a1 a2 a3 (!t315))) else (none)) else (none))) else (spec_MovedPeople.j0 k l0 a1 a2 a3 true))) else (spec_MovedPeople.j0 k l0 a1 a2 a3 true)) = some (r1, r2) := H
    have A6 := Aside0.mk A60
    clear A60
    by_cases c7 : t312 = true
    · subst c7
      have H1 : ((spec_mdHouse.f k l0 a2).bind fun t313 => (if t313 = true then (if a1 = a2 then (spec_MovedPeople.j0 k l0 a1 a2 a3 true) else (if 0 ≤ a1 then (if a1 < (l0.length : Int) then ((spec_l1In.f a3 1 (rd l0 a1)).bind fun t315 => (spec_MovedPeople.j0 k l0 a1 a2 a3 (!t315))) else (none)) else (none))) else (spec_MovedPeople.j0 k l0 a1 a2 a3 true))) = some (r1, r2) := by rw [if_pos rfl] at H; exact H
      clear H
      have H := H1
      clear H1
      replace H := Option.bind_eq_some_iff.mp H
      obtain ⟨t313, A80, H⟩ := H
      replace H : (if t313 = true then (if a1 = a2 then (spec_MovedPeople.j0 k l0 a1 a2 a3 true) else (if 0 ≤ a1 then (if a1 < (l0.length : Int) then ((spec_l1In.f a3 1 (rd l0 a1)).bind fun t315 => (spec_MovedPeople.j0 k l0 a1 a2 a3 (!t315))) else (none)) else (none))) else (spec_MovedPeople.j0 k l0 a1 a2 a3 true)) = some (r1, r2) := H
      have A8 := Aside0.mk A80
      clear A80
      by_cases c9 : t313 = true
      · subst c9
        have H1 : (if a1 = a2 then (spec_MovedPeople.j0 k l0 a1 a2 a3 true) else (if 0 ≤ a1 then (if a1 < (l0.length : Int) then ((spec_l1In.f a3 1 (rd l0 a1)).bind fun t315 => (spec_MovedPeople.j0 k l0 a1 a2 a3 (!t315))) else (none)) else (none))) = some (r1, r2) := by rw [if_pos rfl] at H; exact H
        clear H
        have H := H1
        clear H1
        by_cases c10 : a1 = a2
        · rw [if_pos c10] at H
          have c10b0 : (a1 == a2) = true := beq_iff_eq.mpr c10
          have c10b1 : (a1 != a2) = false := bne_eq_false_iff_eq.mpr c10
          clear c10
          (first | rw [c10b0] | (simp only [i64_w, i32_w]; rw [c10b0]) | skip)
          have H' := Aside0.mk H
          clear H
          go_wp2_with (first | ((with_reducible refine gate_callee (f := 61) rfl ?_); refine goesL_ (some 13) rfl rfl Tryz.func61 (by kernel_rfl) rfl #[.slice A0 l0.length c0, .int .i64 a1] rfl (by (try simp only [List.map_toArray, List.map_cons, List.map_nil]); first | done | rfl | (simp only [List.length_drop, List.length_take]; rfl)) ?_; (with_reducible refine (spec_mdHouse.calls k _ _ l0 a1 true _ ?side1 ?side2 A6.out).mono ?_); (case side1 => repeat (first | exact (Kd.C_below HR0.out HB.out) | (with_reducible refine Kd.C_alloc ?_ _) | (with_reducible refine Kd.C_drewN ?_ _) | (with_reducible refine Kd.C_drew ?_))); (case side2 => exact HC0.out); rintro e w' ⟨rfl, ⟨nd, rfl⟩⟩; refine ⟨_, rfl, ?_⟩) | (go_at_call 61; (with_reducible refine (spec_mdHouse.calls k _ _ l0 a2 true _ ?side1 ?side2 A8.out).mono ?_); (case side1 => repeat (first | exact (Kd.C_below HR0.out (by repeat (first | (with_reducible first | exact HB.out | apply below_alloc | apply pw_below_drewN | apply below_drew1) | exact HB.out))) | (with_reducible refine Kd.C_alloc ?_ _) | (with_reducible refine Kd.C_drewN ?_ _) | (with_reducible refine Kd.C_drew ?_))); (case side2 => exact HC0.out); rintro e w' ⟨rfl, ⟨nd, rfl⟩⟩))
          go_meet
          case rel => exact ⟨_, (true), (by first | rfl | (simp; done) | (simp [*]; done)), H', ⟨by first | omega | exact Nat.le_refl _⟩, ⟨by repeat (first | (with_reducible first | exact HB.out | apply below_alloc | apply pw_below_drewN | apply below_drew1) | exact HB.out)⟩⟩
        · rw [if_neg c10] at H
          have c10b0 : (a1 == a2) = false := beq_eq_false_iff_ne.mpr c10
          have c10b1 : (a1 != a2) = true := bne_iff_ne.mpr c10
          (first | rw [c10b0] | (simp only [i64_w, i32_w]; rw [c10b0]) | skip)
          by_cases c11 : 0 ≤ a1
          · rw [if_pos c11] at H
            have c11b0 : decide (0 ≤ a1) = true := decide_eq_true c11
            clear c11
            by_cases c12 : a1 < (l0.length : Int)
            · rw [if_pos c12] at H
              have c12b0 : decide (a1 < (l0.length : Int)) = true := decide_eq_true c12
              clear c12
              replace H := Option.bind_eq_some_iff.mp H
              obtain ⟨t315, A130, H⟩ := H
              replace H : (spec_MovedPeople.j0 k l0 a1 a2 a3 (!t315)) = some (r1, r2) := H
              have A13 := Aside0.mk A130
              clear A130
              have H' := Aside0.mk H
              clear H
              go_wp2_with (first | ((with_reducible refine gate_callee (f := 61) rfl ?_); refine goesL_ (some 13) rfl rfl Tryz.func61 (by kernel_rfl) rfl #[.slice A0 l0.length c0, .int .i64 a1] rfl (by (try simp only [List.map_toArray, List.map_cons, List.map_nil]); first | done | rfl | (simp only [List.length_drop, List.length_take]; rfl)) ?_; (with_reducible refine (spec_mdHouse.calls k _ _ l0 a1 true _ ?side1 ?side2 A6.out).mono ?_); (case side1 => repeat (first | exact (Kd.C_below HR0.out HB.out) | (with_reducible refine Kd.C_alloc ?_ _) | (with_reducible refine Kd.C_drewN ?_ _) | (with_reducible refine Kd.C_drew ?_))); (case side2 => exact HC0.out); rintro e w' ⟨rfl, ⟨nd, rfl⟩⟩; refine ⟨_, rfl, ?_⟩) | (go_at_call 61; (with_reducible refine (spec_mdHouse.calls k _ _ l0 a2 true _ ?side1 ?side2 A8.out).mono ?_); (case side1 => repeat (first | exact (Kd.C_below HR0.out (by repeat (first | (with_reducible first | exact HB.out | apply below_alloc | apply pw_below_drewN | apply below_drew1) | exact HB.out))) | (with_reducible refine Kd.C_alloc ?_ _) | (with_reducible refine Kd.C_drewN ?_ _) | (with_reducible refine Kd.C_drew ?_))); (case side2 => exact HC0.out); rintro e w' ⟨rfl, ⟨nd, rfl⟩⟩; have p314 : 0 ≤ (a1 : Int) := of_decide_eq_true (by first | (with_reducible assumption) | assumption); have q314 : a1 < (l0.length : Int) := of_decide_eq_true (by first | (with_reducible assumption) | assumption); obtain ⟨ad314, e314, hx314_0⟩ := Kd.at_int HR0.out a1 p314 q314; cases e314; replace hx314_0 := (HB.out.cell (World.block_lt_of_cell? w _ hx314_0)).trans hx314_0; replace p314 := eq_true p314; replace q314 := eq_true q314) | (go_at_call 62; (with_reducible refine (spec_l1In.calls a3 1 (rd l0 a1) t315 _ A13.out).mono ?_); rintro e w' ⟨rfl, ⟨nd, rfl⟩⟩))
              go_meet
              case rel => exact ⟨_, (!t315), (by first | rfl | (simp; done) | (simp [*]; done)), H', ⟨by first | omega | exact Nat.le_refl _⟩, ⟨by repeat (first | (with_reducible first | exact HB.out | apply below_alloc | apply pw_below_drewN | apply below_drew1) | exact HB.out)⟩⟩
            · rw [if_neg c12] at H
              exact absurd H (by simp)
          · rw [if_neg c11] at H
            exact absurd H (by simp)
      · replace c9 := Bool.eq_false_iff.mpr c9
        subst c9
        have H1 : (spec_MovedPeople.j0 k l0 a1 a2 a3 true) = some (r1, r2) := by rw [if_neg (show ¬ (false = true) by decide)] at H; exact H
        clear H
        have H := H1
        clear H1
        have H' := Aside0.mk H
        clear H
        go_wp2_with (first | ((with_reducible refine gate_callee (f := 61) rfl ?_); refine goesL_ (some 13) rfl rfl Tryz.func61 (by kernel_rfl) rfl #[.slice A0 l0.length c0, .int .i64 a1] rfl (by (try simp only [List.map_toArray, List.map_cons, List.map_nil]); first | done | rfl | (simp only [List.length_drop, List.length_take]; rfl)) ?_; (with_reducible refine (spec_mdHouse.calls k _ _ l0 a1 true _ ?side1 ?side2 A6.out).mono ?_); (case side1 => repeat (first | exact (Kd.C_below HR0.out HB.out) | (with_reducible refine Kd.C_alloc ?_ _) | (with_reducible refine Kd.C_drewN ?_ _) | (with_reducible refine Kd.C_drew ?_))); (case side2 => exact HC0.out); rintro e w' ⟨rfl, ⟨nd, rfl⟩⟩; refine ⟨_, rfl, ?_⟩) | (go_at_call 61; (with_reducible refine (spec_mdHouse.calls k _ _ l0 a2 false _ ?side1 ?side2 A8.out).mono ?_); (case side1 => repeat (first | exact (Kd.C_below HR0.out (by repeat (first | (with_reducible first | exact HB.out | apply below_alloc | apply pw_below_drewN | apply below_drew1) | exact HB.out))) | (with_reducible refine Kd.C_alloc ?_ _) | (with_reducible refine Kd.C_drewN ?_ _) | (with_reducible refine Kd.C_drew ?_))); (case side2 => exact HC0.out); rintro e w' ⟨rfl, ⟨nd, rfl⟩⟩))
        go_meet
        case rel => exact ⟨_, (true), (by first | rfl | (simp; done) | (simp [*]; done)), H', ⟨by first | omega | exact Nat.le_refl _⟩, ⟨by repeat (first | (with_reducible first | exact HB.out | apply below_alloc | apply pw_below_drewN | apply below_drew1) | exact HB.out)⟩⟩
    · replace c7 := Bool.eq_false_iff.mpr c7
      subst c7
      have H1 : (spec_MovedPeople.j0 k l0 a1 a2 a3 true) = some (r1, r2) := by rw [if_neg (show ¬ (false = true) by decide)] at H; exact H
      clear H
      have H := H1
      clear H1
      have H' := Aside0.mk H
      clear H
      go_wp2_with (first | ((with_reducible refine gate_callee (f := 61) rfl ?_); refine goesL_ (some 13) rfl rfl Tryz.func61 (by kernel_rfl) rfl #[.slice A0 l0.length c0, .int .i64 a1] rfl (by (try simp only [List.map_toArray, List.map_cons, List.map_nil]); first | done | rfl | (simp only [List.length_drop, List.length_take]; rfl)) ?_; (with_reducible refine (spec_mdHouse.calls k _ _ l0 a1 false _ ?side1 ?side2 A6.out).mono ?_); (case side1 => repeat (first | exact (Kd.C_below HR0.out HB.out) | (with_reducible refine Kd.C_alloc ?_ _) | (with_reducible refine Kd.C_drewN ?_ _) | (with_reducible refine Kd.C_drew ?_))); (case side2 => exact HC0.out); rintro e w' ⟨rfl, ⟨nd, rfl⟩⟩; refine ⟨_, rfl, ?_⟩))
      go_meet
      case rel => exact ⟨_, (true), (by first | rfl | (simp; done) | (simp [*]; done)), H', ⟨by first | omega | exact Nat.le_refl _⟩, ⟨by repeat (first | (with_reducible first | exact HB.out | apply below_alloc | apply pw_below_drewN | apply below_drew1) | exact HB.out)⟩⟩
  case rest =>
    clear HC5
    try clear c1
    try clear p2
    try clear c3
    try clear p3
    try clear q3
    try clear hx3
    try clear c6
    try clear c7
    try clear c9
    try clear c10
    try clear c10b0
    try clear c10b1
    try clear c11
    try clear c11b0
    try clear c12
    try clear c12b0
    try clear hx314_0
    try clear p314
    try clear q314
    obtain ⟨kq, x34_4, rfl, HA, HJ4, HB⟩ := hcut
    cases kq with
    | zero => exact absurd HA.out (by simp [spec_MovedPeople.j0])
    | succ kj4 =>
      have H := HA.out
      clear HA
      simp only [spec_MovedPeople.j0] at H
      by_cases c14 : x34_4 = true
      · subst c14
        have H1 : (some (([] : List Int), false)) = some (r1, r2) := by rw [if_pos rfl] at H; exact H
        clear H
        have H := H1
        clear H1
        simp only [Option.some.injEq, Prod.mk.injEq] at H
        obtain ⟨rfl, rfl⟩ := H
        go_wp2
        go_ret2
        exact ⟨_, by first | rfl | (simp [errW_none, errW_some] <;> rfl) | (simp [*, errW_none, errW_some] <;> rfl), by first | exact Kd.R_nil _ _ _ _ _ | exact Kd.N_nil _ _ _ _ _ | exact Kd.V_nil _ _ _ _ _ | exact Kd.Q_nil _ _ _ _ _ | exact Kd.S_nil _ _ _ _ _, by repeat (first | (with_reducible first | exact HB.out | apply below_alloc | apply pw_below_drewN | apply below_drew1) | exact HB.out)⟩
      · replace c14 := Bool.eq_false_iff.mpr c14
        subst c14
        have H1 : ((spec_l1Own.f l0).bind fun t316 => (if 0 ≤ a1 then (if a1 < (t316.length : Int) then ((some (t316.set (a1 : Int).toNat (wrap64 ((rd t316 a1) - a3)) : List Int)).bind fun y320 => (if 0 ≤ a2 then (if a2 < (t316.length : Int) then ((some (y320.set (a2 : Int).toNat (wrap64 ((rd y320 a2) + a3)) : List Int)).bind fun y322 => ((spec_mdGood.f kj4 y322).bind fun t323 => (if t323 = true then (some (y322, true)) else (some (([] : List Int), false))))) else (none)) else (none))) else (none)) else (none))) = some (r1, r2) := by rw [if_neg (show ¬ (false = true) by decide)] at H; exact H
        clear H
        have H := H1
        clear H1
        replace H := Option.bind_eq_some_iff.mp H
        obtain ⟨t316, A150, H⟩ := H
        replace H : (if 0 ≤ a1 then (if a1 < (t316.length : Int) then ((some (t316.set (a1 : Int).toNat (wrap64 ((rd t316 a1) - a3)) : List Int)).bind fun y320 => (if 0 ≤ a2 then (if a2 < (t316.length : Int) then ((some (y320.set (a2 : Int).toNat (wrap64 ((rd y320 a2) + a3)) : List Int)).bind fun y322 => ((spec_mdGood.f kj4 y322).bind fun t323 => (if t323 = true then (some (y322, true)) else (some (([] : List Int), false))))) else (none)) else (none))) else (none)) else (none)) = some (r1, r2) := H
        have A15 := Aside0.mk A150
        clear A150
        by_cases c16 : 0 ≤ a1
        · rw [if_pos c16] at H
          have c16b0 : decide (0 ≤ a1) = true := decide_eq_true c16
          clear c16
          by_cases c17 : a1 < (t316.length : Int)
          · rw [if_pos c17] at H
            have c17b0 : decide (a1 < (t316.length : Int)) = true := decide_eq_true c17
            clear c17
            obtain ⟨y320, hy320⟩ : ∃ y_ : List Int, y_ = (t316.set (a1 : Int).toNat (wrap64 ((rd t316 a1) - a3))) := ⟨_, rfl⟩
            replace H : (if 0 ≤ a2 then (if a2 < (t316.length : Int) then ((some (y320.set (a2 : Int).toNat (wrap64 ((rd y320 a2) + a3)) : List Int)).bind fun y322 => ((spec_mdGood.f kj4 y322).bind fun t323 => (if t323 = true then (some (y322, true)) else (some (([] : List Int), false))))) else (none)) else (none)) = some (r1, r2) := by first | (rw [hy320]; with_reducible exact H) | (have H2_ := (Option.bind_some _ _).symm.trans H; rw [hy320]; with_reducible exact H2_) | (have H2_ := (Option.bind_some _ _).symm.trans H; with_reducible exact H2_) | with_reducible exact H | (rw [hy320]; exact H) | exact H
            have Ny320 := Aside0.mk hy320
            clear hy320
            by_cases c19 : 0 ≤ a2
            · rw [if_pos c19] at H
              have c19b0 : decide (0 ≤ a2) = true := decide_eq_true c19
              clear c19
              by_cases c20 : a2 < (t316.length : Int)
              · rw [if_pos c20] at H
                have c20b0 : decide (a2 < (t316.length : Int)) = true := decide_eq_true c20
                clear c20
                obtain ⟨y322, hy322⟩ : ∃ y_ : List Int, y_ = (y320.set (a2 : Int).toNat (wrap64 ((rd y320 a2) + a3))) := ⟨_, rfl⟩
                replace H : ((spec_mdGood.f kj4 y322).bind fun t323 => (if t323 = true then (some (y322, true)) else (some (([] : List Int), false)))) = some (r1, r2) := by first | (rw [hy322]; with_reducible exact H) | (have H2_ := (Option.bind_some _ _).symm.trans H; rw [hy322]; with_reducible exact H2_) | (have H2_ := (Option.bind_some _ _).symm.trans H; with_reducible exact H2_) | with_reducible exact H | (rw [hy322]; exact H) | exact H
                have Ny322 := Aside0.mk hy322
                clear hy322
                replace H := Option.bind_eq_some_iff.mp H
                obtain ⟨t323, A220, H⟩ := H
                replace H : (if t323 = true then (some (y322, true)) else (some (([] : List Int), false))) = some (r1, r2) := H
                have A22 := Aside0.mk A220
                clear A220
                by_cases c23 : t323 = true
                · subst c23
                  have H1 : (some (y322, true)) = some (r1, r2) := by rw [if_pos rfl] at H; exact H
                  clear H
                  have H := H1
                  clear H1
                  simp only [Option.some.injEq, Prod.mk.injEq] at H
                  obtain ⟨rfl, rfl⟩ := H
                  go_wp2_with (first | ((with_reducible refine gate_callee (f := 63) rfl ?_); refine goesL_ (some 36) rfl rfl Tryz.func63 (by kernel_rfl) rfl #[.slice A0 l0.length c0] rfl (by (try simp only [List.map_toArray, List.map_cons, List.map_nil]); first | done | rfl | (simp only [List.length_drop, List.length_take]; rfl)) ?_; (with_reducible refine (spec_l1Own.calls _ _ l0 t316 _ ?side1 ?side2 A15.out).mono ?_); (case side1 => repeat (first | exact (Kd.C_below HR0.out HB.out) | (with_reducible refine Kd.C_alloc ?_ _) | (with_reducible refine Kd.C_drewN ?_ _) | (with_reducible refine Kd.C_drew ?_))); (case side2 => exact HC0.out); rintro e w24 ⟨v317, rfl, ho0, hb⟩; refine ⟨_, rfl, ?_⟩; have n0_ := Aside0.mk (Kd.R_lower ho0 (below_size (by repeat (first | (with_reducible first | exact HB.out | apply below_alloc | apply pw_below_drewN | apply below_drew1) | exact HB.out)))); have n1_ := Aside0.mk (below_step (by repeat (first | (with_reducible first | exact HB.out | apply below_alloc | apply pw_below_drewN | apply below_drew1) | exact HB.out)) hb); clear HB; have HO318 := n0_; have HB := n1_; clear n0_ n1_; (try clear hb); (try clear hb2); (try clear hk); (try clear hi); (try clear ho0); obtain ⟨Ao25, co25, eo25⟩ := Kd.R_slice HO318.out; subst eo25; have p319 : 0 ≤ (a1 : Int) := of_decide_eq_true (by first | (with_reducible assumption) | assumption); have q319 : a1 < (t316.length : Int) := of_decide_eq_true (by first | (with_reducible assumption) | assumption); obtain ⟨ad319, e319, hx319_0⟩ := Kd.at_int (Kd.R_reads' HO318.out).2.2 a1 p319 q319; cases e319; replace p319 := eq_true p319; replace q319 := eq_true q319; have p18 : 0 ≤ (a1 : Int) := of_decide_eq_true (by first | (with_reducible assumption) | assumption); have q18 : (a1 : Int) < ((t316.length : Int) : Int) := of_decide_eq_true (by first | (with_reducible assumption) | assumption); obtain ⟨go18, co18, eo18, gb18, gl18, cl18, HG18⟩ := Kd.R_form HO318.out (by omega); (first | cases eo18 | (injection eo18 with ea_ en_ ec_; (first | subst ea_ | (injection ea_ with ea_; subst ea_)); subst ec_; clear en_)); have GB18 := Aside0.mk gb18; have GG18 := Aside0.mk HG18; clear gb18 gl18 HG18; (first | simp only [add_plain] at hx319_0 | skip); obtain ⟨hx18_0, hf18_0⟩ := Kd.R_celln 0 HO318.out (a1 : Int) p18 q18; replace p18 := eq_true p18; replace q18 := eq_true q18; obtain ⟨hy26_, hz26_⟩ := Kd.R_celln 0 HO318.out (a1 : Int) (of_decide_eq_true (by first | (with_reducible assumption) | assumption)) (of_decide_eq_true (by first | (with_reducible assumption) | assumption)); have HP26 := Kd.R_putg HO318.out (a1 : Int) (wrap64 ((rd t316 a1) - a3))) | ((with_reducible refine gate_store (t := 3) (p := 43) rfl ?_); refine store_event (t := 3) (p := 43) (v := ?vo_w27) (w1 := (w24.setCell ⟨go18, (a1 : Int).toNat, none⟩ (.int .i64 (wrap64 ((rd t316 a1) - a3))))) ?hg ?ho ?hn ?hr ?_; (case ho => rfl); (case hg => rfl); (case hn => rfl); (case hr => first | (go_simp; done) | (go_simp; rfl)); intro w27 hw; have hg : w24.grownBy w27 (some go18) := (by rw [hw]; exact HP26.2); have hp_ : Kd.R (Kd.int .i64) 3 w27 w.heap.size (fun _ => True) (.slice (some ⟨go18, 0, none⟩) t316.length co25) y320 := (by rw [hw, Ny320.out]; exact HP26.1); clear HP26; have n0_ := Aside0.mk (hp_); have n1_ := Aside0.mk ((by rw [hw]; exact below_set (HB.out) GB18.out : Below w.heap.size w w27)); clear HO318; clear HB; have HO318 := n0_; have HB := n1_; clear n0_ n1_; clear hg hw hp_; have p321 : 0 ≤ (a2 : Int) := of_decide_eq_true (by first | (with_reducible assumption) | assumption); have q321 : a2 < (y320.length : Int) := (by have h_ : (a2 : Int) < ((t316.length : Int) : Int) := of_decide_eq_true (by first | (with_reducible assumption) | assumption); first | (have e_ := (Kd.R_reads' HO318.out).1; omega) | simpa only [Ny320.out, List.length_set] using h_); have ql321 : ((a2 : Int) < ((t316.length : Int) : Int)) = True := eq_true (of_decide_eq_true (by first | (with_reducible assumption) | assumption)); obtain ⟨ad321, e321, hx321_0⟩ := Kd.at_int (Kd.R_reads' HO318.out).2.2 a2 p321 q321; obtain rfl : (⟨go18, 0, none⟩ : Addr) = ad321 := (by injection e321); (first | simp only [add_plain] at hx321_0 | simp only [add_at] at hx321_0 | simp only [Addr.add, Nat.zero_add] at hx321_0 | skip); replace p321 := eq_true p321; replace q321 := eq_true q321; have p21 : 0 ≤ (a2 : Int) := of_decide_eq_true (by first | (with_reducible assumption) | assumption); have q21 : (a2 : Int) < ((t316.length : Int) : Int) := of_decide_eq_true (by first | (with_reducible assumption) | assumption); obtain ⟨hx21_0, hf21_0⟩ := Kd.R_celln 0 HO318.out (a2 : Int) p21 q21; replace p21 := eq_true p21; replace q21 := eq_true q21; obtain ⟨hy28_, hz28_⟩ := Kd.R_celln 0 HO318.out (a2 : Int) (of_decide_eq_true (by first | (with_reducible assumption) | assumption)) (of_decide_eq_true (by first | (with_reducible assumption) | assumption)); have HP28 := Kd.R_putg HO318.out (a2 : Int) (wrap64 ((rd y320 a2) + a3))) | ((with_reducible refine gate_store (t := 3) (p := 50) rfl ?_); refine store_event (t := 3) (p := 50) (v := ?vo_w29) (w1 := (w27.setCell ⟨go18, (a2 : Int).toNat, none⟩ (.int .i64 (wrap64 ((rd y320 a2) + a3))))) ?hg ?ho ?hn ?hr ?_; (case ho => rfl); (case hg => rfl); (case hn => rfl); (case hr => first | (go_simp; done) | (go_simp; rfl)); intro w29 hw; have hg : w27.grownBy w29 (some go18) := (by rw [hw]; exact HP28.2); have hp_ : Kd.R (Kd.int .i64) 3 w29 w.heap.size (fun _ => True) (.slice (some ⟨go18, 0, none⟩) t316.length co25) y322 := (by rw [hw, Ny322.out]; exact HP28.1); clear HP28; have n0_ := Aside0.mk (hp_); have n1_ := Aside0.mk ((by rw [hw]; exact below_set (HB.out) GB18.out : Below w.heap.size w w29)); clear HO318; clear HB; have HO318 := n0_; have HB := n1_; clear n0_ n1_; clear hg hw hp_) | ((with_reducible refine gate_callee (f := 40) rfl ?_); refine goesL_ (some 52) rfl rfl Tryz.func40 (by kernel_rfl) rfl #[.slice (some ⟨go18, 0, none⟩) y322.length co25] rfl (by (try simp only [List.map_toArray, List.map_cons, List.map_nil]); first | done | (rw [show y322.length = t316.length from (Kd.R_reads' HO318.out).1.symm] <;> rfl) | rfl | (simp only [List.length_drop, List.length_take]; rfl)) ?_; (with_reducible refine (spec_mdGood.calls kj4 _ _ y322 true _ ?side1 ?side2 A22.out).mono ?_); (case side1 => repeat (first | exact (Kd.R_reads' HO318.out).2.2 | (with_reducible refine Kd.C_alloc ?_ _) | (with_reducible refine Kd.C_drewN ?_ _) | (with_reducible refine Kd.C_drew ?_))); (case side2 => rw [show y322.length = t316.length from (Kd.R_reads' HO318.out).1.symm]; exact (Kd.R_reads' HO318.out).2.1); rintro e w' ⟨rfl, ⟨nd, rfl⟩⟩; refine ⟨_, rfl, ?_⟩))
                  go_ret2
                  exact ⟨_, by first | rfl | (simp [errW_none, errW_some] <;> rfl) | (simp [*, errW_none, errW_some] <;> rfl), by (with_reducible repeat (first | apply Kd.R_alloc | apply Kd.R_drewN | apply Kd.R_drew)); exact HO318.out, by repeat (first | (with_reducible first | exact HB.out | apply below_alloc | apply pw_below_drewN | apply below_drew1) | exact HB.out)⟩
                · replace c23 := Bool.eq_false_iff.mpr c23
                  subst c23
                  have H1 : (some (([] : List Int), false)) = some (r1, r2) := by rw [if_neg (show ¬ (false = true) by decide)] at H; exact H
                  clear H
                  have H := H1
                  clear H1
                  simp only [Option.some.injEq, Prod.mk.injEq] at H
                  obtain ⟨rfl, rfl⟩ := H
                  go_wp2_with (first | ((with_reducible refine gate_callee (f := 63) rfl ?_); refine goesL_ (some 36) rfl rfl Tryz.func63 (by kernel_rfl) rfl #[.slice A0 l0.length c0] rfl (by (try simp only [List.map_toArray, List.map_cons, List.map_nil]); first | done | rfl | (simp only [List.length_drop, List.length_take]; rfl)) ?_; (with_reducible refine (spec_l1Own.calls _ _ l0 t316 _ ?side1 ?side2 A15.out).mono ?_); (case side1 => repeat (first | exact (Kd.C_below HR0.out HB.out) | (with_reducible refine Kd.C_alloc ?_ _) | (with_reducible refine Kd.C_drewN ?_ _) | (with_reducible refine Kd.C_drew ?_))); (case side2 => exact HC0.out); rintro e w30 ⟨v317, rfl, ho0, hb⟩; refine ⟨_, rfl, ?_⟩; have n0_ := Aside0.mk (Kd.R_lower ho0 (below_size (by repeat (first | (with_reducible first | exact HB.out | apply below_alloc | apply pw_below_drewN | apply below_drew1) | exact HB.out)))); have n1_ := Aside0.mk (below_step (by repeat (first | (with_reducible first | exact HB.out | apply below_alloc | apply pw_below_drewN | apply below_drew1) | exact HB.out)) hb); clear HB; have HO318 := n0_; have HB := n1_; clear n0_ n1_; (try clear hb); (try clear hb2); (try clear hk); (try clear hi); (try clear ho0); obtain ⟨Ao31, co31, eo31⟩ := Kd.R_slice HO318.out; subst eo31; have p319 : 0 ≤ (a1 : Int) := of_decide_eq_true (by first | (with_reducible assumption) | assumption); have q319 : a1 < (t316.length : Int) := of_decide_eq_true (by first | (with_reducible assumption) | assumption); obtain ⟨ad319, e319, hx319_0⟩ := Kd.at_int (Kd.R_reads' HO318.out).2.2 a1 p319 q319; cases e319; replace p319 := eq_true p319; replace q319 := eq_true q319; have p18 : 0 ≤ (a1 : Int) := of_decide_eq_true (by first | (with_reducible assumption) | assumption); have q18 : (a1 : Int) < ((t316.length : Int) : Int) := of_decide_eq_true (by first | (with_reducible assumption) | assumption); obtain ⟨go18, co18, eo18, gb18, gl18, cl18, HG18⟩ := Kd.R_form HO318.out (by omega); (first | cases eo18 | (injection eo18 with ea_ en_ ec_; (first | subst ea_ | (injection ea_ with ea_; subst ea_)); subst ec_; clear en_)); have GB18 := Aside0.mk gb18; have GG18 := Aside0.mk HG18; clear gb18 gl18 HG18; (first | simp only [add_plain] at hx319_0 | skip); obtain ⟨hx18_0, hf18_0⟩ := Kd.R_celln 0 HO318.out (a1 : Int) p18 q18; replace p18 := eq_true p18; replace q18 := eq_true q18; obtain ⟨hy32_, hz32_⟩ := Kd.R_celln 0 HO318.out (a1 : Int) (of_decide_eq_true (by first | (with_reducible assumption) | assumption)) (of_decide_eq_true (by first | (with_reducible assumption) | assumption)); have HP32 := Kd.R_putg HO318.out (a1 : Int) (wrap64 ((rd t316 a1) - a3))) | ((with_reducible refine gate_store (t := 3) (p := 43) rfl ?_); refine store_event (t := 3) (p := 43) (v := ?vo_w33) (w1 := (w30.setCell ⟨go18, (a1 : Int).toNat, none⟩ (.int .i64 (wrap64 ((rd t316 a1) - a3))))) ?hg ?ho ?hn ?hr ?_; (case ho => rfl); (case hg => rfl); (case hn => rfl); (case hr => first | (go_simp; done) | (go_simp; rfl)); intro w33 hw; have hg : w30.grownBy w33 (some go18) := (by rw [hw]; exact HP32.2); have hp_ : Kd.R (Kd.int .i64) 3 w33 w.heap.size (fun _ => True) (.slice (some ⟨go18, 0, none⟩) t316.length co31) y320 := (by rw [hw, Ny320.out]; exact HP32.1); clear HP32; have n0_ := Aside0.mk (hp_); have n1_ := Aside0.mk ((by rw [hw]; exact below_set (HB.out) GB18.out : Below w.heap.size w w33)); clear HO318; clear HB; have HO318 := n0_; have HB := n1_; clear n0_ n1_; clear hg hw hp_; have p321 : 0 ≤ (a2 : Int) := of_decide_eq_true (by first | (with_reducible assumption) | assumption); have q321 : a2 < (y320.length : Int) := (by have h_ : (a2 : Int) < ((t316.length : Int) : Int) := of_decide_eq_true (by first | (with_reducible assumption) | assumption); first | (have e_ := (Kd.R_reads' HO318.out).1; omega) | simpa only [Ny320.out, List.length_set] using h_); have ql321 : ((a2 : Int) < ((t316.length : Int) : Int)) = True := eq_true (of_decide_eq_true (by first | (with_reducible assumption) | assumption)); obtain ⟨ad321, e321, hx321_0⟩ := Kd.at_int (Kd.R_reads' HO318.out).2.2 a2 p321 q321; obtain rfl : (⟨go18, 0, none⟩ : Addr) = ad321 := (by injection e321); (first | simp only [add_plain] at hx321_0 | simp only [add_at] at hx321_0 | simp only [Addr.add, Nat.zero_add] at hx321_0 | skip); replace p321 := eq_true p321; replace q321 := eq_true q321; have p21 : 0 ≤ (a2 : Int) := of_decide_eq_true (by first | (with_reducible assumption) | assumption); have q21 : (a2 : Int) < ((t316.length : Int) : Int) := of_decide_eq_true (by first | (with_reducible assumption) | assumption); obtain ⟨hx21_0, hf21_0⟩ := Kd.R_celln 0 HO318.out (a2 : Int) p21 q21; replace p21 := eq_true p21; replace q21 := eq_true q21; obtain ⟨hy34_, hz34_⟩ := Kd.R_celln 0 HO318.out (a2 : Int) (of_decide_eq_true (by first | (with_reducible assumption) | assumption)) (of_decide_eq_true (by first | (with_reducible assumption) | assumption)); have HP34 := Kd.R_putg HO318.out (a2 : Int) (wrap64 ((rd y320 a2) + a3))) | ((with_reducible refine gate_store (t := 3) (p := 50) rfl ?_); refine store_event (t := 3) (p := 50) (v := ?vo_w35) (w1 := (w33.setCell ⟨go18, (a2 : Int).toNat, none⟩ (.int .i64 (wrap64 ((rd y320 a2) + a3))))) ?hg ?ho ?hn ?hr ?_; (case ho => rfl); (case hg => rfl); (case hn => rfl); (case hr => first | (go_simp; done) | (go_simp; rfl)); intro w35 hw; have hg : w33.grownBy w35 (some go18) := (by rw [hw]; exact HP34.2); have hp_ : Kd.R (Kd.int .i64) 3 w35 w.heap.size (fun _ => True) (.slice (some ⟨go18, 0, none⟩) t316.length co31) y322 := (by rw [hw, Ny322.out]; exact HP34.1); clear HP34; have n0_ := Aside0.mk (hp_); have n1_ := Aside0.mk ((by rw [hw]; exact below_set (HB.out) GB18.out : Below w.heap.size w w35)); clear HO318; clear HB; have HO318 := n0_; have HB := n1_; clear n0_ n1_; clear hg hw hp_) | ((with_reducible refine gate_callee (f := 40) rfl ?_); refine goesL_ (some 52) rfl rfl Tryz.func40 (by kernel_rfl) rfl #[.slice (some ⟨go18, 0, none⟩) y322.length co31] rfl (by (try simp only [List.map_toArray, List.map_cons, List.map_nil]); first | done | (rw [show y322.length = t316.length from (Kd.R_reads' HO318.out).1.symm] <;> rfl) | rfl | (simp only [List.length_drop, List.length_take]; rfl)) ?_; (with_reducible refine (spec_mdGood.calls kj4 _ _ y322 false _ ?side1 ?side2 A22.out).mono ?_); (case side1 => repeat (first | exact (Kd.R_reads' HO318.out).2.2 | (with_reducible refine Kd.C_alloc ?_ _) | (with_reducible refine Kd.C_drewN ?_ _) | (with_reducible refine Kd.C_drew ?_))); (case side2 => rw [show y322.length = t316.length from (Kd.R_reads' HO318.out).1.symm]; exact (Kd.R_reads' HO318.out).2.1); rintro e w' ⟨rfl, ⟨nd, rfl⟩⟩; refine ⟨_, rfl, ?_⟩))
                  go_ret2
                  exact ⟨_, by first | rfl | (simp [errW_none, errW_some] <;> rfl) | (simp [*, errW_none, errW_some] <;> rfl), by first | exact Kd.R_nil _ _ _ _ _ | exact Kd.N_nil _ _ _ _ _ | exact Kd.V_nil _ _ _ _ _ | exact Kd.Q_nil _ _ _ _ _ | exact Kd.S_nil _ _ _ _ _, by repeat (first | (with_reducible first | exact HB.out | apply below_alloc | apply pw_below_drewN | apply below_drew1) | exact HB.out)⟩
              · rw [if_neg c20] at H
                exact absurd H (by simp)
            · rw [if_neg c19] at H
              exact absurd H (by simp)
          · rw [if_neg c17] at H
            exact absurd H (by simp)
        · rw [if_neg c16] at H
          exact absurd H (by simp)

/-! ### spec_DrawPeopleWithin: function 31 -/
def spec_DrawPeopleWithin.in_ (k : Nat) (s0_0 : List Int) (s0_1 : Int) (s0_2 : Int) : Option (List Int × Int × Int × Int × Int) := (spec_l1Cur_people.f k s0_0 s0_1 s0_2).bind fun bt324 => ((spec_l1Cur_pick.f s0_0 bt324.2.1 bt324.2.2 (wrap64 ((bt324.1.length : Int) + 2))).bind fun bt329 => ((spec_l1Cur_among.f s0_0 bt329.2.1 bt329.2.2 (([0, 1, 2, 3, 60, 61, (-1)] : List Int))).bind fun bt335 => (some (bt324.1, wrap64 (bt329.1 - 1), bt335.1, bt335.2.1, bt335.2.2))))
theorem spec_DrawPeopleWithin.mono_in : ∀ a0 a1 a2 k, LeO (spec_DrawPeopleWithin.in_ k a0 a1 a2) (spec_DrawPeopleWithin.in_ (k + 1) a0 a1 a2) := by
  intro a0 a1 a2 k
  unfold spec_DrawPeopleWithin.in_
  repeat' first
      | (with_reducible exact spec_l1Cur_people.mono _ _ _ _)
      | (with_reducible exact LeO.refl _)
      | (with_reducible exact LeO.none _)
      | (with_reducible refine LeO.ite ?_ ?_)
      | (with_reducible refine LeO.bind ?_ (fun _ => ?_))
      | exact spec_l1Cur_people.mono _ _ _ _
      | exact LeO.none _
      | refine LeO.ite ?_ ?_
      | refine LeO.bind ?_ (fun _ => ?_)
def spec_DrawPeopleWithin.f (k : Nat) (l0 : List Int) : Option (List Int × Int × Int) := (spec_DrawPeopleWithin.in_ k l0 0 0).bind fun r => some (r.1, r.2.1, r.2.2.1)
theorem spec_DrawPeopleWithin.mono : ∀ a0 k, LeO (spec_DrawPeopleWithin.f k a0) (spec_DrawPeopleWithin.f (k + 1) a0) := fun a0 k => LeO.bind (spec_DrawPeopleWithin.mono_in _ _ _ k) (fun _ => LeO.refl _)
set_option maxHeartbeats 8000000 in
set_option maxRecDepth 100000 in
theorem spec_DrawPeopleWithin.calls (k : Nat) (A0 : Option Addr) (c0 : Nat) (l0 : List Int) (r1 : List Int) (r2 : Int) (r3 : Int) (w0 : World) (hr0 : Kd.C (Kd.int .u8) w0 A0 l0.length l0) (hc0 : l0.length ≤ c0) (h : spec_DrawPeopleWithin.f k l0 = some (r1, r2, r3)) :
    Calls Tryz.prog 31 #[.slice A0 l0.length c0] w0 fun e w' => ∃ v0_ : Value, e = .returned (.tuple #[v0_, .int .i64 r2, .int .i64 r3]) ∧ Kd.R (Kd.int .i64) 3 w' w0.heap.size (fun _ => True) v0_ r1 ∧ Below w0.heap.size w0 w' := by
  unfold spec_DrawPeopleWithin.f at h
  obtain ⟨⟨y0_, y1_, y2_, r4, r5⟩, h1_, h⟩ := Option.bind_eq_some_iff.1 h
  obtain ⟨rfl, rfl, rfl⟩ : y0_ = r1 ∧ y1_ = r2 ∧ y2_ = r3 := by simpa using h
  clear h
  have HIe := Aside0.mk (show IsS62 w0 (w0.alloc (.cells #[.slice A0 l0.length c0, .int .i64 0, .int .u64 0] 62)) w0.heap.size l0 0 0 from ⟨A0, c0, heap_alloc_new _ _, Nat.le_refl _, hr0⟩)
  have HBe := Aside0.mk (below_alloc (Below.refl w0.heap.size w0) (.cells #[.slice A0 l0.length c0, .int .i64 0, .int .u64 0] 62))
  have HKe := Aside0.mk (show KeepBut w0 (w0.alloc (.cells #[.slice A0 l0.length c0, .int .i64 0, .int .u64 0] 62)) (w0.heap.size) none from ⟨HBe.out.size, fun i hi _ _ => HBe.out.block i hi⟩)
  obtain ⟨W_, hW_⟩ : ∃ W_ : World, W_ = (w0.alloc (.cells #[.slice A0 l0.length c0, .int .i64 0, .int .u64 0] 62)) := ⟨_, rfl⟩
  rw [← hW_] at HIe HBe HKe
  obtain ⟨s0_0, hs0_⟩ : ∃ z : List Int, z = l0 := ⟨_, rfl⟩
  obtain ⟨s0_1, hs1_⟩ : ∃ z : Int, z = 0 := ⟨_, rfl⟩
  obtain ⟨s0_2, hs2_⟩ : ∃ z : Int, z = 0 := ⟨_, rfl⟩
  obtain ⟨g, hg⟩ : ∃ z : Nat, z = w0.heap.size := ⟨_, rfl⟩
  have HIf := Aside0.mk (show IsS62 w0 W_ g s0_0 s0_1 s0_2 by rw [hs0_, hs1_, hs2_, hg]; exact HIe.out)
  have HKf := Aside0.mk (show KeepBut w0 W_ g none by rw [hg]; exact HKe.out)
  have h : spec_DrawPeopleWithin.in_ k s0_0 s0_1 s0_2 = some (y0_, y1_, y2_, r4, r5) := by rw [hs0_, hs1_, hs2_]; exact h1_
  clear hs0_ hs1_ hs2_ h1_ hr0 HIe HKe
  suffices key_ : ∀ Q_ : Ending → World → Prop, (∀ e w', (∃ v0_ : Value, e = .returned (.tuple #[v0_, .int .i64 y1_, .int .i64 y2_]) ∧ Kd.R (Kd.int .i64) 3 w' w0.heap.size (fun _ => True) v0_ y0_ ∧ IsS62 w0 w' g s0_0 r4 r5 ∧ Below w0.heap.size w0 w' ∧ KeepBut w0 w' g none) → Q_ e w') → Calls Tryz.prog 31 #[.slice A0 l0.length c0] w0 Q_ by
    exact key_ _ (fun e w' z_ => by obtain ⟨q0_, p0_, p1_, p2_, p3_, p4_⟩ := z_; exact ⟨q0_, p0_, p1_, p3_⟩)
  intro Q_ hQ_
  have HQ_ := Aside0.mk hQ_
  clear hQ_
  have H : ((spec_l1Cur_people.f k s0_0 s0_1 s0_2).bind fun bt324 => ((spec_l1Cur_pick.f s0_0 bt324.2.1 bt324.2.2 (wrap64 ((bt324.1.length : Int) + 2))).bind fun bt329 => ((spec_l1Cur_among.f s0_0 bt329.2.1 bt329.2.2 (([0, 1, 2, 3, 60, 61, (-1)] : List Int))).bind fun bt335 => (some (bt324.1, wrap64 (bt329.1 - 1), bt335.1, bt335.2.1, bt335.2.2))))) = some (y0_, y1_, y2_, r4, r5) := h
  clear h
  replace H := Option.bind_eq_some_iff.mp H
  obtain ⟨⟨t324, t327, t328⟩, A20, H⟩ := H
  replace H : ((spec_l1Cur_pick.f s0_0 t327 t328 (wrap64 ((t324.length : Int) + 2))).bind fun bt329 => ((spec_l1Cur_among.f s0_0 bt329.2.1 bt329.2.2 (([0, 1, 2, 3, 60, 61, (-1)] : List Int))).bind fun bt335 => (some (t324, wrap64 (bt329.1 - 1), bt335.1, bt335.2.1, bt335.2.2)))) = some (y0_, y1_, y2_, r4, r5) := H
  have A2 := Aside0.mk A20
  clear A20
  replace H := Option.bind_eq_some_iff.mp H
  obtain ⟨⟨t329, t330, t331⟩, A30, H⟩ := H
  replace H : ((spec_l1Cur_among.f s0_0 t330 t331 (([0, 1, 2, 3, 60, 61, (-1)] : List Int))).bind fun bt335 => (some (t324, wrap64 (t329 - 1), bt335.1, bt335.2.1, bt335.2.2))) = some (y0_, y1_, y2_, r4, r5) := H
  have A3 := Aside0.mk A30
  clear A30
  obtain ⟨y332, hy332⟩ : ∃ y_ : List Int, y_ = (([0, 1, 2, 3, 60, 61, (-1)] : List Int)) := ⟨_, rfl⟩
  replace H : ((spec_l1Cur_among.f s0_0 t330 t331 y332).bind fun bt335 => (some (t324, wrap64 (t329 - 1), bt335.1, bt335.2.1, bt335.2.2))) = some (y0_, y1_, y2_, r4, r5) := by first | (rw [hy332]; with_reducible exact H) | (have H2_ := (Option.bind_some _ _).symm.trans H; rw [hy332]; with_reducible exact H2_) | (have H2_ := (Option.bind_some _ _).symm.trans H; with_reducible exact H2_) | with_reducible exact H | (rw [hy332]; exact H) | exact H
  have Ny332 := Aside0.mk hy332
  clear hy332
  replace H := Option.bind_eq_some_iff.mp H
  obtain ⟨⟨t335, t336, t337⟩, A40, H⟩ := H
  replace H : (some (t324, wrap64 (t329 - 1), t335, t336, t337)) = some (y0_, y1_, y2_, r4, r5) := H
  have A4 := Aside0.mk A40
  clear A40
  simp only [Option.some.injEq, Prod.mk.injEq] at H
  obtain ⟨rfl, rfl, rfl, rfl, rfl⟩ := H
  go_enter Tryz.func31, Tryz.ntmps31
  go_upto_region 2 with (fail)
  rw [← hW_]
  rw [← hg]
  have HI0 := HIf
  have HK := HKf
  have HB := HBe
  have HL := Aside0.mk (Nat.le_refl w0.heap.size)
  have HW0 := Aside0.mk (Nat.le_refl w0.heap.size)
  clear HIf HKf HBe hW_ hg
  go_wp2_with (first | ((with_reducible refine gate_callee (f := 58) rfl ?_); refine goesL_ (some 12) rfl rfl Tryz.func58 (by kernel_rfl) rfl #[.pointer (some ⟨g, 0, none⟩)] rfl (by (try simp only [List.map_toArray, List.map_cons, List.map_nil]); first | done | rfl | (simp only [List.length_drop, List.length_take]; rfl)) ?_; (with_reducible refine (spec_l1Cur_people.calls k g s0_0 s0_1 s0_2 t324 t327 t328 w0 _ ?side1 ?side2 A2.out).mono ?_); (case side1 => repeat (first | (with_reducible first | exact HI0.out | apply IsS62.alloc | apply IsS62.drewN | apply IsS62.drew | apply IsS62.set_1 | apply IsS62.set_2) | exact HI0.out)); (case side2 => repeat (first | (with_reducible first | exact HB.out | apply below_alloc | apply pw_below_drewN | apply below_drew1 | refine below_set ?_ (IsS62.ge HI0.out)) | exact HB.out)); rintro e w5 ⟨v325, rfl, ho0, hi, hb, hk⟩; refine ⟨_, rfl, ?_⟩; have n0_ := Aside0.mk (Kd.R_lower ho0 (keep_size (w := w0) (g := g) (row := none) (by repeat (first | (with_reducible first | exact HK.out | apply KeepBut.set_ | apply keep_drewN | apply keep_drew | apply keep_alloc) | exact HK.out)))); have n1_ := Aside0.mk (KeepBut.trans (by repeat (first | (with_reducible first | exact HK.out | apply KeepBut.set_ | apply keep_drewN | apply keep_drew | apply keep_alloc) | exact HK.out)) hk (.inl rfl)); have n2_ := Aside0.mk (hb); have n3_ := Aside0.mk (hi); clear HK; clear HB; clear HI0; have HO326 := n0_; have HK := n1_; have HB := n2_; have HI0 := n3_; clear n0_ n1_ n2_ n3_; (try clear hb); (try clear hb2); (try clear hk); (try clear hi); (try clear ho0); obtain ⟨Ao6, co6, eo6⟩ := Kd.R_slice HO326.out; subst eo6) | ((with_reducible refine gate_callee (f := 59) rfl ?_); refine goesL_ (some 17) rfl rfl Tryz.func59 (by kernel_rfl) rfl #[.pointer (some ⟨g, 0, none⟩), .int .i64 (wrap64 ((t324.length : Int) + 2))] rfl (by (try simp only [List.map_toArray, List.map_cons, List.map_nil]); first | done | rfl | (simp only [List.length_drop, List.length_take]; rfl)) ?_; (with_reducible refine (spec_l1Cur_pick.calls g s0_0 t327 t328 (wrap64 ((t324.length : Int) + 2)) t329 t330 t331 w0 _ ?side1 ?side2 A3.out).mono ?_); (case side1 => repeat (first | (with_reducible first | exact HI0.out | apply IsS62.alloc | apply IsS62.drewN | apply IsS62.drew | apply IsS62.set_1 | apply IsS62.set_2) | exact HI0.out)); (case side2 => repeat (first | (with_reducible first | exact HB.out | apply below_alloc | apply pw_below_drewN | apply below_drew1 | refine below_set ?_ (IsS62.ge HI0.out)) | exact HB.out)); rintro e w7 ⟨rfl, hi, hb, hk⟩; refine ⟨_, rfl, ?_⟩; have n0_ := Aside0.mk (Kd.R_mono (Kd.R_keep (IsS62.apart (show IsS62 w0 _ g s0_0 t327 t328 from by repeat (first | (with_reducible first | exact HI0.out | apply IsS62.alloc | apply IsS62.drewN | apply IsS62.drew | apply IsS62.set_1 | apply IsS62.set_2) | exact HI0.out)) (by (with_reducible repeat (first | apply Kd.R_alloc | apply Kd.R_drewN | apply Kd.R_drew)); exact HO326.out) (by decide)) hk (fun _ h => h.2)) (fun _ h => h.1)); have n1_ := Aside0.mk (KeepBut.trans (by repeat (first | (with_reducible first | exact HK.out | apply KeepBut.set_ | apply keep_drewN | apply keep_drew | apply keep_alloc) | exact HK.out)) hk (.inl rfl)); have n2_ := Aside0.mk (hb); have n3_ := Aside0.mk (hi); clear HO326; clear HK; clear HB; clear HI0; have HO326 := n0_; have HK := n1_; have HB := n2_; have HI0 := n3_; clear n0_ n1_ n2_ n3_; (try clear hb); (try clear hb2); (try clear hk); (try clear hi)) | ((with_reducible refine gate_dst (N := 22) rfl ?_); refine Kd.R_lit (Kd.int .i64) _ 3 ?hg (N := 22) ?hd (xs := ([0, 1, 2, 3, 60, 61, (-1)] : List Int)) (inner := [.int .i64 0, .int .i64 1, .int .i64 2, .int .i64 3, .int .i64 60, .int .i64 61, .int .i64 (-1)]) (ok := fun _ => True) (okp := fun _ => True) ?hr ?hp (fun _ hk => hk) trivial (Below.refl _ _) (Nat.le_refl _) (by simp) ?_; (case hd => rfl); (case hg => rfl); (case hr => first | (go_simp; done) | (go_simp; rfl)); (case hp => exact (Reps.one (show Kd.M (Kd.int .i64) _ _ _ 0 [.int .i64 0] from rfl) (Reps.one (show Kd.M (Kd.int .i64) _ _ _ 1 [.int .i64 1] from rfl) (Reps.one (show Kd.M (Kd.int .i64) _ _ _ 2 [.int .i64 2] from rfl) (Reps.one (show Kd.M (Kd.int .i64) _ _ _ 3 [.int .i64 3] from rfl) (Reps.one (show Kd.M (Kd.int .i64) _ _ _ 60 [.int .i64 60] from rfl) (Reps.one (show Kd.M (Kd.int .i64) _ _ _ 61 [.int .i64 61] from rfl) (Reps.one (show Kd.M (Kd.int .i64) _ _ _ (-1) [.int .i64 (-1)] from rfl) (Reps.none _ _))))))))); intro v333 w8 ho9 hb hg_ hnew_; clear hg_ hnew_; (first | rw [← Ny332.out] at ho9 | (simp only [Int.reduceToNat] at ho9; rw [← Ny332.out] at ho9)); have n0_ := Aside0.mk (Kd.R_elder' (by (with_reducible repeat (first | apply Kd.R_alloc | apply Kd.R_drewN | apply Kd.R_drew)); exact HO326.out) (Kd.R_base ho9) hb); have n1_ := Aside0.mk (Kd.R_lower (Kd.R_new' ho9 (Kd.R_lt (by (with_reducible repeat (first | apply Kd.R_alloc | apply Kd.R_drewN | apply Kd.R_drew)); exact HO326.out))) (keep_size (w := w0) (g := g) (row := none) (by repeat (first | (with_reducible first | exact HK.out | apply KeepBut.set_ | apply keep_drewN | apply keep_drew | apply keep_alloc) | exact HK.out)))); have n2_ := Aside0.mk (IsS62.below (by repeat (first | (with_reducible first | exact HI0.out | apply IsS62.alloc | apply IsS62.drewN | apply IsS62.drew | apply IsS62.set_1 | apply IsS62.set_2) | exact HI0.out)) hb); have n3_ := Aside0.mk (KeepBut.trans (by repeat (first | (with_reducible first | exact HK.out | apply KeepBut.set_ | apply keep_drewN | apply keep_drew | apply keep_alloc) | exact HK.out)) (KeepBut.of_below hb g none) (.inl rfl)); have n4_ := Aside0.mk (below_step (by repeat (first | (with_reducible first | exact HB.out | apply below_alloc | apply pw_below_drewN | apply below_drew1 | refine below_set ?_ (IsS62.ge HI0.out)) | exact HB.out)) hb); clear HO326; clear HI0; clear HK; clear HB; have HO326 := n0_; have HO334 := n1_; have HI0 := n2_; have HK := n3_; have HB := n4_; clear n0_ n1_ n2_ n3_ n4_; clear hb ho9; obtain ⟨Ao10, co10, eo10⟩ := Kd.R_slice HO334.out; subst eo10) | ((with_reducible refine gate_callee (f := 60) rfl ?_); refine goesL_ (some 23) rfl rfl Tryz.func60 (by kernel_rfl) rfl #[.pointer (some ⟨g, 0, none⟩), .slice Ao10 y332.length co10] rfl (by (try simp only [List.map_toArray, List.map_cons, List.map_nil]); first | done | rfl | (simp only [List.length_drop, List.length_take]; rfl)) ?_; (with_reducible refine (spec_l1Cur_among.calls g s0_0 t330 t331 _ _ y332 t335 t336 t337 w0 _ ?side1 ?side2 ?side3 ?side4 ?side5 A4.out).mono ?_); (case side1 => repeat (first | (with_reducible first | exact HI0.out | apply IsS62.alloc | apply IsS62.drewN | apply IsS62.drew | apply IsS62.set_1 | apply IsS62.set_2) | exact HI0.out)); (case side2 => repeat (first | (with_reducible first | exact HB.out | apply below_alloc | apply pw_below_drewN | apply below_drew1 | refine below_set ?_ (IsS62.ge HI0.out)) | exact HB.out)); (case side3 => repeat (first | exact (Kd.R_reads' HO334.out).2.2 | (with_reducible refine Kd.C_alloc ?_ _) | (with_reducible refine Kd.C_drewN ?_ _) | (with_reducible refine Kd.C_drew ?_))); (case side4 => exact (Kd.R_reads' HO334.out).2.1); (case side5 => exact far_slice (IsS62.own_ne HI0.out HO334.out (by decide))); rintro e w11 ⟨rfl, hi, hb, hk⟩; refine ⟨_, rfl, ?_⟩; have n0_ := Aside0.mk (Kd.R_mono (Kd.R_keep (IsS62.apart (show IsS62 w0 _ g s0_0 t330 t331 from by repeat (first | (with_reducible first | exact HI0.out | apply IsS62.alloc | apply IsS62.drewN | apply IsS62.drew | apply IsS62.set_1 | apply IsS62.set_2) | exact HI0.out)) (by (with_reducible repeat (first | apply Kd.R_alloc | apply Kd.R_drewN | apply Kd.R_drew)); exact HO326.out) (by decide)) hk (fun _ h => h.2)) (fun _ h => h.1)); have n1_ := Aside0.mk (Kd.R_mono (Kd.R_keep (IsS62.apart (show IsS62 w0 _ g s0_0 t330 t331 from by repeat (first | (with_reducible first | exact HI0.out | apply IsS62.alloc | apply IsS62.drewN | apply IsS62.drew | apply IsS62.set_1 | apply IsS62.set_2) | exact HI0.out)) (by (with_reducible repeat (first | apply Kd.R_alloc | apply Kd.R_drewN | apply Kd.R_drew)); exact HO334.out) (by decide)) hk (fun _ h => h.2)) (fun _ h => h.1)); have n2_ := Aside0.mk (KeepBut.trans (by repeat (first | (with_reducible first | exact HK.out | apply KeepBut.set_ | apply keep_drewN | apply keep_drew | apply keep_alloc) | exact HK.out)) hk (.inl rfl)); have n3_ := Aside0.mk (hb); have n4_ := Aside0.mk (hi); clear HO326; clear HO334; clear HK; clear HB; clear HI0; have HO326 := n0_; have HO334 := n1_; have HK := n2_; have HB := n3_; have HI0 := n4_; clear n0_ n1_ n2_ n3_ n4_; (try clear hb); (try clear hb2); (try clear hk); (try clear hi)))
  go_ret3
  exact HQ_.out _ _ ⟨_, by first | rfl | (simp [errW_none, errW_some] <;> rfl) | (simp [*, errW_none, errW_some] <;> rfl), by (with_reducible repeat (first | apply Kd.R_alloc | apply Kd.R_drewN | apply Kd.R_drew)); exact Kd.R_mono HO326.out (fun _ hk => trivial), by repeat (first | (with_reducible first | exact HI0.out | apply IsS62.alloc | apply IsS62.drewN | apply IsS62.drew | apply IsS62.set_1 | apply IsS62.set_2) | exact HI0.out), by repeat (first | (with_reducible first | exact HB.out | apply below_alloc | apply pw_below_drewN | apply below_drew1 | refine below_set ?_ (IsS62.ge HI0.out)) | exact HB.out), by repeat (first | (with_reducible first | exact HK.out | apply KeepBut.set_ | apply keep_drewN | apply keep_drew | apply keep_alloc) | exact HK.out)⟩

end Go.Proofs.YteldjmljidmffaaGreatDoor.MX
