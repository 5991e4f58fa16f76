-- The machine side, written by this repo's program mp.py; contracts marked as of this repo are this session's own.
import Derived.Test.YtknookofgnandaaMLx0
import Derived.Test.YtknookofgnandaaMLx1
import Derived.Test.YtknookofgnandaaMLx3
import Derived.Test.YtknookofgnandaaMLx4
namespace Go.Proofs.Ytknookofgnandaa.ML
open Go.RowKit Go.Proofs.YtknookofgnandaaW.PrintWords Go.Proofs.YtknookofgnandaaW.PrintLast Go.Proofs.YtknookofgnandaaW.PrintMore
attribute [local go_sem] max2_int min2_int max_two min_two max_three min_three max_four min_four   -- for this text's walks alone
set_option linter.unusedVariables false
set_option linter.unusedSimpArgs false

/-! ### impl_lamps: function 34 (a contract of this repo) -/
/-- One more: the lesser number, or more of it. -/
def impl_lamps.take (a r : Nat × Nat) : Nat × Nat := if r.2 = 0 then a else if a.2 = 0 ∨ r.1 < a.1 then r else if r.1 = a.1 then (a.1, a.2 + r.2) else a
def impl_lamps.tk (a r : Nat × Nat) : Option (Nat × Nat) := if r.2 ≤ 4000000000000 ∧ a.2 ≤ 40000000000000 then some (impl_lamps.take a r) else none
def impl_lamps.val (row : ByteArray) (fixed : List Int) (j l : Nat) (behind last : Int) : Option (Nat × Nat) := impl_rowLamps.val row fixed j l behind last
def impl_lamps.ins (row : ByteArray) (fixed : List Int) (j : Nat) : Nat → Nat → Nat × Nat → Option (Nat × Nat)
  | 0, _, a => some a
  | r + 1, l, a => ((impl_lamps.val row fixed j l (j : Int) (l : Int)).bind (impl_lamps.tk a)).bind fun b => impl_lamps.ins row fixed j r (l + 1) b
def impl_lamps.one (row : ByteArray) (fixed : List Int) (rg : Bool) (j : Nat) (a : Nat × Nat) : Option (Nat × Nat) := if rg = true then impl_lamps.ins row fixed j 2 0 a else (impl_lamps.val row fixed j 0 0 (-1)).bind (impl_lamps.tk a)
def impl_lamps.outs (row : ByteArray) (fixed : List Int) (rg : Bool) : Nat → Nat → Nat × Nat → Option (Nat × Nat)
  | 0, _, a => some a
  | r + 1, j, a => (impl_lamps.one row fixed rg j a).bind fun b => impl_lamps.outs row fixed rg r (j + 1) b
def impl_lamps.all (row : ByteArray) (fixed : List Int) (ring : Bool) : Option (Nat × Nat) := impl_lamps.outs row fixed (ring && decide ((row.size : Int) > 2)) 2 0 (0, 0)
def impl_lamps.f (a0 : ByteArray) (l1 : List Int) (a2 : Bool) : Option (Int × Int) := if (1 ≤ a0.size ∧ a0.size ≤ 1000) ∧ l1.length = a0.size then (impl_lamps.all a0 l1 a2).map fun v => ((v.1 : Int), (v.2 : Int)) else none
theorem impl_lamps.cell_set {w : World} {s : Nat} {a v : Value} {t : TypeId} (h : w.heap[s]? = some (.cells #[a] t (0, 0))) : (w.setCell ⟨s, 0, none⟩ v).heap[s]? = some (.cells #[v] t (0, 0)) := by
  simp [World.setCell, Array.getElem?_modify, h]
theorem impl_lamps.cell_free {w : World} {s : Nat} {a : Value} {t : TypeId} (h : w.heap[s]? = some (.cells #[a] t (0, 0))) (j : Nat) : w.frozen? ⟨s, j, none⟩ = false := by
  simp [World.frozen?, h]
theorem impl_lamps.w_sum (b o : Nat) (h : b ≤ 40000000000000 ∧ o ≤ 4000000000000) : wrap64 ((b : Int) + (o : Int)) = ((b + o : Nat) : Int) := by unfold wrap64; omega
theorem impl_lamps.w_zero (o : Nat) (h : o ≤ 4000000000000) : wrap64 (0 + (o : Int)) = (o : Int) := by unfold wrap64; omega
/-- The two boxes: the least number, how many. -/
def impl_lamps.Bx (w : World) (pc pf : Nat) (a : Nat × Nat) : Prop := w.heap[pc]? = some (.cells #[.int .i64 (a.2 : Int)] 3 (0, 0)) ∧ w.heap[pf]? = some (.cells #[.int .i64 (a.1 : Int)] 3 (0, 0))
theorem impl_lamps.Bx.below {w w' : World} {pc pf : Nat} {a : Nat × Nat} (h : impl_lamps.Bx w pc pf a) (hb : Below w.heap.size w w') : impl_lamps.Bx w' pc pf a :=
  ⟨(hb.block pc (Array.getElem?_eq_some_iff.1 h.1).1).trans h.1, (hb.block pf (Array.getElem?_eq_some_iff.1 h.2).1).trans h.2⟩
theorem impl_lamps.Bx.set {w : World} {pc pf : Nat} {a : Nat × Nat} (h : impl_lamps.Bx w pc pf a) (hne : pc ≠ pf) (v k : Nat) : impl_lamps.Bx (((w.setCell ⟨pf, 0, none⟩ (.int .i64 (v : Int))).setCell ⟨pc, 0, none⟩ (.int .i64 0)).setCell ⟨pc, 0, none⟩ (.int .i64 (k : Int))) pc pf (v, k) := by
  have h1 : (w.setCell ⟨pf, 0, none⟩ (.int .i64 (v : Int))).heap[pc]? = some (.cells #[.int .i64 (a.2 : Int)] 3 (0, 0)) := (Below.heap_setCell _ ⟨pf, 0, none⟩ _ _ hne).trans h.1
  exact ⟨impl_lamps.cell_set (impl_lamps.cell_set h1), (Below.heap_setCell _ ⟨pc, 0, none⟩ _ _ hne.symm).trans ((Below.heap_setCell _ ⟨pc, 0, none⟩ _ _ hne.symm).trans (impl_lamps.cell_set h.2))⟩
set_option maxHeartbeats 4000000 in
set_option maxRecDepth 100000 in
theorem impl_lamps.clo (pc pf : Nat) (hne : pc ≠ pf) (a r b : Nat × Nat) (w : World) (hb : impl_lamps.Bx w pc pf a) (h : impl_lamps.tk a r = some b) :
    Calls Try.prog 53 #[.int .i64 (r.1 : Int), .int .i64 (r.2 : Int), .pointer (some ⟨pc, 0, none⟩), .pointer (some ⟨pf, 0, none⟩)] w fun e w' => e = .returned (.tuple #[]) ∧ impl_lamps.Bx w' pc pf b ∧ ∀ B W, Below B W w → B ≤ pc → B ≤ pf → Below B W w' := by
  obtain ⟨f0, c0⟩ := a
  obtain ⟨o, m⟩ := r
  unfold impl_lamps.tk at h
  obtain ⟨⟨hm, hc⟩, h⟩ := Option.ite_none_right_eq_some.1 h
  have hm : m ≤ 4000000000000 := hm
  have hc : c0 ≤ 40000000000000 := hc
  have h := Option.some.inj h
  unfold impl_lamps.take at h
  simp only at h
  have HB := Aside0.mk hb
  have hpc : w.cell? ⟨pc, 0, none⟩ = some (.int .i64 (c0 : Int)) := cell_of_one hb.1
  have hpf : w.cell? ⟨pf, 0, none⟩ = some (.int .i64 (f0 : Int)) := cell_of_one hb.2
  have hfc : w.frozen? ⟨pc, 0, none⟩ = false := impl_lamps.cell_free hb.1 0
  have hff : w.frozen? ⟨pf, 0, none⟩ = false := impl_lamps.cell_free hb.2 0
  have hne2 : pf ≠ pc := hne.symm
  clear hb
  by_cases hm0 : m = 0
  · rw [if_pos hm0] at h
    subst h
    have p7 : ¬ (m : Int) > 0 := by omega
    have q7 : decide ((m : Int) > 0) = false := decide_eq_false p7
    clear hm0
    go_enter Try.func53, Try.ntmps53
    go_wp2
    first | refine bodyPost_end (results_none rfl _ _ _) rfl ?_ | refine bodyPost_ret (results_none rfl _ _ _) rfl ?_
    exact ⟨rfl, HB.out, fun B W hW _ _ => hW⟩
  · rw [if_neg hm0] at h
    have p7 : (m : Int) > 0 := by omega
    have q7 : decide ((m : Int) > 0) = true := decide_eq_true p7
    by_cases hlo : c0 = 0 ∨ o < f0
    · rw [if_pos hlo] at h
      subst h
      have HS := Aside0.mk (HB.out.set hne o m)
      have w0 : wrap64 (0 + (m : Int)) = (m : Int) := impl_lamps.w_zero m hm
      have w0' : IntKind.i64.wrap (0 + (m : Int)) = (m : Int) := (i64_w _).trans w0
      have w1 : wrap64 (m : Int) = (m : Int) := by rw [← w0, Int.zero_add]; rw [Int.zero_add] at w0; rw [w0, w0]
      have w1' : IntKind.i64.wrap (m : Int) = (m : Int) := (i64_w _).trans w1
      have qoo : ((o : Int) == (o : Int)) = true := by simp
      by_cases hc0 : c0 = 0
      · have p10 : (c0 : Int) = 0 := by omega
        have q10 : ((c0 : Int) == 0) = true := by rw [p10]; rfl
        clear hm0 hlo hc0
        go_enter Try.func53, Try.ntmps53
        go_wp2
        first | refine bodyPost_end (results_none rfl _ _ _) rfl ?_ | refine bodyPost_ret (results_none rfl _ _ _) rfl ?_
        exact ⟨rfl, HS.out, fun B W hW h1 h2 => ((hW.setCell (p := ⟨pf, 0, none⟩) h2 _).setCell (p := ⟨pc, 0, none⟩) h1 _).setCell (p := ⟨pc, 0, none⟩) h1 _⟩
      · have hlo : o < f0 := hlo.resolve_left hc0
        have p10 : ¬ (c0 : Int) = 0 := by omega
        have q10 : ((c0 : Int) == 0) = false := beq_eq_false_iff_ne.2 p10
        have p14 : (o : Int) < (f0 : Int) := by omega
        have q14 : decide ((o : Int) < (f0 : Int)) = true := decide_eq_true p14
        clear hm0 hlo hc0
        go_enter Try.func53, Try.ntmps53
        go_wp2
        first | refine bodyPost_end (results_none rfl _ _ _) rfl ?_ | refine bodyPost_ret (results_none rfl _ _ _) rfl ?_
        exact ⟨rfl, HS.out, fun B W hW h1 h2 => ((hW.setCell (p := ⟨pf, 0, none⟩) h2 _).setCell (p := ⟨pc, 0, none⟩) h1 _).setCell (p := ⟨pc, 0, none⟩) h1 _⟩
    · rw [if_neg hlo] at h
      have p10 : ¬ (c0 : Int) = 0 := by omega
      have q10 : ((c0 : Int) == 0) = false := beq_eq_false_iff_ne.2 p10
      have p14 : ¬ (o : Int) < (f0 : Int) := by omega
      have q14 : decide ((o : Int) < (f0 : Int)) = false := decide_eq_false p14
      by_cases he : o = f0
      · rw [if_pos he] at h
        subst he
        subst h
        obtain ⟨ks, hks⟩ : ∃ ks, ks = c0 + m := ⟨_, rfl⟩
        have w2 : wrap64 ((c0 : Int) + (m : Int)) = (ks : Int) := by rw [hks]; exact impl_lamps.w_sum c0 m ⟨hc, hm⟩
        have w2' : IntKind.i64.wrap ((c0 : Int) + (m : Int)) = (ks : Int) := (i64_w _).trans w2
        have qoo : ((o : Int) == (o : Int)) = true := by simp
        have HS := Aside0.mk (show impl_lamps.Bx (w.setCell ⟨pc, 0, none⟩ (.int .i64 (ks : Int))) pc pf (o, c0 + m) from by
          rw [← hks]
          exact ⟨impl_lamps.cell_set HB.out.1, (Below.heap_setCell _ ⟨pc, 0, none⟩ _ _ hne.symm).trans HB.out.2⟩)
        clear hm0 hlo hks
        go_enter Try.func53, Try.ntmps53
        go_wp2
        first | refine bodyPost_end (results_none rfl _ _ _) rfl ?_ | refine bodyPost_ret (results_none rfl _ _ _) rfl ?_
        exact ⟨rfl, HS.out, fun B W hW h1 h2 => hW.setCell (p := ⟨pc, 0, none⟩) h1 _⟩
      · rw [if_neg he] at h
        subst h
        have p23 : ¬ (o : Int) = (f0 : Int) := by omega
        have q23 : ((o : Int) == (f0 : Int)) = false := beq_eq_false_iff_ne.2 p23
        clear hm0 hlo he
        go_enter Try.func53, Try.ntmps53
        go_wp2
        first | refine bodyPost_end (results_none rfl _ _ _) rfl ?_ | refine bodyPost_ret (results_none rfl _ _ _) rfl ?_
        exact ⟨rfl, HB.out, fun B W hW _ _ => hW⟩
set_option maxHeartbeats 8000000 in
set_option maxRecDepth 100000 in
theorem impl_lamps.walk (row : ByteArray) (A : Option Addr) (c : Nat) (fixed : List Int) (ring : Bool) (w : World) (hz : 1 ≤ row.size ∧ row.size ≤ 1000) (hl : fixed.length = row.size) (hr : Kd.C (Kd.int .i64) w A fixed.length fixed) (hc : fixed.length ≤ c) (v : Nat × Nat) (h : impl_lamps.all row fixed ring = some v) :
    Calls Try.prog 34 #[.string row, .slice A fixed.length c, .bool ring] w fun e w' => e = .returned (.tuple #[.int .i64 (v.1 : Int), .int .i64 (v.2 : Int)]) ∧ Below w.heap.size w w' := by
  obtain ⟨rg, hrg⟩ : ∃ rg, rg = (ring && decide ((row.size : Int) > 2)) := ⟨_, rfl⟩
  unfold impl_lamps.all at h
  rw [← hrg] at h
  have HH := Aside0.mk h
  have HRG := Aside0.mk (show impl_isRing.f (row.size : Int) ring = some rg by
    rw [hrg]
    unfold impl_isRing.f
    cases ring <;> simp)
  have HRL := Aside0.mk (show ∀ W : World, Below w.heap.size w W → ∀ (j l : Nat), j < 2 → l < 2 → ∀ (be la : Int) (u : Nat × Nat), impl_lamps.val row fixed j l be la = some u → Calls Try.prog 54 #[.string row, .slice A fixed.length c, .int .i64 (j : Int), .int .i64 (l : Int), .int .i64 be, .int .i64 la] W (fun e w' => e = .returned (.tuple #[.int .i64 (u.1 : Int), .int .i64 (u.2 : Int)]) ∧ Below W.heap.size W w') from fun W hW j l hj hl2 be la u hu =>
    impl_rowLamps.walk row A c fixed j l be la W ⟨hz, hl, hj, hl2⟩ (Kd.C_below hr hW) hc u hu)
  have hmf : ∀ (fn : Fn) (first cap : Array Value) (w : World), (Instr.makeFunc fn first cap).run Try.prog w = .ok (.func fn first cap) w := fun _ _ _ _ => rfl
  clear hr h hrg hc hz hl
  generalize fixed.length = fl at HRL ⊢
  go_enter Try.func34, Try.ntmps34
  go_wp2
  obtain ⟨w2, hw2⟩ : ∃ w2 : World, w2 = (w.alloc (.cells #[.int .i64 0] 3)).alloc (.cells #[.int .i64 0] 3) := ⟨_, rfl⟩
  have hb2 : Below w.heap.size w w2 := by rw [hw2]; exact impl_rowLamps.below_two _ _ _
  have hx2 : impl_lamps.Bx w2 (w.heap.size + 1) w.heap.size (0, 0) := by rw [hw2]; exact ⟨impl_rowLamps.new_two _ _ _ _ _, impl_rowLamps.new_one _ _ _ _ _⟩
  obtain ⟨pf, hpf⟩ : ∃ pf, pf = w.heap.size := ⟨_, rfl⟩
  obtain ⟨pc, hpc⟩ : ∃ pc, pc = w.heap.size + 1 := ⟨_, rfl⟩
  rw [← hpc, ← hpf] at hx2
  have HP := Aside0.mk (show w.heap.size ≤ pc ∧ w.heap.size ≤ pf ∧ pc ≠ pf from by omega)
  have HB2 := Aside0.mk hb2
  have HX2 := Aside0.mk hx2
  try rw [← hw2]
  try rw [← hpc]
  try rw [← hpf]
  have HCL := Aside0.mk (fun (a r b : Nat × Nat) (W : World) (hx : impl_lamps.Bx W pc pf a) (ht : impl_lamps.tk a r = some b) => impl_lamps.clo pc pf HP.out.2.2 a r b W hx ht)
  clear hw2 hb2 hx2 hpf hpc hmf
  go_loopw [14] (fun jv wr => ∃ (j : Nat) (a : Nat × Nat), jv = .int .i64 j ∧ j ≤ 2 ∧ Aside0 (impl_lamps.outs row fixed rg (2 - j) j a = some v) ∧ Aside0 (impl_lamps.Bx wr pc pf a) ∧ Aside0 (Below w.heap.size w wr)) (fun jv _ => 2 - (intOf jv).toNat)
  case atStart => exact ⟨0, (0, 0), rfl, by omega, HH, HX2, HB2⟩
  case round =>
    clear HH HX2 HB2
    obtain ⟨j, a, rfl, hj, HO, HX, HB⟩ := hrel
    by_cases hj2 : j < 2
    · have hd : decide ((j : Int) < 2) = true := decide_eq_true (by omega)
      have hdp : (j : Int) < 2 := by omega
      have ho := HO.out
      rw [show 2 - j = (2 - (j + 1)) + 1 by omega] at ho
      simp only [impl_lamps.outs] at ho
      obtain ⟨b, h1, h2⟩ := Option.bind_eq_some_iff.1 ho
      have HO2 := Aside0.mk h2
      have HJ := Aside0.mk hj2
      clear ho h2 HO
      unfold impl_lamps.one at h1
      cases rg with
      | false =>
        rw [if_neg (by simp)] at h1
        obtain ⟨u, hu, ht⟩ := Option.bind_eq_some_iff.1 h1
        have HU := Aside0.mk hu
        have HT := Aside0.mk ht
        clear h1 hu ht
        go_wp2_with (first | (go_at_call 40; refine (impl_isRing.calls _ _ false _ HRG.out).mono ?_; rintro e w3 ⟨rfl, ⟨nd, rfl⟩⟩) | (go_at_call 54; refine (HRL.out _ (pw_below_drewN HB.out _) j 0 HJ.out (by omega) 0 (-1) u HU.out).mono ?_; rintro e w3 ⟨rfl, hb3⟩; have HX3 := Aside0.mk ((HX.out.below (pw_below_drewN (Below.refl _ _) _)).below hb3); have HB3 := Aside0.mk (below_then (pw_below_drewN HB.out _) (pw_below_drewN HB.out _).size hb3); clear hb3) | (go_at_call 53; refine (HCL.out a u b _ HX3.out HT.out).mono ?_; rintro e w4 ⟨rfl, hx4, hb4⟩; have HX4 := Aside0.mk hx4; have HB4 := Aside0.mk (hb4 _ _ HB3.out HP.out.1 HP.out.2.1); clear hx4 hb4))
        go_roundw
        case rel => exact ⟨j + 1, b, by go_num, by omega, HO2, HX4, HB4⟩
        case measure => simp [intOf]; omega
      | true =>
        rw [if_pos rfl] at h1
        have HI := Aside0.mk (show impl_lamps.ins row fixed j (2 - 0) 0 a = some b from h1)
        clear h1
        go_wp2_with (go_at_call 40; refine (impl_isRing.calls _ _ true _ HRG.out).mono ?_; rintro e w3 ⟨rfl, ⟨nd, rfl⟩⟩; have HX3 := Aside0.mk (HX.out.below (pw_below_drewN (Below.refl _ _) nd)); have HB3 := Aside0.mk (pw_below_drewN HB.out nd))
        go_loopw [30] (fun lv wq => ∃ (l : Nat) (a : Nat × Nat), lv = .int .i64 l ∧ l ≤ 2 ∧ Aside0 (impl_lamps.ins row fixed j (2 - l) l a = some b) ∧ Aside0 (impl_lamps.Bx wq pc pf a) ∧ Aside0 (Below w.heap.size w wq)) (fun lv _ => 2 - (intOf lv).toNat)
        case atStart => exact ⟨0, a, rfl, by omega, HI, HX3, HB3⟩
        case round =>
          clear HI HX HB HX3 HB3
          clear a
          obtain ⟨l, a, rfl, hl, HI, HX, HB⟩ := hrel
          by_cases hl2 : l < 2
          · have hd2 : decide ((l : Int) < 2) = true := decide_eq_true (by omega)
            have hdp2 : (l : Int) < 2 := by omega
            have hi := HI.out
            rw [show 2 - l = (2 - (l + 1)) + 1 by omega] at hi
            simp only [impl_lamps.ins] at hi
            obtain ⟨b2, h1, h2⟩ := Option.bind_eq_some_iff.1 hi
            obtain ⟨u, hu, ht⟩ := Option.bind_eq_some_iff.1 h1
            have HU := Aside0.mk hu
            have HT := Aside0.mk ht
            have HI2 := Aside0.mk h2
            have HL := Aside0.mk hl2
            clear hi h1 h2 hu ht HI
            go_wp2_with (first | (go_at_call 54; refine (HRL.out _ HB.out j l HJ.out HL.out (j : Int) (l : Int) u HU.out).mono ?_; rintro e w3 ⟨rfl, hb3⟩; have HX3 := Aside0.mk (HX.out.below hb3); have HB3 := Aside0.mk (below_then HB.out HB.out.size hb3); clear hb3) | (go_at_call 53; refine (HCL.out a u b2 _ HX3.out HT.out).mono ?_; rintro e w4 ⟨rfl, hx4, hb4⟩; have HX4 := Aside0.mk hx4; have HB4 := Aside0.mk (hb4 _ _ HB3.out HP.out.1 HP.out.2.1); clear hx4 hb4))
            go_roundw
            case rel => exact ⟨l + 1, b2, by go_num, by omega, HI2, HX4, HB4⟩
            case measure => simp [intOf]; omega
          · obtain rfl : l = 2 := by omega
            have hab : a = b := Option.some.inj HI.out
            have HAB := Aside0.mk hab
            clear hab hl hl2
            go_wp2
            go_roundw
            case rel => exact ⟨j + 1, b, by go_num, by omega, HO2, ⟨by rw [← HAB.out]; exact HX.out⟩, HB⟩
            case measure => simp [intOf]; omega
    · obtain rfl : j = 2 := by omega
      have hav : a = v := Option.some.inj HO.out
      subst hav
      have hpc : wr.cell? ⟨pc, 0, none⟩ = some (.int .i64 (a.2 : Int)) := cell_of_one HX.out.1
      have hpf : wr.cell? ⟨pf, 0, none⟩ = some (.int .i64 (a.1 : Int)) := cell_of_one HX.out.2
      clear hj hj2
      go_wp2
      go_quiet (fail)
      go_wp2
      go_ret2
      exact ⟨rfl, pw_below_drewN HB.out _⟩
theorem impl_lamps.calls (a0 : ByteArray) (A1 : Option Addr) (c1 : Nat) (l1 : List Int) (a2 : Bool) (r1 r2 : Int) (w : World) (hr1 : Kd.C (Kd.int .i64) w A1 l1.length l1) (hc1 : l1.length ≤ c1) (h : impl_lamps.f a0 l1 a2 = some (r1, r2)) :
    Calls Try.prog 34 #[.string a0, .slice A1 l1.length c1, .bool a2] w fun e w' => e = .returned (.tuple #[.int .i64 r1, .int .i64 r2]) ∧ Below w.heap.size w w' := by
  unfold impl_lamps.f at h
  obtain ⟨⟨hz, hl⟩, h⟩ := Option.ite_none_right_eq_some.1 h
  obtain ⟨v, hv, e⟩ := Option.map_eq_some_iff.1 h
  obtain ⟨rfl, rfl⟩ := Prod.mk.inj e
  exact impl_lamps.walk a0 A1 c1 l1 a2 w hz hl hr1 hc1 v hv

/-! ### slices_Repeat_int_int: function 55 (a contract of this repo) -/
/-- The first cells of a row of so many hold a number. -/
def slices_Repeat_int_int.Row (w : World) (g n k : Nat) (x : Int) : Prop := ∃ cur : Array Value, w.heap[g]? = some (.cells cur 3 (0, 0)) ∧ cur.size = n ∧ ∀ j, j < k → cur[j]? = some (.int .i64 x)
theorem slices_Repeat_int_int.copy (w : World) (g n k m : Nat) (x : Int) (a : Addr) (sl sc : Nat) (dc : Nat) (hk : k + m ≤ n) (hm : m = Nat.min sl (n - k)) (hR : slices_Repeat_int_int.Row w g n k x) (hs : ∀ j, j < m → w.cell? (a.add j) = some (.int .i64 x)) :
    ∃ w', (Builtin.copy_ #[24, 24] 3 #[.slice (some ⟨g, k, none⟩) (n - k) dc, .slice (some a) sl sc]).run Try.prog w = .ok (.int .i64 m) w' ∧ slices_Repeat_int_int.Row w' g n (k + m) x ∧ (∀ B, B ≤ g → Below B w w') := by
  obtain ⟨cur, hg, hn, hc⟩ := hR
  have hinfo : (Try.prog.info? 3).map (·.size) = some 1 := by
    have := info3
    cases h : Try.prog.info? 3 with
    | none => rw [h] at this; simp at this
    | some i => rw [h] at this; simp at this; simp [this.2.1]
  have h := run_copy_row (P := Try.prog) w 24 24 3 3 g k (n - k) dc a sl sc cur 3 (List.replicate m (.int .i64 x)) Try.underlying24 hinfo hg (by simpa using hm) (fun j v hj => by
    have hjm : j < m := by have := (List.getElem?_eq_some_iff.1 hj).1; simpa using this
    rw [hs j hjm]
    rw [List.getElem?_replicate, if_pos hjm] at hj
    exact hj) (by simp; omega) (fun v hv => by rw [List.eq_of_mem_replicate hv]; rfl)
  rw [List.length_replicate] at h
  refine ⟨_, h, ⟨_, setRow_heap w g cur _ 3 _ hg, ?_, fun j hj => ?_⟩, fun B hB => ?_⟩
  · simp; omega
  · simp only [List.getElem?_toArray]
    by_cases c : j < k
    · rw [List.append_assoc, List.getElem?_append_left (by simp; omega), List.getElem?_take, if_pos c]
      simpa using hc j c
    · rw [List.append_assoc, List.getElem?_append_right (by simp; omega), List.getElem?_append_left (by simp; omega), List.getElem?_replicate, if_pos (by simp; omega)]
  · exact below_setRow (Below.refl _ _) hB _
set_option maxHeartbeats 4000000 in
set_option maxRecDepth 100000 in
theorem slices_Repeat_int_int.one (A : Option Addr) (c : Nat) (x : Int) (n : Nat) (hn : 1 ≤ n ∧ n ≤ 1048576) (w : World) (hr : Kd.C (Kd.int .i64) w A 1 [x]) :
    Calls Try.prog 55 #[.slice A 1 c, .int .i64 n] w fun e w' => e = .returned (.slice (some ⟨w.heap.size, 0, none⟩) n n) ∧ slices_Repeat_int_int.Row w' w.heap.size n n x ∧ Below w.heap.size w w' := by
  have hneg : decide ((n : Int) < 0) = false := decide_eq_false (by omega)
  obtain ⟨ad, hA, hx⟩ := Kd.at_int hr 0 (by omega) (by omega)
  rw [show (0 : Int).toNat = 0 from rfl, Addr.add_zero', show rd [x] 0 = x from rfl] at hx
  subst hA
  clear hr
  obtain ⟨i0, hi, hz0, hz1, hz2⟩ := info_parts info3
  have hmk := run_makeSlice (P := Try.prog) (w := w) 24 3 i0 (.int .i64 0) Try.underlying24 hi hz0 .i64 .i64 (n : Int) (n : Int) (by omega) (Int.le_refl _) (by rw [hz1]; omega) (by rw [hz2]; omega) (by omega)
  rw [Int.toNat_natCast, hz1, Nat.mul_one] at hmk
  obtain ⟨w1, hw1⟩ : ∃ w1 : World, w1 = w.alloc (.cells (madeCells (Value.int .i64 0).cells n) 3) := ⟨_, rfl⟩
  rw [← hw1] at hmk
  have hR1 : slices_Repeat_int_int.Row w1 w.heap.size n 0 x := by
    rw [hw1]
    exact ⟨_, heap_alloc_new _ _, by rw [size_madeCells], fun j hj => by omega⟩
  have hB1 : Below w.heap.size w w1 := by rw [hw1]; exact below_alloc (Below.refl _ _) _
  have hx1 : w1.cell? ad = some (.int .i64 x) := (hB1.cell (World.block_lt_of_cell? _ _ hx)).trans hx
  obtain ⟨w2, hcp, hR2, hB2⟩ := slices_Repeat_int_int.copy w1 w.heap.size n 0 1 x ad 1 c n (by omega) (Nat.min_eq_left (by omega)).symm hR1 (fun j hj => by
    obtain rfl : j = 0 := by omega
    rw [Addr.add_zero']; exact hx1)
  rw [Nat.sub_zero] at hcp
  have HB := Aside0.mk (hB1.trans (hB2 _ (Nat.le_refl _)))
  have HR := Aside0.mk hR2
  clear hR1 hB1 hx1 hR2 hB2 hx hw1 hi hz0 hz1 hz2
  go_enter Try.func55, Try.ntmps55
  go_wp2_with (go_at_call 58; refine (Try.bits_Mul 1 n (by omega) (by omega) _).mono ?_; rintro e w' ⟨rfl, hw⟩; cases hw.symm; rw [Nat.one_mul, Nat.div_eq_of_lt (by omega), Nat.mod_eq_of_lt (by omega)])
  clear hcp hmk
  rw [Nat.zero_add] at HR
  go_loopw [8] (fun k wr => ∃ q : Nat, 1 ≤ q ∧ q ≤ n ∧ k = .int .i64 q ∧ Aside0 (slices_Repeat_int_int.Row wr w.heap.size n q x) ∧ Aside0 (Below w.heap.size w wr)) (fun k _ => n - (intOf k).toNat)
  case atStart => exact ⟨1, by omega, by omega, rfl, HR, HB⟩
  case round =>
    clear HR HB
    obtain ⟨q, q1, qn, rfl, HR, HB⟩ := hrel
    by_cases hlt : q < n
    · obtain ⟨w2, hw2⟩ : ∃ w2 : World, wr.drew = w2 := ⟨_, rfl⟩
      have hR2 : slices_Repeat_int_int.Row w2 w.heap.size n q x := by rw [← hw2]; exact HR.out
      have hB2 : Below w.heap.size w w2 := by rw [← hw2]; exact below_drew1 HB.out
      obtain ⟨w3, hcp, hR3, hB3⟩ := slices_Repeat_int_int.copy w2 w.heap.size n q (Nat.min q (n - q)) x ⟨w.heap.size, 0, none⟩ q n (n - q) (by have h : Nat.min q (n - q) ≤ n - q := Nat.min_le_right q (n - q); omega) rfl hR2 (fun j hj => by
        obtain ⟨cur, h1, h2, h3⟩ := hR2
        have hjq : j < q := Nat.lt_of_lt_of_le hj (Nat.min_le_left _ _)
        rw [Addr.add_lit]
        simp only [World.cell?, h1]
        simpa using h3 j hjq)
      have HR3 := Aside0.mk hR3
      have HB3 := Aside0.mk (hB2.trans (hB3 _ (Nat.le_refl _)))
      have HM := Aside0.mk (show 1 ≤ Nat.min q (n - q) ∧ q + Nat.min q (n - q) ≤ n by
        have h : Nat.min q (n - q) ≤ n - q := Nat.min_le_right q (n - q)
        exact ⟨Nat.le_min.2 ⟨q1, by omega⟩, by omega⟩)
      have HCP := Aside0.mk hcp
      generalize Nat.min q (n - q) = m at HCP HR3 HM
      clear hcp hR3 hB3 hR2 hB2 HR HB
      have hcp1 := HCP.out
      rw [← hw2] at hcp1
      have hcp2 : (Builtin.copy_ #[24, 24] 3 #[.slice (if n = q then some ⟨w.heap.size, 0, none⟩ else some ⟨w.heap.size, q, none⟩) (n - q) (n - q), .slice (some ⟨w.heap.size, 0, none⟩) q n]).run Try.prog wr.drew = .ok (.int .i64 m) w3 := by rw [if_neg (by omega)]; exact hcp1
      clear hw2
      have hm := HM.out
      go_wp2
      go_region
      all_goals go_wp2
      go_roundw
      case rel => exact ⟨q + m, by omega, by omega, by go_num, HR3, HB3⟩
      case measure => simp [intOf]; omega
    · obtain rfl : q = n := by omega
      clear hlt
      go_wp2
      go_ret
      exact ⟨rfl, HR.out, HB.out⟩
/-- At one number, and a count of no less than 1. -/
def slices_Repeat_int_int.f (l0 : List Int) (a1 : Int) : Option (List Int) := if l0.length = 1 ∧ 1 ≤ a1 ∧ a1 ≤ 1048576 then some (List.replicate a1.toNat (rd l0 0)) else none
theorem slices_Repeat_int_int.calls (A0 : Option Addr) (c0 : Nat) (l0 : List Int) (a1 : Int) (r : List Int) (w : World) (hr0 : Kd.C (Kd.int .i64) w A0 l0.length l0) (hc0 : l0.length ≤ c0) (h : slices_Repeat_int_int.f l0 a1 = some r) :
    Calls Try.prog 55 #[.slice A0 l0.length c0, .int .i64 a1] w fun e w' => ∃ v0_ : Value, e = .returned (v0_) ∧ Kd.R (Kd.int .i64) 3 w' w.heap.size (fun _ => True) v0_ r ∧ Below w.heap.size w w' := by
  unfold slices_Repeat_int_int.f at h
  split at h
  · rename_i c
    obtain rfl := Option.some.inj h
    obtain ⟨n, rfl⟩ := Int.eq_ofNat_of_zero_le (show 0 ≤ a1 by omega)
    match l0, c.1 with
    | [x], _ =>
      refine (slices_Repeat_int_int.one A0 c0 x n (by omega) w hr0).mono ?_
      rintro e w' ⟨rfl, ⟨cur, h1, h2, h3⟩, hb⟩
      refine ⟨_, rfl, ?_, hb⟩
      have henc : encs (Value.int .i64) (List.replicate n (rd [x] 0)) = List.replicate n (Value.int .i64 x) := by simp [encs, rd]
      rw [Int.toNat_natCast]
      refine Kd.R_of_own (enc := Value.int .i64) ?_ (fun _ _ => trivial)
      rw [henc]
      refine ⟨by simp, .inr ⟨w.heap.size, n, cur, by simp, Nat.le_refl _, h1, by simp, by simp [maxLen]; omega, by omega, ?_⟩⟩
      refine List.ext_getElem? (fun j => ?_)
      by_cases hj : j < n
      · rw [List.getElem?_take, if_pos (by simp; omega)]
        have z := h3 j hj
        rw [← Array.getElem?_toList] at z
        rw [z]
        simp [hj, rd]
      · rw [List.getElem?_eq_none (by simp; omega), List.getElem?_eq_none (by simp; omega)]
  · cases h

/-! ### impl_free: function 35 -/
def impl_free.f (a0 : ByteArray) : Option (List Int) := (slices_Repeat_int_int.f (([(-1)] : List Int)) (a0.size : Int)).bind fun t161 => (some t161)
set_option maxHeartbeats 8000000 in
set_option maxRecDepth 100000 in
theorem impl_free.calls (a0 : ByteArray) (r : List Int) (w : World) (h : impl_free.f a0 = some r) :
    Calls Try.prog 35 #[.string a0] w fun e w' => ∃ v0_ : Value, e = .returned (v0_) ∧ Kd.R (Kd.int .i64) 3 w' w.heap.size (fun _ => True) v0_ r ∧ Below w.heap.size w w' := by
  have HB := Aside0.mk (Below.refl w.heap.size w)
  have H : ((slices_Repeat_int_int.f (([(-1)] : List Int)) (a0.size : Int)).bind fun t161 => (some t161)) = some r := h
  clear h
  obtain ⟨y158, hy158⟩ : ∃ y_ : List Int, y_ = (([(-1)] : List Int)) := ⟨_, rfl⟩
  replace H : ((slices_Repeat_int_int.f y158 (a0.size : Int)).bind fun t161 => (some t161)) = some r := by first | (rw [hy158]; with_reducible exact H) | (have H2_ := (Option.bind_some _ _).symm.trans H; rw [hy158]; with_reducible exact H2_) | (have H2_ := (Option.bind_some _ _).symm.trans H; with_reducible exact H2_) | with_reducible exact H | (rw [hy158]; exact H) | exact H
  have Ny158 := Aside0.mk hy158
  clear hy158
  replace H := Option.bind_eq_some_iff.mp H
  obtain ⟨t161, A20, H⟩ := H
  replace H : (some t161) = some r := H
  have A2 := Aside0.mk A20
  clear A20
  obtain rfl := Option.some.inj H
  go_enter Try.func35, Try.ntmps35
  go_wp2_with (first | ((with_reducible refine gate_dst (N := 3) rfl ?_); refine Kd.R_lit (Kd.int .i64) _ 3 ?hg (N := 3) ?hd (xs := ([(-1)] : List Int)) (inner := [.int .i64 (-1)]) (ok := fun _ => True) (okp := fun _ => True) ?hr ?hp (fun _ hk => hk) trivial (Below.refl _ _) (Nat.le_refl _) (by simp) ?_; (case hd => rfl); (case hg => rfl); (case hr => first | (go_simp; done) | (go_simp; rfl)); (case hp => exact (Reps.one (show Kd.M (Kd.int .i64) _ _ _ (-1) [.int .i64 (-1)] from rfl) (Reps.none _ _))); intro v159 w3 ho4 hb hg_ hnew_; clear hg_ hnew_; (first | rw [← Ny158.out] at ho4 | (simp only [Int.reduceToNat] at ho4; rw [← Ny158.out] at ho4)); have n0_ := Aside0.mk (Kd.R_lower ho4 (below_size (by repeat (first | (with_reducible first | exact HB.out | apply below_alloc | apply pw_below_drewN | apply below_drew1) | exact HB.out)))); have n1_ := Aside0.mk (below_step (by repeat (first | (with_reducible first | exact HB.out | apply below_alloc | apply pw_below_drewN | apply below_drew1) | exact HB.out)) hb); clear HB; have HO160 := n0_; have HB := n1_; clear n0_ n1_; clear hb ho4; obtain ⟨Ao5, co5, eo5⟩ := Kd.R_slice HO160.out; subst eo5) | ((with_reducible refine gate_callee (f := 55) rfl ?_); refine goesL_ (some 6) rfl rfl Try.func55 (by kernel_rfl) rfl #[.slice Ao5 y158.length co5, .int .i64 (a0.size : Int)] rfl (by (try simp only [List.map_toArray, List.map_cons, List.map_nil]); first | done | rfl | (simp only [List.length_drop, List.length_take]; rfl)) ?_; (with_reducible refine (slices_Repeat_int_int.calls _ _ y158 (a0.size : Int) t161 _ ?side1 ?side2 A2.out).mono ?_); (case side1 => repeat (first | exact (Kd.R_reads' HO160.out).2.2 | (with_reducible refine Kd.C_alloc ?_ _) | (with_reducible refine Kd.C_drewN ?_ _) | (with_reducible refine Kd.C_drew ?_))); (case side2 => exact (Kd.R_reads' HO160.out).2.1); rintro e w6 ⟨v162, rfl, ho0, hb⟩; refine ⟨_, rfl, ?_⟩; have n0_ := Aside0.mk (Kd.R_elder' (by (with_reducible repeat (first | apply Kd.R_alloc | apply Kd.R_drewN | apply Kd.R_drew)); exact HO160.out) (Kd.R_base ho0) hb); have n1_ := Aside0.mk (Kd.R_lower (Kd.R_new' ho0 (Kd.R_lt (by (with_reducible repeat (first | apply Kd.R_alloc | apply Kd.R_drewN | apply Kd.R_drew)); exact HO160.out))) (below_size (by repeat (first | (with_reducible first | exact HB.out | apply below_alloc | apply pw_below_drewN | apply below_drew1) | exact HB.out)))); have n2_ := Aside0.mk (below_step (by repeat (first | (with_reducible first | exact HB.out | apply below_alloc | apply pw_below_drewN | apply below_drew1) | exact HB.out)) hb); clear HO160; clear HB; have HO160 := n0_; have HO163 := n1_; have HB := n2_; clear n0_ n1_ n2_; (try clear hb); (try clear hb2); (try clear hk); (try clear hi); (try clear ho0)))
  go_ret
  exact ⟨_, by first | rfl | (simp [errW_none, errW_some] <;> rfl) | (simp [*, errW_none, errW_some] <;> rfl), by (with_reducible repeat (first | apply Kd.R_alloc | apply Kd.R_drewN | apply Kd.R_drew)); exact Kd.R_mono HO163.out (fun _ hk => trivial), by repeat (first | (with_reducible first | exact HB.out | apply below_alloc | apply pw_below_drewN | apply below_drew1) | exact HB.out)⟩

/-! ### impl_CountLamps: function 18 -/
def impl_CountLamps.f (k : Nat) (a0 : ByteArray) (a1 : Bool) : Option (Int × Bool) := (impl_IsLitRow.f k a0).bind fun t164 => (if t164 = true then ((impl_free.f a0).bind fun t165 => ((impl_lamps.f a0 t165 a1).bind fun bt168 => (some (bt168.2, true)))) else (some (0, false)))
theorem impl_CountLamps.mono : ∀ a0 a1 k, LeO (impl_CountLamps.f k a0 a1) (impl_CountLamps.f (k + 1) a0 a1) := by
  intro a0 a1 k
  unfold impl_CountLamps.f
  repeat' first
      | (with_reducible exact impl_IsLitRow.mono _ _)
      | (with_reducible exact LeO.refl _)
      | (with_reducible exact LeO.none _)
      | (with_reducible refine LeO.ite ?_ ?_)
      | (with_reducible refine LeO.bind ?_ (fun _ => ?_))
      | exact impl_IsLitRow.mono _ _
      | exact LeO.none _
      | refine LeO.ite ?_ ?_
      | refine LeO.bind ?_ (fun _ => ?_)
set_option maxHeartbeats 8000000 in
set_option maxRecDepth 100000 in
theorem impl_CountLamps.calls (k : Nat) (a0 : ByteArray) (a1 : Bool) (r1 : Int) (r2 : Bool) (w : World) (h : impl_CountLamps.f k a0 a1 = some (r1, r2)) :
    Calls Try.prog 18 #[.string a0, .bool a1] w fun e w' => e = .returned (.tuple #[.int .i64 r1, .bool r2]) ∧ Below w.heap.size w w' := by
  have HB := Aside0.mk (Below.refl w.heap.size w)
  have H : ((impl_IsLitRow.f k a0).bind fun t164 => (if t164 = true then ((impl_free.f a0).bind fun t165 => ((impl_lamps.f a0 t165 a1).bind fun bt168 => (some (bt168.2, true)))) else (some (0, false)))) = some (r1, r2) := h
  clear h
  replace H := Option.bind_eq_some_iff.mp H
  obtain ⟨t164, A30, H⟩ := H
  replace H : (if t164 = true then ((impl_free.f a0).bind fun t165 => ((impl_lamps.f a0 t165 a1).bind fun bt168 => (some (bt168.2, true)))) else (some (0, false))) = some (r1, r2) := H
  have A3 := Aside0.mk A30
  clear A30
  by_cases c4 : t164 = true
  · subst c4
    have H1 : ((impl_free.f a0).bind fun t165 => ((impl_lamps.f a0 t165 a1).bind fun bt168 => (some (bt168.2, true)))) = some (r1, r2) := by rw [if_pos rfl] at H; exact H
    clear H
    have H := H1
    clear H1
    replace H := Option.bind_eq_some_iff.mp H
    obtain ⟨t165, A50, H⟩ := H
    replace H : ((impl_lamps.f a0 t165 a1).bind fun bt168 => (some (bt168.2, true))) = some (r1, r2) := H
    have A5 := Aside0.mk A50
    clear A50
    replace H := Option.bind_eq_some_iff.mp H
    obtain ⟨⟨t168, t169⟩, A60, H⟩ := H
    replace H : (some (t169, true)) = some (r1, r2) := H
    have A6 := Aside0.mk A60
    clear A60
    simp only [Option.some.injEq, Prod.mk.injEq] at H
    obtain ⟨rfl, rfl⟩ := H
    go_enter Try.func18, Try.ntmps18
    go_wp2_with (first | ((with_reducible refine gate_callee (f := 33) rfl ?_); refine goesL_ (some 9) rfl rfl Try.func33 (by kernel_rfl) rfl #[.string a0] rfl (by (try simp only [List.map_toArray, List.map_cons, List.map_nil]); first | done | rfl | (simp only [List.length_drop, List.length_take]; rfl)) ?_; (with_reducible refine (impl_IsLitRow.calls k a0 true _ A3.out).mono ?_); rintro e w' ⟨rfl, ⟨nd, rfl⟩⟩; refine ⟨_, rfl, ?_⟩) | ((with_reducible refine gate_callee (f := 35) rfl ?_); refine goesL_ (some 14) rfl rfl Try.func35 (by kernel_rfl) rfl #[.string a0] rfl (by (try simp only [List.map_toArray, List.map_cons, List.map_nil]); first | done | rfl | (simp only [List.length_drop, List.length_take]; rfl)) ?_; (with_reducible refine (impl_free.calls a0 t165 _ A5.out).mono ?_); rintro e w7 ⟨v166, rfl, ho0, hb⟩; refine ⟨_, rfl, ?_⟩; have n0_ := Aside0.mk (Kd.R_lower ho0 (below_size (by repeat (first | (with_reducible first | exact HB.out | apply below_alloc | apply pw_below_drewN | apply below_drew1) | exact HB.out)))); have n1_ := Aside0.mk (below_step (by repeat (first | (with_reducible first | exact HB.out | apply below_alloc | apply pw_below_drewN | apply below_drew1) | exact HB.out)) hb); clear HB; have HO167 := n0_; have HB := n1_; clear n0_ n1_; (try clear hb); (try clear hb2); (try clear hk); (try clear hi); (try clear ho0); obtain ⟨Ao8, co8, eo8⟩ := Kd.R_slice HO167.out; subst eo8) | ((with_reducible refine gate_callee (f := 34) rfl ?_); refine goesL_ (some 16) rfl rfl Try.func34 (by kernel_rfl) rfl #[.string a0, .slice Ao8 t165.length co8, .bool a1] rfl (by (try simp only [List.map_toArray, List.map_cons, List.map_nil]); first | done | rfl | (simp only [List.length_drop, List.length_take]; rfl)) ?_; (with_reducible refine (impl_lamps.calls a0 _ _ t165 a1 t168 t169 _ ?side1 ?side2 A6.out).mono ?_); (case side1 => repeat (first | exact (Kd.R_reads' HO167.out).2.2 | (with_reducible refine Kd.C_alloc ?_ _) | (with_reducible refine Kd.C_drewN ?_ _) | (with_reducible refine Kd.C_drew ?_))); (case side2 => exact (Kd.R_reads' HO167.out).2.1); rintro e w9 ⟨rfl, hb⟩; refine ⟨_, rfl, ?_⟩; have n0_ := Aside0.mk (Kd.R_below (by (with_reducible repeat (first | apply Kd.R_alloc | apply Kd.R_drewN | apply Kd.R_drew)); exact HO167.out) hb); have n1_ := Aside0.mk (below_step (by repeat (first | (with_reducible first | exact HB.out | apply below_alloc | apply pw_below_drewN | apply below_drew1) | exact HB.out)) hb); clear HO167; clear HB; have HO167 := n0_; have HB := n1_; clear n0_ n1_; (try clear hb); (try clear hb2); (try clear hk); (try clear hi)))
    go_ret2
    exact ⟨by first | rfl | (simp [errW_none, errW_some] <;> rfl) | (simp [*, errW_none, errW_some] <;> rfl), by repeat (first | (with_reducible first | exact HB.out | apply below_alloc | apply pw_below_drewN | apply below_drew1) | exact HB.out)⟩
  · replace c4 := Bool.eq_false_iff.mpr c4
    subst c4
    have H1 : (some (0, false)) = some (r1, r2) := by rw [if_neg (show ¬ (false = true) by decide)] at H; exact H
    clear H
    have H := H1
    clear H1
    simp only [Option.some.injEq, Prod.mk.injEq] at H
    obtain ⟨rfl, rfl⟩ := H
    go_enter Try.func18, Try.ntmps18
    go_wp2_with (first | ((with_reducible refine gate_callee (f := 33) rfl ?_); refine goesL_ (some 9) rfl rfl Try.func33 (by kernel_rfl) rfl #[.string a0] rfl (by (try simp only [List.map_toArray, List.map_cons, List.map_nil]); first | done | rfl | (simp only [List.length_drop, List.length_take]; rfl)) ?_; (with_reducible refine (impl_IsLitRow.calls k a0 false _ A3.out).mono ?_); rintro e w' ⟨rfl, ⟨nd, rfl⟩⟩; refine ⟨_, rfl, ?_⟩))
    go_ret2
    exact ⟨by first | rfl | (simp [errW_none, errW_some] <;> rfl) | (simp [*, errW_none, errW_some] <;> rfl), by repeat (first | (with_reducible first | exact HB.out | apply below_alloc | apply pw_below_drewN | apply below_drew1) | exact HB.out)⟩

/-! ### laws_FnExactCountLamps: function 4 -/
def laws_FnExactCountLamps.f (k : Nat) (a0 : ByteArray) (a1 : Bool) : Option (Bool) := if (a0.size : Int) > 1048576 then (some true) else ((spec_CountLamps.f k a0 a1).bind fun bt170 => ((impl_CountLamps.f k a0 a1).bind fun bt172 => (if bt172.1 = bt170.1 then (if (bt172.2 != bt170.2) = true then (some false) else (some true)) else (some false))))
theorem laws_FnExactCountLamps.mono : ∀ a0 a1 k, LeO (laws_FnExactCountLamps.f k a0 a1) (laws_FnExactCountLamps.f (k + 1) a0 a1) := by
  intro a0 a1 k
  unfold laws_FnExactCountLamps.f
  repeat' first
      | (with_reducible exact impl_CountLamps.mono _ _ _)
      | (with_reducible exact spec_CountLamps.mono _ _ _)
      | (with_reducible exact LeO.refl _)
      | (with_reducible exact LeO.none _)
      | (with_reducible refine LeO.ite ?_ ?_)
      | (with_reducible refine LeO.bind ?_ (fun _ => ?_))
      | exact impl_CountLamps.mono _ _ _
      | exact spec_CountLamps.mono _ _ _
      | exact LeO.none _
      | refine LeO.ite ?_ ?_
      | refine LeO.bind ?_ (fun _ => ?_)
set_option maxHeartbeats 8000000 in
set_option maxRecDepth 100000 in
theorem laws_FnExactCountLamps.calls (k : Nat) (a0 : ByteArray) (a1 : Bool) (r : Bool) (w : World) (h : laws_FnExactCountLamps.f k a0 a1 = some r) :
    Calls Try.prog 4 #[.string a0, .bool a1] w fun e w' => e = .returned (.bool r) ∧ Below w.heap.size w w' := by
  have HB := Aside0.mk (Below.refl w.heap.size w)
  have H : (if (a0.size : Int) > 1048576 then (some true) else ((spec_CountLamps.f k a0 a1).bind fun bt170 => ((impl_CountLamps.f k a0 a1).bind fun bt172 => (if bt172.1 = bt170.1 then (if (bt172.2 != bt170.2) = true then (some false) else (some true)) else (some false))))) = some r := h
  clear h
  by_cases c3 : (a0.size : Int) > 1048576
  · rw [if_pos c3] at H
    have c3b0 : decide (1048576 < (a0.size : Int)) = true := decide_eq_true c3
    have c3b1 : decide (1048576 < a0.size) = true := decide_eq_true (by omega)
    clear c3
    obtain rfl := Option.some.inj H
    go_enter Try.func4, Try.ntmps4
    go_wp2
    go_ret
    exact ⟨by first | rfl | (simp [errW_none, errW_some] <;> rfl) | (simp [*, errW_none, errW_some] <;> rfl), by repeat (first | (with_reducible first | exact HB.out | apply below_alloc | apply pw_below_drewN | apply below_drew1) | exact HB.out)⟩
  · rw [if_neg c3] at H
    have c3b0 : decide (1048576 < (a0.size : Int)) = false := decide_eq_false c3
    have c3b1 : decide (1048576 < a0.size) = false := decide_eq_false (by omega)
    clear c3
    replace H := Option.bind_eq_some_iff.mp H
    obtain ⟨⟨t170, t171⟩, A40, H⟩ := H
    replace H : ((impl_CountLamps.f k a0 a1).bind fun bt172 => (if bt172.1 = t170 then (if (bt172.2 != t171) = true then (some false) else (some true)) else (some false))) = some r := H
    have A4 := Aside0.mk A40
    clear A40
    replace H := Option.bind_eq_some_iff.mp H
    obtain ⟨⟨t172, t173⟩, A50, H⟩ := H
    replace H : (if t172 = t170 then (if (t173 != t171) = true then (some false) else (some true)) else (some false)) = some r := H
    have A5 := Aside0.mk A50
    clear A50
    by_cases c6 : t172 = t170
    · rw [if_pos c6] at H
      have c6b0 : (t172 == t170) = true := beq_iff_eq.mpr c6
      have c6b1 : (t172 != t170) = false := bne_eq_false_iff_eq.mpr c6
      clear c6
      by_cases c7 : (t173 != t171) = true
      · rw [if_pos c7] at H
        have c7b0 : (t173 != t171) = true := c7
        (try (have c7b1 : decide (t173 = t171) = false := by simpa using c7))
        (try (have c7b2 : (t173 == t171) = false := by simpa using c7))
        (try (have c7b3 : ¬ (t173 = t171) := by simpa using c7))
        clear c7
        obtain rfl := Option.some.inj H
        go_enter Try.func4, Try.ntmps4
        go_wp2_with (first | ((with_reducible refine gate_callee (f := 17) rfl ?_); refine goesL_ (some 15) rfl rfl Try.func17 (by kernel_rfl) rfl #[.string a0, .bool a1] rfl (by (try simp only [List.map_toArray, List.map_cons, List.map_nil]); first | done | rfl | (simp only [List.length_drop, List.length_take]; rfl)) ?_; (with_reducible refine (spec_CountLamps.calls k a0 a1 t170 t171 _ A4.out).mono ?_); rintro e w8 ⟨rfl, hb⟩; refine ⟨_, rfl, ?_⟩; have n0_ := Aside0.mk (below_step (by repeat (first | (with_reducible first | exact HB.out | apply below_alloc | apply pw_below_drewN | apply below_drew1) | exact HB.out)) hb); clear HB; have HB := n0_; clear n0_; (try clear hb); (try clear hb2); (try clear hk); (try clear hi)) | ((with_reducible refine gate_callee (f := 18) rfl ?_); refine goesL_ (some 21) rfl rfl Try.func18 (by kernel_rfl) rfl #[.string a0, .bool a1] rfl (by (try simp only [List.map_toArray, List.map_cons, List.map_nil]); first | done | rfl | (simp only [List.length_drop, List.length_take]; rfl)) ?_; (with_reducible refine (impl_CountLamps.calls k a0 a1 t172 t173 _ A5.out).mono ?_); rintro e w9 ⟨rfl, hb⟩; refine ⟨_, rfl, ?_⟩; have n0_ := Aside0.mk (below_step (by repeat (first | (with_reducible first | exact HB.out | apply below_alloc | apply pw_below_drewN | apply below_drew1) | exact HB.out)) hb); clear HB; have HB := n0_; clear n0_; (try clear hb); (try clear hb2); (try clear hk); (try clear hi)))
        go_ret
        exact ⟨by first | rfl | (simp [errW_none, errW_some] <;> rfl) | (simp [*, errW_none, errW_some] <;> rfl), by repeat (first | (with_reducible first | exact HB.out | apply below_alloc | apply pw_below_drewN | apply below_drew1) | exact HB.out)⟩
      · rw [if_neg c7] at H
        have c7b0 : (t173 != t171) = false := by simpa using c7
        (try (have c7b1 : decide (t173 = t171) = true := by simpa using c7))
        (try (have c7b2 : (t173 == t171) = true := by simpa using c7))
        clear c7
        obtain rfl := Option.some.inj H
        go_enter Try.func4, Try.ntmps4
        go_wp2_with (first | ((with_reducible refine gate_callee (f := 17) rfl ?_); refine goesL_ (some 15) rfl rfl Try.func17 (by kernel_rfl) rfl #[.string a0, .bool a1] rfl (by (try simp only [List.map_toArray, List.map_cons, List.map_nil]); first | done | rfl | (simp only [List.length_drop, List.length_take]; rfl)) ?_; (with_reducible refine (spec_CountLamps.calls k a0 a1 t170 t171 _ A4.out).mono ?_); rintro e w10 ⟨rfl, hb⟩; refine ⟨_, rfl, ?_⟩; have n0_ := Aside0.mk (below_step (by repeat (first | (with_reducible first | exact HB.out | apply below_alloc | apply pw_below_drewN | apply below_drew1) | exact HB.out)) hb); clear HB; have HB := n0_; clear n0_; (try clear hb); (try clear hb2); (try clear hk); (try clear hi)) | ((with_reducible refine gate_callee (f := 18) rfl ?_); refine goesL_ (some 21) rfl rfl Try.func18 (by kernel_rfl) rfl #[.string a0, .bool a1] rfl (by (try simp only [List.map_toArray, List.map_cons, List.map_nil]); first | done | rfl | (simp only [List.length_drop, List.length_take]; rfl)) ?_; (with_reducible refine (impl_CountLamps.calls k a0 a1 t172 t173 _ A5.out).mono ?_); rintro e w11 ⟨rfl, hb⟩; refine ⟨_, rfl, ?_⟩; have n0_ := Aside0.mk (below_step (by repeat (first | (with_reducible first | exact HB.out | apply below_alloc | apply pw_below_drewN | apply below_drew1) | exact HB.out)) hb); clear HB; have HB := n0_; clear n0_; (try clear hb); (try clear hb2); (try clear hk); (try clear hi)))
        go_ret
        exact ⟨by first | rfl | (simp [errW_none, errW_some] <;> rfl) | (simp [*, errW_none, errW_some] <;> rfl), by repeat (first | (with_reducible first | exact HB.out | apply below_alloc | apply pw_below_drewN | apply below_drew1) | exact HB.out)⟩
    · rw [if_neg c6] at H
      have c6b0 : (t172 == t170) = false := beq_eq_false_iff_ne.mpr c6
      have c6b1 : (t172 != t170) = true := bne_iff_ne.mpr c6
      obtain rfl := Option.some.inj H
      go_enter Try.func4, Try.ntmps4
      go_wp2_with (first | ((with_reducible refine gate_callee (f := 17) rfl ?_); refine goesL_ (some 15) rfl rfl Try.func17 (by kernel_rfl) rfl #[.string a0, .bool a1] rfl (by (try simp only [List.map_toArray, List.map_cons, List.map_nil]); first | done | rfl | (simp only [List.length_drop, List.length_take]; rfl)) ?_; (with_reducible refine (spec_CountLamps.calls k a0 a1 t170 t171 _ A4.out).mono ?_); rintro e w12 ⟨rfl, hb⟩; refine ⟨_, rfl, ?_⟩; have n0_ := Aside0.mk (below_step (by repeat (first | (with_reducible first | exact HB.out | apply below_alloc | apply pw_below_drewN | apply below_drew1) | exact HB.out)) hb); clear HB; have HB := n0_; clear n0_; (try clear hb); (try clear hb2); (try clear hk); (try clear hi)) | ((with_reducible refine gate_callee (f := 18) rfl ?_); refine goesL_ (some 21) rfl rfl Try.func18 (by kernel_rfl) rfl #[.string a0, .bool a1] rfl (by (try simp only [List.map_toArray, List.map_cons, List.map_nil]); first | done | rfl | (simp only [List.length_drop, List.length_take]; rfl)) ?_; (with_reducible refine (impl_CountLamps.calls k a0 a1 t172 t173 _ A5.out).mono ?_); rintro e w13 ⟨rfl, hb⟩; refine ⟨_, rfl, ?_⟩; have n0_ := Aside0.mk (below_step (by repeat (first | (with_reducible first | exact HB.out | apply below_alloc | apply pw_below_drewN | apply below_drew1) | exact HB.out)) hb); clear HB; have HB := n0_; clear n0_; (try clear hb); (try clear hb2); (try clear hk); (try clear hi)))
      go_ret
      exact ⟨by first | rfl | (simp [errW_none, errW_some] <;> rfl) | (simp [*, errW_none, errW_some] <;> rfl), by repeat (first | (with_reducible first | exact HB.out | apply below_alloc | apply pw_below_drewN | apply below_drew1) | exact HB.out)⟩

/-- THE ONE PURE STATEMENT of laws_FnExactCountLamps: yours. -/
def laws_FnExactCountLamps.Pure : Prop := ∀ (a0 : ByteArray) (a1 : Bool), a0.size ≤ 140737488351232 → ∃ k, laws_FnExactCountLamps.f k a0 a1 = some true
theorem laws_FnExactCountLamps.walk (P : laws_FnExactCountLamps.Pure) (a0 : ByteArray) (a1 : Bool) (w : World) (w0 : a0.size ≤ 140737488351232) :
    Calls Try.prog 4 #[.string a0, .bool a1] w fun e w' => e = .returned (.bool true) ∧ Below w.heap.size w w' := by
  obtain ⟨k, h⟩ := P a0 a1 w0
  refine (laws_FnExactCountLamps.calls k a0 a1 true w h).mono ?_
  rintro e w' ⟨rfl, hd⟩
  exact ⟨rfl, hd⟩

/-! ### spec_FewestLamps: function 19 -/
def spec_FewestLamps.f (k : Nat) (a0 : ByteArray) (a1 : Bool) : Option (Int × Bool) := (spec_rwRow.f k a0).bind fun t174 => (if t174 = true then ((spec_rwFew.f k a0 a1).bind fun bt175 => (some (bt175.1, true))) else (some (0, false)))
theorem spec_FewestLamps.mono : ∀ a0 a1 k, LeO (spec_FewestLamps.f k a0 a1) (spec_FewestLamps.f (k + 1) a0 a1) := by
  intro a0 a1 k
  unfold spec_FewestLamps.f
  repeat' first
      | (with_reducible exact spec_rwFew.mono _ _ _)
      | (with_reducible exact spec_rwRow.mono _ _)
      | (with_reducible exact LeO.refl _)
      | (with_reducible exact LeO.none _)
      | (with_reducible refine LeO.ite ?_ ?_)
      | (with_reducible refine LeO.bind ?_ (fun _ => ?_))
      | exact spec_rwFew.mono _ _ _
      | exact spec_rwRow.mono _ _
      | exact LeO.none _
      | refine LeO.ite ?_ ?_
      | refine LeO.bind ?_ (fun _ => ?_)
set_option maxHeartbeats 8000000 in
set_option maxRecDepth 100000 in
theorem spec_FewestLamps.calls (k : Nat) (a0 : ByteArray) (a1 : Bool) (r1 : Int) (r2 : Bool) (w : World) (h : spec_FewestLamps.f k a0 a1 = some (r1, r2)) :
    Calls Try.prog 19 #[.string a0, .bool a1] w fun e w' => e = .returned (.tuple #[.int .i64 r1, .bool r2]) ∧ Below w.heap.size w w' := by
  have HB := Aside0.mk (Below.refl w.heap.size w)
  have H : ((spec_rwRow.f k a0).bind fun t174 => (if t174 = true then ((spec_rwFew.f k a0 a1).bind fun bt175 => (some (bt175.1, true))) else (some (0, false)))) = some (r1, r2) := h
  clear h
  replace H := Option.bind_eq_some_iff.mp H
  obtain ⟨t174, A30, H⟩ := H
  replace H : (if t174 = true then ((spec_rwFew.f k a0 a1).bind fun bt175 => (some (bt175.1, true))) else (some (0, false))) = some (r1, r2) := H
  have A3 := Aside0.mk A30
  clear A30
  by_cases c4 : t174 = true
  · subst c4
    have H1 : ((spec_rwFew.f k a0 a1).bind fun bt175 => (some (bt175.1, true))) = some (r1, r2) := by rw [if_pos rfl] at H; exact H
    clear H
    have H := H1
    clear H1
    replace H := Option.bind_eq_some_iff.mp H
    obtain ⟨⟨t175, t176, t177⟩, A50, H⟩ := H
    replace H : (some (t175, true)) = some (r1, r2) := H
    have A5 := Aside0.mk A50
    clear A50
    simp only [Option.some.injEq, Prod.mk.injEq] at H
    obtain ⟨rfl, rfl⟩ := H
    go_enter Try.func19, Try.ntmps19
    go_wp2_with (first | ((with_reducible refine gate_callee (f := 31) rfl ?_); refine goesL_ (some 10) rfl rfl Try.func31 (by kernel_rfl) rfl #[.string a0] rfl (by (try simp only [List.map_toArray, List.map_cons, List.map_nil]); first | done | rfl | (simp only [List.length_drop, List.length_take]; rfl)) ?_; (with_reducible refine (spec_rwRow.calls k a0 true _ A3.out).mono ?_); rintro e w' ⟨rfl, ⟨nd, rfl⟩⟩; refine ⟨_, rfl, ?_⟩) | ((with_reducible refine gate_callee (f := 32) rfl ?_); refine goesL_ (some 15) rfl rfl Try.func32 (by kernel_rfl) rfl #[.string a0, .bool a1] rfl (by (try simp only [List.map_toArray, List.map_cons, List.map_nil]); first | done | rfl | (simp only [List.length_drop, List.length_take]; rfl)) ?_; (with_reducible refine (spec_rwFew.calls k a0 a1 t175 t176 t177 _ A5.out).mono ?_); rintro e w6 ⟨v178, rfl, ho0, hb⟩; refine ⟨_, rfl, ?_⟩; have n0_ := Aside0.mk (Kd.R_lower ho0 (below_size (by repeat (first | (with_reducible first | exact HB.out | apply below_alloc | apply pw_below_drewN | apply below_drew1) | exact HB.out)))); have n1_ := Aside0.mk (below_step (by repeat (first | (with_reducible first | exact HB.out | apply below_alloc | apply pw_below_drewN | apply below_drew1) | exact HB.out)) hb); clear HB; have HO179 := n0_; have HB := n1_; clear n0_ n1_; (try clear hb); (try clear hb2); (try clear hk); (try clear hi); (try clear ho0)))
    go_ret2
    exact ⟨by first | rfl | (simp [errW_none, errW_some] <;> rfl) | (simp [*, errW_none, errW_some] <;> rfl), by repeat (first | (with_reducible first | exact HB.out | apply below_alloc | apply pw_below_drewN | apply below_drew1) | exact HB.out)⟩
  · replace c4 := Bool.eq_false_iff.mpr c4
    subst c4
    have H1 : (some (0, false)) = some (r1, r2) := by rw [if_neg (show ¬ (false = true) by decide)] at H; exact H
    clear H
    have H := H1
    clear H1
    simp only [Option.some.injEq, Prod.mk.injEq] at H
    obtain ⟨rfl, rfl⟩ := H
    go_enter Try.func19, Try.ntmps19
    go_wp2_with (first | ((with_reducible refine gate_callee (f := 31) rfl ?_); refine goesL_ (some 10) rfl rfl Try.func31 (by kernel_rfl) rfl #[.string a0] rfl (by (try simp only [List.map_toArray, List.map_cons, List.map_nil]); first | done | rfl | (simp only [List.length_drop, List.length_take]; rfl)) ?_; (with_reducible refine (spec_rwRow.calls k a0 false _ A3.out).mono ?_); rintro e w' ⟨rfl, ⟨nd, rfl⟩⟩; refine ⟨_, rfl, ?_⟩))
    go_ret2
    exact ⟨by first | rfl | (simp [errW_none, errW_some] <;> rfl) | (simp [*, errW_none, errW_some] <;> rfl), by repeat (first | (with_reducible first | exact HB.out | apply below_alloc | apply pw_below_drewN | apply below_drew1) | exact HB.out)⟩

/-! ### impl_FewestLamps: function 20 -/
def impl_FewestLamps.f (k : Nat) (a0 : ByteArray) (a1 : Bool) : Option (Int × Bool) := (impl_IsLitRow.f k a0).bind fun t180 => (if t180 = true then ((impl_free.f a0).bind fun t181 => ((impl_lamps.f a0 t181 a1).bind fun bt184 => (some (bt184.1, true)))) else (some (0, false)))
theorem impl_FewestLamps.mono : ∀ a0 a1 k, LeO (impl_FewestLamps.f k a0 a1) (impl_FewestLamps.f (k + 1) a0 a1) := by
  intro a0 a1 k
  unfold impl_FewestLamps.f
  repeat' first
      | (with_reducible exact impl_IsLitRow.mono _ _)
      | (with_reducible exact LeO.refl _)
      | (with_reducible exact LeO.none _)
      | (with_reducible refine LeO.ite ?_ ?_)
      | (with_reducible refine LeO.bind ?_ (fun _ => ?_))
      | exact impl_IsLitRow.mono _ _
      | exact LeO.none _
      | refine LeO.ite ?_ ?_
      | refine LeO.bind ?_ (fun _ => ?_)
set_option maxHeartbeats 8000000 in
set_option maxRecDepth 100000 in
theorem impl_FewestLamps.calls (k : Nat) (a0 : ByteArray) (a1 : Bool) (r1 : Int) (r2 : Bool) (w : World) (h : impl_FewestLamps.f k a0 a1 = some (r1, r2)) :
    Calls Try.prog 20 #[.string a0, .bool a1] w fun e w' => e = .returned (.tuple #[.int .i64 r1, .bool r2]) ∧ Below w.heap.size w w' := by
  have HB := Aside0.mk (Below.refl w.heap.size w)
  have H : ((impl_IsLitRow.f k a0).bind fun t180 => (if t180 = true then ((impl_free.f a0).bind fun t181 => ((impl_lamps.f a0 t181 a1).bind fun bt184 => (some (bt184.1, true)))) else (some (0, false)))) = some (r1, r2) := h
  clear h
  replace H := Option.bind_eq_some_iff.mp H
  obtain ⟨t180, A30, H⟩ := H
  replace H : (if t180 = true then ((impl_free.f a0).bind fun t181 => ((impl_lamps.f a0 t181 a1).bind fun bt184 => (some (bt184.1, true)))) else (some (0, false))) = some (r1, r2) := H
  have A3 := Aside0.mk A30
  clear A30
  by_cases c4 : t180 = true
  · subst c4
    have H1 : ((impl_free.f a0).bind fun t181 => ((impl_lamps.f a0 t181 a1).bind fun bt184 => (some (bt184.1, true)))) = some (r1, r2) := by rw [if_pos rfl] at H; exact H
    clear H
    have H := H1
    clear H1
    replace H := Option.bind_eq_some_iff.mp H
    obtain ⟨t181, A50, H⟩ := H
    replace H : ((impl_lamps.f a0 t181 a1).bind fun bt184 => (some (bt184.1, true))) = some (r1, r2) := H
    have A5 := Aside0.mk A50
    clear A50
    replace H := Option.bind_eq_some_iff.mp H
    obtain ⟨⟨t184, t185⟩, A60, H⟩ := H
    replace H : (some (t184, true)) = some (r1, r2) := H
    have A6 := Aside0.mk A60
    clear A60
    simp only [Option.some.injEq, Prod.mk.injEq] at H
    obtain ⟨rfl, rfl⟩ := H
    go_enter Try.func20, Try.ntmps20
    go_wp2_with (first | ((with_reducible refine gate_callee (f := 33) rfl ?_); refine goesL_ (some 9) rfl rfl Try.func33 (by kernel_rfl) rfl #[.string a0] rfl (by (try simp only [List.map_toArray, List.map_cons, List.map_nil]); first | done | rfl | (simp only [List.length_drop, List.length_take]; rfl)) ?_; (with_reducible refine (impl_IsLitRow.calls k a0 true _ A3.out).mono ?_); rintro e w' ⟨rfl, ⟨nd, rfl⟩⟩; refine ⟨_, rfl, ?_⟩) | ((with_reducible refine gate_callee (f := 35) rfl ?_); refine goesL_ (some 14) rfl rfl Try.func35 (by kernel_rfl) rfl #[.string a0] rfl (by (try simp only [List.map_toArray, List.map_cons, List.map_nil]); first | done | rfl | (simp only [List.length_drop, List.length_take]; rfl)) ?_; (with_reducible refine (impl_free.calls a0 t181 _ A5.out).mono ?_); rintro e w7 ⟨v182, rfl, ho0, hb⟩; refine ⟨_, rfl, ?_⟩; have n0_ := Aside0.mk (Kd.R_lower ho0 (below_size (by repeat (first | (with_reducible first | exact HB.out | apply below_alloc | apply pw_below_drewN | apply below_drew1) | exact HB.out)))); have n1_ := Aside0.mk (below_step (by repeat (first | (with_reducible first | exact HB.out | apply below_alloc | apply pw_below_drewN | apply below_drew1) | exact HB.out)) hb); clear HB; have HO183 := n0_; have HB := n1_; clear n0_ n1_; (try clear hb); (try clear hb2); (try clear hk); (try clear hi); (try clear ho0); obtain ⟨Ao8, co8, eo8⟩ := Kd.R_slice HO183.out; subst eo8) | ((with_reducible refine gate_callee (f := 34) rfl ?_); refine goesL_ (some 16) rfl rfl Try.func34 (by kernel_rfl) rfl #[.string a0, .slice Ao8 t181.length co8, .bool a1] rfl (by (try simp only [List.map_toArray, List.map_cons, List.map_nil]); first | done | rfl | (simp only [List.length_drop, List.length_take]; rfl)) ?_; (with_reducible refine (impl_lamps.calls a0 _ _ t181 a1 t184 t185 _ ?side1 ?side2 A6.out).mono ?_); (case side1 => repeat (first | exact (Kd.R_reads' HO183.out).2.2 | (with_reducible refine Kd.C_alloc ?_ _) | (with_reducible refine Kd.C_drewN ?_ _) | (with_reducible refine Kd.C_drew ?_))); (case side2 => exact (Kd.R_reads' HO183.out).2.1); rintro e w9 ⟨rfl, hb⟩; refine ⟨_, rfl, ?_⟩; have n0_ := Aside0.mk (Kd.R_below (by (with_reducible repeat (first | apply Kd.R_alloc | apply Kd.R_drewN | apply Kd.R_drew)); exact HO183.out) hb); have n1_ := Aside0.mk (below_step (by repeat (first | (with_reducible first | exact HB.out | apply below_alloc | apply pw_below_drewN | apply below_drew1) | exact HB.out)) hb); clear HO183; clear HB; have HO183 := n0_; have HB := n1_; clear n0_ n1_; (try clear hb); (try clear hb2); (try clear hk); (try clear hi)))
    go_ret2
    exact ⟨by first | rfl | (simp [errW_none, errW_some] <;> rfl) | (simp [*, errW_none, errW_some] <;> rfl), by repeat (first | (with_reducible first | exact HB.out | apply below_alloc | apply pw_below_drewN | apply below_drew1) | exact HB.out)⟩
  · replace c4 := Bool.eq_false_iff.mpr c4
    subst c4
    have H1 : (some (0, false)) = some (r1, r2) := by rw [if_neg (show ¬ (false = true) by decide)] at H; exact H
    clear H
    have H := H1
    clear H1
    simp only [Option.some.injEq, Prod.mk.injEq] at H
    obtain ⟨rfl, rfl⟩ := H
    go_enter Try.func20, Try.ntmps20
    go_wp2_with (first | ((with_reducible refine gate_callee (f := 33) rfl ?_); refine goesL_ (some 9) rfl rfl Try.func33 (by kernel_rfl) rfl #[.string a0] rfl (by (try simp only [List.map_toArray, List.map_cons, List.map_nil]); first | done | rfl | (simp only [List.length_drop, List.length_take]; rfl)) ?_; (with_reducible refine (impl_IsLitRow.calls k a0 false _ A3.out).mono ?_); rintro e w' ⟨rfl, ⟨nd, rfl⟩⟩; refine ⟨_, rfl, ?_⟩))
    go_ret2
    exact ⟨by first | rfl | (simp [errW_none, errW_some] <;> rfl) | (simp [*, errW_none, errW_some] <;> rfl), by repeat (first | (with_reducible first | exact HB.out | apply below_alloc | apply pw_below_drewN | apply below_drew1) | exact HB.out)⟩

/-! ### laws_FnExactFewestLamps: function 5 -/
def laws_FnExactFewestLamps.f (k : Nat) (a0 : ByteArray) (a1 : Bool) : Option (Bool) := if (a0.size : Int) > 1048576 then (some true) else ((spec_FewestLamps.f k a0 a1).bind fun bt186 => ((impl_FewestLamps.f k a0 a1).bind fun bt188 => (if bt188.1 = bt186.1 then (if (bt188.2 != bt186.2) = true then (some false) else (some true)) else (some false))))
theorem laws_FnExactFewestLamps.mono : ∀ a0 a1 k, LeO (laws_FnExactFewestLamps.f k a0 a1) (laws_FnExactFewestLamps.f (k + 1) a0 a1) := by
  intro a0 a1 k
  unfold laws_FnExactFewestLamps.f
  repeat' first
      | (with_reducible exact impl_FewestLamps.mono _ _ _)
      | (with_reducible exact spec_FewestLamps.mono _ _ _)
      | (with_reducible exact LeO.refl _)
      | (with_reducible exact LeO.none _)
      | (with_reducible refine LeO.ite ?_ ?_)
      | (with_reducible refine LeO.bind ?_ (fun _ => ?_))
      | exact impl_FewestLamps.mono _ _ _
      | exact spec_FewestLamps.mono _ _ _
      | exact LeO.none _
      | refine LeO.ite ?_ ?_
      | refine LeO.bind ?_ (fun _ => ?_)
set_option maxHeartbeats 8000000 in
set_option maxRecDepth 100000 in
theorem laws_FnExactFewestLamps.calls (k : Nat) (a0 : ByteArray) (a1 : Bool) (r : Bool) (w : World) (h : laws_FnExactFewestLamps.f k a0 a1 = some r) :
    Calls Try.prog 5 #[.string a0, .bool a1] w fun e w' => e = .returned (.bool r) ∧ Below w.heap.size w w' := by
  have HB := Aside0.mk (Below.refl w.heap.size w)
  have H : (if (a0.size : Int) > 1048576 then (some true) else ((spec_FewestLamps.f k a0 a1).bind fun bt186 => ((impl_FewestLamps.f k a0 a1).bind fun bt188 => (if bt188.1 = bt186.1 then (if (bt188.2 != bt186.2) = true then (some false) else (some true)) else (some false))))) = some r := h
  clear h
  by_cases c3 : (a0.size : Int) > 1048576
  · rw [if_pos c3] at H
    have c3b0 : decide (1048576 < (a0.size : Int)) = true := decide_eq_true c3
    have c3b1 : decide (1048576 < a0.size) = true := decide_eq_true (by omega)
    clear c3
    obtain rfl := Option.some.inj H
    go_enter Try.func5, Try.ntmps5
    go_wp2
    go_ret
    exact ⟨by first | rfl | (simp [errW_none, errW_some] <;> rfl) | (simp [*, errW_none, errW_some] <;> rfl), by repeat (first | (with_reducible first | exact HB.out | apply below_alloc | apply pw_below_drewN | apply below_drew1) | exact HB.out)⟩
  · rw [if_neg c3] at H
    have c3b0 : decide (1048576 < (a0.size : Int)) = false := decide_eq_false c3
    have c3b1 : decide (1048576 < a0.size) = false := decide_eq_false (by omega)
    clear c3
    replace H := Option.bind_eq_some_iff.mp H
    obtain ⟨⟨t186, t187⟩, A40, H⟩ := H
    replace H : ((impl_FewestLamps.f k a0 a1).bind fun bt188 => (if bt188.1 = t186 then (if (bt188.2 != t187) = true then (some false) else (some true)) else (some false))) = some r := H
    have A4 := Aside0.mk A40
    clear A40
    replace H := Option.bind_eq_some_iff.mp H
    obtain ⟨⟨t188, t189⟩, A50, H⟩ := H
    replace H : (if t188 = t186 then (if (t189 != t187) = true then (some false) else (some true)) else (some false)) = some r := H
    have A5 := Aside0.mk A50
    clear A50
    by_cases c6 : t188 = t186
    · rw [if_pos c6] at H
      have c6b0 : (t188 == t186) = true := beq_iff_eq.mpr c6
      have c6b1 : (t188 != t186) = false := bne_eq_false_iff_eq.mpr c6
      clear c6
      by_cases c7 : (t189 != t187) = true
      · rw [if_pos c7] at H
        have c7b0 : (t189 != t187) = true := c7
        (try (have c7b1 : decide (t189 = t187) = false := by simpa using c7))
        (try (have c7b2 : (t189 == t187) = false := by simpa using c7))
        (try (have c7b3 : ¬ (t189 = t187) := by simpa using c7))
        clear c7
        obtain rfl := Option.some.inj H
        go_enter Try.func5, Try.ntmps5
        go_wp2_with (first | ((with_reducible refine gate_callee (f := 19) rfl ?_); refine goesL_ (some 15) rfl rfl Try.func19 (by kernel_rfl) rfl #[.string a0, .bool a1] rfl (by (try simp only [List.map_toArray, List.map_cons, List.map_nil]); first | done | rfl | (simp only [List.length_drop, List.length_take]; rfl)) ?_; (with_reducible refine (spec_FewestLamps.calls k a0 a1 t186 t187 _ A4.out).mono ?_); rintro e w8 ⟨rfl, hb⟩; refine ⟨_, rfl, ?_⟩; have n0_ := Aside0.mk (below_step (by repeat (first | (with_reducible first | exact HB.out | apply below_alloc | apply pw_below_drewN | apply below_drew1) | exact HB.out)) hb); clear HB; have HB := n0_; clear n0_; (try clear hb); (try clear hb2); (try clear hk); (try clear hi)) | ((with_reducible refine gate_callee (f := 20) rfl ?_); refine goesL_ (some 21) rfl rfl Try.func20 (by kernel_rfl) rfl #[.string a0, .bool a1] rfl (by (try simp only [List.map_toArray, List.map_cons, List.map_nil]); first | done | rfl | (simp only [List.length_drop, List.length_take]; rfl)) ?_; (with_reducible refine (impl_FewestLamps.calls k a0 a1 t188 t189 _ A5.out).mono ?_); rintro e w9 ⟨rfl, hb⟩; refine ⟨_, rfl, ?_⟩; have n0_ := Aside0.mk (below_step (by repeat (first | (with_reducible first | exact HB.out | apply below_alloc | apply pw_below_drewN | apply below_drew1) | exact HB.out)) hb); clear HB; have HB := n0_; clear n0_; (try clear hb); (try clear hb2); (try clear hk); (try clear hi)))
        go_ret
        exact ⟨by first | rfl | (simp [errW_none, errW_some] <;> rfl) | (simp [*, errW_none, errW_some] <;> rfl), by repeat (first | (with_reducible first | exact HB.out | apply below_alloc | apply pw_below_drewN | apply below_drew1) | exact HB.out)⟩
      · rw [if_neg c7] at H
        have c7b0 : (t189 != t187) = false := by simpa using c7
        (try (have c7b1 : decide (t189 = t187) = true := by simpa using c7))
        (try (have c7b2 : (t189 == t187) = true := by simpa using c7))
        clear c7
        obtain rfl := Option.some.inj H
        go_enter Try.func5, Try.ntmps5
        go_wp2_with (first | ((with_reducible refine gate_callee (f := 19) rfl ?_); refine goesL_ (some 15) rfl rfl Try.func19 (by kernel_rfl) rfl #[.string a0, .bool a1] rfl (by (try simp only [List.map_toArray, List.map_cons, List.map_nil]); first | done | rfl | (simp only [List.length_drop, List.length_take]; rfl)) ?_; (with_reducible refine (spec_FewestLamps.calls k a0 a1 t186 t187 _ A4.out).mono ?_); rintro e w10 ⟨rfl, hb⟩; refine ⟨_, rfl, ?_⟩; have n0_ := Aside0.mk (below_step (by repeat (first | (with_reducible first | exact HB.out | apply below_alloc | apply pw_below_drewN | apply below_drew1) | exact HB.out)) hb); clear HB; have HB := n0_; clear n0_; (try clear hb); (try clear hb2); (try clear hk); (try clear hi)) | ((with_reducible refine gate_callee (f := 20) rfl ?_); refine goesL_ (some 21) rfl rfl Try.func20 (by kernel_rfl) rfl #[.string a0, .bool a1] rfl (by (try simp only [List.map_toArray, List.map_cons, List.map_nil]); first | done | rfl | (simp only [List.length_drop, List.length_take]; rfl)) ?_; (with_reducible refine (impl_FewestLamps.calls k a0 a1 t188 t189 _ A5.out).mono ?_); rintro e w11 ⟨rfl, hb⟩; refine ⟨_, rfl, ?_⟩; have n0_ := Aside0.mk (below_step (by repeat (first | (with_reducible first | exact HB.out | apply below_alloc | apply pw_below_drewN | apply below_drew1) | exact HB.out)) hb); clear HB; have HB := n0_; clear n0_; (try clear hb); (try clear hb2); (try clear hk); (try clear hi)))
        go_ret
        exact ⟨by first | rfl | (simp [errW_none, errW_some] <;> rfl) | (simp [*, errW_none, errW_some] <;> rfl), by repeat (first | (with_reducible first | exact HB.out | apply below_alloc | apply pw_below_drewN | apply below_drew1) | exact HB.out)⟩
    · rw [if_neg c6] at H
      have c6b0 : (t188 == t186) = false := beq_eq_false_iff_ne.mpr c6
      have c6b1 : (t188 != t186) = true := bne_iff_ne.mpr c6
      obtain rfl := Option.some.inj H
      go_enter Try.func5, Try.ntmps5
      go_wp2_with (first | ((with_reducible refine gate_callee (f := 19) rfl ?_); refine goesL_ (some 15) rfl rfl Try.func19 (by kernel_rfl) rfl #[.string a0, .bool a1] rfl (by (try simp only [List.map_toArray, List.map_cons, List.map_nil]); first | done | rfl | (simp only [List.length_drop, List.length_take]; rfl)) ?_; (with_reducible refine (spec_FewestLamps.calls k a0 a1 t186 t187 _ A4.out).mono ?_); rintro e w12 ⟨rfl, hb⟩; refine ⟨_, rfl, ?_⟩; have n0_ := Aside0.mk (below_step (by repeat (first | (with_reducible first | exact HB.out | apply below_alloc | apply pw_below_drewN | apply below_drew1) | exact HB.out)) hb); clear HB; have HB := n0_; clear n0_; (try clear hb); (try clear hb2); (try clear hk); (try clear hi)) | ((with_reducible refine gate_callee (f := 20) rfl ?_); refine goesL_ (some 21) rfl rfl Try.func20 (by kernel_rfl) rfl #[.string a0, .bool a1] rfl (by (try simp only [List.map_toArray, List.map_cons, List.map_nil]); first | done | rfl | (simp only [List.length_drop, List.length_take]; rfl)) ?_; (with_reducible refine (impl_FewestLamps.calls k a0 a1 t188 t189 _ A5.out).mono ?_); rintro e w13 ⟨rfl, hb⟩; refine ⟨_, rfl, ?_⟩; have n0_ := Aside0.mk (below_step (by repeat (first | (with_reducible first | exact HB.out | apply below_alloc | apply pw_below_drewN | apply below_drew1) | exact HB.out)) hb); clear HB; have HB := n0_; clear n0_; (try clear hb); (try clear hb2); (try clear hk); (try clear hi)))
      go_ret
      exact ⟨by first | rfl | (simp [errW_none, errW_some] <;> rfl) | (simp [*, errW_none, errW_some] <;> rfl), by repeat (first | (with_reducible first | exact HB.out | apply below_alloc | apply pw_below_drewN | apply below_drew1) | exact HB.out)⟩

/-- THE ONE PURE STATEMENT of laws_FnExactFewestLamps: yours. -/
def laws_FnExactFewestLamps.Pure : Prop := ∀ (a0 : ByteArray) (a1 : Bool), a0.size ≤ 140737488351232 → ∃ k, laws_FnExactFewestLamps.f k a0 a1 = some true
theorem laws_FnExactFewestLamps.walk (P : laws_FnExactFewestLamps.Pure) (a0 : ByteArray) (a1 : Bool) (w : World) (w0 : a0.size ≤ 140737488351232) :
    Calls Try.prog 5 #[.string a0, .bool a1] w fun e w' => e = .returned (.bool true) ∧ Below w.heap.size w w' := by
  obtain ⟨k, h⟩ := P a0 a1 w0
  refine (laws_FnExactFewestLamps.calls k a0 a1 true w h).mono ?_
  rintro e w' ⟨rfl, hd⟩
  exact ⟨rfl, hd⟩

/-! ### laws_eqIntS: function 12 -/
def laws_eqIntS.l0 : Nat → List Int → List Int → Int → Option (Bool)
  | 0, _, _, _ => none
  | k + 1, x0, x1, x5 => if x5 < (x0.length : Int) then (if 0 ≤ x5 then (if x5 < (x1.length : Int) then (if (rd x0 x5) = (rd x1 x5) then (laws_eqIntS.l0 k x0 x1 (wrap64 (x5 + 1))) else (some false)) else (none)) else (none)) else (some true)
def laws_eqIntS.f (k : Nat) (l0 : List Int) (l1 : List Int) : Option (Bool) := if (l0.length : Int) = (l1.length : Int) then (laws_eqIntS.l0 k l0 l1 0) else (some false)
theorem laws_eqIntS.mono_l : ∀ k, (∀ y0 y1 y2, LeO (laws_eqIntS.l0 k y0 y1 y2) (laws_eqIntS.l0 (k + 1) y0 y1 y2))
  | 0 => fun _ _ _ r h => by simp [laws_eqIntS.l0] at h
  | k + 1 => by
    have ih0 := laws_eqIntS.mono_l k
    · intro y0 y1 y2
      unfold laws_eqIntS.l0
      repeat' first
      | (with_reducible exact ih0 _ _ _)
      | (with_reducible exact LeO.refl _)
      | (with_reducible exact LeO.none _)
      | (with_reducible refine LeO.ite ?_ ?_)
      | (with_reducible refine LeO.bind ?_ (fun _ => ?_))
      | exact ih0 _ _ _
      | exact LeO.none _
      | refine LeO.ite ?_ ?_
      | refine LeO.bind ?_ (fun _ => ?_)
theorem laws_eqIntS.mono : ∀ a0 a1 k, LeO (laws_eqIntS.f k a0 a1) (laws_eqIntS.f (k + 1) a0 a1) := by
  intro a0 a1 k
  have ih0 := laws_eqIntS.mono_l k
  unfold laws_eqIntS.f
  repeat' first
      | (with_reducible exact ih0 _ _ _)
      | (with_reducible exact LeO.refl _)
      | (with_reducible exact LeO.none _)
      | (with_reducible refine LeO.ite ?_ ?_)
      | (with_reducible refine LeO.bind ?_ (fun _ => ?_))
      | exact ih0 _ _ _
      | exact LeO.none _
      | refine LeO.ite ?_ ?_
      | refine LeO.bind ?_ (fun _ => ?_)
set_option maxHeartbeats 8000000 in
set_option maxRecDepth 100000 in
theorem laws_eqIntS.calls (k : Nat) (A0 : Option Addr) (c0 : Nat) (l0 : List Int) (A1 : Option Addr) (c1 : Nat) (l1 : List Int) (r : Bool) (w : World) (hr0 : Kd.C (Kd.int .i64) w A0 l0.length l0) (hc0 : l0.length ≤ c0) (hr1 : Kd.C (Kd.int .i64) w A1 l1.length l1) (hc1 : l1.length ≤ c1) (h : laws_eqIntS.f k l0 l1 = some r) :
    Calls Try.prog 12 #[.slice A0 l0.length c0, .slice A1 l1.length c1] w fun e w' => e = .returned (.bool r) ∧ Drawn0 w w' := by
  have HR0 := Aside0.mk hr0
  have HC0 := Aside0.mk hc0
  clear hr0 hc0
  have HR1 := Aside0.mk hr1
  have HC1 := Aside0.mk hc1
  clear hr1 hc1
  have H : (if (l0.length : Int) = (l1.length : Int) then (laws_eqIntS.l0 k l0 l1 0) else (some false)) = some r := h
  clear h
  by_cases c3 : (l0.length : Int) = (l1.length : Int)
  · rw [if_pos c3] at H
    have c3b0 : ((l0.length : Int) == (l1.length : Int)) = true := beq_iff_eq.mpr c3
    have c3b1 : ((l0.length : Int) != (l1.length : Int)) = false := bne_eq_false_iff_eq.mpr c3
    have c3b2 : (l0.length == l1.length) = true := by first | simpa using c3 | (simp at c3 ⊢; omega)
    clear c3
    have H' := Aside0.mk H
    clear H
    go_enter Try.func12, Try.ntmps12
    go_wp2
    repeat (go_quiet (fail); try go_wp2)
    go_loopg [5] k (fun kq v5 w' => ∃ (x5_1 : Int), v5 = .int .i64 x5_1 ∧ Aside0 (laws_eqIntS.l0 kq l0 l1 x5_1 = some r) ∧ Aside0 (kq ≤ k) ∧ Drawn0 w w')
    case atStart => exact ⟨(0), (by first | rfl | (simp; done) | (simp [*]; done)), H', ⟨Nat.le_refl _⟩, by repeat (first | exact Drawn0.refl _ | apply Drawn0.step)⟩
    case round =>
      clear H'
      try clear c1
      try clear p2
      try clear c3
      try clear c3b0
      try clear c3b1
      try clear c3b2
      obtain ⟨x5_1, rfl, HA, HK1, ⟨m1, rfl⟩⟩ := hrel
      cases gk with
      | zero => exact absurd HA.out (by simp [laws_eqIntS.l0])
      | succ k1 =>
        have H := HA.out
        clear HA
        simp only [laws_eqIntS.l0] at H
        by_cases c4 : x5_1 < (l0.length : Int)
        · rw [if_pos c4] at H
          have c4b0 : decide (x5_1 < (l0.length : Int)) = true := decide_eq_true c4
          clear c4
          by_cases c5 : 0 ≤ x5_1
          · rw [if_pos c5] at H
            have c5b0 : decide (0 ≤ x5_1) = true := decide_eq_true c5
            clear c5
            by_cases c6 : x5_1 < (l1.length : Int)
            · rw [if_pos c6] at H
              have c6b0 : decide (x5_1 < (l1.length : Int)) = true := decide_eq_true c6
              clear c6
              by_cases c7 : (rd l0 x5_1) = (rd l1 x5_1)
              · rw [if_pos c7] at H
                have c7b0 : ((rd l0 x5_1) == (rd l1 x5_1)) = true := beq_iff_eq.mpr c7
                have c7b1 : ((rd l0 x5_1) != (rd l1 x5_1)) = false := bne_eq_false_iff_eq.mpr c7
                clear c7
                have H' := Aside0.mk H
                clear H
                have p190 : 0 ≤ (x5_1 : Int) := of_decide_eq_true (by first | (with_reducible assumption) | assumption)
                have q190 : x5_1 < (l0.length : Int) := of_decide_eq_true (by first | (with_reducible assumption) | assumption)
                obtain ⟨ad190, e190, hx190_0⟩ := Kd.at_int HR0.out x5_1 p190 q190
                cases e190
                replace p190 := eq_true p190
                replace q190 := eq_true q190
                have p191 : 0 ≤ (x5_1 : Int) := of_decide_eq_true (by first | (with_reducible assumption) | assumption)
                have q191 : x5_1 < (l1.length : Int) := of_decide_eq_true (by first | (with_reducible assumption) | assumption)
                obtain ⟨ad191, e191, hx191_0⟩ := Kd.at_int HR1.out x5_1 p191 q191
                cases e191
                replace p191 := eq_true p191
                replace q191 := eq_true q191
                go_wp2
                repeat (go_quiet (fail); try go_wp2)
                go_roundg k1
                case measure => have := HK1.out; omega
                case rel => exact ⟨(wrap64 (x5_1 + 1)), (by first | rfl | (simp; done) | (simp [*]; done)), H', ⟨by have := HK1.out; omega⟩, by repeat (first | exact Drawn0.refl _ | apply Drawn0.step)⟩
              · rw [if_neg c7] at H
                have c7b0 : ((rd l0 x5_1) == (rd l1 x5_1)) = false := beq_eq_false_iff_ne.mpr c7
                have c7b1 : ((rd l0 x5_1) != (rd l1 x5_1)) = true := bne_iff_ne.mpr c7
                obtain rfl := Option.some.inj H
                have p190 : 0 ≤ (x5_1 : Int) := of_decide_eq_true (by first | (with_reducible assumption) | assumption)
                have q190 : x5_1 < (l0.length : Int) := of_decide_eq_true (by first | (with_reducible assumption) | assumption)
                obtain ⟨ad190, e190, hx190_0⟩ := Kd.at_int HR0.out x5_1 p190 q190
                cases e190
                replace p190 := eq_true p190
                replace q190 := eq_true q190
                have p191 : 0 ≤ (x5_1 : Int) := of_decide_eq_true (by first | (with_reducible assumption) | assumption)
                have q191 : x5_1 < (l1.length : Int) := of_decide_eq_true (by first | (with_reducible assumption) | assumption)
                obtain ⟨ad191, e191, hx191_0⟩ := Kd.at_int HR1.out x5_1 p191 q191
                cases e191
                replace p191 := eq_true p191
                replace q191 := eq_true q191
                go_wp2
                repeat (go_quiet (fail); try go_wp2)
                go_ret
                exact ⟨by first | rfl | (simp; done) | (simp [*]; done), by repeat (first | exact Drawn0.refl _ | apply Drawn0.step)⟩
            · rw [if_neg c6] at H
              exact absurd H (by simp)
          · rw [if_neg c5] at H
            exact absurd H (by simp)
        · rw [if_neg c4] at H
          have c4b0 : decide (x5_1 < (l0.length : Int)) = false := decide_eq_false c4
          clear c4
          obtain rfl := Option.some.inj H
          go_wp2
          repeat (go_quiet (fail); try go_wp2)
          go_ret
          exact ⟨by first | rfl | (simp; done) | (simp [*]; done), by repeat (first | exact Drawn0.refl _ | apply Drawn0.step)⟩
  · rw [if_neg c3] at H
    have c3b0 : ((l0.length : Int) == (l1.length : Int)) = false := beq_eq_false_iff_ne.mpr c3
    have c3b1 : ((l0.length : Int) != (l1.length : Int)) = true := bne_iff_ne.mpr c3
    have c3b2 : (l0.length == l1.length) = false := by first | simpa using c3 | (simp at c3 ⊢; omega)
    obtain rfl := Option.some.inj H
    go_enter Try.func12, Try.ntmps12
    go_wp2
    repeat (go_quiet (fail); try go_wp2)
    go_ret
    exact ⟨by first | rfl | (simp; done) | (simp [*]; done), by repeat (first | exact Drawn0.refl _ | apply Drawn0.step)⟩

end Go.Proofs.Ytknookofgnandaa.ML
