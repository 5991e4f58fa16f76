-- The machine side, written by this repo's program mp.py; contracts marked as of this repo are this session's own.
import Derived.Test.YtlmenkhklpfefaaMRx0
import Derived.Test.YtlmenkhklpfefaaMRx1
import Derived.Test.YtlmenkhklpfefaaMRx2
namespace Go.Proofs.Ytlmenkhklpfefaa.MR
open Go.RowKit Go.Proofs.YtlmenkhklpfefaaW.PrintWords Go.Proofs.YtlmenkhklpfefaaW.PrintLast Go.Proofs.YtlmenkhklpfefaaW.PrintMore
attribute [local go_sem] max2_int min2_int max_two min_two max_three min_three max_four min_four   -- for this text's walks alone
set_option linter.unusedVariables false
set_option linter.unusedSimpArgs false

/-! ### impl_lamps: function 28 (a contract of this repo) -/
/-- One more: the lesser number, or more of it. -/
def impl_lamps.take (a r : Nat × Nat) : Nat × Nat := if r.2 = 0 then a else if a.2 = 0 ∨ r.1 < a.1 then r else if r.1 = a.1 then (a.1, a.2 + r.2) else a
def impl_lamps.tk (a r : Nat × Nat) : Option (Nat × Nat) := if r.2 ≤ 4000000000000 ∧ a.2 ≤ 40000000000000 then some (impl_lamps.take a r) else none
def impl_lamps.val (row : ByteArray) (fixed : List Int) (j l : Nat) (behind last : Int) : Option (Nat × Nat) := impl_rowLamps.val row fixed j l behind last
def impl_lamps.ins (row : ByteArray) (fixed : List Int) (j : Nat) : Nat → Nat → Nat × Nat → Option (Nat × Nat)
  | 0, _, a => some a
  | r + 1, l, a => ((impl_lamps.val row fixed j l (j : Int) (l : Int)).bind (impl_lamps.tk a)).bind fun b => impl_lamps.ins row fixed j r (l + 1) b
def impl_lamps.one (row : ByteArray) (fixed : List Int) (rg : Bool) (j : Nat) (a : Nat × Nat) : Option (Nat × Nat) := if rg = true then impl_lamps.ins row fixed j 2 0 a else (impl_lamps.val row fixed j 0 0 (-1)).bind (impl_lamps.tk a)
def impl_lamps.outs (row : ByteArray) (fixed : List Int) (rg : Bool) : Nat → Nat → Nat × Nat → Option (Nat × Nat)
  | 0, _, a => some a
  | r + 1, j, a => (impl_lamps.one row fixed rg j a).bind fun b => impl_lamps.outs row fixed rg r (j + 1) b
def impl_lamps.all (row : ByteArray) (fixed : List Int) (ring : Bool) : Option (Nat × Nat) := impl_lamps.outs row fixed (ring && decide ((row.size : Int) > 2)) 2 0 (0, 0)
def impl_lamps.f (a0 : ByteArray) (l1 : List Int) (a2 : Bool) : Option (Int × Int) := if (1 ≤ a0.size ∧ a0.size ≤ 1000) ∧ l1.length = a0.size then (impl_lamps.all a0 l1 a2).map fun v => ((v.1 : Int), (v.2 : Int)) else none
theorem impl_lamps.cell_set {w : World} {s : Nat} {a v : Value} {t : TypeId} (h : w.heap[s]? = some (.cells #[a] t (0, 0))) : (w.setCell ⟨s, 0, none⟩ v).heap[s]? = some (.cells #[v] t (0, 0)) := by
  simp [World.setCell, Array.getElem?_modify, h]
theorem impl_lamps.cell_free {w : World} {s : Nat} {a : Value} {t : TypeId} (h : w.heap[s]? = some (.cells #[a] t (0, 0))) (j : Nat) : w.frozen? ⟨s, j, none⟩ = false := by
  simp [World.frozen?, h]
theorem impl_lamps.w_sum (b o : Nat) (h : b ≤ 40000000000000 ∧ o ≤ 4000000000000) : wrap64 ((b : Int) + (o : Int)) = ((b + o : Nat) : Int) := by unfold wrap64; omega
theorem impl_lamps.w_zero (o : Nat) (h : o ≤ 4000000000000) : wrap64 (0 + (o : Int)) = (o : Int) := by unfold wrap64; omega
/-- The two boxes: the least number, how many. -/
def impl_lamps.Bx (w : World) (pc pf : Nat) (a : Nat × Nat) : Prop := w.heap[pc]? = some (.cells #[.int .i64 (a.2 : Int)] 3 (0, 0)) ∧ w.heap[pf]? = some (.cells #[.int .i64 (a.1 : Int)] 3 (0, 0))
theorem impl_lamps.Bx.below {w w' : World} {pc pf : Nat} {a : Nat × Nat} (h : impl_lamps.Bx w pc pf a) (hb : Below w.heap.size w w') : impl_lamps.Bx w' pc pf a :=
  ⟨(hb.block pc (Array.getElem?_eq_some_iff.1 h.1).1).trans h.1, (hb.block pf (Array.getElem?_eq_some_iff.1 h.2).1).trans h.2⟩
theorem impl_lamps.Bx.set {w : World} {pc pf : Nat} {a : Nat × Nat} (h : impl_lamps.Bx w pc pf a) (hne : pc ≠ pf) (v k : Nat) : impl_lamps.Bx (((w.setCell ⟨pf, 0, none⟩ (.int .i64 (v : Int))).setCell ⟨pc, 0, none⟩ (.int .i64 0)).setCell ⟨pc, 0, none⟩ (.int .i64 (k : Int))) pc pf (v, k) := by
  have h1 : (w.setCell ⟨pf, 0, none⟩ (.int .i64 (v : Int))).heap[pc]? = some (.cells #[.int .i64 (a.2 : Int)] 3 (0, 0)) := (Below.heap_setCell _ ⟨pf, 0, none⟩ _ _ hne).trans h.1
  exact ⟨impl_lamps.cell_set (impl_lamps.cell_set h1), (Below.heap_setCell _ ⟨pc, 0, none⟩ _ _ hne.symm).trans ((Below.heap_setCell _ ⟨pc, 0, none⟩ _ _ hne.symm).trans (impl_lamps.cell_set h.2))⟩
set_option maxHeartbeats 4000000 in
set_option maxRecDepth 100000 in
theorem impl_lamps.clo (pc pf : Nat) (hne : pc ≠ pf) (a r b : Nat × Nat) (w : World) (hb : impl_lamps.Bx w pc pf a) (h : impl_lamps.tk a r = some b) :
    Calls Try.prog 46 #[.int .i64 (r.1 : Int), .int .i64 (r.2 : Int), .pointer (some ⟨pc, 0, none⟩), .pointer (some ⟨pf, 0, none⟩)] w fun e w' => e = .returned (.tuple #[]) ∧ impl_lamps.Bx w' pc pf b ∧ ∀ B W, Below B W w → B ≤ pc → B ≤ pf → Below B W w' := by
  obtain ⟨f0, c0⟩ := a
  obtain ⟨o, m⟩ := r
  unfold impl_lamps.tk at h
  obtain ⟨⟨hm, hc⟩, h⟩ := Option.ite_none_right_eq_some.1 h
  have hm : m ≤ 4000000000000 := hm
  have hc : c0 ≤ 40000000000000 := hc
  have h := Option.some.inj h
  unfold impl_lamps.take at h
  simp only at h
  have HB := Aside0.mk hb
  have hpc : w.cell? ⟨pc, 0, none⟩ = some (.int .i64 (c0 : Int)) := cell_of_one hb.1
  have hpf : w.cell? ⟨pf, 0, none⟩ = some (.int .i64 (f0 : Int)) := cell_of_one hb.2
  have hfc : w.frozen? ⟨pc, 0, none⟩ = false := impl_lamps.cell_free hb.1 0
  have hff : w.frozen? ⟨pf, 0, none⟩ = false := impl_lamps.cell_free hb.2 0
  have hne2 : pf ≠ pc := hne.symm
  clear hb
  by_cases hm0 : m = 0
  · rw [if_pos hm0] at h
    subst h
    have p7 : ¬ (m : Int) > 0 := by omega
    have q7 : decide ((m : Int) > 0) = false := decide_eq_false p7
    clear hm0
    go_enter Try.func46, Try.ntmps46
    go_wp2
    first | refine bodyPost_end (results_none rfl _ _ _) rfl ?_ | refine bodyPost_ret (results_none rfl _ _ _) rfl ?_
    exact ⟨rfl, HB.out, fun B W hW _ _ => hW⟩
  · rw [if_neg hm0] at h
    have p7 : (m : Int) > 0 := by omega
    have q7 : decide ((m : Int) > 0) = true := decide_eq_true p7
    by_cases hlo : c0 = 0 ∨ o < f0
    · rw [if_pos hlo] at h
      subst h
      have HS := Aside0.mk (HB.out.set hne o m)
      have w0 : wrap64 (0 + (m : Int)) = (m : Int) := impl_lamps.w_zero m hm
      have w0' : IntKind.i64.wrap (0 + (m : Int)) = (m : Int) := (i64_w _).trans w0
      have w1 : wrap64 (m : Int) = (m : Int) := by rw [← w0, Int.zero_add]; rw [Int.zero_add] at w0; rw [w0, w0]
      have w1' : IntKind.i64.wrap (m : Int) = (m : Int) := (i64_w _).trans w1
      have qoo : ((o : Int) == (o : Int)) = true := by simp
      by_cases hc0 : c0 = 0
      · have p10 : (c0 : Int) = 0 := by omega
        have q10 : ((c0 : Int) == 0) = true := by rw [p10]; rfl
        clear hm0 hlo hc0
        go_enter Try.func46, Try.ntmps46
        go_wp2
        first | refine bodyPost_end (results_none rfl _ _ _) rfl ?_ | refine bodyPost_ret (results_none rfl _ _ _) rfl ?_
        exact ⟨rfl, HS.out, fun B W hW h1 h2 => ((hW.setCell (p := ⟨pf, 0, none⟩) h2 _).setCell (p := ⟨pc, 0, none⟩) h1 _).setCell (p := ⟨pc, 0, none⟩) h1 _⟩
      · have hlo : o < f0 := hlo.resolve_left hc0
        have p10 : ¬ (c0 : Int) = 0 := by omega
        have q10 : ((c0 : Int) == 0) = false := beq_eq_false_iff_ne.2 p10
        have p14 : (o : Int) < (f0 : Int) := by omega
        have q14 : decide ((o : Int) < (f0 : Int)) = true := decide_eq_true p14
        clear hm0 hlo hc0
        go_enter Try.func46, Try.ntmps46
        go_wp2
        first | refine bodyPost_end (results_none rfl _ _ _) rfl ?_ | refine bodyPost_ret (results_none rfl _ _ _) rfl ?_
        exact ⟨rfl, HS.out, fun B W hW h1 h2 => ((hW.setCell (p := ⟨pf, 0, none⟩) h2 _).setCell (p := ⟨pc, 0, none⟩) h1 _).setCell (p := ⟨pc, 0, none⟩) h1 _⟩
    · rw [if_neg hlo] at h
      have p10 : ¬ (c0 : Int) = 0 := by omega
      have q10 : ((c0 : Int) == 0) = false := beq_eq_false_iff_ne.2 p10
      have p14 : ¬ (o : Int) < (f0 : Int) := by omega
      have q14 : decide ((o : Int) < (f0 : Int)) = false := decide_eq_false p14
      by_cases he : o = f0
      · rw [if_pos he] at h
        subst he
        subst h
        obtain ⟨ks, hks⟩ : ∃ ks, ks = c0 + m := ⟨_, rfl⟩
        have w2 : wrap64 ((c0 : Int) + (m : Int)) = (ks : Int) := by rw [hks]; exact impl_lamps.w_sum c0 m ⟨hc, hm⟩
        have w2' : IntKind.i64.wrap ((c0 : Int) + (m : Int)) = (ks : Int) := (i64_w _).trans w2
        have qoo : ((o : Int) == (o : Int)) = true := by simp
        have HS := Aside0.mk (show impl_lamps.Bx (w.setCell ⟨pc, 0, none⟩ (.int .i64 (ks : Int))) pc pf (o, c0 + m) from by
          rw [← hks]
          exact ⟨impl_lamps.cell_set HB.out.1, (Below.heap_setCell _ ⟨pc, 0, none⟩ _ _ hne.symm).trans HB.out.2⟩)
        clear hm0 hlo hks
        go_enter Try.func46, Try.ntmps46
        go_wp2
        first | refine bodyPost_end (results_none rfl _ _ _) rfl ?_ | refine bodyPost_ret (results_none rfl _ _ _) rfl ?_
        exact ⟨rfl, HS.out, fun B W hW h1 h2 => hW.setCell (p := ⟨pc, 0, none⟩) h1 _⟩
      · rw [if_neg he] at h
        subst h
        have p23 : ¬ (o : Int) = (f0 : Int) := by omega
        have q23 : ((o : Int) == (f0 : Int)) = false := beq_eq_false_iff_ne.2 p23
        clear hm0 hlo he
        go_enter Try.func46, Try.ntmps46
        go_wp2
        first | refine bodyPost_end (results_none rfl _ _ _) rfl ?_ | refine bodyPost_ret (results_none rfl _ _ _) rfl ?_
        exact ⟨rfl, HB.out, fun B W hW _ _ => hW⟩
set_option maxHeartbeats 8000000 in
set_option maxRecDepth 100000 in
theorem impl_lamps.walk (row : ByteArray) (A : Option Addr) (c : Nat) (fixed : List Int) (ring : Bool) (w : World) (hz : 1 ≤ row.size ∧ row.size ≤ 1000) (hl : fixed.length = row.size) (hr : Kd.C (Kd.int .i64) w A fixed.length fixed) (hc : fixed.length ≤ c) (v : Nat × Nat) (h : impl_lamps.all row fixed ring = some v) :
    Calls Try.prog 28 #[.string row, .slice A fixed.length c, .bool ring] w fun e w' => e = .returned (.tuple #[.int .i64 (v.1 : Int), .int .i64 (v.2 : Int)]) ∧ Below w.heap.size w w' := by
  obtain ⟨rg, hrg⟩ : ∃ rg, rg = (ring && decide ((row.size : Int) > 2)) := ⟨_, rfl⟩
  unfold impl_lamps.all at h
  rw [← hrg] at h
  have HH := Aside0.mk h
  have HRG := Aside0.mk (show impl_isRing.f (row.size : Int) ring = some rg by
    rw [hrg]
    unfold impl_isRing.f
    cases ring <;> simp)
  have HRL := Aside0.mk (show ∀ W : World, Below w.heap.size w W → ∀ (j l : Nat), j < 2 → l < 2 → ∀ (be la : Int) (u : Nat × Nat), impl_lamps.val row fixed j l be la = some u → Calls Try.prog 47 #[.string row, .slice A fixed.length c, .int .i64 (j : Int), .int .i64 (l : Int), .int .i64 be, .int .i64 la] W (fun e w' => e = .returned (.tuple #[.int .i64 (u.1 : Int), .int .i64 (u.2 : Int)]) ∧ Below W.heap.size W w') from fun W hW j l hj hl2 be la u hu =>
    impl_rowLamps.walk row A c fixed j l be la W ⟨hz, hl, hj, hl2⟩ (Kd.C_below hr hW) hc u hu)
  have hmf : ∀ (fn : Fn) (first cap : Array Value) (w : World), (Instr.makeFunc fn first cap).run Try.prog w = .ok (.func fn first cap) w := fun _ _ _ _ => rfl
  clear hr h hrg hc hz hl
  generalize fixed.length = fl at HRL ⊢
  go_enter Try.func28, Try.ntmps28
  go_wp2
  obtain ⟨w2, hw2⟩ : ∃ w2 : World, w2 = (w.alloc (.cells #[.int .i64 0] 3)).alloc (.cells #[.int .i64 0] 3) := ⟨_, rfl⟩
  have hb2 : Below w.heap.size w w2 := by rw [hw2]; exact impl_rowLamps.below_two _ _ _
  have hx2 : impl_lamps.Bx w2 (w.heap.size + 1) w.heap.size (0, 0) := by rw [hw2]; exact ⟨impl_rowLamps.new_two _ _ _ _ _, impl_rowLamps.new_one _ _ _ _ _⟩
  obtain ⟨pf, hpf⟩ : ∃ pf, pf = w.heap.size := ⟨_, rfl⟩
  obtain ⟨pc, hpc⟩ : ∃ pc, pc = w.heap.size + 1 := ⟨_, rfl⟩
  rw [← hpc, ← hpf] at hx2
  have HP := Aside0.mk (show w.heap.size ≤ pc ∧ w.heap.size ≤ pf ∧ pc ≠ pf from by omega)
  have HB2 := Aside0.mk hb2
  have HX2 := Aside0.mk hx2
  try rw [← hw2]
  try rw [← hpc]
  try rw [← hpf]
  have HCL := Aside0.mk (fun (a r b : Nat × Nat) (W : World) (hx : impl_lamps.Bx W pc pf a) (ht : impl_lamps.tk a r = some b) => impl_lamps.clo pc pf HP.out.2.2 a r b W hx ht)
  clear hw2 hb2 hx2 hpf hpc hmf
  go_loopw [14] (fun jv wr => ∃ (j : Nat) (a : Nat × Nat), jv = .int .i64 j ∧ j ≤ 2 ∧ Aside0 (impl_lamps.outs row fixed rg (2 - j) j a = some v) ∧ Aside0 (impl_lamps.Bx wr pc pf a) ∧ Aside0 (Below w.heap.size w wr)) (fun jv _ => 2 - (intOf jv).toNat)
  case atStart => exact ⟨0, (0, 0), rfl, by omega, HH, HX2, HB2⟩
  case round =>
    clear HH HX2 HB2
    obtain ⟨j, a, rfl, hj, HO, HX, HB⟩ := hrel
    by_cases hj2 : j < 2
    · have hd : decide ((j : Int) < 2) = true := decide_eq_true (by omega)
      have hdp : (j : Int) < 2 := by omega
      have ho := HO.out
      rw [show 2 - j = (2 - (j + 1)) + 1 by omega] at ho
      simp only [impl_lamps.outs] at ho
      obtain ⟨b, h1, h2⟩ := Option.bind_eq_some_iff.1 ho
      have HO2 := Aside0.mk h2
      have HJ := Aside0.mk hj2
      clear ho h2 HO
      unfold impl_lamps.one at h1
      cases rg with
      | false =>
        rw [if_neg (by simp)] at h1
        obtain ⟨u, hu, ht⟩ := Option.bind_eq_some_iff.1 h1
        have HU := Aside0.mk hu
        have HT := Aside0.mk ht
        clear h1 hu ht
        go_wp2_with (first | (go_at_call 34; refine (impl_isRing.calls _ _ false _ HRG.out).mono ?_; rintro e w3 ⟨rfl, ⟨nd, rfl⟩⟩) | (go_at_call 47; refine (HRL.out _ (pw_below_drewN HB.out _) j 0 HJ.out (by omega) 0 (-1) u HU.out).mono ?_; rintro e w3 ⟨rfl, hb3⟩; have HX3 := Aside0.mk ((HX.out.below (pw_below_drewN (Below.refl _ _) _)).below hb3); have HB3 := Aside0.mk (below_then (pw_below_drewN HB.out _) (pw_below_drewN HB.out _).size hb3); clear hb3) | (go_at_call 46; refine (HCL.out a u b _ HX3.out HT.out).mono ?_; rintro e w4 ⟨rfl, hx4, hb4⟩; have HX4 := Aside0.mk hx4; have HB4 := Aside0.mk (hb4 _ _ HB3.out HP.out.1 HP.out.2.1); clear hx4 hb4))
        go_roundw
        case rel => exact ⟨j + 1, b, by go_num, by omega, HO2, HX4, HB4⟩
        case measure => simp [intOf]; omega
      | true =>
        rw [if_pos rfl] at h1
        have HI := Aside0.mk (show impl_lamps.ins row fixed j (2 - 0) 0 a = some b from h1)
        clear h1
        go_wp2_with (go_at_call 34; refine (impl_isRing.calls _ _ true _ HRG.out).mono ?_; rintro e w3 ⟨rfl, ⟨nd, rfl⟩⟩; have HX3 := Aside0.mk (HX.out.below (pw_below_drewN (Below.refl _ _) nd)); have HB3 := Aside0.mk (pw_below_drewN HB.out nd))
        go_loopw [30] (fun lv wq => ∃ (l : Nat) (a : Nat × Nat), lv = .int .i64 l ∧ l ≤ 2 ∧ Aside0 (impl_lamps.ins row fixed j (2 - l) l a = some b) ∧ Aside0 (impl_lamps.Bx wq pc pf a) ∧ Aside0 (Below w.heap.size w wq)) (fun lv _ => 2 - (intOf lv).toNat)
        case atStart => exact ⟨0, a, rfl, by omega, HI, HX3, HB3⟩
        case round =>
          clear HI HX HB HX3 HB3
          clear a
          obtain ⟨l, a, rfl, hl, HI, HX, HB⟩ := hrel
          by_cases hl2 : l < 2
          · have hd2 : decide ((l : Int) < 2) = true := decide_eq_true (by omega)
            have hdp2 : (l : Int) < 2 := by omega
            have hi := HI.out
            rw [show 2 - l = (2 - (l + 1)) + 1 by omega] at hi
            simp only [impl_lamps.ins] at hi
            obtain ⟨b2, h1, h2⟩ := Option.bind_eq_some_iff.1 hi
            obtain ⟨u, hu, ht⟩ := Option.bind_eq_some_iff.1 h1
            have HU := Aside0.mk hu
            have HT := Aside0.mk ht
            have HI2 := Aside0.mk h2
            have HL := Aside0.mk hl2
            clear hi h1 h2 hu ht HI
            go_wp2_with (first | (go_at_call 47; refine (HRL.out _ HB.out j l HJ.out HL.out (j : Int) (l : Int) u HU.out).mono ?_; rintro e w3 ⟨rfl, hb3⟩; have HX3 := Aside0.mk (HX.out.below hb3); have HB3 := Aside0.mk (below_then HB.out HB.out.size hb3); clear hb3) | (go_at_call 46; refine (HCL.out a u b2 _ HX3.out HT.out).mono ?_; rintro e w4 ⟨rfl, hx4, hb4⟩; have HX4 := Aside0.mk hx4; have HB4 := Aside0.mk (hb4 _ _ HB3.out HP.out.1 HP.out.2.1); clear hx4 hb4))
            go_roundw
            case rel => exact ⟨l + 1, b2, by go_num, by omega, HI2, HX4, HB4⟩
            case measure => simp [intOf]; omega
          · obtain rfl : l = 2 := by omega
            have hab : a = b := Option.some.inj HI.out
            have HAB := Aside0.mk hab
            clear hab hl hl2
            go_wp2
            go_roundw
            case rel => exact ⟨j + 1, b, by go_num, by omega, HO2, ⟨by rw [← HAB.out]; exact HX.out⟩, HB⟩
            case measure => simp [intOf]; omega
    · obtain rfl : j = 2 := by omega
      have hav : a = v := Option.some.inj HO.out
      subst hav
      have hpc : wr.cell? ⟨pc, 0, none⟩ = some (.int .i64 (a.2 : Int)) := cell_of_one HX.out.1
      have hpf : wr.cell? ⟨pf, 0, none⟩ = some (.int .i64 (a.1 : Int)) := cell_of_one HX.out.2
      clear hj hj2
      go_wp2
      go_quiet (fail)
      go_wp2
      go_ret2
      exact ⟨rfl, pw_below_drewN HB.out _⟩
theorem impl_lamps.calls (a0 : ByteArray) (A1 : Option Addr) (c1 : Nat) (l1 : List Int) (a2 : Bool) (r1 r2 : Int) (w : World) (hr1 : Kd.C (Kd.int .i64) w A1 l1.length l1) (hc1 : l1.length ≤ c1) (h : impl_lamps.f a0 l1 a2 = some (r1, r2)) :
    Calls Try.prog 28 #[.string a0, .slice A1 l1.length c1, .bool a2] w fun e w' => e = .returned (.tuple #[.int .i64 r1, .int .i64 r2]) ∧ Below w.heap.size w w' := by
  unfold impl_lamps.f at h
  obtain ⟨⟨hz, hl⟩, h⟩ := Option.ite_none_right_eq_some.1 h
  obtain ⟨v, hv, e⟩ := Option.map_eq_some_iff.1 h
  obtain ⟨rfl, rfl⟩ := Prod.mk.inj e
  exact impl_lamps.walk a0 A1 c1 l1 a2 w hz hl hr1 hc1 v hv

/-! ### impl_FirstLamps: function 6 -/
def impl_FirstLamps.l0 : Nat → ByteArray → Bool → List Int → Int → List Int → Int → Int → Option (List Int × Bool)
  | 0, _, _, _, _, _, _, _ => none
  | k + 1, x0, x1, x6, x7, x9, x26, x27 => if x27 < x26 then (if 0 ≤ x27 then (if x27 < (x6.length : Int) then ((some (x6.set (x27 : Int).toNat 1 : List Int)).bind fun y117 => ((impl_lamps.f x0 y117 x1).bind fun bt118 => (if bt118.2 > 0 then (if bt118.1 = x7 then (if x9.length < 17592186044416 then (impl_FirstLamps.l0 k x0 x1 y117 x7 (x9 ++ [x27]) x26 (wrap64 (x27 + 1))) else (none)) else (impl_FirstLamps.l0 k x0 x1 (y117.set (x27 : Int).toNat 0) x7 x9 x26 (wrap64 (x27 + 1)))) else (impl_FirstLamps.l0 k x0 x1 (y117.set (x27 : Int).toNat 0) x7 x9 x26 (wrap64 (x27 + 1)))))) else (none)) else (none)) else (some (x9, true))
def impl_FirstLamps.f (k : Nat) (a0 : ByteArray) (a1 : Bool) : Option (List Int × Bool) := (impl_IsLitRow.f k a0).bind fun t111 => (if t111 = true then ((impl_free.f a0).bind fun t112 => ((impl_lamps.f a0 t112 a1).bind fun bt115 => (impl_FirstLamps.l0 k a0 a1 t112 bt115.1 ([] : List Int) (t112.length : Int) 0))) else (some (([] : List Int), false)))
theorem impl_FirstLamps.mono_l : ∀ k, (∀ y0 y1 y2 y3 y4 y5 y6, LeO (impl_FirstLamps.l0 k y0 y1 y2 y3 y4 y5 y6) (impl_FirstLamps.l0 (k + 1) y0 y1 y2 y3 y4 y5 y6))
  | 0 => fun _ _ _ _ _ _ _ r h => by simp [impl_FirstLamps.l0] at h
  | k + 1 => by
    have ih0 := impl_FirstLamps.mono_l k
    · intro y0 y1 y2 y3 y4 y5 y6
      unfold impl_FirstLamps.l0
      repeat' first
      | (with_reducible exact ih0 _ _ _ _ _ _ _)
      | (with_reducible exact impl_IsLitRow.mono _ _)
      | (with_reducible exact LeO.refl _)
      | (with_reducible exact LeO.none _)
      | (with_reducible refine LeO.ite ?_ ?_)
      | (with_reducible refine LeO.bind ?_ (fun _ => ?_))
      | exact ih0 _ _ _ _ _ _ _
      | exact impl_IsLitRow.mono _ _
      | exact LeO.none _
      | refine LeO.ite ?_ ?_
      | refine LeO.bind ?_ (fun _ => ?_)
theorem impl_FirstLamps.mono : ∀ a0 a1 k, LeO (impl_FirstLamps.f k a0 a1) (impl_FirstLamps.f (k + 1) a0 a1) := by
  intro a0 a1 k
  have ih0 := impl_FirstLamps.mono_l k
  unfold impl_FirstLamps.f
  repeat' first
      | (with_reducible exact ih0 _ _ _ _ _ _ _)
      | (with_reducible exact impl_IsLitRow.mono _ _)
      | (with_reducible exact LeO.refl _)
      | (with_reducible exact LeO.none _)
      | (with_reducible refine LeO.ite ?_ ?_)
      | (with_reducible refine LeO.bind ?_ (fun _ => ?_))
      | exact ih0 _ _ _ _ _ _ _
      | exact impl_IsLitRow.mono _ _
      | exact LeO.none _
      | refine LeO.ite ?_ ?_
      | refine LeO.bind ?_ (fun _ => ?_)
set_option maxHeartbeats 8000000 in
set_option maxRecDepth 100000 in
theorem impl_FirstLamps.calls (k : Nat) (a0 : ByteArray) (a1 : Bool) (r1 : List Int) (r2 : Bool) (w : World) (h : impl_FirstLamps.f k a0 a1 = some (r1, r2)) :
    Calls Try.prog 6 #[.string a0, .bool a1] w fun e w' => ∃ v0_ : Value, e = .returned (.tuple #[v0_, .bool r2]) ∧ Kd.R (Kd.int .i64) 3 w' w.heap.size (fun _ => True) v0_ r1 ∧ Below w.heap.size w w' := by
  have HB := Aside0.mk (Below.refl w.heap.size w)
  have H : ((impl_IsLitRow.f k a0).bind fun t111 => (if t111 = true then ((impl_free.f a0).bind fun t112 => ((impl_lamps.f a0 t112 a1).bind fun bt115 => (impl_FirstLamps.l0 k a0 a1 t112 bt115.1 ([] : List Int) (t112.length : Int) 0))) else (some (([] : List Int), false)))) = some (r1, r2) := h
  clear h
  replace H := Option.bind_eq_some_iff.mp H
  obtain ⟨t111, A30, H⟩ := H
  replace H : (if t111 = true then ((impl_free.f a0).bind fun t112 => ((impl_lamps.f a0 t112 a1).bind fun bt115 => (impl_FirstLamps.l0 k a0 a1 t112 bt115.1 ([] : List Int) (t112.length : Int) 0))) else (some (([] : List Int), false))) = some (r1, r2) := H
  have A3 := Aside0.mk A30
  clear A30
  by_cases c4 : t111 = true
  · subst c4
    have H1 : ((impl_free.f a0).bind fun t112 => ((impl_lamps.f a0 t112 a1).bind fun bt115 => (impl_FirstLamps.l0 k a0 a1 t112 bt115.1 ([] : List Int) (t112.length : Int) 0))) = some (r1, r2) := by rw [if_pos rfl] at H; exact H
    clear H
    have H := H1
    clear H1
    replace H := Option.bind_eq_some_iff.mp H
    obtain ⟨t112, A50, H⟩ := H
    replace H : ((impl_lamps.f a0 t112 a1).bind fun bt115 => (impl_FirstLamps.l0 k a0 a1 t112 bt115.1 ([] : List Int) (t112.length : Int) 0)) = some (r1, r2) := H
    have A5 := Aside0.mk A50
    clear A50
    replace H := Option.bind_eq_some_iff.mp H
    obtain ⟨⟨t115, t116⟩, A60, H⟩ := H
    replace H : (impl_FirstLamps.l0 k a0 a1 t112 t115 ([] : List Int) (t112.length : Int) 0) = some (r1, r2) := H
    have A6 := Aside0.mk A60
    clear A60
    have H' := Aside0.mk H
    clear H
    go_enter Try.func6, Try.ntmps6
    go_wp2_with (first | ((with_reducible refine gate_callee (f := 13) rfl ?_); refine goesL_ (some 14) rfl rfl Try.func13 (by kernel_rfl) rfl #[.string a0] rfl (by (try simp only [List.map_toArray, List.map_cons, List.map_nil]); first | done | rfl | (simp only [List.length_drop, List.length_take]; rfl)) ?_; (with_reducible refine (impl_IsLitRow.calls k a0 true _ A3.out).mono ?_); rintro e w' ⟨rfl, ⟨nd, rfl⟩⟩; refine ⟨_, rfl, ?_⟩) | ((with_reducible refine gate_callee (f := 27) rfl ?_); refine goesL_ (some 17) rfl rfl Try.func27 (by kernel_rfl) rfl #[.string a0] rfl (by (try simp only [List.map_toArray, List.map_cons, List.map_nil]); first | done | rfl | (simp only [List.length_drop, List.length_take]; rfl)) ?_; (with_reducible refine (impl_free.calls a0 t112 _ A5.out).mono ?_); rintro e w7 ⟨v113, rfl, ho0, hb⟩; refine ⟨_, rfl, ?_⟩; have n0_ := Aside0.mk (Kd.R_lower ho0 (below_size (by repeat (first | (with_reducible first | exact HB.out | apply below_alloc | apply pw_below_drewN | apply below_drew1) | exact HB.out)))); have n1_ := Aside0.mk (below_step (by repeat (first | (with_reducible first | exact HB.out | apply below_alloc | apply pw_below_drewN | apply below_drew1) | exact HB.out)) hb); clear HB; have HO114 := n0_; have HB := n1_; clear n0_ n1_; (try clear hb); (try clear hb2); (try clear hk); (try clear hi); (try clear ho0); obtain ⟨Ao8, co8, eo8⟩ := Kd.R_slice HO114.out; subst eo8) | ((with_reducible refine gate_callee (f := 28) rfl ?_); refine goesL_ (some 22) rfl rfl Try.func28 (by kernel_rfl) rfl #[.string a0, .slice Ao8 t112.length co8, .bool a1] rfl (by (try simp only [List.map_toArray, List.map_cons, List.map_nil]); first | done | rfl | (simp only [List.length_drop, List.length_take]; rfl)) ?_; (with_reducible refine (impl_lamps.calls a0 _ _ t112 a1 t115 t116 _ ?side1 ?side2 A6.out).mono ?_); (case side1 => repeat (first | exact (Kd.R_reads' HO114.out).2.2 | (with_reducible refine Kd.C_alloc ?_ _) | (with_reducible refine Kd.C_drewN ?_ _) | (with_reducible refine Kd.C_drew ?_))); (case side2 => exact (Kd.R_reads' HO114.out).2.1); rintro e w9 ⟨rfl, hb⟩; refine ⟨_, rfl, ?_⟩; have n0_ := Aside0.mk (Kd.R_below (by (with_reducible repeat (first | apply Kd.R_alloc | apply Kd.R_drewN | apply Kd.R_drew)); exact HO114.out) hb); have n1_ := Aside0.mk (below_step (by repeat (first | (with_reducible first | exact HB.out | apply below_alloc | apply pw_below_drewN | apply below_drew1) | exact HB.out)) hb); clear HO114; clear HB; have HO114 := n0_; have HB := n1_; clear n0_ n1_; (try clear hb); (try clear hb2); (try clear hk); (try clear hi)))
    go_loopg [9, 27] k (fun kq v9 v27 w' => ∃ (x6_1 : List Int) (x9_1 : List Int) (x27_1 : Int), v27 = .int .i64 x27_1 ∧ Aside0 (impl_FirstLamps.l0 kq a0 a1 x6_1 t115 x9_1 (t112.length : Int) x27_1 = some (r1, r2)) ∧ Aside0 (kq ≤ k) ∧ Aside0 (Kd.R (Kd.int .i64) 3 w' w.heap.size (fun k_ => some k_ ≠ (v9 : Value).ownBlock) (.slice Ao8 t112.length co8) x6_1) ∧ Aside0 (Kd.R (Kd.int .i64) 3 w' w.heap.size (fun k_ => some k_ ≠ ((.slice Ao8 t112.length co8) : Value).ownBlock) v9 x9_1) ∧ Aside0 (Below w.heap.size w w'))
    case atStart => exact ⟨(t112), (([] : List Int)), (0), (by first | rfl | (simp; done) | (simp [*]; done)), H', ⟨Nat.le_refl _⟩, ⟨by (with_reducible repeat (first | apply Kd.R_alloc | apply Kd.R_drewN | apply Kd.R_drew)); exact Kd.R_mono HO114.out (fun _ hk => (by simp [Value.ownBlock]))⟩, ⟨by first | exact Kd.R_nil _ _ _ _ _ | exact Kd.N_nil _ _ _ _ _ | exact Kd.V_nil _ _ _ _ _ | exact Kd.Q_nil _ _ _ _ _ | exact Kd.S_nil _ _ _ _ _⟩, ⟨by repeat (first | (with_reducible first | exact HB.out | apply below_alloc | apply pw_below_drewN | apply below_drew1) | exact HB.out)⟩⟩
    case round =>
      clear H'
      try clear c1
      try clear c2
      try clear p2
      try clear c4
      try clear c6
      obtain ⟨x6_1, x9_1, x27_1, rfl, HA, HK1, HO_6, HO_9, HB⟩ := hrel
      have hl6_1 := (Kd.R_reads' HO_6.out).1
      rw [hl6_1] at HO_6
      (try simp only [hl6_1])
      (try simp only [hl6_1] at HO_9)
      cases gk with
      | zero => exact absurd HA.out (by simp [impl_FirstLamps.l0])
      | succ k1 =>
        have H := HA.out
        clear HA
        simp only [impl_FirstLamps.l0] at H
        by_cases c10 : x27_1 < (t112.length : Int)
        · rw [if_pos c10] at H
          have c10b0 : decide (x27_1 < (t112.length : Int)) = true := decide_eq_true c10
          clear c10
          by_cases c11 : 0 ≤ x27_1
          · rw [if_pos c11] at H
            have c11b0 : decide (0 ≤ x27_1) = true := decide_eq_true c11
            clear c11
            by_cases c12 : x27_1 < (x6_1.length : Int)
            · rw [if_pos c12] at H
              have c12b0 : decide (x27_1 < (x6_1.length : Int)) = true := decide_eq_true c12
              clear c12
              obtain ⟨y117, hy117⟩ : ∃ y_ : List Int, y_ = (x6_1.set (x27_1 : Int).toNat 1) := ⟨_, rfl⟩
              replace H : ((impl_lamps.f a0 y117 a1).bind fun bt118 => (if bt118.2 > 0 then (if bt118.1 = t115 then (if x9_1.length < 17592186044416 then (impl_FirstLamps.l0 k1 a0 a1 y117 t115 (x9_1 ++ [x27_1]) (t112.length : Int) (wrap64 (x27_1 + 1))) else (none)) else (impl_FirstLamps.l0 k1 a0 a1 (y117.set (x27_1 : Int).toNat 0) t115 x9_1 (t112.length : Int) (wrap64 (x27_1 + 1)))) else (impl_FirstLamps.l0 k1 a0 a1 (y117.set (x27_1 : Int).toNat 0) t115 x9_1 (t112.length : Int) (wrap64 (x27_1 + 1))))) = some (r1, r2) := by first | (rw [hy117]; with_reducible exact H) | (have H2_ := (Option.bind_some _ _).symm.trans H; rw [hy117]; with_reducible exact H2_) | (have H2_ := (Option.bind_some _ _).symm.trans H; with_reducible exact H2_) | with_reducible exact H | (rw [hy117]; exact H) | exact H
              have Ny117 := Aside0.mk hy117
              clear hy117
              replace H := Option.bind_eq_some_iff.mp H
              obtain ⟨⟨t118, t119⟩, A140, H⟩ := H
              replace H : (if t119 > 0 then (if t118 = t115 then (if x9_1.length < 17592186044416 then (impl_FirstLamps.l0 k1 a0 a1 y117 t115 (x9_1 ++ [x27_1]) (t112.length : Int) (wrap64 (x27_1 + 1))) else (none)) else (impl_FirstLamps.l0 k1 a0 a1 (y117.set (x27_1 : Int).toNat 0) t115 x9_1 (t112.length : Int) (wrap64 (x27_1 + 1)))) else (impl_FirstLamps.l0 k1 a0 a1 (y117.set (x27_1 : Int).toNat 0) t115 x9_1 (t112.length : Int) (wrap64 (x27_1 + 1)))) = some (r1, r2) := H
              have A14 := Aside0.mk A140
              clear A140
              by_cases c15 : t119 > 0
              · rw [if_pos c15] at H
                have c15b0 : decide (0 < t119) = true := decide_eq_true c15
                clear c15
                by_cases c16 : t118 = t115
                · rw [if_pos c16] at H
                  have c16b0 : (t118 == t115) = true := beq_iff_eq.mpr c16
                  have c16b1 : (t118 != t115) = false := bne_eq_false_iff_eq.mpr c16
                  clear c16
                  by_cases c17 : x9_1.length < 17592186044416
                  · rw [if_pos c17] at H
                    have LMc17 := Aside0.mk c17
                    clear c17
                    obtain ⟨y120, hy120⟩ : ∃ y_ : List Int, y_ = (x9_1 ++ [x27_1]) := ⟨_, rfl⟩
                    replace H : (impl_FirstLamps.l0 k1 a0 a1 y117 t115 y120 (t112.length : Int) (wrap64 (x27_1 + 1))) = some (r1, r2) := by first | (rw [hy120]; with_reducible exact H) | (have H2_ := (Option.bind_some _ _).symm.trans H; rw [hy120]; with_reducible exact H2_) | (have H2_ := (Option.bind_some _ _).symm.trans H; with_reducible exact H2_) | with_reducible exact H | (rw [hy120]; exact H) | exact H
                    have Ny120 := Aside0.mk hy120
                    clear hy120
                    have H' := Aside0.mk H
                    clear H
                    have p13 : 0 ≤ (x27_1 : Int) := of_decide_eq_true (by first | (with_reducible assumption) | assumption)
                    have q13 : (x27_1 : Int) < ((x6_1.length : Int) : Int) := of_decide_eq_true (by first | (with_reducible assumption) | assumption)
                    obtain ⟨go13, co13, eo13, gb13, gl13, cl13, HG13⟩ := Kd.R_form HO_6.out (by omega)
                    (first | cases eo13 | (injection eo13 with ea_ en_ ec_; (first | subst ea_ | (injection ea_ with ea_; subst ea_)); subst ec_; clear en_))
                    have GB13 := Aside0.mk gb13
                    have GG13 := Aside0.mk HG13
                    clear gb13 gl13 HG13
                    obtain ⟨hx13_0, hf13_0⟩ := Kd.R_celln 0 HO_6.out (x27_1 : Int) p13 q13
                    replace p13 := eq_true p13
                    replace q13 := eq_true q13
                    have HP18 := Kd.R_putg HO_6.out (x27_1 : Int) 1
                    go_wp2_with (first | ((with_reducible refine gate_store (t := 3) (p := 32) rfl ?_); refine store_event (t := 3) (p := 32) (v := ?vo_w19) (w1 := (wr.setCell ⟨go13, (x27_1 : Int).toNat, none⟩ (.int .i64 1))) ?hg ?ho ?hn ?hr ?_; (case ho => rfl); (case hg => rfl); (case hn => rfl); (case hr => first | (go_simp; done) | (go_simp; rfl)); intro w19 hw; have hg : wr.grownBy w19 (some go13) := (by rw [hw]; exact HP18.2); have hp_ : Kd.R (Kd.int .i64) 3 w19 w.heap.size (fun k_ => some k_ ≠ (u9 : Value).ownBlock) (.slice (some ⟨go13, 0, none⟩) x6_1.length co8) y117 := (by rw [hw, Ny117.out]; exact HP18.1); clear HP18; have n0_ := Aside0.mk (hp_); have n1_ := Aside0.mk (Kd.R_after (v := (.slice (some ⟨go13, 0, none⟩) x6_1.length co8)) (v1 := (.slice (some ⟨go13, 0, none⟩) x6_1.length co8)) (ok := (fun _ => True)) (by (with_reducible repeat (first | apply Kd.R_alloc | apply Kd.R_drewN | apply Kd.R_drew)); exact Kd.R_mono HO_9.out (fun _ hk => ⟨trivial, hk⟩)) hg (.inl rfl)); have n2_ := Aside0.mk ((by rw [hw]; exact below_set (HB.out) GB13.out : Below w.heap.size w w19)); clear HO_6; clear HO_9; clear HB; have HO_6 := n0_; have HO_9 := n1_; have HB := n2_; clear n0_ n1_ n2_; clear hg hw hp_) | ((with_reducible refine gate_callee (f := 28) rfl ?_); refine goesL_ (some 37) rfl rfl Try.func28 (by kernel_rfl) rfl #[.string a0, .slice (some ⟨go13, 0, none⟩) y117.length co8, .bool a1] rfl (by (try simp only [List.map_toArray, List.map_cons, List.map_nil]); first | done | (rw [show y117.length = x6_1.length from (Kd.R_reads' HO_6.out).1.symm] <;> rfl) | rfl | (simp only [List.length_drop, List.length_take]; rfl)) ?_; (with_reducible refine (impl_lamps.calls a0 _ _ y117 a1 t118 t119 _ ?side1 ?side2 A14.out).mono ?_); (case side1 => repeat (first | exact (Kd.R_reads' HO_6.out).2.2 | (with_reducible refine Kd.C_alloc ?_ _) | (with_reducible refine Kd.C_drewN ?_ _) | (with_reducible refine Kd.C_drew ?_))); (case side2 => rw [show y117.length = x6_1.length from (Kd.R_reads' HO_6.out).1.symm]; exact (Kd.R_reads' HO_6.out).2.1); rintro e w20 ⟨rfl, hb⟩; refine ⟨_, rfl, ?_⟩; have n0_ := Aside0.mk (Kd.R_below (by (with_reducible repeat (first | apply Kd.R_alloc | apply Kd.R_drewN | apply Kd.R_drew)); exact HO_6.out) hb); have n1_ := Aside0.mk (Kd.R_below (by (with_reducible repeat (first | apply Kd.R_alloc | apply Kd.R_drewN | apply Kd.R_drew)); exact HO_9.out) hb); have n2_ := Aside0.mk (below_step (by repeat (first | (with_reducible first | exact HB.out | apply below_alloc | apply pw_below_drewN | apply below_drew1) | exact HB.out)) hb); clear HO_6; clear HO_9; clear HB; have HO_6 := n0_; have HO_9 := n1_; have HB := n2_; clear n0_ n1_ n2_; (try clear hb); (try clear hb2); (try clear hk); (try clear hi)) | ((with_reducible refine gate_builtin (b := .append) (xs := #[.tmp 47, .tmp 49]) rfl ?_); at_builtin; refine Kd.R_append (Kd.int .i64) (w0 := w) w.heap.size rfl (.tmp 47) (.tmp 49) 26 3 (.int .i64 0) 8 rfl Try.underlying26 info3 rfl (by decide) (by omega) u9 x9_1 x27_1 [.int .i64 x27_1] (fun k_ => some k_ ≠ (.slice (some ⟨go13, 0, none⟩) x6_1.length co8 : Value).ownBlock) (fun _ => False) rfl rfl ?aP (fun _ hk => hk.elim) ?aF ?aO ?aB ?aS ?aL ?_; (case aP => exact rfl); (case aB => exact (by repeat (first | (with_reducible first | exact HB.out | apply below_alloc | apply pw_below_drewN | apply below_drew1) | exact HB.out))); (case aF => exact (fun k_ hk => Kd.fresh' (Kd.R_lt (by (with_reducible repeat (first | apply Kd.R_alloc | apply Kd.R_drewN | apply Kd.R_drew)); exact HO_6.out)) k_ hk)); (case aO => exact (by (with_reducible repeat (first | apply Kd.R_alloc | apply Kd.R_drewN | apply Kd.R_drew)); exact Kd.R_mono HO_9.out (fun _ hk => hk.2))); (case aS => exact (below_size (by repeat (first | (with_reducible first | exact HB.out | apply below_alloc | apply pw_below_drewN | apply below_drew1) | exact HB.out)))); (case aL => have := LMc17.out; omega); intro v121 w21 ho hb hg hat; rw [← Ny120.out] at ho; have n0_ := Aside0.mk (Kd.R_after (ok := (fun _ => True)) (by (with_reducible repeat (first | apply Kd.R_alloc | apply Kd.R_drewN | apply Kd.R_drew)); exact Kd.R_mono HO_6.out (fun _ hk => ⟨trivial, hk⟩)) hg hat); have n1_ := Aside0.mk (hb); have n2_ := Aside0.mk (ho); clear HO_6; clear HB; clear HO_9; have HO_6 := n0_; have HB := n1_; have HO122 := n2_; clear n0_ n1_ n2_; clear ho hb hg hat))
                    (try simp only [← hl6_1])
                    go_roundg k1
                    case measure => have := HK1.out; omega
                    case rel => exact ⟨(y117), (y120), (wrap64 (x27_1 + 1)), (by first | rfl | (simp; done) | (simp [*]; done)), H', ⟨by have := HK1.out; omega⟩, ⟨by (try simp only [hl6_1]); (with_reducible repeat (first | apply Kd.R_alloc | apply Kd.R_drewN | apply Kd.R_drew)); exact Kd.R_mono HO_6.out (fun _ hk => hk.2)⟩, ⟨by (try simp only [hl6_1]); (with_reducible repeat (first | apply Kd.R_alloc | apply Kd.R_drewN | apply Kd.R_drew)); exact HO122.out⟩, ⟨by repeat (first | (with_reducible first | exact HB.out | apply below_alloc | apply pw_below_drewN | apply below_drew1) | exact HB.out)⟩⟩
                  · rw [if_neg c17] at H
                    exact absurd H (by simp)
                · rw [if_neg c16] at H
                  have c16b0 : (t118 == t115) = false := beq_eq_false_iff_ne.mpr c16
                  have c16b1 : (t118 != t115) = true := bne_iff_ne.mpr c16
                  obtain ⟨y123, hy123⟩ : ∃ y_ : List Int, y_ = (y117.set (x27_1 : Int).toNat 0) := ⟨_, rfl⟩
                  replace H : (impl_FirstLamps.l0 k1 a0 a1 y123 t115 x9_1 (t112.length : Int) (wrap64 (x27_1 + 1))) = some (r1, r2) := by first | (rw [hy123]; with_reducible exact H) | (have H2_ := (Option.bind_some _ _).symm.trans H; rw [hy123]; with_reducible exact H2_) | (have H2_ := (Option.bind_some _ _).symm.trans H; with_reducible exact H2_) | with_reducible exact H | (rw [hy123]; exact H) | exact H
                  have Ny123 := Aside0.mk hy123
                  clear hy123
                  have H' := Aside0.mk H
                  clear H
                  have p13 : 0 ≤ (x27_1 : Int) := of_decide_eq_true (by first | (with_reducible assumption) | assumption)
                  have q13 : (x27_1 : Int) < ((x6_1.length : Int) : Int) := of_decide_eq_true (by first | (with_reducible assumption) | assumption)
                  obtain ⟨go13, co13, eo13, gb13, gl13, cl13, HG13⟩ := Kd.R_form HO_6.out (by omega)
                  (first | cases eo13 | (injection eo13 with ea_ en_ ec_; (first | subst ea_ | (injection ea_ with ea_; subst ea_)); subst ec_; clear en_))
                  have GB13 := Aside0.mk gb13
                  have GG13 := Aside0.mk HG13
                  clear gb13 gl13 HG13
                  obtain ⟨hx13_0, hf13_0⟩ := Kd.R_celln 0 HO_6.out (x27_1 : Int) p13 q13
                  replace p13 := eq_true p13
                  replace q13 := eq_true q13
                  have HP23 := Kd.R_putg HO_6.out (x27_1 : Int) 1
                  go_wp2_with (first | ((with_reducible refine gate_store (t := 3) (p := 32) rfl ?_); refine store_event (t := 3) (p := 32) (v := ?vo_w24) (w1 := (wr.setCell ⟨go13, (x27_1 : Int).toNat, none⟩ (.int .i64 1))) ?hg ?ho ?hn ?hr ?_; (case ho => rfl); (case hg => rfl); (case hn => rfl); (case hr => first | (go_simp; done) | (go_simp; rfl)); intro w24 hw; have hg : wr.grownBy w24 (some go13) := (by rw [hw]; exact HP23.2); have hp_ : Kd.R (Kd.int .i64) 3 w24 w.heap.size (fun k_ => some k_ ≠ (u9 : Value).ownBlock) (.slice (some ⟨go13, 0, none⟩) x6_1.length co8) y117 := (by rw [hw, Ny117.out]; exact HP23.1); clear HP23; have n0_ := Aside0.mk (hp_); have n1_ := Aside0.mk (Kd.R_after (v := (.slice (some ⟨go13, 0, none⟩) x6_1.length co8)) (v1 := (.slice (some ⟨go13, 0, none⟩) x6_1.length co8)) (ok := (fun _ => True)) (by (with_reducible repeat (first | apply Kd.R_alloc | apply Kd.R_drewN | apply Kd.R_drew)); exact Kd.R_mono HO_9.out (fun _ hk => ⟨trivial, hk⟩)) hg (.inl rfl)); have n2_ := Aside0.mk ((by rw [hw]; exact below_set (HB.out) GB13.out : Below w.heap.size w w24)); clear HO_6; clear HO_9; clear HB; have HO_6 := n0_; have HO_9 := n1_; have HB := n2_; clear n0_ n1_ n2_; clear hg hw hp_) | ((with_reducible refine gate_callee (f := 28) rfl ?_); refine goesL_ (some 37) rfl rfl Try.func28 (by kernel_rfl) rfl #[.string a0, .slice (some ⟨go13, 0, none⟩) y117.length co8, .bool a1] rfl (by (try simp only [List.map_toArray, List.map_cons, List.map_nil]); first | done | (rw [show y117.length = x6_1.length from (Kd.R_reads' HO_6.out).1.symm] <;> rfl) | rfl | (simp only [List.length_drop, List.length_take]; rfl)) ?_; (with_reducible refine (impl_lamps.calls a0 _ _ y117 a1 t118 t119 _ ?side1 ?side2 A14.out).mono ?_); (case side1 => repeat (first | exact (Kd.R_reads' HO_6.out).2.2 | (with_reducible refine Kd.C_alloc ?_ _) | (with_reducible refine Kd.C_drewN ?_ _) | (with_reducible refine Kd.C_drew ?_))); (case side2 => rw [show y117.length = x6_1.length from (Kd.R_reads' HO_6.out).1.symm]; exact (Kd.R_reads' HO_6.out).2.1); rintro e w25 ⟨rfl, hb⟩; refine ⟨_, rfl, ?_⟩; have n0_ := Aside0.mk (Kd.R_below (by (with_reducible repeat (first | apply Kd.R_alloc | apply Kd.R_drewN | apply Kd.R_drew)); exact HO_6.out) hb); have n1_ := Aside0.mk (Kd.R_below (by (with_reducible repeat (first | apply Kd.R_alloc | apply Kd.R_drewN | apply Kd.R_drew)); exact HO_9.out) hb); have n2_ := Aside0.mk (below_step (by repeat (first | (with_reducible first | exact HB.out | apply below_alloc | apply pw_below_drewN | apply below_drew1) | exact HB.out)) hb); clear HO_6; clear HO_9; clear HB; have HO_6 := n0_; have HO_9 := n1_; have HB := n2_; clear n0_ n1_ n2_; (try clear hb); (try clear hb2); (try clear hk); (try clear hi); have p22 : 0 ≤ (x27_1 : Int) := of_decide_eq_true (by first | (with_reducible assumption) | assumption); have q22 : (x27_1 : Int) < ((x6_1.length : Int) : Int) := of_decide_eq_true (by first | (with_reducible assumption) | assumption); obtain ⟨hx22_0, hf22_0⟩ := Kd.R_celln 0 HO_6.out (x27_1 : Int) p22 q22; replace p22 := eq_true p22; replace q22 := eq_true q22; obtain ⟨hy26_, hz26_⟩ := Kd.R_celln 0 HO_6.out (x27_1 : Int) (of_decide_eq_true (by first | (with_reducible assumption) | assumption)) (of_decide_eq_true (by first | (with_reducible assumption) | assumption)); have HP26 := Kd.R_putg HO_6.out (x27_1 : Int) 0) | ((with_reducible refine gate_store (t := 3) (p := 53) rfl ?_); refine store_event (t := 3) (p := 53) (v := ?vo_w27) (w1 := (w25.setCell ⟨go13, (x27_1 : Int).toNat, none⟩ (.int .i64 0))) ?hg ?ho ?hn ?hr ?_; (case ho => rfl); (case hg => rfl); (case hn => rfl); (case hr => first | (go_simp; done) | (go_simp; rfl)); intro w27 hw; have hg : w25.grownBy w27 (some go13) := (by rw [hw]; exact HP26.2); have hp_ : Kd.R (Kd.int .i64) 3 w27 w.heap.size (fun k_ => some k_ ≠ (u9 : Value).ownBlock) (.slice (some ⟨go13, 0, none⟩) x6_1.length co8) y123 := (by rw [hw, Ny123.out]; exact HP26.1); clear HP26; have n0_ := Aside0.mk (hp_); have n1_ := Aside0.mk (Kd.R_after (v := (.slice (some ⟨go13, 0, none⟩) x6_1.length co8)) (v1 := (.slice (some ⟨go13, 0, none⟩) x6_1.length co8)) (ok := (fun _ => True)) (by (with_reducible repeat (first | apply Kd.R_alloc | apply Kd.R_drewN | apply Kd.R_drew)); exact HO_9.out) hg (.inl rfl)); have n2_ := Aside0.mk ((by rw [hw]; exact below_set (HB.out) GB13.out : Below w.heap.size w w27)); clear HO_6; clear HO_9; clear HB; have HO_6 := n0_; have HO_9 := n1_; have HB := n2_; clear n0_ n1_ n2_; clear hg hw hp_))
                  (try simp only [← hl6_1])
                  go_roundg k1
                  case measure => have := HK1.out; omega
                  case rel => exact ⟨(y123), (x9_1), (wrap64 (x27_1 + 1)), (by first | rfl | (simp; done) | (simp [*]; done)), H', ⟨by have := HK1.out; omega⟩, ⟨by (try simp only [hl6_1]); (with_reducible repeat (first | apply Kd.R_alloc | apply Kd.R_drewN | apply Kd.R_drew)); exact HO_6.out⟩, ⟨by (try simp only [hl6_1]); (with_reducible repeat (first | apply Kd.R_alloc | apply Kd.R_drewN | apply Kd.R_drew)); exact Kd.R_mono HO_9.out (fun _ hk => hk.2)⟩, ⟨by repeat (first | (with_reducible first | exact HB.out | apply below_alloc | apply pw_below_drewN | apply below_drew1) | exact HB.out)⟩⟩
              · rw [if_neg c15] at H
                have c15b0 : decide (0 < t119) = false := decide_eq_false c15
                clear c15
                obtain ⟨y124, hy124⟩ : ∃ y_ : List Int, y_ = (y117.set (x27_1 : Int).toNat 0) := ⟨_, rfl⟩
                replace H : (impl_FirstLamps.l0 k1 a0 a1 y124 t115 x9_1 (t112.length : Int) (wrap64 (x27_1 + 1))) = some (r1, r2) := by first | (rw [hy124]; with_reducible exact H) | (have H2_ := (Option.bind_some _ _).symm.trans H; rw [hy124]; with_reducible exact H2_) | (have H2_ := (Option.bind_some _ _).symm.trans H; with_reducible exact H2_) | with_reducible exact H | (rw [hy124]; exact H) | exact H
                have Ny124 := Aside0.mk hy124
                clear hy124
                have H' := Aside0.mk H
                clear H
                have p13 : 0 ≤ (x27_1 : Int) := of_decide_eq_true (by first | (with_reducible assumption) | assumption)
                have q13 : (x27_1 : Int) < ((x6_1.length : Int) : Int) := of_decide_eq_true (by first | (with_reducible assumption) | assumption)
                obtain ⟨go13, co13, eo13, gb13, gl13, cl13, HG13⟩ := Kd.R_form HO_6.out (by omega)
                (first | cases eo13 | (injection eo13 with ea_ en_ ec_; (first | subst ea_ | (injection ea_ with ea_; subst ea_)); subst ec_; clear en_))
                have GB13 := Aside0.mk gb13
                have GG13 := Aside0.mk HG13
                clear gb13 gl13 HG13
                obtain ⟨hx13_0, hf13_0⟩ := Kd.R_celln 0 HO_6.out (x27_1 : Int) p13 q13
                replace p13 := eq_true p13
                replace q13 := eq_true q13
                have HP29 := Kd.R_putg HO_6.out (x27_1 : Int) 1
                go_wp2_with (first | ((with_reducible refine gate_store (t := 3) (p := 32) rfl ?_); refine store_event (t := 3) (p := 32) (v := ?vo_w30) (w1 := (wr.setCell ⟨go13, (x27_1 : Int).toNat, none⟩ (.int .i64 1))) ?hg ?ho ?hn ?hr ?_; (case ho => rfl); (case hg => rfl); (case hn => rfl); (case hr => first | (go_simp; done) | (go_simp; rfl)); intro w30 hw; have hg : wr.grownBy w30 (some go13) := (by rw [hw]; exact HP29.2); have hp_ : Kd.R (Kd.int .i64) 3 w30 w.heap.size (fun k_ => some k_ ≠ (u9 : Value).ownBlock) (.slice (some ⟨go13, 0, none⟩) x6_1.length co8) y117 := (by rw [hw, Ny117.out]; exact HP29.1); clear HP29; have n0_ := Aside0.mk (hp_); have n1_ := Aside0.mk (Kd.R_after (v := (.slice (some ⟨go13, 0, none⟩) x6_1.length co8)) (v1 := (.slice (some ⟨go13, 0, none⟩) x6_1.length co8)) (ok := (fun _ => True)) (by (with_reducible repeat (first | apply Kd.R_alloc | apply Kd.R_drewN | apply Kd.R_drew)); exact Kd.R_mono HO_9.out (fun _ hk => ⟨trivial, hk⟩)) hg (.inl rfl)); have n2_ := Aside0.mk ((by rw [hw]; exact below_set (HB.out) GB13.out : Below w.heap.size w w30)); clear HO_6; clear HO_9; clear HB; have HO_6 := n0_; have HO_9 := n1_; have HB := n2_; clear n0_ n1_ n2_; clear hg hw hp_) | ((with_reducible refine gate_callee (f := 28) rfl ?_); refine goesL_ (some 37) rfl rfl Try.func28 (by kernel_rfl) rfl #[.string a0, .slice (some ⟨go13, 0, none⟩) y117.length co8, .bool a1] rfl (by (try simp only [List.map_toArray, List.map_cons, List.map_nil]); first | done | (rw [show y117.length = x6_1.length from (Kd.R_reads' HO_6.out).1.symm] <;> rfl) | rfl | (simp only [List.length_drop, List.length_take]; rfl)) ?_; (with_reducible refine (impl_lamps.calls a0 _ _ y117 a1 t118 t119 _ ?side1 ?side2 A14.out).mono ?_); (case side1 => repeat (first | exact (Kd.R_reads' HO_6.out).2.2 | (with_reducible refine Kd.C_alloc ?_ _) | (with_reducible refine Kd.C_drewN ?_ _) | (with_reducible refine Kd.C_drew ?_))); (case side2 => rw [show y117.length = x6_1.length from (Kd.R_reads' HO_6.out).1.symm]; exact (Kd.R_reads' HO_6.out).2.1); rintro e w31 ⟨rfl, hb⟩; refine ⟨_, rfl, ?_⟩; have n0_ := Aside0.mk (Kd.R_below (by (with_reducible repeat (first | apply Kd.R_alloc | apply Kd.R_drewN | apply Kd.R_drew)); exact HO_6.out) hb); have n1_ := Aside0.mk (Kd.R_below (by (with_reducible repeat (first | apply Kd.R_alloc | apply Kd.R_drewN | apply Kd.R_drew)); exact HO_9.out) hb); have n2_ := Aside0.mk (below_step (by repeat (first | (with_reducible first | exact HB.out | apply below_alloc | apply pw_below_drewN | apply below_drew1) | exact HB.out)) hb); clear HO_6; clear HO_9; clear HB; have HO_6 := n0_; have HO_9 := n1_; have HB := n2_; clear n0_ n1_ n2_; (try clear hb); (try clear hb2); (try clear hk); (try clear hi); have p28 : 0 ≤ (x27_1 : Int) := of_decide_eq_true (by first | (with_reducible assumption) | assumption); have q28 : (x27_1 : Int) < ((x6_1.length : Int) : Int) := of_decide_eq_true (by first | (with_reducible assumption) | assumption); obtain ⟨hx28_0, hf28_0⟩ := Kd.R_celln 0 HO_6.out (x27_1 : Int) p28 q28; replace p28 := eq_true p28; replace q28 := eq_true q28; obtain ⟨hy32_, hz32_⟩ := Kd.R_celln 0 HO_6.out (x27_1 : Int) (of_decide_eq_true (by first | (with_reducible assumption) | assumption)) (of_decide_eq_true (by first | (with_reducible assumption) | assumption)); have HP32 := Kd.R_putg HO_6.out (x27_1 : Int) 0) | ((with_reducible refine gate_store (t := 3) (p := 53) rfl ?_); refine store_event (t := 3) (p := 53) (v := ?vo_w33) (w1 := (w31.setCell ⟨go13, (x27_1 : Int).toNat, none⟩ (.int .i64 0))) ?hg ?ho ?hn ?hr ?_; (case ho => rfl); (case hg => rfl); (case hn => rfl); (case hr => first | (go_simp; done) | (go_simp; rfl)); intro w33 hw; have hg : w31.grownBy w33 (some go13) := (by rw [hw]; exact HP32.2); have hp_ : Kd.R (Kd.int .i64) 3 w33 w.heap.size (fun k_ => some k_ ≠ (u9 : Value).ownBlock) (.slice (some ⟨go13, 0, none⟩) x6_1.length co8) y124 := (by rw [hw, Ny124.out]; exact HP32.1); clear HP32; have n0_ := Aside0.mk (hp_); have n1_ := Aside0.mk (Kd.R_after (v := (.slice (some ⟨go13, 0, none⟩) x6_1.length co8)) (v1 := (.slice (some ⟨go13, 0, none⟩) x6_1.length co8)) (ok := (fun _ => True)) (by (with_reducible repeat (first | apply Kd.R_alloc | apply Kd.R_drewN | apply Kd.R_drew)); exact HO_9.out) hg (.inl rfl)); have n2_ := Aside0.mk ((by rw [hw]; exact below_set (HB.out) GB13.out : Below w.heap.size w w33)); clear HO_6; clear HO_9; clear HB; have HO_6 := n0_; have HO_9 := n1_; have HB := n2_; clear n0_ n1_ n2_; clear hg hw hp_))
                (try simp only [← hl6_1])
                go_roundg k1
                case measure => have := HK1.out; omega
                case rel => exact ⟨(y124), (x9_1), (wrap64 (x27_1 + 1)), (by first | rfl | (simp; done) | (simp [*]; done)), H', ⟨by have := HK1.out; omega⟩, ⟨by (try simp only [hl6_1]); (with_reducible repeat (first | apply Kd.R_alloc | apply Kd.R_drewN | apply Kd.R_drew)); exact HO_6.out⟩, ⟨by (try simp only [hl6_1]); (with_reducible repeat (first | apply Kd.R_alloc | apply Kd.R_drewN | apply Kd.R_drew)); exact Kd.R_mono HO_9.out (fun _ hk => hk.2)⟩, ⟨by repeat (first | (with_reducible first | exact HB.out | apply below_alloc | apply pw_below_drewN | apply below_drew1) | exact HB.out)⟩⟩
            · rw [if_neg c12] at H
              exact absurd H (by simp)
          · rw [if_neg c11] at H
            exact absurd H (by simp)
        · rw [if_neg c10] at H
          have c10b0 : decide (x27_1 < (t112.length : Int)) = false := decide_eq_false c10
          have c10x : decide (x27_1 < (x6_1.length : Int)) = false := by first | (rw [← hl6_1]; exact c10b0) | (rw [hl6_1]; exact c10b0)
          have c10p : ¬ x27_1 < (x6_1.length : Int) := of_decide_eq_false c10x
          clear c10
          simp only [Option.some.injEq, Prod.mk.injEq] at H
          obtain ⟨rfl, rfl⟩ := H
          go_wp2
          go_ret2
          exact ⟨_, by first | rfl | (simp [errW_none, errW_some] <;> rfl) | (simp [*, errW_none, errW_some] <;> rfl), by (with_reducible repeat (first | apply Kd.R_alloc | apply Kd.R_drewN | apply Kd.R_drew)); exact Kd.R_mono HO_9.out (fun _ hk => trivial), by repeat (first | (with_reducible first | exact HB.out | apply below_alloc | apply pw_below_drewN | apply below_drew1) | exact HB.out)⟩
  · replace c4 := Bool.eq_false_iff.mpr c4
    subst c4
    have H1 : (some (([] : List Int), false)) = some (r1, r2) := by rw [if_neg (show ¬ (false = true) by decide)] at H; exact H
    clear H
    have H := H1
    clear H1
    simp only [Option.some.injEq, Prod.mk.injEq] at H
    obtain ⟨rfl, rfl⟩ := H
    go_enter Try.func6, Try.ntmps6
    go_wp2_with (first | ((with_reducible refine gate_callee (f := 13) rfl ?_); refine goesL_ (some 14) rfl rfl Try.func13 (by kernel_rfl) rfl #[.string a0] rfl (by (try simp only [List.map_toArray, List.map_cons, List.map_nil]); first | done | rfl | (simp only [List.length_drop, List.length_take]; rfl)) ?_; (with_reducible refine (impl_IsLitRow.calls k a0 false _ A3.out).mono ?_); rintro e w' ⟨rfl, ⟨nd, rfl⟩⟩; refine ⟨_, rfl, ?_⟩))
    go_ret2
    exact ⟨_, by first | rfl | (simp [errW_none, errW_some] <;> rfl) | (simp [*, errW_none, errW_some] <;> rfl), by first | exact Kd.R_nil _ _ _ _ _ | exact Kd.N_nil _ _ _ _ _ | exact Kd.V_nil _ _ _ _ _ | exact Kd.Q_nil _ _ _ _ _ | exact Kd.S_nil _ _ _ _ _, by repeat (first | (with_reducible first | exact HB.out | apply below_alloc | apply pw_below_drewN | apply below_drew1) | exact HB.out)⟩

/-! ### spec_l1In: function 44 -/
def spec_l1In.f (a0 : Int) (a1 : Int) (a2 : Int) : Option (Bool) := if a0 ≥ a1 then (some (decide (a0 ≤ a2))) else (some false)
set_option maxHeartbeats 8000000 in
set_option maxRecDepth 100000 in
theorem spec_l1In.calls (a0 : Int) (a1 : Int) (a2 : Int) (r : Bool) (w : World) (h : spec_l1In.f a0 a1 a2 = some r) :
    Calls Try.prog 44 #[.int .i64 a0, .int .i64 a1, .int .i64 a2] w fun e w' => e = .returned (.bool r) ∧ Drawn0 w w' := by
  have H : (if a0 ≥ a1 then (some (decide (a0 ≤ a2))) else (some false)) = some r := h
  clear h
  by_cases c4 : a0 ≥ a1
  · rw [if_pos c4] at H
    have c4b0 : decide (a1 ≤ a0) = true := decide_eq_true c4
    clear c4
    obtain rfl := Option.some.inj H
    go_enter Try.func44, Try.ntmps44
    go_wp2
    go_ret
    exact ⟨by first | rfl | (simp; done) | (simp [*]; done), by repeat (first | exact Drawn0.refl _ | apply Drawn0.step)⟩
  · rw [if_neg c4] at H
    have c4b0 : decide (a1 ≤ a0) = false := decide_eq_false c4
    clear c4
    obtain rfl := Option.some.inj H
    go_enter Try.func44, Try.ntmps44
    go_wp2
    go_ret
    exact ⟨by first | rfl | (simp; done) | (simp [*]; done), by repeat (first | exact Drawn0.refl _ | apply Drawn0.step)⟩

/-! ### spec_rwHouses: function 42 -/
def spec_rwHouses.f (a0 : Int) : Option (Bool) := (spec_l1In.f a0 1 20).bind fun t125 => (some t125)
set_option maxHeartbeats 8000000 in
set_option maxRecDepth 100000 in
theorem spec_rwHouses.calls (a0 : Int) (r : Bool) (w : World) (h : spec_rwHouses.f a0 = some r) :
    Calls Try.prog 42 #[.int .i64 a0] w fun e w' => e = .returned (.bool r) ∧ Drawn0 w w' := by
  have H : ((spec_l1In.f a0 1 20).bind fun t125 => (some t125)) = some r := h
  clear h
  replace H := Option.bind_eq_some_iff.mp H
  obtain ⟨t125, A20, H⟩ := H
  replace H : (some t125) = some r := H
  have A2 := Aside0.mk A20
  clear A20
  obtain rfl := Option.some.inj H
  go_enter Try.func42, Try.ntmps42
  go_wp2_with (first | ((with_reducible refine gate_callee (f := 44) rfl ?_); refine goesL_ (some 4) rfl rfl Try.func44 (by kernel_rfl) rfl #[.int .i64 a0, .int .i64 1, .int .i64 20] rfl (by (try simp only [List.map_toArray, List.map_cons, List.map_nil]); first | done | rfl | (simp only [List.length_drop, List.length_take]; rfl)) ?_; (with_reducible refine (spec_l1In.calls a0 1 20 t125 _ A2.out).mono ?_); rintro e w' ⟨rfl, ⟨nd, rfl⟩⟩; refine ⟨_, rfl, ?_⟩))
  go_ret
  exact ⟨by first | rfl | (simp; done) | (simp [*]; done), by repeat (first | exact Drawn0.refl _ | apply Drawn0.step)⟩

/-! ### spec_rwRow: function 29 -/
def spec_rwRow.l0 : Nat → ByteArray → Int → Option (Bool)
  | 0, _, _ => none
  | k + 1, x0, x3 => if x3 < (x0.size : Int) then (if 0 ≤ x3 then (if (bt x0 x3) = 35 then (spec_rwRow.l0 k x0 (wrap64 (x3 + 1))) else (if (bt x0 x3) = 46 then (spec_rwRow.l0 k x0 (wrap64 (x3 + 1))) else (some false))) else (none)) else (some true)
def spec_rwRow.f (k : Nat) (a0 : ByteArray) : Option (Bool) := (spec_rwHouses.f (a0.size : Int)).bind fun t126 => (if t126 = true then (spec_rwRow.l0 k a0 0) else (some false))
theorem spec_rwRow.mono_l : ∀ k, (∀ y0 y1, LeO (spec_rwRow.l0 k y0 y1) (spec_rwRow.l0 (k + 1) y0 y1))
  | 0 => fun _ _ r h => by simp [spec_rwRow.l0] at h
  | k + 1 => by
    have ih0 := spec_rwRow.mono_l k
    · intro y0 y1
      unfold spec_rwRow.l0
      repeat' first
      | (with_reducible exact ih0 _ _)
      | (with_reducible exact LeO.refl _)
      | (with_reducible exact LeO.none _)
      | (with_reducible refine LeO.ite ?_ ?_)
      | (with_reducible refine LeO.bind ?_ (fun _ => ?_))
      | exact ih0 _ _
      | exact LeO.none _
      | refine LeO.ite ?_ ?_
      | refine LeO.bind ?_ (fun _ => ?_)
theorem spec_rwRow.mono : ∀ a0 k, LeO (spec_rwRow.f k a0) (spec_rwRow.f (k + 1) a0) := by
  intro a0 k
  have ih0 := spec_rwRow.mono_l k
  unfold spec_rwRow.f
  repeat' first
      | (with_reducible exact ih0 _ _)
      | (with_reducible exact LeO.refl _)
      | (with_reducible exact LeO.none _)
      | (with_reducible refine LeO.ite ?_ ?_)
      | (with_reducible refine LeO.bind ?_ (fun _ => ?_))
      | exact ih0 _ _
      | exact LeO.none _
      | refine LeO.ite ?_ ?_
      | refine LeO.bind ?_ (fun _ => ?_)
set_option maxHeartbeats 8000000 in
set_option maxRecDepth 100000 in
theorem spec_rwRow.calls (k : Nat) (a0 : ByteArray) (r : Bool) (w : World) (h : spec_rwRow.f k a0 = some r) :
    Calls Try.prog 29 #[.string a0] w fun e w' => e = .returned (.bool r) ∧ Drawn0 w w' := by
  have H : ((spec_rwHouses.f (a0.size : Int)).bind fun t126 => (if t126 = true then (spec_rwRow.l0 k a0 0) else (some false))) = some r := h
  clear h
  replace H := Option.bind_eq_some_iff.mp H
  obtain ⟨t126, A20, H⟩ := H
  replace H : (if t126 = true then (spec_rwRow.l0 k a0 0) else (some false)) = some r := H
  have A2 := Aside0.mk A20
  clear A20
  by_cases c3 : t126 = true
  · subst c3
    have H1 : (spec_rwRow.l0 k a0 0) = some r := by rw [if_pos rfl] at H; exact H
    clear H
    have H := H1
    clear H1
    have H' := Aside0.mk H
    clear H
    go_enter Try.func29, Try.ntmps29
    go_wp2_with (first | ((with_reducible refine gate_callee (f := 42) rfl ?_); refine goesL_ (some 6) rfl rfl Try.func42 (by kernel_rfl) rfl #[.int .i64 (a0.size : Int)] rfl (by (try simp only [List.map_toArray, List.map_cons, List.map_nil]); first | done | rfl | (simp only [List.length_drop, List.length_take]; rfl)) ?_; (with_reducible refine (spec_rwHouses.calls (a0.size : Int) true _ A2.out).mono ?_); rintro e w' ⟨rfl, ⟨nd, rfl⟩⟩; refine ⟨_, rfl, ?_⟩))
    go_loopg [3] k (fun kq v3 w' => ∃ (x3_1 : Int), v3 = .int .i64 x3_1 ∧ Aside0 (spec_rwRow.l0 kq a0 x3_1 = some r) ∧ Aside0 (kq ≤ k) ∧ Drawn0 w w')
    case atStart => exact ⟨(0), (by first | rfl | (simp; done) | (simp [*]; done)), H', ⟨Nat.le_refl _⟩, by repeat (first | exact Drawn0.refl _ | apply Drawn0.step)⟩
    case round =>
      clear H'
      try clear c2
      try clear p2
      try clear c3
      obtain ⟨x3_1, rfl, HA, HK1, ⟨m1, rfl⟩⟩ := hrel
      cases gk with
      | zero => exact absurd HA.out (by simp [spec_rwRow.l0])
      | succ k1 =>
        have H := HA.out
        clear HA
        simp only [spec_rwRow.l0] at H
        by_cases c4 : x3_1 < (a0.size : Int)
        · rw [if_pos c4] at H
          have c4b0 : decide (x3_1 < (a0.size : Int)) = true := decide_eq_true c4
          clear c4
          by_cases c5 : 0 ≤ x3_1
          · rw [if_pos c5] at H
            have c5b0 : decide (0 ≤ x3_1) = true := decide_eq_true c5
            clear c5
            by_cases c7 : (bt a0 x3_1) = 35
            · rw [if_pos c7] at H
              have c7b0 : ((bt a0 x3_1) == 35) = true := beq_iff_eq.mpr c7
              have c7b1 : ((bt a0 x3_1) != 35) = false := bne_eq_false_iff_eq.mpr c7
              clear c7
              have H' := Aside0.mk H
              clear H
              have p6 : 0 ≤ (x3_1 : Int) := of_decide_eq_true (by first | (with_reducible assumption) | assumption)
              have q6 : x3_1 < (a0.size : Int) := of_decide_eq_true (by first | (with_reducible assumption) | assumption)
              have hx6 := bt_at a0 x3_1
              replace p6 := eq_true p6
              replace q6 := eq_true q6
              go_wp2
              go_roundg k1
              case measure => have := HK1.out; omega
              case rel => exact ⟨(wrap64 (x3_1 + 1)), (by first | rfl | (simp; done) | (simp [*]; done)), H', ⟨by have := HK1.out; omega⟩, by repeat (first | exact Drawn0.refl _ | apply Drawn0.step)⟩
            · rw [if_neg c7] at H
              have c7b0 : ((bt a0 x3_1) == 35) = false := beq_eq_false_iff_ne.mpr c7
              have c7b1 : ((bt a0 x3_1) != 35) = true := bne_iff_ne.mpr c7
              by_cases c9 : (bt a0 x3_1) = 46
              · rw [if_pos c9] at H
                have c9b0 : ((bt a0 x3_1) == 46) = true := beq_iff_eq.mpr c9
                have c9b1 : ((bt a0 x3_1) != 46) = false := bne_eq_false_iff_eq.mpr c9
                clear c9
                have H' := Aside0.mk H
                clear H
                have p6 : 0 ≤ (x3_1 : Int) := of_decide_eq_true (by first | (with_reducible assumption) | assumption)
                have q6 : x3_1 < (a0.size : Int) := of_decide_eq_true (by first | (with_reducible assumption) | assumption)
                have hx6 := bt_at a0 x3_1
                replace p6 := eq_true p6
                replace q6 := eq_true q6
                have p8 : 0 ≤ (x3_1 : Int) := of_decide_eq_true (by first | (with_reducible assumption) | assumption)
                have q8 : x3_1 < (a0.size : Int) := of_decide_eq_true (by first | (with_reducible assumption) | assumption)
                have hx8 := bt_at a0 x3_1
                replace p8 := eq_true p8
                replace q8 := eq_true q8
                go_wp2
                go_roundg k1
                case measure => have := HK1.out; omega
                case rel => exact ⟨(wrap64 (x3_1 + 1)), (by first | rfl | (simp; done) | (simp [*]; done)), H', ⟨by have := HK1.out; omega⟩, by repeat (first | exact Drawn0.refl _ | apply Drawn0.step)⟩
              · rw [if_neg c9] at H
                have c9b0 : ((bt a0 x3_1) == 46) = false := beq_eq_false_iff_ne.mpr c9
                have c9b1 : ((bt a0 x3_1) != 46) = true := bne_iff_ne.mpr c9
                obtain rfl := Option.some.inj H
                have p6 : 0 ≤ (x3_1 : Int) := of_decide_eq_true (by first | (with_reducible assumption) | assumption)
                have q6 : x3_1 < (a0.size : Int) := of_decide_eq_true (by first | (with_reducible assumption) | assumption)
                have hx6 := bt_at a0 x3_1
                replace p6 := eq_true p6
                replace q6 := eq_true q6
                have p8 : 0 ≤ (x3_1 : Int) := of_decide_eq_true (by first | (with_reducible assumption) | assumption)
                have q8 : x3_1 < (a0.size : Int) := of_decide_eq_true (by first | (with_reducible assumption) | assumption)
                have hx8 := bt_at a0 x3_1
                replace p8 := eq_true p8
                replace q8 := eq_true q8
                go_wp2
                go_ret
                exact ⟨by first | rfl | (simp; done) | (simp [*]; done), by repeat (first | exact Drawn0.refl _ | apply Drawn0.step)⟩
          · rw [if_neg c5] at H
            exact absurd H (by simp)
        · rw [if_neg c4] at H
          have c4b0 : decide (x3_1 < (a0.size : Int)) = false := decide_eq_false c4
          clear c4
          obtain rfl := Option.some.inj H
          go_wp2
          go_ret
          exact ⟨by first | rfl | (simp; done) | (simp [*]; done), by repeat (first | exact Drawn0.refl _ | apply Drawn0.step)⟩
  · replace c3 := Bool.eq_false_iff.mpr c3
    subst c3
    have H1 : (some false) = some r := by rw [if_neg (show ¬ (false = true) by decide)] at H; exact H
    clear H
    have H := H1
    clear H1
    obtain rfl := Option.some.inj H
    go_enter Try.func29, Try.ntmps29
    go_wp2_with (first | ((with_reducible refine gate_callee (f := 42) rfl ?_); refine goesL_ (some 6) rfl rfl Try.func42 (by kernel_rfl) rfl #[.int .i64 (a0.size : Int)] rfl (by (try simp only [List.map_toArray, List.map_cons, List.map_nil]); first | done | rfl | (simp only [List.length_drop, List.length_take]; rfl)) ?_; (with_reducible refine (spec_rwHouses.calls (a0.size : Int) false _ A2.out).mono ?_); rintro e w' ⟨rfl, ⟨nd, rfl⟩⟩; refine ⟨_, rfl, ?_⟩))
    go_ret
    exact ⟨by first | rfl | (simp; done) | (simp [*]; done), by repeat (first | exact Drawn0.refl _ | apply Drawn0.step)⟩

/-! ### spec_rwRing: function 62 -/
def spec_rwRing.f (a0 : Int) (a1 : Bool) : Option (Bool) := if a1 = true then (some (decide (a0 > 2))) else (some false)
set_option maxHeartbeats 8000000 in
set_option maxRecDepth 100000 in
theorem spec_rwRing.calls (a0 : Int) (a1 : Bool) (r : Bool) (w : World) (h : spec_rwRing.f a0 a1 = some r) :
    Calls Try.prog 62 #[.int .i64 a0, .bool a1] w fun e w' => e = .returned (.bool r) ∧ Drawn0 w w' := by
  have H : (if a1 = true then (some (decide (a0 > 2))) else (some false)) = some r := h
  clear h
  by_cases c3 : a1 = true
  · subst c3
    have H1 : (some (decide (a0 > 2))) = some r := by rw [if_pos rfl] at H; exact H
    clear H
    have H := H1
    clear H1
    obtain rfl := Option.some.inj H
    go_enter Try.func62, Try.ntmps62
    go_wp2
    go_ret
    exact ⟨by first | rfl | (simp; done) | (simp [*]; done), by repeat (first | exact Drawn0.refl _ | apply Drawn0.step)⟩
  · replace c3 := Bool.eq_false_iff.mpr c3
    subst c3
    have H1 : (some false) = some r := by rw [if_neg (show ¬ (false = true) by decide)] at H; exact H
    clear H
    have H := H1
    clear H1
    obtain rfl := Option.some.inj H
    go_enter Try.func62, Try.ntmps62
    go_wp2
    go_ret
    exact ⟨by first | rfl | (simp; done) | (simp [*]; done), by repeat (first | exact Drawn0.refl _ | apply Drawn0.step)⟩

/-! ### spec_l1Most: function 71 -/
def spec_l1Most.f (a0 : Int) (a1 : Int) : Option (Int) := if a0 > a1 then (some a0) else (some a1)
set_option maxHeartbeats 8000000 in
set_option maxRecDepth 100000 in
theorem spec_l1Most.calls (a0 : Int) (a1 : Int) (r : Int) (w : World) (h : spec_l1Most.f a0 a1 = some r) :
    Calls Try.prog 71 #[.int .i64 a0, .int .i64 a1] w fun e w' => e = .returned (.int .i64 r) ∧ Drawn0 w w' := by
  have H : (if a0 > a1 then (some a0) else (some a1)) = some r := h
  clear h
  by_cases c3 : a0 > a1
  · rw [if_pos c3] at H
    have c3b0 : decide (a1 < a0) = true := decide_eq_true c3
    clear c3
    obtain rfl := Option.some.inj H
    go_enter Try.func71, Try.ntmps71
    go_wp2
    go_ret
    exact ⟨by first | rfl | (simp; done) | (simp [*]; done), by repeat (first | exact Drawn0.refl _ | apply Drawn0.step)⟩
  · rw [if_neg c3] at H
    have c3b0 : decide (a1 < a0) = false := decide_eq_false c3
    clear c3
    obtain rfl := Option.some.inj H
    go_enter Try.func71, Try.ntmps71
    go_wp2
    go_ret
    exact ⟨by first | rfl | (simp; done) | (simp [*]; done), by repeat (first | exact Drawn0.refl _ | apply Drawn0.step)⟩

/-! ### spec_l1Abs: function 68 -/
def spec_l1Abs.f (a0 : Int) : Option (Int) := (spec_l1Most.f a0 (wrap64 (-a0))).bind fun t127 => (some t127)
set_option maxHeartbeats 8000000 in
set_option maxRecDepth 100000 in
theorem spec_l1Abs.calls (a0 : Int) (r : Int) (w : World) (h : spec_l1Abs.f a0 = some r) :
    Calls Try.prog 68 #[.int .i64 a0] w fun e w' => e = .returned (.int .i64 r) ∧ Drawn0 w w' := by
  have H : ((spec_l1Most.f a0 (wrap64 (-a0))).bind fun t127 => (some t127)) = some r := h
  clear h
  replace H := Option.bind_eq_some_iff.mp H
  obtain ⟨t127, A20, H⟩ := H
  replace H : (some t127) = some r := H
  have A2 := Aside0.mk A20
  clear A20
  obtain rfl := Option.some.inj H
  go_enter Try.func68, Try.ntmps68
  go_wp2_with (first | ((with_reducible refine gate_callee (f := 71) rfl ?_); refine goesL_ (some 6) rfl rfl Try.func71 (by kernel_rfl) rfl #[.int .i64 a0, .int .i64 (wrap64 (-a0))] rfl (by (try simp only [List.map_toArray, List.map_cons, List.map_nil]); first | done | rfl | (simp only [List.length_drop, List.length_take]; rfl)) ?_; (with_reducible refine (spec_l1Most.calls a0 (wrap64 (-a0)) t127 _ A2.out).mono ?_); rintro e w' ⟨rfl, ⟨nd, rfl⟩⟩; refine ⟨_, rfl, ?_⟩))
  go_ret
  exact ⟨by first | rfl | (simp; done) | (simp [*]; done), by repeat (first | exact Drawn0.refl _ | apply Drawn0.step)⟩

/-! ### spec_rwNext: function 58 -/
def spec_rwNext.f (a0 : Int) (a1 : Int) (a2 : Int) (a3 : Bool) : Option (Bool) := (spec_l1Abs.f (wrap64 (a1 - a2))).bind fun t128 => (if t128 = 1 then (some true) else ((spec_rwRing.f a0 a3).bind fun t129 => (if t129 = true then ((spec_l1Abs.f (wrap64 (a1 - a2))).bind fun t130 => (some (t130 == (wrap64 (a0 - 1))))) else (some false))))
set_option maxHeartbeats 8000000 in
set_option maxRecDepth 100000 in
theorem spec_rwNext.calls (a0 : Int) (a1 : Int) (a2 : Int) (a3 : Bool) (r : Bool) (w : World) (h : spec_rwNext.f a0 a1 a2 a3 = some r) :
    Calls Try.prog 58 #[.int .i64 a0, .int .i64 a1, .int .i64 a2, .bool a3] w fun e w' => e = .returned (.bool r) ∧ Drawn0 w w' := by
  have H : ((spec_l1Abs.f (wrap64 (a1 - a2))).bind fun t128 => (if t128 = 1 then (some true) else ((spec_rwRing.f a0 a3).bind fun t129 => (if t129 = true then ((spec_l1Abs.f (wrap64 (a1 - a2))).bind fun t130 => (some (t130 == (wrap64 (a0 - 1))))) else (some false))))) = some r := h
  clear h
  replace H := Option.bind_eq_some_iff.mp H
  obtain ⟨t128, A50, H⟩ := H
  replace H : (if t128 = 1 then (some true) else ((spec_rwRing.f a0 a3).bind fun t129 => (if t129 = true then ((spec_l1Abs.f (wrap64 (a1 - a2))).bind fun t130 => (some (t130 == (wrap64 (a0 - 1))))) else (some false)))) = some r := H
  have A5 := Aside0.mk A50
  clear A50
  by_cases c6 : t128 = 1
  · rw [if_pos c6] at H
    have c6b0 : (t128 == 1) = true := beq_iff_eq.mpr c6
    have c6b1 : (t128 != 1) = false := bne_eq_false_iff_eq.mpr c6
    clear c6
    obtain rfl := Option.some.inj H
    go_enter Try.func58, Try.ntmps58
    go_wp2_with (first | ((with_reducible refine gate_callee (f := 68) rfl ?_); refine goesL_ (some 12) rfl rfl Try.func68 (by kernel_rfl) rfl #[.int .i64 (wrap64 (a1 - a2))] rfl (by (try simp only [List.map_toArray, List.map_cons, List.map_nil]); first | done | rfl | (simp only [List.length_drop, List.length_take]; rfl)) ?_; (with_reducible refine (spec_l1Abs.calls (wrap64 (a1 - a2)) t128 _ A5.out).mono ?_); rintro e w' ⟨rfl, ⟨nd, rfl⟩⟩; refine ⟨_, rfl, ?_⟩))
    go_ret
    exact ⟨by first | rfl | (simp; done) | (simp [*]; done), by repeat (first | exact Drawn0.refl _ | apply Drawn0.step)⟩
  · rw [if_neg c6] at H
    have c6b0 : (t128 == 1) = false := beq_eq_false_iff_ne.mpr c6
    have c6b1 : (t128 != 1) = true := bne_iff_ne.mpr c6
    replace H := Option.bind_eq_some_iff.mp H
    obtain ⟨t129, A70, H⟩ := H
    replace H : (if t129 = true then ((spec_l1Abs.f (wrap64 (a1 - a2))).bind fun t130 => (some (t130 == (wrap64 (a0 - 1))))) else (some false)) = some r := H
    have A7 := Aside0.mk A70
    clear A70
    by_cases c8 : t129 = true
    · subst c8
      have H1 : ((spec_l1Abs.f (wrap64 (a1 - a2))).bind fun t130 => (some (t130 == (wrap64 (a0 - 1))))) = some r := by rw [if_pos rfl] at H; exact H
      clear H
      have H := H1
      clear H1
      replace H := Option.bind_eq_some_iff.mp H
      obtain ⟨t130, A90, H⟩ := H
      replace H : (some (t130 == (wrap64 (a0 - 1)))) = some r := H
      have A9 := Aside0.mk A90
      clear A90
      obtain rfl := Option.some.inj H
      go_enter Try.func58, Try.ntmps58
      go_wp2_with (first | ((with_reducible refine gate_callee (f := 68) rfl ?_); refine goesL_ (some 12) rfl rfl Try.func68 (by kernel_rfl) rfl #[.int .i64 (wrap64 (a1 - a2))] rfl (by (try simp only [List.map_toArray, List.map_cons, List.map_nil]); first | done | rfl | (simp only [List.length_drop, List.length_take]; rfl)) ?_; (with_reducible refine (spec_l1Abs.calls (wrap64 (a1 - a2)) t128 _ A5.out).mono ?_); rintro e w' ⟨rfl, ⟨nd, rfl⟩⟩; refine ⟨_, rfl, ?_⟩) | (go_at_call 62; (with_reducible refine (spec_rwRing.calls a0 a3 true _ A7.out).mono ?_); rintro e w' ⟨rfl, ⟨nd, rfl⟩⟩) | (go_at_call 68; (with_reducible refine (spec_l1Abs.calls (wrap64 (a1 - a2)) t130 _ A9.out).mono ?_); rintro e w' ⟨rfl, ⟨nd, rfl⟩⟩))
      go_ret
      exact ⟨by first | rfl | (simp; done) | (simp [*]; done), by repeat (first | exact Drawn0.refl _ | apply Drawn0.step)⟩
    · replace c8 := Bool.eq_false_iff.mpr c8
      subst c8
      have H1 : (some false) = some r := by rw [if_neg (show ¬ (false = true) by decide)] at H; exact H
      clear H
      have H := H1
      clear H1
      obtain rfl := Option.some.inj H
      go_enter Try.func58, Try.ntmps58
      go_wp2_with (first | ((with_reducible refine gate_callee (f := 68) rfl ?_); refine goesL_ (some 12) rfl rfl Try.func68 (by kernel_rfl) rfl #[.int .i64 (wrap64 (a1 - a2))] rfl (by (try simp only [List.map_toArray, List.map_cons, List.map_nil]); first | done | rfl | (simp only [List.length_drop, List.length_take]; rfl)) ?_; (with_reducible refine (spec_l1Abs.calls (wrap64 (a1 - a2)) t128 _ A5.out).mono ?_); rintro e w' ⟨rfl, ⟨nd, rfl⟩⟩; refine ⟨_, rfl, ?_⟩) | (go_at_call 62; (with_reducible refine (spec_rwRing.calls a0 a3 false _ A7.out).mono ?_); rintro e w' ⟨rfl, ⟨nd, rfl⟩⟩))
      go_ret
      exact ⟨by first | rfl | (simp; done) | (simp [*]; done), by repeat (first | exact Drawn0.refl _ | apply Drawn0.step)⟩

end Go.Proofs.Ytlmenkhklpfefaa.MR
