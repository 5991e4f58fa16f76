-- The machine side, written by this repo's program mp.py; contracts marked as of this repo are this session's own.
import Derived.Test.YtknookofgnandaaMAx0
import Derived.Test.YtknookofgnandaaMAx1
import Derived.Test.YtknookofgnandaaMAx2
namespace Go.Proofs.Ytknookofgnandaa.MA
open Go.RowKit Go.Proofs.YtknookofgnandaaW.PrintWords Go.Proofs.YtknookofgnandaaW.PrintLast Go.Proofs.YtknookofgnandaaW.PrintMore
attribute [local go_sem] max2_int min2_int max_two min_two max_three min_three max_four min_four   -- for this text's walks alone
set_option linter.unusedVariables false
set_option linter.unusedSimpArgs false

/-! ### impl_isRing: function 40 -/
def impl_isRing.f (a0 : Int) (a1 : Bool) : Option (Bool) := if a1 = true then (some (decide (a0 > 2))) else (some false)
set_option maxHeartbeats 8000000 in
set_option maxRecDepth 100000 in
theorem impl_isRing.calls (a0 : Int) (a1 : Bool) (r : Bool) (w : World) (h : impl_isRing.f a0 a1 = some r) :
    Calls Try.prog 40 #[.int .i64 a0, .bool a1] w fun e w' => e = .returned (.bool r) ∧ Drawn0 w w' := by
  have H : (if a1 = true then (some (decide (a0 > 2))) else (some false)) = some r := h
  clear h
  by_cases c3 : a1 = true
  · subst c3
    have H1 : (some (decide (a0 > 2))) = some r := by rw [if_pos rfl] at H; exact H
    clear H
    have H := H1
    clear H1
    obtain rfl := Option.some.inj H
    go_enter Try.func40, Try.ntmps40
    go_wp2
    go_ret
    exact ⟨by first | rfl | (simp; done) | (simp [*]; done), by repeat (first | exact Drawn0.refl _ | apply Drawn0.step)⟩
  · replace c3 := Bool.eq_false_iff.mpr c3
    subst c3
    have H1 : (some false) = some r := by rw [if_neg (show ¬ (false = true) by decide)] at H; exact H
    clear H
    have H := H1
    clear H1
    obtain rfl := Option.some.inj H
    go_enter Try.func40, Try.ntmps40
    go_wp2
    go_ret
    exact ⟨by first | rfl | (simp; done) | (simp [*]; done), by repeat (first | exact Drawn0.refl _ | apply Drawn0.step)⟩

/-! ### impl_LitBy: function 25 (a contract of this repo) -/
/-- A text's bytes as numbers. -/
def impl_LitBy.nums (s : ByteArray) : List Int := s.data.toList.map fun b => (b.toNat : Int)
/-- One house lit, if it is one. -/
def impl_LitBy.put (n : Int) (ring : Bool) (out : List Int) (x : Int) : Option (List Int) := (impl_isRing.f n ring).bind fun t => (if t = true ∧ ¬ n = 0 then some (Int.tmod (wrap64 (x + n)) n) else if t = true then none else some x).bind fun y => (impl_within.f y 0 (wrap64 (n - 1))).bind fun u => some (if u = true then out.set y.toNat 35 else out)
/-- Some houses lit. -/
def impl_LitBy.puts (n : Int) (ring : Bool) : List Int → List Int → Option (List Int)
  | [], out => some out
  | x :: rest, out => (impl_LitBy.put n ring out x).bind fun o => impl_LitBy.puts n ring rest o
/-- What all lamps light. -/
def impl_LitBy.lamps (n : Int) (ring : Bool) : List Int → List Int → Option (List Int)
  | [], out => some out
  | h :: rest, out => (impl_LitBy.puts n ring [wrap64 (h - 1), h, wrap64 (h + 1)] out).bind fun o => impl_LitBy.lamps n ring rest o
def impl_LitBy.f (k : Nat) (a0 : ByteArray) (l1 : List Int) (a2 : Bool) : Option (ByteArray × Bool) := (impl_IsLitRow.f k a0).bind fun t => if t = true then ((impl_areHouses.f k l1 (a0.size : Int)).bind fun u => if u = true then (if a0.size ≤ 1048576 then (impl_LitBy.lamps (a0.size : Int) a2 l1 (List.replicate a0.size 46)).bind fun o => some (strOfNums o, true) else none) else some ((⟨#[]⟩ : ByteArray), false)) else some ((⟨#[]⟩ : ByteArray), false)
theorem impl_LitBy.mono : ∀ a0 a1 a2 k, LeO (impl_LitBy.f k a0 a1 a2) (impl_LitBy.f (k + 1) a0 a1 a2) := fun a0 a1 a2 k => by
  unfold impl_LitBy.f
  refine LeO.bind (impl_IsLitRow.mono _ k) (fun _ => LeO.ite (LeO.bind (impl_areHouses.mono _ _ k) (fun _ => LeO.refl _)) (LeO.refl _))
/-- Block g holds these bytes at its head. -/
def impl_LitBy.Blk (w : World) (g : Nat) (xs : List Int) : Prop := ∃ (cur : Array Value) (N : Nat), w.heap[g]? = some (.cells cur 5 (N, N + 1)) ∧ xs.length ≤ N ∧ cur.size = N ∧ ∀ j, j < xs.length → cur[j]? = some (.int .u8 (xs.getD j 0))
theorem impl_LitBy.Blk.cell {w : World} {g : Nat} {xs : List Int} (h : impl_LitBy.Blk w g xs) (j : Nat) (hj : j < xs.length) : w.cell? ⟨g, j, none⟩ = some (.int .u8 (xs.getD j 0)) := by
  obtain ⟨cur, N, hh, h1, h2, h3⟩ := h
  simp only [World.cell?, hh]
  exact h3 j hj
theorem impl_LitBy.Blk.free {w : World} {g : Nat} {xs : List Int} (h : impl_LitBy.Blk w g xs) (j : Nat) (hj : j < xs.length) : w.frozen? ⟨g, j, none⟩ = false := by
  obtain ⟨cur, N, hh, h1, h2, h3⟩ := h
  simp [World.frozen?, hh]
  omega
theorem impl_LitBy.Blk.set {w : World} {g : Nat} {xs : List Int} (h : impl_LitBy.Blk w g xs) (i : Nat) (hi : i < xs.length) (v : Int) : impl_LitBy.Blk (w.setCell ⟨g, i, none⟩ (.int .u8 v)) g (xs.set i v) := by
  obtain ⟨cur, N, hh, h1, h2, h3⟩ := h
  refine ⟨cur.setIfInBounds i (.int .u8 v), N, ?_, by simpa using h1, by simpa using h2, fun j hj => ?_⟩
  · simp [World.setCell, Array.getElem?_modify, hh]
  · rw [List.length_set] at hj
    rw [Array.getElem?_setIfInBounds]
    by_cases e : i = j
    · subst e
      simp [h2, hj]
      omega
    · rw [if_neg e, h3 j hj]
      simp [List.getD_eq_getElem?_getD, List.getElem?_set_ne e]
theorem impl_LitBy.Blk.size {w : World} {g : Nat} {xs : List Int} (h : impl_LitBy.Blk w g xs) : g < w.heap.size := by
  obtain ⟨cur, N, hh, _⟩ := h
  exact (Array.getElem?_eq_some_iff.1 hh).1
theorem impl_LitBy.nums_length (s : ByteArray) : (impl_LitBy.nums s).length = s.size := by
  unfold impl_LitBy.nums
  rw [List.length_map]
  exact Array.length_toList
theorem impl_LitBy.Blk.made (w : World) (s : ByteArray) : impl_LitBy.Blk (Go.Lib.bytesWorld w 5 s) w.heap.size (impl_LitBy.nums s) := by
  refine ⟨Go.Lib.bytesCells w 5 s, (Go.Lib.bytesCells w 5 s).size, Go.Lib.bytesWorld_at_new w 5 s, ?_, rfl, fun j hj => ?_⟩
  · rw [impl_LitBy.nums_length]
    unfold Go.Lib.bytesCells
    rw [Array.size_append, Array.size_map]
    exact Nat.le_add_right _ _
  · have h := Go.Lib.bytesWorld_cell w 5 s j (by rw [impl_LitBy.nums_length] at hj; exact hj)
    have hn := Go.Lib.bytesWorld_at_new w 5 s
    simp only [World.cell?, hn] at h
    refine Eq.trans (b := some (Value.int IntKind.u8 ↑(s.data.toList.getD j 0).toNat)) h ?_
    rw [impl_LitBy.nums_length] at hj
    have hj' : j < s.data.toList.length := by rw [Array.length_toList]; exact hj
    unfold impl_LitBy.nums
    rw [List.getD_eq_getElem?_getD, List.getElem?_eq_getElem hj', List.getD_eq_getElem?_getD, List.getElem?_map, List.getElem?_eq_getElem hj']
    rfl
theorem impl_LitBy.made_below (w : World) (s : ByteArray) : Below w.heap.size w (Go.Lib.bytesWorld w 5 s) :=
  ⟨rfl, rfl, rfl, by rw [Go.Lib.bytesWorld_size]; omega, fun j hj => Go.Lib.bytesWorld_at_old w 5 s j hj⟩
theorem impl_LitBy.nums_rep (n : Nat) : impl_LitBy.nums ⟨(Go.Lib.repeatL [46] n).toArray⟩ = List.replicate n 46 := by
  unfold impl_LitBy.nums
  induction n with
  | zero => rfl
  | succ n ih =>
    simp only [Go.Lib.repeatL] at ih ⊢
    simp only [List.cons_append, List.nil_append, List.map_cons, List.replicate_succ] at ih ⊢
    rw [ih]
    rfl
theorem impl_LitBy.put_length {n : Int} {ring : Bool} {out o : List Int} {x : Int} (h : impl_LitBy.put n ring out x = some o) : o.length = out.length := by
  unfold impl_LitBy.put at h
  obtain ⟨t, -, h⟩ := Option.bind_eq_some_iff.1 h
  obtain ⟨y, -, h⟩ := Option.bind_eq_some_iff.1 h
  obtain ⟨u, -, h⟩ := Option.bind_eq_some_iff.1 h
  have := Option.some.inj h
  rw [← this]
  split
  · rw [List.length_set]
  · rfl
theorem impl_LitBy.size1 (w : World) : (Go.sizeOf 3).run Try.prog w = .ok 1 w := rfl
theorem impl_LitBy.idx0 (a b c : Value) (w : World) : (Instr.index 56 (.agg #[a, b, c]) (.int .i64 0)).run Try.prog w = .ok a w := by rfl
theorem impl_LitBy.idx1 (a b c : Value) (w : World) : (Instr.index 56 (.agg #[a, b, c]) (.int .i64 1)).run Try.prog w = .ok b w := by rfl
theorem impl_LitBy.idx2 (a b c : Value) (w : World) : (Instr.index 56 (.agg #[a, b, c]) (.int .i64 2)).run Try.prog w = .ok c w := by rfl
attribute [local go_sem high] impl_LitBy.idx0 impl_LitBy.idx1 impl_LitBy.idx2
set_option maxHeartbeats 4000000 in
set_option maxRecDepth 100000 in
theorem impl_LitBy.calls (k : Nat) (a0 : ByteArray) (A1 : Option Addr) (c1 : Nat) (l1 : List Int) (a2 : Bool) (r1 : ByteArray) (r2 : Bool) (w : World) (hr1 : Kd.C (Kd.int .i64) w A1 l1.length l1) (hc1 : l1.length ≤ c1) (h : impl_LitBy.f k a0 l1 a2 = some (r1, r2)) :
    Calls Try.prog 25 #[.string a0, .slice A1 l1.length c1, .bool a2] w fun e w' => e = .returned (.tuple #[.string r1, .bool r2]) ∧ Below w.heap.size w w' := by
  have HR1 := Aside0.mk hr1
  have HC1 := Aside0.mk hc1
  clear hr1 hc1
  unfold impl_LitBy.f at h
  obtain ⟨t, ht, h⟩ := Option.bind_eq_some_iff.1 h
  have HT := Aside0.mk ht
  clear ht
  cases t with
  | false =>
    rw [if_neg (by simp)] at h
    simp only [Option.some.injEq, Prod.mk.injEq] at h
    obtain ⟨rfl, rfl⟩ := h
    go_enter Try.func25, Try.ntmps25
    go_wp2_with (go_at_call 33; refine (impl_IsLitRow.calls k a0 false _ HT.out).mono ?_; rintro e w' ⟨rfl, ⟨nd, rfl⟩⟩)
    go_ret2
    exact ⟨rfl, pw_below_drewN (Below.refl _ _) nd⟩
  | true =>
    rw [if_pos rfl] at h
    obtain ⟨u, hu, h⟩ := Option.bind_eq_some_iff.1 h
    have HU := Aside0.mk hu
    clear hu
    cases u with
    | false =>
      rw [if_neg (by simp)] at h
      simp only [Option.some.injEq, Prod.mk.injEq] at h
      obtain ⟨rfl, rfl⟩ := h
      go_enter Try.func25, Try.ntmps25
      go_wp2_with (first | (go_at_call 33; refine (impl_IsLitRow.calls k a0 true _ HT.out).mono ?_; rintro e w' ⟨rfl, ⟨nd, rfl⟩⟩) | (go_at_call 38; refine (impl_areHouses.calls k _ _ l1 (a0.size : Int) false _ (Kd.C_drewN HR1.out nd) HC1.out HU.out).mono ?_; rintro e w' ⟨rfl, ⟨nd2, rfl⟩⟩))
      go_ret2
      exact ⟨rfl, pw_below_drewN (Below.refl _ _) (nd + nd2)⟩
    | true =>
      rw [if_pos rfl] at h
      by_cases hz : a0.size ≤ 1048576
      case neg => rw [if_neg hz] at h; cases h
      rw [if_pos hz] at h
      obtain ⟨o, ho, h⟩ := Option.bind_eq_some_iff.1 h
      simp only [Option.some.injEq, Prod.mk.injEq] at h
      obtain ⟨R, rfl⟩ := h
      have R := Aside0.mk R
      have HO := Aside0.mk ho
      clear ho
      obtain ⟨S, hS⟩ : ∃ S : ByteArray, S = ⟨(Go.Lib.repeatL [46] a0.size).toArray⟩ := ⟨_, rfl⟩
      have hN : impl_LitBy.nums S = List.replicate a0.size 46 := by rw [hS]; exact impl_LitBy.nums_rep _
      have hSz : S.size = a0.size := by rw [← impl_LitBy.nums_length, hN, List.length_replicate]
      have HN := Aside0.mk hN
      have HS := Aside0.mk (show strings_Repeat.f ⟨#[46]⟩ (a0.size : Int) = some S by
        unfold strings_Repeat.f
        rw [if_pos ⟨⟨by omega, by omega⟩, by simp only [Int.toNat_natCast]; show 1 * a0.size ≤ 140737488355328; omega⟩, hS]
        rfl)
      clear hN hS
      have HSz := Aside0.mk hSz
      clear hSz
      go_enter Try.func25, Try.ntmps25
      go_wp2_with (first | (go_at_call 33; refine (impl_IsLitRow.calls k a0 true _ HT.out).mono ?_; rintro e w' ⟨rfl, ⟨nd, rfl⟩⟩) | (go_at_call 38; refine (impl_areHouses.calls k _ _ l1 (a0.size : Int) true _ (Kd.C_drewN HR1.out nd) HC1.out HU.out).mono ?_; rintro e w' ⟨rfl, ⟨nd2, rfl⟩⟩) | (go_at_call 39; refine (strings_Repeat.calls _ _ S _ HS.out).mono ?_; rintro e w3 ⟨rfl, hb3⟩; have conv1 := Go.Lib.run_convert_string_bytes (P := Try.prog) w3 9 54 5 S Try.underlying9 Try.underlying54 Try.underlying5))
      have hB3 : Below w.heap.size w w3 := (pw_below_drewN (Below.refl w.heap.size w) (nd + nd2)).trans hb3
      have hg : w.heap.size ≤ w3.heap.size := hB3.size
      have B0 := impl_LitBy.Blk.made w3 S
      have L0 := hB3.trans ((impl_LitBy.made_below w3 S).mono hg)
      rw [HN.out] at B0
      generalize Go.Lib.bytesWorld w3 5 S = w4 at B0 L0 ⊢
      generalize w3.heap.size = g at hg B0 ⊢
      have HB := Aside0.mk L0
      have HK := Aside0.mk B0
      have HG := Aside0.mk hg
      have HLn := Aside0.mk (show (List.replicate a0.size (46 : Int)).length = a0.size from List.length_replicate)
      generalize List.replicate a0.size (46 : Int) = out0 at HK HO HLn
      clear conv1 hb3 hB3 B0 L0 HN HS HT HU
      generalize grownCap w3 S.size 0 5 = cap
      rw [HSz.out]
      have hc1 := HC1.out
      have hl1 : l1.length ≤ 9223372036854775807 := Kd.C_max HR1.out
      clear hg
      go_loopw [31] (fun i wr => ∃ (j : Nat) (out : List Int), j ≤ l1.length ∧ i = .int .i64 j ∧ Aside0 (out.length = a0.size) ∧ Aside0 (impl_LitBy.Blk wr g out) ∧ Aside0 (Below w.heap.size w wr) ∧ Aside0 (impl_LitBy.lamps a0.size a2 (l1.drop j) out = some o)) (fun i _ => l1.length - (intOf i).toNat)
      case atStart => exact ⟨0, out0, Nat.zero_le _, rfl, HLn, HK, HB, HO⟩
      case round =>
        obtain ⟨j, out, hj, rfl, HLn, HK, HB, HO⟩ := hrel
        by_cases hlt : j < l1.length
        · have e0 : l1.drop j = l1[j] :: l1.drop (j + 1) := List.drop_eq_getElem_cons hlt
          have hO := HO.out
          rw [e0] at hO
          simp only [impl_LitBy.lamps] at hO
          obtain ⟨o1, hP, hR2⟩ := Option.bind_eq_some_iff.1 hO
          have HP := Aside0.mk hP
          have HR2 := Aside0.mk hR2
          clear e0 hO hP hR2 HO
          obtain ⟨ad, hA, hx⟩ := Kd.at_int (Kd.C_below HR1.out HB.out) (j : Int) (by omega) (by omega)
          rw [show rd l1 (j : Int) = l1[j] by simp [rd, hlt], Int.toNat_natCast] at hx
          generalize l1[j] = x at hx HP
          obtain rfl := hA
          go_wp2
          clear hx
          generalize wrap64 (x - 1) = x0 at HP ⊢
          generalize wrap64 (x + 1) = x2 at HP ⊢
          go_loopw [41] (fun i wr => ∃ (q : Nat) (out : List Int), q ≤ 3 ∧ i = .int .i64 q ∧ Aside0 (out.length = a0.size) ∧ Aside0 (impl_LitBy.Blk wr g out) ∧ Aside0 (Below w.heap.size w wr) ∧ Aside0 (impl_LitBy.puts a0.size a2 ([x0, x, x2].drop q) out = some o1)) (fun i _ => 3 - (intOf i).toNat)
          case atStart => exact ⟨0, out, by omega, rfl, HLn, HK, HB, HP⟩
          case round =>
            clear HLn HK HB HP
            obtain ⟨q, out, hq, rfl, HLn, HK, HB, HP⟩ := hrel
            have hq4 : q = 0 ∨ q = 1 ∨ q = 2 ∨ q = 3 := by omega
            have hg := HG.out
            have hsz := HSz.out
            rcases hq4 with rfl | rfl | rfl | rfl
            · obtain ⟨o2, hp, hP2⟩ := Option.bind_eq_some_iff.1 (show ((impl_LitBy.put (a0.size : Int) a2 out x0).bind fun o => impl_LitBy.puts (a0.size : Int) a2 [x, x2] o) = some o1 from HP.out)
              have HP2 := Aside0.mk hP2
              have HLn2 := Aside0.mk ((impl_LitBy.put_length hp).trans HLn.out)
              clear hP2 HP
              unfold impl_LitBy.put at hp
              obtain ⟨t, ht, hp⟩ := Option.bind_eq_some_iff.1 hp
              obtain ⟨y, hy, hp⟩ := Option.bind_eq_some_iff.1 hp
              obtain ⟨u, hu, hp⟩ := Option.bind_eq_some_iff.1 hp
              have hp := Option.some.inj hp
              have HT := Aside0.mk ht
              clear ht
              rw [show wrap64 ((a0.size : Int) - 1) = (a0.size : Int) - 1 by unfold wrap64; omega] at hu
              have hub : u = true → 0 ≤ y ∧ y < (a0.size : Int) := by
                rintro rfl
                unfold impl_within.f at hu
                by_cases c : y ≥ 0
                · rw [if_pos c] at hu
                  have c2 := of_decide_eq_true (Option.some.inj hu)
                  omega
                · rw [if_neg c] at hu; simp at hu
              have HU := Aside0.mk hu
              clear hu
              cases t with
              | false =>
                rw [if_neg (by simp), if_neg (by simp)] at hy
                obtain rfl := Option.some.inj hy
                clear hy
                cases u with
                | false =>
                  rw [if_neg (by simp)] at hp
                  subst hp
                  clear hub
                  go_wp2_with (first | (go_at_call 40; refine (impl_isRing.calls _ _ false _ HT.out).mono ?_; rintro e w' ⟨rfl, ⟨nd3, rfl⟩⟩) | (go_at_call 41; refine (impl_within.calls _ _ _ false _ HU.out).mono ?_; rintro e w' ⟨rfl, ⟨nd4, rfl⟩⟩))
                  go_roundw
                  case rel => exact ⟨1, out, by omega, by go_num, HLn, ⟨HK.out⟩, ⟨pw_below_drewN HB.out (nd3 + nd4)⟩, HP2⟩
                  case measure => simp [intOf]
                | true =>
                  obtain ⟨m, rfl⟩ := Int.eq_ofNat_of_zero_le (hub rfl).1
                  have hm := (hub rfl).2
                  have hlen : m < out.length := by have z := HLn.out; omega
                  clear hub
                  rw [if_pos rfl, Int.toNat_natCast] at hp
                  subst hp
                  have HK2 := Aside0.mk (HK.out.set m hlen 35)
                  have hc := HK.out.cell m hlen
                  have hf := HK.out.free m hlen
                  clear hlen
                  go_wp2_with (first | (go_at_call 40; refine (impl_isRing.calls _ _ false _ HT.out).mono ?_; rintro e w' ⟨rfl, ⟨nd3, rfl⟩⟩) | (go_at_call 41; refine (impl_within.calls _ _ _ true _ HU.out).mono ?_; rintro e w' ⟨rfl, ⟨nd4, rfl⟩⟩))
                  go_roundw
                  case rel => exact ⟨1, out.set m 35, by omega, by go_num, HLn2, ⟨HK2.out⟩, ⟨(pw_below_drewN HB.out (nd3 + nd4)).setCell (p := ⟨g, m, none⟩) hg _⟩, HP2⟩
                  case measure => simp [intOf]
              | true =>
                by_cases hn : (a0.size : Int) = 0
                · rw [if_neg (by simp [hn]), if_pos rfl] at hy
                  cases hy
                rw [if_pos ⟨rfl, hn⟩] at hy
                have hy := Option.some.inj hy
                have hn0 : ¬ a0.size = 0 := by omega
                have hn1 : ((a0.size : Int) == 0) = false := beq_eq_false_iff_ne.2 hn
                go_upto_region 13 with (go_at_call 40; refine (impl_isRing.calls _ _ true _ HT.out).mono ?_; rintro e w' ⟨rfl, ⟨nd3, rfl⟩⟩)
                try rw [hy]
                clear hy hn hn1
                cases u with
                | false =>
                  rw [if_neg (by simp)] at hp
                  subst hp
                  clear hub
                  go_wp2_with (first | (go_at_call 40; refine (impl_isRing.calls _ _ true _ HT.out).mono ?_; rintro e w' ⟨rfl, ⟨nd3, rfl⟩⟩) | (go_at_call 41; refine (impl_within.calls _ _ _ false _ HU.out).mono ?_; rintro e w' ⟨rfl, ⟨nd4, rfl⟩⟩))
                  go_roundw
                  case rel => exact ⟨1, out, by omega, by go_num, HLn, ⟨HK.out⟩, ⟨pw_below_drewN HB.out (nd3 + nd4)⟩, HP2⟩
                  case measure => simp [intOf]
                | true =>
                  obtain ⟨m, rfl⟩ := Int.eq_ofNat_of_zero_le (hub rfl).1
                  have hm := (hub rfl).2
                  have hlen : m < out.length := by have z := HLn.out; omega
                  clear hub
                  rw [if_pos rfl, Int.toNat_natCast] at hp
                  subst hp
                  have HK2 := Aside0.mk (HK.out.set m hlen 35)
                  have hc := HK.out.cell m hlen
                  have hf := HK.out.free m hlen
                  clear hlen
                  go_wp2_with (first | (go_at_call 40; refine (impl_isRing.calls _ _ true _ HT.out).mono ?_; rintro e w' ⟨rfl, ⟨nd3, rfl⟩⟩) | (go_at_call 41; refine (impl_within.calls _ _ _ true _ HU.out).mono ?_; rintro e w' ⟨rfl, ⟨nd4, rfl⟩⟩))
                  go_roundw
                  case rel => exact ⟨1, out.set m 35, by omega, by go_num, HLn2, ⟨HK2.out⟩, ⟨(pw_below_drewN HB.out (nd3 + nd4)).setCell (p := ⟨g, m, none⟩) hg _⟩, HP2⟩
                  case measure => simp [intOf]
            · obtain ⟨o2, hp, hP2⟩ := Option.bind_eq_some_iff.1 (show ((impl_LitBy.put (a0.size : Int) a2 out x).bind fun o => impl_LitBy.puts (a0.size : Int) a2 [x2] o) = some o1 from HP.out)
              have HP2 := Aside0.mk hP2
              have HLn2 := Aside0.mk ((impl_LitBy.put_length hp).trans HLn.out)
              clear hP2 HP
              unfold impl_LitBy.put at hp
              obtain ⟨t, ht, hp⟩ := Option.bind_eq_some_iff.1 hp
              obtain ⟨y, hy, hp⟩ := Option.bind_eq_some_iff.1 hp
              obtain ⟨u, hu, hp⟩ := Option.bind_eq_some_iff.1 hp
              have hp := Option.some.inj hp
              have HT := Aside0.mk ht
              clear ht
              rw [show wrap64 ((a0.size : Int) - 1) = (a0.size : Int) - 1 by unfold wrap64; omega] at hu
              have hub : u = true → 0 ≤ y ∧ y < (a0.size : Int) := by
                rintro rfl
                unfold impl_within.f at hu
                by_cases c : y ≥ 0
                · rw [if_pos c] at hu
                  have c2 := of_decide_eq_true (Option.some.inj hu)
                  omega
                · rw [if_neg c] at hu; simp at hu
              have HU := Aside0.mk hu
              clear hu
              cases t with
              | false =>
                rw [if_neg (by simp), if_neg (by simp)] at hy
                obtain rfl := Option.some.inj hy
                clear hy
                cases u with
                | false =>
                  rw [if_neg (by simp)] at hp
                  subst hp
                  clear hub
                  go_wp2_with (first | (go_at_call 40; refine (impl_isRing.calls _ _ false _ HT.out).mono ?_; rintro e w' ⟨rfl, ⟨nd3, rfl⟩⟩) | (go_at_call 41; refine (impl_within.calls _ _ _ false _ HU.out).mono ?_; rintro e w' ⟨rfl, ⟨nd4, rfl⟩⟩))
                  go_roundw
                  case rel => exact ⟨2, out, by omega, by go_num, HLn, ⟨HK.out⟩, ⟨pw_below_drewN HB.out (nd3 + nd4)⟩, HP2⟩
                  case measure => simp [intOf]
                | true =>
                  obtain ⟨m, rfl⟩ := Int.eq_ofNat_of_zero_le (hub rfl).1
                  have hm := (hub rfl).2
                  have hlen : m < out.length := by have z := HLn.out; omega
                  clear hub
                  rw [if_pos rfl, Int.toNat_natCast] at hp
                  subst hp
                  have HK2 := Aside0.mk (HK.out.set m hlen 35)
                  have hc := HK.out.cell m hlen
                  have hf := HK.out.free m hlen
                  clear hlen
                  go_wp2_with (first | (go_at_call 40; refine (impl_isRing.calls _ _ false _ HT.out).mono ?_; rintro e w' ⟨rfl, ⟨nd3, rfl⟩⟩) | (go_at_call 41; refine (impl_within.calls _ _ _ true _ HU.out).mono ?_; rintro e w' ⟨rfl, ⟨nd4, rfl⟩⟩))
                  go_roundw
                  case rel => exact ⟨2, out.set m 35, by omega, by go_num, HLn2, ⟨HK2.out⟩, ⟨(pw_below_drewN HB.out (nd3 + nd4)).setCell (p := ⟨g, m, none⟩) hg _⟩, HP2⟩
                  case measure => simp [intOf]
              | true =>
                by_cases hn : (a0.size : Int) = 0
                · rw [if_neg (by simp [hn]), if_pos rfl] at hy
                  cases hy
                rw [if_pos ⟨rfl, hn⟩] at hy
                have hy := Option.some.inj hy
                have hn0 : ¬ a0.size = 0 := by omega
                have hn1 : ((a0.size : Int) == 0) = false := beq_eq_false_iff_ne.2 hn
                go_upto_region 13 with (go_at_call 40; refine (impl_isRing.calls _ _ true _ HT.out).mono ?_; rintro e w' ⟨rfl, ⟨nd3, rfl⟩⟩)
                try rw [hy]
                clear hy hn hn1
                cases u with
                | false =>
                  rw [if_neg (by simp)] at hp
                  subst hp
                  clear hub
                  go_wp2_with (first | (go_at_call 40; refine (impl_isRing.calls _ _ true _ HT.out).mono ?_; rintro e w' ⟨rfl, ⟨nd3, rfl⟩⟩) | (go_at_call 41; refine (impl_within.calls _ _ _ false _ HU.out).mono ?_; rintro e w' ⟨rfl, ⟨nd4, rfl⟩⟩))
                  go_roundw
                  case rel => exact ⟨2, out, by omega, by go_num, HLn, ⟨HK.out⟩, ⟨pw_below_drewN HB.out (nd3 + nd4)⟩, HP2⟩
                  case measure => simp [intOf]
                | true =>
                  obtain ⟨m, rfl⟩ := Int.eq_ofNat_of_zero_le (hub rfl).1
                  have hm := (hub rfl).2
                  have hlen : m < out.length := by have z := HLn.out; omega
                  clear hub
                  rw [if_pos rfl, Int.toNat_natCast] at hp
                  subst hp
                  have HK2 := Aside0.mk (HK.out.set m hlen 35)
                  have hc := HK.out.cell m hlen
                  have hf := HK.out.free m hlen
                  clear hlen
                  go_wp2_with (first | (go_at_call 40; refine (impl_isRing.calls _ _ true _ HT.out).mono ?_; rintro e w' ⟨rfl, ⟨nd3, rfl⟩⟩) | (go_at_call 41; refine (impl_within.calls _ _ _ true _ HU.out).mono ?_; rintro e w' ⟨rfl, ⟨nd4, rfl⟩⟩))
                  go_roundw
                  case rel => exact ⟨2, out.set m 35, by omega, by go_num, HLn2, ⟨HK2.out⟩, ⟨(pw_below_drewN HB.out (nd3 + nd4)).setCell (p := ⟨g, m, none⟩) hg _⟩, HP2⟩
                  case measure => simp [intOf]
            · obtain ⟨o2, hp, hP2⟩ := Option.bind_eq_some_iff.1 (show ((impl_LitBy.put (a0.size : Int) a2 out x2).bind fun o => impl_LitBy.puts (a0.size : Int) a2 [] o) = some o1 from HP.out)
              have HP2 := Aside0.mk hP2
              have HLn2 := Aside0.mk ((impl_LitBy.put_length hp).trans HLn.out)
              clear hP2 HP
              unfold impl_LitBy.put at hp
              obtain ⟨t, ht, hp⟩ := Option.bind_eq_some_iff.1 hp
              obtain ⟨y, hy, hp⟩ := Option.bind_eq_some_iff.1 hp
              obtain ⟨u, hu, hp⟩ := Option.bind_eq_some_iff.1 hp
              have hp := Option.some.inj hp
              have HT := Aside0.mk ht
              clear ht
              rw [show wrap64 ((a0.size : Int) - 1) = (a0.size : Int) - 1 by unfold wrap64; omega] at hu
              have hub : u = true → 0 ≤ y ∧ y < (a0.size : Int) := by
                rintro rfl
                unfold impl_within.f at hu
                by_cases c : y ≥ 0
                · rw [if_pos c] at hu
                  have c2 := of_decide_eq_true (Option.some.inj hu)
                  omega
                · rw [if_neg c] at hu; simp at hu
              have HU := Aside0.mk hu
              clear hu
              cases t with
              | false =>
                rw [if_neg (by simp), if_neg (by simp)] at hy
                obtain rfl := Option.some.inj hy
                clear hy
                cases u with
                | false =>
                  rw [if_neg (by simp)] at hp
                  subst hp
                  clear hub
                  go_wp2_with (first | (go_at_call 40; refine (impl_isRing.calls _ _ false _ HT.out).mono ?_; rintro e w' ⟨rfl, ⟨nd3, rfl⟩⟩) | (go_at_call 41; refine (impl_within.calls _ _ _ false _ HU.out).mono ?_; rintro e w' ⟨rfl, ⟨nd4, rfl⟩⟩))
                  go_roundw
                  case rel => exact ⟨3, out, by omega, by go_num, HLn, ⟨HK.out⟩, ⟨pw_below_drewN HB.out (nd3 + nd4)⟩, HP2⟩
                  case measure => simp [intOf]
                | true =>
                  obtain ⟨m, rfl⟩ := Int.eq_ofNat_of_zero_le (hub rfl).1
                  have hm := (hub rfl).2
                  have hlen : m < out.length := by have z := HLn.out; omega
                  clear hub
                  rw [if_pos rfl, Int.toNat_natCast] at hp
                  subst hp
                  have HK2 := Aside0.mk (HK.out.set m hlen 35)
                  have hc := HK.out.cell m hlen
                  have hf := HK.out.free m hlen
                  clear hlen
                  go_wp2_with (first | (go_at_call 40; refine (impl_isRing.calls _ _ false _ HT.out).mono ?_; rintro e w' ⟨rfl, ⟨nd3, rfl⟩⟩) | (go_at_call 41; refine (impl_within.calls _ _ _ true _ HU.out).mono ?_; rintro e w' ⟨rfl, ⟨nd4, rfl⟩⟩))
                  go_roundw
                  case rel => exact ⟨3, out.set m 35, by omega, by go_num, HLn2, ⟨HK2.out⟩, ⟨(pw_below_drewN HB.out (nd3 + nd4)).setCell (p := ⟨g, m, none⟩) hg _⟩, HP2⟩
                  case measure => simp [intOf]
              | true =>
                by_cases hn : (a0.size : Int) = 0
                · rw [if_neg (by simp [hn]), if_pos rfl] at hy
                  cases hy
                rw [if_pos ⟨rfl, hn⟩] at hy
                have hy := Option.some.inj hy
                have hn0 : ¬ a0.size = 0 := by omega
                have hn1 : ((a0.size : Int) == 0) = false := beq_eq_false_iff_ne.2 hn
                go_upto_region 13 with (go_at_call 40; refine (impl_isRing.calls _ _ true _ HT.out).mono ?_; rintro e w' ⟨rfl, ⟨nd3, rfl⟩⟩)
                try rw [hy]
                clear hy hn hn1
                cases u with
                | false =>
                  rw [if_neg (by simp)] at hp
                  subst hp
                  clear hub
                  go_wp2_with (first | (go_at_call 40; refine (impl_isRing.calls _ _ true _ HT.out).mono ?_; rintro e w' ⟨rfl, ⟨nd3, rfl⟩⟩) | (go_at_call 41; refine (impl_within.calls _ _ _ false _ HU.out).mono ?_; rintro e w' ⟨rfl, ⟨nd4, rfl⟩⟩))
                  go_roundw
                  case rel => exact ⟨3, out, by omega, by go_num, HLn, ⟨HK.out⟩, ⟨pw_below_drewN HB.out (nd3 + nd4)⟩, HP2⟩
                  case measure => simp [intOf]
                | true =>
                  obtain ⟨m, rfl⟩ := Int.eq_ofNat_of_zero_le (hub rfl).1
                  have hm := (hub rfl).2
                  have hlen : m < out.length := by have z := HLn.out; omega
                  clear hub
                  rw [if_pos rfl, Int.toNat_natCast] at hp
                  subst hp
                  have HK2 := Aside0.mk (HK.out.set m hlen 35)
                  have hc := HK.out.cell m hlen
                  have hf := HK.out.free m hlen
                  clear hlen
                  go_wp2_with (first | (go_at_call 40; refine (impl_isRing.calls _ _ true _ HT.out).mono ?_; rintro e w' ⟨rfl, ⟨nd3, rfl⟩⟩) | (go_at_call 41; refine (impl_within.calls _ _ _ true _ HU.out).mono ?_; rintro e w' ⟨rfl, ⟨nd4, rfl⟩⟩))
                  go_roundw
                  case rel => exact ⟨3, out.set m 35, by omega, by go_num, HLn2, ⟨HK2.out⟩, ⟨(pw_below_drewN HB.out (nd3 + nd4)).setCell (p := ⟨g, m, none⟩) hg _⟩, HP2⟩
                  case measure => simp [intOf]
            · obtain rfl := Option.some.inj (show some out = some o1 from HP.out)
              clear HP
              go_wp2
              go_roundw
              case rel => exact ⟨j + 1, out, by omega, by go_num, HLn, HK, HB, HR2⟩
              case measure => simp [intOf]; omega
        · obtain rfl : j = l1.length := by omega
          have hO := HO.out
          rw [List.drop_length] at hO
          simp only [impl_LitBy.lamps] at hO
          obtain rfl := Option.some.inj hO
          clear hlt HO hO
          have hrd : ReadsInt wr .u8 (some ⟨g, 0, none⟩) a0.size out := by
            refine ⟨HLn.out, by omega, fun _ => ⟨_, rfl, fun j hj => ?_⟩⟩
            have z := HK.out.cell j (by have z := HLn.out; omega)
            have e : (⟨g, 0, none⟩ : Addr).add j = ⟨g, j, none⟩ := by
              unfold Addr.add
              by_cases h : j = 0
              · subst h; rfl
              · simp [h]
            rw [e]; exact z
          have conv2 := string_of_reads (P := Try.prog) (src := 54) (dst := 9) (e := 5) (c := cap) Try.underlying54 Try.underlying5 Try.underlying9 hrd
          rw [R.out] at conv2
          clear hrd
          go_wp2
          go_ret2
          exact ⟨rfl, HB.out⟩

/-! ### laws_FnExactLitBy: function 7 -/
def laws_FnExactLitBy.j0 : Nat → List Int → List Int → Bool → Option (Bool)
  | 0, _, _, _ => none
  | k + 1, x1, x9, x42 => if x42 = true then (some false) else ((laws_toIntS.f k x1).bind fun t140 => ((laws_eqIntS.f k x9 t140).bind fun t143 => (if t143 = true then (some true) else (some false))))
def laws_FnExactLitBy.f (k : Nat) (a0 : ByteArray) (l1 : List Int) (a2 : Bool) : Option (Bool) := if (a0.size : Int) > 1048576 then (some true) else (if (l1.length : Int) > 1048576 then (some true) else ((laws_toIntS.f k l1).bind fun t130 => ((spec_LitBy.f k a0 t130 a2).bind fun bt133 => ((laws_toIntS.f k l1).bind fun t135 => ((impl_LitBy.f k a0 t135 a2).bind fun bt138 => (if bt138.1.toList = bt133.1.toList then (laws_FnExactLitBy.j0 k l1 t135 (bt138.2 != bt133.2)) else (laws_FnExactLitBy.j0 k l1 t135 true)))))))
theorem laws_FnExactLitBy.mono_l : ∀ k, (∀ y0 y1 y2, LeO (laws_FnExactLitBy.j0 k y0 y1 y2) (laws_FnExactLitBy.j0 (k + 1) y0 y1 y2))
  | 0 => fun _ _ _ r h => by simp [laws_FnExactLitBy.j0] at h
  | k + 1 => by
    have ih0 := laws_FnExactLitBy.mono_l k
    · intro y0 y1 y2
      unfold laws_FnExactLitBy.j0
      repeat' first
      | (with_reducible exact ih0 _ _ _)
      | (with_reducible exact impl_LitBy.mono _ _ _ _)
      | (with_reducible exact laws_eqIntS.mono _ _ _)
      | (with_reducible exact laws_toIntS.mono _ _)
      | (with_reducible exact spec_LitBy.mono _ _ _ _)
      | (with_reducible exact LeO.refl _)
      | (with_reducible exact LeO.none _)
      | (with_reducible refine LeO.ite ?_ ?_)
      | (with_reducible refine LeO.bind ?_ (fun _ => ?_))
      | exact ih0 _ _ _
      | exact impl_LitBy.mono _ _ _ _
      | exact laws_eqIntS.mono _ _ _
      | exact laws_toIntS.mono _ _
      | exact spec_LitBy.mono _ _ _ _
      | exact LeO.none _
      | refine LeO.ite ?_ ?_
      | refine LeO.bind ?_ (fun _ => ?_)
theorem laws_FnExactLitBy.mono : ∀ a0 a1 a2 k, LeO (laws_FnExactLitBy.f k a0 a1 a2) (laws_FnExactLitBy.f (k + 1) a0 a1 a2) := by
  intro a0 a1 a2 k
  have ih0 := laws_FnExactLitBy.mono_l k
  unfold laws_FnExactLitBy.f
  repeat' first
      | (with_reducible exact ih0 _ _ _)
      | (with_reducible exact impl_LitBy.mono _ _ _ _)
      | (with_reducible exact laws_eqIntS.mono _ _ _)
      | (with_reducible exact laws_toIntS.mono _ _)
      | (with_reducible exact spec_LitBy.mono _ _ _ _)
      | (with_reducible exact LeO.refl _)
      | (with_reducible exact LeO.none _)
      | (with_reducible refine LeO.ite ?_ ?_)
      | (with_reducible refine LeO.bind ?_ (fun _ => ?_))
      | exact ih0 _ _ _
      | exact impl_LitBy.mono _ _ _ _
      | exact laws_eqIntS.mono _ _ _
      | exact laws_toIntS.mono _ _
      | exact spec_LitBy.mono _ _ _ _
      | exact LeO.none _
      | refine LeO.ite ?_ ?_
      | refine LeO.bind ?_ (fun _ => ?_)
set_option maxHeartbeats 8000000 in
set_option maxRecDepth 100000 in
theorem laws_FnExactLitBy.calls (k : Nat) (a0 : ByteArray) (A1 : Option Addr) (c1 : Nat) (l1 : List Int) (a2 : Bool) (r : Bool) (w : World) (hr1 : Kd.C (Kd.int .i64) w A1 l1.length l1) (hc1 : l1.length ≤ c1) (h : laws_FnExactLitBy.f k a0 l1 a2 = some r) :
    Calls Try.prog 7 #[.string a0, .slice A1 l1.length c1, .bool a2] w fun e w' => e = .returned (.bool r) ∧ Below w.heap.size w w' := by
  have HR1 := Aside0.mk hr1
  have HC1 := Aside0.mk hc1
  clear hr1 hc1
  have HB := Aside0.mk (Below.refl w.heap.size w)
  have H : (if (a0.size : Int) > 1048576 then (some true) else (if (l1.length : Int) > 1048576 then (some true) else ((laws_toIntS.f k l1).bind fun t130 => ((spec_LitBy.f k a0 t130 a2).bind fun bt133 => ((laws_toIntS.f k l1).bind fun t135 => ((impl_LitBy.f k a0 t135 a2).bind fun bt138 => (if bt138.1.toList = bt133.1.toList then (laws_FnExactLitBy.j0 k l1 t135 (bt138.2 != bt133.2)) else (laws_FnExactLitBy.j0 k l1 t135 true)))))))) = some r := h
  clear h
  by_cases c4 : (a0.size : Int) > 1048576
  · rw [if_pos c4] at H
    have c4b0 : decide (1048576 < (a0.size : Int)) = true := decide_eq_true c4
    have c4b1 : decide (1048576 < a0.size) = true := decide_eq_true (by omega)
    clear c4
    obtain rfl := Option.some.inj H
    go_enter Try.func7, Try.ntmps7
    go_wp2
    go_ret
    exact ⟨by first | rfl | (simp [errW_none, errW_some] <;> rfl) | (simp [*, errW_none, errW_some] <;> rfl), by repeat (first | (with_reducible first | exact HB.out | apply below_alloc | apply pw_below_drewN | apply below_drew1) | exact HB.out)⟩
  · rw [if_neg c4] at H
    have c4b0 : decide (1048576 < (a0.size : Int)) = false := decide_eq_false c4
    have c4b1 : decide (1048576 < a0.size) = false := decide_eq_false (by omega)
    clear c4
    by_cases c5 : (l1.length : Int) > 1048576
    · rw [if_pos c5] at H
      have c5b0 : decide (1048576 < (l1.length : Int)) = true := decide_eq_true c5
      have c5b1 : decide (1048576 < l1.length) = true := decide_eq_true (by omega)
      clear c5
      obtain rfl := Option.some.inj H
      go_enter Try.func7, Try.ntmps7
      go_wp2
      go_ret
      exact ⟨by first | rfl | (simp [errW_none, errW_some] <;> rfl) | (simp [*, errW_none, errW_some] <;> rfl), by repeat (first | (with_reducible first | exact HB.out | apply below_alloc | apply pw_below_drewN | apply below_drew1) | exact HB.out)⟩
    · rw [if_neg c5] at H
      have c5b0 : decide (1048576 < (l1.length : Int)) = false := decide_eq_false c5
      have c5b1 : decide (1048576 < l1.length) = false := decide_eq_false (by omega)
      clear c5
      replace H := Option.bind_eq_some_iff.mp H
      obtain ⟨t130, A60, H⟩ := H
      replace H : ((spec_LitBy.f k a0 t130 a2).bind fun bt133 => ((laws_toIntS.f k l1).bind fun t135 => ((impl_LitBy.f k a0 t135 a2).bind fun bt138 => (if bt138.1.toList = bt133.1.toList then (laws_FnExactLitBy.j0 k l1 t135 (bt138.2 != bt133.2)) else (laws_FnExactLitBy.j0 k l1 t135 true))))) = some r := H
      have A6 := Aside0.mk A60
      clear A60
      replace H := Option.bind_eq_some_iff.mp H
      obtain ⟨⟨t133, t134⟩, A70, H⟩ := H
      replace H : ((laws_toIntS.f k l1).bind fun t135 => ((impl_LitBy.f k a0 t135 a2).bind fun bt138 => (if bt138.1.toList = t133.toList then (laws_FnExactLitBy.j0 k l1 t135 (bt138.2 != t134)) else (laws_FnExactLitBy.j0 k l1 t135 true)))) = some r := H
      have A7 := Aside0.mk A70
      clear A70
      replace H := Option.bind_eq_some_iff.mp H
      obtain ⟨t135, A80, H⟩ := H
      replace H : ((impl_LitBy.f k a0 t135 a2).bind fun bt138 => (if bt138.1.toList = t133.toList then (laws_FnExactLitBy.j0 k l1 t135 (bt138.2 != t134)) else (laws_FnExactLitBy.j0 k l1 t135 true))) = some r := H
      have A8 := Aside0.mk A80
      clear A80
      replace H := Option.bind_eq_some_iff.mp H
      obtain ⟨⟨t138, t139⟩, A90, H⟩ := H
      replace H : (if t138.toList = t133.toList then (laws_FnExactLitBy.j0 k l1 t135 (t139 != t134)) else (laws_FnExactLitBy.j0 k l1 t135 true)) = some r := H
      have A9 := Aside0.mk A90
      clear A90
      have HC10 := Aside0.mk H
      clear H
      go_enter Try.func7, Try.ntmps7
      go_upto_region 8 with (first | ((with_reducible refine gate_callee (f := 24) rfl ?_); refine goesL_ (some 21) rfl rfl Try.func24 (by kernel_rfl) rfl #[.slice A1 l1.length c1] rfl (by (try simp only [List.map_toArray, List.map_cons, List.map_nil]); first | done | rfl | (simp only [List.length_drop, List.length_take]; rfl)) ?_; (with_reducible refine (laws_toIntS.calls k _ _ l1 t130 _ ?side1 ?side2 A6.out).mono ?_); (case side1 => repeat (first | exact HR1.out | (with_reducible refine Kd.C_alloc ?_ _) | (with_reducible refine Kd.C_drewN ?_ _) | (with_reducible refine Kd.C_drew ?_))); (case side2 => exact HC1.out); rintro e w11 ⟨v131, rfl, ho0, hb⟩; refine ⟨_, rfl, ?_⟩; have n0_ := Aside0.mk (Kd.R_lower ho0 (below_size (by repeat (first | (with_reducible first | exact HB.out | apply below_alloc | apply pw_below_drewN | apply below_drew1) | exact HB.out)))); have n1_ := Aside0.mk (below_step (by repeat (first | (with_reducible first | exact HB.out | apply below_alloc | apply pw_below_drewN | apply below_drew1) | exact HB.out)) hb); clear HB; have HO132 := n0_; have HB := n1_; clear n0_ n1_; (try clear hb); (try clear hb2); (try clear hk); (try clear hi); (try clear ho0); obtain ⟨Ao12, co12, eo12⟩ := Kd.R_slice HO132.out; subst eo12) | ((with_reducible refine gate_callee (f := 23) rfl ?_); refine goesL_ (some 23) rfl rfl Try.func23 (by kernel_rfl) rfl #[.string a0, .slice Ao12 t130.length co12, .bool a2] rfl (by (try simp only [List.map_toArray, List.map_cons, List.map_nil]); first | done | rfl | (simp only [List.length_drop, List.length_take]; rfl)) ?_; (with_reducible refine (spec_LitBy.calls k a0 _ _ t130 a2 t133 t134 _ ?side1 ?side2 A7.out).mono ?_); (case side1 => repeat (first | exact (Kd.R_reads' HO132.out).2.2 | (with_reducible refine Kd.C_alloc ?_ _) | (with_reducible refine Kd.C_drewN ?_ _) | (with_reducible refine Kd.C_drew ?_))); (case side2 => exact (Kd.R_reads' HO132.out).2.1); rintro e w' ⟨rfl, ⟨nd, rfl⟩⟩; refine ⟨_, rfl, ?_⟩) | ((with_reducible refine gate_callee (f := 24) rfl ?_); refine goesL_ (some 27) rfl rfl Try.func24 (by kernel_rfl) rfl #[.slice A1 l1.length c1] rfl (by (try simp only [List.map_toArray, List.map_cons, List.map_nil]); first | done | rfl | (simp only [List.length_drop, List.length_take]; rfl)) ?_; (with_reducible refine (laws_toIntS.calls k _ _ l1 t135 _ ?side1 ?side2 A8.out).mono ?_); (case side1 => repeat (first | exact (Kd.C_below HR1.out (by repeat (first | (with_reducible first | exact HB.out | apply below_alloc | apply pw_below_drewN | apply below_drew1) | exact HB.out))) | (with_reducible refine Kd.C_alloc ?_ _) | (with_reducible refine Kd.C_drewN ?_ _) | (with_reducible refine Kd.C_drew ?_))); (case side2 => exact HC1.out); rintro e w13 ⟨v136, rfl, ho0, hb⟩; refine ⟨_, rfl, ?_⟩; have n0_ := Aside0.mk (Kd.R_elder' (by (with_reducible repeat (first | apply Kd.R_alloc | apply Kd.R_drewN | apply Kd.R_drew)); exact HO132.out) (Kd.R_base ho0) hb); have n1_ := Aside0.mk (Kd.R_lower (Kd.R_new' ho0 (Kd.R_lt (by (with_reducible repeat (first | apply Kd.R_alloc | apply Kd.R_drewN | apply Kd.R_drew)); exact HO132.out))) (below_size (by repeat (first | (with_reducible first | exact HB.out | apply below_alloc | apply pw_below_drewN | apply below_drew1) | exact HB.out)))); have n2_ := Aside0.mk (below_step (by repeat (first | (with_reducible first | exact HB.out | apply below_alloc | apply pw_below_drewN | apply below_drew1) | exact HB.out)) hb); clear HO132; clear HB; have HO132 := n0_; have HO137 := n1_; have HB := n2_; clear n0_ n1_ n2_; (try clear hb); (try clear hb2); (try clear hk); (try clear hi); (try clear ho0); obtain ⟨Ao14, co14, eo14⟩ := Kd.R_slice HO137.out; subst eo14) | ((with_reducible refine gate_callee (f := 25) rfl ?_); refine goesL_ (some 32) rfl rfl Try.func25 (by kernel_rfl) rfl #[.string a0, .slice Ao14 t135.length co14, .bool a2] rfl (by (try simp only [List.map_toArray, List.map_cons, List.map_nil]); first | done | rfl | (simp only [List.length_drop, List.length_take]; rfl)) ?_; (with_reducible refine (impl_LitBy.calls k a0 _ _ t135 a2 t138 t139 _ ?side1 ?side2 A9.out).mono ?_); (case side1 => repeat (first | exact (Kd.R_reads' HO137.out).2.2 | (with_reducible refine Kd.C_alloc ?_ _) | (with_reducible refine Kd.C_drewN ?_ _) | (with_reducible refine Kd.C_drew ?_))); (case side2 => exact (Kd.R_reads' HO137.out).2.1); rintro e w15 ⟨rfl, hb⟩; refine ⟨_, rfl, ?_⟩; have n0_ := Aside0.mk (Kd.R_below (by (with_reducible repeat (first | apply Kd.R_alloc | apply Kd.R_drewN | apply Kd.R_drew)); exact HO132.out) hb); have n1_ := Aside0.mk (Kd.R_below (by (with_reducible repeat (first | apply Kd.R_alloc | apply Kd.R_drewN | apply Kd.R_drew)); exact HO137.out) hb); have n2_ := Aside0.mk (below_step (by repeat (first | (with_reducible first | exact HB.out | apply below_alloc | apply pw_below_drewN | apply below_drew1) | exact HB.out)) hb); clear HO132; clear HO137; clear HB; have HO132 := n0_; have HO137 := n1_; have HB := n2_; clear n0_ n1_ n2_; (try clear hb); (try clear hb2); (try clear hk); (try clear hi)))
      (try simp only [Act.put, List.setIfInBounds_toArray, List.set_cons_zero, List.set_cons_succ])
      go_cut [42] (fun v42 wc => ∃ (kq : Nat) (x42_9 : Bool), v42 = .bool x42_9 ∧ Aside0 (laws_FnExactLitBy.j0 kq l1 t135 x42_9 = some r) ∧ Aside0 (kq ≤ k) ∧ Aside0 (Kd.R (Kd.int .i64) 3 wc w.heap.size (fun _ => True) (.slice Ao14 t135.length co14) t135) ∧ Aside0 (Below w.heap.size w wc))
      case first =>
        have H := HC10.out
        clear HC10
        by_cases c16 : t138.toList = t133.toList
        · rw [if_pos c16] at H
          have c16b0 : (t138.toList == t133.toList) = true := beq_iff_eq.mpr c16
          have c16b1 : (t138.toList != t133.toList) = false := bne_eq_false_iff_eq.mpr c16
          clear c16
          (first | rw [c16b0] | (simp only [i64_w, i32_w]; rw [c16b0]) | skip)
          have H' := Aside0.mk H
          clear H
          go_wp2
          go_meet
          case rel => exact ⟨_, ((t139 != t134)), (by first | rfl | (simp; done) | (simp [*]; done)), H', ⟨by first | omega | exact Nat.le_refl _⟩, ⟨by (with_reducible repeat (first | apply Kd.R_alloc | apply Kd.R_drewN | apply Kd.R_drew)); exact Kd.R_mono HO137.out (fun _ hk => trivial)⟩, ⟨by repeat (first | (with_reducible first | exact HB.out | apply below_alloc | apply pw_below_drewN | apply below_drew1) | exact HB.out)⟩⟩
        · rw [if_neg c16] at H
          have c16b0 : (t138.toList == t133.toList) = false := beq_eq_false_iff_ne.mpr c16
          have c16b1 : (t138.toList != t133.toList) = true := bne_iff_ne.mpr c16
          (first | rw [c16b0] | (simp only [i64_w, i32_w]; rw [c16b0]) | skip)
          have H' := Aside0.mk H
          clear H
          go_wp2
          go_meet
          case rel => exact ⟨_, (true), (by first | rfl | (simp; done) | (simp [*]; done)), H', ⟨by first | omega | exact Nat.le_refl _⟩, ⟨by (with_reducible repeat (first | apply Kd.R_alloc | apply Kd.R_drewN | apply Kd.R_drew)); exact Kd.R_mono HO137.out (fun _ hk => trivial)⟩, ⟨by repeat (first | (with_reducible first | exact HB.out | apply below_alloc | apply pw_below_drewN | apply below_drew1) | exact HB.out)⟩⟩
      case rest =>
        clear HC10
        try clear c1
        try clear c2
        try clear p2
        try clear c4
        try clear c4b0
        try clear c4b1
        try clear c5
        try clear c5b0
        try clear c5b1
        try clear c7
        try clear c16
        try clear c16b0
        try clear c16b1
        obtain ⟨kq, x42_9, rfl, HA, HJ9, HO_9, HB⟩ := hcut
        cases kq with
        | zero => exact absurd HA.out (by simp [laws_FnExactLitBy.j0])
        | succ kj9 =>
          have H := HA.out
          clear HA
          simp only [laws_FnExactLitBy.j0] at H
          by_cases c17 : x42_9 = true
          · subst c17
            have H1 : (some false) = some r := by rw [if_pos rfl] at H; exact H
            clear H
            have H := H1
            clear H1
            obtain rfl := Option.some.inj H
            go_wp2
            go_ret
            exact ⟨by first | rfl | (simp [errW_none, errW_some] <;> rfl) | (simp [*, errW_none, errW_some] <;> rfl), by repeat (first | (with_reducible first | exact HB.out | apply below_alloc | apply pw_below_drewN | apply below_drew1) | exact HB.out)⟩
          · replace c17 := Bool.eq_false_iff.mpr c17
            subst c17
            have H1 : ((laws_toIntS.f kj9 l1).bind fun t140 => ((laws_eqIntS.f kj9 t135 t140).bind fun t143 => (if t143 = true then (some true) else (some false)))) = some r := by rw [if_neg (show ¬ (false = true) by decide)] at H; exact H
            clear H
            have H := H1
            clear H1
            replace H := Option.bind_eq_some_iff.mp H
            obtain ⟨t140, A180, H⟩ := H
            replace H : ((laws_eqIntS.f kj9 t135 t140).bind fun t143 => (if t143 = true then (some true) else (some false))) = some r := H
            have A18 := Aside0.mk A180
            clear A180
            replace H := Option.bind_eq_some_iff.mp H
            obtain ⟨t143, A190, H⟩ := H
            replace H : (if t143 = true then (some true) else (some false)) = some r := H
            have A19 := Aside0.mk A190
            clear A190
            by_cases c20 : t143 = true
            · subst c20
              have H1 : (some true) = some r := by rw [if_pos rfl] at H; exact H
              clear H
              have H := H1
              clear H1
              obtain rfl := Option.some.inj H
              go_wp2_with (first | ((with_reducible refine gate_callee (f := 24) rfl ?_); refine goesL_ (some 45) rfl rfl Try.func24 (by kernel_rfl) rfl #[.slice A1 l1.length c1] rfl (by (try simp only [List.map_toArray, List.map_cons, List.map_nil]); first | done | rfl | (simp only [List.length_drop, List.length_take]; rfl)) ?_; (with_reducible refine (laws_toIntS.calls kj9 _ _ l1 t140 _ ?side1 ?side2 A18.out).mono ?_); (case side1 => repeat (first | exact (Kd.C_below HR1.out HB.out) | (with_reducible refine Kd.C_alloc ?_ _) | (with_reducible refine Kd.C_drewN ?_ _) | (with_reducible refine Kd.C_drew ?_))); (case side2 => exact HC1.out); rintro e w21 ⟨v141, rfl, ho0, hb⟩; refine ⟨_, rfl, ?_⟩; have n0_ := Aside0.mk (Kd.R_elder' (by (with_reducible repeat (first | apply Kd.R_alloc | apply Kd.R_drewN | apply Kd.R_drew)); exact HO_9.out) (Kd.R_base ho0) hb); have n1_ := Aside0.mk (Kd.R_lower (Kd.R_new' ho0 (Kd.R_lt (by (with_reducible repeat (first | apply Kd.R_alloc | apply Kd.R_drewN | apply Kd.R_drew)); exact HO_9.out))) (below_size (by repeat (first | (with_reducible first | exact HB.out | apply below_alloc | apply pw_below_drewN | apply below_drew1) | exact HB.out)))); have n2_ := Aside0.mk (below_step (by repeat (first | (with_reducible first | exact HB.out | apply below_alloc | apply pw_below_drewN | apply below_drew1) | exact HB.out)) hb); clear HO_9; clear HB; have HO_9 := n0_; have HO142 := n1_; have HB := n2_; clear n0_ n1_ n2_; (try clear hb); (try clear hb2); (try clear hk); (try clear hi); (try clear ho0); obtain ⟨Ao22, co22, eo22⟩ := Kd.R_slice HO142.out; subst eo22) | ((with_reducible refine gate_callee (f := 12) rfl ?_); refine goesL_ (some 46) rfl rfl Try.func12 (by kernel_rfl) rfl #[.slice Ao14 t135.length co14, .slice Ao22 t140.length co22] rfl (by (try simp only [List.map_toArray, List.map_cons, List.map_nil]); first | done | rfl | (simp only [List.length_drop, List.length_take]; rfl)) ?_; (with_reducible refine (laws_eqIntS.calls kj9 _ _ t135 _ _ t140 true _ ?side1 ?side2 ?side3 ?side4 A19.out).mono ?_); (case side1 => repeat (first | exact (Kd.R_reads' HO_9.out).2.2 | (with_reducible refine Kd.C_alloc ?_ _) | (with_reducible refine Kd.C_drewN ?_ _) | (with_reducible refine Kd.C_drew ?_))); (case side2 => exact (Kd.R_reads' HO_9.out).2.1); (case side3 => repeat (first | exact (Kd.R_reads' HO142.out).2.2 | (with_reducible refine Kd.C_alloc ?_ _) | (with_reducible refine Kd.C_drewN ?_ _) | (with_reducible refine Kd.C_drew ?_))); (case side4 => exact (Kd.R_reads' HO142.out).2.1); rintro e w' ⟨rfl, ⟨nd, rfl⟩⟩; refine ⟨_, rfl, ?_⟩))
              go_ret
              exact ⟨by first | rfl | (simp [errW_none, errW_some] <;> rfl) | (simp [*, errW_none, errW_some] <;> rfl), by repeat (first | (with_reducible first | exact HB.out | apply below_alloc | apply pw_below_drewN | apply below_drew1) | exact HB.out)⟩
            · replace c20 := Bool.eq_false_iff.mpr c20
              subst c20
              have H1 : (some false) = some r := by rw [if_neg (show ¬ (false = true) by decide)] at H; exact H
              clear H
              have H := H1
              clear H1
              obtain rfl := Option.some.inj H
              go_wp2_with (first | ((with_reducible refine gate_callee (f := 24) rfl ?_); refine goesL_ (some 45) rfl rfl Try.func24 (by kernel_rfl) rfl #[.slice A1 l1.length c1] rfl (by (try simp only [List.map_toArray, List.map_cons, List.map_nil]); first | done | rfl | (simp only [List.length_drop, List.length_take]; rfl)) ?_; (with_reducible refine (laws_toIntS.calls kj9 _ _ l1 t140 _ ?side1 ?side2 A18.out).mono ?_); (case side1 => repeat (first | exact (Kd.C_below HR1.out HB.out) | (with_reducible refine Kd.C_alloc ?_ _) | (with_reducible refine Kd.C_drewN ?_ _) | (with_reducible refine Kd.C_drew ?_))); (case side2 => exact HC1.out); rintro e w23 ⟨v141, rfl, ho0, hb⟩; refine ⟨_, rfl, ?_⟩; have n0_ := Aside0.mk (Kd.R_elder' (by (with_reducible repeat (first | apply Kd.R_alloc | apply Kd.R_drewN | apply Kd.R_drew)); exact HO_9.out) (Kd.R_base ho0) hb); have n1_ := Aside0.mk (Kd.R_lower (Kd.R_new' ho0 (Kd.R_lt (by (with_reducible repeat (first | apply Kd.R_alloc | apply Kd.R_drewN | apply Kd.R_drew)); exact HO_9.out))) (below_size (by repeat (first | (with_reducible first | exact HB.out | apply below_alloc | apply pw_below_drewN | apply below_drew1) | exact HB.out)))); have n2_ := Aside0.mk (below_step (by repeat (first | (with_reducible first | exact HB.out | apply below_alloc | apply pw_below_drewN | apply below_drew1) | exact HB.out)) hb); clear HO_9; clear HB; have HO_9 := n0_; have HO142 := n1_; have HB := n2_; clear n0_ n1_ n2_; (try clear hb); (try clear hb2); (try clear hk); (try clear hi); (try clear ho0); obtain ⟨Ao24, co24, eo24⟩ := Kd.R_slice HO142.out; subst eo24) | ((with_reducible refine gate_callee (f := 12) rfl ?_); refine goesL_ (some 46) rfl rfl Try.func12 (by kernel_rfl) rfl #[.slice Ao14 t135.length co14, .slice Ao24 t140.length co24] rfl (by (try simp only [List.map_toArray, List.map_cons, List.map_nil]); first | done | rfl | (simp only [List.length_drop, List.length_take]; rfl)) ?_; (with_reducible refine (laws_eqIntS.calls kj9 _ _ t135 _ _ t140 false _ ?side1 ?side2 ?side3 ?side4 A19.out).mono ?_); (case side1 => repeat (first | exact (Kd.R_reads' HO_9.out).2.2 | (with_reducible refine Kd.C_alloc ?_ _) | (with_reducible refine Kd.C_drewN ?_ _) | (with_reducible refine Kd.C_drew ?_))); (case side2 => exact (Kd.R_reads' HO_9.out).2.1); (case side3 => repeat (first | exact (Kd.R_reads' HO142.out).2.2 | (with_reducible refine Kd.C_alloc ?_ _) | (with_reducible refine Kd.C_drewN ?_ _) | (with_reducible refine Kd.C_drew ?_))); (case side4 => exact (Kd.R_reads' HO142.out).2.1); rintro e w' ⟨rfl, ⟨nd, rfl⟩⟩; refine ⟨_, rfl, ?_⟩))
              go_ret
              exact ⟨by first | rfl | (simp [errW_none, errW_some] <;> rfl) | (simp [*, errW_none, errW_some] <;> rfl), by repeat (first | (with_reducible first | exact HB.out | apply below_alloc | apply pw_below_drewN | apply below_drew1) | exact HB.out)⟩

/-- The one pure statement of laws_FnExactLitBy. -/
def laws_FnExactLitBy.Pure : Prop := ∀ (a0 : ByteArray) (l1 : List Int) (a2 : Bool), a0.size ≤ 140737488351232 → l1.length ≤ maxLen → l1.length * 8 ≤ 140737488351232 → (∀ x ∈ l1, (Lit.int .i64 x).wf = true) → ∃ k, laws_FnExactLitBy.f k a0 l1 a2 = some true
theorem laws_FnExactLitBy.walk (P : laws_FnExactLitBy.Pure) (a0 : ByteArray) (a1 : Option Addr) (len1 cap1 : Nat) (z1 : List Int) (a2 : Bool) (w : World) (w0 : a0.size ≤ 140737488351232) (w1 : (a1 = none ∧ len1 = 0 ∧ cap1 = 0 ∧ z1 = []) ∨ ∃ x, a1 = some x ∧ len1 ≤ cap1 ∧ cap1 ≤ maxLen ∧ z1.length = cap1 ∧ (∀ i, i < z1.length → w.cell? (x.add i) = some (.int .i64 (z1.getD i 0))) ∧ ∀ n ∈ z1, (Lit.int .i64 n).wf = true) (y1 : len1 * 8 ≤ 140737488351232) :
    Calls Try.prog 7 #[.string a0, .slice a1 len1 cap1, .bool a2] w fun e w' => e = .returned (.bool true) ∧ Below w.heap.size w w' := by
  obtain ⟨l1, rfl, hr1, hm1, hw1, hc1⟩ := ReadsInt.ofRowC w1
  obtain ⟨k, h⟩ := P a0 l1 a2 w0 hm1 y1 hw1
  refine (laws_FnExactLitBy.calls k a0 _ _ l1 a2 true w (Kd.C_of_reads (d := (0 : Int)) (h1 := fun _ => rfl) hr1) hc1 h).mono ?_
  rintro e w' ⟨rfl, hd⟩
  exact ⟨rfl, hd⟩

end Go.Proofs.Ytknookofgnandaa.MA
