-- The machine side, written by this repo's program mp.py; contracts marked as of this repo are this session's own.
import Derived.Test.YtlmenkhklpfefaaMRx0
import Derived.Test.YtlmenkhklpfefaaMRx1
import Derived.Test.YtlmenkhklpfefaaMRx6
namespace Go.Proofs.Ytlmenkhklpfefaa.MR
open Go.RowKit Go.Proofs.YtlmenkhklpfefaaW.PrintWords Go.Proofs.YtlmenkhklpfefaaW.PrintLast Go.Proofs.YtlmenkhklpfefaaW.PrintMore
attribute [local go_sem] max2_int min2_int max_two min_two max_three min_three max_four min_four   -- for this text's walks alone
set_option linter.unusedVariables false
set_option linter.unusedSimpArgs false

/-! ### impl_LitBy: function 15 (a contract of this repo) -/
/-- A text's bytes as numbers. -/
def impl_LitBy.nums (s : ByteArray) : List Int := s.data.toList.map fun b => (b.toNat : Int)
/-- One house lit, if it is one. -/
def impl_LitBy.put (n : Int) (ring : Bool) (out : List Int) (x : Int) : Option (List Int) := (impl_isRing.f n ring).bind fun t => (if t = true ∧ ¬ n = 0 then some (Int.tmod (wrap64 (x + n)) n) else if t = true then none else some x).bind fun y => (impl_within.f y 0 (wrap64 (n - 1))).bind fun u => some (if u = true then out.set y.toNat 35 else out)
/-- Some houses lit. -/
def impl_LitBy.puts (n : Int) (ring : Bool) : List Int → List Int → Option (List Int)
  | [], out => some out
  | x :: rest, out => (impl_LitBy.put n ring out x).bind fun o => impl_LitBy.puts n ring rest o
/-- What all lamps light. -/
def impl_LitBy.lamps (n : Int) (ring : Bool) : List Int → List Int → Option (List Int)
  | [], out => some out
  | h :: rest, out => (impl_LitBy.puts n ring [wrap64 (h - 1), h, wrap64 (h + 1)] out).bind fun o => impl_LitBy.lamps n ring rest o
def impl_LitBy.f (k : Nat) (a0 : ByteArray) (l1 : List Int) (a2 : Bool) : Option (ByteArray × Bool) := (impl_IsLitRow.f k a0).bind fun t => if t = true then ((impl_areHouses.f k l1 (a0.size : Int)).bind fun u => if u = true then (if a0.size ≤ 1048576 then (impl_LitBy.lamps (a0.size : Int) a2 l1 (List.replicate a0.size 46)).bind fun o => some (strOfNums o, true) else none) else some ((⟨#[]⟩ : ByteArray), false)) else some ((⟨#[]⟩ : ByteArray), false)
theorem impl_LitBy.mono : ∀ a0 a1 a2 k, LeO (impl_LitBy.f k a0 a1 a2) (impl_LitBy.f (k + 1) a0 a1 a2) := fun a0 a1 a2 k => by
  unfold impl_LitBy.f
  refine LeO.bind (impl_IsLitRow.mono _ k) (fun _ => LeO.ite (LeO.bind (impl_areHouses.mono _ _ k) (fun _ => LeO.refl _)) (LeO.refl _))
/-- Block g holds these bytes at its head. -/
def impl_LitBy.Blk (w : World) (g : Nat) (xs : List Int) : Prop := ∃ (cur : Array Value) (N : Nat), w.heap[g]? = some (.cells cur 5 (N, N + 1)) ∧ xs.length ≤ N ∧ cur.size = N ∧ ∀ j, j < xs.length → cur[j]? = some (.int .u8 (xs.getD j 0))
theorem impl_LitBy.Blk.cell {w : World} {g : Nat} {xs : List Int} (h : impl_LitBy.Blk w g xs) (j : Nat) (hj : j < xs.length) : w.cell? ⟨g, j, none⟩ = some (.int .u8 (xs.getD j 0)) := by
  obtain ⟨cur, N, hh, h1, h2, h3⟩ := h
  simp only [World.cell?, hh]
  exact h3 j hj
theorem impl_LitBy.Blk.free {w : World} {g : Nat} {xs : List Int} (h : impl_LitBy.Blk w g xs) (j : Nat) (hj : j < xs.length) : w.frozen? ⟨g, j, none⟩ = false := by
  obtain ⟨cur, N, hh, h1, h2, h3⟩ := h
  simp [World.frozen?, hh]
  omega
theorem impl_LitBy.Blk.set {w : World} {g : Nat} {xs : List Int} (h : impl_LitBy.Blk w g xs) (i : Nat) (hi : i < xs.length) (v : Int) : impl_LitBy.Blk (w.setCell ⟨g, i, none⟩ (.int .u8 v)) g (xs.set i v) := by
  obtain ⟨cur, N, hh, h1, h2, h3⟩ := h
  refine ⟨cur.setIfInBounds i (.int .u8 v), N, ?_, by simpa using h1, by simpa using h2, fun j hj => ?_⟩
  · simp [World.setCell, Array.getElem?_modify, hh]
  · rw [List.length_set] at hj
    rw [Array.getElem?_setIfInBounds]
    by_cases e : i = j
    · subst e
      simp [h2, hj]
      omega
    · rw [if_neg e, h3 j hj]
      simp [List.getD_eq_getElem?_getD, List.getElem?_set_ne e]
theorem impl_LitBy.Blk.size {w : World} {g : Nat} {xs : List Int} (h : impl_LitBy.Blk w g xs) : g < w.heap.size := by
  obtain ⟨cur, N, hh, _⟩ := h
  exact (Array.getElem?_eq_some_iff.1 hh).1
theorem impl_LitBy.nums_length (s : ByteArray) : (impl_LitBy.nums s).length = s.size := by
  unfold impl_LitBy.nums
  rw [List.length_map]
  exact Array.length_toList
theorem impl_LitBy.Blk.made (w : World) (s : ByteArray) : impl_LitBy.Blk (Go.Lib.bytesWorld w 5 s) w.heap.size (impl_LitBy.nums s) := by
  refine ⟨Go.Lib.bytesCells w 5 s, (Go.Lib.bytesCells w 5 s).size, Go.Lib.bytesWorld_at_new w 5 s, ?_, rfl, fun j hj => ?_⟩
  · rw [impl_LitBy.nums_length]
    unfold Go.Lib.bytesCells
    rw [Array.size_append, Array.size_map]
    exact Nat.le_add_right _ _
  · have h := Go.Lib.bytesWorld_cell w 5 s j (by rw [impl_LitBy.nums_length] at hj; exact hj)
    have hn := Go.Lib.bytesWorld_at_new w 5 s
    simp only [World.cell?, hn] at h
    refine Eq.trans (b := some (Value.int IntKind.u8 ↑(s.data.toList.getD j 0).toNat)) h ?_
    rw [impl_LitBy.nums_length] at hj
    have hj' : j < s.data.toList.length := by rw [Array.length_toList]; exact hj
    unfold impl_LitBy.nums
    rw [List.getD_eq_getElem?_getD, List.getElem?_eq_getElem hj', List.getD_eq_getElem?_getD, List.getElem?_map, List.getElem?_eq_getElem hj']
    rfl
theorem impl_LitBy.made_below (w : World) (s : ByteArray) : Below w.heap.size w (Go.Lib.bytesWorld w 5 s) :=
  ⟨rfl, rfl, rfl, by rw [Go.Lib.bytesWorld_size]; omega, fun j hj => Go.Lib.bytesWorld_at_old w 5 s j hj⟩
theorem impl_LitBy.nums_rep (n : Nat) : impl_LitBy.nums ⟨(Go.Lib.repeatL [46] n).toArray⟩ = List.replicate n 46 := by
  unfold impl_LitBy.nums
  induction n with
  | zero => rfl
  | succ n ih =>
    simp only [Go.Lib.repeatL] at ih ⊢
    simp only [List.cons_append, List.nil_append, List.map_cons, List.replicate_succ] at ih ⊢
    rw [ih]
    rfl
theorem impl_LitBy.put_length {n : Int} {ring : Bool} {out o : List Int} {x : Int} (h : impl_LitBy.put n ring out x = some o) : o.length = out.length := by
  unfold impl_LitBy.put at h
  obtain ⟨t, -, h⟩ := Option.bind_eq_some_iff.1 h
  obtain ⟨y, -, h⟩ := Option.bind_eq_some_iff.1 h
  obtain ⟨u, -, h⟩ := Option.bind_eq_some_iff.1 h
  have := Option.some.inj h
  rw [← this]
  split
  · rw [List.length_set]
  · rfl
theorem impl_LitBy.size1 (w : World) : (Go.sizeOf 3).run Try.prog w = .ok 1 w := rfl
theorem impl_LitBy.idx0 (a b c : Value) (w : World) : (Instr.index 50 (.agg #[a, b, c]) (.int .i64 0)).run Try.prog w = .ok a w := by rfl
theorem impl_LitBy.idx1 (a b c : Value) (w : World) : (Instr.index 50 (.agg #[a, b, c]) (.int .i64 1)).run Try.prog w = .ok b w := by rfl
theorem impl_LitBy.idx2 (a b c : Value) (w : World) : (Instr.index 50 (.agg #[a, b, c]) (.int .i64 2)).run Try.prog w = .ok c w := by rfl
attribute [local go_sem high] impl_LitBy.idx0 impl_LitBy.idx1 impl_LitBy.idx2
set_option maxHeartbeats 4000000 in
set_option maxRecDepth 100000 in
theorem impl_LitBy.calls (k : Nat) (a0 : ByteArray) (A1 : Option Addr) (c1 : Nat) (l1 : List Int) (a2 : Bool) (r1 : ByteArray) (r2 : Bool) (w : World) (hr1 : Kd.C (Kd.int .i64) w A1 l1.length l1) (hc1 : l1.length ≤ c1) (h : impl_LitBy.f k a0 l1 a2 = some (r1, r2)) :
    Calls Try.prog 15 #[.string a0, .slice A1 l1.length c1, .bool a2] w fun e w' => e = .returned (.tuple #[.string r1, .bool r2]) ∧ Below w.heap.size w w' := by
  have HR1 := Aside0.mk hr1
  have HC1 := Aside0.mk hc1
  clear hr1 hc1
  unfold impl_LitBy.f at h
  obtain ⟨t, ht, h⟩ := Option.bind_eq_some_iff.1 h
  have HT := Aside0.mk ht
  clear ht
  cases t with
  | false =>
    rw [if_neg (by simp)] at h
    simp only [Option.some.injEq, Prod.mk.injEq] at h
    obtain ⟨rfl, rfl⟩ := h
    go_enter Try.func15, Try.ntmps15
    go_wp2_with (go_at_call 13; refine (impl_IsLitRow.calls k a0 false _ HT.out).mono ?_; rintro e w' ⟨rfl, ⟨nd, rfl⟩⟩)
    go_ret2
    exact ⟨rfl, pw_below_drewN (Below.refl _ _) nd⟩
  | true =>
    rw [if_pos rfl] at h
    obtain ⟨u, hu, h⟩ := Option.bind_eq_some_iff.1 h
    have HU := Aside0.mk hu
    clear hu
    cases u with
    | false =>
      rw [if_neg (by simp)] at h
      simp only [Option.some.injEq, Prod.mk.injEq] at h
      obtain ⟨rfl, rfl⟩ := h
      go_enter Try.func15, Try.ntmps15
      go_wp2_with (first | (go_at_call 13; refine (impl_IsLitRow.calls k a0 true _ HT.out).mono ?_; rintro e w' ⟨rfl, ⟨nd, rfl⟩⟩) | (go_at_call 32; refine (impl_areHouses.calls k _ _ l1 (a0.size : Int) false _ (Kd.C_drewN HR1.out nd) HC1.out HU.out).mono ?_; rintro e w' ⟨rfl, ⟨nd2, rfl⟩⟩))
      go_ret2
      exact ⟨rfl, pw_below_drewN (Below.refl _ _) (nd + nd2)⟩
    | true =>
      rw [if_pos rfl] at h
      by_cases hz : a0.size ≤ 1048576
      case neg => rw [if_neg hz] at h; cases h
      rw [if_pos hz] at h
      obtain ⟨o, ho, h⟩ := Option.bind_eq_some_iff.1 h
      simp only [Option.some.injEq, Prod.mk.injEq] at h
      obtain ⟨R, rfl⟩ := h
      have R := Aside0.mk R
      have HO := Aside0.mk ho
      clear ho
      obtain ⟨S, hS⟩ : ∃ S : ByteArray, S = ⟨(Go.Lib.repeatL [46] a0.size).toArray⟩ := ⟨_, rfl⟩
      have hN : impl_LitBy.nums S = List.replicate a0.size 46 := by rw [hS]; exact impl_LitBy.nums_rep _
      have hSz : S.size = a0.size := by rw [← impl_LitBy.nums_length, hN, List.length_replicate]
      have HN := Aside0.mk hN
      have HS := Aside0.mk (show strings_Repeat.f ⟨#[46]⟩ (a0.size : Int) = some S by
        unfold strings_Repeat.f
        rw [if_pos ⟨⟨by omega, by omega⟩, by simp only [Int.toNat_natCast]; show 1 * a0.size ≤ 140737488355328; omega⟩, hS]
        rfl)
      clear hN hS
      have HSz := Aside0.mk hSz
      clear hSz
      go_enter Try.func15, Try.ntmps15
      go_wp2_with (first | (go_at_call 13; refine (impl_IsLitRow.calls k a0 true _ HT.out).mono ?_; rintro e w' ⟨rfl, ⟨nd, rfl⟩⟩) | (go_at_call 32; refine (impl_areHouses.calls k _ _ l1 (a0.size : Int) true _ (Kd.C_drewN HR1.out nd) HC1.out HU.out).mono ?_; rintro e w' ⟨rfl, ⟨nd2, rfl⟩⟩) | (go_at_call 33; refine (strings_Repeat.calls _ _ S _ HS.out).mono ?_; rintro e w3 ⟨rfl, hb3⟩; have conv1 := Go.Lib.run_convert_string_bytes (P := Try.prog) w3 9 22 5 S Try.underlying9 Try.underlying22 Try.underlying5))
      have hB3 : Below w.heap.size w w3 := (pw_below_drewN (Below.refl w.heap.size w) (nd + nd2)).trans hb3
      have hg : w.heap.size ≤ w3.heap.size := hB3.size
      have B0 := impl_LitBy.Blk.made w3 S
      have L0 := hB3.trans ((impl_LitBy.made_below w3 S).mono hg)
      rw [HN.out] at B0
      generalize Go.Lib.bytesWorld w3 5 S = w4 at B0 L0 ⊢
      generalize w3.heap.size = g at hg B0 ⊢
      have HB := Aside0.mk L0
      have HK := Aside0.mk B0
      have HG := Aside0.mk hg
      have HLn := Aside0.mk (show (List.replicate a0.size (46 : Int)).length = a0.size from List.length_replicate)
      generalize List.replicate a0.size (46 : Int) = out0 at HK HO HLn
      clear conv1 hb3 hB3 B0 L0 HN HS HT HU
      generalize grownCap w3 S.size 0 5 = cap
      rw [HSz.out]
      have hc1 := HC1.out
      have hl1 : l1.length ≤ 9223372036854775807 := Kd.C_max HR1.out
      clear hg
      go_loopw [31] (fun i wr => ∃ (j : Nat) (out : List Int), j ≤ l1.length ∧ i = .int .i64 j ∧ Aside0 (out.length = a0.size) ∧ Aside0 (impl_LitBy.Blk wr g out) ∧ Aside0 (Below w.heap.size w wr) ∧ Aside0 (impl_LitBy.lamps a0.size a2 (l1.drop j) out = some o)) (fun i _ => l1.length - (intOf i).toNat)
      case atStart => exact ⟨0, out0, Nat.zero_le _, rfl, HLn, HK, HB, HO⟩
      case round =>
        obtain ⟨j, out, hj, rfl, HLn, HK, HB, HO⟩ := hrel
        by_cases hlt : j < l1.length
        · have e0 : l1.drop j = l1[j] :: l1.drop (j + 1) := List.drop_eq_getElem_cons hlt
          have hO := HO.out
          rw [e0] at hO
          simp only [impl_LitBy.lamps] at hO
          obtain ⟨o1, hP, hR2⟩ := Option.bind_eq_some_iff.1 hO
          have HP := Aside0.mk hP
          have HR2 := Aside0.mk hR2
          clear e0 hO hP hR2 HO
          obtain ⟨ad, hA, hx⟩ := Kd.at_int (Kd.C_below HR1.out HB.out) (j : Int) (by omega) (by omega)
          rw [show rd l1 (j : Int) = l1[j] by simp [rd, hlt], Int.toNat_natCast] at hx
          generalize l1[j] = x at hx HP
          obtain rfl := hA
          go_wp2
          clear hx
          generalize wrap64 (x - 1) = x0 at HP ⊢
          generalize wrap64 (x + 1) = x2 at HP ⊢
          go_loopw [41] (fun i wr => ∃ (q : Nat) (out : List Int), q ≤ 3 ∧ i = .int .i64 q ∧ Aside0 (out.length = a0.size) ∧ Aside0 (impl_LitBy.Blk wr g out) ∧ Aside0 (Below w.heap.size w wr) ∧ Aside0 (impl_LitBy.puts a0.size a2 ([x0, x, x2].drop q) out = some o1)) (fun i _ => 3 - (intOf i).toNat)
          case atStart => exact ⟨0, out, by omega, rfl, HLn, HK, HB, HP⟩
          case round =>
            clear HLn HK HB HP
            obtain ⟨q, out, hq, rfl, HLn, HK, HB, HP⟩ := hrel
            have hq4 : q = 0 ∨ q = 1 ∨ q = 2 ∨ q = 3 := by omega
            have hg := HG.out
            have hsz := HSz.out
            rcases hq4 with rfl | rfl | rfl | rfl
            · obtain ⟨o2, hp, hP2⟩ := Option.bind_eq_some_iff.1 (show ((impl_LitBy.put (a0.size : Int) a2 out x0).bind fun o => impl_LitBy.puts (a0.size : Int) a2 [x, x2] o) = some o1 from HP.out)
              have HP2 := Aside0.mk hP2
              have HLn2 := Aside0.mk ((impl_LitBy.put_length hp).trans HLn.out)
              clear hP2 HP
              unfold impl_LitBy.put at hp
              obtain ⟨t, ht, hp⟩ := Option.bind_eq_some_iff.1 hp
              obtain ⟨y, hy, hp⟩ := Option.bind_eq_some_iff.1 hp
              obtain ⟨u, hu, hp⟩ := Option.bind_eq_some_iff.1 hp
              have hp := Option.some.inj hp
              have HT := Aside0.mk ht
              clear ht
              rw [show wrap64 ((a0.size : Int) - 1) = (a0.size : Int) - 1 by unfold wrap64; omega] at hu
              have hub : u = true → 0 ≤ y ∧ y < (a0.size : Int) := by
                rintro rfl
                unfold impl_within.f at hu
                by_cases c : y ≥ 0
                · rw [if_pos c] at hu
                  have c2 := of_decide_eq_true (Option.some.inj hu)
                  omega
                · rw [if_neg c] at hu; simp at hu
              have HU := Aside0.mk hu
              clear hu
              cases t with
              | false =>
                rw [if_neg (by simp), if_neg (by simp)] at hy
                obtain rfl := Option.some.inj hy
                clear hy
                cases u with
                | false =>
                  rw [if_neg (by simp)] at hp
                  subst hp
                  clear hub
                  go_wp2_with (first | (go_at_call 34; refine (impl_isRing.calls _ _ false _ HT.out).mono ?_; rintro e w' ⟨rfl, ⟨nd3, rfl⟩⟩) | (go_at_call 35; refine (impl_within.calls _ _ _ false _ HU.out).mono ?_; rintro e w' ⟨rfl, ⟨nd4, rfl⟩⟩))
                  go_roundw
                  case rel => exact ⟨1, out, by omega, by go_num, HLn, ⟨HK.out⟩, ⟨pw_below_drewN HB.out (nd3 + nd4)⟩, HP2⟩
                  case measure => simp [intOf]
                | true =>
                  obtain ⟨m, rfl⟩ := Int.eq_ofNat_of_zero_le (hub rfl).1
                  have hm := (hub rfl).2
                  have hlen : m < out.length := by have z := HLn.out; omega
                  clear hub
                  rw [if_pos rfl, Int.toNat_natCast] at hp
                  subst hp
                  have HK2 := Aside0.mk (HK.out.set m hlen 35)
                  have hc := HK.out.cell m hlen
                  have hf := HK.out.free m hlen
                  clear hlen
                  go_wp2_with (first | (go_at_call 34; refine (impl_isRing.calls _ _ false _ HT.out).mono ?_; rintro e w' ⟨rfl, ⟨nd3, rfl⟩⟩) | (go_at_call 35; refine (impl_within.calls _ _ _ true _ HU.out).mono ?_; rintro e w' ⟨rfl, ⟨nd4, rfl⟩⟩))
                  go_roundw
                  case rel => exact ⟨1, out.set m 35, by omega, by go_num, HLn2, ⟨HK2.out⟩, ⟨(pw_below_drewN HB.out (nd3 + nd4)).setCell (p := ⟨g, m, none⟩) hg _⟩, HP2⟩
                  case measure => simp [intOf]
              | true =>
                by_cases hn : (a0.size : Int) = 0
                · rw [if_neg (by simp [hn]), if_pos rfl] at hy
                  cases hy
                rw [if_pos ⟨rfl, hn⟩] at hy
                have hy := Option.some.inj hy
                have hn0 : ¬ a0.size = 0 := by omega
                have hn1 : ((a0.size : Int) == 0) = false := beq_eq_false_iff_ne.2 hn
                go_upto_region 13 with (go_at_call 34; refine (impl_isRing.calls _ _ true _ HT.out).mono ?_; rintro e w' ⟨rfl, ⟨nd3, rfl⟩⟩)
                try rw [hy]
                clear hy hn hn1
                cases u with
                | false =>
                  rw [if_neg (by simp)] at hp
                  subst hp
                  clear hub
                  go_wp2_with (first | (go_at_call 34; refine (impl_isRing.calls _ _ true _ HT.out).mono ?_; rintro e w' ⟨rfl, ⟨nd3, rfl⟩⟩) | (go_at_call 35; refine (impl_within.calls _ _ _ false _ HU.out).mono ?_; rintro e w' ⟨rfl, ⟨nd4, rfl⟩⟩))
                  go_roundw
                  case rel => exact ⟨1, out, by omega, by go_num, HLn, ⟨HK.out⟩, ⟨pw_below_drewN HB.out (nd3 + nd4)⟩, HP2⟩
                  case measure => simp [intOf]
                | true =>
                  obtain ⟨m, rfl⟩ := Int.eq_ofNat_of_zero_le (hub rfl).1
                  have hm := (hub rfl).2
                  have hlen : m < out.length := by have z := HLn.out; omega
                  clear hub
                  rw [if_pos rfl, Int.toNat_natCast] at hp
                  subst hp
                  have HK2 := Aside0.mk (HK.out.set m hlen 35)
                  have hc := HK.out.cell m hlen
                  have hf := HK.out.free m hlen
                  clear hlen
                  go_wp2_with (first | (go_at_call 34; refine (impl_isRing.calls _ _ true _ HT.out).mono ?_; rintro e w' ⟨rfl, ⟨nd3, rfl⟩⟩) | (go_at_call 35; refine (impl_within.calls _ _ _ true _ HU.out).mono ?_; rintro e w' ⟨rfl, ⟨nd4, rfl⟩⟩))
                  go_roundw
                  case rel => exact ⟨1, out.set m 35, by omega, by go_num, HLn2, ⟨HK2.out⟩, ⟨(pw_below_drewN HB.out (nd3 + nd4)).setCell (p := ⟨g, m, none⟩) hg _⟩, HP2⟩
                  case measure => simp [intOf]
            · obtain ⟨o2, hp, hP2⟩ := Option.bind_eq_some_iff.1 (show ((impl_LitBy.put (a0.size : Int) a2 out x).bind fun o => impl_LitBy.puts (a0.size : Int) a2 [x2] o) = some o1 from HP.out)
              have HP2 := Aside0.mk hP2
              have HLn2 := Aside0.mk ((impl_LitBy.put_length hp).trans HLn.out)
              clear hP2 HP
              unfold impl_LitBy.put at hp
              obtain ⟨t, ht, hp⟩ := Option.bind_eq_some_iff.1 hp
              obtain ⟨y, hy, hp⟩ := Option.bind_eq_some_iff.1 hp
              obtain ⟨u, hu, hp⟩ := Option.bind_eq_some_iff.1 hp
              have hp := Option.some.inj hp
              have HT := Aside0.mk ht
              clear ht
              rw [show wrap64 ((a0.size : Int) - 1) = (a0.size : Int) - 1 by unfold wrap64; omega] at hu
              have hub : u = true → 0 ≤ y ∧ y < (a0.size : Int) := by
                rintro rfl
                unfold impl_within.f at hu
                by_cases c : y ≥ 0
                · rw [if_pos c] at hu
                  have c2 := of_decide_eq_true (Option.some.inj hu)
                  omega
                · rw [if_neg c] at hu; simp at hu
              have HU := Aside0.mk hu
              clear hu
              cases t with
              | false =>
                rw [if_neg (by simp), if_neg (by simp)] at hy
                obtain rfl := Option.some.inj hy
                clear hy
                cases u with
                | false =>
                  rw [if_neg (by simp)] at hp
                  subst hp
                  clear hub
                  go_wp2_with (first | (go_at_call 34; refine (impl_isRing.calls _ _ false _ HT.out).mono ?_; rintro e w' ⟨rfl, ⟨nd3, rfl⟩⟩) | (go_at_call 35; refine (impl_within.calls _ _ _ false _ HU.out).mono ?_; rintro e w' ⟨rfl, ⟨nd4, rfl⟩⟩))
                  go_roundw
                  case rel => exact ⟨2, out, by omega, by go_num, HLn, ⟨HK.out⟩, ⟨pw_below_drewN HB.out (nd3 + nd4)⟩, HP2⟩
                  case measure => simp [intOf]
                | true =>
                  obtain ⟨m, rfl⟩ := Int.eq_ofNat_of_zero_le (hub rfl).1
                  have hm := (hub rfl).2
                  have hlen : m < out.length := by have z := HLn.out; omega
                  clear hub
                  rw [if_pos rfl, Int.toNat_natCast] at hp
                  subst hp
                  have HK2 := Aside0.mk (HK.out.set m hlen 35)
                  have hc := HK.out.cell m hlen
                  have hf := HK.out.free m hlen
                  clear hlen
                  go_wp2_with (first | (go_at_call 34; refine (impl_isRing.calls _ _ false _ HT.out).mono ?_; rintro e w' ⟨rfl, ⟨nd3, rfl⟩⟩) | (go_at_call 35; refine (impl_within.calls _ _ _ true _ HU.out).mono ?_; rintro e w' ⟨rfl, ⟨nd4, rfl⟩⟩))
                  go_roundw
                  case rel => exact ⟨2, out.set m 35, by omega, by go_num, HLn2, ⟨HK2.out⟩, ⟨(pw_below_drewN HB.out (nd3 + nd4)).setCell (p := ⟨g, m, none⟩) hg _⟩, HP2⟩
                  case measure => simp [intOf]
              | true =>
                by_cases hn : (a0.size : Int) = 0
                · rw [if_neg (by simp [hn]), if_pos rfl] at hy
                  cases hy
                rw [if_pos ⟨rfl, hn⟩] at hy
                have hy := Option.some.inj hy
                have hn0 : ¬ a0.size = 0 := by omega
                have hn1 : ((a0.size : Int) == 0) = false := beq_eq_false_iff_ne.2 hn
                go_upto_region 13 with (go_at_call 34; refine (impl_isRing.calls _ _ true _ HT.out).mono ?_; rintro e w' ⟨rfl, ⟨nd3, rfl⟩⟩)
                try rw [hy]
                clear hy hn hn1
                cases u with
                | false =>
                  rw [if_neg (by simp)] at hp
                  subst hp
                  clear hub
                  go_wp2_with (first | (go_at_call 34; refine (impl_isRing.calls _ _ true _ HT.out).mono ?_; rintro e w' ⟨rfl, ⟨nd3, rfl⟩⟩) | (go_at_call 35; refine (impl_within.calls _ _ _ false _ HU.out).mono ?_; rintro e w' ⟨rfl, ⟨nd4, rfl⟩⟩))
                  go_roundw
                  case rel => exact ⟨2, out, by omega, by go_num, HLn, ⟨HK.out⟩, ⟨pw_below_drewN HB.out (nd3 + nd4)⟩, HP2⟩
                  case measure => simp [intOf]
                | true =>
                  obtain ⟨m, rfl⟩ := Int.eq_ofNat_of_zero_le (hub rfl).1
                  have hm := (hub rfl).2
                  have hlen : m < out.length := by have z := HLn.out; omega
                  clear hub
                  rw [if_pos rfl, Int.toNat_natCast] at hp
                  subst hp
                  have HK2 := Aside0.mk (HK.out.set m hlen 35)
                  have hc := HK.out.cell m hlen
                  have hf := HK.out.free m hlen
                  clear hlen
                  go_wp2_with (first | (go_at_call 34; refine (impl_isRing.calls _ _ true _ HT.out).mono ?_; rintro e w' ⟨rfl, ⟨nd3, rfl⟩⟩) | (go_at_call 35; refine (impl_within.calls _ _ _ true _ HU.out).mono ?_; rintro e w' ⟨rfl, ⟨nd4, rfl⟩⟩))
                  go_roundw
                  case rel => exact ⟨2, out.set m 35, by omega, by go_num, HLn2, ⟨HK2.out⟩, ⟨(pw_below_drewN HB.out (nd3 + nd4)).setCell (p := ⟨g, m, none⟩) hg _⟩, HP2⟩
                  case measure => simp [intOf]
            · obtain ⟨o2, hp, hP2⟩ := Option.bind_eq_some_iff.1 (show ((impl_LitBy.put (a0.size : Int) a2 out x2).bind fun o => impl_LitBy.puts (a0.size : Int) a2 [] o) = some o1 from HP.out)
              have HP2 := Aside0.mk hP2
              have HLn2 := Aside0.mk ((impl_LitBy.put_length hp).trans HLn.out)
              clear hP2 HP
              unfold impl_LitBy.put at hp
              obtain ⟨t, ht, hp⟩ := Option.bind_eq_some_iff.1 hp
              obtain ⟨y, hy, hp⟩ := Option.bind_eq_some_iff.1 hp
              obtain ⟨u, hu, hp⟩ := Option.bind_eq_some_iff.1 hp
              have hp := Option.some.inj hp
              have HT := Aside0.mk ht
              clear ht
              rw [show wrap64 ((a0.size : Int) - 1) = (a0.size : Int) - 1 by unfold wrap64; omega] at hu
              have hub : u = true → 0 ≤ y ∧ y < (a0.size : Int) := by
                rintro rfl
                unfold impl_within.f at hu
                by_cases c : y ≥ 0
                · rw [if_pos c] at hu
                  have c2 := of_decide_eq_true (Option.some.inj hu)
                  omega
                · rw [if_neg c] at hu; simp at hu
              have HU := Aside0.mk hu
              clear hu
              cases t with
              | false =>
                rw [if_neg (by simp), if_neg (by simp)] at hy
                obtain rfl := Option.some.inj hy
                clear hy
                cases u with
                | false =>
                  rw [if_neg (by simp)] at hp
                  subst hp
                  clear hub
                  go_wp2_with (first | (go_at_call 34; refine (impl_isRing.calls _ _ false _ HT.out).mono ?_; rintro e w' ⟨rfl, ⟨nd3, rfl⟩⟩) | (go_at_call 35; refine (impl_within.calls _ _ _ false _ HU.out).mono ?_; rintro e w' ⟨rfl, ⟨nd4, rfl⟩⟩))
                  go_roundw
                  case rel => exact ⟨3, out, by omega, by go_num, HLn, ⟨HK.out⟩, ⟨pw_below_drewN HB.out (nd3 + nd4)⟩, HP2⟩
                  case measure => simp [intOf]
                | true =>
                  obtain ⟨m, rfl⟩ := Int.eq_ofNat_of_zero_le (hub rfl).1
                  have hm := (hub rfl).2
                  have hlen : m < out.length := by have z := HLn.out; omega
                  clear hub
                  rw [if_pos rfl, Int.toNat_natCast] at hp
                  subst hp
                  have HK2 := Aside0.mk (HK.out.set m hlen 35)
                  have hc := HK.out.cell m hlen
                  have hf := HK.out.free m hlen
                  clear hlen
                  go_wp2_with (first | (go_at_call 34; refine (impl_isRing.calls _ _ false _ HT.out).mono ?_; rintro e w' ⟨rfl, ⟨nd3, rfl⟩⟩) | (go_at_call 35; refine (impl_within.calls _ _ _ true _ HU.out).mono ?_; rintro e w' ⟨rfl, ⟨nd4, rfl⟩⟩))
                  go_roundw
                  case rel => exact ⟨3, out.set m 35, by omega, by go_num, HLn2, ⟨HK2.out⟩, ⟨(pw_below_drewN HB.out (nd3 + nd4)).setCell (p := ⟨g, m, none⟩) hg _⟩, HP2⟩
                  case measure => simp [intOf]
              | true =>
                by_cases hn : (a0.size : Int) = 0
                · rw [if_neg (by simp [hn]), if_pos rfl] at hy
                  cases hy
                rw [if_pos ⟨rfl, hn⟩] at hy
                have hy := Option.some.inj hy
                have hn0 : ¬ a0.size = 0 := by omega
                have hn1 : ((a0.size : Int) == 0) = false := beq_eq_false_iff_ne.2 hn
                go_upto_region 13 with (go_at_call 34; refine (impl_isRing.calls _ _ true _ HT.out).mono ?_; rintro e w' ⟨rfl, ⟨nd3, rfl⟩⟩)
                try rw [hy]
                clear hy hn hn1
                cases u with
                | false =>
                  rw [if_neg (by simp)] at hp
                  subst hp
                  clear hub
                  go_wp2_with (first | (go_at_call 34; refine (impl_isRing.calls _ _ true _ HT.out).mono ?_; rintro e w' ⟨rfl, ⟨nd3, rfl⟩⟩) | (go_at_call 35; refine (impl_within.calls _ _ _ false _ HU.out).mono ?_; rintro e w' ⟨rfl, ⟨nd4, rfl⟩⟩))
                  go_roundw
                  case rel => exact ⟨3, out, by omega, by go_num, HLn, ⟨HK.out⟩, ⟨pw_below_drewN HB.out (nd3 + nd4)⟩, HP2⟩
                  case measure => simp [intOf]
                | true =>
                  obtain ⟨m, rfl⟩ := Int.eq_ofNat_of_zero_le (hub rfl).1
                  have hm := (hub rfl).2
                  have hlen : m < out.length := by have z := HLn.out; omega
                  clear hub
                  rw [if_pos rfl, Int.toNat_natCast] at hp
                  subst hp
                  have HK2 := Aside0.mk (HK.out.set m hlen 35)
                  have hc := HK.out.cell m hlen
                  have hf := HK.out.free m hlen
                  clear hlen
                  go_wp2_with (first | (go_at_call 34; refine (impl_isRing.calls _ _ true _ HT.out).mono ?_; rintro e w' ⟨rfl, ⟨nd3, rfl⟩⟩) | (go_at_call 35; refine (impl_within.calls _ _ _ true _ HU.out).mono ?_; rintro e w' ⟨rfl, ⟨nd4, rfl⟩⟩))
                  go_roundw
                  case rel => exact ⟨3, out.set m 35, by omega, by go_num, HLn2, ⟨HK2.out⟩, ⟨(pw_below_drewN HB.out (nd3 + nd4)).setCell (p := ⟨g, m, none⟩) hg _⟩, HP2⟩
                  case measure => simp [intOf]
            · obtain rfl := Option.some.inj (show some out = some o1 from HP.out)
              clear HP
              go_wp2
              go_roundw
              case rel => exact ⟨j + 1, out, by omega, by go_num, HLn, HK, HB, HR2⟩
              case measure => simp [intOf]; omega
        · obtain rfl : j = l1.length := by omega
          have hO := HO.out
          rw [List.drop_length] at hO
          simp only [impl_LitBy.lamps] at hO
          obtain rfl := Option.some.inj hO
          clear hlt HO hO
          have hrd : ReadsInt wr .u8 (some ⟨g, 0, none⟩) a0.size out := by
            refine ⟨HLn.out, by omega, fun _ => ⟨_, rfl, fun j hj => ?_⟩⟩
            have z := HK.out.cell j (by have z := HLn.out; omega)
            have e : (⟨g, 0, none⟩ : Addr).add j = ⟨g, j, none⟩ := by
              unfold Addr.add
              by_cases h : j = 0
              · subst h; rfl
              · simp [h]
            rw [e]; exact z
          have conv2 := string_of_reads (P := Try.prog) (src := 22) (dst := 9) (e := 5) (c := cap) Try.underlying22 Try.underlying5 Try.underlying9 hrd
          rw [R.out] at conv2
          clear hrd
          go_wp2
          go_ret2
          exact ⟨rfl, HB.out⟩

/-! ### impl_FewestGuards: function 16 -/
def impl_FewestGuards.f (a0 : Int) (a1 : Bool) : Option (Int × Bool) := (impl_isRowLength.f a0).bind fun t213 => (if t213 = true then (some (wrap64 (Int.tdiv (wrap64 (a0 + 2)) 3), true)) else (some (0, false)))
set_option maxHeartbeats 8000000 in
set_option maxRecDepth 100000 in
theorem impl_FewestGuards.calls (a0 : Int) (a1 : Bool) (r1 : Int) (r2 : Bool) (w : World) (h : impl_FewestGuards.f a0 a1 = some (r1, r2)) :
    Calls Try.prog 16 #[.int .i64 a0, .bool a1] w fun e w' => e = .returned (.tuple #[.int .i64 r1, .bool r2]) ∧ Drawn0 w w' := by
  have H : ((impl_isRowLength.f a0).bind fun t213 => (if t213 = true then (some (wrap64 (Int.tdiv (wrap64 (a0 + 2)) 3), true)) else (some (0, false)))) = some (r1, r2) := h
  clear h
  replace H := Option.bind_eq_some_iff.mp H
  obtain ⟨t213, A30, H⟩ := H
  replace H : (if t213 = true then (some (wrap64 (Int.tdiv (wrap64 (a0 + 2)) 3), true)) else (some (0, false))) = some (r1, r2) := H
  have A3 := Aside0.mk A30
  clear A30
  by_cases c4 : t213 = true
  · subst c4
    have H1 : (some (wrap64 (Int.tdiv (wrap64 (a0 + 2)) 3), true)) = some (r1, r2) := by rw [if_pos rfl] at H; exact H
    clear H
    have H := H1
    clear H1
    simp only [Option.some.injEq, Prod.mk.injEq] at H
    obtain ⟨rfl, rfl⟩ := H
    go_enter Try.func16, Try.ntmps16
    go_wp2_with (first | ((with_reducible refine gate_callee (f := 31) rfl ?_); refine goesL_ (some 7) rfl rfl Try.func31 (by kernel_rfl) rfl #[.int .i64 a0] rfl (by (try simp only [List.map_toArray, List.map_cons, List.map_nil]); first | done | rfl | (simp only [List.length_drop, List.length_take]; rfl)) ?_; (with_reducible refine (impl_isRowLength.calls a0 true _ A3.out).mono ?_); rintro e w' ⟨rfl, ⟨nd, rfl⟩⟩; refine ⟨_, rfl, ?_⟩))
    go_ret2
    exact ⟨by first | rfl | (simp; done) | (simp [*]; done), by repeat (first | exact Drawn0.refl _ | apply Drawn0.step)⟩
  · replace c4 := Bool.eq_false_iff.mpr c4
    subst c4
    have H1 : (some (0, false)) = some (r1, r2) := by rw [if_neg (show ¬ (false = true) by decide)] at H; exact H
    clear H
    have H := H1
    clear H1
    simp only [Option.some.injEq, Prod.mk.injEq] at H
    obtain ⟨rfl, rfl⟩ := H
    go_enter Try.func16, Try.ntmps16
    go_wp2_with (first | ((with_reducible refine gate_callee (f := 31) rfl ?_); refine goesL_ (some 7) rfl rfl Try.func31 (by kernel_rfl) rfl #[.int .i64 a0] rfl (by (try simp only [List.map_toArray, List.map_cons, List.map_nil]); first | done | rfl | (simp only [List.length_drop, List.length_take]; rfl)) ?_; (with_reducible refine (impl_isRowLength.calls a0 false _ A3.out).mono ?_); rintro e w' ⟨rfl, ⟨nd, rfl⟩⟩; refine ⟨_, rfl, ?_⟩))
    go_ret2
    exact ⟨by first | rfl | (simp; done) | (simp [*]; done), by repeat (first | exact Drawn0.refl _ | apply Drawn0.step)⟩

/-! ### laws_zRises: function 17 -/
def laws_zRises.l0 : Nat → List Int → Int → Option (Bool)
  | 0, _, _ => none
  | k + 1, x0, x3 => if x3 < (x0.length : Int) then (if 0 ≤ (wrap64 (x3 - 1)) then (if (wrap64 (x3 - 1)) < (x0.length : Int) then (if 0 ≤ x3 then (if (rd x0 (wrap64 (x3 - 1))) ≥ (rd x0 x3) then (some false) else (laws_zRises.l0 k x0 (wrap64 (x3 + 1)))) else (none)) else (none)) else (none)) else (some true)
def laws_zRises.f (k : Nat) (l0 : List Int) : Option (Bool) := laws_zRises.l0 k l0 1
theorem laws_zRises.mono_l : ∀ k, (∀ y0 y1, LeO (laws_zRises.l0 k y0 y1) (laws_zRises.l0 (k + 1) y0 y1))
  | 0 => fun _ _ r h => by simp [laws_zRises.l0] at h
  | k + 1 => by
    have ih0 := laws_zRises.mono_l k
    · intro y0 y1
      unfold laws_zRises.l0
      repeat' first
      | (with_reducible exact ih0 _ _)
      | (with_reducible exact LeO.refl _)
      | (with_reducible exact LeO.none _)
      | (with_reducible refine LeO.ite ?_ ?_)
      | (with_reducible refine LeO.bind ?_ (fun _ => ?_))
      | exact ih0 _ _
      | exact LeO.none _
      | refine LeO.ite ?_ ?_
      | refine LeO.bind ?_ (fun _ => ?_)
theorem laws_zRises.mono : ∀ a0 k, LeO (laws_zRises.f k a0) (laws_zRises.f (k + 1) a0) := by
  intro a0 k
  have ih0 := laws_zRises.mono_l k
  unfold laws_zRises.f
  repeat' first
      | (with_reducible exact ih0 _ _)
      | (with_reducible exact LeO.refl _)
      | (with_reducible exact LeO.none _)
      | (with_reducible refine LeO.ite ?_ ?_)
      | (with_reducible refine LeO.bind ?_ (fun _ => ?_))
      | exact ih0 _ _
      | exact LeO.none _
      | refine LeO.ite ?_ ?_
      | refine LeO.bind ?_ (fun _ => ?_)
set_option maxHeartbeats 8000000 in
set_option maxRecDepth 100000 in
theorem laws_zRises.calls (k : Nat) (A0 : Option Addr) (c0 : Nat) (l0 : List Int) (r : Bool) (w : World) (hr0 : Kd.C (Kd.int .i64) w A0 l0.length l0) (hc0 : l0.length ≤ c0) (h : laws_zRises.f k l0 = some r) :
    Calls Try.prog 17 #[.slice A0 l0.length c0] w fun e w' => e = .returned (.bool r) ∧ Drawn0 w w' := by
  have HR0 := Aside0.mk hr0
  have HC0 := Aside0.mk hc0
  clear hr0 hc0
  have H : (laws_zRises.l0 k l0 1) = some r := h
  clear h
  have H' := Aside0.mk H
  clear H
  go_enter Try.func17, Try.ntmps17
  go_wp2
  repeat (go_quiet (fail); try go_wp2)
  go_loopg [3] k (fun kq v3 w' => ∃ (x3_1 : Int), v3 = .int .i64 x3_1 ∧ Aside0 (laws_zRises.l0 kq l0 x3_1 = some r) ∧ Aside0 (kq ≤ k) ∧ Drawn0 w w')
  case atStart => exact ⟨(1), (by first | rfl | (simp; done) | (simp [*]; done)), H', ⟨Nat.le_refl _⟩, by repeat (first | exact Drawn0.refl _ | apply Drawn0.step)⟩
  case round =>
    clear H'
    try clear c1
    obtain ⟨x3_1, rfl, HA, HK1, ⟨m1, rfl⟩⟩ := hrel
    cases gk with
    | zero => exact absurd HA.out (by simp [laws_zRises.l0])
    | succ k1 =>
      have H := HA.out
      clear HA
      simp only [laws_zRises.l0] at H
      by_cases c2 : x3_1 < (l0.length : Int)
      · rw [if_pos c2] at H
        have c2b0 : decide (x3_1 < (l0.length : Int)) = true := decide_eq_true c2
        clear c2
        obtain ⟨ji3, hji3⟩ : ∃ j_ : Int, (wrap64 (x3_1 - 1)) = j_ := ⟨_, rfl⟩
        replace H : (if 0 ≤ (ji3) then (if (ji3) < (l0.length : Int) then (if 0 ≤ x3_1 then (if (rd l0 (ji3)) ≥ (rd l0 x3_1) then (some false) else (laws_zRises.l0 k1 l0 (wrap64 (x3_1 + 1)))) else (none)) else (none)) else (none)) = some r := by first | (rw [hji3] at H; exact H) | (simp only [hji3] at H ⊢; exact H)
        have hji3w : (IntKind.i64.wrap (x3_1 - 1)) = ji3 := (i64_w _).trans hji3
        by_cases c4 : 0 ≤ (ji3)
        · rw [if_pos c4] at H
          have c4b0 : decide (0 ≤ (ji3)) = true := decide_eq_true c4
          clear c4
          by_cases c5 : (ji3) < (l0.length : Int)
          · rw [if_pos c5] at H
            have c5b0 : decide ((ji3) < (l0.length : Int)) = true := decide_eq_true c5
            clear c5
            by_cases c6 : 0 ≤ x3_1
            · rw [if_pos c6] at H
              have c6b0 : decide (0 ≤ x3_1) = true := decide_eq_true c6
              clear c6
              by_cases c7 : (rd l0 (ji3)) ≥ (rd l0 x3_1)
              · rw [if_pos c7] at H
                have c7b0 : decide ((rd l0 x3_1) ≤ (rd l0 (ji3))) = true := decide_eq_true c7
                clear c7
                obtain rfl := Option.some.inj H
                have p214 : 0 ≤ ((ji3) : Int) := of_decide_eq_true (by first | (with_reducible assumption) | assumption)
                have q214 : (ji3) < (l0.length : Int) := of_decide_eq_true (by first | (with_reducible assumption) | assumption)
                obtain ⟨ad214, e214, hx214_0⟩ := Kd.at_int HR0.out (ji3) p214 q214
                cases e214
                replace p214 := eq_true p214
                replace q214 := eq_true q214
                have p215 : 0 ≤ (x3_1 : Int) := of_decide_eq_true (by first | (with_reducible assumption) | assumption)
                have q215 : x3_1 < (l0.length : Int) := of_decide_eq_true (by first | (with_reducible assumption) | assumption)
                obtain ⟨ad215, e215, hx215_0⟩ := Kd.at_int HR0.out x3_1 p215 q215
                obtain rfl : ad214 = ad215 := (by injection e215)
                replace p215 := eq_true p215
                replace q215 := eq_true q215
                go_wp2
                repeat (go_quiet (fail); try go_wp2)
                go_ret
                exact ⟨by first | rfl | (simp; done) | (simp only [← hji3] <;> (first | rfl | simp)) | (simp [*]; done), by repeat (first | exact Drawn0.refl _ | apply Drawn0.step)⟩
              · rw [if_neg c7] at H
                have c7b0 : decide ((rd l0 x3_1) ≤ (rd l0 (ji3))) = false := decide_eq_false c7
                clear c7
                have H' := Aside0.mk H
                clear H
                have p214 : 0 ≤ ((ji3) : Int) := of_decide_eq_true (by first | (with_reducible assumption) | assumption)
                have q214 : (ji3) < (l0.length : Int) := of_decide_eq_true (by first | (with_reducible assumption) | assumption)
                obtain ⟨ad214, e214, hx214_0⟩ := Kd.at_int HR0.out (ji3) p214 q214
                cases e214
                replace p214 := eq_true p214
                replace q214 := eq_true q214
                have p215 : 0 ≤ (x3_1 : Int) := of_decide_eq_true (by first | (with_reducible assumption) | assumption)
                have q215 : x3_1 < (l0.length : Int) := of_decide_eq_true (by first | (with_reducible assumption) | assumption)
                obtain ⟨ad215, e215, hx215_0⟩ := Kd.at_int HR0.out x3_1 p215 q215
                obtain rfl : ad214 = ad215 := (by injection e215)
                replace p215 := eq_true p215
                replace q215 := eq_true q215
                go_wp2
                repeat (go_quiet (fail); try go_wp2)
                go_roundg k1
                case measure => have := HK1.out; omega
                case rel => exact ⟨(wrap64 (x3_1 + 1)), (by first | rfl | (simp; done) | (simp [*]; done)), H', ⟨by have := HK1.out; omega⟩, by repeat (first | exact Drawn0.refl _ | apply Drawn0.step)⟩
            · rw [if_neg c6] at H
              exact absurd H (by simp)
          · rw [if_neg c5] at H
            exact absurd H (by simp)
        · rw [if_neg c4] at H
          exact absurd H (by simp)
      · rw [if_neg c2] at H
        have c2b0 : decide (x3_1 < (l0.length : Int)) = false := decide_eq_false c2
        clear c2
        obtain rfl := Option.some.inj H
        go_wp2
        repeat (go_quiet (fail); try go_wp2)
        go_ret
        exact ⟨by first | rfl | (simp; done) | (simp [*]; done), by repeat (first | exact Drawn0.refl _ | apply Drawn0.step)⟩

/-! ### impl_TurnRow: function 18 -/
def impl_TurnRow.f (k : Nat) (a0 : ByteArray) (a1 : Int) : Option (ByteArray × Bool) := (impl_IsLitRow.f k a0).bind fun t216 => (if t216 = true then ((impl_within.f a1 0 (wrap64 ((a0.size : Int) - 1))).bind fun t217 => (if t217 = true then (if 0 ≤ a1 then (if a1 ≤ (a0.size : Int) then (if (a0.extract (a1 : Int).toNat a0.size).size + (a0.extract 0 (a1 : Int).toNat).size ≤ 9223372036854775807 then (some ((a0.extract (a1 : Int).toNat a0.size) ++ (a0.extract 0 (a1 : Int).toNat), true)) else (none)) else (none)) else (none)) else (some ((⟨#[]⟩ : ByteArray), false)))) else (some ((⟨#[]⟩ : ByteArray), false)))
theorem impl_TurnRow.mono : ∀ a0 a1 k, LeO (impl_TurnRow.f k a0 a1) (impl_TurnRow.f (k + 1) a0 a1) := by
  intro a0 a1 k
  unfold impl_TurnRow.f
  repeat' first
      | (with_reducible exact impl_IsLitRow.mono _ _)
      | (with_reducible exact LeO.refl _)
      | (with_reducible exact LeO.none _)
      | (with_reducible refine LeO.ite ?_ ?_)
      | (with_reducible refine LeO.bind ?_ (fun _ => ?_))
      | exact impl_IsLitRow.mono _ _
      | exact LeO.none _
      | refine LeO.ite ?_ ?_
      | refine LeO.bind ?_ (fun _ => ?_)
set_option maxHeartbeats 8000000 in
set_option maxRecDepth 100000 in
theorem impl_TurnRow.calls (k : Nat) (a0 : ByteArray) (a1 : Int) (r1 : ByteArray) (r2 : Bool) (w : World) (h : impl_TurnRow.f k a0 a1 = some (r1, r2)) :
    Calls Try.prog 18 #[.string a0, .int .i64 a1] w fun e w' => e = .returned (.tuple #[.string r1, .bool r2]) ∧ Drawn0 w w' := by
  have H : ((impl_IsLitRow.f k a0).bind fun t216 => (if t216 = true then ((impl_within.f a1 0 (wrap64 ((a0.size : Int) - 1))).bind fun t217 => (if t217 = true then (if 0 ≤ a1 then (if a1 ≤ (a0.size : Int) then (if (a0.extract (a1 : Int).toNat a0.size).size + (a0.extract 0 (a1 : Int).toNat).size ≤ 9223372036854775807 then (some ((a0.extract (a1 : Int).toNat a0.size) ++ (a0.extract 0 (a1 : Int).toNat), true)) else (none)) else (none)) else (none)) else (some ((⟨#[]⟩ : ByteArray), false)))) else (some ((⟨#[]⟩ : ByteArray), false)))) = some (r1, r2) := h
  clear h
  replace H := Option.bind_eq_some_iff.mp H
  obtain ⟨t216, A30, H⟩ := H
  replace H : (if t216 = true then ((impl_within.f a1 0 (wrap64 ((a0.size : Int) - 1))).bind fun t217 => (if t217 = true then (if 0 ≤ a1 then (if a1 ≤ (a0.size : Int) then (if (a0.extract (a1 : Int).toNat a0.size).size + (a0.extract 0 (a1 : Int).toNat).size ≤ 9223372036854775807 then (some ((a0.extract (a1 : Int).toNat a0.size) ++ (a0.extract 0 (a1 : Int).toNat), true)) else (none)) else (none)) else (none)) else (some ((⟨#[]⟩ : ByteArray), false)))) else (some ((⟨#[]⟩ : ByteArray), false))) = some (r1, r2) := H
  have A3 := Aside0.mk A30
  clear A30
  by_cases c4 : t216 = true
  · subst c4
    have H1 : ((impl_within.f a1 0 (wrap64 ((a0.size : Int) - 1))).bind fun t217 => (if t217 = true then (if 0 ≤ a1 then (if a1 ≤ (a0.size : Int) then (if (a0.extract (a1 : Int).toNat a0.size).size + (a0.extract 0 (a1 : Int).toNat).size ≤ 9223372036854775807 then (some ((a0.extract (a1 : Int).toNat a0.size) ++ (a0.extract 0 (a1 : Int).toNat), true)) else (none)) else (none)) else (none)) else (some ((⟨#[]⟩ : ByteArray), false)))) = some (r1, r2) := by rw [if_pos rfl] at H; exact H
    clear H
    have H := H1
    clear H1
    replace H := Option.bind_eq_some_iff.mp H
    obtain ⟨t217, A50, H⟩ := H
    replace H : (if t217 = true then (if 0 ≤ a1 then (if a1 ≤ (a0.size : Int) then (if (a0.extract (a1 : Int).toNat a0.size).size + (a0.extract 0 (a1 : Int).toNat).size ≤ 9223372036854775807 then (some ((a0.extract (a1 : Int).toNat a0.size) ++ (a0.extract 0 (a1 : Int).toNat), true)) else (none)) else (none)) else (none)) else (some ((⟨#[]⟩ : ByteArray), false))) = some (r1, r2) := H
    have A5 := Aside0.mk A50
    clear A50
    by_cases c6 : t217 = true
    · subst c6
      have H1 : (if 0 ≤ a1 then (if a1 ≤ (a0.size : Int) then (if (a0.extract (a1 : Int).toNat a0.size).size + (a0.extract 0 (a1 : Int).toNat).size ≤ 9223372036854775807 then (some ((a0.extract (a1 : Int).toNat a0.size) ++ (a0.extract 0 (a1 : Int).toNat), true)) else (none)) else (none)) else (none)) = some (r1, r2) := by rw [if_pos rfl] at H; exact H
      clear H
      have H := H1
      clear H1
      by_cases c7 : 0 ≤ a1
      · rw [if_pos c7] at H
        have c7b0 := eq_true c7
        have c7b1 : decide (0 ≤ a1) = true := decide_eq_true c7
        clear c7
        by_cases c8 : a1 ≤ (a0.size : Int)
        · rw [if_pos c8] at H
          have c8b0 := eq_true c8
          have c8b1 : decide (a1 ≤ (a0.size : Int)) = true := decide_eq_true c8
          clear c8
          have c9b0 := eq_true (of_decide_eq_true (by first | (with_reducible assumption) | assumption) : 0 ≤ a1)
          have c10b0 := eq_true (of_decide_eq_true (by first | (with_reducible assumption) | assumption) : a1 ≤ (a0.size : Int))
          by_cases c11 : (a0.extract (a1 : Int).toNat a0.size).size + (a0.extract 0 (a1 : Int).toNat).size ≤ 9223372036854775807
          · rw [if_pos c11] at H
            have c11b0 := eq_true c11
            have c11b1 : decide ((a0.extract (a1 : Int).toNat a0.size).size + (a0.extract 0 (a1 : Int).toNat).size ≤ 9223372036854775807) = true := decide_eq_true c11
            try have c11b2 : (9223372036854775807 < (a0.extract (a1 : Int).toNat a0.size).size + (a0.extract 0 (a1 : Int).toNat).size) = False := eq_false (Nat.not_lt.2 c11)
            simp only [Option.some.injEq, Prod.mk.injEq] at H
            obtain ⟨rfl, rfl⟩ := H
            go_enter Try.func18, Try.ntmps18
            go_wp2_with (first | (go_at_call 13; (with_reducible refine (impl_IsLitRow.calls k a0 true _ A3.out).mono ?_); rintro e w' ⟨rfl, ⟨nd, rfl⟩⟩; (try first | exact ⟨rfl, _, World.drewN_drewN _ _ _⟩ | exact ⟨rfl, _, Eq.trans (World.drewN_drewN _ _ _) (congrArg (World.drewN _) (Nat.add_assoc _ _ _))⟩)) | (go_at_call 35; (with_reducible refine (impl_within.calls a1 0 (wrap64 ((a0.size : Int) - 1)) true _ A5.out).mono ?_); rintro e w' ⟨rfl, ⟨nd, rfl⟩⟩; (try first | exact ⟨rfl, _, World.drewN_drewN _ _ _⟩ | exact ⟨rfl, _, Eq.trans (World.drewN_drewN _ _ _) (congrArg (World.drewN _) (Nat.add_assoc _ _ _))⟩)))
            repeat (go_quiet (first | (go_at_call 13; (with_reducible refine (impl_IsLitRow.calls k a0 true _ A3.out).mono ?_); rintro e w' ⟨rfl, ⟨nd, rfl⟩⟩; (try first | exact ⟨rfl, _, World.drewN_drewN _ _ _⟩ | exact ⟨rfl, _, Eq.trans (World.drewN_drewN _ _ _) (congrArg (World.drewN _) (Nat.add_assoc _ _ _))⟩)) | (go_at_call 35; (with_reducible refine (impl_within.calls a1 0 (wrap64 ((a0.size : Int) - 1)) true _ A5.out).mono ?_); rintro e w' ⟨rfl, ⟨nd, rfl⟩⟩; (try first | exact ⟨rfl, _, World.drewN_drewN _ _ _⟩ | exact ⟨rfl, _, Eq.trans (World.drewN_drewN _ _ _) (congrArg (World.drewN _) (Nat.add_assoc _ _ _))⟩))); try go_wp2_with (first | (go_at_call 13; (with_reducible refine (impl_IsLitRow.calls k a0 true _ A3.out).mono ?_); rintro e w' ⟨rfl, ⟨nd, rfl⟩⟩; (try first | exact ⟨rfl, _, World.drewN_drewN _ _ _⟩ | exact ⟨rfl, _, Eq.trans (World.drewN_drewN _ _ _) (congrArg (World.drewN _) (Nat.add_assoc _ _ _))⟩)) | (go_at_call 35; (with_reducible refine (impl_within.calls a1 0 (wrap64 ((a0.size : Int) - 1)) true _ A5.out).mono ?_); rintro e w' ⟨rfl, ⟨nd, rfl⟩⟩; (try first | exact ⟨rfl, _, World.drewN_drewN _ _ _⟩ | exact ⟨rfl, _, Eq.trans (World.drewN_drewN _ _ _) (congrArg (World.drewN _) (Nat.add_assoc _ _ _))⟩))))
            go_ret2
            exact ⟨by first | rfl | (simp; done) | (simp [*]; done), by repeat (first | exact Drawn0.refl _ | apply Drawn0.step)⟩
          · rw [if_neg c11] at H
            exact absurd H (by simp)
        · rw [if_neg c8] at H
          exact absurd H (by simp)
      · rw [if_neg c7] at H
        exact absurd H (by simp)
    · replace c6 := Bool.eq_false_iff.mpr c6
      subst c6
      have H1 : (some ((⟨#[]⟩ : ByteArray), false)) = some (r1, r2) := by rw [if_neg (show ¬ (false = true) by decide)] at H; exact H
      clear H
      have H := H1
      clear H1
      simp only [Option.some.injEq, Prod.mk.injEq] at H
      obtain ⟨rfl, rfl⟩ := H
      go_enter Try.func18, Try.ntmps18
      go_wp2_with (first | (go_at_call 13; (with_reducible refine (impl_IsLitRow.calls k a0 true _ A3.out).mono ?_); rintro e w' ⟨rfl, ⟨nd, rfl⟩⟩; (try first | exact ⟨rfl, _, World.drewN_drewN _ _ _⟩ | exact ⟨rfl, _, Eq.trans (World.drewN_drewN _ _ _) (congrArg (World.drewN _) (Nat.add_assoc _ _ _))⟩)) | (go_at_call 35; (with_reducible refine (impl_within.calls a1 0 (wrap64 ((a0.size : Int) - 1)) false _ A5.out).mono ?_); rintro e w' ⟨rfl, ⟨nd, rfl⟩⟩; (try first | exact ⟨rfl, _, World.drewN_drewN _ _ _⟩ | exact ⟨rfl, _, Eq.trans (World.drewN_drewN _ _ _) (congrArg (World.drewN _) (Nat.add_assoc _ _ _))⟩)))
      repeat (go_quiet (first | (go_at_call 13; (with_reducible refine (impl_IsLitRow.calls k a0 true _ A3.out).mono ?_); rintro e w' ⟨rfl, ⟨nd, rfl⟩⟩; (try first | exact ⟨rfl, _, World.drewN_drewN _ _ _⟩ | exact ⟨rfl, _, Eq.trans (World.drewN_drewN _ _ _) (congrArg (World.drewN _) (Nat.add_assoc _ _ _))⟩)) | (go_at_call 35; (with_reducible refine (impl_within.calls a1 0 (wrap64 ((a0.size : Int) - 1)) false _ A5.out).mono ?_); rintro e w' ⟨rfl, ⟨nd, rfl⟩⟩; (try first | exact ⟨rfl, _, World.drewN_drewN _ _ _⟩ | exact ⟨rfl, _, Eq.trans (World.drewN_drewN _ _ _) (congrArg (World.drewN _) (Nat.add_assoc _ _ _))⟩))); try go_wp2_with (first | (go_at_call 13; (with_reducible refine (impl_IsLitRow.calls k a0 true _ A3.out).mono ?_); rintro e w' ⟨rfl, ⟨nd, rfl⟩⟩; (try first | exact ⟨rfl, _, World.drewN_drewN _ _ _⟩ | exact ⟨rfl, _, Eq.trans (World.drewN_drewN _ _ _) (congrArg (World.drewN _) (Nat.add_assoc _ _ _))⟩)) | (go_at_call 35; (with_reducible refine (impl_within.calls a1 0 (wrap64 ((a0.size : Int) - 1)) false _ A5.out).mono ?_); rintro e w' ⟨rfl, ⟨nd, rfl⟩⟩; (try first | exact ⟨rfl, _, World.drewN_drewN _ _ _⟩ | exact ⟨rfl, _, Eq.trans (World.drewN_drewN _ _ _) (congrArg (World.drewN _) (Nat.add_assoc _ _ _))⟩))))
      go_ret2
      exact ⟨by first | rfl | (simp; done) | (simp [*]; done), by repeat (first | exact Drawn0.refl _ | apply Drawn0.step)⟩
  · replace c4 := Bool.eq_false_iff.mpr c4
    subst c4
    have H1 : (some ((⟨#[]⟩ : ByteArray), false)) = some (r1, r2) := by rw [if_neg (show ¬ (false = true) by decide)] at H; exact H
    clear H
    have H := H1
    clear H1
    simp only [Option.some.injEq, Prod.mk.injEq] at H
    obtain ⟨rfl, rfl⟩ := H
    go_enter Try.func18, Try.ntmps18
    go_wp2_with (first | (go_at_call 13; (with_reducible refine (impl_IsLitRow.calls k a0 false _ A3.out).mono ?_); rintro e w' ⟨rfl, ⟨nd, rfl⟩⟩; (try first | exact ⟨rfl, _, World.drewN_drewN _ _ _⟩ | exact ⟨rfl, _, Eq.trans (World.drewN_drewN _ _ _) (congrArg (World.drewN _) (Nat.add_assoc _ _ _))⟩)))
    repeat (go_quiet (first | (go_at_call 13; (with_reducible refine (impl_IsLitRow.calls k a0 false _ A3.out).mono ?_); rintro e w' ⟨rfl, ⟨nd, rfl⟩⟩; (try first | exact ⟨rfl, _, World.drewN_drewN _ _ _⟩ | exact ⟨rfl, _, Eq.trans (World.drewN_drewN _ _ _) (congrArg (World.drewN _) (Nat.add_assoc _ _ _))⟩))); try go_wp2_with (first | (go_at_call 13; (with_reducible refine (impl_IsLitRow.calls k a0 false _ A3.out).mono ?_); rintro e w' ⟨rfl, ⟨nd, rfl⟩⟩; (try first | exact ⟨rfl, _, World.drewN_drewN _ _ _⟩ | exact ⟨rfl, _, Eq.trans (World.drewN_drewN _ _ _) (congrArg (World.drewN _) (Nat.add_assoc _ _ _))⟩))))
    go_ret2
    exact ⟨by first | rfl | (simp; done) | (simp [*]; done), by repeat (first | exact Drawn0.refl _ | apply Drawn0.step)⟩

/-! ### spec_l1Cur_among: function 41 (a contract of this repo) -/
def spec_l1Cur_among.f (l : List Int) (n : Nat) (s : Int) (xs : List Int) : Option (Int × Nat × Int) := (spec_l1Cur_pick.f l n s xs.length).bind fun r => if 0 ≤ r.1 ∧ r.1 < (xs.length : Int) then some (rd xs r.1, r.2) else none
/-- The cells of a list that is told in a call. -/
def spec_l1Cur_among.Lst (w : World) (b g : Nat) (xs : List Int) : Prop := g ≠ b ∧ ∀ j : Nat, j < xs.length → w.cell? ⟨g, j, none⟩ = some (.int .i64 (rd xs j))
theorem spec_l1Cur_among.lst_new {w : World} {b : Nat} {xs : List Int} {X : Array Value} {T : TypeId} {N : Nat × Nat} (hb : b < w.heap.size) (hX : X = (xs.map fun x => Value.int .i64 x).toArray) : spec_l1Cur_among.Lst (w.alloc (.cells X T N)) b w.heap.size xs := by
  refine ⟨by omega, fun j hj => ?_⟩
  have h : (w.alloc (.cells X T N)).heap[w.heap.size]? = some (.cells X T N) := by
    show (w.heap.push _)[_]? = _
    rw [Array.getElem?_push, if_pos rfl]
  rw [show (w.alloc (.cells X T N)).cell? ⟨w.heap.size, j, none⟩ = X[j]? by simp only [World.cell?, h]; rfl, hX]
  simp [rd, hj]
set_option maxHeartbeats 4000000 in
set_option maxRecDepth 100000 in
theorem spec_l1Cur_among.calls (b : Nat) (A : Option Addr) (c : Nat) (l : List Int) (n : Nat) (s : Int) (g d : Nat) (xs : List Int) (r1 : Int) (n' : Nat) (s' : Int) (w : World) (hC : spec_l1Cur_next.Cur w b A c l n s) (hX : spec_l1Cur_among.Lst w b g xs) (h : spec_l1Cur_among.f l n s xs = some (r1, n', s')) :
    Calls Try.prog 41 #[.pointer (some ⟨b, 0, none⟩), .slice (some ⟨g, 0, none⟩) xs.length d] w fun e w' => e = .returned (.int .i64 r1) ∧ spec_l1Cur_next.Cur w' b A c l n' s' ∧ spec_l1Cur_next.Mv b w w' := by
  have HC := Aside0.mk hC
  have HX := Aside0.mk hX
  clear hC hX
  unfold spec_l1Cur_among.f at h
  obtain ⟨⟨v, q⟩, h1, e⟩ := Option.bind_eq_some_iff.1 h
  obtain ⟨⟨h2, h3⟩, e⟩ := Option.ite_none_right_eq_some.1 e
  obtain ⟨rfl, rfl⟩ : rd xs v = r1 ∧ q = (n', s') := by simpa using e
  have H1 := Aside0.mk h1
  obtain ⟨j, rfl⟩ : ∃ j : Nat, v = (j : Int) := ⟨v.toNat, by omega⟩
  have hj : j < xs.length := by omega
  clear h h1 e h2 h3
  go_enter Try.func41, Try.ntmps41
  go_wp2_with (go_at_call 43; refine (spec_l1Cur_pick.calls _ _ _ _ _ _ _ _ _ _ _ HC.out H1.out).mono ?_; rintro e w1 ⟨rfl, hC1, hM1⟩; have HC1 := Aside0.mk hC1; have hx : w1.cell? ⟨g, j, none⟩ = some (.int .i64 (rd xs j)) := (spec_l1Cur_next.cell_of (hM1.rest _ (spec_l1Cur_next.cell_lt (HX.out.2 j hj)) HX.out.1)).trans (HX.out.2 j hj); have HM1 := Aside0.mk hM1; clear hC1 hM1)
  go_ret
  exact ⟨rfl, HC1.out, HM1.out⟩

/-! ### spec_l1Cur_some: function 37 (a contract of this repo) -/
def spec_l1Cur_some.go (l : List Int) : Nat → Nat → List Int → Nat → Int → Option (List Int × Nat × Int)
  | 0, _, out, n, s => some (out, n, s)
  | d + 1, i, out, n, s => (spec_l1Cur_one.f l n s 3).bind fun r => spec_l1Cur_some.go l d (i + 1) (if r.1 = true then out ++ [(i : Int)] else out) r.2.1 r.2.2
def spec_l1Cur_some.f (l : List Int) (n : Nat) (s : Int) (m : Nat) : Option (List Int × Nat × Int) := if m ≤ 1000 then (spec_l1Cur_some.go l m 0 [] n s).bind fun r => (spec_l1Cur_one.f l r.2.1 r.2.2 12).bind fun q => if q.1 = true then (spec_l1Cur_among.f l q.2.1 q.2.2 [-1, 0, (m : Int)]).map fun v => (r.1 ++ [v.1], v.2) else some (r.1, q.2) else none
theorem spec_l1Cur_some.go_len (l : List Int) : ∀ d i out n s r, spec_l1Cur_some.go l d i out n s = some r → r.1.length ≤ out.length + d := by
  intro d
  induction d with
  | zero => intro i out n s r h; obtain rfl := Option.some.inj h; simp
  | succ d ih =>
    intro i out n s r h
    obtain ⟨q, -, h⟩ := Option.bind_eq_some_iff.1 (show (spec_l1Cur_one.f l n s 3).bind _ = _ from h)
    have := ih _ _ _ _ _ h
    have z : (if q.1 = true then out ++ [(i : Int)] else out).length ≤ out.length + 1 := by split <;> simp
    omega
set_option maxHeartbeats 4000000 in
set_option maxRecDepth 100000 in
theorem spec_l1Cur_some.calls (b : Nat) (A : Option Addr) (c : Nat) (l : List Int) (n : Nat) (s : Int) (m : Nat) (r1 : List Int) (n' : Nat) (s' : Int) (w : World) (hC : spec_l1Cur_next.Cur w b A c l n s) (h : spec_l1Cur_some.f l n s m = some (r1, n', s')) :
    Calls Try.prog 37 #[.pointer (some ⟨b, 0, none⟩), .int .i64 (m : Int)] w fun e w' => ∃ v1 : Value, e = .returned v1 ∧ Kd.R (Kd.int .i64) 3 w' w.heap.size (fun _ => True) v1 r1 ∧ spec_l1Cur_next.Cur w' b A c l n' s' ∧ spec_l1Cur_next.Mv b w w' := by
  have HC := Aside0.mk hC
  clear hC
  unfold spec_l1Cur_some.f at h
  obtain ⟨hm, h⟩ := Option.ite_none_right_eq_some.1 h
  obtain ⟨⟨o1, n1, s1⟩, h1, h⟩ := Option.bind_eq_some_iff.1 h
  obtain ⟨⟨v, n2, s2⟩, h2, h⟩ := Option.bind_eq_some_iff.1 h
  have H1 := Aside0.mk h1
  have H2 := Aside0.mk h2
  have H := Aside0.mk h
  have hlo := spec_l1Cur_some.go_len _ _ _ _ _ _ _ h1
  have HLO := Aside0.mk (show o1.length ≤ 1000 by have z : o1.length ≤ ([] : List Int).length + m := hlo; simp at z; omega)
  clear h h1 h2 hlo
  go_enter Try.func37, Try.ntmps37
  go_wp2
  go_loopw [5, 6] (fun ov iv wr => ∃ (i : Nat) (out : List Int) (n3 : Nat) (s3 : Int), iv = .int .i64 i ∧ i ≤ m ∧ Aside0 (out.length ≤ i) ∧ Aside0 (spec_l1Cur_some.go l (m - i) i out n3 s3 = some (o1, n1, s1)) ∧ Aside0 (Kd.R (Kd.int .i64) 3 wr w.heap.size (fun k => k ≠ b) ov out) ∧ Aside0 (spec_l1Cur_next.Cur wr b A c l n3 s3) ∧ Aside0 (spec_l1Cur_next.Mv b w wr)) (fun _ iv _ => m - (intOf iv).toNat)
  case atStart => exact ⟨0, [], n, s, by go_num, by omega, ⟨Nat.le_refl _⟩, H1, ⟨Kd.R_nil _ _ _ _ _⟩, HC, ⟨spec_l1Cur_next.Mv.refl _ _⟩⟩
  case round =>
    clear H1
    obtain ⟨i, out, n3, s3, rfl, hi, HLn, HG, HR, HC3, HM3⟩ := hrel
    obtain ⟨Ao, co, eo⟩ := Kd.R_slice HR.out
    subst eo
    by_cases hlt : i < m
    · have hG := HG.out
      rw [show m - i = (m - (i + 1)) + 1 by omega] at hG
      obtain ⟨⟨v3, n4, s4⟩, h3, h4⟩ := Option.bind_eq_some_iff.1 (show (spec_l1Cur_one.f l n3 s3 3).bind _ = _ from hG)
      have hd : decide ((i : Int) < (m : Int)) = true := decide_eq_true (by omega)
      have HLEN := Aside0.mk (show out.length ≤ 1000 by have := HLn.out; omega)
      have H3 := Aside0.mk h3
      clear hG HG h3
      cases v3 with
      | true =>
        have H4 := Aside0.mk (show spec_l1Cur_some.go l (m - (i + 1)) (i + 1) (out ++ [(i : Int)]) n4 s4 = some (o1, n1, s1) from h4)
        clear h4
        go_wp2_with (first | (go_at_call 38; refine (spec_l1Cur_one.calls _ _ _ _ _ _ _ _ _ _ _ HC3.out H3.out).mono ?_; rintro e w4 ⟨rfl, hC4, hM4⟩; have HC4 := Aside0.mk hC4; have HR4 := Aside0.mk (Kd.R_step HR.out (fun k hk hlt => hM4.rest k hlt hk)); have HM4 := Aside0.mk (HM3.out.trans hM4); clear hC4 hM4) | ((with_reducible refine gate_builtin (b := .append) (xs := #[.tmp 14, .tmp 16]) rfl ?_); at_builtin; refine Kd.R_append (Kd.int .i64) (w0 := w4) w.heap.size rfl (.tmp 14) (.tmp 16) 26 3 (.int .i64 0) 8 rfl Try.underlying26 info3 rfl (by decide) (by omega) (.slice Ao out.length co) out (i : Int) [.int .i64 (i : Int)] (fun k => k ≠ b) (fun _ => False) rfl rfl ?aP (fun _ hk => hk.elim) ?aF ?aO ?aB ?aS ?aL ?_; (case aP => exact rfl); (case aB => exact (by repeat (first | (with_reducible first | exact Below.refl _ _ | apply below_alloc | apply pw_below_drewN | apply below_drew1)))); (case aF => exact (fun k hk => by have := HC4.out.lt; have := HM4.out.low.size; (try simp at hk); omega)); (case aO => exact (by (with_reducible repeat (first | apply Kd.R_alloc | apply Kd.R_drewN | apply Kd.R_drew)); exact HR4.out)); (case aS => exact (by have := HM4.out.low.size; (try simp); omega)); (case aL => have := HLEN.out; omega); intro v9 w9 ho hb hg hat; have HC9 := Aside0.mk (HC.out.keep HC4.out hb); have HM9 := Aside0.mk (HM4.out.keep hb (Nat.le_of_lt HC.out.lt)); have HR9 := Aside0.mk ho; clear ho hb hg hat))
        go_roundw
        case rel => exact ⟨i + 1, out ++ [(i : Int)], n4, s4, by go_num, by omega, ⟨by have := HLn.out; simp; omega⟩, H4, HR9, HC9, HM9⟩
        case measure => first | (simp [intOf]; done) | (simp [intOf]; omega)
      | false =>
        have H4 := Aside0.mk (show spec_l1Cur_some.go l (m - (i + 1)) (i + 1) out n4 s4 = some (o1, n1, s1) from h4)
        clear h4
        go_wp2_with (go_at_call 38; refine (spec_l1Cur_one.calls _ _ _ _ _ _ _ _ _ _ _ HC3.out H3.out).mono ?_; rintro e w4 ⟨rfl, hC4, hM4⟩; have HC4 := Aside0.mk hC4; have HR4 := Aside0.mk (Kd.R_step HR.out (fun k hk hlt => hM4.rest k hlt hk)); have HM4 := Aside0.mk (HM3.out.trans hM4); clear hC4 hM4)
        go_roundw
        case rel => exact ⟨i + 1, out, n4, s4, by go_num, by omega, ⟨by have := HLn.out; omega⟩, H4, HR4, HC4, HM4⟩
        case measure => first | (simp [intOf]; done) | (simp [intOf]; omega)
    · obtain rfl : i = m := by omega
      have hd : decide ((i : Int) < (i : Int)) = false := decide_eq_false (by omega)
      obtain ⟨rfl, rfl, rfl⟩ : out = o1 ∧ n3 = n1 ∧ s3 = s1 := by
        have z := HG.out
        rw [Nat.sub_self] at z
        simpa [spec_l1Cur_some.go] using z
      clear HG hlt hi
      cases v with
      | false =>
        obtain ⟨rfl, rfl, rfl⟩ : out = r1 ∧ n2 = n' ∧ s2 = s' := by simpa using H.out
        clear H
        go_wp2_with (go_at_call 38; refine (spec_l1Cur_one.calls _ _ _ _ _ _ _ _ _ _ _ HC3.out H2.out).mono ?_; rintro e w4 ⟨rfl, hC4, hM4⟩; have HC4 := Aside0.mk hC4; have HR4 := Aside0.mk (Kd.R_step HR.out (fun k hk hlt => hM4.rest k hlt hk)); have HM4 := Aside0.mk (HM3.out.trans hM4); clear hC4 hM4)
        go_ret
        exact ⟨_, rfl, Kd.R_mono HR4.out (fun _ _ => trivial), HC4.out, HM4.out⟩
      | true =>
        obtain ⟨⟨y, q⟩, h5, e⟩ := Option.map_eq_some_iff.1 (show (spec_l1Cur_among.f l n2 s2 [-1, 0, (i : Int)]).map _ = _ from H.out)
        obtain ⟨rfl, rfl⟩ : out ++ [y] = r1 ∧ q = (n', s') := by simpa using e
        have H5 := Aside0.mk h5
        have HLEN := HLO
        clear H h5 e
        go_wp2_with (first | (go_at_call 38; refine (spec_l1Cur_one.calls _ _ _ _ _ _ _ _ _ _ _ HC3.out H2.out).mono ?_; rintro e w4 ⟨rfl, hC4, hM4⟩; have HC4 := Aside0.mk hC4; have HR4 := Aside0.mk (Kd.R_step HR.out (fun k hk hlt => hM4.rest k hlt hk)); have HM4 := Aside0.mk (HM3.out.trans hM4); clear hC4 hM4) | (go_at_call 41; refine (spec_l1Cur_among.calls _ _ _ _ _ _ _ _ [-1, 0, (i : Int)] _ _ _ _ (HC4.out.move (below_alloc (Below.refl _ _) _)) (spec_l1Cur_among.lst_new HC4.out.lt rfl) H5.out).mono ?_; rintro e w5 ⟨rfl, hC5, hM5⟩; have HC5 := Aside0.mk hC5; have HR5 := Aside0.mk (Kd.R_step (Kd.R_below HR4.out (below_alloc (Below.refl _ _) _)) (fun k hk hlt => hM5.rest k hlt hk)); have HM5 := Aside0.mk (HM4.out.trans ((spec_l1Cur_next.Mv.of (below_alloc (Below.refl _ _) _) (Nat.le_of_lt HC4.out.lt)).trans hM5)); clear hC5 hM5) | ((with_reducible refine gate_builtin (b := .append) (xs := #[.tmp 20, .tmp 25]) rfl ?_); at_builtin; refine Kd.R_append (Kd.int .i64) (w0 := w5) w.heap.size rfl (.tmp 20) (.tmp 25) 26 3 (.int .i64 0) 8 rfl Try.underlying26 info3 rfl (by decide) (by omega) (.slice Ao out.length co) out y [.int .i64 y] (fun k => k ≠ b) (fun _ => False) rfl rfl ?aP (fun _ hk => hk.elim) ?aF ?aO ?aB ?aS ?aL ?_; (case aP => exact rfl); (case aB => exact (by repeat (first | (with_reducible first | exact Below.refl _ _ | apply below_alloc | apply pw_below_drewN | apply below_drew1)))); (case aF => exact (fun k hk => by have := HC5.out.lt; have := HM5.out.low.size; (try simp at hk); omega)); (case aO => exact (by (with_reducible repeat (first | apply Kd.R_alloc | apply Kd.R_drewN | apply Kd.R_drew)); exact HR5.out)); (case aS => exact (by have := HM5.out.low.size; (try simp); omega)); (case aL => have := HLEN.out; omega); intro v9 w9 ho hb hg hat; have HC9 := Aside0.mk (HC.out.keep HC5.out hb); have HM9 := Aside0.mk (HM5.out.keep hb (Nat.le_of_lt HC.out.lt)); have HR9 := Aside0.mk ho; clear ho hb hg hat))
        go_ret
        exact ⟨_, rfl, Kd.R_mono HR9.out (fun _ _ => trivial), HC9.out, HM9.out⟩

/-! ### spec_DrawLitBy: function 19 (a contract of this repo) -/
def spec_DrawLitBy.f (l0 : List Int) : Option (ByteArray × List Int × Bool) := if l0.length ≤ 1048576 ∧ (∀ x ∈ l0, 0 ≤ x ∧ x ≤ 255) then (spec_l1Cur_lamps.f l0 0 0).bind fun r => (spec_l1Cur_some.f l0 r.2.1 r.2.2 r.1.size).bind fun p => (spec_l1Cur_one.f l0 p.2.1 p.2.2 2).map fun q => (r.1, p.1, q.1) else none
set_option maxHeartbeats 4000000 in
set_option maxRecDepth 100000 in
theorem spec_DrawLitBy.calls (A0 : Option Addr) (c0 : Nat) (l0 : List Int) (r1 : ByteArray) (r2 : List Int) (r3 : Bool) (w : World) (hr0 : Kd.C (Kd.int .u8) w A0 l0.length l0) (hc0 : l0.length ≤ c0) (h : spec_DrawLitBy.f l0 = some (r1, r2, r3)) :
    Calls Try.prog 19 #[.slice A0 l0.length c0] w fun e w' => ∃ v2_ : Value, e = .returned (.tuple #[.string r1, v2_, .bool r3]) ∧ Kd.R (Kd.int .i64) 3 w' w.heap.size (fun _ => True) v2_ r2 ∧ Below w.heap.size w w' := by
  have HC0 := Aside0.mk hc0
  unfold spec_DrawLitBy.f at h
  obtain ⟨⟨hl, hb⟩, h⟩ := Option.ite_none_right_eq_some.1 h
  have HC := Aside0.mk (fun T => spec_l1Cur_next.Cur.new (c := c0) (T := T) hr0 hl hb)
  have HA := Aside0.mk (fun T => below_alloc (Below.refl w.heap.size w) (.cells #[.slice A0 l0.length c0, .int .i64 0, .int .u64 0] T))
  clear hr0 hc0 hl hb
  obtain ⟨⟨x, n1, s1⟩, h1, h⟩ := Option.bind_eq_some_iff.1 h
  obtain ⟨⟨z, n3, s3⟩, h3, h⟩ := Option.bind_eq_some_iff.1 h
  obtain ⟨⟨y, n2, s2⟩, h2, e⟩ := Option.map_eq_some_iff.1 h
  obtain ⟨rfl, rfl, rfl⟩ : x = r1 ∧ z = r2 ∧ y = r3 := by simpa using e
  have H1 := Aside0.mk h1
  have H2 := Aside0.mk h2
  have H3 := Aside0.mk h3
  clear h h1 h2 h3 e
  go_enter Try.func19, Try.ntmps19
  go_wp2_with (first | (go_at_call 36; refine (spec_l1Cur_lamps.calls _ _ _ _ _ _ _ _ _ _ (HC.out _) H1.out).mono ?_; rintro e w1 ⟨rfl, hC1, hM1⟩; have HC1 := Aside0.mk hC1; have HM1 := Aside0.mk (hM1); clear hC1 hM1) | (go_at_call 37; refine (spec_l1Cur_some.calls _ _ _ _ _ _ _ _ _ _ _ HC1.out H3.out).mono ?_; rintro e w3 ⟨v3, rfl, hR3, hC3, hM3⟩; have HC3 := Aside0.mk hC3; have HM3 := Aside0.mk (HM1.out.trans hM3); have HLT := Aside0.mk (HM1.out.low.size); have HR3 := Aside0.mk (Kd.R_mono (Kd.R_lower (Kd.R_bound hR3) (show w.heap.size ≤ w1.heap.size from Nat.le_trans (Nat.le_of_lt (HC.out 56).lt) HM1.out.low.size)) (fun k hk => (show k ≠ w.heap.size from by have z1 := hk.2.1; have z2 := (HC.out 56).lt; have z3 := HM1.out.low.size; omega))); clear hR3; clear hC3 hM3) | (go_at_call 38; refine (spec_l1Cur_one.calls _ _ _ _ _ _ _ _ _ _ _ HC3.out H2.out).mono ?_; rintro e w2 ⟨rfl, hC2, hM2⟩; have HC2 := Aside0.mk hC2; have HM2 := Aside0.mk (HM3.out.trans hM2); have HR2 := Aside0.mk (Kd.R_step HR3.out (fun k hk hlt => hM2.rest k hlt hk)); clear hC2 hM2))
  refine bodyPost_ret (results_list (rs := [.tmp 2, .tmp 3, .tmp 4]) rfl (by simp) (.tmp (.tmp (.tmp .nil)))) rfl ?_
  exact ⟨_, rfl, Kd.R_mono HR2.out (fun _ _ => trivial), (HA.out _).trans HM2.out.low⟩

end Go.Proofs.Ytlmenkhklpfefaa.MR
