-- The machine side, written by this repo's program mp.py; contracts marked as of this repo are this session's own.
import Derived.Test.YtdhdkkhbgfcoiaaMXx0
import Derived.Test.YtdhdkkhbgfcoiaaMXx3
import Derived.Test.YtdhdkkhbgfcoiaaMXx4
import Derived.Test.YtdhdkkhbgfcoiaaMXx5
namespace Go.Proofs.Ytdhdkkhbgfcoiaa.MX
open Go.RowKit Go.Proofs.YtdhdkkhbgfcoiaaW.PrintWords Go.Proofs.YtdhdkkhbgfcoiaaW.PrintLast Go.Proofs.YtdhdkkhbgfcoiaaW.PrintMore
attribute [local go_sem] max2_int min2_int max_two min_two max_three min_three max_four min_four   -- for this text's walks alone
set_option maxHeartbeats 8000000
set_option maxRecDepth 100000
set_option linter.unusedVariables false
set_option linter.unusedSimpArgs false
def impl_turnedSigns.nums (s : ByteArray) : List Int := s.data.toList.map fun b => (b.toNat : Int)
def impl_turnedSigns.sign (x : Int) : Bool := x == 101 || x == 110 || x == 115 || x == 119
def impl_turnedSigns.turn (x : Int) : Int := if x = 101 then 119 else if x = 110 then 115 else if x = 115 then 110 else 101
def impl_turnedSigns.f (a0 : ByteArray) : Option (ByteArray) := if (impl_turnedSigns.nums a0).all impl_turnedSigns.sign = true ∧ a0.size ≤ 1048576 then some (strOfNums ((impl_turnedSigns.nums a0).map impl_turnedSigns.turn)) else none
def impl_turnedSigns.Blk (w : World) (g : Nat) (xs : List Int) : Prop := ∃ (cur : Array Value) (N : Nat), w.heap[g]? = some (.cells cur 5 (N, N + 1)) ∧ xs.length ≤ N ∧ cur.size = N ∧ ∀ j, j < xs.length → cur[j]? = some (.int .u8 (xs.getD j 0))
theorem impl_turnedSigns.Blk.cell {w : World} {g : Nat} {xs : List Int} (h : impl_turnedSigns.Blk w g xs) (j : Nat) (hj : j < xs.length) : w.cell? ⟨g, j, none⟩ = some (.int .u8 (xs.getD j 0)) := by
 obtain ⟨cur, N, hh, h1, h2, h3⟩ := h
 simp only [World.cell?, hh]
 exact h3 j hj
theorem impl_turnedSigns.Blk.free {w : World} {g : Nat} {xs : List Int} (h : impl_turnedSigns.Blk w g xs) (j : Nat) (hj : j < xs.length) : w.frozen? ⟨g, j, none⟩ = false := by
 obtain ⟨cur, N, hh, h1, h2, h3⟩ := h
 simp [World.frozen?, hh]
 omega
theorem impl_turnedSigns.Blk.set {w : World} {g : Nat} {xs : List Int} (h : impl_turnedSigns.Blk w g xs) (i : Nat) (hi : i < xs.length) (v : Int) : impl_turnedSigns.Blk (w.setCell ⟨g, i, none⟩ (.int .u8 v)) g (xs.set i v) := by
 obtain ⟨cur, N, hh, h1, h2, h3⟩ := h
 refine ⟨cur.setIfInBounds i (.int .u8 v), N, ?_, by simpa using h1, by simpa using h2, fun j hj => ?_⟩
 ·simp [World.setCell, Array.getElem?_modify, hh]
 ·rw [List.length_set] at hj
  rw [Array.getElem?_setIfInBounds]
  by_cases e : i = j
  ·subst e
   simp [h2, hj]
   omega
  ·rw [if_neg e, h3 j hj]
   simp [List.getD_eq_getElem?_getD, List.getElem?_set_ne e]
theorem impl_turnedSigns.Blk.size {w : World} {g : Nat} {xs : List Int} (h : impl_turnedSigns.Blk w g xs) : g < w.heap.size := by
 obtain ⟨cur, N, hh, _⟩ := h
 exact (Array.getElem?_eq_some_iff.1 hh).1
theorem impl_turnedSigns.nums_length (s : ByteArray) : (impl_turnedSigns.nums s).length = s.size := by
 unfold impl_turnedSigns.nums
 rw [List.length_map]
 exact Array.length_toList
theorem impl_turnedSigns.Blk.made (w : World) (s : ByteArray) : impl_turnedSigns.Blk (Go.Lib.bytesWorld w 5 s) w.heap.size (impl_turnedSigns.nums s) := by
 refine ⟨Go.Lib.bytesCells w 5 s, (Go.Lib.bytesCells w 5 s).size, Go.Lib.bytesWorld_at_new w 5 s, ?_, rfl, fun j hj => ?_⟩
 ·rw [impl_turnedSigns.nums_length]
  unfold Go.Lib.bytesCells
  rw [Array.size_append, Array.size_map]
  exact Nat.le_add_right _ _
 ·have h := Go.Lib.bytesWorld_cell w 5 s j (by rw [impl_turnedSigns.nums_length] at hj; exact hj)
  have hn := Go.Lib.bytesWorld_at_new w 5 s
  simp only [World.cell?, hn] at h
  refine Eq.trans (b := some (Value.int IntKind.u8 ↑(s.data.toList.getD j 0).toNat)) h ?_
  rw [impl_turnedSigns.nums_length] at hj
  have hj' : j < s.data.toList.length := by rw [Array.length_toList]; exact hj
  unfold impl_turnedSigns.nums
  rw [List.getD_eq_getElem?_getD, List.getElem?_eq_getElem hj', List.getD_eq_getElem?_getD, List.getElem?_map, List.getElem?_eq_getElem hj']
  rfl
theorem impl_turnedSigns.made_below (w : World) (s : ByteArray) : Below w.heap.size w (Go.Lib.bytesWorld w 5 s) :=
 ⟨rfl, rfl, rfl, by rw [Go.Lib.bytesWorld_size]; omega, fun j hj => Go.Lib.bytesWorld_at_old w 5 s j hj⟩
def impl_turnedSigns.upto (xs : List Int) (k : Nat) : List Int := (xs.take k).map impl_turnedSigns.turn ++ xs.drop k
theorem impl_turnedSigns.upto_length (xs : List Int) (k : Nat) : (impl_turnedSigns.upto xs k).length = xs.length := by simp [impl_turnedSigns.upto]; omega
theorem impl_turnedSigns.upto_at (xs : List Int) (k : Nat) (hk : k < xs.length) : (impl_turnedSigns.upto xs k).getD k 0 = xs.getD k 0 := by
 unfold impl_turnedSigns.upto
 rw [List.getD_eq_getElem?_getD, List.getElem?_append_right (by simp; omega)]
 have e : k - (List.map turn (List.take k xs)).length = 0 := by simp; omega
 rw [e]
 simp [List.getElem?_drop, List.getD_eq_getElem?_getD]
theorem impl_turnedSigns.upto_step (xs : List Int) (k : Nat) (hk : k < xs.length) : (impl_turnedSigns.upto xs k).set k (impl_turnedSigns.turn (xs.getD k 0)) = impl_turnedSigns.upto xs (k + 1) := by
 have e : xs.getD k 0 = xs[k] := by simp [hk]
 have l : (List.map turn (List.take k xs)).length = k := by simp; omega
 unfold impl_turnedSigns.upto
 rw [List.set_append_right _ _ (by omega), l, Nat.sub_self, List.drop_eq_getElem_cons hk, List.set_cons_zero, List.take_succ_eq_append_getElem hk, e, List.map_append, List.map_cons, List.map_nil, List.append_assoc]
 rfl
theorem impl_turnedSigns.upto_zero (xs : List Int) : impl_turnedSigns.upto xs 0 = xs := by simp [impl_turnedSigns.upto]
theorem impl_turnedSigns.upto_end (xs : List Int) : impl_turnedSigns.upto xs xs.length = xs.map impl_turnedSigns.turn := by simp [impl_turnedSigns.upto]
theorem impl_turnedSigns.signs {xs : List Int} (h : xs.all impl_turnedSigns.sign = true) (k : Nat) (hk : k < xs.length) : xs.getD k 0 = 101 ∨ xs.getD k 0 = 110 ∨ xs.getD k 0 = 115 ∨ xs.getD k 0 = 119 := by
 have := List.all_eq_true.1 h (xs.getD k 0) (by simp [hk])
 simpa [impl_turnedSigns.sign, or_assoc] using this
theorem impl_turnedSigns.calls (a0 : ByteArray) (r : ByteArray) (w : World) (h : impl_turnedSigns.f a0 = some r) :
  Calls Try.prog 44 #[.string a0] w fun e w' => e = .returned (.string r) ∧ Below w.heap.size w w' := by
 unfold impl_turnedSigns.f at h
 by_cases hs : (impl_turnedSigns.nums a0).all impl_turnedSigns.sign = true ∧ a0.size ≤ 1048576
 ·rw [if_pos hs] at h
  have R := am (Option.some.inj h)
  clear h
  obtain ⟨hs, hz⟩ := hs
  have HS := am hs
  clear hs
  have conv1 := Go.Lib.run_convert_string_bytes (P := Try.prog) w 9 22 5 a0 Try.underlying9 Try.underlying22 Try.underlying5
  have B0 := impl_turnedSigns.Blk.made w a0
  have L0 := impl_turnedSigns.made_below w a0
  have N0 := am (impl_turnedSigns.nums_length a0)
  have e0 : w.heap.size ≤ w.heap.size := Nat.le_refl _
  generalize Go.Lib.bytesWorld w 5 a0 = w1 at conv1 B0 L0
  have B := am (show impl_turnedSigns.Blk w1 w.heap.size (impl_turnedSigns.upto (impl_turnedSigns.nums a0) 0) by rw [impl_turnedSigns.upto_zero]; exact B0)
  have L := am L0
  clear B0 L0
  go_enter Try.func44, Try.ntmps44
  go_wp2
  generalize grownCap w a0.size 0 5 = cap at conv1 ⊢
  go_loopw [10] (fun i wr => ∃ k : Nat, k ≤ a0.size ∧ i = .int .i64 k ∧ Aside0 (impl_turnedSigns.Blk wr w.heap.size (impl_turnedSigns.upto (impl_turnedSigns.nums a0) k)) ∧ Aside0 (Below w.heap.size w wr)) (fun i _ => a0.size - (intOf i).toNat)
  case atStart => exact ⟨0, Nat.zero_le _, rfl, B, L⟩
  case round =>
   obtain ⟨k, hk, rfl, HB, HL⟩ := hrel
   clear conv1 B L
   by_cases hlt : k < a0.size
   ·have hlen : k < (impl_turnedSigns.upto (impl_turnedSigns.nums a0) k).length := by rw [impl_turnedSigns.upto_length, N0.out]; exact hlt
    have hc := HB.out.cell k hlen
    rw [impl_turnedSigns.upto_at _ _ (by rw [N0.out]; exact hlt)] at hc
    have hf := HB.out.free k hlen
    have X := am (impl_turnedSigns.upto_step (impl_turnedSigns.nums a0) k (by rw [N0.out]; exact hlt))
    have hb := HL.out.size
    have four := impl_turnedSigns.signs HS.out k (by rw [N0.out]; exact hlt)
    have HB2 := fun v => am (HB.out.set k hlen v)
    clear hlen
    generalize (impl_turnedSigns.nums a0).getD k 0 = x at hc X four
    rcases four with rfl | rfl | rfl | rfl
    ·have HB3 := am (show impl_turnedSigns.Blk _ _ (impl_turnedSigns.upto (impl_turnedSigns.nums a0) (k + 1)) by have z := (HB2 119).out; rw [show (119 : Int) = impl_turnedSigns.turn 101 from rfl] at z; rw [X.out] at z; exact z)
     clear HB2 X
     go_wp2_with (go_at_call 42; refine (strings_IndexByte.calls _ _ 0 _ (by rfl)).mono ?_; rintro e w' ⟨rfl, ⟨nd, rfl⟩⟩)
     go_roundw
     case rel => exact ⟨k + 1, by omega, by go_num, ⟨HB3.out⟩, ⟨(pw_below_drewN HL.out nd).setCell (p := ⟨w.heap.size, k, none⟩) (by simp) _⟩⟩
     case measure => simp [intOf]; omega
    ·have HB3 := am (show impl_turnedSigns.Blk _ _ (impl_turnedSigns.upto (impl_turnedSigns.nums a0) (k + 1)) by have z := (HB2 115).out; rw [show (115 : Int) = impl_turnedSigns.turn 110 from rfl] at z; rw [X.out] at z; exact z)
     clear HB2 X
     go_wp2_with (go_at_call 42; refine (strings_IndexByte.calls _ _ 1 _ (by rfl)).mono ?_; rintro e w' ⟨rfl, ⟨nd, rfl⟩⟩)
     go_roundw
     case rel => exact ⟨k + 1, by omega, by go_num, ⟨HB3.out⟩, ⟨(pw_below_drewN HL.out nd).setCell (p := ⟨w.heap.size, k, none⟩) (by simp) _⟩⟩
     case measure => simp [intOf]; omega
    ·have HB3 := am (show impl_turnedSigns.Blk _ _ (impl_turnedSigns.upto (impl_turnedSigns.nums a0) (k + 1)) by have z := (HB2 110).out; rw [show (110 : Int) = impl_turnedSigns.turn 115 from rfl] at z; rw [X.out] at z; exact z)
     clear HB2 X
     go_wp2_with (go_at_call 42; refine (strings_IndexByte.calls _ _ 2 _ (by rfl)).mono ?_; rintro e w' ⟨rfl, ⟨nd, rfl⟩⟩)
     go_roundw
     case rel => exact ⟨k + 1, by omega, by go_num, ⟨HB3.out⟩, ⟨(pw_below_drewN HL.out nd).setCell (p := ⟨w.heap.size, k, none⟩) (by simp) _⟩⟩
     case measure => simp [intOf]; omega
    ·have HB3 := am (show impl_turnedSigns.Blk _ _ (impl_turnedSigns.upto (impl_turnedSigns.nums a0) (k + 1)) by have z := (HB2 101).out; rw [show (101 : Int) = impl_turnedSigns.turn 119 from rfl] at z; rw [X.out] at z; exact z)
     clear HB2 X
     go_wp2_with (go_at_call 42; refine (strings_IndexByte.calls _ _ 3 _ (by rfl)).mono ?_; rintro e w' ⟨rfl, ⟨nd, rfl⟩⟩)
     go_roundw
     case rel => exact ⟨k + 1, by omega, by go_num, ⟨HB3.out⟩, ⟨(pw_below_drewN HL.out nd).setCell (p := ⟨w.heap.size, k, none⟩) (by simp) _⟩⟩
     case measure => simp [intOf]; omega
   ·obtain rfl : k = a0.size := by omega
    have HB2 := HB.out
    rw [show impl_turnedSigns.upto (impl_turnedSigns.nums a0) a0.size = (impl_turnedSigns.nums a0).map impl_turnedSigns.turn by rw [← N0.out]; exact impl_turnedSigns.upto_end _] at HB2
    have hrd : ReadsInt wr .u8 (some ⟨w.heap.size, 0, none⟩) a0.size ((impl_turnedSigns.nums a0).map impl_turnedSigns.turn) := by
     refine ⟨by rw [List.length_map]; exact N0.out, by omega, fun _ => ⟨_, rfl, fun j hj => ?_⟩⟩
     have z := HB2.cell j (by rw [List.length_map, N0.out]; exact hj)
     have e : (⟨w.heap.size, 0, none⟩ : Addr).add j = ⟨w.heap.size, j, none⟩ := by
      unfold Addr.add
      by_cases h : j = 0
      ·subst h; rfl
      ·simp [h]
     rw [e]; exact z
    have conv2 := string_of_reads (P := Try.prog) (src := 22) (dst := 9) (e := 5) (c := cap) Try.underlying22 Try.underlying5 Try.underlying9 hrd
    rw [R.out] at conv2
    clear hrd HB2
    go_wp2
    go_ret
    exact ⟨rfl, HL.out⟩
 ·rw [if_neg hs] at h
  cases h
def impl_BackWays.f (k : Nat) (a0_0 : ByteArray) (a0_1 : ByteArray) : Option (ByteArray × ByteArray × Bool) := (impl_AreWays.f k a0_0 a0_1).bind fun t318 => (if t318 = true then ((impl_turnedSigns.f a0_0).bind fun t319 => ((impl_turnedSigns.f a0_1).bind fun t320 => (some (t319, t320, true)))) else (some ((⟨#[]⟩ : ByteArray), (⟨#[]⟩ : ByteArray), false)))
def impl_BackWays.T3 : Bool × List (List Nat × List Nat) := (true, [([], []), ([0], [0]), ([1], [1]), ([], []), ([3], [3]), ([4, 2], [4]), ([2, 5], [2, 5]), ([6, 5, 0, 1, 2, 3, 4, 5, 6], [6]), ([7, 0, 1, 2, 3, 4, 5, 6, 7], [])])
def impl_BackWays.B3 : List Nat := [0, 1, 3, 0, 8, 31, 63, 127, 255]
theorem impl_BackWays.tab3 : rtab .any (opsOf Try.f18 3) = impl_BackWays.T3 := by kernel_rfl
theorem impl_BackWays.bits3 : waitsOk impl_BackWays.T3.2 impl_BackWays.B3 = true := by kernel_rfl
theorem impl_BackWays.calls (k : Nat) (a0_0 : ByteArray) (a0_1 : ByteArray) (r1 : ByteArray) (r2 : ByteArray) (r3 : Bool) (w : World) (h : impl_BackWays.f k a0_0 a0_1 = some (r1, r2, r3)) :
  Calls Try.prog 18 #[.agg #[.string a0_0, .string a0_1]] w fun e w' => e = .returned (.tuple #[.agg #[.string r1, .string r2], .bool r3]) ∧ Below w.heap.size w w' := by
 have hu25 := Try.underlying25
 have HB := am (Below.refl w.heap.size w)
 unfold impl_BackWays.f at h
 have H := h
 clear h
 obtain ⟨t318, A2, H⟩ := bnd_ H
 try dsimp only at H
 by_cases c3 : t318 = true
 ·subst c3
  rw [if_pos rfl] at H
  obtain ⟨t319, A4, H⟩ := bnd_ H
  try dsimp only at H
  obtain ⟨t320, A5, H⟩ := bnd_ H
  try dsimp only at H
  simp only [Option.some.injEq, Prod.mk.injEq] at H
  obtain ⟨rfl, rfl, rfl⟩ := H
  go_enter Try.func18, Try.ntmps18
  try go_wp2_with (first | ((with_reducible refine gate_dst (N := 1) rfl ?_); refine bx_ 1 (#[.string a0_0, .string a0_1]) 25 ?_; intro gb316 hg w6 hbox hb; have BK316 := am (hbox); have GW316 := am ((by rw [hg]; exact (below_size HB.out) : w.heap.size ≤ gb316)); have GE316 := am ((by rw [hg]; exact (below_size HB.out) : w.heap.size ≤ gb316)); replace HB := am (below_step HB.out hb); clear hb hbox hg) | ((with_reducible refine gate_dst (N := 2) rfl ?_); refine bx_ 2 (#[.string (⟨#[]⟩ : ByteArray), .string (⟨#[]⟩ : ByteArray)]) 25 ?_; intro gb317 hg w7 hbox hb; have BK317 := am (hbox); have GW317 := am ((by rw [hg]; exact (below_size HB.out) : w.heap.size ≤ gb317)); have GE317 := am ((by rw [hg]; exact (below_size HB.out) : w.heap.size ≤ gb317)); replace HB := am (below_step HB.out hb); have NB316_317 := am ((by rw [hg]; exact Nat.ne_of_lt (blk_lt (g := gb316) (o := .cells #[.string a0_0, .string a0_1] 25 (0, 0)) BK316.out) : gb316 ≠ gb317)); have NB317_316 := am ((by rw [hg]; exact Nat.ne_of_gt (blk_lt (g := gb316) (o := .cells #[.string a0_0, .string a0_1] 25 (0, 0)) BK316.out) : gb317 ≠ gb316)); replace BK316 := am (blk_below BK316.out hb); clear hb hbox hg; have hnb8 := NB316_317.out; have hnc8 := NB317_316.out; have hcz9_0 := cz0_ BK316; have hcz9_1 := cz1_ BK316; have hfz9_0 := blk_frozen BK316.out 0; have hfz9_1 := blk_frozen BK316.out 1) | ((with_reducible refine gate_callee (f := 43) rfl ?_); refine gl_ 5 Try.func43 #[.agg #[.string a0_0, .string a0_1]] ?_; (with_reducible refine (impl_AreWays.calls k a0_0 a0_1 true _ A2.out).mono ?_); rintro e w10 ⟨rfl, hb⟩; refine ⟨_, rfl, ?_⟩; replace BK316 := am (blk_below BK316.out hb); replace BK317 := am (blk_below BK317.out hb); replace HB := am (below_step HB.out hb); (try clear hb)))
  replace BK316 := am (blk_drew BK316.out)
  replace BK317 := am (blk_drew BK317.out)
  replace HB := am (below_drew1 HB.out)
  refine start_ (n := 9) (S := fun w' => w'.cell? ⟨gb316, 0, none⟩ = some (.string a0_0) ∧ w'.cell? ⟨gb316, 1, none⟩ = some (.string a0_1)) (ds := []) #[false, false, false, false, false, false, false, false, false] (by kernel_rfl) rfl rfl ⟨(blk_cell BK316.out 0).trans rfl, (blk_cell BK316.out 1).trans rfl⟩ (fun hHeld => ?_); refine with_tabW impl_BackWays.tab3 impl_BackWays.bits3 (fun HT_ HW_ => ?_)
  generalize w10.drew = w11 at BK316 BK317 HB hHeld ⊢
  refine pu_ 0 8 (fl_ 9 1) HT_ ?_
  refine pu_ 3 11 (fl_ 9 9) HT_ ?_
  refine tk_ 1 9 (fl_ 9 11) HT_ HW_ hHeld ?_ (hy := by rintro w' ⟨s0, s1⟩; go_simp; with_reducible rfl)
  refine tk_ 4 12 (fl_ 9 27) HT_ HW_ hHeld ?_ (hy := by rintro w' ⟨s0, s1⟩; go_simp; with_reducible rfl)
  refine on_ 2 10 (fl_ 9 31) HT_ fun K hK => ?_
  refine gs_ Try.func44 #[.string a0_0] ?_
  with_reducible refine (impl_turnedSigns.calls a0_0 t319 _ A4.out).mono ?_
  rintro e w12 ⟨rfl, hb⟩
  refine ⟨_, rfl, ?_⟩
  replace BK316 := am (blk_below BK316.out hb)
  replace BK317 := am (blk_below BK317.out hb)
  replace HB := am (below_step HB.out hb)
  (try clear hb)
  refine hK.out _ _ ⟨(blk_cell BK316.out 0).trans rfl, (blk_cell BK316.out 1).trans rfl⟩ (fun hHeld => ?_)
  clear hK K
  refine nm_ 10 ?_
  refine on_ 5 13 (fl_ 9 63) HT_ fun K hK => ?_
  refine gs_ Try.func44 #[.string a0_1] ?_
  with_reducible refine (impl_turnedSigns.calls a0_1 t320 _ A5.out).mono ?_
  rintro e w13 ⟨rfl, hb⟩
  refine ⟨_, rfl, ?_⟩
  replace BK316 := am (blk_below BK316.out hb)
  replace BK317 := am (blk_below BK317.out hb)
  replace HB := am (below_step HB.out hb)
  (try clear hb)
  refine hK.out _ _ ⟨(blk_cell BK316.out 0).trans rfl, (blk_cell BK316.out 1).trans rfl⟩ (fun hHeld => ?_)
  clear hK K
  refine nm_ 13 ?_
  refine pu_ 6 14 (fl_ 9 127) HT_ ?_
  refine one_ (i := 7) (N := none) #[true, true, true, true, true, true, true, true, false] rfl rfl (one_of HT_.out (by kernel_rfl)) (by decide) (fun K hK => ?_)
  have hs14 : w13.cell? ⟨gb317, 0, none⟩ = some (.string (⟨#[]⟩ : ByteArray)) := (blk_cell BK317.out 0).trans rfl
  have hfs14 := blk_frozen BK317.out 0
  have hns14_0 := NB316_317.out
  have hms14_0 := NB317_316.out
  have hs15 : w13.cell? ⟨gb317, 1, none⟩ = some (.string (⟨#[]⟩ : ByteArray)) := (blk_cell BK317.out 1).trans rfl
  have hfs15 := blk_frozen BK317.out 1
  have hns15_0 := NB316_317.out
  have hms15_0 := NB317_316.out
  refine skip_ (w1 := ?_) (by rfl) rfl ?_ ?_
  rotate_left
  ·go_simp
   rfl
  refine hK.out _ _ ⟨((cell_far (p := ⟨gb317, _, none⟩) NB316_317.out _).trans (((cell_far (p := ⟨gb317, _, none⟩) NB316_317.out _).trans (hHeld.1)))), ((cell_far (p := ⟨gb317, _, none⟩) NB316_317.out _).trans (((cell_far (p := ⟨gb317, _, none⟩) NB316_317.out _).trans (hHeld.2))))⟩ (fun hHeld => ?_)
  clear hK K
  refine pu_ 8 3 (fl_ 9 511) HT_ ?_
  refine done_ (done_of HT_.out (by kernel_rfl)) ?_
  try go_wp2
  refine bodyPost_ret (results_ct rfl _ _ gb317 25 #[.string t319, .string t320] (0, 0) _ rfl (by (with_reducible skip); refine blk_put (cs := #[.string t319, .string (⟨#[]⟩ : ByteArray)]) ?_ 1 _ rfl; (with_reducible skip); refine blk_put (cs := #[.string (⟨#[]⟩ : ByteArray), .string (⟨#[]⟩ : ByteArray)]) ?_ 0 _ rfl; (with_reducible skip); exact BK317.out) Try.underlying25 rfl (by kernel_rfl)) rfl ?_
  exact ⟨by rfl, by repeat (with_reducible first | exact HB.out | refine below_set ?_ GE317.out)⟩
 ·replace c3 := Bool.eq_false_iff.mpr c3
  subst c3
  rw [if_neg (show ¬ (false = true) by decide)] at H
  simp only [Option.some.injEq, Prod.mk.injEq] at H
  obtain ⟨rfl, rfl, rfl⟩ := H
  go_enter Try.func18, Try.ntmps18
  go_wp2_with (first | ((with_reducible refine gate_dst (N := 1) rfl ?_); refine bx_ 1 (#[.string a0_0, .string a0_1]) 25 ?_; intro gb316 hg w16 hbox hb; have BK316 := am (hbox); have GW316 := am ((by rw [hg]; exact (below_size HB.out) : w.heap.size ≤ gb316)); have GE316 := am ((by rw [hg]; exact (below_size HB.out) : w.heap.size ≤ gb316)); replace HB := am (below_step HB.out hb); clear hb hbox hg) | ((with_reducible refine gate_dst (N := 2) rfl ?_); refine bx_ 2 (#[.string (⟨#[]⟩ : ByteArray), .string (⟨#[]⟩ : ByteArray)]) 25 ?_; intro gb317 hg w17 hbox hb; have BK317 := am (hbox); have GW317 := am ((by rw [hg]; exact (below_size HB.out) : w.heap.size ≤ gb317)); have GE317 := am ((by rw [hg]; exact (below_size HB.out) : w.heap.size ≤ gb317)); replace HB := am (below_step HB.out hb); have NB316_317 := am ((by rw [hg]; exact Nat.ne_of_lt (blk_lt (g := gb316) (o := .cells #[.string a0_0, .string a0_1] 25 (0, 0)) BK316.out) : gb316 ≠ gb317)); have NB317_316 := am ((by rw [hg]; exact Nat.ne_of_gt (blk_lt (g := gb316) (o := .cells #[.string a0_0, .string a0_1] 25 (0, 0)) BK316.out) : gb317 ≠ gb316)); replace BK316 := am (blk_below BK316.out hb); clear hb hbox hg; have hnb18 := NB316_317.out; have hnc18 := NB317_316.out; have hcz19_0 := cz0_ BK316; have hcz19_1 := cz1_ BK316; have hfz19_0 := blk_frozen BK316.out 0; have hfz19_1 := blk_frozen BK316.out 1) | ((with_reducible refine gate_callee (f := 43) rfl ?_); refine gl_ 5 Try.func43 #[.agg #[.string a0_0, .string a0_1]] ?_; (with_reducible refine (impl_AreWays.calls k a0_0 a0_1 false _ A2.out).mono ?_); rintro e w20 ⟨rfl, hb⟩; refine ⟨_, rfl, ?_⟩; replace BK316 := am (blk_below BK316.out hb); replace BK317 := am (blk_below BK317.out hb); replace HB := am (below_step HB.out hb); (try clear hb); have hcz21_0 := cz0_ BK317; have hcz21_1 := cz1_ BK317; have hfz21_0 := blk_frozen BK317.out 0; have hfz21_1 := blk_frozen BK317.out 1))
  refine bodyPost_ret (results_ct rfl _ _ gb317 25 #[.string (⟨#[]⟩ : ByteArray), .string (⟨#[]⟩ : ByteArray)] (0, 0) _ rfl (by (with_reducible skip); refine blk_put (cs := #[.string (⟨#[]⟩ : ByteArray), .string (⟨#[]⟩ : ByteArray)]) ?_ 1 _ rfl; (with_reducible skip); refine blk_put (cs := #[.string (⟨#[]⟩ : ByteArray), .string (⟨#[]⟩ : ByteArray)]) ?_ 0 _ rfl; (with_reducible skip); exact BK317.out) Try.underlying25 rfl (by kernel_rfl)) rfl ?_
  exact ⟨by rfl, by repeat (with_reducible first | exact HB.out | refine below_set ?_ GE317.out)⟩
def laws_aSame.l0 : Nat → List Int → List Int → Int → Int → Option (Bool)
 | 0, _, _, _, _ => none
 | k + 1, x0, x1, x12, x13 => if x13 < x12 then (if 0 ≤ x13 then (if x13 < (x0.length : Int) then (if x13 < (x1.length : Int) then (if (rd x0 x13) = (rd x1 x13) then (laws_aSame.l0 k x0 x1 x12 (wrap64 (x13 + 1))) else (some false)) else (none)) else (none)) else (none)) else (some true)
def laws_aSame.f (k : Nat) (l0 : List Int) (l1 : List Int) : Option (Bool) := if (l0.length : Int) = (l1.length : Int) then (laws_aSame.l0 k l0 l1 (l0.length : Int) 0) else (some false)
theorem laws_aSame.calls (k : Nat) (A0 : Option Addr) (c0 : Nat) (l0 : List Int) (A1 : Option Addr) (c1 : Nat) (l1 : List Int) (r : Bool) (w : World) (hr0 : Kd.C (Kd.int .i64) w A0 l0.length l0) (hc0 : l0.length ≤ c0) (hr1 : Kd.C (Kd.int .i64) w A1 l1.length l1) (hc1 : l1.length ≤ c1) (h : laws_aSame.f k l0 l1 = some r) :
  Calls Try.prog 19 #[.slice A0 l0.length c0, .slice A1 l1.length c1] w fun e w' => e = .returned (.bool r) ∧ Drawn0 w w' := by
 have HR0 := am hr0
 have HC0 := am hc0
 clear hr0 hc0
 have HR1 := am hr1
 have HC1 := am hc1
 clear hr1 hc1
 unfold laws_aSame.f at h
 have H := h
 clear h
 by_cases c3 : (l0.length : Int) = (l1.length : Int)
 ·rw [if_pos c3] at H
  have c3b0 : ((l0.length : Int) == (l1.length : Int)) = true := beq_iff_eq.mpr c3
  have c3b1 : ((l0.length : Int) != (l1.length : Int)) = false := bne_eq_false_iff_eq.mpr c3
  have c3b2 : (l0.length == l1.length) = true := by first | (simp at c3 ⊢; omega)
  clear c3
  have H' := am H
  clear H
  go_enter Try.func19, Try.ntmps19
  go_wp2
  go_loopg [13] k (fun kq v13 w' => ∃ (x13_1 : Int), v13 = .int .i64 x13_1 ∧ Aside0 (laws_aSame.l0 kq l0 l1 (l0.length : Int) x13_1 = some r) ∧ Aside0 (kq ≤ k) ∧ Drawn0 w w')
  case atStart => exact ⟨(0), (by rfl), H', ⟨Nat.le_refl _⟩, by repeat (exact Drawn0.refl _)⟩
  case round =>
   clear H'
   try clear c3b0
   try clear c3b1
   try clear c3b2
   obtain ⟨x13_1, rfl, HA, HK1, ⟨m1, rfl⟩⟩ := hrel
   cases gk with
   | zero => exact absurd HA.out (by simp [laws_aSame.l0])
   | succ k1 =>
    have H := HA.out
    clear HA
    simp only [laws_aSame.l0] at H
    by_cases c4 : x13_1 < (l0.length : Int)
    ·rw [if_pos c4] at H
     have c4b0 : decide (x13_1 < (l0.length : Int)) = true := decide_eq_true c4
     clear c4
     by_cases c5 : 0 ≤ x13_1
     ·rw [if_pos c5] at H
      have c5b0 : decide (0 ≤ x13_1) = true := decide_eq_true c5
      clear c5
      by_cases c6 : x13_1 < (l0.length : Int)
      ·rw [if_pos c6] at H
       have c6b0 : decide (x13_1 < (l0.length : Int)) = true := decide_eq_true c6
       clear c6
       by_cases c7 : x13_1 < (l1.length : Int)
       ·rw [if_pos c7] at H
        have c7b0 : decide (x13_1 < (l1.length : Int)) = true := decide_eq_true c7
        clear c7
        by_cases c8 : (rd l0 x13_1) = (rd l1 x13_1)
        ·rw [if_pos c8] at H
         have c8b0 : ((rd l0 x13_1) == (rd l1 x13_1)) = true := beq_iff_eq.mpr c8
         have c8b1 : ((rd l0 x13_1) != (rd l1 x13_1)) = false := bne_eq_false_iff_eq.mpr c8
         clear c8
         have H' := am H
         clear H
         have p321 : 0 ≤ (x13_1 : Int) := of_decide_eq_true (by with_reducible assumption)
         have q321 : x13_1 < (l0.length : Int) := of_decide_eq_true (by with_reducible assumption)
         obtain ⟨ad321, e321, hx321_0⟩ := Kd.at_int HR0.out x13_1 p321 q321
         cases e321
         replace p321 := eq_true p321
         replace q321 := eq_true q321
         have p322 : 0 ≤ (x13_1 : Int) := of_decide_eq_true (by with_reducible assumption)
         have q322 : x13_1 < (l1.length : Int) := of_decide_eq_true (by with_reducible assumption)
         obtain ⟨ad322, e322, hx322_0⟩ := Kd.at_int HR1.out x13_1 p322 q322
         cases e322
         replace p322 := eq_true p322
         replace q322 := eq_true q322
         go_wp2
         repeat (go_quiet (fail); try go_wp2)
         go_roundg k1
         case measure => have := HK1.out; omega
         case rel => exact ⟨(wrap64 (x13_1 + 1)), (by rfl), H', ⟨by have := HK1.out; omega⟩, by repeat (first | exact Drawn0.refl _ | apply Drawn0.step)⟩
        ·rw [if_neg c8] at H
         have c8b0 : ((rd l0 x13_1) == (rd l1 x13_1)) = false := beq_eq_false_iff_ne.mpr c8
         have c8b1 : ((rd l0 x13_1) != (rd l1 x13_1)) = true := bne_iff_ne.mpr c8
         obtain rfl := Option.some.inj H
         have p321 : 0 ≤ (x13_1 : Int) := of_decide_eq_true (by with_reducible assumption)
         have q321 : x13_1 < (l0.length : Int) := of_decide_eq_true (by with_reducible assumption)
         obtain ⟨ad321, e321, hx321_0⟩ := Kd.at_int HR0.out x13_1 p321 q321
         cases e321
         replace p321 := eq_true p321
         replace q321 := eq_true q321
         have p322 : 0 ≤ (x13_1 : Int) := of_decide_eq_true (by with_reducible assumption)
         have q322 : x13_1 < (l1.length : Int) := of_decide_eq_true (by with_reducible assumption)
         obtain ⟨ad322, e322, hx322_0⟩ := Kd.at_int HR1.out x13_1 p322 q322
         cases e322
         replace p322 := eq_true p322
         replace q322 := eq_true q322
         go_wp2
         repeat (go_quiet (fail); try go_wp2)
         go_ret
         exact ⟨by rfl, by repeat (first | exact Drawn0.refl _ | apply Drawn0.step)⟩
       ·rw [if_neg c7] at H
        exact absurd H (by simp)
      ·rw [if_neg c6] at H
       exact absurd H (by simp)
     ·rw [if_neg c5] at H
      exact absurd H (by simp)
    ·rw [if_neg c4] at H
     have c4b0 : decide (x13_1 < (l0.length : Int)) = false := decide_eq_false c4
     clear c4
     obtain rfl := Option.some.inj H
     go_wp2
     go_ret
     exact ⟨by rfl, by repeat (first | exact Drawn0.refl _ | apply Drawn0.step)⟩
 ·rw [if_neg c3] at H
  have c3b0 : ((l0.length : Int) == (l1.length : Int)) = false := beq_eq_false_iff_ne.mpr c3
  have c3b1 : ((l0.length : Int) != (l1.length : Int)) = true := bne_iff_ne.mpr c3
  have c3b2 : (l0.length == l1.length) = false := by first | (simp at c3 ⊢; omega)
  obtain rfl := Option.some.inj H
  go_enter Try.func19, Try.ntmps19
  go_wp2
  go_ret
  exact ⟨by rfl, by repeat (exact Drawn0.refl _)⟩
def laws_aSize.f (a0 : Int) : Option (Int) := if a0 < 0 then (some (wrap64 (-a0))) else (some a0)
theorem laws_aSize.calls (a0 : Int) (r : Int) (w : World) (h : laws_aSize.f a0 = some r) :
  Calls Try.prog 20 #[.int .i64 a0] w fun e w' => e = .returned (.int .i64 r) ∧ Drawn0 w w' := by
 unfold laws_aSize.f at h
 have H := h
 clear h
 by_cases c2 : a0 < 0
 ·rw [if_pos c2] at H
  have c2b0 : decide (a0 < 0) = true := decide_eq_true c2
  clear c2
  obtain rfl := Option.some.inj H
  go_enter Try.func20, Try.ntmps20
  go_wp2
  go_ret
  exact ⟨by rfl, by repeat (exact Drawn0.refl _)⟩
 ·rw [if_neg c2] at H
  have c2b0 : decide (a0 < 0) = false := decide_eq_false c2
  clear c2
  obtain rfl := Option.some.inj H
  go_enter Try.func20, Try.ntmps20
  go_wp2
  go_ret
  exact ⟨by rfl, by repeat (exact Drawn0.refl _)⟩
def stringslite_Index.f (a0 : ByteArray) (a1 : ByteArray) : Option (Int) := match a1 with | ⟨⟨[c]⟩⟩ => some (Go.Lib.indexByte a0.data.toList c) | _ => none
theorem stringslite_Index.calls (a0 : ByteArray) (a1 : ByteArray) (r : Int) (w : World) (h : stringslite_Index.f a0 a1 = some r) :
  Calls Try.prog 67 #[.string a0, .string a1] w fun e w' => e = .returned (.int .i64 r) ∧ Drawn0 w w' := by
 unfold stringslite_Index.f at h
 split at h
 ·obtain rfl := Option.some.inj h
  refine (Try.stringslite_Index_one a0 _ w).mono ?_
  rintro e w' ⟨rfl, rfl⟩
  exact ⟨rfl, Drawn0.refl _⟩
 ·cases h
def strings_Index.f (a0 : ByteArray) (a1 : ByteArray) : Option (Int) := (stringslite_Index.f a0 a1).bind fun t323 => (some t323)
theorem strings_Index.calls (a0 : ByteArray) (a1 : ByteArray) (r : Int) (w : World) (h : strings_Index.f a0 a1 = some r) :
  Calls Try.prog 46 #[.string a0, .string a1] w fun e w' => e = .returned (.int .i64 r) ∧ Drawn0 w w' := by
 unfold strings_Index.f at h
 have H := h
 clear h
 obtain ⟨t323, A3, H⟩ := bnd_ H
 try dsimp only at H
 obtain rfl := Option.some.inj H
 go_enter Try.func46, Try.ntmps46
 go_wp2_with ((with_reducible refine gate_callee (f := 67) rfl ?_); refine gl_ 7 Try.func67 #[.string a0, .string a1] ?_; (with_reducible refine (stringslite_Index.calls a0 a1 t323 _ A3.out).mono ?_); rintro e w' ⟨rfl, ⟨nd, rfl⟩⟩; refine ⟨_, rfl, ?_⟩)
 go_ret
 exact ⟨by rfl, by repeat (first | exact Drawn0.refl _ | apply Drawn0.step)⟩
def strings_Contains.f (a0 : ByteArray) (a1 : ByteArray) : Option (Bool) := (strings_Index.f a0 a1).bind fun t324 => (some (decide (t324 ≥ 0)))
theorem strings_Contains.calls (a0 : ByteArray) (a1 : ByteArray) (r : Bool) (w : World) (h : strings_Contains.f a0 a1 = some r) :
  Calls Try.prog 45 #[.string a0, .string a1] w fun e w' => e = .returned (.bool r) ∧ Drawn0 w w' := by
 unfold strings_Contains.f at h
 have H := h
 clear h
 obtain ⟨t324, A3, H⟩ := bnd_ H
 try dsimp only at H
 obtain rfl := Option.some.inj H
 go_enter Try.func45, Try.ntmps45
 go_wp2_with ((with_reducible refine gate_callee (f := 46) rfl ?_); refine gl_ 7 Try.func46 #[.string a0, .string a1] ?_; (with_reducible refine (strings_Index.calls a0 a1 t324 _ A3.out).mono ?_); rintro e w' ⟨rfl, ⟨nd, rfl⟩⟩; refine ⟨_, rfl, ?_⟩)
 go_ret
 exact ⟨by rfl, by repeat (first | exact Drawn0.refl _ | apply Drawn0.step)⟩
def impl_CanDrive.f (k : Nat) (a0_0 a0_1 : ByteArray) (l1 : List Int) (a2 : ByteArray) : Option (Bool × Bool) :=
 (impl_areDriven.f k a0_0 a0_1 [l1]).bind fun t => if t = true then (if a2.size = 1 then ((strings_Contains.f ⟨#[101, 110, 115, 119]⟩ a2).bind fun u => if u = true then ((strings_Index.f ⟨#[101, 110, 115, 119]⟩ a2).bind fun i =>
  if ((0 ≤ i ∧ i ≤ 3) ∧ l1.length = 2) ∧ impl_driveIn.Sized a0_0 a0_1 ∧ impl_driveIn.At a0_0 a0_1 (rd l1 0) (rd l1 1) then some (impl_driveIn.can a0_0 a0_1 (rd l1 0) (rd l1 1) i.toNat, true) else none) else some (false, false)) else some (false, false)) else some (false, false)
theorem impl_CanDrive.calls (k : Nat) (a0_0 a0_1 : ByteArray) (A1 : Option Addr) (c1 : Nat) (l1 : List Int) (a2 : ByteArray) (r1 r2 : Bool) (w : World) (hr1 : Kd.C (Kd.int .i64) w A1 l1.length l1) (hc1 : l1.length ≤ c1) (h : impl_CanDrive.f k a0_0 a0_1 l1 a2 = some (r1, r2)) :
  Calls Try.prog 21 #[.agg #[.string a0_0, .string a0_1], .slice A1 l1.length c1, .string a2] w fun e w' => e = .returned (.tuple #[.bool r1, .bool r2]) ∧ Below w.heap.size w w' := by
 unfold impl_CanDrive.f at h
 obtain ⟨t, ht, h⟩ := Option.bind_eq_some_iff.1 h
 have HT := am ht
 clear ht
 have hp0 : (w.alloc (.cells #[.string a0_0, .string a0_1] 25)).cell? ⟨w.heap.size, 0, none⟩ = some (.string a0_0) := by
  rw [World.cell?_alloc_at _ _ _ _ rfl]; rfl
 have hp1 : (w.alloc (.cells #[.string a0_0, .string a0_1] 25)).cell? ⟨w.heap.size, 1, none⟩ = some (.string a0_1) := by
  rw [World.cell?_alloc_at _ _ _ _ rfl]; rfl
 have hq0 : ((w.alloc (.cells #[.string a0_0, .string a0_1] 25)).alloc (.cells #[.slice A1 l1.length c1] 26)).cell? ⟨w.heap.size, 0, none⟩ = some (.string a0_0) := by
  rw [World.cell?_alloc_past _ _ _ (by simp)]; exact hp0
 have hq1 : ((w.alloc (.cells #[.string a0_0, .string a0_1] 25)).alloc (.cells #[.slice A1 l1.length c1] 26)).cell? ⟨w.heap.size, 1, none⟩ = some (.string a0_1) := by
  rw [World.cell?_alloc_past _ _ _ (by simp)]; exact hp1
 have hq2 : ((w.alloc (.cells #[.string a0_0, .string a0_1] 25)).alloc (.cells #[.slice A1 l1.length c1] 26)).cell? ⟨w.heap.size + 1, 0, none⟩ = some (.slice A1 l1.length c1) := by
  rw [World.cell?_alloc_at _ _ _ _ (by simp)]; rfl
 have HR := am (Kd.C_alloc (Kd.C_alloc hr1 (.cells #[.string a0_0, .string a0_1] 25)) (.cells #[.slice A1 l1.length c1] 26))
 have HL := am (impl_areDriven.lit1 hq2 hc1 HR.out)
 have HB := am (below_alloc (below_alloc (Below.refl w.heap.size w) (.cells #[.string a0_0, .string a0_1] 25)) (.cells #[.slice A1 l1.length c1] 26))
 clear hr1 hq2
 cases t with
 | false =>
  rw [if_neg (by simp)] at h
  simp only [Option.some.injEq, Prod.mk.injEq] at h
  obtain ⟨rfl, rfl⟩ := h
  go_enter Try.func21, Try.ntmps21
  go_wp2_with (go_at_call 29; refine (impl_areDriven.calls k a0_0 a0_1 _ 1 [l1] false _ HL.out (by simp) HT.out).mono ?_; rintro e w1 ⟨rfl, hb1⟩; have hs0 := (hb1.cell (World.block_lt_of_cell? _ _ hq0)).trans hq0; have hs1 := (hb1.cell (World.block_lt_of_cell? _ _ hq1)).trans hq1; have HB1 := am (below_then HB.out HB.out.size hb1); have HR1 := am (Kd.C_below HR.out hb1); clear hb1)
  go_ret2
  exact ⟨rfl, HB1.out⟩
 | true =>
  rw [if_pos rfl] at h
  by_cases hz : a2.size = 1
  case neg =>
   rw [if_neg hz] at h
   simp only [Option.some.injEq, Prod.mk.injEq] at h
   obtain ⟨rfl, rfl⟩ := h
   have hn : ((a2.size : Int) != 1) = true := bne_iff_ne.2 (fun z => hz (by omega))
   go_enter Try.func21, Try.ntmps21
   go_wp2_with (go_at_call 29; refine (impl_areDriven.calls k a0_0 a0_1 _ 1 [l1] true _ HL.out (by simp) HT.out).mono ?_; rintro e w1 ⟨rfl, hb1⟩; have hs0 := (hb1.cell (World.block_lt_of_cell? _ _ hq0)).trans hq0; have hs1 := (hb1.cell (World.block_lt_of_cell? _ _ hq1)).trans hq1; have HB1 := am (below_then HB.out HB.out.size hb1); have HR1 := am (Kd.C_below HR.out hb1); clear hb1)
   go_ret2
   exact ⟨rfl, HB1.out⟩
  rw [if_pos hz] at h
  have hn : ((a2.size : Int) != 1) = false := bne_eq_false_iff_eq.2 (by omega)
  obtain ⟨u, hu, h⟩ := Option.bind_eq_some_iff.1 h
  have HU := am hu
  clear hu
  cases u with
  | false =>
   rw [if_neg (by simp)] at h
   simp only [Option.some.injEq, Prod.mk.injEq] at h
   obtain ⟨rfl, rfl⟩ := h
   go_enter Try.func21, Try.ntmps21
   go_wp2_with (first | (go_at_call 29; refine (impl_areDriven.calls k a0_0 a0_1 _ 1 [l1] true _ HL.out (by simp) HT.out).mono ?_; rintro e w1 ⟨rfl, hb1⟩; have hs0 := (hb1.cell (World.block_lt_of_cell? _ _ hq0)).trans hq0; have hs1 := (hb1.cell (World.block_lt_of_cell? _ _ hq1)).trans hq1; have HB1 := am (below_then HB.out HB.out.size hb1); have HR1 := am (Kd.C_below HR.out hb1); clear hb1) | (go_at_call 45; refine (strings_Contains.calls _ a2 false _ HU.out).mono ?_; rintro e w' ⟨rfl, ⟨nd, rfl⟩⟩))
   go_ret2
   exact ⟨rfl, pw_below_drewN HB1.out _⟩
  | true =>
   rw [if_pos rfl] at h
   obtain ⟨i, hi, h⟩ := Option.bind_eq_some_iff.1 h
   by_cases hg : ((0 ≤ i ∧ i ≤ 3) ∧ l1.length = 2) ∧ impl_driveIn.Sized a0_0 a0_1 ∧ impl_driveIn.At a0_0 a0_1 (rd l1 0) (rd l1 1)
   case neg => rw [if_neg hg] at h; cases h
   rw [if_pos hg] at h
   simp only [Option.some.injEq, Prod.mk.injEq] at h
   obtain ⟨rfl, rfl⟩ := h
   obtain ⟨⟨⟨i0, i3⟩, hl⟩, hS, hA⟩ := hg
   obtain ⟨n, rfl⟩ := Int.eq_ofNat_of_zero_le i0
   rw [Int.toNat_natCast]
   have HI := am hi
   have Hl := am hl
   clear hi hl
   go_enter Try.func21, Try.ntmps21
   go_upto_region 3 with (first | (go_at_call 29; refine (impl_areDriven.calls k a0_0 a0_1 _ 1 [l1] true _ HL.out (by simp) HT.out).mono ?_; rintro e w1 ⟨rfl, hb1⟩; have hs0 := (hb1.cell (World.block_lt_of_cell? _ _ hq0)).trans hq0; have hs1 := (hb1.cell (World.block_lt_of_cell? _ _ hq1)).trans hq1; have HB1 := am (below_then HB.out HB.out.size hb1); have HR1 := am (Kd.C_below HR.out hb1); clear hb1) | (go_at_call 45; refine (strings_Contains.calls _ a2 true _ HU.out).mono ?_; rintro e w' ⟨rfl, ⟨nd, rfl⟩⟩))
   have HX := fun nd2 => am (Kd.C_drewN (Kd.C_alloc (Kd.C_drewN HR1.out nd) (.cells #[.string a0_0, .string a0_1] 25)) nd2)
   have HP := fun nd2 => am (show (((w1.drewN nd).alloc (.cells #[.string a0_0, .string a0_1] 25)).drewN nd2).heap[(w1.drewN nd).heap.size]? = some (.cells #[.string a0_0, .string a0_1] 25 (0, 0)) from heap_alloc_new _ _)
   have HBB := fun nd2 => am (pw_below_drewN (below_alloc (pw_below_drewN HB1.out nd) (.cells #[.string a0_0, .string a0_1] 25)) nd2)
   go_wp2_with (first | (go_at_call 32; refine (impl_driveIn.made a0_0 a0_1 _).mono ?_; rintro e w3 ⟨rfl, rfl⟩) | (go_at_call 46; refine (strings_Index.calls _ a2 (n : Int) _ HI.out).mono ?_; rintro e w' ⟨rfl, ⟨nd2, rfl⟩⟩) | (go_at_call 60; refine (impl_driveIn.clo' a0_0 a0_1 hS (w1.drewN nd).heap.size A1 c1 l1 Hl.out n (by omega) _ (HX nd2).out hc1 hA (HP nd2).out).mono ?_; rintro e w4 ⟨rfl, hb4⟩))
   go_ret2
   exact ⟨rfl, below_then (HBB nd2).out (HBB nd2).out.size hb4⟩
end Go.Proofs.Ytdhdkkhbgfcoiaa.MX
