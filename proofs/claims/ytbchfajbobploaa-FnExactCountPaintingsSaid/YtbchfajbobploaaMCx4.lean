-- The machine side, written by this repo's program mp.py; contracts marked as of this repo are this session's own.
import Derived.Test.YtbchfajbobploaaMCx0
import Derived.Test.YtbchfajbobploaaMCx1
import Derived.Test.YtbchfajbobploaaMCx3
namespace Go.Proofs.Ytbchfajbobploaa.MC
open Go.RowKit Go.Proofs.YtbchfajbobploaaW.PrintWords Go.Proofs.YtbchfajbobploaaW.PrintLast Go.Proofs.YtbchfajbobploaaW.PrintMore
attribute [local go_sem] max2_int min2_int max_two min_two max_three min_three max_four min_four   -- for this text's walks alone
set_option linter.unusedVariables false
set_option linter.unusedSimpArgs false

/-! ### impl_CountPaintings: function 37 (a contract of this repo) -/
/-- The first cells of a row of so many hold a number. -/
def impl_CountPaintings.Row (w : World) (g n k : Nat) (x : Value) : Prop := ∃ cur : Array Value, w.heap[g]? = some (.cells cur 29 (0, 0)) ∧ cur.size = n ∧ ∀ j, j < k → cur[j]? = some x
theorem impl_CountPaintings.copy (w : World) (g n k m : Nat) (x : Value) (hx1 : x.oneCell' = true) (a : Addr) (sl sc : Nat) (dc : Nat) (hk : k + m ≤ n) (hm : m = Nat.min sl (n - k)) (hR : impl_CountPaintings.Row w g n k x) (hs : ∀ j, j < m → w.cell? (a.add j) = some x) :
    ∃ w', (Builtin.copy_ #[35, 35] 3 #[.slice (some ⟨g, k, none⟩) (n - k) dc, .slice (some a) sl sc]).run Try.prog w = .ok (.int .i64 m) w' ∧ impl_CountPaintings.Row w' g n (k + m) x ∧ (∀ B, B ≤ g → Below B w w') := by
  obtain ⟨cur, hg, hn, hc⟩ := hR
  have hinfo : (Try.prog.info? 29).map (·.size) = some 1 := by
    have : (Try.prog.info? 29).map (fun i => (i.zero, i.size, i.bytes)) = some (some (.slice none 0 0), 1, 24) := by kernel_rfl
    cases h : Try.prog.info? 29 with
    | none => rw [h] at this; simp at this
    | some i => rw [h] at this; simp at this; simp [this.2.1]
  have h := run_copy_row (P := Try.prog) w 35 35 3 29 g k (n - k) dc a sl sc cur 29 (List.replicate m x) Try.underlying35 hinfo hg (by simpa using hm) (fun j v hj => by
    have hjm : j < m := by have := (List.getElem?_eq_some_iff.1 hj).1; simpa using this
    rw [hs j hjm]
    rw [List.getElem?_replicate, if_pos hjm] at hj
    exact hj) (by simp; omega) (fun v hv => by rw [List.eq_of_mem_replicate hv]; exact hx1)
  rw [List.length_replicate] at h
  refine ⟨_, h, ⟨_, setRow_heap w g cur _ 29 _ hg, ?_, fun j hj => ?_⟩, fun B hB => ?_⟩
  · simp; omega
  · simp only [List.getElem?_toArray]
    by_cases c : j < k
    · rw [List.append_assoc, List.getElem?_append_left (by simp; omega), List.getElem?_take, if_pos c]
      simpa using hc j c
    · rw [List.append_assoc, List.getElem?_append_right (by simp; omega), List.getElem?_append_left (by simp; omega), List.getElem?_replicate, if_pos (by simp; omega)]
  · exact below_setRow (Below.refl _ _) hB _
set_option maxHeartbeats 4000000 in
set_option maxRecDepth 100000 in
theorem impl_CountPaintings.one (ad : Addr) (c : Nat) (A1 : Option Addr) (m1 c1 : Nat) (n : Nat) (hn : 1 ≤ n ∧ n ≤ 1048576) (w : World) (hx : w.cell? ad = some (.slice A1 m1 c1)) :
    Calls Try.prog 70 #[.slice (some ad) 1 c, .int .i64 n] w fun e w' => e = .returned (.slice (some ⟨w.heap.size, 0, none⟩) n n) ∧ impl_CountPaintings.Row w' w.heap.size n n (.slice A1 m1 c1) ∧ Below w.heap.size w w' := by
  have hneg : decide ((n : Int) < 0) = false := decide_eq_false (by omega)
  have e1 : (Value.slice A1 m1 c1).oneCell' = true := rfl
  obtain ⟨i0, hi, hz0, hz1, hz2⟩ := info_parts (show (Try.prog.info? 29).map (fun i => (i.zero, i.size, i.bytes)) = some (some (.slice none 0 0), 1, 24) from by kernel_rfl)
  have hmk := run_makeSlice (P := Try.prog) (w := w) 35 29 i0 (.slice none 0 0) Try.underlying35 hi hz0 .i64 .i64 (n : Int) (n : Int) (by omega) (Int.le_refl _) (by rw [hz1]; omega) (by rw [hz2]; omega) (by omega)
  rw [Int.toNat_natCast, hz1, Nat.mul_one] at hmk
  obtain ⟨w1, hw1⟩ : ∃ w1 : World, w1 = w.alloc (.cells (madeCells (Value.slice none 0 0).cells n) 29) := ⟨_, rfl⟩
  rw [← hw1] at hmk
  have hR1 : impl_CountPaintings.Row w1 w.heap.size n 0 (.slice A1 m1 c1) := by
    rw [hw1]
    exact ⟨_, heap_alloc_new _ _, by rw [size_madeCells], fun j hj => by omega⟩
  have hB1 : Below w.heap.size w w1 := by rw [hw1]; exact below_alloc (Below.refl _ _) _
  have hx1 : w1.cell? ad = some (.slice A1 m1 c1) := (hB1.cell (World.block_lt_of_cell? _ _ hx)).trans hx
  obtain ⟨w2, hcp, hR2, hB2⟩ := impl_CountPaintings.copy w1 w.heap.size n 0 1 (.slice A1 m1 c1) e1 ad 1 c n (by omega) (Nat.min_eq_left (by omega)).symm hR1 (fun j hj => by
    obtain rfl : j = 0 := by omega
    rw [Addr.add_zero']; exact hx1)
  rw [Nat.sub_zero] at hcp
  have HB := Aside0.mk (hB1.trans (hB2 _ (Nat.le_refl _)))
  have HR := Aside0.mk hR2
  clear hR1 hB1 hx1 hR2 hB2 hx hw1 hi hz0 hz1 hz2
  go_enter Try.func70, Try.ntmps70
  go_wp2_with (go_at_call 79; refine (Try.bits_Mul 1 n (by omega) (by omega) _).mono ?_; rintro e w' ⟨rfl, hw⟩; cases hw.symm; rw [Nat.one_mul, Nat.div_eq_of_lt (by omega), Nat.mod_eq_of_lt (by omega)])
  clear hcp hmk
  rw [Nat.zero_add] at HR
  go_loopw [8] (fun k wr => ∃ q : Nat, 1 ≤ q ∧ q ≤ n ∧ k = .int .i64 q ∧ Aside0 (impl_CountPaintings.Row wr w.heap.size n q (.slice A1 m1 c1)) ∧ Aside0 (Below w.heap.size w wr)) (fun k _ => n - (intOf k).toNat)
  case atStart => exact ⟨1, by omega, by omega, rfl, HR, HB⟩
  case round =>
    clear HR HB
    obtain ⟨q, q1, qn, rfl, HR, HB⟩ := hrel
    by_cases hlt : q < n
    · obtain ⟨w2, hw2⟩ : ∃ w2 : World, wr.drew = w2 := ⟨_, rfl⟩
      have hR2 : impl_CountPaintings.Row w2 w.heap.size n q (.slice A1 m1 c1) := by rw [← hw2]; exact HR.out
      have hB2 : Below w.heap.size w w2 := by rw [← hw2]; exact below_drew1 HB.out
      obtain ⟨w3, hcp, hR3, hB3⟩ := impl_CountPaintings.copy w2 w.heap.size n q (Nat.min q (n - q)) (.slice A1 m1 c1) e1 ⟨w.heap.size, 0, none⟩ q n (n - q) (by have h : Nat.min q (n - q) ≤ n - q := Nat.min_le_right q (n - q); omega) rfl hR2 (fun j hj => by
        obtain ⟨cur, h1, h2, h3⟩ := hR2
        have hjq : j < q := Nat.lt_of_lt_of_le hj (Nat.min_le_left _ _)
        rw [Addr.add_lit]
        simp only [World.cell?, h1]
        simpa using h3 j hjq)
      have HR3 := Aside0.mk hR3
      have HB3 := Aside0.mk (hB2.trans (hB3 _ (Nat.le_refl _)))
      have HM := Aside0.mk (show 1 ≤ Nat.min q (n - q) ∧ q + Nat.min q (n - q) ≤ n by
        have h : Nat.min q (n - q) ≤ n - q := Nat.min_le_right q (n - q)
        exact ⟨Nat.le_min.2 ⟨q1, by omega⟩, by omega⟩)
      have HCP := Aside0.mk hcp
      generalize Nat.min q (n - q) = m at HCP HR3 HM
      clear hcp hR3 hB3 hR2 hB2 HR HB
      have hcp1 := HCP.out
      rw [← hw2] at hcp1
      have hcp2 : (Builtin.copy_ #[35, 35] 3 #[.slice (if n = q then some ⟨w.heap.size, 0, none⟩ else some ⟨w.heap.size, q, none⟩) (n - q) (n - q), .slice (some ⟨w.heap.size, 0, none⟩) q n]).run Try.prog wr.drew = .ok (.int .i64 m) w3 := by rw [if_neg (by omega)]; exact hcp1
      clear hw2
      have hm := HM.out
      go_wp2
      go_region
      all_goals go_wp2
      go_roundw
      case rel => exact ⟨q + m, by omega, by omega, by go_num, HR3, HB3⟩
      case measure => simp [intOf]; omega
    · obtain rfl : q = n := by omega
      clear hlt
      go_wp2
      go_ret
      exact ⟨rfl, HR.out, HB.out⟩
theorem impl_CountPaintings.zeros (n : Nat) (v : Value) (y : Nat) (hy : y < n) : (madeCells #[v] n)[y]? = some v := by
  rw [← Array.getElem?_toList, toList_madeCells_one]
  simp [hy]
/-- Rows that are all one row of noughts. -/
theorem impl_CountPaintings.rep {w : World} {g b n K : Nat} (hr : impl_CountPaintings.Row w g n n (.slice (some ⟨b, 0, none⟩) K K)) (hb : w.heap[b]? = some (.cells (madeCells #[Value.int .i64 0] K) 3 (0, 0))) (hn : n ≤ 20) (hK : K ≤ 5) : Kd.C (Kd.slice 3 (Kd.int .i64)) w (some ⟨g, 0, none⟩) n (List.replicate n (List.replicate K (0 : Int))) := by
  obtain ⟨cur, h1, h2, h3⟩ := hr
  refine ⟨by simp, by omega, fun _ => ⟨_, rfl, fun j p hp => ?_⟩⟩
  have hj : j < n := by
    have := (List.getElem?_eq_some_iff.1 hp).1
    simpa using this
  obtain rfl : List.replicate K (0 : Int) = p := by simpa [hj] using hp
  refine ⟨[.slice (some ⟨b, 0, none⟩) K K], rfl, ⟨some ⟨b, 0, none⟩, K, by simp, by simp, ?_⟩, fun i u hu => ?_⟩
  · rw [List.length_replicate]
    refine Kd.C_of_reads (d := (0 : Int)) (h1 := fun _ => rfl) ⟨by first | rfl | (simp; done), by first | omega | (simp; omega), fun hk => ⟨_, rfl, fun i hi => ?_⟩⟩
    rw [Addr.add_lit]
    simp only [World.cell?, hb]
    have hi' : i < K := by simpa using hi
    simpa [hi'] using impl_CountPaintings.zeros K (.int .i64 0) i hi'
  · match i with
    | 0 =>
      obtain rfl : Value.slice (some ⟨b, 0, none⟩) K K = u := by simpa using hu
      rw [show (Kd.slice 3 (Kd.int .i64)).sz = 1 from rfl, Addr.add_lit]
      simp only [World.cell?, h1]
      simpa using h3 j hj
    | i + 1 => simp at hu
def impl_CountPaintings.f (k : Nat) (a0 a1 : Int) (a2 : Bool) : Option (Int × Bool) := if 1 ≤ a0 ∧ a0 ≤ 20 then (if 1 ≤ a1 ∧ a1 ≤ 5 then (impl_bestPaint.f k (List.replicate a0.toNat (List.replicate a1.toNat 0)) a2).bind fun bt => if bt.2.2.2 = true then some (bt.2.2.1, true) else some (0, true) else some (0, false)) else some (0, false)
theorem impl_CountPaintings.mono : ∀ a0 a1 a2 k, LeO (impl_CountPaintings.f k a0 a1 a2) (impl_CountPaintings.f (k + 1) a0 a1 a2) := fun a0 a1 a2 k => LeO.ite (LeO.ite (LeO.bind (impl_bestPaint.mono _ _ k) (fun _ => LeO.refl _)) (LeO.refl _)) (LeO.refl _)
theorem impl_CountPaintings.within (a b c : Int) : impl_within.f a b c = some (decide (b ≤ a ∧ a ≤ c)) := by
  unfold impl_within.f
  by_cases h : a ≥ b
  · rw [if_pos h]; simp [show b ≤ a from h]
  · rw [if_neg h]; simp [show ¬ b ≤ a from h]
theorem impl_CountPaintings.rowlen (a : Int) : impl_isRowLength.f a = some (decide (1 ≤ a ∧ a ≤ 20)) := by unfold impl_isRowLength.f; rw [impl_CountPaintings.within]; rfl
set_option maxHeartbeats 4000000 in
set_option maxRecDepth 100000 in
theorem impl_CountPaintings.calls (k : Nat) (a0 a1 : Int) (a2 : Bool) (r1 : Int) (r2 : Bool) (w : World) (h : impl_CountPaintings.f k a0 a1 a2 = some (r1, r2)) :
    Calls Try.prog 37 #[.int .i64 a0, .int .i64 a1, .bool a2] w fun e w' => e = .returned (.tuple #[.int .i64 r1, .bool r2]) ∧ Below w.heap.size w w' := by
  unfold impl_CountPaintings.f at h
  have W0 := Aside0.mk (impl_CountPaintings.rowlen a0)
  have W1 := Aside0.mk (impl_CountPaintings.within a1 1 5)
  by_cases c0 : 1 ≤ a0 ∧ a0 ≤ 20
  case neg =>
    rw [if_neg c0] at h
    obtain ⟨rfl, rfl⟩ := Prod.mk.inj (Option.some.inj h)
    rw [decide_eq_false c0] at W0
    clear c0 h
    go_enter Try.func37, Try.ntmps37
    go_wp2_with (go_at_call 47; (with_reducible refine (impl_isRowLength.calls a0 false _ W0.out).mono ?_); rintro e w' ⟨rfl, ⟨nd, rfl⟩⟩)
    refine bodyPost_ret (results_list (rs := [.tmp 6, .tmp 7]) rfl (by simp) (.tmp (.tmp .nil))) rfl ?_
    exact ⟨rfl, pw_below_drewN (Below.refl _ _) _⟩
  rw [if_pos c0] at h
  by_cases c1 : 1 ≤ a1 ∧ a1 ≤ 5
  case neg =>
    rw [if_neg c1] at h
    obtain ⟨rfl, rfl⟩ := Prod.mk.inj (Option.some.inj h)
    rw [decide_eq_true c0] at W0
    rw [decide_eq_false c1] at W1
    clear c0 c1 h
    go_enter Try.func37, Try.ntmps37
    go_wp2_with (first | (go_at_call 47; (with_reducible refine (impl_isRowLength.calls a0 true _ W0.out).mono ?_); rintro e w' ⟨rfl, ⟨nd, rfl⟩⟩) | (go_at_call 49; (with_reducible refine (impl_within.calls a1 1 5 false _ W1.out).mono ?_); rintro e w' ⟨rfl, ⟨nd, rfl⟩⟩))
    refine bodyPost_ret (results_list (rs := [.tmp 6, .tmp 7]) rfl (by simp) (.tmp (.tmp .nil))) rfl ?_
    exact ⟨rfl, pw_below_drewN (Below.refl _ _) _⟩
  rw [if_pos c1] at h
  rw [decide_eq_true c0] at W0
  rw [decide_eq_true c1] at W1
  obtain ⟨⟨b1, b2, b3, b4⟩, hb, h9⟩ := Option.bind_eq_some_iff.1 h
  dsimp only at h9
  obtain ⟨n, rfl⟩ := Int.eq_ofNat_of_zero_le (show 0 ≤ a0 by omega)
  obtain ⟨K, rfl⟩ := Int.eq_ofNat_of_zero_le (show 0 ≤ a1 by omega)
  rw [Int.toNat_natCast, Int.toNat_natCast] at hb
  have HBP := Aside0.mk hb
  have HH := Aside0.mk h9
  have hmk1 := run_make_row' (P := Try.prog) 29 3 (.int .i64 0) 8 Try.underlying29 (show (Try.prog.info? 3).map (fun i => (i.zero, i.size, i.bytes)) = some (some (.int .i64 0), 1, 8) from by kernel_rfl) rfl .i64 .i64 K (by omega) (by omega)
  have HK5 := Aside0.mk (show (1 ≤ n ∧ n ≤ 20) ∧ 1 ≤ K ∧ K ≤ 5 by omega)
  have HRP0 := Aside0.mk (show ∀ W : World, Below w.heap.size w W → Calls Try.prog 70 #[.slice (some ⟨W.heap.size + 1, 0, none⟩) 1 1, .int .i64 n] ((W.alloc (.cells (madeCells #[Value.int .i64 0] K) 3)).alloc (.cells #[.slice (some ⟨W.heap.size, 0, none⟩) K K] 29)) (fun e W' => ∃ g, e = .returned (.slice (some ⟨g, 0, none⟩) n n) ∧ Kd.C (Kd.slice 3 (Kd.int .i64)) W' (some ⟨g, 0, none⟩) n (List.replicate n (List.replicate K (0 : Int))) ∧ Below w.heap.size w W') from fun W hW => by
    have hz : ((W.alloc (.cells (madeCells #[Value.int .i64 0] K) 3)).alloc (.cells #[.slice (some ⟨W.heap.size, 0, none⟩) K K] 29)).heap[W.heap.size]? = some (.cells (madeCells #[Value.int .i64 0] K) 3 (0, 0)) := blk_alloc (heap_alloc_new _ _) _
    have hb1 : Below w.heap.size w ((W.alloc (.cells (madeCells #[Value.int .i64 0] K) 3)).alloc (.cells #[.slice (some ⟨W.heap.size, 0, none⟩) K K] 29)) := below_then hW hW.size (below_alloc (below_alloc (Below.refl _ _) _) _)
    have hx : ((W.alloc (.cells (madeCells #[Value.int .i64 0] K) 3)).alloc (.cells #[.slice (some ⟨W.heap.size, 0, none⟩) K K] 29)).cell? ⟨W.heap.size + 1, 0, none⟩ = some (.slice (some ⟨W.heap.size, 0, none⟩) K K) := by
      have z := heap_alloc_new (W.alloc (.cells (madeCells #[Value.int .i64 0] K) 3)) (.cells #[.slice (some ⟨W.heap.size, 0, none⟩) K K] 29)
      have z2 : ((W.alloc (.cells (madeCells #[Value.int .i64 0] K) 3)).alloc (.cells #[.slice (some ⟨W.heap.size, 0, none⟩) K K] 29)).heap[W.heap.size + 1]? = some (.cells #[.slice (some ⟨W.heap.size, 0, none⟩) K K] 29 (0, 0)) := by simpa using z
      exact (blk_cell z2 0).trans rfl
    refine (impl_CountPaintings.one ⟨W.heap.size + 1, 0, none⟩ 1 (some ⟨W.heap.size, 0, none⟩) K K n (by have := HK5.out; omega) _ hx).mono ?_
    rintro e W' ⟨rfl, hr, hbe⟩
    exact ⟨_, rfl, impl_CountPaintings.rep hr ((hbe.block _ (Array.getElem?_eq_some_iff.1 hz).1).trans hz) (by have := HK5.out; omega) (by have := HK5.out; omega), below_then hb1 hb1.size hbe⟩)
  have HRP := Aside0.mk (show ∀ m : Nat, Calls Try.prog 70 #[.slice (some ⟨w.heap.size + 1, 0, none⟩) 1 1, .int .i64 n] (((w.drewN m).alloc (.cells (madeCells #[Value.int .i64 0] K) 3)).alloc (.cells #[.slice (some ⟨w.heap.size, 0, none⟩) K K] 29)) (fun e W' => ∃ g, e = .returned (.slice (some ⟨g, 0, none⟩) n n) ∧ Kd.C (Kd.slice 3 (Kd.int .i64)) W' (some ⟨g, 0, none⟩) n (List.replicate n (List.replicate K (0 : Int))) ∧ Below w.heap.size w W') from fun m => HRP0.out (w.drewN m) (pw_below_drewN (Below.refl _ _) _))
  have HBC := Aside0.mk (show ∀ (W : World) (g : Nat), Kd.C (Kd.slice 3 (Kd.int .i64)) W (some ⟨g, 0, none⟩) n (List.replicate n (List.replicate K (0 : Int))) → Calls Try.prog 69 #[.slice (some ⟨g, 0, none⟩) n n, .bool a2] W (fun e w' => ∃ v1 : Value, e = .returned (.tuple #[.int .i64 b1, v1, .int .i64 b3, .bool b4]) ∧ Below W.heap.size W w') from fun W g hC => by
    have z := impl_bestPaint.calls k (some ⟨g, 0, none⟩) n (List.replicate n (List.replicate K (0 : Int))) a2 b1 b2 b3 b4 W (by rw [List.length_replicate]; exact hC) (by rw [List.length_replicate]; exact Nat.le_refl _) HBP.out
    rw [List.length_replicate] at z
    refine z.mono ?_
    rintro e w' ⟨v1, rfl, -, hB⟩
    exact ⟨v1, rfl, hB⟩)
  clear hb h h9 c0 c1 HRP0
  cases b4 with
  | true =>
    have z := HH.out
    rw [if_pos rfl] at z
    obtain ⟨rfl, rfl⟩ := Prod.mk.inj (Option.some.inj z)
    clear z HH
    go_enter Try.func37, Try.ntmps37
    go_wp2_with (first | (go_at_call 47; (with_reducible refine (impl_isRowLength.calls n true _ W0.out).mono ?_); rintro e w' ⟨rfl, ⟨nd, rfl⟩⟩) | (go_at_call 49; (with_reducible refine (impl_within.calls K 1 5 true _ W1.out).mono ?_); rintro e w' ⟨rfl, ⟨nd, rfl⟩⟩) | (go_at_call 70; refine (HRP.out _).mono ?_; rintro e w4 ⟨g, rfl, hC, hB4⟩; have HC4 := Aside0.mk hC; have HB4 := Aside0.mk hB4; clear hC hB4) | (go_at_call 69; refine (HBC.out _ g HC4.out).mono ?_; rintro e w5 ⟨v1, rfl, hB5⟩; have HB5 := Aside0.mk (below_then HB4.out HB4.out.size hB5); clear hB5))
    refine bodyPost_ret (results_list (rs := [.tmp 6, .tmp 7]) rfl (by simp) (.tmp (.tmp .nil))) rfl ?_
    exact ⟨rfl, HB5.out⟩
  | false =>
    have z := HH.out
    rw [if_neg (by simp)] at z
    obtain ⟨rfl, rfl⟩ := Prod.mk.inj (Option.some.inj z)
    clear z HH
    go_enter Try.func37, Try.ntmps37
    go_wp2_with (first | (go_at_call 47; (with_reducible refine (impl_isRowLength.calls n true _ W0.out).mono ?_); rintro e w' ⟨rfl, ⟨nd, rfl⟩⟩) | (go_at_call 49; (with_reducible refine (impl_within.calls K 1 5 true _ W1.out).mono ?_); rintro e w' ⟨rfl, ⟨nd, rfl⟩⟩) | (go_at_call 70; refine (HRP.out _).mono ?_; rintro e w4 ⟨g, rfl, hC, hB4⟩; have HC4 := Aside0.mk hC; have HB4 := Aside0.mk hB4; clear hC hB4) | (go_at_call 69; refine (HBC.out _ g HC4.out).mono ?_; rintro e w5 ⟨v1, rfl, hB5⟩; have HB5 := Aside0.mk (below_then HB4.out HB4.out.size hB5); clear hB5))
    refine bodyPost_ret (results_list (rs := [.tmp 6, .tmp 7]) rfl (by simp) (.tmp (.tmp .nil))) rfl ?_
    exact ⟨rfl, HB5.out⟩

/-! ### laws_FnExactCountPaintings: function 11 -/
def laws_FnExactCountPaintings.f (k : Nat) (a0 : Int) (a1 : Int) (a2 : Bool) : Option (Bool) := (spec_CountPaintings.f k a0 a1 a2).bind fun bt142 => ((impl_CountPaintings.f k a0 a1 a2).bind fun bt144 => (if bt144.1 = bt142.1 then (if (bt144.2 != bt142.2) = true then (some false) else (some true)) else (some false)))
theorem laws_FnExactCountPaintings.mono : ∀ a0 a1 a2 k, LeO (laws_FnExactCountPaintings.f k a0 a1 a2) (laws_FnExactCountPaintings.f (k + 1) a0 a1 a2) := by
  intro a0 a1 a2 k
  unfold laws_FnExactCountPaintings.f
  repeat' first
      | (with_reducible exact impl_CountPaintings.mono _ _ _ _)
      | (with_reducible exact spec_CountPaintings.mono _ _ _ _)
      | (with_reducible exact LeO.refl _)
      | (with_reducible exact LeO.none _)
      | (with_reducible refine LeO.ite ?_ ?_)
      | (with_reducible refine LeO.bind ?_ (fun _ => ?_))
      | exact impl_CountPaintings.mono _ _ _ _
      | exact spec_CountPaintings.mono _ _ _ _
      | exact LeO.none _
      | refine LeO.ite ?_ ?_
      | refine LeO.bind ?_ (fun _ => ?_)
set_option maxHeartbeats 8000000 in
set_option maxRecDepth 100000 in
theorem laws_FnExactCountPaintings.calls (k : Nat) (a0 : Int) (a1 : Int) (a2 : Bool) (r : Bool) (w : World) (h : laws_FnExactCountPaintings.f k a0 a1 a2 = some r) :
    Calls Try.prog 11 #[.int .i64 a0, .int .i64 a1, .bool a2] w fun e w' => e = .returned (.bool r) ∧ Below w.heap.size w w' := by
  have HB := Aside0.mk (Below.refl w.heap.size w)
  have H : ((spec_CountPaintings.f k a0 a1 a2).bind fun bt142 => ((impl_CountPaintings.f k a0 a1 a2).bind fun bt144 => (if bt144.1 = bt142.1 then (if (bt144.2 != bt142.2) = true then (some false) else (some true)) else (some false)))) = some r := h
  clear h
  replace H := Option.bind_eq_some_iff.mp H
  obtain ⟨⟨t142, t143⟩, A40, H⟩ := H
  replace H : ((impl_CountPaintings.f k a0 a1 a2).bind fun bt144 => (if bt144.1 = t142 then (if (bt144.2 != t143) = true then (some false) else (some true)) else (some false))) = some r := H
  have A4 := Aside0.mk A40
  clear A40
  replace H := Option.bind_eq_some_iff.mp H
  obtain ⟨⟨t144, t145⟩, A50, H⟩ := H
  replace H : (if t144 = t142 then (if (t145 != t143) = true then (some false) else (some true)) else (some false)) = some r := H
  have A5 := Aside0.mk A50
  clear A50
  by_cases c6 : t144 = t142
  · rw [if_pos c6] at H
    have c6b0 : (t144 == t142) = true := beq_iff_eq.mpr c6
    have c6b1 : (t144 != t142) = false := bne_eq_false_iff_eq.mpr c6
    clear c6
    by_cases c7 : (t145 != t143) = true
    · rw [if_pos c7] at H
      have c7b0 : (t145 != t143) = true := c7
      (try (have c7b1 : decide (t145 = t143) = false := by simpa using c7))
      (try (have c7b2 : (t145 == t143) = false := by simpa using c7))
      (try (have c7b3 : ¬ (t145 = t143) := by simpa using c7))
      clear c7
      obtain rfl := Option.some.inj H
      go_enter Try.func11, Try.ntmps11
      go_wp2_with (first | ((with_reducible refine gate_callee (f := 36) rfl ?_); refine goesL_ (some 15) rfl rfl Try.func36 (by kernel_rfl) rfl #[.int .i64 a0, .int .i64 a1, .bool a2] rfl (by (try simp only [List.map_toArray, List.map_cons, List.map_nil]); first | done | rfl | (simp only [List.length_drop, List.length_take]; rfl)) ?_; (with_reducible refine (spec_CountPaintings.calls k a0 a1 a2 t142 t143 _ A4.out).mono ?_); rintro e w' ⟨rfl, ⟨nd, rfl⟩⟩; refine ⟨_, rfl, ?_⟩) | ((with_reducible refine gate_callee (f := 37) rfl ?_); refine goesL_ (some 22) rfl rfl Try.func37 (by kernel_rfl) rfl #[.int .i64 a0, .int .i64 a1, .bool a2] rfl (by (try simp only [List.map_toArray, List.map_cons, List.map_nil]); first | done | rfl | (simp only [List.length_drop, List.length_take]; rfl)) ?_; (with_reducible refine (impl_CountPaintings.calls k a0 a1 a2 t144 t145 _ A5.out).mono ?_); rintro e w8 ⟨rfl, hb⟩; refine ⟨_, rfl, ?_⟩; have n0_ := Aside0.mk (below_step (by repeat (first | (with_reducible first | exact HB.out | apply below_alloc | apply pw_below_drewN | apply below_drew1) | exact HB.out)) hb); clear HB; have HB := n0_; clear n0_; (try clear hb); (try clear hb2); (try clear hk); (try clear hi)))
      go_ret
      exact ⟨by first | rfl | (simp [errW_none, errW_some] <;> rfl) | (simp [*, errW_none, errW_some] <;> rfl), by repeat (first | (with_reducible first | exact HB.out | apply below_alloc | apply pw_below_drewN | apply below_drew1) | exact HB.out)⟩
    · rw [if_neg c7] at H
      have c7b0 : (t145 != t143) = false := by simpa using c7
      (try (have c7b1 : decide (t145 = t143) = true := by simpa using c7))
      (try (have c7b2 : (t145 == t143) = true := by simpa using c7))
      clear c7
      obtain rfl := Option.some.inj H
      go_enter Try.func11, Try.ntmps11
      go_wp2_with (first | ((with_reducible refine gate_callee (f := 36) rfl ?_); refine goesL_ (some 15) rfl rfl Try.func36 (by kernel_rfl) rfl #[.int .i64 a0, .int .i64 a1, .bool a2] rfl (by (try simp only [List.map_toArray, List.map_cons, List.map_nil]); first | done | rfl | (simp only [List.length_drop, List.length_take]; rfl)) ?_; (with_reducible refine (spec_CountPaintings.calls k a0 a1 a2 t142 t143 _ A4.out).mono ?_); rintro e w' ⟨rfl, ⟨nd, rfl⟩⟩; refine ⟨_, rfl, ?_⟩) | ((with_reducible refine gate_callee (f := 37) rfl ?_); refine goesL_ (some 22) rfl rfl Try.func37 (by kernel_rfl) rfl #[.int .i64 a0, .int .i64 a1, .bool a2] rfl (by (try simp only [List.map_toArray, List.map_cons, List.map_nil]); first | done | rfl | (simp only [List.length_drop, List.length_take]; rfl)) ?_; (with_reducible refine (impl_CountPaintings.calls k a0 a1 a2 t144 t145 _ A5.out).mono ?_); rintro e w9 ⟨rfl, hb⟩; refine ⟨_, rfl, ?_⟩; have n0_ := Aside0.mk (below_step (by repeat (first | (with_reducible first | exact HB.out | apply below_alloc | apply pw_below_drewN | apply below_drew1) | exact HB.out)) hb); clear HB; have HB := n0_; clear n0_; (try clear hb); (try clear hb2); (try clear hk); (try clear hi)))
      go_ret
      exact ⟨by first | rfl | (simp [errW_none, errW_some] <;> rfl) | (simp [*, errW_none, errW_some] <;> rfl), by repeat (first | (with_reducible first | exact HB.out | apply below_alloc | apply pw_below_drewN | apply below_drew1) | exact HB.out)⟩
  · rw [if_neg c6] at H
    have c6b0 : (t144 == t142) = false := beq_eq_false_iff_ne.mpr c6
    have c6b1 : (t144 != t142) = true := bne_iff_ne.mpr c6
    obtain rfl := Option.some.inj H
    go_enter Try.func11, Try.ntmps11
    go_wp2_with (first | ((with_reducible refine gate_callee (f := 36) rfl ?_); refine goesL_ (some 15) rfl rfl Try.func36 (by kernel_rfl) rfl #[.int .i64 a0, .int .i64 a1, .bool a2] rfl (by (try simp only [List.map_toArray, List.map_cons, List.map_nil]); first | done | rfl | (simp only [List.length_drop, List.length_take]; rfl)) ?_; (with_reducible refine (spec_CountPaintings.calls k a0 a1 a2 t142 t143 _ A4.out).mono ?_); rintro e w' ⟨rfl, ⟨nd, rfl⟩⟩; refine ⟨_, rfl, ?_⟩) | ((with_reducible refine gate_callee (f := 37) rfl ?_); refine goesL_ (some 22) rfl rfl Try.func37 (by kernel_rfl) rfl #[.int .i64 a0, .int .i64 a1, .bool a2] rfl (by (try simp only [List.map_toArray, List.map_cons, List.map_nil]); first | done | rfl | (simp only [List.length_drop, List.length_take]; rfl)) ?_; (with_reducible refine (impl_CountPaintings.calls k a0 a1 a2 t144 t145 _ A5.out).mono ?_); rintro e w10 ⟨rfl, hb⟩; refine ⟨_, rfl, ?_⟩; have n0_ := Aside0.mk (below_step (by repeat (first | (with_reducible first | exact HB.out | apply below_alloc | apply pw_below_drewN | apply below_drew1) | exact HB.out)) hb); clear HB; have HB := n0_; clear n0_; (try clear hb); (try clear hb2); (try clear hk); (try clear hi)))
    go_ret
    exact ⟨by first | rfl | (simp [errW_none, errW_some] <;> rfl) | (simp [*, errW_none, errW_some] <;> rfl), by repeat (first | (with_reducible first | exact HB.out | apply below_alloc | apply pw_below_drewN | apply below_drew1) | exact HB.out)⟩

/-- THE ONE PURE STATEMENT of laws_FnExactCountPaintings: yours. -/
def laws_FnExactCountPaintings.Pure : Prop := ∀ (a0 : Int) (a1 : Int) (a2 : Bool), (Lit.int .i64 a0).wf = true → (Lit.int .i64 a1).wf = true → ∃ k, laws_FnExactCountPaintings.f k a0 a1 a2 = some true
theorem laws_FnExactCountPaintings.walk (P : laws_FnExactCountPaintings.Pure) (a0 : Int) (a1 : Int) (a2 : Bool) (w : World) (w0 : (Lit.int .i64 a0).wf = true) (w1 : (Lit.int .i64 a1).wf = true) :
    Calls Try.prog 11 #[.int .i64 a0, .int .i64 a1, .bool a2] w fun e w' => e = .returned (.bool true) ∧ Below w.heap.size w w' := by
  obtain ⟨k, h⟩ := P a0 a1 a2 w0 w1
  refine (laws_FnExactCountPaintings.calls k a0 a1 a2 true w h).mono ?_
  rintro e w' ⟨rfl, hd⟩
  exact ⟨rfl, hd⟩

end Go.Proofs.Ytbchfajbobploaa.MC
