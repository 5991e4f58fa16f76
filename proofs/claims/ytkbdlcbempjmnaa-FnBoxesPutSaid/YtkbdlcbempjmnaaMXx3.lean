-- The machine side, written by this repo's program mp.py; contracts marked as of this repo are this session's own.
import Derived.Test.YtkbdlcbempjmnaaMXx0
import Derived.Test.YtkbdlcbempjmnaaMXx2
namespace Go.Proofs.Ytkbdlcbempjmnaa.MX
open Go.RowKit Go.Proofs.YtkbdlcbempjmnaaW.PrintWords Go.Proofs.YtkbdlcbempjmnaaW.PrintLast Go.Proofs.YtkbdlcbempjmnaaW.PrintMore
attribute [local go_sem] max2_int min2_int max_two min_two max_three min_three max_four min_four   -- for this text's walks alone
set_option linter.unusedVariables false
set_option linter.unusedSimpArgs false

/-! ### slices_Repeat_int_int: function 52 (a contract of this repo) -/
/-- The first cells of a row of so many hold a number. -/
def slices_Repeat_int_int.Row (w : World) (g n k : Nat) (x : Int) : Prop := ∃ cur : Array Value, w.heap[g]? = some (.cells cur 3 (0, 0)) ∧ cur.size = n ∧ ∀ j, j < k → cur[j]? = some (.int .i64 x)
theorem slices_Repeat_int_int.copy (w : World) (g n k m : Nat) (x : Int) (a : Addr) (sl sc : Nat) (dc : Nat) (hk : k + m ≤ n) (hm : m = Nat.min sl (n - k)) (hR : slices_Repeat_int_int.Row w g n k x) (hs : ∀ j, j < m → w.cell? (a.add j) = some (.int .i64 x)) :
    ∃ w', (Builtin.copy_ #[24, 24] 3 #[.slice (some ⟨g, k, none⟩) (n - k) dc, .slice (some a) sl sc]).run Try.prog w = .ok (.int .i64 m) w' ∧ slices_Repeat_int_int.Row w' g n (k + m) x ∧ (∀ B, B ≤ g → Below B w w') := by
  obtain ⟨cur, hg, hn, hc⟩ := hR
  have hinfo : (Try.prog.info? 3).map (·.size) = some 1 := by
    have := info3
    cases h : Try.prog.info? 3 with
    | none => rw [h] at this; simp at this
    | some i => rw [h] at this; simp at this; simp [this.2.1]
  have h := run_copy_row (P := Try.prog) w 24 24 3 3 g k (n - k) dc a sl sc cur 3 (List.replicate m (.int .i64 x)) Try.underlying24 hinfo hg (by simpa using hm) (fun j v hj => by
    have hjm : j < m := by have := (List.getElem?_eq_some_iff.1 hj).1; simpa using this
    rw [hs j hjm]
    rw [List.getElem?_replicate, if_pos hjm] at hj
    exact hj) (by simp; omega) (fun v hv => by rw [List.eq_of_mem_replicate hv]; rfl)
  rw [List.length_replicate] at h
  refine ⟨_, h, ⟨_, setRow_heap w g cur _ 3 _ hg, ?_, fun j hj => ?_⟩, fun B hB => ?_⟩
  · simp; omega
  · simp only [List.getElem?_toArray]
    by_cases c : j < k
    · rw [List.append_assoc, List.getElem?_append_left (by simp; omega), List.getElem?_take, if_pos c]
      simpa using hc j c
    · rw [List.append_assoc, List.getElem?_append_right (by simp; omega), List.getElem?_append_left (by simp; omega), List.getElem?_replicate, if_pos (by simp; omega)]
  · exact below_setRow (Below.refl _ _) hB _
set_option maxHeartbeats 4000000 in
set_option maxRecDepth 100000 in
theorem slices_Repeat_int_int.one (A : Option Addr) (c : Nat) (x : Int) (n : Nat) (hn : 1 ≤ n ∧ n ≤ 1048576) (w : World) (hr : Kd.C (Kd.int .i64) w A 1 [x]) :
    Calls Try.prog 52 #[.slice A 1 c, .int .i64 n] w fun e w' => e = .returned (.slice (some ⟨w.heap.size, 0, none⟩) n n) ∧ slices_Repeat_int_int.Row w' w.heap.size n n x ∧ Below w.heap.size w w' := by
  have hneg : decide ((n : Int) < 0) = false := decide_eq_false (by omega)
  obtain ⟨ad, hA, hx⟩ := Kd.at_int hr 0 (by omega) (by omega)
  rw [show (0 : Int).toNat = 0 from rfl, Addr.add_zero', show rd [x] 0 = x from rfl] at hx
  subst hA
  clear hr
  obtain ⟨i0, hi, hz0, hz1, hz2⟩ := info_parts info3
  have hmk := run_makeSlice (P := Try.prog) (w := w) 24 3 i0 (.int .i64 0) Try.underlying24 hi hz0 .i64 .i64 (n : Int) (n : Int) (by omega) (Int.le_refl _) (by rw [hz1]; omega) (by rw [hz2]; omega) (by omega)
  rw [Int.toNat_natCast, hz1, Nat.mul_one] at hmk
  obtain ⟨w1, hw1⟩ : ∃ w1 : World, w1 = w.alloc (.cells (madeCells (Value.int .i64 0).cells n) 3) := ⟨_, rfl⟩
  rw [← hw1] at hmk
  have hR1 : slices_Repeat_int_int.Row w1 w.heap.size n 0 x := by
    rw [hw1]
    exact ⟨_, heap_alloc_new _ _, by rw [size_madeCells], fun j hj => by omega⟩
  have hB1 : Below w.heap.size w w1 := by rw [hw1]; exact below_alloc (Below.refl _ _) _
  have hx1 : w1.cell? ad = some (.int .i64 x) := (hB1.cell (World.block_lt_of_cell? _ _ hx)).trans hx
  obtain ⟨w2, hcp, hR2, hB2⟩ := slices_Repeat_int_int.copy w1 w.heap.size n 0 1 x ad 1 c n (by omega) (Nat.min_eq_left (by omega)).symm hR1 (fun j hj => by
    obtain rfl : j = 0 := by omega
    rw [Addr.add_zero']; exact hx1)
  rw [Nat.sub_zero] at hcp
  have HB := Aside0.mk (hB1.trans (hB2 _ (Nat.le_refl _)))
  have HR := Aside0.mk hR2
  clear hR1 hB1 hx1 hR2 hB2 hx hw1 hi hz0 hz1 hz2
  go_enter Try.func52, Try.ntmps52
  go_wp2_with (go_at_call 67; refine (Try.bits_Mul 1 n (by omega) (by omega) _).mono ?_; rintro e w' ⟨rfl, hw⟩; cases hw.symm; rw [Nat.one_mul, Nat.div_eq_of_lt (by omega), Nat.mod_eq_of_lt (by omega)])
  clear hcp hmk
  rw [Nat.zero_add] at HR
  go_loopw [8] (fun k wr => ∃ q : Nat, 1 ≤ q ∧ q ≤ n ∧ k = .int .i64 q ∧ Aside0 (slices_Repeat_int_int.Row wr w.heap.size n q x) ∧ Aside0 (Below w.heap.size w wr)) (fun k _ => n - (intOf k).toNat)
  case atStart => exact ⟨1, by omega, by omega, rfl, HR, HB⟩
  case round =>
    clear HR HB
    obtain ⟨q, q1, qn, rfl, HR, HB⟩ := hrel
    by_cases hlt : q < n
    · obtain ⟨w2, hw2⟩ : ∃ w2 : World, wr.drew = w2 := ⟨_, rfl⟩
      have hR2 : slices_Repeat_int_int.Row w2 w.heap.size n q x := by rw [← hw2]; exact HR.out
      have hB2 : Below w.heap.size w w2 := by rw [← hw2]; exact below_drew1 HB.out
      obtain ⟨w3, hcp, hR3, hB3⟩ := slices_Repeat_int_int.copy w2 w.heap.size n q (Nat.min q (n - q)) x ⟨w.heap.size, 0, none⟩ q n (n - q) (by have h : Nat.min q (n - q) ≤ n - q := Nat.min_le_right q (n - q); omega) rfl hR2 (fun j hj => by
        obtain ⟨cur, h1, h2, h3⟩ := hR2
        have hjq : j < q := Nat.lt_of_lt_of_le hj (Nat.min_le_left _ _)
        rw [Addr.add_lit]
        simp only [World.cell?, h1]
        simpa using h3 j hjq)
      have HR3 := Aside0.mk hR3
      have HB3 := Aside0.mk (hB2.trans (hB3 _ (Nat.le_refl _)))
      have HM := Aside0.mk (show 1 ≤ Nat.min q (n - q) ∧ q + Nat.min q (n - q) ≤ n by
        have h : Nat.min q (n - q) ≤ n - q := Nat.min_le_right q (n - q)
        exact ⟨Nat.le_min.2 ⟨q1, by omega⟩, by omega⟩)
      have HCP := Aside0.mk hcp
      generalize Nat.min q (n - q) = m at HCP HR3 HM
      clear hcp hR3 hB3 hR2 hB2 HR HB
      have hcp1 := HCP.out
      rw [← hw2] at hcp1
      have hcp2 : (Builtin.copy_ #[24, 24] 3 #[.slice (if n = q then some ⟨w.heap.size, 0, none⟩ else some ⟨w.heap.size, q, none⟩) (n - q) (n - q), .slice (some ⟨w.heap.size, 0, none⟩) q n]).run Try.prog wr.drew = .ok (.int .i64 m) w3 := by rw [if_neg (by omega)]; exact hcp1
      clear hw2
      have hm := HM.out
      go_wp2
      go_region
      all_goals go_wp2
      go_roundw
      case rel => exact ⟨q + m, by omega, by omega, by go_num, HR3, HB3⟩
      case measure => simp [intOf]; omega
    · obtain rfl : q = n := by omega
      clear hlt
      go_wp2
      go_ret
      exact ⟨rfl, HR.out, HB.out⟩
/-- At one number, and a count of no less than 1. -/
def slices_Repeat_int_int.f (l0 : List Int) (a1 : Int) : Option (List Int) := if l0.length = 1 ∧ 1 ≤ a1 ∧ a1 ≤ 1048576 then some (List.replicate a1.toNat (rd l0 0)) else none
theorem slices_Repeat_int_int.calls (A0 : Option Addr) (c0 : Nat) (l0 : List Int) (a1 : Int) (r : List Int) (w : World) (hr0 : Kd.C (Kd.int .i64) w A0 l0.length l0) (hc0 : l0.length ≤ c0) (h : slices_Repeat_int_int.f l0 a1 = some r) :
    Calls Try.prog 52 #[.slice A0 l0.length c0, .int .i64 a1] w fun e w' => ∃ v0_ : Value, e = .returned (v0_) ∧ Kd.R (Kd.int .i64) 3 w' w.heap.size (fun _ => True) v0_ r ∧ Below w.heap.size w w' := by
  unfold slices_Repeat_int_int.f at h
  split at h
  · rename_i c
    obtain rfl := Option.some.inj h
    obtain ⟨n, rfl⟩ := Int.eq_ofNat_of_zero_le (show 0 ≤ a1 by omega)
    match l0, c.1 with
    | [x], _ =>
      refine (slices_Repeat_int_int.one A0 c0 x n (by omega) w hr0).mono ?_
      rintro e w' ⟨rfl, ⟨cur, h1, h2, h3⟩, hb⟩
      refine ⟨_, rfl, ?_, hb⟩
      have henc : encs (Value.int .i64) (List.replicate n (rd [x] 0)) = List.replicate n (Value.int .i64 x) := by simp [encs, rd]
      rw [Int.toNat_natCast]
      refine Kd.R_of_own (enc := Value.int .i64) ?_ (fun _ _ => trivial)
      rw [henc]
      refine ⟨by simp, .inr ⟨w.heap.size, n, cur, by simp, Nat.le_refl _, h1, by simp, by simp [maxLen]; omega, by omega, ?_⟩⟩
      refine List.ext_getElem? (fun j => ?_)
      by_cases hj : j < n
      · rw [List.getElem?_take, if_pos (by simp; omega)]
        have z := h3 j hj
        rw [← Array.getElem?_toList] at z
        rw [z]
        simp [hj, rd]
      · rw [List.getElem?_eq_none (by simp; omega), List.getElem?_eq_none (by simp; omega)]
  · cases h

/-! ### impl_firstBoxes: function 28 (a contract of this repo) -/
def impl_firstBoxes.iter {σ : Type} (f : Nat → σ → σ) : Nat → Nat → σ → σ
  | 0, _, c => c
  | r + 1, i, c => impl_firstBoxes.iter f r (i + 1) (f i c)
theorem impl_firstBoxes.iter_step {σ : Type} (f : Nat → σ → σ) (n i : Nat) (h : i < n) (c : σ) : impl_firstBoxes.iter f (n - i) i c = impl_firstBoxes.iter f (n - (i + 1)) (i + 1) (f i c) := by
  rw [show n - i = (n - (i + 1)) + 1 by omega]
  rfl
theorem impl_firstBoxes.iter_end {σ : Type} (f : Nat → σ → σ) (n : Nat) (c : σ) : impl_firstBoxes.iter f (n - n) n c = c := by rw [Nat.sub_self]; rfl
/-- People as they may be. -/
def impl_firstBoxes.Small (l : List Int) : Prop := (1 ≤ l.length ∧ l.length ≤ 60) ∧ ∀ v ∈ l, 0 ≤ v ∧ v ≤ 1000
instance (l : List Int) : Decidable (impl_firstBoxes.Small l) := by unfold impl_firstBoxes.Small; infer_instance
theorem impl_firstBoxes.Small.at {l : List Int} (h : impl_firstBoxes.Small l) (j : Nat) : 0 ≤ rd l (j : Int) ∧ rd l (j : Int) ≤ 1000 := by
  by_cases hj : j < l.length
  · have e : rd l (j : Int) = l[j] := by simp [rd, hj]
    rw [e]
    exact h.2 _ (List.getElem_mem hj)
  · have e : rd l (j : Int) = 0 := by simp [rd]; rw [List.getElem?_eq_none (by omega)]; rfl
    omega
/-- The way of one house between two boxes. -/
def impl_firstBoxes.far (n : Nat) (i k : Int) (h : Nat) : Int := if i < 0 then k - h else if (n : Int) ≤ k then h - i else min (h - i) (k - h)
theorem impl_firstBoxes.far_small {n : Nat} {i k : Int} {h : Nat} (hi : -1 ≤ i) (hk : k ≤ n) (hn : n ≤ 60) (h1 : max 0 i ≤ h) (h2 : (h : Int) < min k n) : 0 ≤ impl_firstBoxes.far n i k h ∧ impl_firstBoxes.far n i k h ≤ 60 := by
  unfold impl_firstBoxes.far
  split
  · omega
  · split <;> omega
/-- The walks of those between two boxes. -/
def impl_firstBoxes.bw (l : List Int) (i k : Int) : Int := impl_firstBoxes.iter (fun h c => c + rd l (h : Int) * impl_firstBoxes.far l.length i k h) ((min k (l.length : Int)).toNat - (max 0 i).toNat) (max 0 i).toNat 0
theorem impl_firstBoxes.prod_small {a b : Int} (ha : 0 ≤ a ∧ a ≤ 1000) (hb : 0 ≤ b ∧ b ≤ 60) : 0 ≤ a * b ∧ a * b ≤ 60000 := by
  refine ⟨Int.mul_nonneg ha.1 hb.1, ?_⟩
  have h1 : a * b ≤ 1000 * b := Int.mul_le_mul_of_nonneg_right ha.2 hb.1
  omega
theorem impl_firstBoxes.bw_run {l : List Int} (hS : impl_firstBoxes.Small l) {i k : Int} (hi : -1 ≤ i) (hk : k ≤ l.length) : ∀ (r h : Nat) (c : Int), max 0 i ≤ h → (h : Int) + r ≤ max (max 0 i) (min k l.length) → 0 ≤ c → c ≤ 60000 * h → 0 ≤ impl_firstBoxes.iter (fun h c => c + rd l (h : Int) * impl_firstBoxes.far l.length i k h) r h c ∧ impl_firstBoxes.iter (fun h c => c + rd l (h : Int) * impl_firstBoxes.far l.length i k h) r h c ≤ 60000 * (h + r : Nat)
  | 0, h, c, _, _, h0, h1 => ⟨h0, h1⟩
  | r + 1, h, c, hlo, hhi, h0, h1 => by
    have f := impl_firstBoxes.far_small (n := l.length) (h := h) hi hk hS.1.2 hlo (by omega)
    have p := impl_firstBoxes.prod_small (hS.at h) f
    have z := impl_firstBoxes.bw_run hS hi hk r (h + 1) (c + rd l (h : Int) * impl_firstBoxes.far l.length i k h) (by omega) (by omega) (by omega) (by omega)
    rw [show h + 1 + r = h + (r + 1) by omega] at z
    exact z
theorem impl_firstBoxes.bw_small {l : List Int} (hS : impl_firstBoxes.Small l) {i k : Int} (hi : -1 ≤ i) (hk : k ≤ l.length) : 0 ≤ impl_firstBoxes.bw l i k ∧ impl_firstBoxes.bw l i k ≤ 3600000 := by
  unfold impl_firstBoxes.bw
  by_cases c : (max 0 i).toNat ≤ (min k (l.length : Int)).toNat
  · have z := impl_firstBoxes.bw_run hS hi hk ((min k (l.length : Int)).toNat - (max 0 i).toNat) (max 0 i).toNat 0 (by omega) (by omega) (by omega) (by omega)
    have := hS.1.2
    omega
  · rw [show (min k (l.length : Int)).toNat - (max 0 i).toNat = 0 by omega]
    show 0 ≤ (0 : Int) ∧ (0 : Int) ≤ 3600000
    omega
theorem impl_firstBoxes.plain {w : World} {ad : Addr} {v : Value} (h : w.cell? ad = some v) : ∃ b o, ad = ⟨b, o, none⟩ := by
  obtain ⟨b, o, sp⟩ := ad
  cases sp with
  | none => exact ⟨b, o, rfl⟩
  | some z => simp only [World.cell?] at h; split at h <;> simp at h
set_option maxHeartbeats 8000000 in
set_option maxRecDepth 100000 in
theorem impl_firstBoxes.between (l : List Int) (hS : impl_firstBoxes.Small l) (i : Int) (k : Nat) (hi : -1 ≤ i) (hk : k ≤ l.length) (w : World) (pn pl : Nat) (pb po cp : Nat) (hn : w.cell? ⟨pn, 0, none⟩ = some (.int .i64 l.length)) (hl : w.cell? ⟨pl, 0, none⟩ = some (.slice (some ⟨pb, po, none⟩) l.length cp)) (hc : ∀ j : Nat, j < l.length → w.cell? ⟨pb, po + j, none⟩ = some (.int .i64 (rd l (j : Int)))) :
    Calls Try.prog 51 #[.int .i64 i, .int .i64 k, .pointer (some ⟨pn, 0, none⟩), .pointer (some ⟨pl, 0, none⟩)] w fun e w' => e = .returned (.int .i64 (impl_firstBoxes.bw l i k)) ∧ w' = w := by
  obtain ⟨B, hB⟩ : ∃ B, B = impl_firstBoxes.bw l i k := ⟨_, rfl⟩
  obtain ⟨lo, hlo⟩ : ∃ lo : Nat, lo = (max 0 i).toNat := ⟨_, rfl⟩
  have HB := Aside0.mk (show impl_firstBoxes.iter (fun h c => c + rd l (h : Int) * impl_firstBoxes.far l.length i k h) (k - lo) lo 0 = B by
    rw [hB, hlo]
    unfold impl_firstBoxes.bw
    rw [show (min (k : Int) (l.length : Int)).toNat = k by omega])
  rw [← hB]
  have HS := Aside0.mk hS
  have n60 := hS.1.2
  have HC := Aside0.mk hc
  have e0 : (if (0 : Int) < i then i else 0) = (lo : Int) := by split <;> omega
  have e1 : (if (l.length : Int) < (k : Int) then (l.length : Int) else (k : Int)) = (k : Int) := by rw [if_neg (by omega)]
  have hlo2 : i ≤ (lo : Int) ∧ (lo : Int) ≤ 60 ∨ k < lo := by omega
  have HLO := Aside0.mk (show max 0 i = (lo : Int) by omega)
  clear hB hlo hS hc hlo2
  go_enter Try.func51, Try.ntmps51
  go_wp2
  clear e0
  go_loop [7, 8] (fun sv hv => ∃ (h : Nat) (c : Int), hv = .int .i64 h ∧ sv = .int .i64 c ∧ lo ≤ h ∧ (h ≤ k ∨ h = lo) ∧ 0 ≤ c ∧ c ≤ 60000 * h ∧ Aside0 (impl_firstBoxes.iter (fun h c => c + rd l (h : Int) * impl_firstBoxes.far l.length i k h) (k - h) h c = B)) (fun _ hv => k - (intOf hv).toNat)
  case atStart => exact ⟨lo, 0, rfl, rfl, Nat.le_refl _, Or.inr rfl, by omega, by omega, HB⟩
  case round =>
    clear HB
    obtain ⟨h, c, rfl, rfl, hlo, hhk, hc0, hc1, HI⟩ := hrel
    by_cases hlt : h < k
    · have hb : decide ((h : Int) < (k : Int)) = true := decide_eq_true (by omega)
      have hv := HC.out h (by omega)
      have hvs := impl_firstBoxes.Small.at HS.out h
      have hf := impl_firstBoxes.far_small (n := l.length) (i := i) (k := (k : Int)) (h := h) hi (by omega) n60 (by have := HLO.out; omega) (by omega)
      have hp := impl_firstBoxes.prod_small hvs hf
      have HI2 := Aside0.mk (show impl_firstBoxes.iter (fun h c => c + rd l (h : Int) * impl_firstBoxes.far l.length i k h) (k - (h + 1)) (h + 1) (c + rd l (h : Int) * impl_firstBoxes.far l.length i k h) = B by rw [← HI.out, impl_firstBoxes.iter_step _ k h hlt])
      obtain ⟨v, hvv⟩ : ∃ v, v = rd l (h : Int) := ⟨_, rfl⟩
      obtain ⟨f, hff⟩ : ∃ f, f = impl_firstBoxes.far l.length i (k : Int) h := ⟨_, rfl⟩
      rw [← hvv] at hv hvs hp HI2
      rw [← hff] at hf hp HI2
      obtain ⟨m, hm⟩ : ∃ m, m = v * f := ⟨_, rfl⟩
      rw [← hm] at hp HI2
      have em : IntKind.i64.wrap (v * f) = m := by rw [i64_w, ← hm]; unfold wrap64; omega
      have ea : IntKind.i64.wrap (c + m) = c + m := by rw [i64_w]; unfold wrap64; omega
      have HFF := Aside0.mk hff
      have HP := Aside0.mk hp
      clear hvs hm hvv HI
      by_cases c1 : i < 0
      · have b1 : decide (i < 0) = true := decide_eq_true c1
        have ef : IntKind.i64.wrap ((k : Int) - (h : Int)) = f := by
          rw [i64_w, hff]; unfold impl_firstBoxes.far; rw [if_pos c1]; unfold wrap64; omega
        clear hff hf c1 hp
        go_wp2
        go_round
        case rel => exact ⟨h + 1, c + m, by go_num, rfl, by omega, by omega, by have := HP.out; omega, by have := HP.out; omega, HI2⟩
        case measure => simp [intOf]; omega
      · have b1 : decide (i < 0) = false := decide_eq_false c1
        have hli := HLO.out
        have e3 : IntKind.i64.wrap ((h : Int) - i) = (h : Int) - i := by rw [i64_w]; unfold wrap64; omega
        clear hli
        by_cases c2 : (l.length : Int) ≤ (k : Int)
        · have b2 : decide ((l.length : Int) ≤ (k : Int)) = true := decide_eq_true c2
          have ef : (h : Int) - i = f := by
            rw [hff]; unfold impl_firstBoxes.far; rw [if_neg c1, if_pos c2]
          replace e3 := e3.trans ef
          have c2n : l.length ≤ k := by omega
          clear hff hf c1 c2 hp ef
          go_wp2
          go_round
          case rel => exact ⟨h + 1, c + m, by go_num, rfl, by omega, by omega, by have := HP.out; omega, by have := HP.out; omega, HI2⟩
          case measure => simp [intOf]; omega
        · have b2 : decide ((l.length : Int) ≤ (k : Int)) = false := decide_eq_false c2
          have e4 : IntKind.i64.wrap ((k : Int) - (h : Int)) = (k : Int) - (h : Int) := by rw [i64_w]; unfold wrap64; omega
          have ef : (if (k : Int) - (h : Int) < (h : Int) - i then (k : Int) - (h : Int) else (h : Int) - i) = f := by
            rw [hff]; unfold impl_firstBoxes.far; rw [if_neg c1, if_neg c2]; split <;> omega
          have c2n : ¬ l.length ≤ k := by omega
          clear hff hf c1 c2 hp
          go_wp2
          go_round
          case rel => exact ⟨h + 1, c + m, by go_num, rfl, by omega, by omega, by have := HP.out; omega, by have := HP.out; omega, HI2⟩
          case measure => simp [intOf]; omega
    · have hb : decide ((h : Int) < (k : Int)) = false := decide_eq_false (by omega)
      have HE := Aside0.mk (show c = B by rw [← HI.out, show k - h = 0 by omega]; rfl)

      go_wp2

      go_ret
      exact ⟨by rw [HE.out]; rfl, rfl⟩
/-- The least sum behind a box, with so many more. -/
def impl_firstBoxes.T (l : List Int) : Nat → Nat → Int
  | 0, b => impl_firstBoxes.bw l b (l.length : Int)
  | m + 1, b => impl_firstBoxes.iter (fun x c => min c (impl_firstBoxes.bw l b (x : Int) + impl_firstBoxes.T l m x)) (l.length - (b + 1)) (b + 1) 1099511627776
/-- The next box. -/
def impl_firstBoxes.pick (l : List Int) (last : Int) (m : Nat) : Int × Int := impl_firstBoxes.iter (fun x (p : Int × Int) => if impl_firstBoxes.bw l last (x : Int) + impl_firstBoxes.T l m x < p.2 then ((x : Int), impl_firstBoxes.bw l last (x : Int) + impl_firstBoxes.T l m x) else p) (l.length - (last + 1).toNat) (last + 1).toNat (-1, 1099511627776)
/-- The boxes. -/
def impl_firstBoxes.boxes (l : List Int) : Nat → Int → List Int
  | 0, _ => []
  | m + 1, last => (impl_firstBoxes.pick l last m).1 :: impl_firstBoxes.boxes l m (impl_firstBoxes.pick l last m).1
theorem impl_firstBoxes.min_run (f : Nat → Int) (hf : ∀ x, 0 ≤ f x) : ∀ (r i : Nat) (c : Int), 0 ≤ c → c ≤ 1099511627776 → 0 ≤ impl_firstBoxes.iter (fun x c => min c (f x)) r i c ∧ impl_firstBoxes.iter (fun x c => min c (f x)) r i c ≤ 1099511627776
  | 0, _, _, h0, h1 => ⟨h0, h1⟩
  | r + 1, i, c, h0, h1 => impl_firstBoxes.min_run f hf r (i + 1) (min c (f i)) (by have := hf i; omega) (by omega)
theorem impl_firstBoxes.bw_nonneg {l : List Int} (hS : impl_firstBoxes.Small l) (b x : Nat) (hx : x ≤ l.length) : 0 ≤ impl_firstBoxes.bw l b x := (impl_firstBoxes.bw_small hS (by omega) (by omega)).1
theorem impl_firstBoxes.T_small {l : List Int} (hS : impl_firstBoxes.Small l) : ∀ (m b : Nat), 0 ≤ impl_firstBoxes.T l m b ∧ impl_firstBoxes.T l m b ≤ 1099511627776
  | 0, b => by
    have z := impl_firstBoxes.bw_small hS (i := (b : Int)) (k := (l.length : Int)) (by omega) (by omega)
    unfold impl_firstBoxes.T
    omega
  | m + 1, b => by
    have key : ∀ (r i : Nat) (c : Int), i + r ≤ l.length → 0 ≤ c → c ≤ 1099511627776 → 0 ≤ impl_firstBoxes.iter (fun x c => min c (impl_firstBoxes.bw l b (x : Int) + impl_firstBoxes.T l m x)) r i c ∧ impl_firstBoxes.iter (fun x c => min c (impl_firstBoxes.bw l b (x : Int) + impl_firstBoxes.T l m x)) r i c ≤ 1099511627776 := by
      intro r
      induction r with
      | zero => exact fun i c _ h0 h1 => ⟨h0, h1⟩
      | succ r ih =>
        intro i c hir h0 h1
        have a := impl_firstBoxes.bw_nonneg hS b i (by omega)
        have b' := impl_firstBoxes.T_small hS m i
        exact ih (i + 1) (min c (impl_firstBoxes.bw l b (i : Int) + impl_firstBoxes.T l m i)) (by omega) (by omega) (by omega)
    unfold impl_firstBoxes.T
    by_cases c : b + 1 ≤ l.length
    · exact key _ _ _ (by omega) (by omega) (by omega)
    · rw [show l.length - (b + 1) = 0 by omega]
      show 0 ≤ (1099511627776 : Int) ∧ (1099511627776 : Int) ≤ 1099511627776
      omega
/-- A number of rows, each of its own, of so many cells: the first ones are there. -/
def impl_firstBoxes.Rows (w : World) (g : Nat) (bl : Nat → Nat) (many n j : Nat) (d : Nat → Nat → Int) : Prop :=
  (∃ cur : Array Value, w.heap[g]? = some (.cells cur 24 (0, 0)) ∧ cur.size = many ∧ ∀ x, x < j → cur[x]? = some (.slice (some ⟨bl x, 0, none⟩) n n)) ∧
  (∀ x, x < j → ∃ c : Array Value, w.heap[bl x]? = some (.cells c 3 (0, 0)) ∧ c.size = n ∧ ∀ y, y < n → c[y]? = some (.int .i64 (d x y))) ∧
  (∀ x x', x < j → x' < j → bl x = bl x' → x = x') ∧ ∀ x, x < j → g < bl x
theorem impl_firstBoxes.Rows.row {w : World} {g : Nat} {bl : Nat → Nat} {many n j : Nat} {d : Nat → Nat → Int} (h : impl_firstBoxes.Rows w g bl many n j d) (x : Nat) (hx : x < j) : w.cell? ⟨g, x, none⟩ = some (.slice (some ⟨bl x, 0, none⟩) n n) := by
  obtain ⟨⟨cur, h1, h2, h3⟩, -, -⟩ := h
  simp only [World.cell?, h1]
  simpa using h3 x hx
theorem impl_firstBoxes.Rows.cell {w : World} {g : Nat} {bl : Nat → Nat} {many n j : Nat} {d : Nat → Nat → Int} (h : impl_firstBoxes.Rows w g bl many n j d) (x y : Nat) (hx : x < j) (hy : y < n) : w.cell? ⟨bl x, y, none⟩ = some (.int .i64 (d x y)) := by
  obtain ⟨c, h1, h2, h3⟩ := h.2.1 x hx
  simp only [World.cell?, h1]
  simpa using h3 y hy
theorem impl_firstBoxes.Rows.free {w : World} {g : Nat} {bl : Nat → Nat} {many n j : Nat} {d : Nat → Nat → Int} (h : impl_firstBoxes.Rows w g bl many n j d) (x y : Nat) (hx : x < j) : w.frozen? ⟨bl x, y, none⟩ = false := by
  obtain ⟨c, h1, h2, h3⟩ := h.2.1 x hx
  simp [World.frozen?, h1]
theorem impl_firstBoxes.Rows.set {w : World} {g : Nat} {bl : Nat → Nat} {many n j : Nat} {d : Nat → Nat → Int} (h : impl_firstBoxes.Rows w g bl many n j d) (x y : Nat) (hx : x < j) (hy : y < n) (v : Int) : impl_firstBoxes.Rows (w.setCell ⟨bl x, y, none⟩ (.int .i64 v)) g bl many n j (fun a b => if a = x ∧ b = y then v else d a b) := by
  obtain ⟨c, h1, h2, h3⟩ := h.2.1 x hx
  obtain ⟨⟨cur, g1, g2, g3⟩, gr, inj, gt⟩ := h
  have hne : g ≠ bl x := by have := gt x hx; omega
  have hold : ∀ k, k ≠ bl x → (w.setCell ⟨bl x, y, none⟩ (.int .i64 v)).heap[k]? = w.heap[k]? := fun k hk => Below.heap_setCell w ⟨bl x, y, none⟩ _ k hk
  refine ⟨⟨cur, by rw [hold g hne]; exact g1, g2, g3⟩, fun a ha => ?_, inj, gt⟩
  by_cases e : a = x
  · subst e
    refine ⟨c.setIfInBounds y (.int .i64 v), by simp [World.setCell, Array.getElem?_modify, h1], by simpa using h2, fun b hb => ?_⟩
    rw [Array.getElem?_setIfInBounds]
    by_cases f : y = b
    · subst f; simp [h2, hb]
    · rw [if_neg f, h3 b hb]
      simp [Ne.symm f]
  · have hb : bl a ≠ bl x := fun z => e (inj a x ha hx z)
    obtain ⟨c', h1', h2', h3'⟩ := gr a ha
    refine ⟨c', by rw [hold _ hb]; exact h1', h2', fun b hb' => ?_⟩
    rw [h3' b hb']
    simp [e]
theorem impl_firstBoxes.Rows.below {w w' : World} {g : Nat} {bl : Nat → Nat} {many n j : Nat} {d : Nat → Nat → Int} (h : impl_firstBoxes.Rows w g bl many n j d) (hb : Below w.heap.size w w') : impl_firstBoxes.Rows w' g bl many n j d := by
  obtain ⟨⟨cur, g1, g2, g3⟩, gr, inj, gt⟩ := h
  refine ⟨⟨cur, by rw [hb.block g (Array.getElem?_eq_some_iff.1 g1).1]; exact g1, g2, g3⟩, fun a ha => ?_, inj, gt⟩
  obtain ⟨c, h1, h2, h3⟩ := gr a ha
  exact ⟨c, by rw [hb.block _ (Array.getElem?_eq_some_iff.1 h1).1]; exact h1, h2, h3⟩
theorem impl_firstBoxes.Rows.ext {w : World} {g : Nat} {bl : Nat → Nat} {many n j : Nat} {d d' : Nat → Nat → Int} (h : impl_firstBoxes.Rows w g bl many n j d) (e : ∀ x y, x < j → y < n → d x y = d' x y) : impl_firstBoxes.Rows w g bl many n j d' := by
  obtain ⟨h0, gr, h2⟩ := h
  refine ⟨h0, fun a ha => ?_, h2⟩
  obtain ⟨c, h1, h2, h3⟩ := gr a ha
  exact ⟨c, h1, h2, fun y hy => by rw [h3 y hy, e a y ha hy]⟩
theorem impl_firstBoxes.Rows.put {w : World} {g : Nat} {bl : Nat → Nat} {many n j : Nat} {d : Nat → Nat → Int} (h : impl_firstBoxes.Rows w g bl many n j d) (hj : j < many) (b : Nat) (hb : g < b) (hnew : ∀ x, x < j → bl x ≠ b) (c : Array Value) (v : Int) (h1 : w.heap[b]? = some (.cells c 3 (0, 0))) (h2 : c.size = n) (h3 : ∀ y, y < n → c[y]? = some (.int .i64 v)) :
    impl_firstBoxes.Rows (w.setCell ⟨g, j, none⟩ (.slice (some ⟨b, 0, none⟩) n n)) g (fun x => if x = j then b else bl x) many n (j + 1) (fun x y => if x = j then v else d x y) := by
  obtain ⟨⟨cur, g1, g2, g3⟩, gr, inj, gt⟩ := h
  have hold : ∀ k, k ≠ g → (w.setCell ⟨g, j, none⟩ (.slice (some ⟨b, 0, none⟩) n n)).heap[k]? = w.heap[k]? := fun k hk => Below.heap_setCell w ⟨g, j, none⟩ _ k hk
  refine ⟨⟨cur.setIfInBounds j (.slice (some ⟨b, 0, none⟩) n n), by simp [World.setCell, Array.getElem?_modify, g1], by simpa using g2, fun x hx => ?_⟩, fun x hx => ?_, fun x x' hx hx' e => ?_, fun x hx => ?_⟩
  · rw [Array.getElem?_setIfInBounds]
    by_cases f : j = x
    · subst f; simp [g2, hj]
    · rw [if_neg f, g3 x (by omega)]; simp [Ne.symm f]
  · by_cases f : x = j
    · subst f
      refine ⟨c, ?_, h2, fun y hy => by simpa using h3 y hy⟩
      rw [hold _ (by simp; omega)]
      simpa using h1
    · obtain ⟨c', a1, a2, a3⟩ := gr x (by omega)
      have := gt x (by omega)
      refine ⟨c', ?_, a2, fun y hy => by simpa [f] using a3 y hy⟩
      rw [hold _ (by simp [f]; omega)]
      simpa [f] using a1
  · by_cases f : x = j <;> by_cases f' : x' = j
    · omega
    · simp only [f, f', if_true, if_false] at e
      exact absurd e.symm (hnew x' (by omega))
    · simp only [f, f', if_true, if_false] at e
      exact absurd e (hnew x (by omega))
    · simp only [f, f', if_false] at e
      exact inj x x' (by omega) (by omega) e
  · show g < if x = j then b else bl x
    split
    · exact hb
    · exact gt x (by omega)
set_option maxHeartbeats 16000000 in
set_option maxRecDepth 100000 in
theorem impl_firstBoxes.walk (l : List Int) (hS : impl_firstBoxes.Small l) (many : Nat) (hm : 1 ≤ many ∧ many ≤ 5) (pb po c0 : Nat) (w : World) (hcells : ∀ j : Nat, j < l.length → w.cell? ⟨pb, po + j, none⟩ = some (.int .i64 (rd l (j : Int)))) :
    Calls Try.prog 28 #[.slice (some ⟨pb, po, none⟩) l.length c0, .int .i64 many] w fun e w' => ∃ v0_ : Value, e = .returned (v0_) ∧ Kd.R (Kd.int .i64) 3 w' w.heap.size (fun _ => True) v0_ (impl_firstBoxes.boxes l many (-1)) ∧ Below w.heap.size w w' := by
  have HS := Aside0.mk hS
  obtain ⟨n1, n60⟩ := hS.1
  have HCl := Aside0.mk hcells
  have HPb := Aside0.mk (show pb < w.heap.size from World.block_lt_of_cell? _ _ (hcells 0 (by omega)))
  obtain ⟨i0, hi, hz0, hz1, hz2⟩ := info_parts (show (Try.prog.info? 24).map (fun i => (i.zero, i.size, i.bytes)) = some (some (.slice none 0 0), 1, 24) from by kernel_rfl)
  have hmk := fun W : World => run_makeSlice (P := Try.prog) (w := W) 53 24 i0 (.slice none 0 0) Try.underlying53 hi hz0 .i64 .i64 (many : Int) (many : Int) (by omega) (Int.le_refl _) (by rw [hz1]; omega) (by rw [hz2]; omega) (by omega)
  simp only [Int.toNat_natCast, hz1, Nat.mul_one] at hmk
  clear hcells hi hz0 hz1 hz2 hS
  obtain ⟨w2, hw2⟩ : ∃ w2 : World, w2 = (w.alloc (.cells #[.slice (some ⟨pb, po, none⟩) l.length c0] 24)).alloc (.cells #[.int .i64 l.length] 3) := ⟨_, rfl⟩
  have HB2 := Aside0.mk (show Below w.heap.size w w2 by rw [hw2]; exact below_alloc (below_alloc (Below.refl _ _) _) _)
  have hPL : w2.heap[w.heap.size]? = some (.cells #[.slice (some ⟨pb, po, none⟩) l.length c0] 24 (0, 0)) := by
    rw [hw2, (below_alloc (Below.refl (w.alloc (.cells #[.slice (some ⟨pb, po, none⟩) l.length c0] 24)).heap.size _) _).block _ (by simp)]
    exact heap_alloc_new _ _
  have hPN : w2.heap[w.heap.size + 1]? = some (.cells #[.int .i64 l.length] 3 (0, 0)) := by
    rw [hw2, show w.heap.size + 1 = (w.alloc (.cells #[.slice (some ⟨pb, po, none⟩) l.length c0] 24)).heap.size by simp]
    exact heap_alloc_new _ _
  have hsz : w2.heap.size = w.heap.size + 1 + 1 := by rw [hw2]; simp
  obtain ⟨g, hg⟩ : ∃ g, g = w.heap.size + 1 + 1 := ⟨_, rfl⟩
  have HGW := Aside0.mk (show w.heap.size ≤ g ∧ g = w2.heap.size by omega)
  obtain ⟨w3, hw3⟩ : ∃ w3 : World, w3 = w2.alloc (.cells (madeCells #[Value.slice none 0 0] many) 24) := ⟨_, rfl⟩
  have HR3 := Aside0.mk (show impl_firstBoxes.Rows w3 g (fun _ => 0) many l.length 0 (impl_firstBoxes.T l) by
    rw [hw3, hg, ← hsz]
    exact ⟨⟨_, heap_alloc_new _ _, by rw [size_madeCells], fun x hx => by omega⟩, fun x hx => by omega, fun x x' hx => by omega, fun x hx => by omega⟩)
  have HB3 := Aside0.mk (show Below w2.heap.size w2 w3 by rw [hw3]; exact below_alloc (Below.refl _ _) _)
  have HK := Aside0.mk (show ∀ W : World, Below w2.heap.size w2 W → W.cell? ⟨w.heap.size + 1, 0, none⟩ = some (.int .i64 l.length) ∧ W.cell? ⟨w.heap.size, 0, none⟩ = some (.slice (some ⟨pb, po, none⟩) l.length c0) ∧ ∀ j : Nat, j < l.length → W.cell? ⟨pb, po + j, none⟩ = some (.int .i64 (rd l (j : Int))) from fun W hW => ⟨(blk_cell ((hW.block _ (by omega)).trans hPN) 0).trans rfl, (blk_cell ((hW.block _ (by omega)).trans hPL) 0).trans rfl, fun j hj => pw_cell_below hW (pw_cell_below HB2.out (HCl.out j hj))⟩)
  have HBt := Aside0.mk (show ∀ W : World, Below w2.heap.size w2 W → ∀ (i : Int) (k : Nat), -1 ≤ i → k ≤ l.length → Calls Try.prog 51 #[.int .i64 i, .int .i64 k, .pointer (some ⟨w.heap.size + 1, 0, none⟩), .pointer (some ⟨w.heap.size, 0, none⟩)] W (fun e w' => e = .returned (.int .i64 (impl_firstBoxes.bw l i k)) ∧ w' = W) from fun W hW i k hi hk => impl_firstBoxes.between l HS.out i k hi hk W _ _ pb po c0 (HK.out W hW).1 (HK.out W hW).2.1 (HK.out W hW).2.2)
  clear hPL hPN hsz HCl HPb
  obtain ⟨Z, hZ⟩ : ∃ Z, Z = impl_firstBoxes.boxes l many (-1) := ⟨_, rfl⟩
  have HZ := Aside0.mk (show ([] : List Int) ++ impl_firstBoxes.boxes l many (-1) = Z by rw [hZ]; rfl)
  rw [← hZ]
  clear hZ
  go_enter Try.func28, Try.ntmps28
  go_wp2
  rw [← hw2, ← hw3, ← hg]
  clear hmk hw2 hw3 hg
  go_loopw [25] (fun mv wr => ∃ (m : Nat) (bl : Nat → Nat), mv = .int .i64 m ∧ m ≤ many ∧ Aside0 (impl_firstBoxes.Rows wr g bl many l.length m (impl_firstBoxes.T l)) ∧ Aside0 (Below w2.heap.size w2 wr)) (fun mv _ => many - (intOf mv).toNat)
  case atStart => exact ⟨0, _, rfl, by omega, HR3, HB3⟩
  case round =>
    clear HR3 HB3
    obtain ⟨m, bl, rfl, hmm, HR, HB⟩ := hrel
    by_cases hlt : m < many
    · have HBa := Aside0.mk (below_then HB.out HB.out.size (below_alloc (Below.refl wr.heap.size wr) (.cells #[.int .i64 1099511627776] 3)))
      have hpn := (HK.out _ HBa.out).1
      have hcl : (wr.alloc (.cells #[.int .i64 1099511627776] 3)).cell? ⟨wr.heap.size, 0, none⟩ = some (.int .i64 1099511627776) := by
        rw [World.cell?_alloc_at _ _ _ _ rfl]; rfl
      have hrd : ReadsInt (wr.alloc (.cells #[.int .i64 1099511627776] 3)) .i64 (some ⟨wr.heap.size, 0, none⟩) 1 [1099511627776] := by
        refine ⟨rfl, by omega, fun _ => ⟨_, rfl, fun i hi => ?_⟩⟩
        obtain rfl : i = 0 := by simp at hi; omega
        exact hcl
      have HL := Aside0.mk (Kd.C_of_reads (d := (0 : Int)) (h1 := fun _ => rfl) hrd)
      clear hcl hrd
      have HA := Aside0.mk (below_alloc (Below.refl wr.heap.size wr) (.cells #[.int .i64 1099511627776] 3))
      have HRp := Aside0.mk (show Calls Try.prog 52 #[.slice (some ⟨wr.heap.size, 0, none⟩) 1 1, .int .i64 l.length] (wr.alloc (.cells #[.int .i64 1099511627776] 3)) (fun e w2 => ∃ b c, e = .returned (.slice (some ⟨b, 0, none⟩) l.length l.length) ∧ wr.heap.size < b ∧ w2.heap[b]? = some (.cells c 3 (0, 0)) ∧ c.size = l.length ∧ (∀ y, y < l.length → c[y]? = some (.int .i64 1099511627776)) ∧ Below wr.heap.size wr w2) from (slices_Repeat_int_int.one _ 1 1099511627776 l.length (by omega) _ HL.out).mono (by
        rintro e w2 ⟨rfl, ⟨c, h1, h2, h3⟩, hb2⟩
        exact ⟨_, c, rfl, by simp, h1, h2, h3, below_then HA.out HA.out.size hb2⟩))
      have HLt := Aside0.mk hlt
      go_wp2_with (go_at_call 52; refine HRp.out.mono ?_; rintro e w4 ⟨b, c, rfl, hb, h1, h2, h3, hB4⟩; obtain ⟨cur, g1, g2, g3⟩ := (HR.out.below hB4).1; have hcell : w4.cell? ⟨g, m, none⟩ = some (cur[m]'(by omega)) := (by simp only [World.cell?, g1]; simp [g2, hlt]); have hfree : w4.frozen? ⟨g, m, none⟩ = false := (by simp [World.frozen?, g1]); have HB5 := Aside0.mk ((below_then HB.out HB.out.size hB4).setCell (p := ⟨g, m, none⟩) (by have := HGW.out.2; simp; omega) (.slice (some ⟨b, 0, none⟩) l.length l.length)); have hpn5 := (HK.out _ HB5.out).1)
      have HN := Aside0.mk (show ∀ x, x < m → bl x ≠ b from fun x hx e => by
        obtain ⟨c', a1, -, -⟩ := HR.out.2.1 x hx
        have := (Array.getElem?_eq_some_iff.1 a1).1
        omega)
      have HGb := Aside0.mk (show g < b by
        obtain ⟨⟨cur', q1, -⟩, -⟩ := HR.out
        have := (Array.getElem?_eq_some_iff.1 q1).1
        omega)
      have HR5 := Aside0.mk ((HR.out.below hB4).put hlt b HGb.out HN.out c 1099511627776 h1 h2 h3)
      obtain ⟨bl', hbl⟩ : ∃ bl', bl' = fun x => if x = m then b else bl x := ⟨_, rfl⟩
      rw [← hbl] at HR5
      have HD0 := Aside0.mk (show ∀ x y, x < m + 1 → y < l.length → (if x = m then (1099511627776 : Int) else impl_firstBoxes.T l x y) = if x < m ∨ y < 0 then impl_firstBoxes.T l x y else 1099511627776 from fun x y hx hy => by
        by_cases e : x = m
        · rw [if_pos e, if_neg (by omega)]
        · rw [if_neg e, if_pos (by omega)])
      have HR6 := Aside0.mk (HR5.out.ext HD0.out)
      clear hbl HR5 HD0 HN HGb hB4 h1 h2 h3 g1 g2 g3 hcell hfree hb hpn hpn5 HR HB HBa HL HA HRp hlt
      go_loopw [35] (fun bv wr => ∃ b : Nat, bv = .int .i64 b ∧ b ≤ l.length ∧ Aside0 (impl_firstBoxes.Rows wr g bl' many l.length (m + 1) (fun x y => if x < m ∨ y < b then impl_firstBoxes.T l x y else 1099511627776)) ∧ Aside0 (Below w2.heap.size w2 wr)) (fun bv _ => l.length - (intOf bv).toNat)
      case atStart => exact ⟨0, rfl, by omega, HR6, HB5⟩
      case round =>
        clear HR6 HB5
        obtain ⟨b, rfl, hbl, HR, HB⟩ := hrel
        by_cases hbn : b < l.length
        · have HBN := Aside0.mk hbn
          have HG5 := Aside0.mk (show ∀ q : Nat, w2.heap.size ≤ bl' m from fun _ => by have := HR.out.2.2.2 m (by omega); have := HGW.out.2; omega)
          by_cases hm0 : m = 0
          · have hmz : ((m : Int) == 0) = true := by rw [hm0]; rfl
            go_wp2
            refine wp_region_still_tail 9 (by kernel_rfl) (by kernel_rfl) ?_
            simp only [List.take_succ_cons, List.take_zero, List.drop_succ_cons, List.drop_zero]
            obtain ⟨w7, hw7⟩ : ∃ w7 : World, wr.drew = w7 := ⟨_, rfl⟩
            have hbd : Below wr.heap.size wr w7 := by rw [← hw7]; exact below_drew1 (Below.refl _ _)
            have HB7 := Aside0.mk (below_then HB.out HB.out.size hbd)
            have HR7 := Aside0.mk (HR.out.below hbd)
            have hrow := HR7.out.row 0 (by omega)
            have hcel := HR7.out.cell m b (by omega) hbn
            have hfre := HR7.out.free m b (by omega)
            have hpn := (HK.out _ HB7.out).1
            have hm00 : 0 < many := by have := HLt.out; omega
            have HC := Aside0.mk (HBt.out w7 HB7.out (b : Int) l.length (by omega) (Nat.le_refl _))
            have HR8 := Aside0.mk (HR7.out.set m b (by omega) hbn (impl_firstBoxes.bw l (b : Int) (l.length : Int)))
            have HB8 := Aside0.mk (HB7.out.setCell (p := ⟨bl' m, b, none⟩) (HG5.out 0) (.int .i64 (impl_firstBoxes.bw l (b : Int) (l.length : Int))))
            have HR9 := Aside0.mk (HR8.out.ext (d' := fun x y => if x < m ∨ y < b + 1 then impl_firstBoxes.T l x y else 1099511627776) (fun x y hx hy => by
              by_cases e : x = m ∧ y = b
              · rw [if_pos e, if_pos (by omega), e.1, e.2, hm0]; rfl
              · rw [if_neg e]
                by_cases q : x < m ∨ y < b
                · rw [if_pos q, if_pos (by omega)]
                · rw [if_neg q, if_neg (by omega)]))
            change wpStill _ _ wr.drew _ _ _
            rw [hw7]
            have HW7 := Aside0.mk hw7
            clear hw7 hbd HR8 HR7 HB7
            rw [hm0] at hcel hfre HR9 HB8
            have HM0 := Aside0.mk hm0
            clear hm0 hmz
            repeat still_step
            still_call HC.out
            repeat still_step
            refine wpStill_nil ?_
            change wpList _ _ _ _ _ wr.drew
            rw [HW7.out]
            go_wp2
            go_roundw
            case rel => exact ⟨b + 1, by go_num, by have := HBN.out; omega, ⟨by rw [HM0.out]; exact HR9.out⟩, HB8⟩
            case measure => have := HBN.out; simp [intOf]; omega
          · have hmz : ((m : Int) == 0) = false := beq_eq_false_iff_ne.2 (by omega)
            obtain ⟨m', hmm'⟩ : ∃ m', m = m' + 1 := ⟨m - 1, by omega⟩
            have HM := Aside0.mk hmm'
            have HT0 := Aside0.mk (show impl_firstBoxes.iter (fun x c => min c (impl_firstBoxes.bw l b (x : Int) + impl_firstBoxes.T l m' x)) (l.length - (b + 1)) (b + 1) 1099511627776 = impl_firstBoxes.T l m b from by rw [hmm']; rfl)
            obtain ⟨V, hV⟩ : ∃ V, V = impl_firstBoxes.T l m b := ⟨_, rfl⟩
            rw [← hV] at HT0
            have HV := Aside0.mk hV
            obtain ⟨d, hd⟩ : ∃ d : Nat → Nat → Int, d = fun x y => if x < m ∨ y < b then impl_firstBoxes.T l x y else 1099511627776 := ⟨_, rfl⟩
            rw [← hd] at HR
            have HD := Aside0.mk hd
            have HR1 := Aside0.mk (HR.out.ext (d' := fun x y => if x = m ∧ y = b then 1099511627776 else d x y) (fun x y hx hy => by
              by_cases e : x = m ∧ y = b
              · rw [if_pos e, hd, e.1, e.2]
                show (if m < m ∨ b < b then _ else _) = _
                rw [if_neg (by omega)]
              · rw [if_neg e]))
            clear hd hV hm0 HR hmm'
            go_wp2
            go_loopw [10] (fun xv wr => ∃ (x : Nat) (c : Int), xv = .int .i64 x ∧ b + 1 ≤ x ∧ x ≤ l.length ∧ (0 ≤ c ∧ c ≤ 1099511627776) ∧ Aside0 (impl_firstBoxes.Rows wr g bl' many l.length (m + 1) (fun x y => if x = m ∧ y = b then c else d x y)) ∧ Aside0 (Below w2.heap.size w2 wr) ∧ Aside0 (impl_firstBoxes.iter (fun x c => min c (impl_firstBoxes.bw l b (x : Int) + impl_firstBoxes.T l m' x)) (l.length - x) x c = V)) (fun xv _ => l.length - (intOf xv).toNat)
            case atStart => exact ⟨b + 1, 1099511627776, by go_num, Nat.le_refl _, by omega, by omega, HR1, HB, HT0⟩
            case round =>
              clear HR1 HB HT0
              obtain ⟨x, c, rfl, hbx, hxn, hc01, HR, HB, HI⟩ := hrel
              have hpn := (HK.out _ HB.out).1
              by_cases hxl : x < l.length
              · have HXL := Aside0.mk hxl
                have HI2 := Aside0.mk (show impl_firstBoxes.iter (fun x c => min c (impl_firstBoxes.bw l b (x : Int) + impl_firstBoxes.T l m' x)) (l.length - (x + 1)) (x + 1) (min c (impl_firstBoxes.bw l b (x : Int) + impl_firstBoxes.T l m' x)) = V by rw [← HI.out, impl_firstBoxes.iter_step _ _ x hxl])
                have hbw := impl_firstBoxes.bw_small HS.out (i := (b : Int)) (k := (x : Int)) (by omega) (by omega)
                have hT := impl_firstBoxes.T_small HS.out m' x
                obtain ⟨p, hp⟩ : ∃ p, p = impl_firstBoxes.bw l (b : Int) (x : Int) := ⟨_, rfl⟩
                obtain ⟨q, hq⟩ : ∃ q, q = impl_firstBoxes.T l m' x := ⟨_, rfl⟩
                rw [← hp, ← hq] at HI2
                rw [← hp] at hbw
                rw [← hq] at hT
                have HP := Aside0.mk hp
                have HQ := Aside0.mk hq
                have eadd : IntKind.i64.wrap (p + q) = p + q := by rw [i64_w]; unfold wrap64; omega
                have hem : m' < many := by have := HM.out; have := HLt.out; omega
                have esub : IntKind.i64.wrap ((m : Int) - 1) = (m' : Int) := by have := HM.out; rw [i64_w]; unfold wrap64; omega
                obtain ⟨c', hc'⟩ : ∃ c', c' = min c (p + q) := ⟨_, rfl⟩
                rw [← hc'] at HI2
                have emin : (if p + q < c then p + q else c) = c' := by rw [hc']; split <;> omega
                have hc'01 : 0 ≤ c' ∧ c' ≤ 1099511627776 := by omega
                clear hp hq hc' HI
                go_wp2
                refine wp_region_still_tail 27 (by kernel_rfl) (by kernel_rfl) ?_
                simp only [List.take_succ_cons, List.take_zero, List.drop_succ_cons, List.drop_zero]
                obtain ⟨w7, hw7⟩ : ∃ w7 : World, wr.drew = w7 := ⟨_, rfl⟩
                have hbd : Below wr.heap.size wr w7 := by rw [← hw7]; exact below_drew1 (Below.refl _ _)
                have HB7 := Aside0.mk (below_then HB.out HB.out.size hbd)
                have HR7 := Aside0.mk (HR.out.below hbd)
                have hrowa := HR7.out.row m (by omega)
                have hrowb := HR7.out.row m' (by have := HM.out; omega)
                have hcela : w7.cell? ⟨bl' m, b, none⟩ = some (.int .i64 c) := by
                  have z := HR7.out.cell m b (by omega) HBN.out
                  rw [if_pos ⟨rfl, rfl⟩] at z
                  exact z
                have hcelb : w7.cell? ⟨bl' m', x, none⟩ = some (.int .i64 q) := by
                  have hM := HM.out
                  have z := HR7.out.cell m' x (by omega) hxl
                  rw [if_neg (by omega), HD.out] at z
                  rw [HQ.out]
                  simpa [hM] using z
                have hfre := HR7.out.free m b (by omega)
                have hmm1 : m < many := HLt.out
                have hbl1 := HBN.out
                have HC := Aside0.mk (HBt.out w7 HB7.out (b : Int) x (by omega) (by omega))
                rw [← HP.out] at HC
                have HR8 := Aside0.mk ((HR7.out.set m b (by omega) HBN.out c').ext (d' := fun x y => if x = m ∧ y = b then c' else d x y) (fun x y hx hy => by
                  by_cases e : x = m ∧ y = b
                  · rw [if_pos e, if_pos e]
                  · rw [if_neg e, if_neg e, if_neg e]))
                have HB8 := Aside0.mk (HB7.out.setCell (p := ⟨bl' m, b, none⟩) (HG5.out 0) (.int .i64 c'))
                change wpStill _ _ wr.drew _ _ _
                rw [hw7]
                have HW7 := Aside0.mk hw7
                clear hw7 hbd HR7 HB7 hmz
                repeat still_step
                still_call HC.out
                repeat still_step
                refine wpStill_nil ?_
                change wpList _ _ _ _ _ wr.drew
                rw [HW7.out]
                go_wp2
                go_roundw
                case rel => exact ⟨x + 1, c', by go_num, by omega, by omega, hc'01, HR8, HB8, HI2⟩
                case measure => have := HXL.out; simp [intOf]; omega
              · obtain rfl : x = l.length := by omega
                have HE := Aside0.mk (show c = V by rw [← HI.out, Nat.sub_self]; rfl)
                have HR2 := Aside0.mk (HR.out.ext (d' := fun x y => if x < m ∨ y < b + 1 then impl_firstBoxes.T l x y else 1099511627776) (fun x y hx hy => by
                  by_cases e : x = m ∧ y = b
                  · rw [if_pos e, if_pos (by omega), HE.out, HV.out, e.1, e.2]
                  · rw [if_neg e, HD.out]
                    show (if x < m ∨ y < b then _ else _) = _
                    by_cases q : x < m ∨ y < b
                    · rw [if_pos q, if_pos (by omega)]
                    · rw [if_neg q, if_neg (by omega)]))
                go_wp2
                go_roundw
                case rel => exact ⟨b + 1, by go_num, by have := HBN.out; omega, HR2, HB⟩
                case measure => have := HBN.out; simp [intOf]; omega
        · obtain rfl : b = l.length := by omega
          have HR2 := Aside0.mk (HR.out.ext (d' := impl_firstBoxes.T l) (fun x y hx hy => if_pos (Or.inr hy)))
          clear hbn
          go_wp2
          go_roundw
          case rel => exact ⟨m + 1, bl', by go_num, by have := HLt.out; omega, HR2, HB⟩
          case measure => have := HLt.out; simp [intOf]; omega
    · obtain rfl : many = m := by omega
      clear hlt hmm
      obtain ⟨wf, rfl⟩ : ∃ wf, wf = wr := ⟨wr, rfl⟩
      have ewm : IntKind.i64.wrap ((many : Int) - 1) = (many : Int) - 1 := by rw [i64_w]; unfold wrap64; omega
      go_wp2
      clear ewm
      go_loopw [11, 12, 13] (fun bv lv mv wr => ∃ (m : Nat) (q last : Int) (ws : List Int), lv = .int .i64 last ∧ mv = .int .i64 q ∧ Aside0 (q = (m : Int) - 1) ∧ (-1 ≤ last ∧ last < l.length) ∧ Aside0 (ws.length + m = many) ∧ Aside0 (ws ++ impl_firstBoxes.boxes l m last = Z) ∧ Aside0 (Kd.R (Kd.int .i64) 3 wr wf.heap.size (fun _ => True) bv ws) ∧ Aside0 (Below wf.heap.size wf wr)) (fun _ _ mv _ => (intOf mv + 1).toNat)
      case atStart => exact ⟨many, (many : Int) - 1, -1, [], rfl, rfl, ⟨rfl⟩, by omega, ⟨by simp⟩, HZ, ⟨Kd.R_nil _ _ _ _ _⟩, ⟨Below.refl _ _⟩⟩
      case round =>
        clear HZ
        obtain ⟨m, q, last, ws, rfl, rfl, HQM, hlast, HLen, HW, HO, HBf⟩ := hrel
        obtain ⟨Aw, cw, ew⟩ := Kd.R_slice HO.out
        subst ew
        by_cases hq : 0 ≤ q
        · obtain ⟨m', rfl⟩ := Int.eq_ofNat_of_zero_le hq
          obtain rfl : m = m' + 1 := by have := HQM.out; omega
          obtain ⟨lo, hlo⟩ : ∃ lo : Nat, lo = (last + 1).toNat := ⟨_, rfl⟩
          have HLO := Aside0.mk (show (lo : Int) = last + 1 by omega)
          have ew1 : IntKind.i64.wrap (last + 1) = (lo : Int) := by rw [i64_w]; unfold wrap64; omega
          obtain ⟨PK, hPK⟩ : ∃ PK, PK = impl_firstBoxes.pick l last m' := ⟨_, rfl⟩
          have HPK := Aside0.mk hPK
          have HP0 := Aside0.mk (show impl_firstBoxes.iter (fun x (p : Int × Int) => if impl_firstBoxes.bw l last (x : Int) + impl_firstBoxes.T l m' x < p.2 then ((x : Int), impl_firstBoxes.bw l last (x : Int) + impl_firstBoxes.T l m' x) else p) (l.length - lo) lo (-1, 1099511627776) = PK by rw [hPK, hlo]; rfl)
          have hloN : lo ≤ l.length := by omega
          clear hPK hlo hq
          go_wp2
          clear ew1
          go_loopw [14, 15, 16] (fun bv sv xv wr => ∃ (x : Nat) (bi le : Int), bv = .int .i64 bi ∧ sv = .int .i64 le ∧ xv = .int .i64 x ∧ (lo ≤ x ∧ x ≤ l.length) ∧ (-1 ≤ bi ∧ bi < l.length) ∧ (0 ≤ le ∧ le ≤ 1099511627776) ∧ Aside0 (impl_firstBoxes.iter (fun x (p : Int × Int) => if impl_firstBoxes.bw l last (x : Int) + impl_firstBoxes.T l m' x < p.2 then ((x : Int), impl_firstBoxes.bw l last (x : Int) + impl_firstBoxes.T l m' x) else p) (l.length - x) x (bi, le) = PK) ∧ Aside0 (Kd.R (Kd.int .i64) 3 wr wf.heap.size (fun _ => True) (.slice Aw ws.length cw) ws) ∧ Aside0 (Below wf.heap.size wf wr)) (fun _ _ xv _ => l.length - (intOf xv).toNat)
          case atStart => exact ⟨lo, -1, 1099511627776, rfl, rfl, rfl, by omega, by omega, by omega, HP0, HO, HBf⟩
          case round =>
            clear HO HBf HP0
            obtain ⟨x, bi, le, rfl, rfl, rfl, hx, hbi, hle, HI, HO, HBf⟩ := hrel
            have HBx := Aside0.mk (below_then HB.out HB.out.size HBf.out)
            have hpn := (HK.out _ HBx.out).1
            by_cases hxl : x < l.length
            · have HXL := Aside0.mk hxl
              have hmany : m' < many := by have := HLen.out; omega
              obtain ⟨w7, hw7⟩ : ∃ w7 : World, wr.drew = w7 := ⟨_, rfl⟩
              have HW7 := Aside0.mk hw7
              have HBf7 := Aside0.mk (show Below wf.heap.size wf w7 by rw [← hw7]; exact below_drew1 HBf.out)
              have HBx7 := Aside0.mk (below_then HB.out HB.out.size HBf7.out)
              have HO7 := Aside0.mk (show Kd.R (Kd.int .i64) 3 w7 wf.heap.size (fun _ => True) (.slice Aw ws.length cw) ws by rw [← hw7]; exact Kd.R_drewN HO.out 1)
              have hrow := (HR.out.below HBf7.out).row m' hmany
              have hcel := (HR.out.below HBf7.out).cell m' x hmany hxl
              clear hw7
              have hbw := impl_firstBoxes.bw_small HS.out (i := last) (k := (x : Int)) (by omega) (by omega)
              have hT := impl_firstBoxes.T_small HS.out m' x
              have HI2 := HI.out
              rw [impl_firstBoxes.iter_step _ _ x hxl] at HI2
              have HC := Aside0.mk (HBt.out w7 HBx7.out last x (by omega) (by omega))
              obtain ⟨p, hp⟩ : ∃ p, p = impl_firstBoxes.bw l last (x : Int) := ⟨_, rfl⟩
              obtain ⟨t, ht⟩ : ∃ t, t = impl_firstBoxes.T l m' x := ⟨_, rfl⟩
              rw [← hp, ← ht] at HI2
              rw [← hp] at hbw HC
              rw [← ht] at hT hcel
              have eadd : IntKind.i64.wrap (p + t) = p + t := by rw [i64_w]; unfold wrap64; omega
              have HI3 := Aside0.mk HI2
              have HH := Aside0.mk (And.intro hx (And.intro hbi (And.intro hle (And.intro hbw hT))))
              clear HI HI2 hp ht hbw hT
              by_cases hs : p + t < le
              · have hsb : decide (p + t < le) = true := decide_eq_true hs
                have HI4 := Aside0.mk (show impl_firstBoxes.iter (fun x (p : Int × Int) => if impl_firstBoxes.bw l last (x : Int) + impl_firstBoxes.T l m' x < p.2 then ((x : Int), impl_firstBoxes.bw l last (x : Int) + impl_firstBoxes.T l m' x) else p) (l.length - (x + 1)) (x + 1) ((x : Int), p + t) = PK by have z := HI3.out; rw [if_pos hs] at z; exact z)
                clear hx hbi hle
                go_wp2
                refine wp_region_still_tail 12 (by kernel_rfl) (by kernel_rfl) ?_
                simp only [List.take_succ_cons, List.take_zero, List.drop_succ_cons, List.drop_zero]
                change wpStill _ _ wr.drew _ _ _
                rw [HW7.out]
                repeat still_step
                still_call HC.out
                repeat still_step
                refine wpStill_nil ?_
                change wpList _ _ _ _ _ wr.drew
                rw [HW7.out]
                go_wp2
                go_roundw
                case rel => exact ⟨x + 1, (x : Int), p + t, rfl, rfl, by go_num, by have := HH.out.1; have := HXL.out; omega, by have := HXL.out; omega, by have := HH.out.2.2; omega, HI4, HO7, HBf7⟩
                case measure => have := HXL.out; simp [intOf]; omega
              · have hsb : decide (p + t < le) = false := decide_eq_false hs
                have HI4 := Aside0.mk (show impl_firstBoxes.iter (fun x (p : Int × Int) => if impl_firstBoxes.bw l last (x : Int) + impl_firstBoxes.T l m' x < p.2 then ((x : Int), impl_firstBoxes.bw l last (x : Int) + impl_firstBoxes.T l m' x) else p) (l.length - (x + 1)) (x + 1) (bi, le) = PK by have z := HI3.out; rw [if_neg hs] at z; exact z)
                clear hx hbi hle
                go_wp2
                refine wp_region_still_tail 12 (by kernel_rfl) (by kernel_rfl) ?_
                simp only [List.take_succ_cons, List.take_zero, List.drop_succ_cons, List.drop_zero]
                change wpStill _ _ wr.drew _ _ _
                rw [HW7.out]
                repeat still_step
                still_call HC.out
                repeat still_step
                refine wpStill_nil ?_
                change wpList _ _ _ _ _ wr.drew
                rw [HW7.out]
                go_wp2
                go_roundw
                case rel => exact ⟨x + 1, bi, le, rfl, rfl, by go_num, by have := HH.out.1; have := HXL.out; omega, HH.out.2.1, HH.out.2.2.1, HI4, HO7, HBf7⟩
                case measure => have := HXL.out; simp [intOf]; omega
            · obtain rfl : x = l.length := by omega
              have HE := Aside0.mk (show bi = (impl_firstBoxes.pick l last m').1 by have z := HI.out; rw [Nat.sub_self] at z; rw [← HPK.out, ← z]; rfl)
              have HI := Aside0.mk (show (Try.prog.info? 3).map (fun i => (i.zero, i.size, i.bytes)) = some (some (.int .i64 0), 1, 8) from by kernel_rfl)
              have HBi := Aside0.mk hbi
              have ewm : IntKind.i64.wrap ((m' : Int) - 1) = (m' : Int) - 1 := by have := HLen.out; rw [i64_w]; unfold wrap64; omega
              clear hx hle hbi
              go_wp2_with ((with_reducible refine gate_builtin (b := .append) (xs := #[.tmp 115, .tmp 117]) rfl ?_); at_builtin; refine Kd.R_append (Kd.int .i64) (w0 := wf) wf.heap.size rfl (.tmp 115) (.tmp 117) 24 3 (.int .i64 0) 8 rfl Try.underlying24 HI.out rfl (by decide) (by omega) (.slice Aw ws.length cw) ws bi [.int .i64 bi] (fun _ => True) (fun _ => False) rfl ?aX ?aP (fun _ hk => hk.elim) ?aF ?aO ?aB ?aS ?aL ?_; (case aX => first | rfl | (simp; done) | (simp; rfl)); (case aP => exact rfl); (case aF => exact (fun _ _ => trivial)); (case aO => exact HO.out); (case aB => exact HBf.out); (case aS => exact HBf.out.size); (case aL => (have := HLen.out; simp; omega)); intro v5 w5 ho5 hb5 hg5 hat5; have HO5 := Aside0.mk ho5; have HB5 := Aside0.mk hb5; clear ho5 hb5 hg5 hat5)
              go_roundw
              case rel => exact ⟨m', (m' : Int) - 1, bi, ws ++ [bi], rfl, rfl, ⟨rfl⟩, HBi.out, ⟨by have := HLen.out; simp; omega⟩, ⟨by rw [← HW.out, HE.out]; simp [impl_firstBoxes.boxes]⟩, HO5, HB5⟩
              case measure => first | (simp [intOf]; done) | (simp [intOf]; omega)
        · have hqb : decide (0 ≤ q) = false := decide_eq_false hq
          obtain rfl : m = 0 := by have := HQM.out; omega
          have HE := Aside0.mk (show ws = Z by rw [← HW.out]; simp [impl_firstBoxes.boxes])
          go_wp2
          go_ret
          have hszf : w.heap.size ≤ wf.heap.size := Nat.le_trans HB2.out.size HB.out.size
          exact ⟨_, rfl, by rw [← HE.out]; exact Kd.R_lower HO.out hszf, below_then HB2.out HB2.out.size (below_then HB.out HB.out.size HBf.out)⟩
def impl_firstBoxes.f : Nat → List Int → Int → Option (List Int)
  | 0, _, _ => none
  | _ + 1, l, a => if impl_firstBoxes.Small l ∧ 1 ≤ a ∧ a ≤ 5 then some (impl_firstBoxes.boxes l a.toNat (-1)) else none
theorem impl_firstBoxes.mono : ∀ a0 a1 k, LeO (impl_firstBoxes.f k a0 a1) (impl_firstBoxes.f (k + 1) a0 a1) := fun a0 a1 k => by
  cases k with
  | zero => exact LeO.none _
  | succ k => exact LeO.refl _
theorem impl_firstBoxes.calls (k : Nat) (A0 : Option Addr) (c0 : Nat) (l0 : List Int) (a1 : Int) (r : List Int) (w : World) (hr0 : Kd.C (Kd.int .i64) w A0 l0.length l0) (hc0 : l0.length ≤ c0) (h : impl_firstBoxes.f k l0 a1 = some r) :
    Calls Try.prog 28 #[.slice A0 l0.length c0, .int .i64 a1] w fun e w' => ∃ v0_ : Value, e = .returned (v0_) ∧ Kd.R (Kd.int .i64) 3 w' w.heap.size (fun _ => True) v0_ r ∧ Below w.heap.size w w' := by
  cases k with
  | zero => cases h
  | succ k =>
    simp only [impl_firstBoxes.f] at h
    by_cases c : impl_firstBoxes.Small l0 ∧ 1 ≤ a1 ∧ a1 ≤ 5
    · rw [if_pos c] at h
      obtain rfl := Option.some.inj h
      obtain ⟨hS, h1, h5⟩ := c
      obtain ⟨m, rfl⟩ := Int.eq_ofNat_of_zero_le (show 0 ≤ a1 by omega)
      obtain ⟨ad, rfl, hx⟩ := Kd.at_int hr0 0 (by omega) (by have := hS.1.1; omega)
      rw [show (0 : Int).toNat = 0 from rfl, Addr.add_zero'] at hx
      obtain ⟨pb, po, rfl⟩ := impl_firstBoxes.plain hx
      refine impl_firstBoxes.walk l0 hS m (by omega) pb po c0 w (fun j hj => ?_)
      obtain ⟨ad2, hA, hy⟩ := Kd.at_int hr0 (j : Int) (by omega) (by omega)
      injection hA with hA
      subst hA
      rw [Int.toNat_natCast, Addr.add_lit] at hy
      exact hy
    · rw [if_neg c] at h
      cases h

/-! ### impl_FirstBoxes: function 6 -/
def impl_FirstBoxes.f (k : Nat) (l0 : List Int) (a1 : Int) : Option (List Int × Bool) := (impl_areMany.f k l0 a1).bind fun t142 => (if t142 = true then ((impl_firstBoxes.f k l0 a1).bind fun t143 => (some (t143, true))) else (some (([] : List Int), false)))
theorem impl_FirstBoxes.mono : ∀ a0 a1 k, LeO (impl_FirstBoxes.f k a0 a1) (impl_FirstBoxes.f (k + 1) a0 a1) := by
  intro a0 a1 k
  unfold impl_FirstBoxes.f
  repeat' first
      | (with_reducible exact impl_areMany.mono _ _ _)
      | (with_reducible exact impl_firstBoxes.mono _ _ _)
      | (with_reducible exact LeO.refl _)
      | (with_reducible exact LeO.none _)
      | (with_reducible refine LeO.ite ?_ ?_)
      | (with_reducible refine LeO.bind ?_ (fun _ => ?_))
      | exact impl_areMany.mono _ _ _
      | exact impl_firstBoxes.mono _ _ _
      | exact LeO.none _
      | refine LeO.ite ?_ ?_
      | refine LeO.bind ?_ (fun _ => ?_)
set_option maxHeartbeats 8000000 in
set_option maxRecDepth 100000 in
theorem impl_FirstBoxes.calls (k : Nat) (A0 : Option Addr) (c0 : Nat) (l0 : List Int) (a1 : Int) (r1 : List Int) (r2 : Bool) (w : World) (hr0 : Kd.C (Kd.int .i64) w A0 l0.length l0) (hc0 : l0.length ≤ c0) (h : impl_FirstBoxes.f k l0 a1 = some (r1, r2)) :
    Calls Try.prog 6 #[.slice A0 l0.length c0, .int .i64 a1] w fun e w' => ∃ v0_ : Value, e = .returned (.tuple #[v0_, .bool r2]) ∧ Kd.R (Kd.int .i64) 3 w' w.heap.size (fun _ => True) v0_ r1 ∧ Below w.heap.size w w' := by
  have HR0 := Aside0.mk hr0
  have HC0 := Aside0.mk hc0
  clear hr0 hc0
  have HB := Aside0.mk (Below.refl w.heap.size w)
  have H : ((impl_areMany.f k l0 a1).bind fun t142 => (if t142 = true then ((impl_firstBoxes.f k l0 a1).bind fun t143 => (some (t143, true))) else (some (([] : List Int), false)))) = some (r1, r2) := h
  clear h
  replace H := Option.bind_eq_some_iff.mp H
  obtain ⟨t142, A30, H⟩ := H
  replace H : (if t142 = true then ((impl_firstBoxes.f k l0 a1).bind fun t143 => (some (t143, true))) else (some (([] : List Int), false))) = some (r1, r2) := H
  have A3 := Aside0.mk A30
  clear A30
  by_cases c4 : t142 = true
  · subst c4
    have H1 : ((impl_firstBoxes.f k l0 a1).bind fun t143 => (some (t143, true))) = some (r1, r2) := by rw [if_pos rfl] at H; exact H
    clear H
    have H := H1
    clear H1
    replace H := Option.bind_eq_some_iff.mp H
    obtain ⟨t143, A50, H⟩ := H
    replace H : (some (t143, true)) = some (r1, r2) := H
    have A5 := Aside0.mk A50
    clear A50
    simp only [Option.some.injEq, Prod.mk.injEq] at H
    obtain ⟨rfl, rfl⟩ := H
    go_enter Try.func6, Try.ntmps6
    go_wp2_with (first | ((with_reducible refine gate_callee (f := 27) rfl ?_); refine goesL_ (some 8) rfl rfl Try.func27 (by kernel_rfl) rfl #[.slice A0 l0.length c0, .int .i64 a1] rfl (by (try simp only [List.map_toArray, List.map_cons, List.map_nil]); first | done | rfl | (simp only [List.length_drop, List.length_take]; rfl)) ?_; (with_reducible refine (impl_areMany.calls k _ _ l0 a1 true _ ?side1 ?side2 A3.out).mono ?_); (case side1 => repeat (first | exact HR0.out | (with_reducible refine Kd.C_alloc ?_ _) | (with_reducible refine Kd.C_drewN ?_ _) | (with_reducible refine Kd.C_drew ?_))); (case side2 => exact HC0.out); rintro e w6 ⟨rfl, hb⟩; refine ⟨_, rfl, ?_⟩; have n0_ := Aside0.mk (below_step (by repeat (first | (with_reducible first | exact HB.out | apply below_alloc | apply pw_below_drewN | apply below_drew1) | exact HB.out)) hb); clear HB; have HB := n0_; clear n0_; (try clear hb); (try clear hb2); (try clear hk); (try clear hi)) | ((with_reducible refine gate_callee (f := 28) rfl ?_); refine goesL_ (some 12) rfl rfl Try.func28 (by kernel_rfl) rfl #[.slice A0 l0.length c0, .int .i64 a1] rfl (by (try simp only [List.map_toArray, List.map_cons, List.map_nil]); first | done | rfl | (simp only [List.length_drop, List.length_take]; rfl)) ?_; (with_reducible refine (impl_firstBoxes.calls k _ _ l0 a1 t143 _ ?side1 ?side2 A5.out).mono ?_); (case side1 => repeat (first | exact (Kd.C_below HR0.out HB.out) | (with_reducible refine Kd.C_alloc ?_ _) | (with_reducible refine Kd.C_drewN ?_ _) | (with_reducible refine Kd.C_drew ?_))); (case side2 => exact HC0.out); rintro e w7 ⟨v144, rfl, ho0, hb⟩; refine ⟨_, rfl, ?_⟩; have n0_ := Aside0.mk (Kd.R_lower ho0 (below_size (by repeat (first | (with_reducible first | exact HB.out | apply below_alloc | apply pw_below_drewN | apply below_drew1) | exact HB.out)))); have n1_ := Aside0.mk (below_step (by repeat (first | (with_reducible first | exact HB.out | apply below_alloc | apply pw_below_drewN | apply below_drew1) | exact HB.out)) hb); clear HB; have HO145 := n0_; have HB := n1_; clear n0_ n1_; (try clear hb); (try clear hb2); (try clear hk); (try clear hi); (try clear ho0)))
    go_ret2
    exact ⟨_, by first | rfl | (simp [errW_none, errW_some] <;> rfl) | (simp [*, errW_none, errW_some] <;> rfl), by (with_reducible repeat (first | apply Kd.R_alloc | apply Kd.R_drewN | apply Kd.R_drew)); exact HO145.out, by repeat (first | (with_reducible first | exact HB.out | apply below_alloc | apply pw_below_drewN | apply below_drew1) | exact HB.out)⟩
  · replace c4 := Bool.eq_false_iff.mpr c4
    subst c4
    have H1 : (some (([] : List Int), false)) = some (r1, r2) := by rw [if_neg (show ¬ (false = true) by decide)] at H; exact H
    clear H
    have H := H1
    clear H1
    simp only [Option.some.injEq, Prod.mk.injEq] at H
    obtain ⟨rfl, rfl⟩ := H
    go_enter Try.func6, Try.ntmps6
    go_wp2_with (first | ((with_reducible refine gate_callee (f := 27) rfl ?_); refine goesL_ (some 8) rfl rfl Try.func27 (by kernel_rfl) rfl #[.slice A0 l0.length c0, .int .i64 a1] rfl (by (try simp only [List.map_toArray, List.map_cons, List.map_nil]); first | done | rfl | (simp only [List.length_drop, List.length_take]; rfl)) ?_; (with_reducible refine (impl_areMany.calls k _ _ l0 a1 false _ ?side1 ?side2 A3.out).mono ?_); (case side1 => repeat (first | exact HR0.out | (with_reducible refine Kd.C_alloc ?_ _) | (with_reducible refine Kd.C_drewN ?_ _) | (with_reducible refine Kd.C_drew ?_))); (case side2 => exact HC0.out); rintro e w8 ⟨rfl, hb⟩; refine ⟨_, rfl, ?_⟩; have n0_ := Aside0.mk (below_step (by repeat (first | (with_reducible first | exact HB.out | apply below_alloc | apply pw_below_drewN | apply below_drew1) | exact HB.out)) hb); clear HB; have HB := n0_; clear n0_; (try clear hb); (try clear hb2); (try clear hk); (try clear hi)))
    go_ret2
    exact ⟨_, by first | rfl | (simp [errW_none, errW_some] <;> rfl) | (simp [*, errW_none, errW_some] <;> rfl), by first | exact Kd.R_nil _ _ _ _ _ | exact Kd.N_nil _ _ _ _ _ | exact Kd.V_nil _ _ _ _ _ | exact Kd.Q_nil _ _ _ _ _ | exact Kd.S_nil _ _ _ _ _, by repeat (first | (with_reducible first | exact HB.out | apply below_alloc | apply pw_below_drewN | apply below_drew1) | exact HB.out)⟩

/-! ### spec_l1In: function 50 -/
def spec_l1In.f (a0 : Int) (a1 : Int) (a2 : Int) : Option (Bool) := if a0 ≥ a1 then (some (decide (a0 ≤ a2))) else (some false)
set_option maxHeartbeats 8000000 in
set_option maxRecDepth 100000 in
theorem spec_l1In.calls (a0 : Int) (a1 : Int) (a2 : Int) (r : Bool) (w : World) (h : spec_l1In.f a0 a1 a2 = some r) :
    Calls Try.prog 50 #[.int .i64 a0, .int .i64 a1, .int .i64 a2] w fun e w' => e = .returned (.bool r) ∧ Drawn0 w w' := by
  have H : (if a0 ≥ a1 then (some (decide (a0 ≤ a2))) else (some false)) = some r := h
  clear h
  by_cases c4 : a0 ≥ a1
  · rw [if_pos c4] at H
    have c4b0 : decide (a1 ≤ a0) = true := decide_eq_true c4
    clear c4
    obtain rfl := Option.some.inj H
    go_enter Try.func50, Try.ntmps50
    go_wp2
    go_ret
    exact ⟨by first | rfl | (simp; done) | (simp [*]; done), by repeat (first | exact Drawn0.refl _ | apply Drawn0.step)⟩
  · rw [if_neg c4] at H
    have c4b0 : decide (a1 ≤ a0) = false := decide_eq_false c4
    clear c4
    obtain rfl := Option.some.inj H
    go_enter Try.func50, Try.ntmps50
    go_wp2
    go_ret
    exact ⟨by first | rfl | (simp; done) | (simp [*]; done), by repeat (first | exact Drawn0.refl _ | apply Drawn0.step)⟩

end Go.Proofs.Ytkbdlcbempjmnaa.MX
