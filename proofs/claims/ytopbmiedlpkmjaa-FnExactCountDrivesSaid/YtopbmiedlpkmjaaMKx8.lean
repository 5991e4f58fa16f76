-- The machine side, written by this repo's program mp.py; contracts marked as of this repo are this session's own.
import Derived.Test.YtopbmiedlpkmjaaMKx0
import Derived.Test.YtopbmiedlpkmjaaMKx2
import Derived.Test.YtopbmiedlpkmjaaMKx3
import Derived.Test.YtopbmiedlpkmjaaMKx4
import Derived.Test.YtopbmiedlpkmjaaMKx6
import Derived.Test.YtopbmiedlpkmjaaMKx7
namespace Go.Proofs.Ytopbmiedlpkmjaa.MK
open Go.RowKit Go.Proofs.YtopbmiedlpkmjaaW.PrintWords Go.Proofs.YtopbmiedlpkmjaaW.PrintLast Go.Proofs.YtopbmiedlpkmjaaW.PrintMore
attribute [local go_sem] max2_int min2_int max_two min_two max_three min_three max_four min_four   -- for this text's walks alone
set_option linter.unusedVariables false
set_option linter.unusedSimpArgs false

/-! ### impl_firstWay: function 62 (a contract of this repo) -/
/-- A number of rows. -/
def impl_firstWay.dv (rows : List (List Int)) (x y : Int) : Int := rd (rows.getD x.toNat []) y
/-- Whether a step leads to a corner that is nearer. -/
def impl_firstWay.nr (rows : List (List Int)) (s t : ByteArray) (x y : Int) (n : Nat) : Bool := impl_driveIn.can s t x y n && decide (impl_firstWay.dv rows (x + impl_driveIn.dx n) (y + impl_driveIn.dy n) = impl_firstWay.dv rows x y - 1)
/-- Rows of a size, with small numbers. -/
def impl_firstWay.Rect (rows : List (List Int)) (W H : Nat) : Prop := rows.length = W ∧ ∀ r ∈ rows, r.length = H ∧ ∀ v ∈ r, -1 ≤ v ∧ v ≤ 64
instance (rows : List (List Int)) (W H : Nat) : Decidable (impl_firstWay.Rect rows W H) := by unfold impl_firstWay.Rect; infer_instance
/-- The first way, by signs' indices. -/
def impl_firstWay.fw (rows : List (List Int)) (s t : ByteArray) : Nat → Int → Int → Option (List Nat)
  | 0, x, y => if impl_firstWay.dv rows x y ≤ 0 then some [] else none
  | k + 1, x, y => if impl_firstWay.dv rows x y ≤ 0 then some [] else if impl_firstWay.nr rows s t x y 0 = true then (impl_firstWay.fw rows s t k (x + impl_driveIn.dx 0) (y + impl_driveIn.dy 0)).map (0 :: ·) else if impl_firstWay.nr rows s t x y 1 = true then (impl_firstWay.fw rows s t k (x + impl_driveIn.dx 1) (y + impl_driveIn.dy 1)).map (1 :: ·) else if impl_firstWay.nr rows s t x y 2 = true then (impl_firstWay.fw rows s t k (x + impl_driveIn.dx 2) (y + impl_driveIn.dy 2)).map (2 :: ·) else if impl_firstWay.nr rows s t x y 3 = true then (impl_firstWay.fw rows s t k (x + impl_driveIn.dx 3) (y + impl_driveIn.dy 3)).map (3 :: ·) else none
/-- One round of it. -/
theorem impl_firstWay.fw_step {rows : List (List Int)} {s t : ByteArray} {k : Nat} {x y : Int} {o : List Nat} (h : impl_firstWay.fw rows s t (k + 1) x y = some o) (hp : 0 < impl_firstWay.dv rows x y) : ∃ m o', m < 4 ∧ impl_firstWay.nr rows s t x y m = true ∧ (∀ n, n < m → impl_firstWay.nr rows s t x y n = false) ∧ impl_firstWay.fw rows s t k (x + impl_driveIn.dx m) (y + impl_driveIn.dy m) = some o' ∧ o = m :: o' := by
  simp only [impl_firstWay.fw] at h
  rw [if_neg (by omega)] at h
  by_cases c0 : impl_firstWay.nr rows s t x y 0 = true
  · rw [if_pos c0] at h
    obtain ⟨o', h1, h2⟩ := Option.map_eq_some_iff.1 h
    exact ⟨0, o', by omega, c0, fun n hn => by omega, h1, h2.symm⟩
  rw [if_neg c0] at h
  by_cases c1 : impl_firstWay.nr rows s t x y 1 = true
  · rw [if_pos c1] at h
    obtain ⟨o', h1, h2⟩ := Option.map_eq_some_iff.1 h
    refine ⟨1, o', by omega, c1, fun n hn => ?_, h1, h2.symm⟩
    obtain rfl : n = 0 := by omega
    simpa using c0
  rw [if_neg c1] at h
  by_cases c2 : impl_firstWay.nr rows s t x y 2 = true
  · rw [if_pos c2] at h
    obtain ⟨o', h1, h2⟩ := Option.map_eq_some_iff.1 h
    refine ⟨2, o', by omega, c2, fun n hn => ?_, h1, h2.symm⟩
    have q : n = 0 ∨ n = 1 := by omega
    rcases q with rfl | rfl
    · simpa using c0
    · simpa using c1
  rw [if_neg c2] at h
  by_cases c3 : impl_firstWay.nr rows s t x y 3 = true
  · rw [if_pos c3] at h
    obtain ⟨o', h1, h2⟩ := Option.map_eq_some_iff.1 h
    refine ⟨3, o', by omega, c3, fun n hn => ?_, h1, h2.symm⟩
    have q : n = 0 ∨ n = 1 ∨ n = 2 := by omega
    rcases q with rfl | rfl | rfl
    · simpa using c0
    · simpa using c1
    · simpa using c2
  · rw [if_neg c3] at h
    cases h
theorem impl_firstWay.can_at {s t : ByteArray} {x y : Int} {n : Nat} (h : impl_driveIn.can s t x y n = true) : impl_driveIn.At s t (x + impl_driveIn.dx n) (y + impl_driveIn.dy n) := by
  unfold impl_driveIn.can at h
  simp only [Bool.and_eq_true, decide_eq_true_eq] at h
  exact ⟨⟨h.1.1.1, by omega⟩, h.1.2.1, by omega⟩
theorem impl_firstWay.plain {w : World} {ad : Addr} {v : Value} (h : w.cell? ad = some v) : ∃ b o, ad = ⟨b, o, none⟩ := by
  obtain ⟨b, o, sp⟩ := ad
  cases sp with
  | none => exact ⟨b, o, rfl⟩
  | some z => simp only [World.cell?] at h; split at h <;> simp at h
/-- Where rows lie. -/
def impl_firstWay.RG (w : World) (b o : Nat) (bl ol cp : Nat → Nat) (rows : List (List Int)) (W H : Nat) : Prop := ∀ x, x < W → w.cell? ⟨b, o + x, none⟩ = some (.slice (some ⟨bl x, ol x, none⟩) H (cp x)) ∧ ∀ y, y < H → w.cell? ⟨bl x, ol x + y, none⟩ = some (.int .i64 (impl_firstWay.dv rows x y))
theorem impl_firstWay.RG.below {w w' : World} {b o : Nat} {bl ol cp : Nat → Nat} {rows : List (List Int)} {W H : Nat} (h : impl_firstWay.RG w b o bl ol cp rows W H) (hb : Below w.heap.size w w') : impl_firstWay.RG w' b o bl ol cp rows W H := fun x hx => ⟨pw_cell_below hb (h x hx).1, fun y hy => pw_cell_below hb ((h x hx).2 y hy)⟩
theorem impl_firstWay.rg {w : World} {A : Option Addr} {rows : List (List Int)} {W H : Nat} (h : Kd.C (Kd.slice 3 (Kd.int .i64)) w A rows.length rows) (hR : impl_firstWay.Rect rows W H) (hW : 0 < W) (hH : 0 < H) : ∃ b o bl ol cp, A = some ⟨b, o, none⟩ ∧ impl_firstWay.RG w b o bl ol cp rows W H := by
  obtain ⟨hl, hr⟩ := hR
  have key : ∀ x : Nat, ∃ q : Nat × Nat × Nat, x < W → ∃ ad, A = some ad ∧ w.cell? (ad.add x) = some (.slice (some ⟨q.1, q.2.1, none⟩) H q.2.2) ∧ ∀ y, y < H → w.cell? ⟨q.1, q.2.1 + y, none⟩ = some (.int .i64 (impl_firstWay.dv rows x y)) := by
    intro x
    by_cases hx : x < W
    · obtain ⟨ad, c, hA, hcl, ⟨A', c', rfl, hl', hC⟩, hcc⟩ := Kd.C_get h [] (x : Int) (by omega) (by omega)
      rw [Int.toNat_natCast] at hC hcc hl'
      have hxl : x < rows.length := by omega
      have hg : rows.getD x [] = rows[x] := by rw [List.getD_eq_getElem?_getD, List.getElem?_eq_getElem hxl]; rfl
      have hlen : (rows.getD x []).length = H := by rw [hg]; exact (hr _ (List.getElem_mem hxl)).1
      obtain ⟨ad2, hA2, hc2⟩ := Kd.at_int hC 0 (by omega) (by omega)
      rw [show (0 : Int).toNat = 0 from rfl, Addr.add_zero'] at hc2
      obtain ⟨b2, o2, rfl⟩ := impl_firstWay.plain hc2
      subst hA2
      refine ⟨(b2, o2, c'), fun _ => ⟨ad, hA, ?_, fun y hy => ?_⟩⟩
      · have z := hcc 0 _ rfl
        rw [hlen] at z
        simpa [Kd.slice] using z
      · obtain ⟨ad3, hA3, hc3⟩ := Kd.at_int hC (y : Int) (by omega) (by omega)
        injection hA3 with hA3
        subst hA3
        rw [Int.toNat_natCast, Addr.add_lit] at hc3
        unfold impl_firstWay.dv
        rw [Int.toNat_natCast]
        exact hc3
    · exact ⟨(0, 0, 0), fun z => absurd z hx⟩
  obtain ⟨ad, hA, h0, -⟩ := Classical.choose_spec (key 0) hW
  rw [Addr.add_zero'] at h0
  obtain ⟨b, o, rfl⟩ := impl_firstWay.plain h0
  subst hA
  refine ⟨b, o, fun x => (Classical.choose (key x)).1, fun x => (Classical.choose (key x)).2.1, fun x => (Classical.choose (key x)).2.2, rfl, fun x hx => ?_⟩
  obtain ⟨ad, hA, h0, h1⟩ := Classical.choose_spec (key x) hx
  injection hA with hA
  subst hA
  rw [Addr.add_lit] at h0
  exact ⟨h0, h1⟩
theorem impl_firstWay.small {rows : List (List Int)} {W H : Nat} (hR : impl_firstWay.Rect rows W H) (x y : Nat) (hx : x < W) (hy : y < H) : -1 ≤ impl_firstWay.dv rows x y ∧ impl_firstWay.dv rows x y ≤ 64 := by
  obtain ⟨hl, hr⟩ := hR
  have hxl : x < rows.length := by omega
  unfold impl_firstWay.dv
  rw [Int.toNat_natCast, List.getD_eq_getElem?_getD, List.getElem?_eq_getElem hxl]
  obtain ⟨h1, h2⟩ := hr _ (List.getElem_mem hxl)
  have hy2 : y < (rows[x]).length := by omega
  show -1 ≤ rd rows[x] (y : Int) ∧ rd rows[x] (y : Int) ≤ 64
  have e : rd rows[x] (y : Int) = rows[x][y] := by simp [rd, hy2]
  rw [e]
  exact h2 _ (List.getElem_mem hy2)
set_option maxHeartbeats 8000000 in
set_option maxRecDepth 100000 in
theorem impl_firstWay.nearer (s t : ByteArray) (hS : impl_driveIn.Sized s t) (p : Nat) (rows : List (List Int)) (hR : impl_firstWay.Rect rows t.size s.size) (b o : Nat) (bl ol cp : Nat → Nat) (c0 : Nat) (A : Option Addr) (c : Nat) (x y : Nat) (n : Nat) (hn : n ≤ 3) (w : World) (hG : impl_firstWay.RG w b o bl ol cp rows t.size s.size) (hr : Kd.C (Kd.int .i64) w A 2 [(x : Int), (y : Int)]) (hc : 2 ≤ c) (hx : x < t.size) (hy : y < s.size) (hp : w.heap[p]? = some (.cells #[.string s, .string t] 27 (0, 0))) :
    Calls Try.prog 75 #[.slice (some ⟨b, o, none⟩) t.size c0, .slice A 2 c, .int .i64 n, .func (.func 71) #[] #[.pointer (some ⟨p, 0, none⟩)]] w fun e w' => e = .returned (.bool (impl_firstWay.nr rows s t x y n)) ∧ Below w.heap.size w w' := by
  obtain ⟨⟨t1, t8⟩, s1, s8⟩ := hS
  have HK := Aside0.mk (impl_driveIn.clo s t ⟨⟨t1, t8⟩, s1, s8⟩ p A c x y n hn w hr hc ⟨⟨by omega, by omega⟩, by omega, by omega⟩ hp)
  have HR := Aside0.mk hr
  have HC := Aside0.mk hc
  have HG := Aside0.mk hG
  unfold impl_firstWay.nr
  cases hcan : impl_driveIn.can s t x y n with
  | false =>
    rw [hcan] at HK
    clear hcan hr hc hG hp
    go_enter Try.func75, Try.ntmps75
    go_wp2_with (go_at_call 71; refine HK.out.mono ?_; rintro e w1 ⟨rfl, hb1⟩)
    go_ret
    exact ⟨rfl, hb1⟩
  | true =>
    rw [hcan] at HK
    have hat := impl_firstWay.can_at hcan
    have HM := Aside0.mk (impl_driveIn.moved x y n hn (by omega) (by omega))
    obtain ⟨u, hu⟩ := Int.eq_ofNat_of_zero_le hat.1.1
    obtain ⟨v, hv⟩ := Int.eq_ofNat_of_zero_le hat.2.1
    rw [hu, hv] at HM hat ⊢
    have hut : u < t.size := by have := hat.1.2; omega
    have hvs : v < s.size := by have := hat.2.2; omega
    obtain ⟨d0, hd0⟩ : ∃ d0, d0 = impl_firstWay.dv rows x y := ⟨_, rfl⟩
    obtain ⟨d1, hd1⟩ : ∃ d1, d1 = impl_firstWay.dv rows u v := ⟨_, rfl⟩
    have hsm := impl_firstWay.small hR x y hx hy
    rw [← hd0] at hsm ⊢
    rw [← hd1]
    have ew : IntKind.i64.wrap (d0 - 1) = d0 - 1 := (i64_w _).trans (by unfold wrap64; omega)
    have HD0 := Aside0.mk hd0
    have HD1 := Aside0.mk hd1
    clear hcan hr hc hG hp hat hu hv hd0 hd1 hsm
    go_enter Try.func75, Try.ntmps75
    go_wp2_with (first | (go_at_call 71; refine HK.out.mono ?_; rintro e w1 ⟨rfl, hb1⟩; have HB1 := Aside0.mk hb1; have HR1 := Aside0.mk (Kd.C_below HR.out hb1); have HG1 := Aside0.mk (HG.out.below hb1); clear hb1) | (go_at_call 70; refine (impl_moved.calls _ _ [(x : Int), (y : Int)] (n : Int) _ _ HR1.out HC.out HM.out).mono ?_; rintro e w2 ⟨v0, rfl, hR, hB⟩; obtain ⟨A2, c2, e2⟩ := Kd.R_slice hR; rw [show ([(u : Int), (v : Int)] : List Int).length = 2 from rfl] at e2; subst e2; have hC2 := (Kd.R_reads' hR).2.2; rw [show ([(u : Int), (v : Int)] : List Int).length = 2 from rfl] at hC2; obtain ⟨ad2, hA2, hu0⟩ := Kd.at_int hC2 0 (by omega) (by omega); obtain ⟨ad3, hA3, hu1⟩ := Kd.at_int hC2 1 (by omega) (by omega); subst hA2; obtain rfl : ad2 = ad3 := (by injection hA3); rw [show (0 : Int).toNat = 0 from rfl, Addr.add_zero', show rd [(u : Int), (v : Int)] 0 = (u : Int) from rfl] at hu0; rw [show rd [(u : Int), (v : Int)] 1 = (v : Int) from rfl] at hu1; simp only [show (1 : Int).toNat = 1 from rfl, Nat.reduceMul, Nat.reduceEqDiff, Go.Addr.add, ↓reduceIte] at hu1; have hCa := Kd.C_below HR1.out hB; obtain ⟨ad4, hA4, hx0⟩ := Kd.at_int hCa 0 (by omega) (by omega); obtain ⟨ad5, hA5, hx1⟩ := Kd.at_int hCa 1 (by omega) (by omega); subst hA4; obtain rfl : ad4 = ad5 := (by injection hA5); rw [show (0 : Int).toNat = 0 from rfl, Addr.add_zero', show rd [(x : Int), (y : Int)] 0 = (x : Int) from rfl] at hx0; rw [show rd [(x : Int), (y : Int)] 1 = (y : Int) from rfl] at hx1; simp only [show (1 : Int).toNat = 1 from rfl, Nat.reduceMul, Nat.reduceEqDiff, Go.Addr.add, ↓reduceIte] at hx1; have HG2 := HG1.out.below hB; have hg1 := (HG2 u hut).1; have hg2 := (HG2 u hut).2 v hvs; rw [← HD1.out] at hg2; have hg3 := (HG2 x hx).1; have hg4 := (HG2 x hx).2 y hy; rw [← HD0.out] at hg4; have HB2 := Aside0.mk (below_then HB1.out HB1.out.size hB); clear HG2 hB hR hC2 hA3 hCa hA5))
    go_quiet (fail)
    go_wp2
    go_ret
    exact ⟨by first | (simp; done) | (simp; rfl), pw_below_drewN HB2.out _⟩
def impl_firstWay.lenOf : Value → Nat
  | .slice _ n _ => n
  | _ => 0
theorem impl_firstWay.fw_end {rows : List (List Int)} {s t : ByteArray} {k : Nat} {x y : Int} {o : List Nat} (h : impl_firstWay.fw rows s t k x y = some o) (hp : ¬ 0 < impl_firstWay.dv rows x y) : o = [] := by
  cases k with
  | zero => simp only [impl_firstWay.fw] at h; rw [if_pos (by omega)] at h; exact (Option.some.inj h).symm
  | succ k => simp only [impl_firstWay.fw] at h; rw [if_pos (by omega)] at h; exact (Option.some.inj h).symm
theorem impl_firstWay.fw_pos {rows : List (List Int)} {s t : ByteArray} {k : Nat} {x y : Int} {o : List Nat} (h : impl_firstWay.fw rows s t k x y = some o) (hp : 0 < impl_firstWay.dv rows x y) : ∃ k', k = k' + 1 := by
  cases k with
  | zero => simp only [impl_firstWay.fw] at h; rw [if_neg (by omega)] at h; cases h
  | succ k => exact ⟨k, rfl⟩
theorem impl_firstWay.wid (m : Nat) (h : m < 4) : (Utf8.decode ⟨#[101, 110, 115, 119]⟩ m).2 = 1 := by
  have c : m = 0 ∨ m = 1 ∨ m = 2 ∨ m = 3 := by omega
  rcases c with rfl | rfl | rfl | rfl <;> (rw [decode_ascii _ _ (by decide) (by decide)])
theorem impl_firstWay.ipos {w : World} {k : Nat} {s : ByteArray} {p : Nat} (h : w.heap[k]? = some (.stringIter s p)) : w.iterPos k = p := by simp [World.iterPos, h]
/-- The bytes so far as a text. -/
theorem impl_firstWay.conv {w : World} {B : Nat} {v : Value} {ws : List Int} (h : Kd.R (Kd.int .u8) 5 w B (fun _ => True) v ws) (q : Nat) : (convert 72 9 v).run Try.prog (w.drewN q) = .ok (.string (strOfNums ws)) (w.drewN q) := by
  have h' := Kd.R_drewN h q
  obtain ⟨inner, ho⟩ := Kd.R_own h'
  rcases ho.2 with ⟨rfl, h0⟩ | ⟨g, cap, cur, rfl, hg, hh, -⟩
  · have e : ws = [] := List.eq_nil_of_length_eq_zero h0
    subst e
    exact run_convert_bytes_nil (w.drewN q) 72 5 Try.underlying72 Try.underlying5 0 0 9 Try.underlying9
  · refine run_convert_bytes_arg (w.drewN q) 72 5 Try.underlying72 Try.underlying5 g 0 ws.length cap ws rfl (fun i hi => ?_) 9 Try.underlying9
    obtain ⟨ad, hA, hc⟩ := Kd.at_int (Kd.R_reads' h').2.2 (i : Int) (by omega) (by omega)
    injection hA with hA
    subst hA
    rw [Int.toNat_natCast, Addr.add_lit] at hc
    rw [hc]
    simp [rd]
set_option maxHeartbeats 8000000 in
set_option maxRecDepth 100000 in
theorem impl_firstWay.walk (s t : ByteArray) (hS : impl_driveIn.Sized s t) (p : Nat) (rows : List (List Int)) (hR : impl_firstWay.Rect rows t.size s.size) (b o : Nat) (bl ol cp : Nat → Nat) (c0 : Nat) (A : Option Addr) (c : Nat) (x y : Nat) (w : World) (hG : impl_firstWay.RG w b o bl ol cp rows t.size s.size) (hr : Kd.C (Kd.int .i64) w A 2 [(x : Int), (y : Int)]) (hc : 2 ≤ c) (hx : x < t.size) (hy : y < s.size) (hp : w.heap[p]? = some (.cells #[.string s, .string t] 27 (0, 0))) (k : Nat) (out : List Nat) (h : impl_firstWay.fw rows s t k x y = some out) :
    Calls Try.prog 62 #[.slice (some ⟨b, o, none⟩) t.size c0, .slice A 2 c, .func (.func 71) #[] #[.pointer (some ⟨p, 0, none⟩)]] w fun e w' => e = .returned (.string (strOfNums (out.map impl_driveIn.sg))) ∧ Below w.heap.size w w' := by
  obtain ⟨T, hT⟩ : ∃ T, T = out.map impl_driveIn.sg := ⟨_, rfl⟩
  rw [← hT]
  have HS := Aside0.mk hS
  have HRc := Aside0.mk hR
  have HG := Aside0.mk hG
  have HP := Aside0.mk hp
  have HPL := Aside0.mk (Array.getElem?_eq_some_iff.1 hp).1
  have HF0 := Aside0.mk (show Kd.F (Kd.int .i64) w (fun k => some k ≠ (Value.slice none 0 0).ownBlock) A 2 [(x : Int), (y : Int)] from Kd.F_mono (Kd.C_F (Kd.heap_int .i64) hr) (fun k _ => by simp [Value.ownBlock]))
  have HW0 := Aside0.mk (And.intro h (show ([] : List Int) ++ out.map impl_driveIn.sg = T by rw [hT]; rfl))
  have HD0 := (impl_firstWay.small hR x y hx hy).2
  clear hS hR hG hp hr h hT
  go_enter Try.func62, Try.ntmps62
  go_wp2
  go_loopw [1, 7] (fun ar wd wr => ∃ (x y : Nat) (A : Option Addr) (c : Nat) (ws : List Int) (k : Nat) (rest : List Nat), ar = .slice A 2 c ∧ 2 ≤ c ∧ x < t.size ∧ y < s.size ∧ (ws.length : Int) + impl_firstWay.dv rows x y ≤ 64 ∧ Aside0 (Kd.F (Kd.int .i64) wr (fun k => some k ≠ wd.ownBlock) A 2 [(x : Int), (y : Int)]) ∧ Aside0 (Kd.R (Kd.int .u8) 5 wr w.heap.size (fun _ => True) wd ws) ∧ Aside0 (Below w.heap.size w wr) ∧ Aside0 (impl_firstWay.fw rows s t k x y = some rest ∧ ws ++ rest.map impl_driveIn.sg = T)) (fun _ wd _ => 65 - impl_firstWay.lenOf wd)
  case atStart => exact ⟨x, y, A, c, [], k, out, rfl, hc, hx, hy, by simpa using HD0, HF0, ⟨Kd.R_nil _ _ _ _ _⟩, ⟨Below.refl _ _⟩, HW0⟩
  case round =>
    clear HF0 HW0 HD0 hc hx hy
    obtain ⟨x, y, A, c, ws, k, rest, rfl, hc, hx, hy, hlen, HF, HO, HB, HW⟩ := hrel
    obtain ⟨Aw, cw, ew⟩ := Kd.R_slice HO.out
    subst ew
    obtain ⟨ad, hA, hx0⟩ := Kd.at_int (Kd.F_now HF.out) 0 (by omega) (by omega)
    obtain ⟨ad1, hA1, hx1⟩ := Kd.at_int (Kd.F_now HF.out) 1 (by omega) (by omega)
    subst hA
    obtain rfl : ad = ad1 := by injection hA1
    rw [show (0 : Int).toNat = 0 from rfl, Addr.add_zero', show rd [(x : Int), (y : Int)] 0 = (x : Int) from rfl] at hx0
    rw [show rd [(x : Int), (y : Int)] 1 = (y : Int) from rfl] at hx1
    simp only [show (1 : Int).toNat = 1 from rfl, Nat.reduceMul, Nat.reduceEqDiff, Go.Addr.add, ↓reduceIte] at hx1
    have hRG : impl_firstWay.RG wr b o bl ol cp rows t.size s.size := fun u hu => ⟨(HB.out.cell (World.block_lt_of_cell? _ _ (HG.out u hu).1)).trans (HG.out u hu).1, fun v hv => (HB.out.cell (World.block_lt_of_cell? _ _ ((HG.out u hu).2 v hv))).trans ((HG.out u hu).2 v hv)⟩
    have HRG := Aside0.mk hRG
    have hg3 := (hRG x hx).1
    have hg4 := (hRG x hx).2 y hy
    obtain ⟨d0, hd0⟩ : ∃ d0, d0 = impl_firstWay.dv rows x y := ⟨_, rfl⟩
    rw [← hd0] at hg4 hlen
    by_cases hpos : 0 < d0
    · have pb : decide (0 < d0) = true := decide_eq_true hpos
      obtain ⟨k', rfl⟩ := impl_firstWay.fw_pos HW.out.1 (by rw [← hd0]; exact hpos)
      obtain ⟨m, o', m4, hm, hno, hfw, rfl⟩ := impl_firstWay.fw_step HW.out.1 (by rw [← hd0]; exact hpos)
      have HM := Aside0.mk hm
      have HNo := Aside0.mk hno
      have HFW := Aside0.mk (And.intro hfw (show ws ++ (m :: o').map impl_driveIn.sg = T from HW.out.2))
      have HX := Aside0.mk (And.intro hx hy)
      have HD := Aside0.mk hd0
      have HLen := Aside0.mk hlen
      have HCc := Aside0.mk hc
      clear hm hno hfw hd0 hRG hA1 HW
      go_wp2
      go_quiet (fail)
      go_wp2
      clear hg3 hg4 hx0 hx1
      obtain ⟨wz, rfl⟩ : ∃ wz : World, wz = wr := ⟨wr, rfl⟩
      have HF1 := Aside0.mk (show Kd.F (Kd.int .i64) ((wz.drewN nq).iter ⟨#[101, 110, 115, 119]⟩ 0) (fun k => some k ≠ (Value.slice Aw ws.length cw).ownBlock ∧ k ≠ wz.heap.size) (some ad) 2 [(x : Int), (y : Int)] from Kd.F_alloc (Kd.F_elderB (Kd.F_drewN HF.out nq) wz.heap.size (Nat.le_refl _)) _)
      have HO1 := Aside0.mk (show Kd.R (Kd.int .u8) 5 ((wz.drewN nq).iter ⟨#[101, 110, 115, 119]⟩ 0) w.heap.size (fun k => k ≠ wz.heap.size) (.slice Aw ws.length cw) ws from Kd.R_alloc (Kd.R_mono (Kd.R_bound (Kd.R_drewN HO.out nq)) (fun k hk => Nat.ne_of_lt hk.2.2.1)) _)
      have HB1 := Aside0.mk (show Below w.heap.size w ((wz.drewN nq).iter ⟨#[101, 110, 115, 119]⟩ 0) from below_then (pw_below_drewN HB.out nq) (pw_below_drewN HB.out nq).size (below_alloc (Below.refl _ _) _))
      have HLE := Aside0.mk (show w.heap.size ≤ wz.heap.size from (pw_below_drewN HB.out nq).size)
      have HIT0 := World.iter_heap (wz.drewN nq) ⟨#[101, 110, 115, 119]⟩ 0
      clear HF HO HB HRG
      go_loopw [1, 7] (fun ar wd wi => ∃ j : Nat, j ≤ m ∧ ar = .slice (some ad) 2 c ∧ wd = .slice Aw ws.length cw ∧ wi.heap[wz.heap.size]? = some (.stringIter ⟨#[101, 110, 115, 119]⟩ j) ∧ Aside0 (Kd.F (Kd.int .i64) wi (fun k => some k ≠ (Value.slice Aw ws.length cw).ownBlock ∧ k ≠ wz.heap.size) (some ad) 2 [(x : Int), (y : Int)]) ∧ Aside0 (Kd.R (Kd.int .u8) 5 wi w.heap.size (fun k => k ≠ wz.heap.size) (.slice Aw ws.length cw) ws) ∧ Aside0 (Below w.heap.size w wi)) (fun _ _ wi => 4 - wi.iterPos wz.heap.size)
      case atStart => exact ⟨0, Nat.zero_le _, rfl, rfl, HIT0, HF1, HO1, HB1⟩
      case round =>
        clear HF1 HO1 HB1 HIT0
        obtain ⟨j, hj, rfl, rfl, hit, HF, HO, HB⟩ := hrel
        have hj4 : j < 4 := by omega
        have hnx : ∀ ty, (Instr.next (.pointer (some ⟨wz.heap.size, 0, none⟩)) true ty).run Try.prog wr = _ := fun ty => Go.Lib.run_next_any_at wr wz.heap.size ⟨#[101, 110, 115, 119]⟩ j ty hit hj4
        have hit1 := Aside0.mk (Go.Lib.iterAt_heap wr wz.heap.size ⟨#[101, 110, 115, 119]⟩ j (j + 1) hit)
        have HIT := Aside0.mk hit
        have HF1 := Aside0.mk (show Kd.F (Kd.int .i64) (wr.iterAt wz.heap.size ⟨#[101, 110, 115, 119]⟩ (j + 1)) (fun k => some k ≠ (Value.slice Aw ws.length cw).ownBlock ∧ k ≠ wz.heap.size) (some ad) 2 [(x : Int), (y : Int)] from Kd.F_step HF.out (fun k hk _ => Go.Lib.iterAt_other _ _ _ _ _ hk.2))
        have HO1 := Aside0.mk (show Kd.R (Kd.int .u8) 5 (wr.iterAt wz.heap.size ⟨#[101, 110, 115, 119]⟩ (j + 1)) w.heap.size (fun k => k ≠ wz.heap.size) (.slice Aw ws.length cw) ws from Kd.R_step HO.out (fun k hk _ => Go.Lib.iterAt_other _ _ _ _ _ hk))
        have HB1 := Aside0.mk (Go.Lib.below_iterAt HB.out HLE.out ⟨#[101, 110, 115, 119]⟩ (j + 1))
        have HIL := Aside0.mk (show wz.heap.size < (wr.iterAt wz.heap.size ⟨#[101, 110, 115, 119]⟩ (j + 1)).heap.size from (Array.getElem?_eq_some_iff.1 hit1.out).1)
        rw [impl_firstWay.wid j hj4] at hnx
        have HK := Aside0.mk (impl_firstWay.nearer s t HS.out p rows HRc.out b o bl ol cp c0 (some ad) c x y j (by omega) (wr.iterAt wz.heap.size ⟨#[101, 110, 115, 119]⟩ (j + 1)) (fun u hu => ⟨(HB1.out.cell (World.block_lt_of_cell? _ _ (HG.out u hu).1)).trans (HG.out u hu).1, fun v hv => (HB1.out.cell (World.block_lt_of_cell? _ _ ((HG.out u hu).2 v hv))).trans ((HG.out u hu).2 v hv)⟩) (Kd.F_now HF1.out) HCc.out HX.out.1 HX.out.2 ((HB1.out.block p HPL.out).trans HP.out))
        clear hit HF HO HB
        by_cases hjm : j = m
        · subst hjm
          rw [HM.out] at HK
          have hsj : ((((⟨#[101, 110, 115, 119]⟩ : ByteArray)[j]'hj4).toNat : Nat) : Int) = impl_driveIn.sg j := by
            have cj : j = 0 ∨ j = 1 ∨ j = 2 ∨ j = 3 := by omega
            rcases cj with rfl | rfl | rfl | rfl <;> rfl
          have hnr := HM.out
          unfold impl_firstWay.nr at hnr
          rw [Bool.and_eq_true, decide_eq_true_eq] at hnr
          have hat := impl_firstWay.can_at hnr.1
          have HMv := Aside0.mk (impl_driveIn.moved x y j (by omega) (by have := HX.out.1; have := HS.out.1.2; omega) (by have := HX.out.2; have := HS.out.2.2; omega))
          obtain ⟨u, hu⟩ := Int.eq_ofNat_of_zero_le hat.1.1
          obtain ⟨v, hv⟩ := Int.eq_ofNat_of_zero_le hat.2.1
          rw [hu, hv] at HMv hat hnr HFW
          have HUV := Aside0.mk (show u < t.size ∧ v < s.size from ⟨by have := hat.1.2; omega, by have := hat.2.2; omega⟩)
          have HDV := Aside0.mk (show impl_firstWay.dv rows u v = d0 - 1 by rw [HD.out]; exact hnr.2)
          have HIb := Aside0.mk (show (Try.prog.info? 5).map (fun i => (i.zero, i.size, i.bytes)) = some (some (.int .u8 0), 1, 1) from by kernel_rfl)
          clear hat hu hv hnr
          go_wp2_with (first | (go_at_call 75; refine HK.out.mono ?_; rintro e w3 ⟨rfl, hb3⟩; have HF3 := Aside0.mk (Kd.F_below HF1.out hb3); have HO3 := Aside0.mk (Kd.R_below HO1.out hb3); have HB3 := Aside0.mk (below_then HB1.out HB1.out.size hb3); clear hb3) | ((with_reducible refine gate_builtin (b := .append) (xs := #[.tmp 30, .tmp 33]) rfl ?_); at_builtin; refine Kd.R_append (Kd.int .u8) (w0 := w) w.heap.size rfl (.tmp 30) (.tmp 33) 72 5 (.int .u8 0) 1 rfl Try.underlying72 HIb.out rfl (by decide) (by omega) (.slice Aw ws.length cw) ws (impl_driveIn.sg j) [.int .u8 (impl_driveIn.sg j)] (fun _ => True) (fun _ => False) rfl ?aX ?aP (fun _ hk => hk.elim) ?aF ?aO ?aB ?aS ?aL ?_; (case aX => first | rfl | (simp; done) | (simp; rfl)); (case aP => exact rfl); (case aF => exact (fun _ _ => trivial)); (case aO => exact Kd.R_mono HO3.out (fun _ _ => trivial)); (case aB => exact HB3.out); (case aS => exact HB3.out.size); (case aL => (have := HLen.out; simp; omega)); intro v5 w5 ho5 hb5 hg5 hat5; have HO5 := Aside0.mk ho5; have HB5 := Aside0.mk hb5; have HF5 := Aside0.mk (Kd.F_now (Kd.F_after (ok := fun _ => True) (Kd.F_mono HF3.out (fun k hk => ⟨trivial, hk.1⟩)) hg5 hat5)); clear ho5 hb5 hg5 hat5) | (go_at_call 70; refine (impl_moved.calls _ _ [(x : Int), (y : Int)] (j : Int) _ _ HF5.out HCc.out HMv.out).mono ?_; rintro e w6 ⟨v6, rfl, hR6, hb6⟩; obtain ⟨A6, c6, e6⟩ := Kd.R_slice hR6; rw [show ([(u : Int), (v : Int)] : List Int).length = 2 from rfl] at e6; subst e6; have hl6 := Aside0.mk (Kd.R_reads' hR6).2.1; have HF6 := Aside0.mk (show Kd.F (Kd.int .i64) w6 (fun k => some k ≠ v5.ownBlock) A6 2 [(u : Int), (v : Int)] from Kd.F_mono (Kd.R_F (Kd.R_bound hR6)) (fun k hk e => by have := Kd.R_lt HO5.out k e.symm; omega)); have HO6 := Aside0.mk (Kd.R_below HO5.out hb6); have HB6 := Aside0.mk (below_then HB5.out HB5.out.size hb6); clear hR6 hb6))
          obtain ⟨A5, c5, e5⟩ := Kd.R_slice HO6.out
          have hlen5 : (ws ++ [impl_driveIn.sg j]).length = ws.length + 1 := by simp
          rw [hlen5] at e5
          go_roundw
          case rel => exact ⟨u, v, A6, c6, ws ++ [impl_driveIn.sg j], k', o', rfl, hl6.out, HUV.out.1, HUV.out.2, by rw [hlen5, HDV.out]; have := HLen.out; omega, HF6, HO6, HB6, ⟨HFW.out.1, by rw [← HFW.out.2]; simp⟩⟩
          case measure => rw [e5]; have := HLen.out; simp only [impl_firstWay.lenOf]; omega
        · rw [HNo.out j (by omega)] at HK
          go_wp2_with (go_at_call 75; refine HK.out.mono ?_; rintro e w3 ⟨rfl, hb3⟩; have HF3 := Aside0.mk (Kd.F_below HF1.out hb3); have HO3 := Aside0.mk (Kd.R_below HO1.out hb3); have HB3 := Aside0.mk (below_then HB1.out HB1.out.size hb3); have hit3 := Aside0.mk ((hb3.block _ HIL.out).trans hit1.out); clear hb3)
          go_roundw
          case rel => exact ⟨j + 1, by omega, rfl, rfl, hit3.out, HF3, HO3, HB3⟩
          case measure => rw [impl_firstWay.ipos hit3.out, impl_firstWay.ipos HIT.out]; omega
    · have pb : decide (0 < d0) = false := decide_eq_false hpos
      have e0 := impl_firstWay.fw_end HW.out.1 (by rw [← hd0]; exact hpos)
      have HT := Aside0.mk (show ws = T by have z := HW.out.2; rw [e0] at z; simpa using z)
      have hcv := fun q => impl_firstWay.conv HO.out q
      clear hd0 e0 hRG hA1
      go_wp2
      go_quiet (fail)
      go_wp2
      go_ret
      exact ⟨by rw [← HT.out]; rfl, pw_below_drewN HB.out _⟩
theorem impl_firstWay.fw_mono (rows : List (List Int)) (s t : ByteArray) : ∀ (k : Nat) (x y : Int), LeO (impl_firstWay.fw rows s t k x y) (impl_firstWay.fw rows s t (k + 1) x y) := by
  intro k
  induction k with
  | zero =>
    intro x y r h
    by_cases c : 0 < impl_firstWay.dv rows x y
    · obtain ⟨k', e⟩ := impl_firstWay.fw_pos h c
      cases e
    · rw [impl_firstWay.fw_end h c]
      simp only [impl_firstWay.fw]
      rw [if_pos (by omega)]
  | succ k ih =>
    intro x y r h
    by_cases c : 0 < impl_firstWay.dv rows x y
    · obtain ⟨m, o', m4, hm, hno, hfw, rfl⟩ := impl_firstWay.fw_step h c
      have z := ih _ _ _ hfw
      have nt : ∀ n, impl_firstWay.nr rows s t x y n = false → ¬ impl_firstWay.nr rows s t x y n = true := fun n hn => by rw [hn]; simp
      rw [show impl_firstWay.fw rows s t (k + 1 + 1) x y = if impl_firstWay.dv rows x y ≤ 0 then some [] else if impl_firstWay.nr rows s t x y 0 = true then (impl_firstWay.fw rows s t (k + 1) (x + impl_driveIn.dx 0) (y + impl_driveIn.dy 0)).map (0 :: ·) else if impl_firstWay.nr rows s t x y 1 = true then (impl_firstWay.fw rows s t (k + 1) (x + impl_driveIn.dx 1) (y + impl_driveIn.dy 1)).map (1 :: ·) else if impl_firstWay.nr rows s t x y 2 = true then (impl_firstWay.fw rows s t (k + 1) (x + impl_driveIn.dx 2) (y + impl_driveIn.dy 2)).map (2 :: ·) else if impl_firstWay.nr rows s t x y 3 = true then (impl_firstWay.fw rows s t (k + 1) (x + impl_driveIn.dx 3) (y + impl_driveIn.dy 3)).map (3 :: ·) else none from rfl, if_neg (by omega)]
      have cm : m = 0 ∨ m = 1 ∨ m = 2 ∨ m = 3 := by omega
      rcases cm with rfl | rfl | rfl | rfl
      · rw [if_pos hm, z]; rfl
      · rw [if_neg (nt 0 (hno 0 (by omega))), if_pos hm, z]; rfl
      · rw [if_neg (nt 0 (hno 0 (by omega))), if_neg (nt 1 (hno 1 (by omega))), if_pos hm, z]; rfl
      · rw [if_neg (nt 0 (hno 0 (by omega))), if_neg (nt 1 (hno 1 (by omega))), if_neg (nt 2 (hno 2 (by omega))), if_pos hm, z]; rfl
    · rw [impl_firstWay.fw_end h c]
      simp only [impl_firstWay.fw]
      rw [if_pos (by omega)]
def impl_firstWay.f (k : Nat) (l0 : List (List Int)) (l1 : List Int) (a2 : ByteArray × ByteArray) : Option ByteArray := if (impl_firstWay.Rect l0 a2.2.size a2.1.size ∧ impl_driveIn.Sized a2.1 a2.2) ∧ l1.length = 2 ∧ impl_driveIn.At a2.1 a2.2 (rd l1 0) (rd l1 1) then (impl_firstWay.fw l0 a2.1 a2.2 k (rd l1 0) (rd l1 1)).map (fun l => strOfNums (l.map impl_driveIn.sg)) else none
theorem impl_firstWay.mono : ∀ a0 a1 a2 k, LeO (impl_firstWay.f k a0 a1 a2) (impl_firstWay.f (k + 1) a0 a1 a2) := fun a0 a1 a2 k => by
  intro r h
  unfold impl_firstWay.f at h ⊢
  split at h
  · rename_i c
    rw [if_pos c]
    obtain ⟨l, h1, h2⟩ := Option.map_eq_some_iff.1 h
    rw [impl_firstWay.fw_mono _ _ _ _ _ _ _ h1, ← h2]
    rfl
  · cases h
theorem impl_firstWay.calls (k : Nat) (A0 : Option Addr) (c0 : Nat) (l0 : List (List Int)) (A1 : Option Addr) (c1 : Nat) (l1 : List Int) (a2 : ByteArray × ByteArray) (r : ByteArray) (w : World) (hr0 : Kd.C (Kd.slice 3 (Kd.int .i64)) w A0 l0.length l0) (hc0 : l0.length ≤ c0) (hr1 : Kd.C (Kd.int .i64) w A1 l1.length l1) (hc1 : l1.length ≤ c1) (h : impl_firstWay.f k l0 l1 a2 = some r) (p : Nat) (hp : w.heap[p]? = some (.cells #[.string a2.1, .string a2.2] 27 (0, 0))) :
    Calls Try.prog 62 #[.slice A0 l0.length c0, .slice A1 l1.length c1, .func (.func 71) #[] #[.pointer (some ⟨p, 0, none⟩)]] w fun e w' => e = .returned (.string r) ∧ Below w.heap.size w w' := by
  unfold impl_firstWay.f at h
  split at h
  · rename_i cc
    obtain ⟨⟨hR, hS⟩, hl, ⟨x0, x1⟩, y0, y1⟩ := cc
    obtain ⟨l, h1, rfl⟩ := Option.map_eq_some_iff.1 h
    obtain ⟨b, o, bl, ol, cp, rfl, hG⟩ := impl_firstWay.rg hr0 hR (by omega) (by omega)
    obtain ⟨x, hx⟩ := Int.eq_ofNat_of_zero_le x0
    obtain ⟨y, hy⟩ := Int.eq_ofNat_of_zero_le y0
    have e : l1 = [(x : Int), (y : Int)] := by
      match l1, hl with
      | [u, v], _ =>
        have hu : u = (x : Int) := hx
        have hv : v = (y : Int) := hy
        rw [hu, hv]
    rw [hx, hy] at h1
    rw [hl] at hr1 hc1 ⊢
    rw [hR.1]
    exact impl_firstWay.walk a2.1 a2.2 hS p l0 hR b o bl ol cp c0 A1 c1 x y w hG (by rw [← e]; exact hr1) hc1 (by omega) (by omega) hp k l h1
  · cases h

/-! ### spec_FirstDrive: function 35 (a contract of this repo) -/
/-- Whether a step of the reference leads to a corner so far. -/
def spec_FirstDrive.ok (far : List Int) (s t : ByteArray) (n : Int) (x y : Int) (m : Nat) : Bool := impl_driveIn.can s t x y m && decide (rd far ((x + impl_driveIn.dx m) * s.size + (y + impl_driveIn.dy m)) = n)
/-- The first way by these numbers. -/
def spec_FirstDrive.fd (far : List Int) (s t : ByteArray) : Nat → Int → Int → Option (List Nat)
  | 0, _, _ => some []
  | n + 1, x, y => if spec_FirstDrive.ok far s t n x y 0 = true then (spec_FirstDrive.fd far s t n (x + impl_driveIn.dx 0) (y + impl_driveIn.dy 0)).map (0 :: ·) else if spec_FirstDrive.ok far s t n x y 1 = true then (spec_FirstDrive.fd far s t n (x + impl_driveIn.dx 1) (y + impl_driveIn.dy 1)).map (1 :: ·) else if spec_FirstDrive.ok far s t n x y 2 = true then (spec_FirstDrive.fd far s t n (x + impl_driveIn.dx 2) (y + impl_driveIn.dy 2)).map (2 :: ·) else if spec_FirstDrive.ok far s t n x y 3 = true then (spec_FirstDrive.fd far s t n (x + impl_driveIn.dx 3) (y + impl_driveIn.dy 3)).map (3 :: ·) else none
theorem spec_FirstDrive.fd_step {far : List Int} {s t : ByteArray} {n : Nat} {x y : Int} {o : List Nat} (h : spec_FirstDrive.fd far s t (n + 1) x y = some o) : ∃ m o', m < 4 ∧ spec_FirstDrive.ok far s t n x y m = true ∧ (∀ i, i < m → spec_FirstDrive.ok far s t n x y i = false) ∧ spec_FirstDrive.fd far s t n (x + impl_driveIn.dx m) (y + impl_driveIn.dy m) = some o' ∧ o = m :: o' := by
  simp only [spec_FirstDrive.fd] at h
  by_cases c0 : spec_FirstDrive.ok far s t n x y 0 = true
  · rw [if_pos c0] at h
    obtain ⟨o', h1, h2⟩ := Option.map_eq_some_iff.1 h
    exact ⟨0, o', by omega, c0, fun n hn => by omega, h1, h2.symm⟩
  rw [if_neg c0] at h
  by_cases c1 : spec_FirstDrive.ok far s t n x y 1 = true
  · rw [if_pos c1] at h
    obtain ⟨o', h1, h2⟩ := Option.map_eq_some_iff.1 h
    refine ⟨1, o', by omega, c1, fun n hn => ?_, h1, h2.symm⟩
    obtain rfl : n = 0 := by omega
    simpa using c0
  rw [if_neg c1] at h
  by_cases c2 : spec_FirstDrive.ok far s t n x y 2 = true
  · rw [if_pos c2] at h
    obtain ⟨o', h1, h2⟩ := Option.map_eq_some_iff.1 h
    refine ⟨2, o', by omega, c2, fun n hn => ?_, h1, h2.symm⟩
    have q : n = 0 ∨ n = 1 := by omega
    rcases q with rfl | rfl
    · simpa using c0
    · simpa using c1
  rw [if_neg c2] at h
  by_cases c3 : spec_FirstDrive.ok far s t n x y 3 = true
  · rw [if_pos c3] at h
    obtain ⟨o', h1, h2⟩ := Option.map_eq_some_iff.1 h
    refine ⟨3, o', by omega, c3, fun n hn => ?_, h1, h2.symm⟩
    have q : n = 0 ∨ n = 1 ∨ n = 2 := by omega
    rcases q with rfl | rfl | rfl
    · simpa using c0
    · simpa using c1
    · simpa using c2
  · rw [if_neg c3] at h
    cases h
theorem spec_FirstDrive.fd_len {far : List Int} {s t : ByteArray} : ∀ {n : Nat} {x y : Int} {o : List Nat}, spec_FirstDrive.fd far s t n x y = some o → o.length = n
  | 0, _, _, _, h => by simp only [spec_FirstDrive.fd] at h; rw [← Option.some.inj h]; rfl
  | n + 1, _, _, _, h => by
    obtain ⟨m, o', -, -, -, hf, rfl⟩ := spec_FirstDrive.fd_step h
    rw [List.length_cons, spec_FirstDrive.fd_len hf]
/-- The word of signs' indices. -/
def spec_FirstDrive.word (l : List Nat) : ByteArray := strOfNums (l.map impl_driveIn.sg)
theorem spec_FirstDrive.word_size (l : List Nat) : (spec_FirstDrive.word l).size = l.length := by
  show (((l.map impl_driveIn.sg).map fun n => UInt8.ofNat n.toNat).toArray).size = l.length
  simp
theorem spec_FirstDrive.word_snoc (l : List Nat) (m : Nat) : spec_FirstDrive.word l ++ ⟨#[UInt8.ofNat (impl_driveIn.sg m).toNat]⟩ = spec_FirstDrive.word (l ++ [m]) := by
  unfold spec_FirstDrive.word strOfNums
  rw [List.map_append, List.map_append]
  apply ByteArray.ext
  simp
theorem spec_FirstDrive.enc (m : Nat) : Utf8.encode (impl_driveIn.sg m) = ⟨#[UInt8.ofNat (impl_driveIn.sg m).toNat]⟩ ∧ IntKind.i32.wrap (impl_driveIn.sg m) = impl_driveIn.sg m := by
  have c : impl_driveIn.sg m = 101 ∨ impl_driveIn.sg m = 110 ∨ impl_driveIn.sg m = 115 ∨ impl_driveIn.sg m = 119 := by unfold impl_driveIn.sg; split <;> (try split) <;> (try split) <;> simp
  rcases c with c | c | c | c <;> rw [c] <;> exact ⟨by decide, by decide⟩
theorem spec_FirstDrive.cells {W : World} {e base g n c : Nat} {ok : Nat → Prop} {far : List Int} (h : Kd.R (Kd.int .i64) e W base ok (.slice (some ⟨g, 0, none⟩) n c) far) (j : Nat) (hj : j < far.length) : W.cell? ⟨g, j, none⟩ = some (.int .i64 (rd far (j : Int))) := by
  have hn := (Kd.R_reads' h).1
  obtain ⟨ad, hA, hc⟩ := Kd.at_int (Kd.R_reads' h).2.2 (j : Int) (by omega) (by omega)
  injection hA with hA
  subst hA
  rw [Int.toNat_natCast, Addr.add_lit, Nat.zero_add] at hc
  exact hc
def spec_FirstDrive.f (k : Nat) (s t : ByteArray) (l1 l2 : List Int) : Option (ByteArray × Bool) := (spec_owAsked.f k s t l1 l2).bind fun b => if b = true then ((spec_owDistance.f k s t l1 l2).bind fun D => if D < 0 then some (⟨#[]⟩, false) else (spec_owBack.f k s t).bind fun bt => (spec_owFar.f k bt.1 bt.2 l2).bind fun far => if ((spec_owFar.Signs s t ∧ l1.length = 2) ∧ impl_driveIn.At s t (rd l1 0) (rd l1 1)) ∧ far.length = t.size * s.size ∧ D ≤ 64 then (spec_FirstDrive.fd far s t D.toNat (rd l1 0) (rd l1 1)).map (fun l => (spec_FirstDrive.word l, true)) else none) else some (⟨#[]⟩, false)
theorem spec_FirstDrive.mono : ∀ a0_0 a0_1 a1 a2 k, LeO (spec_FirstDrive.f k a0_0 a0_1 a1 a2) (spec_FirstDrive.f (k + 1) a0_0 a0_1 a1 a2) := fun a0_0 a0_1 a1 a2 k => by
  unfold spec_FirstDrive.f
  refine LeO.bind (spec_owAsked.mono _ _ _ _ k) (fun b => ?_)
  split
  · refine LeO.bind (spec_owDistance.mono _ _ _ _ k) (fun D => ?_)
    split
    · exact LeO.refl _
    · exact LeO.bind (spec_owBack.mono _ _ k) (fun _ => LeO.bind (spec_owFar.mono _ _ _ k) (fun _ => LeO.refl _))
  · exact LeO.refl _
set_option maxHeartbeats 8000000 in
set_option maxRecDepth 100000 in
theorem spec_FirstDrive.calls (k : Nat) (a0_0 : ByteArray) (a0_1 : ByteArray) (A1 : Option Addr) (c1 : Nat) (l1 : List Int) (A2 : Option Addr) (c2 : Nat) (l2 : List Int) (r1 : ByteArray) (r2 : Bool) (w : World) (hr1 : Kd.C (Kd.int .i64) w A1 l1.length l1) (hc1 : l1.length ≤ c1) (hr2 : Kd.C (Kd.int .i64) w A2 l2.length l2) (hc2 : l2.length ≤ c2) (h : spec_FirstDrive.f k a0_0 a0_1 l1 l2 = some (r1, r2)) :
    Calls Try.prog 35 #[.agg #[.string a0_0, .string a0_1], .slice A1 l1.length c1, .slice A2 l2.length c2] w fun e w' => e = .returned (.tuple #[.string r1, .bool r2]) ∧ Below w.heap.size w w' := by
  unfold spec_FirstDrive.f at h
  obtain ⟨b, hb, h⟩ := Option.bind_eq_some_iff.1 h
  obtain ⟨wb, hwb⟩ : ∃ wb : World, w.alloc (.cells #[.string a0_0, .string a0_1] 27) = wb := ⟨_, rfl⟩
  have HBX := Aside0.mk (show wb.heap[w.heap.size]? = some (.cells #[.string a0_0, .string a0_1] 27 (0, 0)) by rw [← hwb]; exact heap_alloc_new _ _)
  have HB := Aside0.mk (show Below w.heap.size w wb by rw [← hwb]; exact below_alloc (Below.refl _ _) _)
  have HR1 := Aside0.mk (Kd.C_below hr1 HB.out)
  have HR2 := Aside0.mk (Kd.C_below hr2 HB.out)
  have hp0 : wb.cell? ⟨w.heap.size, 0, none⟩ = some (.string a0_0) := (blk_cell HBX.out 0).trans rfl
  have hp1 : wb.cell? ⟨w.heap.size, 1, none⟩ = some (.string a0_1) := (blk_cell HBX.out 1).trans rfl
  have HAs := Aside0.mk (fun (W : World) (h1 : Kd.C (Kd.int .i64) W A1 l1.length l1) (h2 : Kd.C (Kd.int .i64) W A2 l2.length l2) => spec_owAsked.calls k a0_0 a0_1 A1 c1 l1 A2 c2 l2 b W h1 hc1 h2 hc2 hb)
  clear hr1 hr2
  cases b with
  | false =>
    rw [if_neg (by simp)] at h
    simp only [Option.some.injEq, Prod.mk.injEq] at h
    obtain ⟨rfl, rfl⟩ := h
    go_enter Try.func35, Try.ntmps35
    go_wp2_with (go_at_call 48; refine (HAs.out _ HR1.out HR2.out).mono ?_; rintro e w1 ⟨rfl, hb1⟩; have HB1 := Aside0.mk (below_then HB.out HB.out.size hb1); clear hb1)
    go_ret2
    exact ⟨rfl, HB1.out⟩
  | true =>
    rw [if_pos rfl] at h
    obtain ⟨D, hD, h⟩ := Option.bind_eq_some_iff.1 h
    have HDs := Aside0.mk (fun (W : World) (h1 : Kd.C (Kd.int .i64) W A1 l1.length l1) (h2 : Kd.C (Kd.int .i64) W A2 l2.length l2) => spec_owDistance.calls k a0_0 a0_1 A1 c1 l1 A2 c2 l2 D W h1 hc1 h2 hc2 hD)
    by_cases q : D < 0
    · rw [if_pos q] at h
      simp only [Option.some.injEq, Prod.mk.injEq] at h
      obtain ⟨rfl, rfl⟩ := h
      have qb : decide (D < 0) = true := decide_eq_true q
      clear hD q
      go_enter Try.func35, Try.ntmps35
      go_wp2_with (first | (go_at_call 48; refine (HAs.out _ HR1.out HR2.out).mono ?_; rintro e w1 ⟨rfl, hb1⟩; have HB1 := Aside0.mk (below_then HB.out HB.out.size hb1); have HR11 := Aside0.mk (Kd.C_below HR1.out hb1); have HR21 := Aside0.mk (Kd.C_below HR2.out hb1); have hp0 := pw_cell_below hb1 hp0; have hp1 := pw_cell_below hb1 hp1; clear hb1) | (go_at_call 49; refine (HDs.out _ HR11.out HR21.out).mono ?_; rintro e w2 ⟨rfl, hb2⟩; have HB2 := Aside0.mk (below_then HB1.out HB1.out.size hb2); clear hb2))
      go_ret2
      exact ⟨rfl, HB2.out⟩
    · rw [if_neg q] at h
      obtain ⟨bt, hbt, h⟩ := Option.bind_eq_some_iff.1 h
      obtain ⟨far, hfar, h⟩ := Option.bind_eq_some_iff.1 h
      by_cases c : ((spec_owFar.Signs a0_0 a0_1 ∧ l1.length = 2) ∧ impl_driveIn.At a0_0 a0_1 (rd l1 0) (rd l1 1)) ∧ far.length = a0_1.size * a0_0.size ∧ D ≤ 64
      case neg => rw [if_neg c] at h; cases h
      rw [if_pos c] at h
      obtain ⟨T, hT, h⟩ := Option.map_eq_some_iff.1 h
      simp only [Prod.mk.injEq] at h
      obtain ⟨rfl, rfl⟩ := h
      obtain ⟨⟨⟨hG, hl⟩, ⟨x0, x1⟩, y0, y1⟩, hfl, hD64⟩ := c
      have qb : decide (D < 0) = false := decide_eq_false q
      have HG := Aside0.mk hG
      obtain ⟨t1, t8, s1, s8⟩ : 1 ≤ a0_1.size ∧ a0_1.size ≤ 8 ∧ 1 ≤ a0_0.size ∧ a0_0.size ≤ 8 := ⟨hG.1.1.1, hG.1.1.2, hG.1.2.1, hG.1.2.2⟩
      obtain ⟨nD, hnD⟩ := Int.eq_ofNat_of_zero_le (show 0 ≤ D by omega)
      subst hnD
      rw [Int.toNat_natCast] at hT
      obtain ⟨ad, rfl, hx0, hx1⟩ := spec_owDistance.two hl HR1.out
      obtain ⟨x, hx⟩ := Int.eq_ofNat_of_zero_le x0
      obtain ⟨y, hy⟩ := Int.eq_ofNat_of_zero_le y0
      rw [hx] at hx0 x1 hT
      rw [hy] at hx1 y1 hT
      have hxt : x < a0_1.size := by omega
      have hys : y < a0_0.size := by omega
      have HX0 := Aside0.mk hx0
      have HX1 := Aside0.mk hx1
      have HT := Aside0.mk hT
      have HFl := Aside0.mk hfl
      have HBs := Aside0.mk (fun (W : World) => spec_owBack.calls k a0_0 a0_1 bt.1 bt.2 W hbt)
      have HFs := Aside0.mk (fun (W : World) (h2 : Kd.C (Kd.int .i64) W A2 l2.length l2) => spec_owFar.calls k bt.1 bt.2 A2 c2 l2 far W h2 hc2 hfar)
      rw [hl] at HAs HDs HR1 ⊢
      clear hD q hbt hfar hl hG hT hfl hx hy x0 y0 hx0 hx1 x1 y1 hb
      go_enter Try.func35, Try.ntmps35
      go_wp2_with (first | (go_at_call 48; refine (HAs.out _ HR1.out HR2.out).mono ?_; rintro e w1 ⟨rfl, hb1⟩; have HBX1 := Aside0.mk ((hb1.block _ (Array.getElem?_eq_some_iff.1 HBX.out).1).trans HBX.out); have HB1 := Aside0.mk (below_then HB.out HB.out.size hb1); have HR11 := Aside0.mk (Kd.C_below HR1.out hb1); have HR21 := Aside0.mk (Kd.C_below HR2.out hb1); have HX01 := Aside0.mk (pw_cell_below hb1 HX0.out); have HX11 := Aside0.mk (pw_cell_below hb1 HX1.out); have hp0 := pw_cell_below hb1 hp0; have hp1 := pw_cell_below hb1 hp1; clear hb1) | (go_at_call 49; refine (HDs.out _ HR11.out HR21.out).mono ?_; rintro e w2 ⟨rfl, hb2⟩; have HBX2 := Aside0.mk ((hb2.block _ (Array.getElem?_eq_some_iff.1 HBX1.out).1).trans HBX1.out); have HB2 := Aside0.mk (below_then HB1.out HB1.out.size hb2); have HR12 := Aside0.mk (Kd.C_below HR11.out hb2); have HR22 := Aside0.mk (Kd.C_below HR21.out hb2); have HX02 := Aside0.mk (pw_cell_below hb2 HX01.out); have HX12 := Aside0.mk (pw_cell_below hb2 HX11.out); have hp0 := pw_cell_below hb2 hp0; have hp1 := pw_cell_below hb2 hp1; clear hb2 HBX1 HB1 HR11 HR21 HX01 HX11) | (go_at_call 61; refine (HBs.out _).mono ?_; rintro e w3 ⟨rfl, hb3⟩; have HBX3 := Aside0.mk ((hb3.block _ (Array.getElem?_eq_some_iff.1 HBX2.out).1).trans HBX2.out); have HB3 := Aside0.mk (below_then HB2.out HB2.out.size hb3); have HR13 := Aside0.mk (Kd.C_below HR12.out hb3); have HR23 := Aside0.mk (Kd.C_below HR22.out hb3); have HX03 := Aside0.mk (pw_cell_below hb3 HX02.out); have HX13 := Aside0.mk (pw_cell_below hb3 HX12.out); have hp0 := pw_cell_below hb3 hp0; have hp1 := pw_cell_below hb3 hp1; clear hb3) | (go_at_call 56; refine (HFs.out _ HR23.out).mono ?_; rintro e w4 ⟨v4, rfl, hR4, hb4⟩; have HBX4 := Aside0.mk ((hb4.block _ (Array.getElem?_eq_some_iff.1 HBX3.out).1).trans HBX3.out); have HB4 := Aside0.mk (below_then HB3.out HB3.out.size hb4); have HR14 := Aside0.mk (Kd.C_below HR13.out hb4); have HR24 := Aside0.mk (Kd.C_below HR23.out hb4); have hx0 := pw_cell_below hb4 HX03.out; have hx1 := pw_cell_below hb4 HX13.out; have HR4 := Aside0.mk hR4; have hp0 := pw_cell_below hb4 hp0; have hp1 := pw_cell_below hb4 hp1; clear hb4 hR4))
      clear hwb
      obtain ⟨A4, c4, e4⟩ := Kd.R_slice HR4.out
      subst e4
      have hn0 : 0 < far.length := by rw [HFl.out]; exact Nat.mul_pos (by omega) (by omega)
      have hn64 : far.length ≤ 64 := by rw [HFl.out]; exact Nat.le_trans (Nat.mul_le_mul t8 s8) (by decide)
      obtain ⟨ad4, hA4, -⟩ := Kd.at_int (Kd.R_reads' HR4.out).2.2 0 (by omega) (by omega)
      subst hA4
      obtain ⟨gf, rfl⟩ := Kd.R_head HR4.out
      go_quiet (fail)
      go_wp2_with (go_at_call 49; refine (HDs.out _ (Kd.C_drewN HR14.out nq) (Kd.C_drewN HR24.out nq)).mono ?_; rintro e w5 ⟨rfl, hb5⟩; have HBX5 := Aside0.mk ((hb5.block _ (Array.getElem?_eq_some_iff.1 HBX4.out).1).trans HBX4.out); have HB5 := Aside0.mk (below_then (pw_below_drewN HB4.out nq) (pw_below_drewN HB4.out nq).size hb5); have HFC := Aside0.mk (fun j hj => spec_FirstDrive.cells (Kd.R_below (Kd.R_drewN HR4.out nq) hb5) j hj); clear hb5)
      clear hx0 hx1 hp0 hp1 HX0 HX1 HR4 HR14 HR24 HBX4 HB4
      have hlenT := spec_FirstDrive.fd_len HT.out
      have HT0 := Aside0.mk (And.intro HT.out (show ([] : List Nat) ++ T = T from rfl))
      go_loopw [10, 11, 12, 13] (fun out xv yv lv wr => ∃ (x y n : Nat) (pre rest : List Nat), out = .string (spec_FirstDrive.word pre) ∧ xv = .int .i64 x ∧ yv = .int .i64 y ∧ lv = .int .i64 n ∧ x < a0_1.size ∧ y < a0_0.size ∧ pre.length + n ≤ 64 ∧ Aside0 (spec_FirstDrive.fd far a0_0 a0_1 n x y = some rest ∧ pre ++ rest = T) ∧ Aside0 (Below w5.heap.size w5 wr)) (fun _ _ _ lv _ => (intOf lv).toNat)
      case atStart => exact ⟨x, y, nD, [], T, rfl, rfl, rfl, rfl, hxt, hys, by simp; omega, HT0, ⟨Below.refl _ _⟩⟩
      case round =>
        clear HT0 HT hlenT hxt hys hD64 qb
        obtain ⟨x, y, L, pre, rest, rfl, rfl, rfl, rfl, hxt, hys, hlen, HW, HBw⟩ := hrel
        by_cases hL : 0 < L
        · obtain ⟨n, rfl⟩ : ∃ n, L = n + 1 := ⟨L - 1, by omega⟩
          obtain ⟨m, rest', m4, hm, hno, hfd, rfl⟩ := spec_FirstDrive.fd_step HW.out.1
          have HM := Aside0.mk hm
          have HNo := Aside0.mk hno
          have HFD := Aside0.mk (And.intro hfd (show pre ++ (m :: rest') = T from HW.out.2))
          have HX := Aside0.mk (And.intro hxt hys)
          have HLen := Aside0.mk hlen
          obtain ⟨L, hLn⟩ : ∃ L, L = n + 1 := ⟨_, rfl⟩
          rw [← hLn]
          have HLn := Aside0.mk hLn
          have hLb : decide ((0 : Int) < (L : Int)) = true := decide_eq_true (by omega)
          have hL2 : 0 < L := by omega
          have ewl : IntKind.i64.wrap ((L : Int) - 1) = (n : Int) := by rw [i64_w, Go.Proofs.Ytopbmiedlpkmjaa.Lib.w64] <;> omega
          have kc := fun (w : World) (C : Array Value) (n c : Nat) => Go.Lib.run_convert_bytes_const (P := Try.prog) w 72 5 C n c Try.underlying72 Try.underlying5
          clear hm hno hfd HW hLn hL hlen
          go_wp2
          clear kc
          obtain ⟨wo, rfl⟩ : ∃ wo, wo = wr := ⟨wr, rfl⟩
          have HBa := Aside0.mk (below_then HBw.out HBw.out.size (below_alloc (Below.refl wo.heap.size wo) (Obj.cells #[.int .u8 101, .int .u8 110, .int .u8 115, .int .u8 119] 5 (4, 5))))
          have HY := Aside0.mk (show (wo.alloc (Obj.cells #[.int .u8 101, .int .u8 110, .int .u8 115, .int .u8 119] 5 (4, 5))).heap[wo.heap.size]? = some (.cells #[.int .u8 101, .int .u8 110, .int .u8 115, .int .u8 119] 5 (4, 5)) from heap_alloc_new _ _)
          clear HBw
          go_loopw [10, 11, 12, 55] (fun out xv yv jv wi => ∃ j : Nat, j ≤ m ∧ out = .string (spec_FirstDrive.word pre) ∧ xv = .int .i64 x ∧ yv = .int .i64 y ∧ jv = .int .i64 j ∧ Aside0 (Below w5.heap.size w5 wi) ∧ Aside0 (wi.heap[wo.heap.size]? = some (.cells #[.int .u8 101, .int .u8 110, .int .u8 115, .int .u8 119] 5 (4, 5)))) (fun _ _ _ jv _ => 4 - (intOf jv).toNat)
          case atStart => exact ⟨0, Nat.zero_le _, rfl, rfl, rfl, rfl, HBa, HY⟩
          case round =>
            clear HBa HY
            obtain ⟨j, hj, rfl, rfl, rfl, rfl, HBw, HY⟩ := hrel
            have hj4 : j < 4 := by omega
            have hsg : wr.cell? ⟨wo.heap.size, j, none⟩ = some (.int .u8 (impl_driveIn.sg j)) := by
              have cm : j = 0 ∨ j = 1 ∨ j = 2 ∨ j = 3 := by omega
              simp only [World.cell?, HY.out]
              rcases cm with rfl | rfl | rfl | rfl <;> rfl
            have hBXw := (HBw.out.block _ (Array.getElem?_eq_some_iff.1 HBX5.out).1).trans HBX5.out
            have hp0 : wr.cell? ⟨w.heap.size, 0, none⟩ = some (.string a0_0) := (blk_cell hBXw 0).trans rfl
            have hp1 : wr.cell? ⟨w.heap.size, 1, none⟩ = some (.string a0_1) := (blk_cell hBXw 1).trans rfl
            obtain ⟨ko, u, v, HOs, hmv⟩ := spec_owFar.one a0_0 a0_1 HG.out x y j (by omega) HX.out.1 HX.out.2
            cases hcan : impl_driveIn.can a0_0 a0_1 x y j with
            | false =>
              have hjm : j < m := Nat.lt_of_le_of_ne hj (fun e => by
                have z := HM.out
                rw [← e] at z
                unfold spec_FirstDrive.ok at z
                rw [hcan] at z
                simp at z)
              rw [hcan] at HOs
              replace HOs := Aside0.mk HOs
              clear hcan hmv
              go_wp2_with (go_at_call 44; refine (spec_owStep.calls ko a0_0 a0_1 (x : Int) (y : Int) (impl_driveIn.sg j) u v false _ HOs.out).mono ?_; rintro e w6 ⟨rfl, hb6⟩; have HB6 := Aside0.mk (below_then HBw.out HBw.out.size hb6); have HY6 := Aside0.mk ((hb6.block _ (Array.getElem?_eq_some_iff.1 HY.out).1).trans HY.out); clear hb6)
              go_roundw
              case rel => exact ⟨j + 1, hjm, rfl, rfl, rfl, by go_num, HB6, HY6⟩
              case measure => simp [intOf]; omega
            | true =>
              rw [hcan] at HOs
              replace HOs := Aside0.mk HOs
              obtain ⟨hu, hv⟩ := hmv hcan
              have hat := hcan
              unfold impl_driveIn.can at hat
              rw [Bool.and_eq_true, decide_eq_true_eq, ← hu, ← hv] at hat
              obtain ⟨ux, rfl⟩ := Int.eq_ofNat_of_zero_le hat.1.1.1
              obtain ⟨vy, rfl⟩ := Int.eq_ofNat_of_zero_le hat.1.2.1
              have hux : ux < a0_1.size := by have := hat.1.1.2; omega
              have hvy : vy < a0_0.size := by have := hat.1.2.2; omega
              obtain ⟨nx, hnx⟩ : ∃ nx, nx = ux * a0_0.size + vy := ⟨_, rfl⟩
              have hnxl : nx < far.length := by rw [hnx, HFl.out]; exact spec_owFar.cd_lt _ _ _ _ hux hvy
              obtain ⟨m2, hm2⟩ : ∃ m2, m2 = ux * a0_0.size := ⟨_, rfl⟩
              have hm2n : m2 ≤ nx := by omega
              have e3 : IntKind.i64.wrap ((ux : Int) * (a0_0.size : Int)) = (m2 : Int) := by rw [i64_w, ← Int.natCast_mul, ← hm2, Go.Proofs.Ytopbmiedlpkmjaa.Lib.w64] <;> omega
              have e4 : IntKind.i64.wrap ((m2 : Int) + (vy : Int)) = (nx : Int) := by rw [i64_w, Go.Proofs.Ytopbmiedlpkmjaa.Lib.w64] <;> omega
              obtain ⟨fv, hfv⟩ : ∃ fv, fv = rd far (nx : Int) := ⟨_, rfl⟩
              have hok : spec_FirstDrive.ok far a0_0 a0_1 n x y j = decide (fv = (n : Int)) := by
                unfold spec_FirstDrive.ok
                rw [hcan, Bool.true_and, ← hu, ← hv, hfv, hnx, Int.natCast_add, Int.natCast_mul]
              have HFV := Aside0.mk (show ∀ W : World, Below w5.heap.size w5 W → W.cell? ⟨gf, nx, none⟩ = some (.int .i64 fv) from fun W hW => by
                rw [hfv]
                exact (hW.cell (World.block_lt_of_cell? _ _ (HFC.out nx hnxl))).trans (HFC.out nx hnxl))
              have HUV := Aside0.mk (And.intro hux hvy)
              have HU := Aside0.mk (And.intro hu hv)
              clear hat hux hvy hnx hm2 hfv hcan hmv hu hv
              by_cases qe : fv = (n : Int)
              · have qb : (fv == (n : Int)) = true := beq_iff_eq.2 qe
                have hjm : j = m := by
                  rcases Nat.lt_or_ge j m with h' | h'
                  · have z := HNo.out j h'
                    rw [hok, decide_eq_true qe] at z
                    cases z
                  · omega
                subst hjm
                obtain ⟨henc, hw32⟩ := spec_FirstDrive.enc j
                have hwz := spec_FirstDrive.word_size pre
                have hz : (9223372036854775807 < pre.length + 1) = False := eq_false (by have := HLen.out; omega)
                clear hok qe
                go_wp2_with (go_at_call 44; refine (spec_owStep.calls ko a0_0 a0_1 (x : Int) (y : Int) (impl_driveIn.sg j) (ux : Int) (vy : Int) true _ HOs.out).mono ?_; rintro e w6 ⟨rfl, hb6⟩; have HB6 := Aside0.mk (below_then HBw.out HBw.out.size hb6); have HY6 := Aside0.mk ((hb6.block _ (Array.getElem?_eq_some_iff.1 HY.out).1).trans HY.out); have hcel := HFV.out _ HB6.out; clear hb6)
                go_roundw
                case rel => exact ⟨ux, vy, n, pre ++ [j], rest', by rw [← spec_FirstDrive.word_snoc], rfl, rfl, by go_num, HUV.out.1, HUV.out.2, by have := HLen.out; simp; omega, ⟨by rw [HU.out.1, HU.out.2]; exact HFD.out.1, by rw [← HFD.out.2]; simp⟩, HB6⟩
                case measure => have := HLn.out; simp [intOf]; omega
              · have qb : (fv == (n : Int)) = false := beq_eq_false_iff_ne.2 qe
                have hjm : j < m := Nat.lt_of_le_of_ne hj (fun e => by
                  have z := HM.out
                  rw [← e, hok, decide_eq_false qe] at z
                  cases z)
                clear hok qe
                go_wp2_with (go_at_call 44; refine (spec_owStep.calls ko a0_0 a0_1 (x : Int) (y : Int) (impl_driveIn.sg j) (ux : Int) (vy : Int) true _ HOs.out).mono ?_; rintro e w6 ⟨rfl, hb6⟩; have HB6 := Aside0.mk (below_then HBw.out HBw.out.size hb6); have HY6 := Aside0.mk ((hb6.block _ (Array.getElem?_eq_some_iff.1 HY.out).1).trans HY.out); have hcel := HFV.out _ HB6.out; clear hb6)
                go_roundw
                case rel => exact ⟨j + 1, hjm, rfl, rfl, rfl, by go_num, HB6, HY6⟩
                case measure => simp [intOf]; omega
        · obtain rfl : L = 0 := by omega
          have e0 : rest = [] := by have z := HW.out.1; simp only [spec_FirstDrive.fd] at z; exact (Option.some.inj z).symm
          have HE := Aside0.mk (show pre = T by have z := HW.out.2; rw [e0] at z; simpa using z)
          clear e0 hL
          go_wp2
          go_ret2
          exact ⟨by rw [← HE.out]; rfl, below_then HB5.out HB5.out.size HBw.out⟩

end Go.Proofs.Ytopbmiedlpkmjaa.MK
