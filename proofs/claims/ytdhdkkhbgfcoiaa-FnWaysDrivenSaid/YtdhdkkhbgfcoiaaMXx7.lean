-- The machine side, written by this repo's program mp.py; contracts marked as of this repo are this session's own.
import Derived.Test.YtdhdkkhbgfcoiaaMXx0
import Derived.Test.YtdhdkkhbgfcoiaaMXx4
import Derived.Test.YtdhdkkhbgfcoiaaMXx5
import Derived.Test.YtdhdkkhbgfcoiaaMXx6
namespace Go.Proofs.Ytdhdkkhbgfcoiaa.MX
open Go.RowKit Go.Proofs.YtdhdkkhbgfcoiaaW.PrintWords Go.Proofs.YtdhdkkhbgfcoiaaW.PrintLast Go.Proofs.YtdhdkkhbgfcoiaaW.PrintMore
attribute [local go_sem] max2_int min2_int max_two min_two max_three min_three max_four min_four   -- for this text's walks alone
set_option maxHeartbeats 8000000
set_option maxRecDepth 100000
set_option linter.unusedVariables false
set_option linter.unusedSimpArgs false
def impl_firstWay.dv (rows : List (List Int)) (x y : Int) : Int := rd (rows.getD x.toNat []) y
def impl_firstWay.nr (rows : List (List Int)) (s t : ByteArray) (x y : Int) (n : Nat) : Bool := impl_driveIn.can s t x y n && decide (impl_firstWay.dv rows (x + impl_driveIn.dx n) (y + impl_driveIn.dy n) = impl_firstWay.dv rows x y - 1)
def impl_firstWay.Rect (rows : List (List Int)) (W H : Nat) : Prop := rows.length = W ∧ ∀ r ∈ rows, r.length = H ∧ ∀ v ∈ r, -1 ≤ v ∧ v ≤ 64
instance (rows : List (List Int)) (W H : Nat) : Decidable (impl_firstWay.Rect rows W H) := by unfold impl_firstWay.Rect; infer_instance
def impl_firstWay.fw (rows : List (List Int)) (s t : ByteArray) : Nat → Int → Int → Option (List Nat)
 | 0, x, y => if impl_firstWay.dv rows x y ≤ 0 then some [] else none
 | k + 1, x, y => if impl_firstWay.dv rows x y ≤ 0 then some [] else if impl_firstWay.nr rows s t x y 0 = true then (impl_firstWay.fw rows s t k (x + impl_driveIn.dx 0) (y + impl_driveIn.dy 0)).map (0 :: ·) else if impl_firstWay.nr rows s t x y 1 = true then (impl_firstWay.fw rows s t k (x + impl_driveIn.dx 1) (y + impl_driveIn.dy 1)).map (1 :: ·) else if impl_firstWay.nr rows s t x y 2 = true then (impl_firstWay.fw rows s t k (x + impl_driveIn.dx 2) (y + impl_driveIn.dy 2)).map (2 :: ·) else if impl_firstWay.nr rows s t x y 3 = true then (impl_firstWay.fw rows s t k (x + impl_driveIn.dx 3) (y + impl_driveIn.dy 3)).map (3 :: ·) else none
theorem impl_firstWay.fw_step {rows : List (List Int)} {s t : ByteArray} {k : Nat} {x y : Int} {o : List Nat} (h : impl_firstWay.fw rows s t (k + 1) x y = some o) (hp : 0 < impl_firstWay.dv rows x y) : ∃ m o', m < 4 ∧ impl_firstWay.nr rows s t x y m = true ∧ (∀ n, n < m → impl_firstWay.nr rows s t x y n = false) ∧ impl_firstWay.fw rows s t k (x + impl_driveIn.dx m) (y + impl_driveIn.dy m) = some o' ∧ o = m :: o' := by
 simp only [impl_firstWay.fw] at h
 rw [if_neg (by omega)] at h
 by_cases c0 : impl_firstWay.nr rows s t x y 0 = true
 ·rw [if_pos c0] at h
  obtain ⟨o', h1, h2⟩ := Option.map_eq_some_iff.1 h
  exact ⟨0, o', by omega, c0, fun n hn => by omega, h1, h2.symm⟩
 rw [if_neg c0] at h
 by_cases c1 : impl_firstWay.nr rows s t x y 1 = true
 ·rw [if_pos c1] at h
  obtain ⟨o', h1, h2⟩ := Option.map_eq_some_iff.1 h
  refine ⟨1, o', by omega, c1, fun n hn => ?_, h1, h2.symm⟩
  obtain rfl : n = 0 := by omega
  simpa using c0
 rw [if_neg c1] at h
 by_cases c2 : impl_firstWay.nr rows s t x y 2 = true
 ·rw [if_pos c2] at h
  obtain ⟨o', h1, h2⟩ := Option.map_eq_some_iff.1 h
  refine ⟨2, o', by omega, c2, fun n hn => ?_, h1, h2.symm⟩
  have q : n = 0 ∨ n = 1 := by omega
  rcases q with rfl | rfl
  ·simpa using c0
  ·simpa using c1
 rw [if_neg c2] at h
 by_cases c3 : impl_firstWay.nr rows s t x y 3 = true
 ·rw [if_pos c3] at h
  obtain ⟨o', h1, h2⟩ := Option.map_eq_some_iff.1 h
  refine ⟨3, o', by omega, c3, fun n hn => ?_, h1, h2.symm⟩
  have q : n = 0 ∨ n = 1 ∨ n = 2 := by omega
  rcases q with rfl | rfl | rfl
  ·simpa using c0
  ·simpa using c1
  ·simpa using c2
 ·rw [if_neg c3] at h
  cases h
theorem impl_firstWay.can_at {s t : ByteArray} {x y : Int} {n : Nat} (h : impl_driveIn.can s t x y n = true) : impl_driveIn.At s t (x + impl_driveIn.dx n) (y + impl_driveIn.dy n) := by
 unfold impl_driveIn.can at h
 simp only [Bool.and_eq_true, decide_eq_true_eq] at h
 exact ⟨⟨h.1.1.1, by omega⟩, h.1.2.1, by omega⟩
theorem impl_firstWay.plain {w : World} {ad : Addr} {v : Value} (h : w.cell? ad = some v) : ∃ b o, ad = ⟨b, o, none⟩ := by
 obtain ⟨b, o, sp⟩ := ad
 cases sp with
 | none => exact ⟨b, o, rfl⟩
 | some z => simp only [World.cell?] at h; split at h <;> simp at h
def impl_firstWay.RG (w : World) (b o : Nat) (bl ol cp : Nat → Nat) (rows : List (List Int)) (W H : Nat) : Prop := ∀ x, x < W → w.cell? ⟨b, o + x, none⟩ = some (.slice (some ⟨bl x, ol x, none⟩) H (cp x)) ∧ ∀ y, y < H → w.cell? ⟨bl x, ol x + y, none⟩ = some (.int .i64 (impl_firstWay.dv rows x y))
theorem impl_firstWay.RG.below {w w' : World} {b o : Nat} {bl ol cp : Nat → Nat} {rows : List (List Int)} {W H : Nat} (h : impl_firstWay.RG w b o bl ol cp rows W H) (hb : Below w.heap.size w w') : impl_firstWay.RG w' b o bl ol cp rows W H := fun x hx => ⟨pw_cell_below hb (h x hx).1, fun y hy => pw_cell_below hb ((h x hx).2 y hy)⟩
theorem impl_firstWay.rg {w : World} {A : Option Addr} {rows : List (List Int)} {W H : Nat} (h : Kd.C (Kd.slice 3 (Kd.int .i64)) w A rows.length rows) (hR : impl_firstWay.Rect rows W H) (hW : 0 < W) (hH : 0 < H) : ∃ b o bl ol cp, A = some ⟨b, o, none⟩ ∧ impl_firstWay.RG w b o bl ol cp rows W H := by
 obtain ⟨hl, hr⟩ := hR
 have key : ∀ x : Nat, ∃ q : Nat × Nat × Nat, x < W → ∃ ad, A = some ad ∧ w.cell? (ad.add x) = some (.slice (some ⟨q.1, q.2.1, none⟩) H q.2.2) ∧ ∀ y, y < H → w.cell? ⟨q.1, q.2.1 + y, none⟩ = some (.int .i64 (impl_firstWay.dv rows x y)) := by
  intro x
  by_cases hx : x < W
  ·obtain ⟨ad, c, hA, hcl, ⟨A', c', rfl, hl', hC⟩, hcc⟩ := Kd.C_get h [] (x : Int) (by omega) (by omega)
   rw [Int.toNat_natCast] at hC hcc hl'
   have hxl : x < rows.length := by omega
   have hg : rows.getD x [] = rows[x] := by rw [List.getD_eq_getElem?_getD, List.getElem?_eq_getElem hxl]; rfl
   have hlen : (rows.getD x []).length = H := by rw [hg]; exact (hr _ (List.getElem_mem hxl)).1
   obtain ⟨ad2, hA2, hc2⟩ := Kd.at_int hC 0 (by omega) (by omega)
   rw [show (0 : Int).toNat = 0 from rfl, Addr.add_zero'] at hc2
   obtain ⟨b2, o2, rfl⟩ := impl_firstWay.plain hc2
   subst hA2
   refine ⟨(b2, o2, c'), fun _ => ⟨ad, hA, ?_, fun y hy => ?_⟩⟩
   ·have z := hcc 0 _ rfl
    rw [hlen] at z
    simpa [Kd.slice] using z
   ·obtain ⟨ad3, hA3, hc3⟩ := Kd.at_int hC (y : Int) (by omega) (by omega)
    injection hA3 with hA3
    subst hA3
    rw [Int.toNat_natCast, Addr.add_lit] at hc3
    unfold impl_firstWay.dv
    rw [Int.toNat_natCast]
    exact hc3
  ·exact ⟨(0, 0, 0), fun z => absurd z hx⟩
 obtain ⟨ad, hA, h0, -⟩ := Classical.choose_spec (key 0) hW
 rw [Addr.add_zero'] at h0
 obtain ⟨b, o, rfl⟩ := impl_firstWay.plain h0
 subst hA
 refine ⟨b, o, fun x => (Classical.choose (key x)).1, fun x => (Classical.choose (key x)).2.1, fun x => (Classical.choose (key x)).2.2, rfl, fun x hx => ?_⟩
 obtain ⟨ad, hA, h0, h1⟩ := Classical.choose_spec (key x) hx
 injection hA with hA
 subst hA
 rw [Addr.add_lit] at h0
 exact ⟨h0, h1⟩
theorem impl_firstWay.small {rows : List (List Int)} {W H : Nat} (hR : impl_firstWay.Rect rows W H) (x y : Nat) (hx : x < W) (hy : y < H) : -1 ≤ impl_firstWay.dv rows x y ∧ impl_firstWay.dv rows x y ≤ 64 := by
 obtain ⟨hl, hr⟩ := hR
 have hxl : x < rows.length := by omega
 unfold impl_firstWay.dv
 rw [Int.toNat_natCast, List.getD_eq_getElem?_getD, List.getElem?_eq_getElem hxl]
 obtain ⟨h1, h2⟩ := hr _ (List.getElem_mem hxl)
 have hy2 : y < (rows[x]).length := by omega
 show -1 ≤ rd rows[x] (y : Int) ∧ rd rows[x] (y : Int) ≤ 64
 have e : rd rows[x] (y : Int) = rows[x][y] := by simp [rd, hy2]
 rw [e]
 exact h2 _ (List.getElem_mem hy2)
theorem impl_firstWay.nearer (s t : ByteArray) (hS : impl_driveIn.Sized s t) (p : Nat) (rows : List (List Int)) (hR : impl_firstWay.Rect rows t.size s.size) (b o : Nat) (bl ol cp : Nat → Nat) (c0 : Nat) (A : Option Addr) (c : Nat) (x y : Nat) (n : Nat) (hn : n ≤ 3) (w : World) (hG : impl_firstWay.RG w b o bl ol cp rows t.size s.size) (hr : Kd.C (Kd.int .i64) w A 2 [(x : Int), (y : Int)]) (hc : 2 ≤ c) (hx : x < t.size) (hy : y < s.size) (hp : w.heap[p]? = some (.cells #[.string s, .string t] 25 (0, 0))) :
  Calls Try.prog 58 #[.slice (some ⟨b, o, none⟩) t.size c0, .slice A 2 c, .int .i64 n, .func (.func 60) #[] #[.pointer (some ⟨p, 0, none⟩)]] w fun e w' => e = .returned (.bool (impl_firstWay.nr rows s t x y n)) ∧ Below w.heap.size w w' := by
 obtain ⟨⟨t1, t8⟩, s1, s8⟩ := hS
 have HK := am (impl_driveIn.clo s t ⟨⟨t1, t8⟩, s1, s8⟩ p A c x y n hn w hr hc ⟨⟨by omega, by omega⟩, by omega, by omega⟩ hp)
 have HR := am hr
 have HC := am hc
 have HG := am hG
 unfold impl_firstWay.nr
 cases hcan : impl_driveIn.can s t x y n with
 | false =>
  rw [hcan] at HK
  clear hcan hr hc hG hp
  go_enter Try.func58, Try.ntmps58
  go_wp2_with (go_at_call 60; refine HK.out.mono ?_; rintro e w1 ⟨rfl, hb1⟩)
  go_ret
  exact ⟨rfl, hb1⟩
 | true =>
  rw [hcan] at HK
  have hat := impl_firstWay.can_at hcan
  have HM := am (impl_driveIn.moved x y n hn (by omega) (by omega))
  obtain ⟨u, hu⟩ := Int.eq_ofNat_of_zero_le hat.1.1
  obtain ⟨v, hv⟩ := Int.eq_ofNat_of_zero_le hat.2.1
  rw [hu, hv] at HM hat ⊢
  have hut : u < t.size := by have := hat.1.2; omega
  have hvs : v < s.size := by have := hat.2.2; omega
  obtain ⟨d0, hd0⟩ : ∃ d0, d0 = impl_firstWay.dv rows x y := ⟨_, rfl⟩
  obtain ⟨d1, hd1⟩ : ∃ d1, d1 = impl_firstWay.dv rows u v := ⟨_, rfl⟩
  have hsm := impl_firstWay.small hR x y hx hy
  rw [← hd0] at hsm ⊢
  rw [← hd1]
  have ew : IntKind.i64.wrap (d0 - 1) = d0 - 1 := (i64_w _).trans (by unfold wrap64; omega)
  have HD0 := am hd0
  have HD1 := am hd1
  clear hcan hr hc hG hp hat hu hv hd0 hd1 hsm
  go_enter Try.func58, Try.ntmps58
  go_wp2_with (first | (go_at_call 60; refine HK.out.mono ?_; rintro e w1 ⟨rfl, hb1⟩; have HB1 := am hb1; have HR1 := am (Kd.C_below HR.out hb1); have HG1 := am (HG.out.below hb1); clear hb1) | (go_at_call 59; refine (impl_moved.calls _ _ [(x : Int), (y : Int)] (n : Int) _ _ HR1.out HC.out HM.out).mono ?_; rintro e w2 ⟨v0, rfl, hR, hB⟩; obtain ⟨A2, c2, e2⟩ := Kd.R_slice hR; rw [show ([(u : Int), (v : Int)] : List Int).length = 2 from rfl] at e2; subst e2; have hC2 := (Kd.R_reads' hR).2.2; rw [show ([(u : Int), (v : Int)] : List Int).length = 2 from rfl] at hC2; obtain ⟨ad2, hA2, hu0⟩ := Kd.at_int hC2 0 (by omega) (by omega); obtain ⟨ad3, hA3, hu1⟩ := Kd.at_int hC2 1 (by omega) (by omega); subst hA2; obtain rfl : ad2 = ad3 := (by injection hA3); rw [show (0 : Int).toNat = 0 from rfl, Addr.add_zero', show rd [(u : Int), (v : Int)] 0 = (u : Int) from rfl] at hu0; rw [show rd [(u : Int), (v : Int)] 1 = (v : Int) from rfl] at hu1; simp only [show (1 : Int).toNat = 1 from rfl, Nat.reduceMul, Nat.reduceEqDiff, Go.Addr.add, ↓reduceIte] at hu1; have hCa := Kd.C_below HR1.out hB; obtain ⟨ad4, hA4, hx0⟩ := Kd.at_int hCa 0 (by omega) (by omega); obtain ⟨ad5, hA5, hx1⟩ := Kd.at_int hCa 1 (by omega) (by omega); subst hA4; obtain rfl : ad4 = ad5 := (by injection hA5); rw [show (0 : Int).toNat = 0 from rfl, Addr.add_zero', show rd [(x : Int), (y : Int)] 0 = (x : Int) from rfl] at hx0; rw [show rd [(x : Int), (y : Int)] 1 = (y : Int) from rfl] at hx1; simp only [show (1 : Int).toNat = 1 from rfl, Nat.reduceMul, Nat.reduceEqDiff, Go.Addr.add, ↓reduceIte] at hx1; have HG2 := HG1.out.below hB; have hg1 := (HG2 u hut).1; have hg2 := (HG2 u hut).2 v hvs; rw [← HD1.out] at hg2; have hg3 := (HG2 x hx).1; have hg4 := (HG2 x hx).2 y hy; rw [← HD0.out] at hg4; have HB2 := am (below_then HB1.out HB1.out.size hB); clear HG2 hB hR hC2 hA3 hCa hA5))
  go_quiet (fail)
  go_wp2
  go_ret
  exact ⟨by (simp; rfl), pw_below_drewN HB2.out _⟩
def impl_firstWay.lenOf : Value → Nat
 | .slice _ n _ => n
 | _ => 0
theorem impl_firstWay.fw_end {rows : List (List Int)} {s t : ByteArray} {k : Nat} {x y : Int} {o : List Nat} (h : impl_firstWay.fw rows s t k x y = some o) (hp : ¬ 0 < impl_firstWay.dv rows x y) : o = [] := by
 cases k with
 | zero => simp only [impl_firstWay.fw] at h; rw [if_pos (by omega)] at h; exact (Option.some.inj h).symm
 | succ k => simp only [impl_firstWay.fw] at h; rw [if_pos (by omega)] at h; exact (Option.some.inj h).symm
theorem impl_firstWay.fw_pos {rows : List (List Int)} {s t : ByteArray} {k : Nat} {x y : Int} {o : List Nat} (h : impl_firstWay.fw rows s t k x y = some o) (hp : 0 < impl_firstWay.dv rows x y) : ∃ k', k = k' + 1 := by
 cases k with
 | zero => simp only [impl_firstWay.fw] at h; rw [if_neg (by omega)] at h; cases h
 | succ k => exact ⟨k, rfl⟩
theorem impl_firstWay.wid (m : Nat) (h : m < 4) : (Utf8.decode ⟨#[101, 110, 115, 119]⟩ m).2 = 1 := by
 have c : m = 0 ∨ m = 1 ∨ m = 2 ∨ m = 3 := by omega
 rcases c with rfl | rfl | rfl | rfl <;> (rw [decode_ascii _ _ (by decide) (by decide)])
theorem impl_firstWay.ipos {w : World} {k : Nat} {s : ByteArray} {p : Nat} (h : w.heap[k]? = some (.stringIter s p)) : w.iterPos k = p := by simp [World.iterPos, h]
theorem impl_firstWay.conv {w : World} {B : Nat} {v : Value} {ws : List Int} (h : Kd.R (Kd.int .u8) 5 w B (fun _ => True) v ws) (q : Nat) : (convert 22 9 v).run Try.prog (w.drewN q) = .ok (.string (strOfNums ws)) (w.drewN q) := by
 have h' := Kd.R_drewN h q
 obtain ⟨inner, ho⟩ := Kd.R_own h'
 rcases ho.2 with ⟨rfl, h0⟩ | ⟨g, cap, cur, rfl, hg, hh, -⟩
 ·have e : ws = [] := List.eq_nil_of_length_eq_zero h0
  subst e
  exact run_convert_bytes_nil (w.drewN q) 22 5 Try.underlying22 Try.underlying5 0 0 9 Try.underlying9
 ·refine run_convert_bytes_arg (w.drewN q) 22 5 Try.underlying22 Try.underlying5 g 0 ws.length cap ws rfl (fun i hi => ?_) 9 Try.underlying9
  obtain ⟨ad, hA, hc⟩ := Kd.at_int (Kd.R_reads' h').2.2 (i : Int) (by omega) (by omega)
  injection hA with hA
  subst hA
  rw [Int.toNat_natCast, Addr.add_lit] at hc
  rw [hc]
  simp [rd]
theorem impl_firstWay.walk (s t : ByteArray) (hS : impl_driveIn.Sized s t) (p : Nat) (rows : List (List Int)) (hR : impl_firstWay.Rect rows t.size s.size) (b o : Nat) (bl ol cp : Nat → Nat) (c0 : Nat) (A : Option Addr) (c : Nat) (x y : Nat) (w : World) (hG : impl_firstWay.RG w b o bl ol cp rows t.size s.size) (hr : Kd.C (Kd.int .i64) w A 2 [(x : Int), (y : Int)]) (hc : 2 ≤ c) (hx : x < t.size) (hy : y < s.size) (hp : w.heap[p]? = some (.cells #[.string s, .string t] 25 (0, 0))) (k : Nat) (out : List Nat) (h : impl_firstWay.fw rows s t k x y = some out) :
  Calls Try.prog 31 #[.slice (some ⟨b, o, none⟩) t.size c0, .slice A 2 c, .func (.func 60) #[] #[.pointer (some ⟨p, 0, none⟩)]] w fun e w' => e = .returned (.string (strOfNums (out.map impl_driveIn.sg))) ∧ Below w.heap.size w w' := by
 obtain ⟨T, hT⟩ : ∃ T, T = out.map impl_driveIn.sg := ⟨_, rfl⟩
 rw [← hT]
 have HS := am hS
 have HRc := am hR
 have HG := am hG
 have HP := am hp
 have HPL := am (Array.getElem?_eq_some_iff.1 hp).1
 have HF0 := am (show Kd.F (Kd.int .i64) w (fun k => some k ≠ (Value.slice none 0 0).ownBlock) A 2 [(x : Int), (y : Int)] from Kd.F_mono (Kd.C_F (Kd.heap_int .i64) hr) (fun k _ => by simp [Value.ownBlock]))
 have HW0 := am (And.intro h (show ([] : List Int) ++ out.map impl_driveIn.sg = T by rw [hT]; rfl))
 have HD0 := (impl_firstWay.small hR x y hx hy).2
 clear hS hR hG hp hr h hT
 go_enter Try.func31, Try.ntmps31
 go_wp2
 go_loopw [1, 7] (fun ar wd wr => ∃ (x y : Nat) (A : Option Addr) (c : Nat) (ws : List Int) (k : Nat) (rest : List Nat), ar = .slice A 2 c ∧ 2 ≤ c ∧ x < t.size ∧ y < s.size ∧ (ws.length : Int) + impl_firstWay.dv rows x y ≤ 64 ∧ Aside0 (Kd.F (Kd.int .i64) wr (fun k => some k ≠ wd.ownBlock) A 2 [(x : Int), (y : Int)]) ∧ Aside0 (Kd.R (Kd.int .u8) 5 wr w.heap.size (fun _ => True) wd ws) ∧ Aside0 (Below w.heap.size w wr) ∧ Aside0 (impl_firstWay.fw rows s t k x y = some rest ∧ ws ++ rest.map impl_driveIn.sg = T)) (fun _ wd _ => 65 - impl_firstWay.lenOf wd)
 case atStart => exact ⟨x, y, A, c, [], k, out, rfl, hc, hx, hy, by simpa using HD0, HF0, ⟨Kd.R_nil _ _ _ _ _⟩, ⟨Below.refl _ _⟩, HW0⟩
 case round =>
  clear HF0 HW0 HD0 hc hx hy
  obtain ⟨x, y, A, c, ws, k, rest, rfl, hc, hx, hy, hlen, HF, HO, HB, HW⟩ := hrel
  obtain ⟨Aw, cw, ew⟩ := Kd.R_slice HO.out
  subst ew
  obtain ⟨ad, hA, hx0⟩ := Kd.at_int (Kd.F_now HF.out) 0 (by omega) (by omega)
  obtain ⟨ad1, hA1, hx1⟩ := Kd.at_int (Kd.F_now HF.out) 1 (by omega) (by omega)
  subst hA
  obtain rfl : ad = ad1 := by injection hA1
  rw [show (0 : Int).toNat = 0 from rfl, Addr.add_zero', show rd [(x : Int), (y : Int)] 0 = (x : Int) from rfl] at hx0
  rw [show rd [(x : Int), (y : Int)] 1 = (y : Int) from rfl] at hx1
  simp only [show (1 : Int).toNat = 1 from rfl, Nat.reduceMul, Nat.reduceEqDiff, Go.Addr.add, ↓reduceIte] at hx1
  have hRG : impl_firstWay.RG wr b o bl ol cp rows t.size s.size := fun u hu => ⟨(HB.out.cell (World.block_lt_of_cell? _ _ (HG.out u hu).1)).trans (HG.out u hu).1, fun v hv => (HB.out.cell (World.block_lt_of_cell? _ _ ((HG.out u hu).2 v hv))).trans ((HG.out u hu).2 v hv)⟩
  have HRG := am hRG
  have hg3 := (hRG x hx).1
  have hg4 := (hRG x hx).2 y hy
  obtain ⟨d0, hd0⟩ : ∃ d0, d0 = impl_firstWay.dv rows x y := ⟨_, rfl⟩
  rw [← hd0] at hg4 hlen
  by_cases hpos : 0 < d0
  ·have pb : decide (0 < d0) = true := decide_eq_true hpos
   obtain ⟨k', rfl⟩ := impl_firstWay.fw_pos HW.out.1 (by rw [← hd0]; exact hpos)
   obtain ⟨m, o', m4, hm, hno, hfw, rfl⟩ := impl_firstWay.fw_step HW.out.1 (by rw [← hd0]; exact hpos)
   have HM := am hm
   have HNo := am hno
   have HFW := am (And.intro hfw (show ws ++ (m :: o').map impl_driveIn.sg = T from HW.out.2))
   have HX := am (And.intro hx hy)
   have HD := am hd0
   have HLen := am hlen
   have HCc := am hc
   clear hm hno hfw hd0 hRG hA1 HW
   go_wp2
   go_quiet (fail)
   go_wp2
   clear hg3 hg4 hx0 hx1
   obtain ⟨wz, rfl⟩ : ∃ wz : World, wz = wr := ⟨wr, rfl⟩
   have HF1 := am (show Kd.F (Kd.int .i64) ((wz.drewN nq).iter ⟨#[101, 110, 115, 119]⟩ 0) (fun k => some k ≠ (Value.slice Aw ws.length cw).ownBlock ∧ k ≠ wz.heap.size) (some ad) 2 [(x : Int), (y : Int)] from Kd.F_alloc (Kd.F_elderB (Kd.F_drewN HF.out nq) wz.heap.size (Nat.le_refl _)) _)
   have HO1 := am (show Kd.R (Kd.int .u8) 5 ((wz.drewN nq).iter ⟨#[101, 110, 115, 119]⟩ 0) w.heap.size (fun k => k ≠ wz.heap.size) (.slice Aw ws.length cw) ws from Kd.R_alloc (Kd.R_mono (Kd.R_bound (Kd.R_drewN HO.out nq)) (fun k hk => Nat.ne_of_lt hk.2.2.1)) _)
   have HB1 := am (show Below w.heap.size w ((wz.drewN nq).iter ⟨#[101, 110, 115, 119]⟩ 0) from below_then (pw_below_drewN HB.out nq) (pw_below_drewN HB.out nq).size (below_alloc (Below.refl _ _) _))
   have HLE := am (show w.heap.size ≤ wz.heap.size from (pw_below_drewN HB.out nq).size)
   have HIT0 := World.iter_heap (wz.drewN nq) ⟨#[101, 110, 115, 119]⟩ 0
   clear HF HO HB HRG
   go_loopw [1, 7] (fun ar wd wi => ∃ j : Nat, j ≤ m ∧ ar = .slice (some ad) 2 c ∧ wd = .slice Aw ws.length cw ∧ wi.heap[wz.heap.size]? = some (.stringIter ⟨#[101, 110, 115, 119]⟩ j) ∧ Aside0 (Kd.F (Kd.int .i64) wi (fun k => some k ≠ (Value.slice Aw ws.length cw).ownBlock ∧ k ≠ wz.heap.size) (some ad) 2 [(x : Int), (y : Int)]) ∧ Aside0 (Kd.R (Kd.int .u8) 5 wi w.heap.size (fun k => k ≠ wz.heap.size) (.slice Aw ws.length cw) ws) ∧ Aside0 (Below w.heap.size w wi)) (fun _ _ wi => 4 - wi.iterPos wz.heap.size)
   case atStart => exact ⟨0, Nat.zero_le _, rfl, rfl, HIT0, HF1, HO1, HB1⟩
   case round =>
    clear HF1 HO1 HB1 HIT0
    obtain ⟨j, hj, rfl, rfl, hit, HF, HO, HB⟩ := hrel
    have hj4 : j < 4 := by omega
    have hnx : ∀ ty, (Instr.next (.pointer (some ⟨wz.heap.size, 0, none⟩)) true ty).run Try.prog wr = _ := fun ty => Go.Lib.run_next_any_at wr wz.heap.size ⟨#[101, 110, 115, 119]⟩ j ty hit hj4
    have hit1 := am (Go.Lib.iterAt_heap wr wz.heap.size ⟨#[101, 110, 115, 119]⟩ j (j + 1) hit)
    have HIT := am hit
    have HF1 := am (show Kd.F (Kd.int .i64) (wr.iterAt wz.heap.size ⟨#[101, 110, 115, 119]⟩ (j + 1)) (fun k => some k ≠ (Value.slice Aw ws.length cw).ownBlock ∧ k ≠ wz.heap.size) (some ad) 2 [(x : Int), (y : Int)] from Kd.F_step HF.out (fun k hk _ => Go.Lib.iterAt_other _ _ _ _ _ hk.2))
    have HO1 := am (show Kd.R (Kd.int .u8) 5 (wr.iterAt wz.heap.size ⟨#[101, 110, 115, 119]⟩ (j + 1)) w.heap.size (fun k => k ≠ wz.heap.size) (.slice Aw ws.length cw) ws from Kd.R_step HO.out (fun k hk _ => Go.Lib.iterAt_other _ _ _ _ _ hk))
    have HB1 := am (Go.Lib.below_iterAt HB.out HLE.out ⟨#[101, 110, 115, 119]⟩ (j + 1))
    have HIL := am (show wz.heap.size < (wr.iterAt wz.heap.size ⟨#[101, 110, 115, 119]⟩ (j + 1)).heap.size from (Array.getElem?_eq_some_iff.1 hit1.out).1)
    rw [impl_firstWay.wid j hj4] at hnx
    have HK := am (impl_firstWay.nearer s t HS.out p rows HRc.out b o bl ol cp c0 (some ad) c x y j (by omega) (wr.iterAt wz.heap.size ⟨#[101, 110, 115, 119]⟩ (j + 1)) (fun u hu => ⟨(HB1.out.cell (World.block_lt_of_cell? _ _ (HG.out u hu).1)).trans (HG.out u hu).1, fun v hv => (HB1.out.cell (World.block_lt_of_cell? _ _ ((HG.out u hu).2 v hv))).trans ((HG.out u hu).2 v hv)⟩) (Kd.F_now HF1.out) HCc.out HX.out.1 HX.out.2 ((HB1.out.block p HPL.out).trans HP.out))
    clear hit HF HO HB
    by_cases hjm : j = m
    ·subst hjm
     rw [HM.out] at HK
     have hsj : ((((⟨#[101, 110, 115, 119]⟩ : ByteArray)[j]'hj4).toNat : Nat) : Int) = impl_driveIn.sg j := by
      have cj : j = 0 ∨ j = 1 ∨ j = 2 ∨ j = 3 := by omega
      rcases cj with rfl | rfl | rfl | rfl <;> rfl
     have hnr := HM.out
     unfold impl_firstWay.nr at hnr
     rw [Bool.and_eq_true, decide_eq_true_eq] at hnr
     have hat := impl_firstWay.can_at hnr.1
     have HMv := am (impl_driveIn.moved x y j (by omega) (by have := HX.out.1; have := HS.out.1.2; omega) (by have := HX.out.2; have := HS.out.2.2; omega))
     obtain ⟨u, hu⟩ := Int.eq_ofNat_of_zero_le hat.1.1
     obtain ⟨v, hv⟩ := Int.eq_ofNat_of_zero_le hat.2.1
     rw [hu, hv] at HMv hat hnr HFW
     have HUV := am (show u < t.size ∧ v < s.size from ⟨by have := hat.1.2; omega, by have := hat.2.2; omega⟩)
     have HDV := am (show impl_firstWay.dv rows u v = d0 - 1 by rw [HD.out]; exact hnr.2)
     have HIb := am (show (Try.prog.info? 5).map (fun i => (i.zero, i.size, i.bytes)) = some (some (.int .u8 0), 1, 1) from by kernel_rfl)
     clear hat hu hv hnr
     go_wp2_with (first | (go_at_call 58; refine HK.out.mono ?_; rintro e w3 ⟨rfl, hb3⟩; have HF3 := am (Kd.F_below HF1.out hb3); have HO3 := am (Kd.R_below HO1.out hb3); have HB3 := am (below_then HB1.out HB1.out.size hb3); clear hb3) | ((with_reducible refine gate_builtin (b := .append) (xs := #[.tmp 30, .tmp 33]) rfl ?_); at_builtin; refine Kd.R_append (Kd.int .u8) (w0 := w) w.heap.size rfl (.tmp 30) (.tmp 33) 22 5 (.int .u8 0) 1 rfl Try.underlying22 HIb.out rfl (by decide) (by omega) (.slice Aw ws.length cw) ws (impl_driveIn.sg j) [.int .u8 (impl_driveIn.sg j)] (fun _ => True) (fun _ => False) rfl ?aX ?aP (fun _ hk => hk.elim) ?aF ?aO ?aB ?aS ?aL ?_; (case aX => rfl); (case aP => exact rfl); (case aF => exact (fun _ _ => trivial)); (case aO => exact Kd.R_mono HO3.out (fun _ _ => trivial)); (case aB => exact HB3.out); (case aS => exact HB3.out.size); (case aL => (have := HLen.out; simp; omega)); intro v5 w5 ho5 hb5 hg5 hat5; have HO5 := am ho5; have HB5 := am hb5; have HF5 := am (Kd.F_now (Kd.F_after (ok := fun _ => True) (Kd.F_mono HF3.out (fun k hk => ⟨trivial, hk.1⟩)) hg5 hat5)); clear ho5 hb5 hg5 hat5) | (go_at_call 59; refine (impl_moved.calls _ _ [(x : Int), (y : Int)] (j : Int) _ _ HF5.out HCc.out HMv.out).mono ?_; rintro e w6 ⟨v6, rfl, hR6, hb6⟩; obtain ⟨A6, c6, e6⟩ := Kd.R_slice hR6; rw [show ([(u : Int), (v : Int)] : List Int).length = 2 from rfl] at e6; subst e6; have hl6 := am (Kd.R_reads' hR6).2.1; have HF6 := am (show Kd.F (Kd.int .i64) w6 (fun k => some k ≠ v5.ownBlock) A6 2 [(u : Int), (v : Int)] from Kd.F_mono (Kd.R_F (Kd.R_bound hR6)) (fun k hk e => by have := Kd.R_lt HO5.out k e.symm; omega)); have HO6 := am (Kd.R_below HO5.out hb6); have HB6 := am (below_then HB5.out HB5.out.size hb6); clear hR6 hb6))
     obtain ⟨A5, c5, e5⟩ := Kd.R_slice HO6.out
     have hlen5 : (ws ++ [impl_driveIn.sg j]).length = ws.length + 1 := by simp
     rw [hlen5] at e5
     go_roundw
     case rel => exact ⟨u, v, A6, c6, ws ++ [impl_driveIn.sg j], k', o', rfl, hl6.out, HUV.out.1, HUV.out.2, by rw [hlen5, HDV.out]; have := HLen.out; omega, HF6, HO6, HB6, ⟨HFW.out.1, by rw [← HFW.out.2]; simp⟩⟩
     case measure => rw [e5]; have := HLen.out; simp only [impl_firstWay.lenOf]; omega
    ·rw [HNo.out j (by omega)] at HK
     go_wp2_with (go_at_call 58; refine HK.out.mono ?_; rintro e w3 ⟨rfl, hb3⟩; have HF3 := am (Kd.F_below HF1.out hb3); have HO3 := am (Kd.R_below HO1.out hb3); have HB3 := am (below_then HB1.out HB1.out.size hb3); have hit3 := am ((hb3.block _ HIL.out).trans hit1.out); clear hb3)
     go_roundw
     case rel => exact ⟨j + 1, by omega, rfl, rfl, hit3.out, HF3, HO3, HB3⟩
     case measure => rw [impl_firstWay.ipos hit3.out, impl_firstWay.ipos HIT.out]; omega
  ·have pb : decide (0 < d0) = false := decide_eq_false hpos
   have e0 := impl_firstWay.fw_end HW.out.1 (by rw [← hd0]; exact hpos)
   have HT := am (show ws = T by have z := HW.out.2; rw [e0] at z; simpa using z)
   have hcv := fun q => impl_firstWay.conv HO.out q
   clear hd0 e0 hRG hA1
   go_wp2
   go_quiet (fail)
   go_wp2
   go_ret
   exact ⟨by rw [← HT.out]; rfl, pw_below_drewN HB.out _⟩
theorem impl_firstWay.fw_mono (rows : List (List Int)) (s t : ByteArray) : ∀ (k : Nat) (x y : Int), LeO (impl_firstWay.fw rows s t k x y) (impl_firstWay.fw rows s t (k + 1) x y) := by
 intro k
 induction k with
 | zero =>
  intro x y r h
  by_cases c : 0 < impl_firstWay.dv rows x y
  ·obtain ⟨k', e⟩ := impl_firstWay.fw_pos h c
   cases e
  ·rw [impl_firstWay.fw_end h c]
   simp only [impl_firstWay.fw]
   rw [if_pos (by omega)]
 | succ k ih =>
  intro x y r h
  by_cases c : 0 < impl_firstWay.dv rows x y
  ·obtain ⟨m, o', m4, hm, hno, hfw, rfl⟩ := impl_firstWay.fw_step h c
   have z := ih _ _ _ hfw
   have nt : ∀ n, impl_firstWay.nr rows s t x y n = false → ¬ impl_firstWay.nr rows s t x y n = true := fun n hn => by rw [hn]; simp
   rw [show impl_firstWay.fw rows s t (k + 1 + 1) x y = if impl_firstWay.dv rows x y ≤ 0 then some [] else if impl_firstWay.nr rows s t x y 0 = true then (impl_firstWay.fw rows s t (k + 1) (x + impl_driveIn.dx 0) (y + impl_driveIn.dy 0)).map (0 :: ·) else if impl_firstWay.nr rows s t x y 1 = true then (impl_firstWay.fw rows s t (k + 1) (x + impl_driveIn.dx 1) (y + impl_driveIn.dy 1)).map (1 :: ·) else if impl_firstWay.nr rows s t x y 2 = true then (impl_firstWay.fw rows s t (k + 1) (x + impl_driveIn.dx 2) (y + impl_driveIn.dy 2)).map (2 :: ·) else if impl_firstWay.nr rows s t x y 3 = true then (impl_firstWay.fw rows s t (k + 1) (x + impl_driveIn.dx 3) (y + impl_driveIn.dy 3)).map (3 :: ·) else none from rfl, if_neg (by omega)]
   have cm : m = 0 ∨ m = 1 ∨ m = 2 ∨ m = 3 := by omega
   rcases cm with rfl | rfl | rfl | rfl
   ·rw [if_pos hm, z]; rfl
   ·rw [if_neg (nt 0 (hno 0 (by omega))), if_pos hm, z]; rfl
   ·rw [if_neg (nt 0 (hno 0 (by omega))), if_neg (nt 1 (hno 1 (by omega))), if_pos hm, z]; rfl
   ·rw [if_neg (nt 0 (hno 0 (by omega))), if_neg (nt 1 (hno 1 (by omega))), if_neg (nt 2 (hno 2 (by omega))), if_pos hm, z]; rfl
  ·rw [impl_firstWay.fw_end h c]
   simp only [impl_firstWay.fw]
   rw [if_pos (by omega)]
def impl_firstWay.f (k : Nat) (l0 : List (List Int)) (l1 : List Int) (a2 : ByteArray × ByteArray) : Option ByteArray := if (impl_firstWay.Rect l0 a2.2.size a2.1.size ∧ impl_driveIn.Sized a2.1 a2.2) ∧ l1.length = 2 ∧ impl_driveIn.At a2.1 a2.2 (rd l1 0) (rd l1 1) then (impl_firstWay.fw l0 a2.1 a2.2 k (rd l1 0) (rd l1 1)).map (fun l => strOfNums (l.map impl_driveIn.sg)) else none
theorem impl_firstWay.calls (k : Nat) (A0 : Option Addr) (c0 : Nat) (l0 : List (List Int)) (A1 : Option Addr) (c1 : Nat) (l1 : List Int) (a2 : ByteArray × ByteArray) (r : ByteArray) (w : World) (hr0 : Kd.C (Kd.slice 3 (Kd.int .i64)) w A0 l0.length l0) (hc0 : l0.length ≤ c0) (hr1 : Kd.C (Kd.int .i64) w A1 l1.length l1) (hc1 : l1.length ≤ c1) (h : impl_firstWay.f k l0 l1 a2 = some r) (p : Nat) (hp : w.heap[p]? = some (.cells #[.string a2.1, .string a2.2] 25 (0, 0))) :
  Calls Try.prog 31 #[.slice A0 l0.length c0, .slice A1 l1.length c1, .func (.func 60) #[] #[.pointer (some ⟨p, 0, none⟩)]] w fun e w' => e = .returned (.string r) ∧ Below w.heap.size w w' := by
 unfold impl_firstWay.f at h
 split at h
 ·rename_i cc
  obtain ⟨⟨hR, hS⟩, hl, ⟨x0, x1⟩, y0, y1⟩ := cc
  obtain ⟨l, h1, rfl⟩ := Option.map_eq_some_iff.1 h
  obtain ⟨b, o, bl, ol, cp, rfl, hG⟩ := impl_firstWay.rg hr0 hR (by omega) (by omega)
  obtain ⟨x, hx⟩ := Int.eq_ofNat_of_zero_le x0
  obtain ⟨y, hy⟩ := Int.eq_ofNat_of_zero_le y0
  have e : l1 = [(x : Int), (y : Int)] := by
   match l1, hl with
   | [u, v], _ =>
    have hu : u = (x : Int) := hx
    have hv : v = (y : Int) := hy
    rw [hu, hv]
  rw [hx, hy] at h1
  rw [hl] at hr1 hc1 ⊢
  rw [hR.1]
  exact impl_firstWay.walk a2.1 a2.2 hS p l0 hR b o bl ol cp c0 A1 c1 x y w hG (by rw [← e]; exact hr1) hc1 (by omega) (by omega) hp k l h1
 ·cases h
def impl_FirstDrive.f (k : Nat) (a0_0 : ByteArray) (a0_1 : ByteArray) (l1 : List Int) (l2 : List Int) : Option (ByteArray × Bool) := (impl_areDriven.f k a0_0 a0_1 (([l1, l2] : List (List Int)))).bind fun t255 => (if t255 = true then ((impl_drivesTo.f k a0_0 a0_1 l2).bind fun t256 => (if 0 < (l1.length : Int) then (if 0 ≤ (rd l1 0) then (if (rd l1 0) < (t256.length : Int) then (if 1 < (l1.length : Int) then (if 0 ≤ (rd l1 1) then (if (rd l1 1) < ((rd_L3 t256 (rd l1 0)).length : Int) then (if (rd (rd_L3 t256 (rd l1 0)) (rd l1 1)) < 0 then (some ((⟨#[]⟩ : ByteArray), false)) else ((impl_driveIn.f a0_0 a0_1).bind fun t263 => ((impl_firstWay.f k t256 l1 t263).bind fun t264 => (some (t264, true))))) else (none)) else (none)) else (none)) else (none)) else (none)) else (none))) else (some ((⟨#[]⟩ : ByteArray), false)))
theorem impl_FirstDrive.calls (k : Nat) (a0_0 : ByteArray) (a0_1 : ByteArray) (P1_ : Nat → Prop) (A1 : Option Addr) (c1 : Nat) (l1 : List Int) (P2_ : Nat → Prop) (A2 : Option Addr) (c2 : Nat) (l2 : List Int) (r1 : ByteArray) (r2 : Bool) (w : World) (hs1 : Kd.V (Kd.int .i64) 3 w w.heap.size (fun k_ => P1_ k_) (.slice A1 l1.length c1) l1) (hs2 : Kd.V (Kd.int .i64) 3 w w.heap.size (fun k_ => P2_ k_) (.slice A2 l2.length c2) l2) (h : impl_FirstDrive.f k a0_0 a0_1 l1 l2 = some (r1, r2)) :
  Calls Try.prog 6 #[.agg #[.string a0_0, .string a0_1], .slice A1 l1.length c1, .slice A2 l2.length c2] w fun e w' => e = .returned (.tuple #[.string r1, .bool r2]) ∧ Below w.heap.size w w' := by
 have hu25 := Try.underlying25
 have HO1 := am (show Kd.V (Kd.int .i64) 3 w w.heap.size (fun k_ => ((P1_ k_ ∨ P2_ k_) ∨ w.heap.size ≤ k_)) (.slice A1 l1.length c1) l1 from Kd.V_mono hs1 (fun k_ hk => .inl (.inl hk)))
 have HO2 := am (show Kd.V (Kd.int .i64) 3 w w.heap.size (fun k_ => ((P1_ k_ ∨ P2_ k_) ∨ w.heap.size ≤ k_)) (.slice A2 l2.length c2) l2 from Kd.V_mono hs2 (fun k_ hk => .inl (.inr hk)))
 have HB := am (Below.refl w.heap.size w)
 unfold impl_FirstDrive.f at h
 have H := h
 clear h
 obtain ⟨y252, hy252⟩ : ∃ y_ : List (List Int), y_ = (([l1, l2] : List (List Int))) := ⟨_, rfl⟩
 rw [← hy252] at H
 have Ny252 := am hy252
 clear hy252
 obtain ⟨t255, A4, H⟩ := bnd_ H
 try dsimp only at H
 by_cases c5 : t255 = true
 ·subst c5
  rw [if_pos rfl] at H
  obtain ⟨t256, A6, H⟩ := bnd_ H
  try dsimp only at H
  by_cases c7 : 0 < (l1.length : Int)
  ·rw [if_pos c7] at H
   have c7b0 : decide (0 < (l1.length : Int)) = true := decide_eq_true c7
   have c7b1 : decide (0 < l1.length) = true := decide_eq_true (by omega)
   clear c7
   by_cases c8 : 0 ≤ (rd l1 0)
   ·rw [if_pos c8] at H
    have c8b0 : decide (0 ≤ (rd l1 0)) = true := decide_eq_true c8
    clear c8
    by_cases c9 : (rd l1 0) < (t256.length : Int)
    ·rw [if_pos c9] at H
     have c9b0 : decide ((rd l1 0) < (t256.length : Int)) = true := decide_eq_true c9
     clear c9
     by_cases c10 : 1 < (l1.length : Int)
     ·rw [if_pos c10] at H
      have c10b0 : decide (1 < (l1.length : Int)) = true := decide_eq_true c10
      have c10b1 : decide (1 < l1.length) = true := decide_eq_true (by omega)
      clear c10
      by_cases c11 : 0 ≤ (rd l1 1)
      ·rw [if_pos c11] at H
       have c11b0 : decide (0 ≤ (rd l1 1)) = true := decide_eq_true c11
       clear c11
       by_cases c12 : (rd l1 1) < ((rd_L3 t256 (rd l1 0)).length : Int)
       ·rw [if_pos c12] at H
        have c12b0 : decide ((rd l1 1) < ((rd_L3 t256 (rd l1 0)).length : Int)) = true := decide_eq_true c12
        clear c12
        by_cases c13 : (rd (rd_L3 t256 (rd l1 0)) (rd l1 1)) < 0
        ·rw [if_pos c13] at H
         have c13b0 : decide ((rd (rd_L3 t256 (rd l1 0)) (rd l1 1)) < 0) = true := decide_eq_true c13
         clear c13
         simp only [Option.some.injEq, Prod.mk.injEq] at H
         obtain ⟨rfl, rfl⟩ := H
         go_enter Try.func6, Try.ntmps6
         go_wp2_with (first | ((with_reducible refine gate_dst (N := 3) rfl ?_); refine bx_ 3 (#[.string a0_0, .string a0_1]) 25 ?_; intro gb251 hg w14 hbox hb; replace HO1 := am (Kd.V_below (Kd.V_elderB HO1.out gb251 (Nat.le_of_eq hg.symm)) hb); replace HO2 := am (Kd.V_below (Kd.V_elderB HO2.out gb251 (Nat.le_of_eq hg.symm)) hb); have BK251 := am (hbox); have GW251 := am ((by rw [hg]; exact (below_size HB.out) : w.heap.size ≤ gb251)); have GE251 := am ((by rw [hg]; exact (below_size HB.out) : w.heap.size ≤ gb251)); replace HB := am (below_step HB.out hb); clear hb hbox hg; have hcz15_0 := cz0_ BK251; have hcz15_1 := cz1_ BK251; have hfz15_0 := blk_frozen BK251.out 0; have hfz15_1 := blk_frozen BK251.out 1) | ((with_reducible refine gate_dst (N := 12) rfl ?_); refine Kd.N_lit (Kd.slice 3 (Kd.int .i64)) _ 26 ?hg (N' := 12) ?hd (xs := ([l1, l2] : List (List Int))) (inner := [.slice A1 l1.length c1, .slice A2 l2.length c2]) (ok := (fun k_ => ((P1_ k_ ∨ P2_ k_) ∨ w.heap.size ≤ k_) ∧ k_ ≠ gb251)) (okp := (fun k_ => ((P1_ k_ ∨ P2_ k_) ∨ w.heap.size ≤ k_) ∧ k_ ≠ gb251)) ?hr ?hp (fun _ hk => hk) ((show ∀ k_, w14.heap.size ≤ k_ → (fun k_ => ((P1_ k_ ∨ P2_ k_) ∨ w.heap.size ≤ k_) ∧ k_ ≠ gb251) k_ from fun k_ hk => ⟨(.inr (Nat.le_trans (below_size HB.out) hk)), Kd.freshB (g := gb251) (o := .cells #[.string a0_0, .string a0_1] 25 (0, 0)) BK251.out k_ hk⟩) _ (Nat.le_refl _)) (Below.refl _ _) (Nat.le_refl _) (by simp) ?_; (case hd => rfl); (case hg => rfl); (case hr => go_simp; done); (case hp => exact (Reps.one (show Kd.FK (Kd.slice 3 (Kd.int .i64)) _ _ l1 [.slice A1 l1.length c1] from (Kd.FK_slice_mk (Kd.V_reads' (Kd.V_mono (ok' := (fun k_ => ((P1_ k_ ∨ P2_ k_) ∨ w.heap.size ≤ k_) ∧ k_ ≠ gb251)) (HO1.out) (fun k_ hk => ⟨hk.1, hk.2⟩))).2.1 (Kd.V_F (Kd.V_mono (ok' := (fun k_ => ((P1_ k_ ∨ P2_ k_) ∨ w.heap.size ≤ k_) ∧ k_ ≠ gb251)) (HO1.out) (fun k_ hk => ⟨hk.1, hk.2⟩))))) (Reps.one (show Kd.FK (Kd.slice 3 (Kd.int .i64)) _ _ l2 [.slice A2 l2.length c2] from (Kd.FK_slice_mk (Kd.V_reads' (Kd.V_mono (ok' := (fun k_ => ((P1_ k_ ∨ P2_ k_) ∨ w.heap.size ≤ k_) ∧ k_ ≠ gb251)) (HO2.out) (fun k_ hk => ⟨hk.1, hk.2⟩))).2.1 (Kd.V_F (Kd.V_mono (ok' := (fun k_ => ((P1_ k_ ∨ P2_ k_) ∨ w.heap.size ≤ k_) ∧ k_ ≠ gb251)) (HO2.out) (fun k_ hk => ⟨hk.1, hk.2⟩))))) (Reps.none _ _)))); intro v253 w16 ho17 hb hg_ hnew_; clear hg_ hnew_; (rw [← Ny252.out] at ho17); replace HO1 := am (Kd.V_elder' HO1.out (Kd.N_base ho17) hb); replace HO2 := am (Kd.V_elder' HO2.out (Kd.N_base ho17) hb); have HO254 := am (Kd.N_lower ho17 (below_size HB.out)); replace BK251 := am (blk_below BK251.out hb); replace HB := am (below_step HB.out hb); clear hb ho17; obtain ⟨Ao18, co18, eo18⟩ := Kd.N_slice HO254.out; subst eo18) | (go_at_call 29; (with_reducible refine (impl_areDriven.calls k a0_0 a0_1 _ _ y252 true _ ((Kd.N_reads' HO254.out).2.2) ?side2 A4.out).mono ?_); (case side2 => exact (Kd.N_reads' HO254.out).2.1); rintro e w19 ⟨rfl, hb⟩; replace HO1 := am (Kd.V_below HO1.out hb); replace HO2 := am (Kd.V_below HO2.out hb); replace HO254 := am (Kd.N_below HO254.out hb); replace BK251 := am (blk_below BK251.out hb); replace HB := am (below_step HB.out hb); (try clear hb); have hcz20_0 := cz0_ BK251; have hcz20_1 := cz1_ BK251; have hfz20_0 := blk_frozen BK251.out 0; have hfz20_1 := blk_frozen BK251.out 1) | (go_at_call 30; (with_reducible refine (impl_drivesTo.calls k a0_0 a0_1 _ _ l2 t256 _ ((Kd.V_reads' HO2.out).2.2) ?side2 A6.out).mono ?_); (case side2 => exact (Kd.V_reads' HO2.out).2.1); rintro e w21 ⟨v257, rfl, ho0, hb⟩; replace HO1 := am (Kd.V_elder' HO1.out (by exact Kd.N_base (Kd.S_N ho0)) hb); replace HO2 := am (Kd.V_elder' HO2.out (by exact Kd.N_base (Kd.S_N ho0)) hb); have HO258 := am (Kd.N_lower (Kd.N_mono (ok' := fun k_ => ((P1_ k_ ∨ P2_ k_) ∨ w.heap.size ≤ k_) ∧ some k_ ≠ (.slice Ao18 y252.length co18 : Value).ownBlock ∧ k_ ≠ gb251) (Kd.S_N (Kd.S_bound ho0)) (fun k_ hk_ => ⟨(.inr (Nat.le_trans (below_size HB.out) hk_.2.1)), (Kd.fresh' (Kd.N_lt HO254.out) k_ hk_.2.1), (Kd.freshB (g := gb251) (o := .cells #[.string a0_0, .string a0_1] 25 (0, 0)) BK251.out k_ hk_.2.1)⟩)) (below_size HB.out)); replace HO254 := am (Kd.N_elder' HO254.out (by exact Kd.N_base (Kd.S_N ho0)) hb); replace BK251 := am (blk_below BK251.out hb); replace HB := am (below_step HB.out hb); (try clear hb); (try clear ho0); have p259 : 0 ≤ (0 : Int) := (by omega); have q259 : 0 < (l1.length : Int) := of_decide_eq_true (by with_reducible assumption); obtain ⟨ad259, e259, hx259_0⟩ := Kd.at_int (Kd.V_reads' HO1.out).2.2 0 p259 q259; cases e259; have qi259 : (0 < l1.length) = True := eq_true (by omega); (try rw [show ((0 : Int)).toNat = 0 from rfl] at hx259_0); (try rw [Addr.add_zero'] at hx259_0); replace p259 := eq_true p259; replace q259 := eq_true q259; obtain ⟨Ao22, co22, eo22⟩ := Kd.N_slice HO258.out; subst eo22; have p260 : 0 ≤ ((rd l1 0) : Int) := of_decide_eq_true (by with_reducible assumption); have q260 : (rd l1 0) < (t256.length : Int) := of_decide_eq_true (by with_reducible assumption); obtain ⟨ad260, A260_0, c260_0, e260, hx260_0, hl260_0, hi260_0⟩ := at_L3 (Kd.N_reads' HO258.out).2.2 (rd l1 0) p260 q260; cases e260; obtain ⟨ce260, hce260, hMe260, hcc260⟩ := Kd.N_get HO258.out [] (rd l1 0) p260 q260; obtain ⟨ua260_0, uc260_0, rfl, ul260_0, ge260_0⟩ := Kd.FK_slice_open hMe260; have hv260_0 := hcc260 0 _ rfl; rw [Nat.add_zero, show ((Kd.slice 3 (Kd.int .i64))).sz = 1 from rfl, Nat.mul_one] at hv260_0; replace hv260_0 := Option.some.inj (hv260_0.symm.trans hx260_0); injection hv260_0 with hva_ hvn_ hvc_; rw [hva_] at ge260_0; rw [hvc_] at ul260_0; have HL260_0 := am (show Kd.V (Kd.int .i64) 3 _ w.heap.size _ _ (rd_L3 t256 (rd l1 0)) from Kd.V_mk ul260_0 ge260_0); clear hva_ hvn_ hvc_ ge260_0 ul260_0 hcc260 hce260; have HR260_0 := am hi260_0; have HC260_0 := am hl260_0; clear hi260_0 hl260_0; replace p260 := eq_true p260; replace q260 := eq_true q260; have p261 : 0 ≤ (1 : Int) := (by omega); have q261 : 1 < (l1.length : Int) := of_decide_eq_true (by with_reducible assumption); obtain ⟨ad261, e261, hx261_0⟩ := Kd.at_int (Kd.V_reads' HO1.out).2.2 1 p261 q261; obtain rfl : ad259 = ad261 := (by injection e261); (try simp only [show (1 : Int).toNat = 1 from rfl, Nat.reduceMul, Nat.reduceEqDiff, Go.Addr.add, ↓reduceIte] at hx261_0); have qi261 : (1 < l1.length) = True := eq_true (by omega); replace p261 := eq_true p261; replace q261 := eq_true q261; have p262 : 0 ≤ ((rd l1 1) : Int) := of_decide_eq_true (by with_reducible assumption); have q262 : (rd l1 1) < ((rd_L3 t256 (rd l1 0)).length : Int) := of_decide_eq_true (by with_reducible assumption); obtain ⟨ad262, e262, hx262_0⟩ := Kd.at_int (by repeat (with_reducible exact HR260_0.out)) (rd l1 1) p262 q262; cases e262; replace p262 := eq_true p262; replace q262 := eq_true q262))
         repeat (go_quiet (fail); try go_wp2_with (fail))
         go_ret2
         exact ⟨by rfl, by repeat (with_reducible first | exact HB.out | apply pw_below_drewN)⟩
        ·rw [if_neg c13] at H
         have c13b0 : decide ((rd (rd_L3 t256 (rd l1 0)) (rd l1 1)) < 0) = false := decide_eq_false c13
         clear c13
         obtain ⟨t263, A23, H⟩ := bnd_ H
         try dsimp only at H
         obtain ⟨t264, A24, H⟩ := bnd_ H
         try dsimp only at H
         simp only [Option.some.injEq, Prod.mk.injEq] at H
         obtain ⟨rfl, rfl⟩ := H
         go_enter Try.func6, Try.ntmps6
         go_wp2_with (first | ((with_reducible refine gate_dst (N := 3) rfl ?_); refine bx_ 3 (#[.string a0_0, .string a0_1]) 25 ?_; intro gb251 hg w25 hbox hb; replace HO1 := am (Kd.V_below (Kd.V_elderB HO1.out gb251 (Nat.le_of_eq hg.symm)) hb); replace HO2 := am (Kd.V_below (Kd.V_elderB HO2.out gb251 (Nat.le_of_eq hg.symm)) hb); have BK251 := am (hbox); have GW251 := am ((by rw [hg]; exact (below_size HB.out) : w.heap.size ≤ gb251)); have GE251 := am ((by rw [hg]; exact (below_size HB.out) : w.heap.size ≤ gb251)); replace HB := am (below_step HB.out hb); clear hb hbox hg; have hcz26_0 := cz0_ BK251; have hcz26_1 := cz1_ BK251; have hfz26_0 := blk_frozen BK251.out 0; have hfz26_1 := blk_frozen BK251.out 1) | ((with_reducible refine gate_dst (N := 12) rfl ?_); refine Kd.N_lit (Kd.slice 3 (Kd.int .i64)) _ 26 ?hg (N' := 12) ?hd (xs := ([l1, l2] : List (List Int))) (inner := [.slice A1 l1.length c1, .slice A2 l2.length c2]) (ok := (fun k_ => ((P1_ k_ ∨ P2_ k_) ∨ w.heap.size ≤ k_) ∧ k_ ≠ gb251)) (okp := (fun k_ => ((P1_ k_ ∨ P2_ k_) ∨ w.heap.size ≤ k_) ∧ k_ ≠ gb251)) ?hr ?hp (fun _ hk => hk) ((show ∀ k_, w25.heap.size ≤ k_ → (fun k_ => ((P1_ k_ ∨ P2_ k_) ∨ w.heap.size ≤ k_) ∧ k_ ≠ gb251) k_ from fun k_ hk => ⟨(.inr (Nat.le_trans (below_size HB.out) hk)), Kd.freshB (g := gb251) (o := .cells #[.string a0_0, .string a0_1] 25 (0, 0)) BK251.out k_ hk⟩) _ (Nat.le_refl _)) (Below.refl _ _) (Nat.le_refl _) (by simp) ?_; (case hd => rfl); (case hg => rfl); (case hr => go_simp; done); (case hp => exact (Reps.one (show Kd.FK (Kd.slice 3 (Kd.int .i64)) _ _ l1 [.slice A1 l1.length c1] from (Kd.FK_slice_mk (Kd.V_reads' (Kd.V_mono (ok' := (fun k_ => ((P1_ k_ ∨ P2_ k_) ∨ w.heap.size ≤ k_) ∧ k_ ≠ gb251)) (HO1.out) (fun k_ hk => ⟨hk.1, hk.2⟩))).2.1 (Kd.V_F (Kd.V_mono (ok' := (fun k_ => ((P1_ k_ ∨ P2_ k_) ∨ w.heap.size ≤ k_) ∧ k_ ≠ gb251)) (HO1.out) (fun k_ hk => ⟨hk.1, hk.2⟩))))) (Reps.one (show Kd.FK (Kd.slice 3 (Kd.int .i64)) _ _ l2 [.slice A2 l2.length c2] from (Kd.FK_slice_mk (Kd.V_reads' (Kd.V_mono (ok' := (fun k_ => ((P1_ k_ ∨ P2_ k_) ∨ w.heap.size ≤ k_) ∧ k_ ≠ gb251)) (HO2.out) (fun k_ hk => ⟨hk.1, hk.2⟩))).2.1 (Kd.V_F (Kd.V_mono (ok' := (fun k_ => ((P1_ k_ ∨ P2_ k_) ∨ w.heap.size ≤ k_) ∧ k_ ≠ gb251)) (HO2.out) (fun k_ hk => ⟨hk.1, hk.2⟩))))) (Reps.none _ _)))); intro v253 w27 ho28 hb hg_ hnew_; clear hg_ hnew_; (rw [← Ny252.out] at ho28); replace HO1 := am (Kd.V_elder' HO1.out (Kd.N_base ho28) hb); replace HO2 := am (Kd.V_elder' HO2.out (Kd.N_base ho28) hb); have HO254 := am (Kd.N_lower ho28 (below_size HB.out)); replace BK251 := am (blk_below BK251.out hb); replace HB := am (below_step HB.out hb); clear hb ho28; obtain ⟨Ao29, co29, eo29⟩ := Kd.N_slice HO254.out; subst eo29) | (go_at_call 29; (with_reducible refine (impl_areDriven.calls k a0_0 a0_1 _ _ y252 true _ ((Kd.N_reads' HO254.out).2.2) ?side2 A4.out).mono ?_); (case side2 => exact (Kd.N_reads' HO254.out).2.1); rintro e w30 ⟨rfl, hb⟩; replace HO1 := am (Kd.V_below HO1.out hb); replace HO2 := am (Kd.V_below HO2.out hb); replace HO254 := am (Kd.N_below HO254.out hb); replace BK251 := am (blk_below BK251.out hb); replace HB := am (below_step HB.out hb); (try clear hb); have hcz31_0 := cz0_ BK251; have hcz31_1 := cz1_ BK251; have hfz31_0 := blk_frozen BK251.out 0; have hfz31_1 := blk_frozen BK251.out 1) | (go_at_call 30; (with_reducible refine (impl_drivesTo.calls k a0_0 a0_1 _ _ l2 t256 _ ((Kd.V_reads' HO2.out).2.2) ?side2 A6.out).mono ?_); (case side2 => exact (Kd.V_reads' HO2.out).2.1); rintro e w32 ⟨v257, rfl, ho0, hb⟩; replace HO1 := am (Kd.V_elder' HO1.out (by exact Kd.N_base (Kd.S_N ho0)) hb); replace HO2 := am (Kd.V_elder' HO2.out (by exact Kd.N_base (Kd.S_N ho0)) hb); have HO258 := am (Kd.N_lower (Kd.N_mono (ok' := fun k_ => ((P1_ k_ ∨ P2_ k_) ∨ w.heap.size ≤ k_) ∧ some k_ ≠ (.slice Ao29 y252.length co29 : Value).ownBlock ∧ k_ ≠ gb251) (Kd.S_N (Kd.S_bound ho0)) (fun k_ hk_ => ⟨(.inr (Nat.le_trans (below_size HB.out) hk_.2.1)), (Kd.fresh' (Kd.N_lt HO254.out) k_ hk_.2.1), (Kd.freshB (g := gb251) (o := .cells #[.string a0_0, .string a0_1] 25 (0, 0)) BK251.out k_ hk_.2.1)⟩)) (below_size HB.out)); replace HO254 := am (Kd.N_elder' HO254.out (by exact Kd.N_base (Kd.S_N ho0)) hb); replace BK251 := am (blk_below BK251.out hb); replace HB := am (below_step HB.out hb); (try clear hb); (try clear ho0); have p259 : 0 ≤ (0 : Int) := (by omega); have q259 : 0 < (l1.length : Int) := of_decide_eq_true (by with_reducible assumption); obtain ⟨ad259, e259, hx259_0⟩ := Kd.at_int (Kd.V_reads' HO1.out).2.2 0 p259 q259; cases e259; have qi259 : (0 < l1.length) = True := eq_true (by omega); (try rw [show ((0 : Int)).toNat = 0 from rfl] at hx259_0); (try rw [Addr.add_zero'] at hx259_0); replace p259 := eq_true p259; replace q259 := eq_true q259; obtain ⟨Ao33, co33, eo33⟩ := Kd.N_slice HO258.out; subst eo33; have p260 : 0 ≤ ((rd l1 0) : Int) := of_decide_eq_true (by with_reducible assumption); have q260 : (rd l1 0) < (t256.length : Int) := of_decide_eq_true (by with_reducible assumption); obtain ⟨ad260, A260_0, c260_0, e260, hx260_0, hl260_0, hi260_0⟩ := at_L3 (Kd.N_reads' HO258.out).2.2 (rd l1 0) p260 q260; cases e260; obtain ⟨ce260, hce260, hMe260, hcc260⟩ := Kd.N_get HO258.out [] (rd l1 0) p260 q260; obtain ⟨ua260_0, uc260_0, rfl, ul260_0, ge260_0⟩ := Kd.FK_slice_open hMe260; have hv260_0 := hcc260 0 _ rfl; rw [Nat.add_zero, show ((Kd.slice 3 (Kd.int .i64))).sz = 1 from rfl, Nat.mul_one] at hv260_0; replace hv260_0 := Option.some.inj (hv260_0.symm.trans hx260_0); injection hv260_0 with hva_ hvn_ hvc_; rw [hva_] at ge260_0; rw [hvc_] at ul260_0; have HL260_0 := am (show Kd.V (Kd.int .i64) 3 _ w.heap.size _ _ (rd_L3 t256 (rd l1 0)) from Kd.V_mk ul260_0 ge260_0); clear hva_ hvn_ hvc_ ge260_0 ul260_0 hcc260 hce260; have HR260_0 := am hi260_0; have HC260_0 := am hl260_0; clear hi260_0 hl260_0; replace p260 := eq_true p260; replace q260 := eq_true q260; have p261 : 0 ≤ (1 : Int) := (by omega); have q261 : 1 < (l1.length : Int) := of_decide_eq_true (by with_reducible assumption); obtain ⟨ad261, e261, hx261_0⟩ := Kd.at_int (Kd.V_reads' HO1.out).2.2 1 p261 q261; obtain rfl : ad259 = ad261 := (by injection e261); (try simp only [show (1 : Int).toNat = 1 from rfl, Nat.reduceMul, Nat.reduceEqDiff, Go.Addr.add, ↓reduceIte] at hx261_0); have qi261 : (1 < l1.length) = True := eq_true (by omega); replace p261 := eq_true p261; replace q261 := eq_true q261; have p262 : 0 ≤ ((rd l1 1) : Int) := of_decide_eq_true (by with_reducible assumption); have q262 : (rd l1 1) < ((rd_L3 t256 (rd l1 0)).length : Int) := of_decide_eq_true (by with_reducible assumption); obtain ⟨ad262, e262, hx262_0⟩ := Kd.at_int (by repeat (with_reducible exact HR260_0.out)) (rd l1 1) p262 q262; cases e262; replace p262 := eq_true p262; replace q262 := eq_true q262; have hcz34_0 := cz0_ BK251; have hcz34_1 := cz1_ BK251; have hfz34_0 := blk_frozen BK251.out 0; have hfz34_1 := blk_frozen BK251.out 1))
         repeat (go_quiet (fail); try go_wp2_with (first | (go_at_call 32; (with_reducible refine (impl_driveIn.calls a0_0 a0_1 t263 _ A23.out).mono ?_); rintro e w35 ⟨p263, rfl, HP263, hb⟩; replace HO1 := am (Kd.V_below (by (with_reducible repeat (apply Kd.V_drewN)); exact HO1.out) hb); replace HO2 := am (Kd.V_below (by (with_reducible repeat (apply Kd.V_drewN)); exact HO2.out) hb); replace HO254 := am (Kd.N_below (by (with_reducible repeat (apply Kd.N_drewN)); exact HO254.out) hb); replace HO258 := am (Kd.N_below (by (with_reducible repeat (apply Kd.N_drewN)); exact HO258.out) hb); replace HL260_0 := am (Kd.V_below (by (with_reducible repeat (apply Kd.V_drewN)); exact HL260_0.out) hb); replace BK251 := am (blk_below (by (with_reducible repeat (refine blk_drewN ?_ _)); exact BK251.out) hb); replace HR260_0 := am (Kd.C_below (by repeat (exact HR260_0.out)) hb); replace HB := am (below_step (by repeat (with_reducible first | exact HB.out | apply pw_below_drewN)) hb); (try clear hb)) | (go_at_call 31; (with_reducible refine (impl_firstWay.calls k _ _ t256 _ _ l1 t263 t264 _ ((Kd.N_reads' HO258.out).2.2) ?side2 ?side3 ?side4 A24.out _ HP263).mono ?_); (case side2 => exact (Kd.N_reads' HO258.out).2.1); (case side3 => repeat (exact (Kd.V_reads' HO1.out).2.2)); (case side4 => exact (Kd.V_reads' HO1.out).2.1); rintro e w36 ⟨rfl, hb⟩; replace HO1 := am (Kd.V_below HO1.out hb); replace HO2 := am (Kd.V_below HO2.out hb); replace HO254 := am (Kd.N_below HO254.out hb); replace HO258 := am (Kd.N_below HO258.out hb); replace HL260_0 := am (Kd.V_below HL260_0.out hb); replace BK251 := am (blk_below BK251.out hb); replace HR260_0 := am (Kd.C_below (by repeat (with_reducible exact HR260_0.out)) hb); replace HB := am (below_step HB.out hb); (try clear hb))))
         go_ret2
         exact ⟨by rfl, by exact HB.out⟩
       ·rw [if_neg c12] at H
        exact absurd H (by simp)
      ·rw [if_neg c11] at H
       exact absurd H (by simp)
     ·rw [if_neg c10] at H
      exact absurd H (by simp)
    ·rw [if_neg c9] at H
     exact absurd H (by simp)
   ·rw [if_neg c8] at H
    exact absurd H (by simp)
  ·rw [if_neg c7] at H
   exact absurd H (by simp)
 ·replace c5 := Bool.eq_false_iff.mpr c5
  subst c5
  rw [if_neg (show ¬ (false = true) by decide)] at H
  simp only [Option.some.injEq, Prod.mk.injEq] at H
  obtain ⟨rfl, rfl⟩ := H
  go_enter Try.func6, Try.ntmps6
  go_wp2_with (first | ((with_reducible refine gate_dst (N := 3) rfl ?_); refine bx_ 3 (#[.string a0_0, .string a0_1]) 25 ?_; intro gb251 hg w37 hbox hb; replace HO1 := am (Kd.V_below (Kd.V_elderB HO1.out gb251 (Nat.le_of_eq hg.symm)) hb); replace HO2 := am (Kd.V_below (Kd.V_elderB HO2.out gb251 (Nat.le_of_eq hg.symm)) hb); have BK251 := am (hbox); have GW251 := am ((by rw [hg]; exact (below_size HB.out) : w.heap.size ≤ gb251)); have GE251 := am ((by rw [hg]; exact (below_size HB.out) : w.heap.size ≤ gb251)); replace HB := am (below_step HB.out hb); clear hb hbox hg; have hcz38_0 := cz0_ BK251; have hcz38_1 := cz1_ BK251; have hfz38_0 := blk_frozen BK251.out 0; have hfz38_1 := blk_frozen BK251.out 1) | ((with_reducible refine gate_dst (N := 12) rfl ?_); refine Kd.N_lit (Kd.slice 3 (Kd.int .i64)) _ 26 ?hg (N' := 12) ?hd (xs := ([l1, l2] : List (List Int))) (inner := [.slice A1 l1.length c1, .slice A2 l2.length c2]) (ok := (fun k_ => ((P1_ k_ ∨ P2_ k_) ∨ w.heap.size ≤ k_) ∧ k_ ≠ gb251)) (okp := (fun k_ => ((P1_ k_ ∨ P2_ k_) ∨ w.heap.size ≤ k_) ∧ k_ ≠ gb251)) ?hr ?hp (fun _ hk => hk) ((show ∀ k_, w37.heap.size ≤ k_ → (fun k_ => ((P1_ k_ ∨ P2_ k_) ∨ w.heap.size ≤ k_) ∧ k_ ≠ gb251) k_ from fun k_ hk => ⟨(.inr (Nat.le_trans (below_size HB.out) hk)), Kd.freshB (g := gb251) (o := .cells #[.string a0_0, .string a0_1] 25 (0, 0)) BK251.out k_ hk⟩) _ (Nat.le_refl _)) (Below.refl _ _) (Nat.le_refl _) (by simp) ?_; (case hd => rfl); (case hg => rfl); (case hr => go_simp; done); (case hp => exact (Reps.one (show Kd.FK (Kd.slice 3 (Kd.int .i64)) _ _ l1 [.slice A1 l1.length c1] from (Kd.FK_slice_mk (Kd.V_reads' (Kd.V_mono (ok' := (fun k_ => ((P1_ k_ ∨ P2_ k_) ∨ w.heap.size ≤ k_) ∧ k_ ≠ gb251)) (HO1.out) (fun k_ hk => ⟨hk.1, hk.2⟩))).2.1 (Kd.V_F (Kd.V_mono (ok' := (fun k_ => ((P1_ k_ ∨ P2_ k_) ∨ w.heap.size ≤ k_) ∧ k_ ≠ gb251)) (HO1.out) (fun k_ hk => ⟨hk.1, hk.2⟩))))) (Reps.one (show Kd.FK (Kd.slice 3 (Kd.int .i64)) _ _ l2 [.slice A2 l2.length c2] from (Kd.FK_slice_mk (Kd.V_reads' (Kd.V_mono (ok' := (fun k_ => ((P1_ k_ ∨ P2_ k_) ∨ w.heap.size ≤ k_) ∧ k_ ≠ gb251)) (HO2.out) (fun k_ hk => ⟨hk.1, hk.2⟩))).2.1 (Kd.V_F (Kd.V_mono (ok' := (fun k_ => ((P1_ k_ ∨ P2_ k_) ∨ w.heap.size ≤ k_) ∧ k_ ≠ gb251)) (HO2.out) (fun k_ hk => ⟨hk.1, hk.2⟩))))) (Reps.none _ _)))); intro v253 w39 ho40 hb hg_ hnew_; clear hg_ hnew_; (rw [← Ny252.out] at ho40); replace HO1 := am (Kd.V_elder' HO1.out (Kd.N_base ho40) hb); replace HO2 := am (Kd.V_elder' HO2.out (Kd.N_base ho40) hb); have HO254 := am (Kd.N_lower ho40 (below_size HB.out)); replace BK251 := am (blk_below BK251.out hb); replace HB := am (below_step HB.out hb); clear hb ho40; obtain ⟨Ao41, co41, eo41⟩ := Kd.N_slice HO254.out; subst eo41) | (go_at_call 29; (with_reducible refine (impl_areDriven.calls k a0_0 a0_1 _ _ y252 false _ ((Kd.N_reads' HO254.out).2.2) ?side2 A4.out).mono ?_); (case side2 => exact (Kd.N_reads' HO254.out).2.1); rintro e w42 ⟨rfl, hb⟩; replace HO1 := am (Kd.V_below HO1.out hb); replace HO2 := am (Kd.V_below HO2.out hb); replace HO254 := am (Kd.N_below HO254.out hb); replace BK251 := am (blk_below BK251.out hb); replace HB := am (below_step HB.out hb); (try clear hb)))
  go_ret2
  exact ⟨by rfl, by exact HB.out⟩
def spec_l1In.f (a0 : Int) (a1 : Int) (a2 : Int) : Option (Bool) := if a0 ≥ a1 then (some (decide (a0 ≤ a2))) else (some false)
theorem spec_l1In.calls (a0 : Int) (a1 : Int) (a2 : Int) (r : Bool) (w : World) (h : spec_l1In.f a0 a1 a2 = some r) :
  Calls Try.prog 62 #[.int .i64 a0, .int .i64 a1, .int .i64 a2] w fun e w' => e = .returned (.bool r) ∧ Drawn0 w w' := by
 unfold spec_l1In.f at h
 have H := h
 clear h
 by_cases c4 : a0 ≥ a1
 ·rw [if_pos c4] at H
  have c4b0 : decide (a1 ≤ a0) = true := decide_eq_true c4
  clear c4
  obtain rfl := Option.some.inj H
  go_enter Try.func62, Try.ntmps62
  go_wp2
  go_ret
  exact ⟨by rfl, by repeat (exact Drawn0.refl _)⟩
 ·rw [if_neg c4] at H
  have c4b0 : decide (a1 ≤ a0) = false := decide_eq_false c4
  clear c4
  obtain rfl := Option.some.inj H
  go_enter Try.func62, Try.ntmps62
  go_wp2
  go_ret
  exact ⟨by rfl, by repeat (exact Drawn0.refl _)⟩
def spec_owText.l0 : Nat → ByteArray → Int → Int → Int → Option (Bool)
 | 0, _, _, _, _ => none
 | k + 1, x0, x1, x2, x7 => if x7 < (x0.size : Int) then (if 0 ≤ x7 then (if (bt x0 x7) = x1 then (spec_owText.l0 k x0 x1 x2 (wrap64 (x7 + 1))) else (if (bt x0 x7) = x2 then (spec_owText.l0 k x0 x1 x2 (wrap64 (x7 + 1))) else (some false))) else (none)) else (some true)
def spec_owText.f (k : Nat) (a0 : ByteArray) (a1 : Int) (a2 : Int) : Option (Bool) := (spec_l1In.f (a0.size : Int) 2 8).bind fun t265 => (if t265 = true then (spec_owText.l0 k a0 a1 a2 0) else (some false))
theorem spec_owText.calls (k : Nat) (a0 : ByteArray) (a1 : Int) (a2 : Int) (r : Bool) (w : World) (h : spec_owText.f k a0 a1 a2 = some r) :
  Calls Try.prog 70 #[.string a0, .int .u8 a1, .int .u8 a2] w fun e w' => e = .returned (.bool r) ∧ Drawn0 w w' := by
 unfold spec_owText.f at h
 have H := h
 clear h
 obtain ⟨t265, A4, H⟩ := bnd_ H
 try dsimp only at H
 by_cases c5 : t265 = true
 ·subst c5
  rw [if_pos rfl] at H
  have H' := am H
  clear H
  go_enter Try.func70, Try.ntmps70
  go_wp2_with ((with_reducible refine gate_callee (f := 62) rfl ?_); refine gl_ 10 Try.func62 #[.int .i64 (a0.size : Int), .int .i64 2, .int .i64 8] ?_; (with_reducible refine (spec_l1In.calls (a0.size : Int) 2 8 true _ A4.out).mono ?_); rintro e w' ⟨rfl, ⟨nd, rfl⟩⟩; refine ⟨_, rfl, ?_⟩)
  go_loopg [7] k (fun kq v7 w' => ∃ (x7_1 : Int), v7 = .int .i64 x7_1 ∧ Aside0 (spec_owText.l0 kq a0 a1 a2 x7_1 = some r) ∧ Aside0 (kq ≤ k) ∧ Drawn0 w w')
  case atStart => exact ⟨(0), (by rfl), H', ⟨Nat.le_refl _⟩, by repeat (first | exact Drawn0.refl _ | apply Drawn0.step)⟩
  case round =>
   clear H'
   obtain ⟨x7_1, rfl, HA, HK1, ⟨m1, rfl⟩⟩ := hrel
   cases gk with
   | zero => exact absurd HA.out (by simp [spec_owText.l0])
   | succ k1 =>
    have H := HA.out
    clear HA
    simp only [spec_owText.l0] at H
    by_cases c6 : x7_1 < (a0.size : Int)
    ·rw [if_pos c6] at H
     have c6b0 : decide (x7_1 < (a0.size : Int)) = true := decide_eq_true c6
     clear c6
     by_cases c7 : 0 ≤ x7_1
     ·rw [if_pos c7] at H
      have c7b0 : decide (0 ≤ x7_1) = true := decide_eq_true c7
      clear c7
      by_cases c9 : (bt a0 x7_1) = a1
      ·rw [if_pos c9] at H
       have c9b0 : ((bt a0 x7_1) == a1) = true := beq_iff_eq.mpr c9
       have c9b1 : ((bt a0 x7_1) != a1) = false := bne_eq_false_iff_eq.mpr c9
       clear c9
       have H' := am H
       clear H
       have p8 : 0 ≤ (x7_1 : Int) := of_decide_eq_true (by with_reducible assumption)
       have q8 : x7_1 < (a0.size : Int) := of_decide_eq_true (by with_reducible assumption)
       have hx8 := bt_at a0 x7_1
       replace p8 := eq_true p8
       replace q8 := eq_true q8
       go_wp2
       go_roundg k1
       case measure => have := HK1.out; omega
       case rel => exact ⟨(wrap64 (x7_1 + 1)), (by rfl), H', ⟨by have := HK1.out; omega⟩, by repeat (first | exact Drawn0.refl _ | apply Drawn0.step)⟩
      ·rw [if_neg c9] at H
       have c9b0 : ((bt a0 x7_1) == a1) = false := beq_eq_false_iff_ne.mpr c9
       have c9b1 : ((bt a0 x7_1) != a1) = true := bne_iff_ne.mpr c9
       by_cases c11 : (bt a0 x7_1) = a2
       ·rw [if_pos c11] at H
        have c11b0 : ((bt a0 x7_1) == a2) = true := beq_iff_eq.mpr c11
        have c11b1 : ((bt a0 x7_1) != a2) = false := bne_eq_false_iff_eq.mpr c11
        clear c11
        have H' := am H
        clear H
        have p8 : 0 ≤ (x7_1 : Int) := of_decide_eq_true (by with_reducible assumption)
        have q8 : x7_1 < (a0.size : Int) := of_decide_eq_true (by with_reducible assumption)
        have hx8 := bt_at a0 x7_1
        replace p8 := eq_true p8
        replace q8 := eq_true q8
        have p10 : 0 ≤ (x7_1 : Int) := of_decide_eq_true (by with_reducible assumption)
        have q10 : x7_1 < (a0.size : Int) := of_decide_eq_true (by with_reducible assumption)
        have hx10 := bt_at a0 x7_1
        replace p10 := eq_true p10
        replace q10 := eq_true q10
        go_wp2
        go_roundg k1
        case measure => have := HK1.out; omega
        case rel => exact ⟨(wrap64 (x7_1 + 1)), (by rfl), H', ⟨by have := HK1.out; omega⟩, by repeat (first | exact Drawn0.refl _ | apply Drawn0.step)⟩
       ·rw [if_neg c11] at H
        have c11b0 : ((bt a0 x7_1) == a2) = false := beq_eq_false_iff_ne.mpr c11
        have c11b1 : ((bt a0 x7_1) != a2) = true := bne_iff_ne.mpr c11
        obtain rfl := Option.some.inj H
        have p8 : 0 ≤ (x7_1 : Int) := of_decide_eq_true (by with_reducible assumption)
        have q8 : x7_1 < (a0.size : Int) := of_decide_eq_true (by with_reducible assumption)
        have hx8 := bt_at a0 x7_1
        replace p8 := eq_true p8
        replace q8 := eq_true q8
        have p10 : 0 ≤ (x7_1 : Int) := of_decide_eq_true (by with_reducible assumption)
        have q10 : x7_1 < (a0.size : Int) := of_decide_eq_true (by with_reducible assumption)
        have hx10 := bt_at a0 x7_1
        replace p10 := eq_true p10
        replace q10 := eq_true q10
        go_wp2
        go_ret
        exact ⟨by rfl, by repeat (first | exact Drawn0.refl _ | apply Drawn0.step)⟩
     ·rw [if_neg c7] at H
      exact absurd H (by simp)
    ·rw [if_neg c6] at H
     have c6b0 : decide (x7_1 < (a0.size : Int)) = false := decide_eq_false c6
     clear c6
     obtain rfl := Option.some.inj H
     go_wp2
     go_ret
     exact ⟨by rfl, by repeat (first | exact Drawn0.refl _ | apply Drawn0.step)⟩
 ·replace c5 := Bool.eq_false_iff.mpr c5
  subst c5
  rw [if_neg (show ¬ (false = true) by decide)] at H
  obtain rfl := Option.some.inj H
  go_enter Try.func70, Try.ntmps70
  go_wp2_with ((with_reducible refine gate_callee (f := 62) rfl ?_); refine gl_ 10 Try.func62 #[.int .i64 (a0.size : Int), .int .i64 2, .int .i64 8] ?_; (with_reducible refine (spec_l1In.calls (a0.size : Int) 2 8 false _ A4.out).mono ?_); rintro e w' ⟨rfl, ⟨nd, rfl⟩⟩; refine ⟨_, rfl, ?_⟩)
  go_ret
  exact ⟨by rfl, by repeat (first | exact Drawn0.refl _ | apply Drawn0.step)⟩
def spec_owGood.f (k : Nat) (a0_0 : ByteArray) (a0_1 : ByteArray) : Option (Bool) := (spec_owText.f k a0_0 101 119).bind fun t267 => (if t267 = true then ((spec_owText.f k a0_1 110 115).bind fun t268 => (some t268)) else (some false))
theorem spec_owGood.calls (k : Nat) (a0_0 : ByteArray) (a0_1 : ByteArray) (r : Bool) (w : World) (h : spec_owGood.f k a0_0 a0_1 = some r) :
  Calls Try.prog 49 #[.agg #[.string a0_0, .string a0_1]] w fun e w' => e = .returned (.bool r) ∧ Below w.heap.size w w' := by
 have hu25 := Try.underlying25
 have HB := am (Below.refl w.heap.size w)
 unfold spec_owGood.f at h
 have H := h
 clear h
 obtain ⟨t267, A2, H⟩ := bnd_ H
 try dsimp only at H
 by_cases c3 : t267 = true
 ·subst c3
  rw [if_pos rfl] at H
  obtain ⟨t268, A4, H⟩ := bnd_ H
  try dsimp only at H
  obtain rfl := Option.some.inj H
  go_enter Try.func49, Try.ntmps49
  go_wp2_with (first | ((with_reducible refine gate_dst (N := 1) rfl ?_); refine bx_ 1 (#[.string a0_0, .string a0_1]) 25 ?_; intro gb266 hg w5 hbox hb; have BK266 := am (hbox); have GW266 := am ((by rw [hg]; exact (below_size HB.out) : w.heap.size ≤ gb266)); have GE266 := am ((by rw [hg]; exact (below_size HB.out) : w.heap.size ≤ gb266)); replace HB := am (below_step HB.out hb); clear hb hbox hg; have hcz6_0 := cz0_ BK266; have hcz6_1 := cz1_ BK266; have hfz6_0 := blk_frozen BK266.out 0; have hfz6_1 := blk_frozen BK266.out 1) | ((with_reducible refine gate_callee (f := 70) rfl ?_); refine gl_ 5 Try.func70 #[.string a0_0, .int .u8 101, .int .u8 119] ?_; (with_reducible refine (spec_owText.calls k a0_0 101 119 true _ A2.out).mono ?_); rintro e w' ⟨rfl, ⟨nd, rfl⟩⟩; refine ⟨_, rfl, ?_⟩) | (go_at_call 70; (with_reducible refine (spec_owText.calls k a0_1 110 115 t268 _ A4.out).mono ?_); rintro e w' ⟨rfl, ⟨nd, rfl⟩⟩))
  go_ret
  exact ⟨by rfl, by repeat (with_reducible first | exact HB.out | apply pw_below_drewN)⟩
 ·replace c3 := Bool.eq_false_iff.mpr c3
  subst c3
  rw [if_neg (show ¬ (false = true) by decide)] at H
  obtain rfl := Option.some.inj H
  go_enter Try.func49, Try.ntmps49
  go_wp2_with (first | ((with_reducible refine gate_dst (N := 1) rfl ?_); refine bx_ 1 (#[.string a0_0, .string a0_1]) 25 ?_; intro gb266 hg w7 hbox hb; have BK266 := am (hbox); have GW266 := am ((by rw [hg]; exact (below_size HB.out) : w.heap.size ≤ gb266)); have GE266 := am ((by rw [hg]; exact (below_size HB.out) : w.heap.size ≤ gb266)); replace HB := am (below_step HB.out hb); clear hb hbox hg; have hcz8_0 := cz0_ BK266; have hcz8_1 := cz1_ BK266; have hfz8_0 := blk_frozen BK266.out 0; have hfz8_1 := blk_frozen BK266.out 1) | ((with_reducible refine gate_callee (f := 70) rfl ?_); refine gl_ 5 Try.func70 #[.string a0_0, .int .u8 101, .int .u8 119] ?_; (with_reducible refine (spec_owText.calls k a0_0 101 119 false _ A2.out).mono ?_); rintro e w' ⟨rfl, ⟨nd, rfl⟩⟩; refine ⟨_, rfl, ?_⟩))
  go_ret
  exact ⟨by rfl, by repeat (with_reducible first | exact HB.out | apply pw_below_drewN)⟩
def spec_owCorner.corner (wide high : Int) (x : List Int) : Bool := decide (x.length = 2) && (decide (0 ≤ rd x 0 ∧ rd x 0 ≤ wide - 1) && decide (0 ≤ rd x 1 ∧ rd x 1 ≤ high - 1))
def spec_owCorner.f (a0_0 a0_1 : ByteArray) (l1 : List Int) : Option Bool := if a0_0.size ≤ 1048576 ∧ a0_1.size ≤ 1048576 then some (spec_owCorner.corner a0_1.size a0_0.size l1) else none
theorem spec_owCorner.within (a b c : Int) : spec_l1In.f a b c = some (decide (b ≤ a ∧ a ≤ c)) := by
 unfold spec_l1In.f
 by_cases h : a ≥ b
 ·rw [if_pos h]; simp [show b ≤ a from h]
 ·rw [if_neg h]; simp [show ¬ b ≤ a from h]
theorem spec_owCorner.calls (a0_0 a0_1 : ByteArray) (A1 : Option Addr) (c1 : Nat) (l1 : List Int) (r : Bool) (w : World) (hr1 : Kd.C (Kd.int .i64) w A1 l1.length l1) (hc1 : l1.length ≤ c1) (h : spec_owCorner.f a0_0 a0_1 l1 = some r) :
  Calls Try.prog 50 #[.agg #[.string a0_0, .string a0_1], .slice A1 l1.length c1] w fun e w' => e = .returned (.bool r) ∧ Below w.heap.size w w' := by
 unfold spec_owCorner.f at h
 by_cases hz : a0_0.size ≤ 1048576 ∧ a0_1.size ≤ 1048576
 case neg => rw [if_neg hz] at h; cases h
 rw [if_pos hz] at h
 obtain ⟨z0, z1⟩ := hz
 obtain rfl := Option.some.inj h
 clear h
 have hp0 : (w.alloc (.cells #[.string a0_0, .string a0_1] 25)).cell? ⟨w.heap.size, 0, none⟩ = some (.string a0_0) := by
  rw [World.cell?_alloc_at _ _ _ _ rfl]; rfl
 have hp1 : (w.alloc (.cells #[.string a0_0, .string a0_1] 25)).cell? ⟨w.heap.size, 1, none⟩ = some (.string a0_1) := by
  rw [World.cell?_alloc_at _ _ _ _ rfl]; rfl
 have HR := am (Kd.C_alloc hr1 (.cells #[.string a0_0, .string a0_1] 25))
 have hB := am (below_alloc (Below.refl w.heap.size w) (.cells #[.string a0_0, .string a0_1] 25))
 clear hr1
 by_cases hl : l1.length = 2
 ·obtain ⟨ad, hA, hx0⟩ := Kd.at_int HR.out 0 (by omega) (by omega)
  obtain ⟨ad1, hA1, hx1⟩ := Kd.at_int HR.out 1 (by omega) (by omega)
  subst hA
  obtain rfl : ad = ad1 := by injection hA1
  rw [show (0 : Int).toNat = 0 from rfl, Addr.add_zero'] at hx0
  rw [show (1 : Int).toNat = 1 from rfl] at hx1
  have e : spec_owCorner.corner a0_1.size a0_0.size l1 = (decide (0 ≤ rd l1 0 ∧ rd l1 0 ≤ (a0_1.size : Int) - 1) && decide (0 ≤ rd l1 1 ∧ rd l1 1 ≤ (a0_0.size : Int) - 1)) := by
   unfold spec_owCorner.corner
   rw [decide_eq_true hl, Bool.true_and]
  rw [e]
  clear e HR
  generalize rd l1 0 = u at hx0 ⊢
  generalize rd l1 1 = v at hx1 ⊢
  rw [hl]
  rw [hl] at hc1
  clear hl
  have W0 := am (spec_owCorner.within u 0 ((a0_1.size : Int) - 1))
  have W1 := am (spec_owCorner.within v 0 ((a0_0.size : Int) - 1))
  have hx1' := hx1
  simp only [show (1 : Int).toNat = 1 from rfl, Nat.reduceMul, Nat.reduceEqDiff, Go.Addr.add, ↓reduceIte] at hx1'
  generalize decide (0 ≤ u ∧ u ≤ (a0_1.size : Int) - 1) = b0 at W0 ⊢
  generalize decide (0 ≤ v ∧ v ≤ (a0_0.size : Int) - 1) = b1 at W1 ⊢
  cases b0 with
  | false =>
   go_enter Try.func50, Try.ntmps50
   go_wp2
   go_quiet ((go_at_call 62; (with_reducible refine (spec_l1In.calls u 0 ((a0_1.size : Int) - 1) false _ W0.out).mono ?_); rintro e w' ⟨rfl, ⟨nd, rfl⟩⟩; exact ⟨rfl, _, World.drewN_drewN _ _ _⟩))
   go_wp2
   go_ret
   exact ⟨rfl, pw_below_drewN hB.out _⟩
  | true =>
   go_enter Try.func50, Try.ntmps50
   go_wp2
   go_quiet (first | (go_at_call 62; (with_reducible refine (spec_l1In.calls u 0 ((a0_1.size : Int) - 1) true _ W0.out).mono ?_); rintro e w' ⟨rfl, ⟨nd, rfl⟩⟩; exact ⟨rfl, _, World.drewN_drewN _ _ _⟩) | (go_at_call 62; (with_reducible refine (spec_l1In.calls v 0 ((a0_0.size : Int) - 1) b1 _ W1.out).mono ?_); rintro e w' ⟨rfl, ⟨nd, rfl⟩⟩; exact ⟨rfl, _, World.drewN_drewN _ _ _⟩))
   go_wp2
   go_ret
   exact ⟨rfl, pw_below_drewN hB.out _⟩
 ·have e : spec_owCorner.corner a0_1.size a0_0.size l1 = false := by unfold spec_owCorner.corner; rw [decide_eq_false hl]; rfl
  rw [e]
  have hn : ((l1.length : Int) == 2) = false := beq_eq_false_iff_ne.2 (fun z => hl (by omega))
  go_enter Try.func50, Try.ntmps50
  go_wp2
  go_quiet (fail)
  go_wp2
  go_ret
  exact ⟨rfl, pw_below_drewN hB.out _⟩
def spec_owAsked.f (k : Nat) (a0_0 : ByteArray) (a0_1 : ByteArray) (l1 : List Int) (l2 : List Int) : Option (Bool) := (spec_owGood.f k a0_0 a0_1).bind fun t270 => (if t270 = true then ((spec_owCorner.f a0_0 a0_1 l1).bind fun t271 => (if t271 = true then ((spec_owCorner.f a0_0 a0_1 l2).bind fun t272 => (some t272)) else (some false))) else (some false))
theorem spec_owAsked.calls (k : Nat) (a0_0 : ByteArray) (a0_1 : ByteArray) (A1 : Option Addr) (c1 : Nat) (l1 : List Int) (A2 : Option Addr) (c2 : Nat) (l2 : List Int) (r : Bool) (w : World) (hr1 : Kd.C (Kd.int .i64) w A1 l1.length l1) (hc1 : l1.length ≤ c1) (hr2 : Kd.C (Kd.int .i64) w A2 l2.length l2) (hc2 : l2.length ≤ c2) (h : spec_owAsked.f k a0_0 a0_1 l1 l2 = some r) :
  Calls Try.prog 33 #[.agg #[.string a0_0, .string a0_1], .slice A1 l1.length c1, .slice A2 l2.length c2] w fun e w' => e = .returned (.bool r) ∧ Below w.heap.size w w' := by
 have hu25 := Try.underlying25
 have HR1 := am hr1
 have HC1 := am hc1
 clear hr1 hc1
 have HR2 := am hr2
 have HC2 := am hc2
 clear hr2 hc2
 have HB := am (Below.refl w.heap.size w)
 unfold spec_owAsked.f at h
 have H := h
 clear h
 obtain ⟨t270, A4, H⟩ := bnd_ H
 try dsimp only at H
 by_cases c5 : t270 = true
 ·subst c5
  rw [if_pos rfl] at H
  obtain ⟨t271, A6, H⟩ := bnd_ H
  try dsimp only at H
  by_cases c7 : t271 = true
  ·subst c7
   rw [if_pos rfl] at H
   obtain ⟨t272, A8, H⟩ := bnd_ H
   try dsimp only at H
   obtain rfl := Option.some.inj H
   go_enter Try.func33, Try.ntmps33
   go_wp2_with (first | ((with_reducible refine gate_dst (N := 3) rfl ?_); refine bx_ 3 (#[.string a0_0, .string a0_1]) 25 ?_; intro gb269 hg w9 hbox hb; have BK269 := am (hbox); have GW269 := am ((by rw [hg]; exact (below_size HB.out) : w.heap.size ≤ gb269)); have GE269 := am ((by rw [hg]; exact (below_size HB.out) : w.heap.size ≤ gb269)); replace HB := am (below_step HB.out hb); clear hb hbox hg; have hcz10_0 := cz0_ BK269; have hcz10_1 := cz1_ BK269; have hfz10_0 := blk_frozen BK269.out 0; have hfz10_1 := blk_frozen BK269.out 1) | ((with_reducible refine gate_callee (f := 49) rfl ?_); refine gl_ 8 Try.func49 #[.agg #[.string a0_0, .string a0_1]] ?_; (with_reducible refine (spec_owGood.calls k a0_0 a0_1 true _ A4.out).mono ?_); rintro e w11 ⟨rfl, hb⟩; refine ⟨_, rfl, ?_⟩; replace BK269 := am (blk_below BK269.out hb); replace HB := am (below_step HB.out hb); (try clear hb); have hcz12_0 := cz0_ BK269; have hcz12_1 := cz1_ BK269; have hfz12_0 := blk_frozen BK269.out 0; have hfz12_1 := blk_frozen BK269.out 1) | (go_at_call 50; (with_reducible refine (spec_owCorner.calls a0_0 a0_1 _ _ l1 true _ ((Kd.C_below HR1.out HB.out)) ?side2 A6.out).mono ?_); (case side2 => exact HC1.out); rintro e w13 ⟨rfl, hb⟩; replace BK269 := am (blk_below BK269.out hb); replace HB := am (below_step HB.out hb); (try clear hb); have hcz14_0 := cz0_ BK269; have hcz14_1 := cz1_ BK269; have hfz14_0 := blk_frozen BK269.out 0; have hfz14_1 := blk_frozen BK269.out 1) | (go_at_call 50; (with_reducible refine (spec_owCorner.calls a0_0 a0_1 _ _ l2 t272 _ ((Kd.C_below HR2.out HB.out)) ?side2 A8.out).mono ?_); (case side2 => exact HC2.out); rintro e w15 ⟨rfl, hb⟩; replace BK269 := am (blk_below BK269.out hb); replace HB := am (below_step HB.out hb); (try clear hb)))
   go_ret
   exact ⟨by rfl, by exact HB.out⟩
  ·replace c7 := Bool.eq_false_iff.mpr c7
   subst c7
   rw [if_neg (show ¬ (false = true) by decide)] at H
   obtain rfl := Option.some.inj H
   go_enter Try.func33, Try.ntmps33
   go_wp2_with (first | ((with_reducible refine gate_dst (N := 3) rfl ?_); refine bx_ 3 (#[.string a0_0, .string a0_1]) 25 ?_; intro gb269 hg w16 hbox hb; have BK269 := am (hbox); have GW269 := am ((by rw [hg]; exact (below_size HB.out) : w.heap.size ≤ gb269)); have GE269 := am ((by rw [hg]; exact (below_size HB.out) : w.heap.size ≤ gb269)); replace HB := am (below_step HB.out hb); clear hb hbox hg; have hcz17_0 := cz0_ BK269; have hcz17_1 := cz1_ BK269; have hfz17_0 := blk_frozen BK269.out 0; have hfz17_1 := blk_frozen BK269.out 1) | ((with_reducible refine gate_callee (f := 49) rfl ?_); refine gl_ 8 Try.func49 #[.agg #[.string a0_0, .string a0_1]] ?_; (with_reducible refine (spec_owGood.calls k a0_0 a0_1 true _ A4.out).mono ?_); rintro e w18 ⟨rfl, hb⟩; refine ⟨_, rfl, ?_⟩; replace BK269 := am (blk_below BK269.out hb); replace HB := am (below_step HB.out hb); (try clear hb); have hcz19_0 := cz0_ BK269; have hcz19_1 := cz1_ BK269; have hfz19_0 := blk_frozen BK269.out 0; have hfz19_1 := blk_frozen BK269.out 1) | (go_at_call 50; (with_reducible refine (spec_owCorner.calls a0_0 a0_1 _ _ l1 false _ ((Kd.C_below HR1.out HB.out)) ?side2 A6.out).mono ?_); (case side2 => exact HC1.out); rintro e w20 ⟨rfl, hb⟩; replace BK269 := am (blk_below BK269.out hb); replace HB := am (below_step HB.out hb); (try clear hb)))
   go_ret
   exact ⟨by rfl, by exact HB.out⟩
 ·replace c5 := Bool.eq_false_iff.mpr c5
  subst c5
  rw [if_neg (show ¬ (false = true) by decide)] at H
  obtain rfl := Option.some.inj H
  go_enter Try.func33, Try.ntmps33
  go_wp2_with (first | ((with_reducible refine gate_dst (N := 3) rfl ?_); refine bx_ 3 (#[.string a0_0, .string a0_1]) 25 ?_; intro gb269 hg w21 hbox hb; have BK269 := am (hbox); have GW269 := am ((by rw [hg]; exact (below_size HB.out) : w.heap.size ≤ gb269)); have GE269 := am ((by rw [hg]; exact (below_size HB.out) : w.heap.size ≤ gb269)); replace HB := am (below_step HB.out hb); clear hb hbox hg; have hcz22_0 := cz0_ BK269; have hcz22_1 := cz1_ BK269; have hfz22_0 := blk_frozen BK269.out 0; have hfz22_1 := blk_frozen BK269.out 1) | ((with_reducible refine gate_callee (f := 49) rfl ?_); refine gl_ 8 Try.func49 #[.agg #[.string a0_0, .string a0_1]] ?_; (with_reducible refine (spec_owGood.calls k a0_0 a0_1 false _ A4.out).mono ?_); rintro e w23 ⟨rfl, hb⟩; refine ⟨_, rfl, ?_⟩; replace BK269 := am (blk_below BK269.out hb); replace HB := am (below_step HB.out hb); (try clear hb)))
  go_ret
  exact ⟨by rfl, by exact HB.out⟩
end Go.Proofs.Ytdhdkkhbgfcoiaa.MX
