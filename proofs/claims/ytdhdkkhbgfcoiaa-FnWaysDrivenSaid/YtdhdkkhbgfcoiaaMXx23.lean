-- The machine side, written by this repo's program mp.py; contracts marked as of this repo are this session's own.
import Derived.Test.YtdhdkkhbgfcoiaaMXx0
import Derived.Test.YtdhdkkhbgfcoiaaMXx1
import Derived.Test.YtdhdkkhbgfcoiaaMXx3
import Derived.Test.YtdhdkkhbgfcoiaaMXx7
import Derived.Test.YtdhdkkhbgfcoiaaMXx10
import Derived.Test.YtdhdkkhbgfcoiaaMXx11
import Derived.Test.YtdhdkkhbgfcoiaaMXx12
import Derived.Test.YtdhdkkhbgfcoiaaMXx14
import Derived.Test.YtdhdkkhbgfcoiaaMXx15
import Derived.Test.YtdhdkkhbgfcoiaaMXx16
import Derived.Test.YtdhdkkhbgfcoiaaMXx17
import Derived.Test.YtdhdkkhbgfcoiaaMXx19
import Derived.Test.YtdhdkkhbgfcoiaaMXx20
import Derived.Test.YtdhdkkhbgfcoiaaMXx21
import Derived.Test.YtdhdkkhbgfcoiaaMXx22
namespace Go.Proofs.Ytdhdkkhbgfcoiaa.MX
open Go.RowKit Go.Proofs.YtdhdkkhbgfcoiaaW.PrintWords Go.Proofs.YtdhdkkhbgfcoiaaW.PrintLast Go.Proofs.YtdhdkkhbgfcoiaaW.PrintMore
attribute [local go_sem] max2_int min2_int max_two min_two max_three min_three max_four min_four   -- for this text's walks alone
set_option maxHeartbeats 100000000
set_option maxRecDepth 100000
set_option linter.unusedVariables false
set_option linter.unusedSimpArgs false
def laws_FnWaysDriven.Rw (W : World) (ok : Nat → Prop) (A : Option Addr) (c : Nat) (l : List Int) : Prop := Kd.V (Kd.int .i64) 3 W 0 ok (.slice A l.length c) l
theorem laws_FnWaysDriven.Rw.of {W : World} {b : Nat} {ok : Nat → Prop} {v : Value} {l : List Int} (h : Kd.V (Kd.int .i64) 3 W b ok v l) : ∃ A c, v = .slice A l.length c ∧ laws_FnWaysDriven.Rw W ok A c l := by
 obtain ⟨A, c, rfl, hl, hf⟩ := h
 exact ⟨A, c, rfl, A, c, rfl, hl, hf⟩
theorem laws_FnWaysDriven.Rw.C {W : World} {ok : Nat → Prop} {A : Option Addr} {c : Nat} {l : List Int} (h : laws_FnWaysDriven.Rw W ok A c l) : Kd.C (Kd.int .i64) W A l.length l := (Kd.V_reads' h).2.2
theorem laws_FnWaysDriven.Rw.le {W : World} {ok : Nat → Prop} {A : Option Addr} {c : Nat} {l : List Int} (h : laws_FnWaysDriven.Rw W ok A c l) : l.length ≤ c := (Kd.V_reads' h).2.1
theorem laws_FnWaysDriven.Rw.mono {W : World} {ok ok' : Nat → Prop} {A : Option Addr} {c : Nat} {l : List Int} (h : laws_FnWaysDriven.Rw W ok A c l) (hk : ∀ k, ok k → ok' k) : laws_FnWaysDriven.Rw W ok' A c l := Kd.V_mono h hk
theorem laws_FnWaysDriven.Rw.V {W : World} {ok : Nat → Prop} {A : Option Addr} {c : Nat} {l : List Int} (h : laws_FnWaysDriven.Rw W ok A c l) (b : Nat) : Kd.V (Kd.int .i64) 3 W b (fun _ => True) (.slice A l.length c) l := Kd.V_map h (fun _ hf => Kd.F_mono hf (fun _ _ => trivial))
theorem laws_FnWaysDriven.Rw.below {W W' : World} {ok : Nat → Prop} {A : Option Addr} {c : Nat} {l : List Int} (h : laws_FnWaysDriven.Rw W ok A c l) (hb : Below W.heap.size W W') : laws_FnWaysDriven.Rw W' ok A c l := Kd.V_below h hb
theorem laws_FnWaysDriven.Rw.alloc {W : World} {ok : Nat → Prop} {A : Option Addr} {c : Nat} {l : List Int} (h : laws_FnWaysDriven.Rw W ok A c l) (o : Obj) : laws_FnWaysDriven.Rw (W.alloc o) ok A c l := Kd.V_alloc h o
theorem laws_FnWaysDriven.Rw.drew {W : World} {ok : Nat → Prop} {A : Option Addr} {c : Nat} {l : List Int} (h : laws_FnWaysDriven.Rw W ok A c l) : laws_FnWaysDriven.Rw W.drew ok A c l := Kd.V_drew h
theorem laws_FnWaysDriven.Rw.bound {W : World} {ok : Nat → Prop} {A : Option Addr} {c : Nat} {l : List Int} (h : laws_FnWaysDriven.Rw W ok A c l) : laws_FnWaysDriven.Rw W (fun k => k < W.heap.size) A c l := Kd.V_mono (Kd.V_bound h) (fun _ hk => hk.2)
theorem laws_FnWaysDriven.Rw.step {W W' : World} {ok : Nat → Prop} {A : Option Addr} {c : Nat} {l : List Int} (h : laws_FnWaysDriven.Rw W ok A c l) (hm : ∀ k, ok k → k < W.heap.size → W'.heap[k]? = W.heap[k]?) : laws_FnWaysDriven.Rw W' ok A c l := Kd.V_step h hm
theorem laws_FnWaysDriven.Rw.ofR {W : World} {b : Nat} {ok : Nat → Prop} {v : Value} {l : List Int} (h : Kd.R (Kd.int .i64) 3 W b ok v l) : ∃ A c, v = .slice A l.length c ∧ laws_FnWaysDriven.Rw W (fun k => b ≤ k) A c l := by
 have h2 : Kd.V (Kd.int .i64) 3 W 0 (fun k => b ≤ k) v l := Kd.V_mono (Kd.R_V (Kd.R_bound h)) (fun _ hk => hk.2.1)
 obtain ⟨A, c, rfl, hl, hf⟩ := h2
 exact ⟨A, c, rfl, A, c, rfl, hl, hf⟩
theorem laws_FnWaysDriven.ipos {w : World} {k : Nat} {s : ByteArray} {p : Nat} (h : w.heap[k]? = some (.stringIter s p)) : w.iterPos k = p := by simp [World.iterPos, h]
def laws_FnWaysDriven.Ok (k : Nat) (s t : ByteArray) (xs ys : List Int) (word : ByteArray) (far count turns : Int) : Prop := ∃ (en : List Int) (l o : Int) (s' t' : ByteArray) (same : Bool) (d0 d1 : Int) (now : Nat → List Int),
 impl_DriveWord.f k s t xs word = some (en, true) ∧ impl_TurnsOfWord.f word = some (l, o, true) ∧ impl_BackWays.f k s t = some (s', t', true) ∧ impl_DriveDistance.f k s' t' ys xs = some (far, true) ∧ laws_aSame.f k en ys = some true ∧ laws_aSame.f k xs ys = some same ∧ (far == 0) = same ∧
 laws_aSize.f (rd xs 0 - rd ys 0) = some d0 ∧ laws_aSize.f (rd xs 1 - rd ys 1) = some d1 ∧ ((word.size : Int) = far ∧ word.size ≤ 100) ∧ (turns ≤ l + o ∧ (0 ≤ l ∧ l ≤ 1000) ∧ 0 ≤ o ∧ o ≤ 1000) ∧ 0 ≤ turns ∧ 1 ≤ count ∧ (d0 + d1 ≤ far ∧ (0 ≤ d0 ∧ d0 ≤ 1000) ∧ 0 ≤ d1 ∧ d1 ≤ 1000) ∧
 ((xs.length = 2 ∧ ys.length = 2) ∧ ((0 ≤ rd xs 0 ∧ rd xs 0 ≤ 100) ∧ 0 ≤ rd ys 0 ∧ rd ys 0 ≤ 100) ∧ (0 ≤ rd xs 1 ∧ rd xs 1 ≤ 100) ∧ 0 ≤ rd ys 1 ∧ rd ys 1 ≤ 100) ∧
 now 0 = xs ∧ ∀ j : Nat, ∀ hj : j < word.size, (word[j]'hj).toNat < 128 ∧ impl_CanDrive.f k s t (now j) (word.extract j (j + 1)) = some (true, true) ∧ impl_DriveWord.f k s t (now j) (word.extract j (j + 1)) = some (now (j + 1), true)
def laws_FnWaysDriven.One (k : Nat) (l0 : List Int) : Prop := ∃ (s t : ByteArray) (xs ys : List Int) (word : ByteArray) (far count turns both : Int) (ok sv : Bool), spec_DrawFirstDrive.f k l0 = some (s, t, xs, ys) ∧ impl_FirstDrive.f k s t xs ys = some (word, ok) ∧ spec_FirstDrive.f k s t xs ys = some (word, ok) ∧ impl_DriveDistance.f k s t xs ys = some (far, ok) ∧ spec_DriveDistance.f k s t xs ys = some (far, ok) ∧ impl_CountDrives.f k s t xs ys = some (count, ok) ∧ spec_CountDrives.f k s t xs ys = some (count, ok) ∧ impl_FewestTurns.f k s t xs ys = some (turns, ok) ∧ spec_FewestTurns.f k s t xs ys = some (turns, ok) ∧ impl_ThereAndBack.f k s t xs ys = some (both, sv) ∧ spec_ThereAndBack.f k s t xs ys = some (both, sv) ∧ (sv = true → ok = true) ∧
 (ok = true → laws_FnWaysDriven.Ok k s t xs ys word far count turns) ∧ (sv = true → ∃ home : Int, impl_DriveDistance.f k s t ys xs = some (home, true) ∧ both = far + home ∧ both % 2 = 0 ∧ (0 ≤ far ∧ far ≤ 1000) ∧ 0 ≤ home ∧ home ≤ 1000)
def laws_FnWaysDriven.Two (k : Nat) (l1 : List Int) : Prop := ∃ (s t : ByteArray) (st : List Int) (way : ByteArray) (en : List Int) (nine : Bool) (s2 t2 : ByteArray) (at_ : List Int) (sign : ByteArray) (can can2 : Bool) (z : ByteArray) (l o : Int) (th : Bool), spec_DrawDriveWord.f k l1 = some (s, t, st, way) ∧ impl_DriveWord.f k s t st way = some (en, nine) ∧ spec_DriveWord.f k s t st way = some (en, nine) ∧ spec_DrawCanDrive.f k l1 = some (s2, t2, at_, sign) ∧ impl_CanDrive.f k s2 t2 at_ sign = some (can, can2) ∧ spec_CanDrive.f k s2 t2 at_ sign = some (can, can2) ∧ spec_DrawTurnsOfWord.f k l1 = some z ∧ impl_TurnsOfWord.f z = some (l, o, th) ∧ spec_TurnsOfWord.f k z = some (l, o, th) ∧ laws_aSame.f k en en = some true ∧
 (nine = true → ∃ d few p q : Int, impl_DriveDistance.f k s t st en = some (d, true) ∧ impl_FewestTurns.f k s t st en = some (few, true) ∧ impl_TurnsOfWord.f way = some (p, q, true) ∧ (way.size ≤ 1000 ∧ d ≤ (way.size : Int)) ∧ few ≤ p + q ∧ (0 ≤ p ∧ p ≤ 1000) ∧ 0 ≤ q ∧ q ≤ 1000) ∧
 (th = true → ((0 ≤ l ∧ l ≤ 1000) ∧ 0 ≤ o ∧ o ≤ 1000) ∧ z.size ≤ 1000 ∧ (0 < z.size → l + o ≤ (z.size : Int) - 1))
open Classical in
noncomputable def laws_FnWaysDriven.f (l0 l1 : List Int) : Option Bool := if ∃ k, laws_big.f l0 l1 = some false ∧ laws_FnWaysDriven.One k l0 ∧ laws_FnWaysDriven.Two k l1 then some true else if laws_big.f l0 l1 = some true then some true else none
theorem laws_FnWaysDriven.two {w : World} {A : Option Addr} {l : List Int} (hl : l.length = 2) (hr : Kd.C (Kd.int .i64) w A l.length l) : ∃ ad, A = some ad ∧ w.cell? ad = some (.int .i64 (rd l 0)) ∧ w.cell? { block := ad.block, off := ad.off + 1 } = some (.int .i64 (rd l 1)) := by
 obtain ⟨ad0, hA, hx0⟩ := Kd.at_int hr 0 (by omega) (by omega)
 obtain ⟨ad1, hA1, hx1⟩ := Kd.at_int hr 1 (by omega) (by omega)
 subst hA
 obtain rfl : ad0 = ad1 := by injection hA1
 rw [show (0 : Int).toNat = 0 from rfl, Addr.add_zero'] at hx0
 simp only [show (1 : Int).toNat = 1 from rfl, Nat.reduceMul, Nat.reduceEqDiff, Go.Addr.add, ↓reduceIte] at hx1
 exact ⟨ad0, rfl, hx0, hx1⟩
def laws_FnWaysDriven.T27 : Bool × List (List Nat × List Nat) := (true, [([], []), ([], []), ([], []), ([], []), ([], []), ([4], [4]), ([2, 3, 5], [2, 3, 5]), ([0, 1, 6], [0, 1, 6]), ([7], [7]), ([8], [8]), ([8], [8]), ([9, 7, 0, 1, 2, 3, 4, 5, 6, 7, 8, 9], [9]), ([10, 11, 0, 1, 2, 3, 4, 5, 6, 7, 8, 9, 10, 11], [10])])
def laws_FnWaysDriven.B27 : List Nat := [0, 0, 0, 0, 0, 16, 60, 127, 255, 511, 511, 1023, 4095]
theorem laws_FnWaysDriven.tab27 : rtab .any (opsOf Try.f3 27) = laws_FnWaysDriven.T27 := by kernel_rfl
theorem laws_FnWaysDriven.bits27 : waitsOk laws_FnWaysDriven.T27.2 laws_FnWaysDriven.B27 = true := by kernel_rfl
def laws_FnWaysDriven.T28 : Bool × List (List Nat × List Nat) := (true, [([], []), ([], []), ([], []), ([], []), ([], []), ([4], [4]), ([2, 3, 5], [2, 3, 5]), ([0, 1, 6], [0, 1, 6]), ([7], [7]), ([8], [8]), ([8], [8]), ([9, 7, 0, 1, 2, 3, 4, 5, 6, 7, 8, 9], [9]), ([10, 11, 0, 1, 2, 3, 4, 5, 6, 7, 8, 9, 10, 11], [10])])
def laws_FnWaysDriven.B28 : List Nat := [0, 0, 0, 0, 0, 16, 60, 127, 255, 511, 511, 1023, 4095]
theorem laws_FnWaysDriven.tab28 : rtab .any (opsOf Try.f3 28) = laws_FnWaysDriven.T28 := by kernel_rfl
theorem laws_FnWaysDriven.bits28 : waitsOk laws_FnWaysDriven.T28.2 laws_FnWaysDriven.B28 = true := by kernel_rfl
theorem laws_FnWaysDriven.calls (A0 : Option Addr) (c0 : Nat) (l0 : List Int) (A1 : Option Addr) (c1 : Nat) (l1 : List Int) (r : Bool) (w : World) (hr0 : Kd.C (Kd.int .u8) w A0 l0.length l0) (hc0 : l0.length ≤ c0) (hr1 : Kd.C (Kd.int .u8) w A1 l1.length l1) (hc1 : l1.length ≤ c1) (h : laws_FnWaysDriven.f l0 l1 = some r) :
  Calls Try.prog 3 #[.slice A0 l0.length c0, .slice A1 l1.length c1] w fun e w' => e = .returned (.bool r) ∧ Below w.heap.size w w' := by
 have HR0 := am hr0
 have HC0 := am hc0
 have HR1 := am hr1
 have HC1 := am hc1
 clear hr0 hc0 hr1 hc1
 unfold laws_FnWaysDriven.f at h
 split at h
 case isFalse =>
  split at h
  ·rename_i hb
   obtain rfl : true = r := Option.some.inj h
   have H := am hb
   clear h hb
   go_enter Try.func3, Try.ntmps3
   go_wp2_with (go_at_call 4; refine (laws_big.calls _ _ _ _ _ _ _ _ HR0.out HC0.out HR1.out HC1.out H.out).mono ?_; rintro e w1 ⟨rfl, hd⟩; have HB1 := am hd.below; clear hd)
   go_ret
   exact ⟨rfl, HB1.out⟩
  ·cases h
 case isTrue hh =>
 obtain rfl : true = r := Option.some.inj h
 obtain ⟨k, hb, hO, hT⟩ := hh
 have HBG := am hb
 have HT := am hT
 obtain ⟨s, t, xs, ys, word, far, count, turns, both, ok, sv, o1, o2, o3, o4, o5, o6, o7, o8, o9, o10, o11, o12, o13, o14⟩ := hO
 have O1 := am o1
 have O2 := am o2
 have O3 := am o3
 have O4 := am o4
 have O5 := am o5
 have O6 := am o6
 have O7 := am o7
 have O8 := am o8
 have O9 := am o9
 have O10 := am o10
 have O11 := am o11
 have O12 := am o12
 have O13 := am o13
 have O14 := am o14
 have HB0 := am (Below.refl w.heap.size w)
 clear h hb hT o1 o2 o3 o4 o5 o6 o7 o8 o9 o10 o11 o12 o13 o14
 go_enter Try.func3, Try.ntmps3
 go_upto_region 3 with (go_at_call 4; refine (laws_big.calls _ _ _ _ _ _ _ _ HR0.out HC0.out HR1.out HC1.out HBG.out).mono ?_; rintro e w1 ⟨rfl, hb⟩; have hb : Below w.heap.size w w1 := (by first | exact hb | exact hb.below); have HB1 := am (below_then HB0.out HB0.out.size hb); clear hb HB0)
 go_upto_region 4 with (go_at_call 5; refine (spec_DrawFirstDrive.calls k _ _ _ s t xs ys _ (Kd.C_below HR0.out HB1.out) HC0.out O1.out).mono ?_; rintro e w2 ⟨v2, v3, rfl, hP, hQ, hb⟩; have hb : Below w1.heap.size w1 w2 := (by first | exact hb | exact hb.below); have HB2 := am (below_alloc (below_then HB1.out HB1.out.size hb) (.cells #[.string s, .string t] 25)); obtain ⟨ARa, cRa, rfl, hRa_⟩ := laws_FnWaysDriven.Rw.of hP; have Ra2 := am ((hRa_.mono (fun _ _ => trivial)).alloc (.cells #[.string s, .string t] 25)); clear hRa_ hP; obtain ⟨ARb, cRb, rfl, hRb_⟩ := laws_FnWaysDriven.Rw.of hQ; have Rb2 := am ((hRb_.mono (fun _ _ => trivial)).alloc (.cells #[.string s, .string t] 25)); clear hRb_ hQ; have BK2 := am (heap_alloc_new w2 (.cells #[.string s, .string t] 25)); clear hb HB1; have hsBK_02 := (blk_cell BK2.out 0).trans (show _ = some (Value.string s) from rfl); have hsBK_12 := (blk_cell BK2.out 1).trans (show _ = some (Value.string t) from rfl))
 go_upto_region 5 with (go_at_call 6; refine (impl_FirstDrive.calls k s t (fun _ => True) _ _ xs (fun _ => True) _ _ ys word ok _ (Ra2.out.V _) (Rb2.out.V _) O2.out).mono ?_; rintro e w3 ⟨rfl, hb⟩; have hb : Below (w2.alloc (.cells #[.string s, .string t] 25)).heap.size (w2.alloc (.cells #[.string s, .string t] 25)) w3 := (by first | exact hb | exact hb.below); have HB3 := am (below_then HB2.out HB2.out.size hb); have Ra3 := am ((Ra2.out.below hb)); have Rb3 := am ((Rb2.out.below hb)); have BK3 := am (blk_below BK2.out hb); clear hb HB2 Ra2 Rb2 BK2 hsBK_02 hsBK_12; have hsBK_03 := (blk_cell BK3.out 0).trans (show _ = some (Value.string s) from rfl); have hsBK_13 := (blk_cell BK3.out 1).trans (show _ = some (Value.string t) from rfl))
 go_upto_region 6 with (go_at_call 7; refine (spec_FirstDrive.calls k s t _ _ xs _ _ ys word ok _ Ra3.out.C Ra3.out.le Rb3.out.C Rb3.out.le O3.out).mono ?_; rintro e w4 ⟨rfl, hb⟩; have hb : Below w3.heap.size w3 w4 := (by first | exact hb | exact hb.below); have HB4 := am (below_then HB3.out HB3.out.size hb); have Ra4 := am ((Ra3.out.below hb)); have Rb4 := am ((Rb3.out.below hb)); have BK4 := am (blk_below BK3.out hb); clear hb HB3 Ra3 Rb3 BK3 hsBK_03 hsBK_13; have hsBK_04 := (blk_cell BK4.out 0).trans (show _ = some (Value.string s) from rfl); have hsBK_14 := (blk_cell BK4.out 1).trans (show _ = some (Value.string t) from rfl))
 go_upto_region 7 with (go_at_call 8; refine (impl_DriveDistance.calls k s t _ _ xs _ _ ys far ok _ Ra4.out.C Ra4.out.le Rb4.out.C Rb4.out.le O4.out).mono ?_; rintro e w5 ⟨rfl, hb⟩; have hb : Below w4.heap.size w4 w5 := (by first | exact hb | exact hb.below); have HB5 := am (below_then HB4.out HB4.out.size hb); have Ra5 := am ((Ra4.out.below hb)); have Rb5 := am ((Rb4.out.below hb)); have BK5 := am (blk_below BK4.out hb); clear hb HB4 Ra4 Rb4 BK4 hsBK_04 hsBK_14; have hsBK_05 := (blk_cell BK5.out 0).trans (show _ = some (Value.string s) from rfl); have hsBK_15 := (blk_cell BK5.out 1).trans (show _ = some (Value.string t) from rfl))
 go_upto_region 8 with (go_at_call 9; refine (spec_DriveDistance.calls k s t _ _ xs _ _ ys far ok _ Ra5.out.C Ra5.out.le Rb5.out.C Rb5.out.le O5.out).mono ?_; rintro e w6 ⟨rfl, hb⟩; have hb : Below w5.heap.size w5 w6 := (by first | exact hb | exact hb.below); have HB6 := am (below_then HB5.out HB5.out.size hb); have Ra6 := am ((Ra5.out.below hb)); have Rb6 := am ((Rb5.out.below hb)); have BK6 := am (blk_below BK5.out hb); clear hb HB5 Ra5 Rb5 BK5 hsBK_05 hsBK_15; have hsBK_06 := (blk_cell BK6.out 0).trans (show _ = some (Value.string s) from rfl); have hsBK_16 := (blk_cell BK6.out 1).trans (show _ = some (Value.string t) from rfl))
 go_upto_region 9 with (go_at_call 10; refine (impl_CountDrives.calls k s t (fun _ => True) _ _ xs (fun _ => True) _ _ ys count ok _ (Ra6.out.V _) (Rb6.out.V _) O6.out).mono ?_; rintro e w7 ⟨rfl, hb⟩; have hb : Below w6.heap.size w6 w7 := (by first | exact hb | exact hb.below); have HB7 := am (below_then HB6.out HB6.out.size hb); have Ra7 := am ((Ra6.out.below hb)); have Rb7 := am ((Rb6.out.below hb)); have BK7 := am (blk_below BK6.out hb); clear hb HB6 Ra6 Rb6 BK6 hsBK_06 hsBK_16; have hsBK_07 := (blk_cell BK7.out 0).trans (show _ = some (Value.string s) from rfl); have hsBK_17 := (blk_cell BK7.out 1).trans (show _ = some (Value.string t) from rfl))
 go_upto_region 10 with (go_at_call 11; refine (spec_CountDrives.calls k s t _ _ xs _ _ ys count ok _ Ra7.out.C Ra7.out.le Rb7.out.C Rb7.out.le O7.out).mono ?_; rintro e w8 ⟨rfl, hb⟩; have hb : Below w7.heap.size w7 w8 := (by first | exact hb | exact hb.below); have HB8 := am (below_then HB7.out HB7.out.size hb); have Ra8 := am ((Ra7.out.below hb)); have Rb8 := am ((Rb7.out.below hb)); have BK8 := am (blk_below BK7.out hb); clear hb HB7 Ra7 Rb7 BK7 hsBK_07 hsBK_17; have hsBK_08 := (blk_cell BK8.out 0).trans (show _ = some (Value.string s) from rfl); have hsBK_18 := (blk_cell BK8.out 1).trans (show _ = some (Value.string t) from rfl))
 go_upto_region 11 with (go_at_call 12; refine (impl_FewestTurns.calls k s t (fun _ => True) _ _ xs (fun _ => True) _ _ ys turns ok _ (Ra8.out.V _) (Rb8.out.V _) O8.out).mono ?_; rintro e w9 ⟨rfl, hb⟩; have hb : Below w8.heap.size w8 w9 := (by first | exact hb | exact hb.below); have HB9 := am (below_then HB8.out HB8.out.size hb); have Ra9 := am ((Ra8.out.below hb)); have Rb9 := am ((Rb8.out.below hb)); have BK9 := am (blk_below BK8.out hb); clear hb HB8 Ra8 Rb8 BK8 hsBK_08 hsBK_18; have hsBK_09 := (blk_cell BK9.out 0).trans (show _ = some (Value.string s) from rfl); have hsBK_19 := (blk_cell BK9.out 1).trans (show _ = some (Value.string t) from rfl))
 go_upto_region 12 with (go_at_call 13; refine (spec_FewestTurns.calls k s t _ _ xs _ _ ys turns ok _ Ra9.out.C Ra9.out.le Rb9.out.C Rb9.out.le O9.out).mono ?_; rintro e w10 ⟨rfl, hb⟩; have hb : Below w9.heap.size w9 w10 := (by first | exact hb | exact hb.below); have HB10 := am (below_then HB9.out HB9.out.size hb); have Ra10 := am ((Ra9.out.below hb)); have Rb10 := am ((Rb9.out.below hb)); have BK10 := am (blk_below BK9.out hb); clear hb HB9 Ra9 Rb9 BK9 hsBK_09 hsBK_19; have hsBK_010 := (blk_cell BK10.out 0).trans (show _ = some (Value.string s) from rfl); have hsBK_110 := (blk_cell BK10.out 1).trans (show _ = some (Value.string t) from rfl))
 go_upto_region 13 with (go_at_call 14; refine (impl_ThereAndBack.calls k s t _ _ xs _ _ ys both sv _ Ra10.out.C Ra10.out.le Rb10.out.C Rb10.out.le O10.out).mono ?_; rintro e w11 ⟨rfl, hb⟩; have hb : Below w10.heap.size w10 w11 := (by first | exact hb | exact hb.below); have HB11 := am (below_then HB10.out HB10.out.size hb); have Ra11 := am ((Ra10.out.below hb)); have Rb11 := am ((Rb10.out.below hb)); have BK11 := am (blk_below BK10.out hb); clear hb HB10 Ra10 Rb10 BK10 hsBK_010 hsBK_110; have hsBK_011 := (blk_cell BK11.out 0).trans (show _ = some (Value.string s) from rfl); have hsBK_111 := (blk_cell BK11.out 1).trans (show _ = some (Value.string t) from rfl))
 go_upto_region 14 with (go_at_call 15; refine (spec_ThereAndBack.calls k s t _ _ xs _ _ ys both sv _ Ra11.out.C Ra11.out.le Rb11.out.C Rb11.out.le O11.out).mono ?_; rintro e w12 ⟨rfl, hb⟩; have hb : Below w11.heap.size w11 w12 := (by first | exact hb | exact hb.below); have HB12 := am (below_then HB11.out HB11.out.size hb); have Ra12 := am ((Ra11.out.below hb)); have Rb12 := am ((Rb11.out.below hb)); have BK12 := am (blk_below BK11.out hb); clear hb HB11 Ra11 Rb11 BK11 hsBK_011 hsBK_111; have hsBK_012 := (blk_cell BK12.out 0).trans (show _ = some (Value.string s) from rfl); have hsBK_112 := (blk_cell BK12.out 1).trans (show _ = some (Value.string t) from rfl))
 have q1 : (ok != ok) = false := bne_self_eq_false ok
 have q2 : (far != far) = false := bne_self_eq_false far
 have q3 : (count != count) = false := bne_self_eq_false count
 have q4 : (turns != turns) = false := bne_self_eq_false turns
 have q5 : (both != both) = false := bne_self_eq_false both
 have q6 : (sv != sv) = false := bne_self_eq_false sv
 have q7 : (word.toList == word.toList) = true := beq_self_eq_true _
 go_cut [221] from 221 to 221 (fun v221 wc => v221 = .bool false ∧ wc = w12)
 case first => as_aux_lemma =>
  cases sv with
  | false =>
   go_wp2
   go_meet
   case rel => exact ⟨rfl, rfl⟩
  | true =>
   obtain rfl : ok = true := O12.out rfl
   go_wp2
   go_meet
   case rel => exact ⟨rfl, rfl⟩
 case rest => as_aux_lemma =>
 obtain ⟨rfl, hwc⟩ := hcut
 have hwc := hwc.symm
 subst hwc
 clear q1 q2 q3 q4 q5 q6 q7
 go_upto_if 222 with (fail)
 go_cut [] from 222 to 222 (fun wc => Aside0 (Below (w12).heap.size (w12) wc))
 case first => as_aux_lemma =>
  cases ok with
  | false =>
   go_wp2
   go_meet
   case rel => exact ⟨Below.refl _ _⟩
  | true =>
   obtain ⟨en, l, o, s', t', same, d0, d1, now, p1, p2, p3, p4, p5, p6, p7, p8, p9, p10, p11, p12, p13, p14, p15, p16, p17⟩ := O13.out rfl
   have P1 := am p1
   have P2 := am p2
   have P3 := am p3
   have P4 := am p4
   have P5 := am p5
   have P6 := am p6
   have P7 := am p7
   have P8 := am p8
   have P9 := am p9
   have P10 := am p10
   have P11 := am p11
   have P12 := am p12
   have P13 := am p13
   have P14 := am p14
   have P15 := am p15
   have P16 := am p16
   have P17 := am p17
   clear p1 p2 p3 p4 p5 p6 p7 p8 p9 p10 p11 p12 p13 p14 p15 p16 p17 O13
   have HBR := am (Below.refl (w12).heap.size (w12))
   go_upto_region 18 with (go_at_call 16; refine (impl_DriveWord.calls k s t _ _ xs word en true _ Ra12.out.C Ra12.out.le P1.out).mono ?_; rintro e w13b ⟨v4, rfl, hE, hb⟩; have hb : Below w12.heap.size w12 w13b := (by first | exact hb | exact hb.below); have HB13b := am (below_then HBR.out HBR.out.size hb); have Ra13b := am ((Ra12.out.below hb)); have Rb13b := am ((Rb12.out.below hb)); obtain ⟨ARe, cRe, rfl, hRe_⟩ := laws_FnWaysDriven.Rw.of (Kd.R_V (base' := 0) hE); have Re13b := am ((hRe_.mono (fun _ _ => trivial))); clear hRe_ hE; have BK13b := am (blk_below BK12.out hb); clear hb HBR Ra12 Rb12 BK12; have hsBK_013b := (blk_cell BK13b.out 0).trans (show _ = some (Value.string s) from rfl); have hsBK_113b := (blk_cell BK13b.out 1).trans (show _ = some (Value.string t) from rfl))
   go_upto_region 19 with (go_at_call 17; refine (impl_TurnsOfWord.calls word l o true _ P2.out).mono ?_; rintro e w14b ⟨rfl, hb⟩; have hb : Below w13b.heap.size w13b w14b := (by first | exact hb | exact hb.below); have HB14b := am (below_then HB13b.out HB13b.out.size hb); have Ra14b := am ((Ra13b.out.below hb)); have Rb14b := am ((Rb13b.out.below hb)); have Re14b := am ((Re13b.out.below hb)); have BK14b := am (blk_below BK13b.out hb); clear hb HB13b Ra13b Rb13b Re13b BK13b hsBK_013b hsBK_113b; have hsBK_014b := (blk_cell BK14b.out 0).trans (show _ = some (Value.string s) from rfl); have hsBK_114b := (blk_cell BK14b.out 1).trans (show _ = some (Value.string t) from rfl))
   go_upto_region 20 with (go_at_call 18; refine (impl_BackWays.calls k s t s' t' true _ P3.out).mono ?_; rintro e w15b ⟨rfl, hb⟩; have hb : Below w14b.heap.size w14b w15b := (by first | exact hb | exact hb.below); have HB15b := am (below_alloc (below_then HB14b.out HB14b.out.size hb) (.cells #[.string s', .string t'] 25)); have Ra15b := am ((Ra14b.out.below hb).alloc (.cells #[.string s', .string t'] 25)); have Rb15b := am ((Rb14b.out.below hb).alloc (.cells #[.string s', .string t'] 25)); have Re15b := am ((Re14b.out.below hb).alloc (.cells #[.string s', .string t'] 25)); have BK15b := am (blk_alloc (blk_below BK14b.out hb) (.cells #[.string s', .string t'] 25)); have BL15b := am (heap_alloc_new w15b (.cells #[.string s', .string t'] 25)); clear hb HB14b Ra14b Rb14b Re14b BK14b hsBK_014b hsBK_114b; have hsBK_015b := (blk_cell BK15b.out 0).trans (show _ = some (Value.string s) from rfl); have hsBK_115b := (blk_cell BK15b.out 1).trans (show _ = some (Value.string t) from rfl); have hsBL_015b := (blk_cell BL15b.out 0).trans (show _ = some (Value.string s') from rfl); have hsBL_115b := (blk_cell BL15b.out 1).trans (show _ = some (Value.string t') from rfl))
   go_upto_region 21 with (go_at_call 8; refine (impl_DriveDistance.calls k s' t' _ _ ys _ _ xs far true _ Rb15b.out.C Rb15b.out.le Ra15b.out.C Ra15b.out.le P4.out).mono ?_; rintro e w16b ⟨rfl, hb⟩; have hb : Below (w15b.alloc (.cells #[.string s', .string t'] 25)).heap.size (w15b.alloc (.cells #[.string s', .string t'] 25)) w16b := (by first | exact hb | exact hb.below); have HB16b := am (below_then HB15b.out HB15b.out.size hb); have Ra16b := am ((Ra15b.out.below hb)); have Rb16b := am ((Rb15b.out.below hb)); have Re16b := am ((Re15b.out.below hb)); have BK16b := am (blk_below BK15b.out hb); have BL16b := am (blk_below BL15b.out hb); clear hb HB15b Ra15b Rb15b Re15b BK15b BL15b hsBK_015b hsBK_115b hsBL_015b hsBL_115b; have hsBK_016b := (blk_cell BK16b.out 0).trans (show _ = some (Value.string s) from rfl); have hsBK_116b := (blk_cell BK16b.out 1).trans (show _ = some (Value.string t) from rfl); have hsBL_016b := (blk_cell BL16b.out 0).trans (show _ = some (Value.string s') from rfl); have hsBL_116b := (blk_cell BL16b.out 1).trans (show _ = some (Value.string t') from rfl))
   go_cut [322] from 223 to 322 (fun v322 wd => v322 = .bool false ∧ Aside0 (Below (w16b).heap.size (w16b) wd))
   case first => as_aux_lemma =>
    obtain ⟨⟨hlx, hly⟩, ⟨⟨hx0, hx0'⟩, hy0, hy0'⟩, ⟨hx1, hx1'⟩, hy1, hy1'⟩ := P15.out
    have hCx := Ra16b.out.C
    have hCy := Rb16b.out.C
    obtain ⟨ax, hax, cx0, cx1⟩ := laws_FnWaysDriven.two hlx hCx
    obtain ⟨ay, hay, cy0, cy1⟩ := laws_FnWaysDriven.two hly hCy
    subst hax hay
    obtain ⟨x0, ex0⟩ : ∃ z, z = rd xs 0 := ⟨_, rfl⟩
    obtain ⟨x1, ex1⟩ : ∃ z, z = rd xs 1 := ⟨_, rfl⟩
    obtain ⟨y0, ey0⟩ : ∃ z, z = rd ys 0 := ⟨_, rfl⟩
    obtain ⟨y1, ey1⟩ : ∃ z, z = rd ys 1 := ⟨_, rfl⟩
    have HZ0 := am P8.out
    have HZ1 := am P9.out
    rw [← ex0, ← ey0] at HZ0
    rw [← ex1, ← ey1] at HZ1
    rw [← ex0] at cx0 hx0 hx0'
    rw [← ex1] at cx1 hx1 hx1'
    rw [← ey0] at cy0 hy0 hy0'
    rw [← ey1] at cy1 hy1 hy1'
    clear ex0 ex1 ey0 ey1 hCx hCy
    have e0 : decide ((0 : Int) < (xs.length : Int)) = true := decide_eq_true (by omega)
    have e0' : decide ((1 : Int) < (xs.length : Int)) = true := decide_eq_true (by omega)
    have e0p : (0 : Int) < (xs.length : Int) := by omega
    have e0q : (1 : Int) < (xs.length : Int) := by omega
    have e0r : 0 < xs.length := by omega
    have e0s : 1 < xs.length := by omega
    have e1r : 0 < ys.length := by omega
    have e1s : 1 < ys.length := by omega
    have e1 : decide ((0 : Int) < (ys.length : Int)) = true := decide_eq_true (by omega)
    have e1' : decide ((1 : Int) < (ys.length : Int)) = true := decide_eq_true (by omega)
    have e1p : (0 : Int) < (ys.length : Int) := by omega
    have e1q : (1 : Int) < (ys.length : Int) := by omega
    clear hlx hly
    have e2 : ((word.size : Int) != far) = false := by rw [P10.out.1]; exact bne_self_eq_false _
    have e3 : IntKind.i64.wrap (l + o) = l + o := (i64_w _).trans (by have := P11.out; unfold wrap64; omega)
    have e4 : decide (l + o < turns) = false := decide_eq_false (by have := P11.out; omega)
    have e5 : decide (turns < 0) = false := decide_eq_false (by have := P12.out; omega)
    have e6 : decide (count < 1) = false := decide_eq_false (by have := P13.out; omega)
    have e8 : (far != far) = false := bne_self_eq_false _
    have e9 : IntKind.i64.wrap (x0 - y0) = x0 - y0 := (i64_w _).trans (by unfold wrap64; omega)
    have e10 : IntKind.i64.wrap (x1 - y1) = x1 - y1 := (i64_w _).trans (by unfold wrap64; omega)
    have e11 : IntKind.i64.wrap (d0 + d1) = d0 + d1 := (i64_w _).trans (by have := P14.out; unfold wrap64; omega)
    have e12 : decide (far < d0 + d1) = false := decide_eq_false (by have := P14.out; omega)
    clear hx0 hx0' hy0 hy0' hx1 hx1' hy1 hy1'
    cases same
    all_goals
     have e7 := P7.out
     go_wp2
     go_quiet (first | (go_at_call 19; (with_reducible refine (laws_aSame.calls k _ _ en _ _ ys true _ (Kd.C_drewN Re16b.out.C _) Re16b.out.le (Kd.C_drewN Rb16b.out.C _) Rb16b.out.le P5.out).mono ?_); rintro e w' ⟨rfl, ⟨nd, rfl⟩⟩; exact ⟨rfl, _, World.drewN_drewN _ _ _⟩) | (go_at_call 19; (with_reducible refine (laws_aSame.calls k _ _ xs _ _ ys _ _ (Kd.C_drewN Ra16b.out.C _) Ra16b.out.le (Kd.C_drewN Rb16b.out.C _) Rb16b.out.le P6.out).mono ?_); rintro e w' ⟨rfl, ⟨nd, rfl⟩⟩; exact ⟨rfl, _, World.drewN_drewN _ _ _⟩) | (go_at_call 20; (with_reducible refine (laws_aSize.calls (x0 - y0) d0 _ HZ0.out).mono ?_); rintro e w' ⟨rfl, ⟨nd, rfl⟩⟩; exact ⟨rfl, _, World.drewN_drewN _ _ _⟩) | (go_at_call 20; (with_reducible refine (laws_aSize.calls (x1 - y1) d1 _ HZ1.out).mono ?_); rintro e w' ⟨rfl, ⟨nd, rfl⟩⟩; exact ⟨rfl, _, World.drewN_drewN _ _ _⟩))
     go_wp2
     go_meet
     case rel => exact ⟨rfl, ⟨pw_below_drewN (Below.refl _ _) _⟩⟩
   case rest => as_aux_lemma =>
    obtain ⟨rfl, HBd⟩ := hcut
    have HRd := am ((Ra16b.out.below HBd.out).bound)
    have BKd := am (blk_below BK16b.out HBd.out)
    have HIT0 := World.iter_heap wc word 0
    have HBI := am (show Below wc.heap.size wc (wc.iter word 0) from below_alloc (Below.refl _ _) _)
    have HRI := am ((HRd.out.below HBI.out).mono (fun k hk => (Nat.ne_of_lt hk : k ≠ wc.heap.size)))
    have HW := am (below_then HB16b.out HB16b.out.size HBd.out)
    have HN0 := am P16.out
    rw [← HN0.out] at HRI
    clear HRd
    obtain ⟨it, hit⟩ : ∃ it, it = wc.heap.size := ⟨_, rfl⟩
    have HLE := am (Nat.le_of_eq hit.symm)
    rw [← hit] at HIT0 HRI
    have HEQ := am hit
    clear hit
    go_wp2
    rw [← HEQ.out]
    have hxs : xs = now 0 := HN0.out.symm
    go_loopw [37] (fun v37 wi => ∃ j : Nat, j ≤ word.size ∧ ∃ (A : Option Addr) (c : Nat), v37 = .slice A (now j).length c ∧ Aside0 (laws_FnWaysDriven.Rw wi (fun k => k ≠ it) A c (now j)) ∧ wi.heap[it]? = some (.stringIter word j) ∧ Aside0 (Below wc.heap.size wc wi)) (fun _ wi => word.size - wi.iterPos it)
    case atStart => exact ⟨0, Nat.zero_le _, _, _, by rw [← hxs], HRI, HIT0, HBI⟩
    case round => as_aux_lemma =>
     clear HIT0 HBI HRI hxs
     obtain ⟨j, hj, A, c, rfl, HR, hit, HB⟩ := hrel
     by_cases hlt : j < word.size
     ·as_aux_lemma =>
      obtain ⟨ha, hcan, hdrv⟩ := P17.out j hlt
      have HCAN := am hcan
      have HDRV := am hdrv
      have HPOS := am (laws_FnWaysDriven.ipos hit)
      have hnx : ∀ ty, (Instr.next (.pointer (some ⟨it, 0, none⟩)) true ty).run Try.prog wr = _ := fun ty => Go.Lib.run_next_ascii_at wr it word j ty hit hlt ha
      have HIT1 := am (show ((wr.iterAt it word (j + 1)).drew).heap[it]? = some (.stringIter word (j + 1)) from Go.Lib.iterAt_heap wr it word j (j + 1) hit)
      have HB1 := am (below_drew1 (Go.Lib.below_iterAt HB.out HLE.out word (j + 1)))
      have HR1 := am (laws_FnWaysDriven.Rw.drew (HR.out.step (W' := wr.iterAt it word (j + 1)) (fun k hk _ => Go.Lib.iterAt_other wr it k word (j + 1) hk)))
      have BK1 := am (blk_below BKd.out HB1.out)
      have hj100 : word.size ≤ 100 := P10.out.2
      have s1 : IntKind.i64.wrap ((j : Int) + 1) = (j : Int) + 1 := (i64_w _).trans (by unfold wrap64; omega)
      have s2 : decide ((j : Int) ≤ (j : Int) + 1) = true := decide_eq_true (by omega)
      have s3 : decide ((j : Int) + 1 ≤ (word.size : Int)) = true := decide_eq_true (by omega)
      have s4 : (j : Int) ≤ (j : Int) + 1 := by omega
      have s5 : (j : Int) + 1 ≤ (word.size : Int) := by omega
      have s6 : ((j : Int) + 1).toNat = j + 1 := by omega
      clear hit HB ha hcan hdrv
      go_upto_region 27 with (fail)
      refine start_ (n := 13) (S := fun w' => w'.cell? ⟨w2.heap.size, 0, none⟩ = some (.string s) ∧ w'.cell? ⟨w2.heap.size, 1, none⟩ = some (.string t)) (ds := []) #[false, false, false, false, false, false, false, false, false, false, false, false, false] (by kernel_rfl) rfl rfl ⟨(blk_cell BK1.out 0).trans rfl, (blk_cell BK1.out 1).trans rfl⟩ (fun hHeld => ?_); refine with_tabW laws_FnWaysDriven.tab27 laws_FnWaysDriven.bits27 (fun HT_ HW_ => ?_)
      generalize (wr.iterAt it word (j + 1)).drew = wn at HIT1 HB1 HR1 BK1 hHeld ⊢
      refine pure_ (i := 1) (N := some 331) (v := ?_) (a' := ?_) #[false, true, false, false, false, false, false, false, false, false, false, false, false] rfl rfl (any_of HT_.out (by kernel_rfl)) (fun _ _ _ h => h) (Or.inl ⟨by rfl, ?_⟩) ?_ ?_
      rotate_left
      ·intro w'
       go_simp
       with_reducible rfl
      rotate_left
      ·simp only [Act.put, List.setIfInBounds_toArray, List.set_cons_zero, List.set_cons_succ, i64_w, i32_w]
       rfl
      refine pure_ (i := 2) (N := some 332) (v := ?_) (a' := ?_) #[false, true, true, false, false, false, false, false, false, false, false, false, false] rfl rfl (any_of HT_.out (by kernel_rfl)) (fun _ _ _ h => h) (Or.inl ⟨by rfl, ?_⟩) ?_ ?_
      rotate_left
      ·intro w'
       go_simp
       with_reducible rfl
      rotate_left
      ·simp only [Act.put, List.setIfInBounds_toArray, List.set_cons_zero, List.set_cons_succ, i64_w, i32_w]
       rfl
      refine pure_ (i := 3) (N := some 333) (v := ?_) (a' := ?_) #[false, true, true, true, false, false, false, false, false, false, false, false, false] rfl rfl (any_of HT_.out (by kernel_rfl)) (fun _ _ _ h => h) (Or.inl ⟨by rfl, ?_⟩) ?_ ?_
      rotate_left
      ·intro w'
       go_simp
       with_reducible rfl
      rotate_left
      ·simp only [Act.put, List.setIfInBounds_toArray, List.set_cons_zero, List.set_cons_succ, i64_w, i32_w]
       rfl
      refine pure_ (i := 4) (N := some 334) (v := ?_) (a' := ?_) #[false, true, true, true, true, false, false, false, false, false, false, false, false] rfl rfl (any_of HT_.out (by kernel_rfl)) (fun _ _ _ h => h) (Or.inl ⟨by rfl, ?_⟩) ?_ ?_
      rotate_left
      ·intro w'
       go_simp
       with_reducible rfl
      rotate_left
      ·simp only [Act.put, List.setIfInBounds_toArray, List.set_cons_zero, List.set_cons_succ, i64_w, i32_w]
       rfl
      refine take_ (i := 0) (N := some 330) (v := ?_) (a' := ?_) #[true, true, true, true, true, false, false, false, false, false, false, false, false] rfl rfl (take_ofW HT_.out HW_.out (by kernel_rfl)) (fun _ _ _ h => h) (Or.inl ⟨by rfl, ?_⟩) hHeld ?_ ?_
      rotate_left
      ·rintro w' ⟨s0, s1⟩
       go_simp
       with_reducible rfl
      rotate_left
      ·simp only [Act.put, List.setIfInBounds_toArray, List.set_cons_zero, List.set_cons_succ, i64_w, i32_w]
       rfl
      refine pure_ (i := 5) (N := some 335) (v := ?_) (a' := ?_) #[true, true, true, true, true, true, false, false, false, false, false, false, false] rfl rfl (any_of HT_.out (by kernel_rfl)) (fun _ _ _ h => h) (Or.inl ⟨by rfl, ?_⟩) ?_ ?_
      rotate_left
      ·intro w'
       go_simp
       with_reducible rfl
      rotate_left
      ·simp only [Act.put, List.setIfInBounds_toArray, List.set_cons_zero, List.set_cons_succ, i64_w, i32_w]
       rfl
      refine pure_ (i := 6) (N := some 336) (v := ?_) (a' := ?_) #[true, true, true, true, true, true, true, false, false, false, false, false, false] rfl rfl (any_of HT_.out (by kernel_rfl)) (fun _ _ _ h => h) (Or.inl ⟨by rfl, ?_⟩) ?_ ?_
      rotate_left
      ·intro w'
       go_simp
       with_reducible rfl
      rotate_left
      ·simp only [Act.put, List.setIfInBounds_toArray, List.set_cons_zero, List.set_cons_succ, i64_w, i32_w]
       rfl
      refine one_ (i := 7) (N := some 337) #[true, true, true, true, true, true, true, true, false, false, false, false, false] rfl rfl (one_of HT_.out (by kernel_rfl)) (by decide) (fun K hK => ?_)
      refine goes_ Try.func21 (by kernel_rfl) rfl #[.agg #[.string s, .string t], .slice A (now j).length c, .string (word.extract j (j + 1))] (by rfl) rfl rfl (by (try simp only [List.map_toArray, List.map_cons, List.map_nil]); first | done | rfl) ?_
      with_reducible refine (impl_CanDrive.calls k s t A c (now j) (word.extract j (j + 1)) true true wn HR1.out.C HR1.out.le HCAN.out).mono ?_
      rintro e wo ⟨rfl, hb⟩
      refine ⟨_, rfl, ?_⟩
      have HIT2 := am (blk_below HIT1.out hb)
      have HB2 := am (below_then HB1.out HB1.out.size hb)
      have HR2 := am (HR1.out.below hb)
      have BK2 := am (blk_below BK1.out hb)
      clear HIT1 HB1 HR1 BK1 hb
      refine hK.out _ _ ⟨(blk_cell BK2.out 0).trans rfl, (blk_cell BK2.out 1).trans rfl⟩ (fun hHeld => ?_)
      clear hK K
      refine nm_ 337 ?_
      refine pure_ (i := 8) (N := some 329) (v := ?_) (a' := ?_) #[true, true, true, true, true, true, true, true, true, false, false, false, false] rfl rfl (any_of HT_.out (by kernel_rfl)) (fun _ _ _ h => h) (Or.inl ⟨by rfl, ?_⟩) ?_ ?_
      rotate_left
      ·intro w'
       go_simp
       with_reducible rfl
      rotate_left
      ·simp only [Act.put, List.setIfInBounds_toArray, List.set_cons_zero, List.set_cons_succ, i64_w, i32_w]
       rfl
      refine pure_ (i := 9) (N := some 338) (v := ?_) (a' := ?_) #[true, true, true, true, true, true, true, true, true, true, false, false, false] rfl rfl (any_of HT_.out (by kernel_rfl)) (fun _ _ _ h => h) (Or.inl ⟨by rfl, ?_⟩) ?_ ?_
      rotate_left
      ·intro w'
       go_simp
       with_reducible rfl
      rotate_left
      ·simp only [Act.put, List.setIfInBounds_toArray, List.set_cons_zero, List.set_cons_succ, i64_w, i32_w]
       rfl
      refine pure_ (i := 10) (N := some 339) (v := ?_) (a' := ?_) #[true, true, true, true, true, true, true, true, true, true, true, false, false] rfl rfl (any_of HT_.out (by kernel_rfl)) (fun _ _ _ h => h) (Or.inl ⟨by rfl, ?_⟩) ?_ ?_
      rotate_left
      ·intro w'
       go_simp
       with_reducible rfl
      rotate_left
      ·simp only [Act.put, List.setIfInBounds_toArray, List.set_cons_zero, List.set_cons_succ, i64_w, i32_w]
       rfl
      refine pure_ (i := 11) (N := some 39) (v := ?_) (a' := ?_) #[true, true, true, true, true, true, true, true, true, true, true, true, false] rfl rfl (any_of HT_.out (by kernel_rfl)) (fun _ _ _ h => h) (Or.inl ⟨by rfl, ?_⟩) ?_ ?_
      rotate_left
      ·intro w'
       go_simp
       with_reducible rfl
      rotate_left
      ·simp only [Act.put, List.setIfInBounds_toArray, List.set_cons_zero, List.set_cons_succ, i64_w, i32_w]
       rfl
      refine pure_ (i := 12) (N := some 40) (v := ?_) (a' := ?_) #[true, true, true, true, true, true, true, true, true, true, true, true, true] rfl rfl (any_of HT_.out (by kernel_rfl)) (fun _ _ _ h => h) (Or.inl ⟨by rfl, ?_⟩) ?_ ?_
      rotate_left
      ·intro w'
       go_simp
       with_reducible rfl
      rotate_left
      ·simp only [Act.put, List.setIfInBounds_toArray, List.set_cons_zero, List.set_cons_succ, i64_w, i32_w]
       rfl
      refine done_ (done_of HT_.out (by kernel_rfl)) ?_
      go_wp2
      have HIT3 := am (show wo.drew.heap[it]? = some (.stringIter word (j + 1)) from HIT2.out)
      have HB3 := am (below_drew1 HB2.out)
      have HR3 := am (laws_FnWaysDriven.Rw.drew HR2.out)
      have BK3 := am (blk_drew BK2.out)
      clear HIT2 HB2 HR2 BK2
      refine start_ (n := 13) (S := fun w' => w'.cell? ⟨w2.heap.size, 0, none⟩ = some (.string s) ∧ w'.cell? ⟨w2.heap.size, 1, none⟩ = some (.string t)) (ds := []) #[false, false, false, false, false, false, false, false, false, false, false, false, false] (by kernel_rfl) rfl rfl ⟨(blk_cell BK3.out 0).trans rfl, (blk_cell BK3.out 1).trans rfl⟩ (fun hHeld => ?_); refine with_tabW laws_FnWaysDriven.tab28 laws_FnWaysDriven.bits28 (fun HT_ HW_ => ?_)
      generalize wo.drew = wp at HIT3 HB3 HR3 BK3 hHeld ⊢
      refine pure_ (i := 1) (N := some 342) (v := ?_) (a' := ?_) #[false, true, false, false, false, false, false, false, false, false, false, false, false] rfl rfl (any_of HT_.out (by kernel_rfl)) (fun _ _ _ h => h) (Or.inl ⟨by rfl, ?_⟩) ?_ ?_
      rotate_left
      ·intro w'
       go_simp
       with_reducible rfl
      rotate_left
      ·simp only [Act.put, List.setIfInBounds_toArray, List.set_cons_zero, List.set_cons_succ, i64_w, i32_w]
       rfl
      refine pure_ (i := 2) (N := some 343) (v := ?_) (a' := ?_) #[false, true, true, false, false, false, false, false, false, false, false, false, false] rfl rfl (any_of HT_.out (by kernel_rfl)) (fun _ _ _ h => h) (Or.inl ⟨by rfl, ?_⟩) ?_ ?_
      rotate_left
      ·intro w'
       go_simp
       with_reducible rfl
      rotate_left
      ·simp only [Act.put, List.setIfInBounds_toArray, List.set_cons_zero, List.set_cons_succ, i64_w, i32_w]
       rfl
      refine pure_ (i := 3) (N := some 344) (v := ?_) (a' := ?_) #[false, true, true, true, false, false, false, false, false, false, false, false, false] rfl rfl (any_of HT_.out (by kernel_rfl)) (fun _ _ _ h => h) (Or.inl ⟨by rfl, ?_⟩) ?_ ?_
      rotate_left
      ·intro w'
       go_simp
       with_reducible rfl
      rotate_left
      ·simp only [Act.put, List.setIfInBounds_toArray, List.set_cons_zero, List.set_cons_succ, i64_w, i32_w]
       rfl
      refine pure_ (i := 4) (N := some 345) (v := ?_) (a' := ?_) #[false, true, true, true, true, false, false, false, false, false, false, false, false] rfl rfl (any_of HT_.out (by kernel_rfl)) (fun _ _ _ h => h) (Or.inl ⟨by rfl, ?_⟩) ?_ ?_
      rotate_left
      ·intro w'
       go_simp
       with_reducible rfl
      rotate_left
      ·simp only [Act.put, List.setIfInBounds_toArray, List.set_cons_zero, List.set_cons_succ, i64_w, i32_w]
       rfl
      refine take_ (i := 0) (N := some 341) (v := ?_) (a' := ?_) #[true, true, true, true, true, false, false, false, false, false, false, false, false] rfl rfl (take_ofW HT_.out HW_.out (by kernel_rfl)) (fun _ _ _ h => h) (Or.inl ⟨by rfl, ?_⟩) hHeld ?_ ?_
      rotate_left
      ·rintro w' ⟨s0, s1⟩
       go_simp
       with_reducible rfl
      rotate_left
      ·simp only [Act.put, List.setIfInBounds_toArray, List.set_cons_zero, List.set_cons_succ, i64_w, i32_w]
       rfl
      refine pure_ (i := 5) (N := some 346) (v := ?_) (a' := ?_) #[true, true, true, true, true, true, false, false, false, false, false, false, false] rfl rfl (any_of HT_.out (by kernel_rfl)) (fun _ _ _ h => h) (Or.inl ⟨by rfl, ?_⟩) ?_ ?_
      rotate_left
      ·intro w'
       go_simp
       with_reducible rfl
      rotate_left
      ·simp only [Act.put, List.setIfInBounds_toArray, List.set_cons_zero, List.set_cons_succ, i64_w, i32_w]
       rfl
      refine pure_ (i := 6) (N := some 347) (v := ?_) (a' := ?_) #[true, true, true, true, true, true, true, false, false, false, false, false, false] rfl rfl (any_of HT_.out (by kernel_rfl)) (fun _ _ _ h => h) (Or.inl ⟨by rfl, ?_⟩) ?_ ?_
      rotate_left
      ·intro w'
       go_simp
       with_reducible rfl
      rotate_left
      ·simp only [Act.put, List.setIfInBounds_toArray, List.set_cons_zero, List.set_cons_succ, i64_w, i32_w]
       rfl
      refine one_ (i := 7) (N := some 348) #[true, true, true, true, true, true, true, true, false, false, false, false, false] rfl rfl (one_of HT_.out (by kernel_rfl)) (by decide) (fun K hK => ?_)
      refine goes_ Try.func16 (by kernel_rfl) rfl #[.agg #[.string s, .string t], .slice A (now j).length c, .string (word.extract j (j + 1))] (by rfl) rfl rfl (by (try simp only [List.map_toArray, List.map_cons, List.map_nil]); first | done | rfl) ?_
      with_reducible refine (impl_DriveWord.calls k s t A c (now j) (word.extract j (j + 1)) (now (j + 1)) true wp HR3.out.C HR3.out.le HDRV.out).mono ?_
      rintro e wq ⟨v5, rfl, hD, hb⟩
      refine ⟨_, rfl, ?_⟩
      have HIT4 := am (blk_below HIT3.out hb)
      have HB4 := am (below_then HB3.out HB3.out.size hb)
      have BK4 := am (blk_below BK3.out hb)
      have hlt_ : it < wp.heap.size := blk_lt HIT3.out
      obtain ⟨A', c', rfl, hD'⟩ := laws_FnWaysDriven.Rw.ofR hD
      have HR4 := am (hD'.mono (fun k hk => (by omega : k ≠ it)))
      clear HIT3 HB3 HR3 BK3 hb hD hD' hlt_
      refine hK.out _ _ ⟨(blk_cell BK4.out 0).trans rfl, (blk_cell BK4.out 1).trans rfl⟩ (fun hHeld => ?_)
      clear hK K
      refine nm_ 348 ?_
      refine pure_ (i := 8) (N := some 340) (v := ?_) (a' := ?_) #[true, true, true, true, true, true, true, true, true, false, false, false, false] rfl rfl (any_of HT_.out (by kernel_rfl)) (fun _ _ _ h => h) (Or.inl ⟨by rfl, ?_⟩) ?_ ?_
      rotate_left
      ·intro w'
       go_simp
       with_reducible rfl
      rotate_left
      ·simp only [Act.put, List.setIfInBounds_toArray, List.set_cons_zero, List.set_cons_succ, i64_w, i32_w]
       rfl
      refine pure_ (i := 9) (N := some 349) (v := ?_) (a' := ?_) #[true, true, true, true, true, true, true, true, true, true, false, false, false] rfl rfl (any_of HT_.out (by kernel_rfl)) (fun _ _ _ h => h) (Or.inl ⟨by rfl, ?_⟩) ?_ ?_
      rotate_left
      ·intro w'
       go_simp
       with_reducible rfl
      rotate_left
      ·simp only [Act.put, List.setIfInBounds_toArray, List.set_cons_zero, List.set_cons_succ, i64_w, i32_w]
       rfl
      refine pure_ (i := 10) (N := some 350) (v := ?_) (a' := ?_) #[true, true, true, true, true, true, true, true, true, true, true, false, false] rfl rfl (any_of HT_.out (by kernel_rfl)) (fun _ _ _ h => h) (Or.inl ⟨by rfl, ?_⟩) ?_ ?_
      rotate_left
      ·intro w'
       go_simp
       with_reducible rfl
      rotate_left
      ·simp only [Act.put, List.setIfInBounds_toArray, List.set_cons_zero, List.set_cons_succ, i64_w, i32_w]
       rfl
      refine pure_ (i := 11) (N := some 41) (v := ?_) (a' := ?_) #[true, true, true, true, true, true, true, true, true, true, true, true, false] rfl rfl (any_of HT_.out (by kernel_rfl)) (fun _ _ _ h => h) (Or.inl ⟨by rfl, ?_⟩) ?_ ?_
      rotate_left
      ·intro w'
       go_simp
       with_reducible rfl
      rotate_left
      ·simp only [Act.put, List.setIfInBounds_toArray, List.set_cons_zero, List.set_cons_succ, i64_w, i32_w]
       rfl
      refine pure_ (i := 12) (N := some 42) (v := ?_) (a' := ?_) #[true, true, true, true, true, true, true, true, true, true, true, true, true] rfl rfl (any_of HT_.out (by kernel_rfl)) (fun _ _ _ h => h) (Or.inl ⟨by rfl, ?_⟩) ?_ ?_
      rotate_left
      ·intro w'
       go_simp
       with_reducible rfl
      rotate_left
      ·simp only [Act.put, List.setIfInBounds_toArray, List.set_cons_zero, List.set_cons_succ, i64_w, i32_w]
       rfl
      refine done_ (done_of HT_.out (by kernel_rfl)) ?_
      go_wp2
      go_roundw
      case rel => exact ⟨j + 1, by omega, A', c', rfl, HR4, HIT4.out, HB4⟩
      case measure => rw [laws_FnWaysDriven.ipos HIT4.out, HPOS.out]; omega
     ·as_aux_lemma =>
      obtain rfl : j = word.size := by omega
      have hnx : ∀ ty, (Instr.next (.pointer (some ⟨it, 0, none⟩)) true ty).run Try.prog wr = _ := fun ty => Go.Lib.run_next_end_at wr it word word.size ty hit (by omega)
      have HBV := am (below_then HW.out HW.out.size HB.out)
      go_wp2
      go_meet
      case rel => exact HBV
 case rest => as_aux_lemma =>
 have HBc := am (below_then HB12.out HB12.out.size hcut.out)
 have RaC := am (Ra12.out.below hcut.out)
 have RbC := am (Rb12.out.below hcut.out)
 have BKC := am (blk_below BK12.out hcut.out)
 have hsC_0 := (blk_cell BKC.out 0).trans (show _ = some (Value.string s) from rfl)
 have hsC_1 := (blk_cell BKC.out 1).trans (show _ = some (Value.string t) from rfl)
 clear hcut HB12 Ra12 Rb12 BK12 hsBK_012 hsBK_112 O1 O2 O3 O4 O5 O6 O7 O8 O9 O10 O11 O12 O13
 go_upto_if 362 with (fail)
 go_cut [] from 362 to 362 (fun wd => Aside0 (Below wc.heap.size wc wd))
 case first => as_aux_lemma =>
  cases sv with
  | false =>
   go_wp2
   go_meet
   case rel => exact ⟨Below.refl _ _⟩
  | true =>
   obtain ⟨home, h1, h2, h3, h4, h5⟩ := O14.out rfl
   have H1 := am h1
   have e1 : IntKind.i64.wrap (far + home) = far + home := (i64_w _).trans (by unfold wrap64; omega)
   have e2 : (both != far + home) = false := by rw [h2]; exact bne_self_eq_false _
   have e3 : ((both % 2) != 0) = false := by rw [h3]; rfl
   have e4 : ((Int.tmod both 2) != 0) = false := by rw [Int.tmod_eq_emod_of_nonneg (by omega), h3]; rfl
   clear h1 h2 h3 h4 h5
   go_wp2_with (go_at_call 8; refine (impl_DriveDistance.calls k s t _ _ ys _ _ xs home true _ RbC.out.C RbC.out.le RaC.out.C RaC.out.le H1.out).mono ?_; rintro e wz ⟨rfl, hb⟩; have HBz := am hb; clear hb)
   go_meet
   case rel => exact HBz
 case rest => as_aux_lemma =>
 have HBd := am (below_then HBc.out HBc.out.size hcut.out)
 clear hcut HBc RaC RbC BKC hsC_0 hsC_1 O14
 obtain ⟨v, u, st, way, en, nine, s2, t2, at_, sign, can, can2, z, l, o, th, u1, u2, u3, u4, u5, u6, u7, u8, u9, u10, u11, u12⟩ := HT.out
 have U1 := am u1
 have U2 := am u2
 have U3 := am u3
 have U4 := am u4
 have U5 := am u5
 have U6 := am u6
 have U7 := am u7
 have U8 := am u8
 have U9 := am u9
 have U10 := am u10
 have U11 := am u11
 have U12 := am u12
 have q1 : (nine != nine) = false := bne_self_eq_false nine
 have q2 : (can2 != can2) = false := bne_self_eq_false can2
 have q3 : (can != can) = false := bne_self_eq_false can
 have q4 : (th != th) = false := bne_self_eq_false th
 have q5 : (l != l) = false := bne_self_eq_false l
 have q6 : (o != o) = false := bne_self_eq_false o
 clear u1 u2 u3 u4 u5 u6 u7 u8 u9 u10 u11 u12 HT
 go_upto_region 37 with (go_at_call 22; refine (spec_DrawDriveWord.calls k _ _ _ v u st way _ (Kd.C_below HR1.out HBd.out) HC1.out U1.out).mono ?_; rintro e w21c ⟨v2, rfl, hP, hb⟩; have hb : Below wc.heap.size wc w21c := (by first | exact hb | exact hb.below); have HB21c := am (below_alloc (below_then HBd.out HBd.out.size hb) (.cells #[.string v, .string u] 25)); obtain ⟨ARs, cRs, rfl, hRs_⟩ := laws_FnWaysDriven.Rw.of hP; have Rs21c := am ((hRs_.mono (fun _ _ => trivial)).alloc (.cells #[.string v, .string u] 25)); clear hRs_ hP; have BV21c := am (heap_alloc_new w21c (.cells #[.string v, .string u] 25)); clear hb HBd; have hsBV_021c := (blk_cell BV21c.out 0).trans (show _ = some (Value.string v) from rfl); have hsBV_121c := (blk_cell BV21c.out 1).trans (show _ = some (Value.string u) from rfl))
 go_upto_region 38 with (go_at_call 16; refine (impl_DriveWord.calls k v u _ _ st way en nine _ Rs21c.out.C Rs21c.out.le U2.out).mono ?_; rintro e w22c ⟨v3, rfl, hE, hb⟩; have hb : Below (w21c.alloc (.cells #[.string v, .string u] 25)).heap.size (w21c.alloc (.cells #[.string v, .string u] 25)) w22c := (by first | exact hb | exact hb.below); have HB22c := am (below_then HB21c.out HB21c.out.size hb); have Rs22c := am ((Rs21c.out.below hb)); obtain ⟨ARe, cRe, rfl, hRe_⟩ := laws_FnWaysDriven.Rw.of (Kd.R_V (base' := 0) hE); have Re22c := am ((hRe_.mono (fun _ _ => trivial))); clear hRe_ hE; have BV22c := am (blk_below BV21c.out hb); clear hb HB21c Rs21c BV21c hsBV_021c hsBV_121c; have hsBV_022c := (blk_cell BV22c.out 0).trans (show _ = some (Value.string v) from rfl); have hsBV_122c := (blk_cell BV22c.out 1).trans (show _ = some (Value.string u) from rfl))
 go_upto_region 39 with (go_at_call 23; refine (spec_DriveWord.calls k v u _ _ st way en nine _ Rs22c.out.C Rs22c.out.le U3.out).mono ?_; rintro e w23c ⟨v4, rfl, hF, hb⟩; have hb : Below w22c.heap.size w22c w23c := (by first | exact hb | exact hb.below); have HB23c := am (below_then HB22c.out HB22c.out.size hb); have Rs23c := am ((Rs22c.out.below hb)); have Re23c := am ((Re22c.out.below hb)); obtain ⟨ARf, cRf, rfl, hRf_⟩ := laws_FnWaysDriven.Rw.of (Kd.R_V (base' := 0) hF); have Rf23c := am ((hRf_.mono (fun _ _ => trivial))); clear hRf_ hF; have BV23c := am (blk_below BV22c.out hb); clear hb HB22c Rs22c Re22c BV22c hsBV_022c hsBV_122c; have hsBV_023c := (blk_cell BV23c.out 0).trans (show _ = some (Value.string v) from rfl); have hsBV_123c := (blk_cell BV23c.out 1).trans (show _ = some (Value.string u) from rfl))
 go_upto_region 40 with (go_at_call 24; refine (spec_DrawCanDrive.calls k _ _ _ s2 t2 at_ sign _ (Kd.C_below HR1.out HB23c.out) HC1.out U4.out).mono ?_; rintro e w24c ⟨v5, rfl, hP, hb⟩; have hb : Below w23c.heap.size w23c w24c := (by first | exact hb | exact hb.below); have HB24c := am (below_alloc (below_then HB23c.out HB23c.out.size hb) (.cells #[.string s2, .string t2] 25)); have Rs24c := am ((Rs23c.out.below hb).alloc (.cells #[.string s2, .string t2] 25)); have Re24c := am ((Re23c.out.below hb).alloc (.cells #[.string s2, .string t2] 25)); have Rf24c := am ((Rf23c.out.below hb).alloc (.cells #[.string s2, .string t2] 25)); obtain ⟨ARt, cRt, rfl, hRt_⟩ := laws_FnWaysDriven.Rw.of hP; have Rt24c := am ((hRt_.mono (fun _ _ => trivial)).alloc (.cells #[.string s2, .string t2] 25)); clear hRt_ hP; have BV24c := am (blk_alloc (blk_below BV23c.out hb) (.cells #[.string s2, .string t2] 25)); have BU24c := am (heap_alloc_new w24c (.cells #[.string s2, .string t2] 25)); clear hb HB23c Rs23c Re23c Rf23c BV23c hsBV_023c hsBV_123c; have hsBV_024c := (blk_cell BV24c.out 0).trans (show _ = some (Value.string v) from rfl); have hsBV_124c := (blk_cell BV24c.out 1).trans (show _ = some (Value.string u) from rfl); have hsBU_024c := (blk_cell BU24c.out 0).trans (show _ = some (Value.string s2) from rfl); have hsBU_124c := (blk_cell BU24c.out 1).trans (show _ = some (Value.string t2) from rfl))
 go_upto_region 41 with (go_at_call 21; refine (impl_CanDrive.calls k s2 t2 _ _ at_ sign can can2 _ Rt24c.out.C Rt24c.out.le U5.out).mono ?_; rintro e w25c ⟨rfl, hb⟩; have hb : Below (w24c.alloc (.cells #[.string s2, .string t2] 25)).heap.size (w24c.alloc (.cells #[.string s2, .string t2] 25)) w25c := (by first | exact hb | exact hb.below); have HB25c := am (below_then HB24c.out HB24c.out.size hb); have Rs25c := am ((Rs24c.out.below hb)); have Re25c := am ((Re24c.out.below hb)); have Rf25c := am ((Rf24c.out.below hb)); have Rt25c := am ((Rt24c.out.below hb)); have BV25c := am (blk_below BV24c.out hb); have BU25c := am (blk_below BU24c.out hb); clear hb HB24c Rs24c Re24c Rf24c Rt24c BV24c BU24c hsBV_024c hsBV_124c hsBU_024c hsBU_124c; have hsBV_025c := (blk_cell BV25c.out 0).trans (show _ = some (Value.string v) from rfl); have hsBV_125c := (blk_cell BV25c.out 1).trans (show _ = some (Value.string u) from rfl); have hsBU_025c := (blk_cell BU25c.out 0).trans (show _ = some (Value.string s2) from rfl); have hsBU_125c := (blk_cell BU25c.out 1).trans (show _ = some (Value.string t2) from rfl))
 go_upto_region 42 with (go_at_call 25; refine (spec_CanDrive.calls k s2 t2 _ _ at_ sign can can2 _ Rt25c.out.C Rt25c.out.le U6.out).mono ?_; rintro e w26c ⟨rfl, hb⟩; have hb : Below w25c.heap.size w25c w26c := (by first | exact hb | exact hb.below); have HB26c := am (below_then HB25c.out HB25c.out.size hb); have Rs26c := am ((Rs25c.out.below hb)); have Re26c := am ((Re25c.out.below hb)); have Rf26c := am ((Rf25c.out.below hb)); have Rt26c := am ((Rt25c.out.below hb)); have BV26c := am (blk_below BV25c.out hb); have BU26c := am (blk_below BU25c.out hb); clear hb HB25c Rs25c Re25c Rf25c Rt25c BV25c BU25c hsBV_025c hsBV_125c hsBU_025c hsBU_125c; have hsBV_026c := (blk_cell BV26c.out 0).trans (show _ = some (Value.string v) from rfl); have hsBV_126c := (blk_cell BV26c.out 1).trans (show _ = some (Value.string u) from rfl); have hsBU_026c := (blk_cell BU26c.out 0).trans (show _ = some (Value.string s2) from rfl); have hsBU_126c := (blk_cell BU26c.out 1).trans (show _ = some (Value.string t2) from rfl))
 go_upto_region 43 with (go_at_call 26; refine (spec_DrawTurnsOfWord.calls k _ _ _ z _ (Kd.C_below HR1.out HB26c.out) HC1.out U7.out).mono ?_; rintro e w27c ⟨rfl, hb⟩; have hb : Below w26c.heap.size w26c w27c := (by first | exact hb | exact hb.below); have HB27c := am (below_then HB26c.out HB26c.out.size hb); have Rs27c := am ((Rs26c.out.below hb)); have Re27c := am ((Re26c.out.below hb)); have Rf27c := am ((Rf26c.out.below hb)); have Rt27c := am ((Rt26c.out.below hb)); have BV27c := am (blk_below BV26c.out hb); have BU27c := am (blk_below BU26c.out hb); clear hb HB26c Rs26c Re26c Rf26c Rt26c BV26c BU26c hsBV_026c hsBV_126c hsBU_026c hsBU_126c; have hsBV_027c := (blk_cell BV27c.out 0).trans (show _ = some (Value.string v) from rfl); have hsBV_127c := (blk_cell BV27c.out 1).trans (show _ = some (Value.string u) from rfl); have hsBU_027c := (blk_cell BU27c.out 0).trans (show _ = some (Value.string s2) from rfl); have hsBU_127c := (blk_cell BU27c.out 1).trans (show _ = some (Value.string t2) from rfl))
 go_upto_region 44 with (go_at_call 17; refine (impl_TurnsOfWord.calls z l o th _ U8.out).mono ?_; rintro e w28c ⟨rfl, hb⟩; have hb : Below w27c.heap.size w27c w28c := (by first | exact hb | exact hb.below); have HB28c := am (below_then HB27c.out HB27c.out.size hb); have Rs28c := am ((Rs27c.out.below hb)); have Re28c := am ((Re27c.out.below hb)); have Rf28c := am ((Rf27c.out.below hb)); have Rt28c := am ((Rt27c.out.below hb)); have BV28c := am (blk_below BV27c.out hb); have BU28c := am (blk_below BU27c.out hb); clear hb HB27c Rs27c Re27c Rf27c Rt27c BV27c BU27c hsBV_027c hsBV_127c hsBU_027c hsBU_127c; have hsBV_028c := (blk_cell BV28c.out 0).trans (show _ = some (Value.string v) from rfl); have hsBV_128c := (blk_cell BV28c.out 1).trans (show _ = some (Value.string u) from rfl); have hsBU_028c := (blk_cell BU28c.out 0).trans (show _ = some (Value.string s2) from rfl); have hsBU_128c := (blk_cell BU28c.out 1).trans (show _ = some (Value.string t2) from rfl))
 go_upto_region 45 with (go_at_call 27; refine (spec_TurnsOfWord.calls k z l o th _ U9.out).mono ?_; rintro e w29c ⟨rfl, hb⟩; have hb : Below w28c.heap.size w28c w29c := (by first | exact hb | exact hb.below); have HB29c := am (below_then HB28c.out HB28c.out.size hb); have Rs29c := am ((Rs28c.out.below hb)); have Re29c := am ((Re28c.out.below hb)); have Rf29c := am ((Rf28c.out.below hb)); have Rt29c := am ((Rt28c.out.below hb)); have BV29c := am (blk_below BV28c.out hb); have BU29c := am (blk_below BU28c.out hb); clear hb HB28c Rs28c Re28c Rf28c Rt28c BV28c BU28c hsBV_028c hsBV_128c hsBU_028c hsBU_128c; have hsBV_029c := (blk_cell BV29c.out 0).trans (show _ = some (Value.string v) from rfl); have hsBV_129c := (blk_cell BV29c.out 1).trans (show _ = some (Value.string u) from rfl); have hsBU_029c := (blk_cell BU29c.out 0).trans (show _ = some (Value.string s2) from rfl); have hsBU_129c := (blk_cell BU29c.out 1).trans (show _ = some (Value.string t2) from rfl))
 go_upto_if 472 with (go_at_call 19; refine (laws_aSame.calls k _ _ en _ _ en true _ Re29c.out.C Re29c.out.le Rf29c.out.C Rf29c.out.le U10.out).mono ?_; rintro e w30c ⟨rfl, hb⟩; have hb : Below w29c.heap.size w29c w30c := (by first | exact hb | exact hb.below); have HB30c := am (below_then HB29c.out HB29c.out.size hb); have Rs30c := am ((Rs29c.out.below hb)); have Re30c := am ((Re29c.out.below hb)); have Rf30c := am ((Rf29c.out.below hb)); have Rt30c := am ((Rt29c.out.below hb)); have BV30c := am (blk_below BV29c.out hb); have BU30c := am (blk_below BU29c.out hb); clear hb HB29c Rs29c Re29c Rf29c Rt29c BV29c BU29c hsBV_029c hsBV_129c hsBU_029c hsBU_129c; have hsBV_030c := (blk_cell BV30c.out 0).trans (show _ = some (Value.string v) from rfl); have hsBV_130c := (blk_cell BV30c.out 1).trans (show _ = some (Value.string u) from rfl); have hsBU_030c := (blk_cell BU30c.out 0).trans (show _ = some (Value.string s2) from rfl); have hsBU_130c := (blk_cell BU30c.out 1).trans (show _ = some (Value.string t2) from rfl))
 clear q1 q2 q3 q4 q5 q6
 go_cut [] from 472 to 472 (fun wf => Aside0 (Below w.heap.size w wf))
 case first => as_aux_lemma =>
  cases nine with
  | false =>
   go_wp2
   go_meet
   case rel => exact HB30c
  | true =>
   obtain ⟨d, few, p, q, h1, h2, h3, h4, h5, h6, h7⟩ := U11.out rfl
   have H1 := am h1
   have H2 := am h2
   have H3 := am h3
   have e1 : decide ((way.size : Int) < d) = false := decide_eq_false (by omega)
   have e2 : IntKind.i64.wrap (p + q) = p + q := (i64_w _).trans (by unfold wrap64; omega)
   have e3 : decide (p + q < few) = false := decide_eq_false (by omega)
   clear h1 h2 h3 h4 h5 h6 h7 U11 U12
   go_upto_region 49 with (go_at_call 8; refine (impl_DriveDistance.calls k v u _ _ st _ _ en d true _ Rs30c.out.C Rs30c.out.le Re30c.out.C Re30c.out.le H1.out).mono ?_; rintro e w31d ⟨rfl, hb⟩; have hb : Below w30c.heap.size w30c w31d := (by first | exact hb | exact hb.below); have HB31d := am (below_then HB30c.out HB30c.out.size hb); have Rs31d := am ((Rs30c.out.below hb)); have Re31d := am ((Re30c.out.below hb)); have Rf31d := am ((Rf30c.out.below hb)); have Rt31d := am ((Rt30c.out.below hb)); have BV31d := am (blk_below BV30c.out hb); have BU31d := am (blk_below BU30c.out hb); clear hb HB30c Rs30c Re30c Rf30c Rt30c BV30c BU30c; have hsBV_031d := (blk_cell BV31d.out 0).trans (show _ = some (Value.string v) from rfl); have hsBV_131d := (blk_cell BV31d.out 1).trans (show _ = some (Value.string u) from rfl); have hsBU_031d := (blk_cell BU31d.out 0).trans (show _ = some (Value.string s2) from rfl); have hsBU_131d := (blk_cell BU31d.out 1).trans (show _ = some (Value.string t2) from rfl))
   go_upto_region 50 with (go_at_call 12; refine (impl_FewestTurns.calls k v u (fun _ => True) _ _ st (fun _ => True) _ _ en few true _ (Rs31d.out.V _) (Re31d.out.V _) H2.out).mono ?_; rintro e w32d ⟨rfl, hb⟩; have hb : Below w31d.heap.size w31d w32d := (by first | exact hb | exact hb.below); have HB32d := am (below_then HB31d.out HB31d.out.size hb); have Rs32d := am ((Rs31d.out.below hb)); have Re32d := am ((Re31d.out.below hb)); have Rf32d := am ((Rf31d.out.below hb)); have Rt32d := am ((Rt31d.out.below hb)); have BV32d := am (blk_below BV31d.out hb); have BU32d := am (blk_below BU31d.out hb); clear hb HB31d Rs31d Re31d Rf31d Rt31d BV31d BU31d hsBV_031d hsBV_131d hsBU_031d hsBU_131d; have hsBV_032d := (blk_cell BV32d.out 0).trans (show _ = some (Value.string v) from rfl); have hsBV_132d := (blk_cell BV32d.out 1).trans (show _ = some (Value.string u) from rfl); have hsBU_032d := (blk_cell BU32d.out 0).trans (show _ = some (Value.string s2) from rfl); have hsBU_132d := (blk_cell BU32d.out 1).trans (show _ = some (Value.string t2) from rfl))
   go_wp2_with (go_at_call 17; refine (impl_TurnsOfWord.calls way p q true _ H3.out).mono ?_; rintro e w33d ⟨rfl, hb⟩; have hb : Below w32d.heap.size w32d w33d := (by first | exact hb | exact hb.below); have HB33d := am (below_then HB32d.out HB32d.out.size hb); have Rs33d := am ((Rs32d.out.below hb)); have Re33d := am ((Re32d.out.below hb)); have Rf33d := am ((Rf32d.out.below hb)); have Rt33d := am ((Rt32d.out.below hb)); have BV33d := am (blk_below BV32d.out hb); have BU33d := am (blk_below BU32d.out hb); clear hb HB32d Rs32d Re32d Rf32d Rt32d BV32d BU32d hsBV_032d hsBV_132d hsBU_032d hsBU_132d; have hsBV_033d := (blk_cell BV33d.out 0).trans (show _ = some (Value.string v) from rfl); have hsBV_133d := (blk_cell BV33d.out 1).trans (show _ = some (Value.string u) from rfl); have hsBU_033d := (blk_cell BU33d.out 0).trans (show _ = some (Value.string s2) from rfl); have hsBU_133d := (blk_cell BU33d.out 1).trans (show _ = some (Value.string t2) from rfl))
   go_meet
   case rel => exact HB33d
 case rest => as_aux_lemma =>
  have HBe := hcut
  clear hcut
  cases th with
  | false =>
   go_wp2
   go_ret
   exact ⟨rfl, HBe.out⟩
  | true =>
   obtain ⟨⟨⟨h1, h2⟩, h3, h4⟩, h5, h6⟩ := U12.out rfl
   have e1 : decide (l < 0) = false := decide_eq_false (by omega)
   have e2 : decide (o < 0) = false := decide_eq_false (by omega)
   have e3 : IntKind.i64.wrap (l + o) = l + o := (i64_w _).trans (by unfold wrap64; omega)
   have e4 : IntKind.i64.wrap ((z.size : Int) - 1) = (z.size : Int) - 1 := (i64_w _).trans (by unfold wrap64; omega)
   by_cases hz : 0 < z.size
   ·have e5 : decide ((0 : Int) < (z.size : Int)) = true := decide_eq_true (by omega)
    have e6 : decide ((z.size : Int) - 1 < l + o) = false := decide_eq_false (by have := h6 hz; omega)
    have e7 : ¬ z = ByteArray.empty := fun e => by rw [e] at hz; simp at hz
    have e8 : 0 < z.size := hz
    have e9 : decide (0 < z.size) = true := decide_eq_true hz
    clear h1 h2 h3 h4 h5 h6
    go_wp2
    go_ret
    exact ⟨rfl, HBe.out⟩
   ·have e5 : decide ((0 : Int) < (z.size : Int)) = false := decide_eq_false (by omega)
    have e9 : decide (0 < z.size) = false := decide_eq_false hz
    clear h1 h2 h3 h4 h5 h6
    go_wp2
    go_ret
    exact ⟨rfl, HBe.out⟩
def laws_FnWaysDriven.Pure : Prop := ∀ (l0 : List Int) (l1 : List Int), l0.length ≤ maxLen → l0.length * 1 ≤ 140737488351232 → (∀ x ∈ l0, (Lit.int .u8 x).wf = true) → l1.length ≤ maxLen → l1.length * 1 ≤ 140737488351232 → (∀ x ∈ l1, (Lit.int .u8 x).wf = true) → laws_FnWaysDriven.f l0 l1 = some true
theorem laws_FnWaysDriven.walk (P : laws_FnWaysDriven.Pure) (a0 : Option Addr) (len0 cap0 : Nat) (z0 : List Int) (a1 : Option Addr) (len1 cap1 : Nat) (z1 : List Int) (w : World) (w0 : (a0 = none ∧ len0 = 0 ∧ cap0 = 0 ∧ z0 = []) ∨ ∃ x, a0 = some x ∧ len0 ≤ cap0 ∧ cap0 ≤ maxLen ∧ z0.length = cap0 ∧ (∀ i, i < z0.length → w.cell? (x.add i) = some (.int .u8 (z0.getD i 0))) ∧ ∀ n ∈ z0, (Lit.int .u8 n).wf = true) (y0 : len0 * 1 ≤ 140737488351232) (w1 : (a1 = none ∧ len1 = 0 ∧ cap1 = 0 ∧ z1 = []) ∨ ∃ x, a1 = some x ∧ len1 ≤ cap1 ∧ cap1 ≤ maxLen ∧ z1.length = cap1 ∧ (∀ i, i < z1.length → w.cell? (x.add i) = some (.int .u8 (z1.getD i 0))) ∧ ∀ n ∈ z1, (Lit.int .u8 n).wf = true) (y1 : len1 * 1 ≤ 140737488351232) :
  Calls Try.prog 3 #[.slice a0 len0 cap0, .slice a1 len1 cap1] w fun e w' => e = .returned (.bool true) ∧ Below w.heap.size w w' := by
 obtain ⟨l0, rfl, hr0, hm0, hw0, hc0⟩ := ReadsInt.ofRowC w0
 obtain ⟨l1, rfl, hr1, hm1, hw1, hc1⟩ := ReadsInt.ofRowC w1
 have h := P l0 l1 hm0 y0 hw0 hm1 y1 hw1
 refine (laws_FnWaysDriven.calls _ _ l0 _ _ l1 true w (Kd.C_of_reads (d := (0 : Int)) (h1 := fun _ => rfl) hr0) hc0 (Kd.C_of_reads (d := (0 : Int)) (h1 := fun _ => rfl) hr1) hc1 h).mono ?_
 rintro e w' ⟨rfl, hd⟩
 exact ⟨rfl, hd⟩
end Go.Proofs.Ytdhdkkhbgfcoiaa.MX
