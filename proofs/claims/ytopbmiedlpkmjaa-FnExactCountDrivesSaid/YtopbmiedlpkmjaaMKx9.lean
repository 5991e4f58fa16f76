-- The machine side, written by this repo's program mp.py; contracts marked as of this repo are this session's own.
import Derived.Test.YtopbmiedlpkmjaaMKx0
import Derived.Test.YtopbmiedlpkmjaaMKx3
import Derived.Test.YtopbmiedlpkmjaaMKx4
import Derived.Test.YtopbmiedlpkmjaaMKx5
import Derived.Test.YtopbmiedlpkmjaaMKx8
namespace Go.Proofs.Ytopbmiedlpkmjaa.MK
open Go.RowKit Go.Proofs.YtopbmiedlpkmjaaW.PrintWords Go.Proofs.YtopbmiedlpkmjaaW.PrintLast Go.Proofs.YtopbmiedlpkmjaaW.PrintMore
attribute [local go_sem] max2_int min2_int max_two min_two max_three min_three max_four min_four   -- for this text's walks alone
set_option linter.unusedVariables false
set_option linter.unusedSimpArgs false

/-! ### impl_countWays: function 63 (a contract of this repo) -/
def impl_countWays.iter {σ : Type} (f : Nat → σ → σ) : Nat → Nat → σ → σ
  | 0, _, c => c
  | r + 1, i, c => impl_countWays.iter f r (i + 1) (f i c)
theorem impl_countWays.iter_step {σ : Type} (f : Nat → σ → σ) (n i : Nat) (h : i < n) (c : σ) : impl_countWays.iter f (n - i) i c = impl_countWays.iter f (n - (i + 1)) (i + 1) (f i c) := by
  rw [show n - i = (n - (i + 1)) + 1 by omega]
  rfl
theorem impl_countWays.iter_end {σ : Type} (f : Nat → σ → σ) (n : Nat) (c : σ) : impl_countWays.iter f (n - n) n c = c := by rw [Nat.sub_self]; rfl
/-- A table with one number turned. -/
def impl_countWays.upd (c : Nat × Nat → Int) (p : Nat × Nat) (v : Int) : Nat × Nat → Int := fun q => if q = p then v else c q
/-- One sign at one corner. -/
def impl_countWays.sgF (rows : List (List Int)) (s t : ByteArray) (d x y m : Nat) (c : Nat × Nat → Int) : Nat × Nat → Int := if 0 < d ∧ impl_firstWay.nr rows s t x y m = true then impl_countWays.upd c (x, y) (wrap64 (c (x, y) + c (((x : Int) + impl_driveIn.dx m).toNat, ((y : Int) + impl_driveIn.dy m).toNat))) else c
/-- One corner. -/
def impl_countWays.cellF (rows : List (List Int)) (s t : ByteArray) (d x y : Nat) (c : Nat × Nat → Int) : Nat × Nat → Int := if impl_firstWay.dv rows x y = (d : Int) then impl_countWays.iter (impl_countWays.sgF rows s t d x y) 4 0 (if d = 0 then impl_countWays.upd c (x, y) 1 else c) else c
def impl_countWays.rowF (rows : List (List Int)) (s t : ByteArray) (d x : Nat) (c : Nat × Nat → Int) : Nat × Nat → Int := impl_countWays.iter (impl_countWays.cellF rows s t d x) s.size 0 c
def impl_countWays.levF (rows : List (List Int)) (s t : ByteArray) (d : Nat) (c : Nat × Nat → Int) : Nat × Nat → Int := impl_countWays.iter (impl_countWays.rowF rows s t d) t.size 0 c
def impl_countWays.total (rows : List (List Int)) (s t : ByteArray) (D : Nat) : Nat × Nat → Int := impl_countWays.iter (impl_countWays.levF rows s t) (D + 1) 0 (fun _ => 0)
theorem impl_countWays.grid_upd {w : World} {g : Nat} {bl : Nat → Nat} {W H : Nat} {c : Nat × Nat → Int} (h : impl_distancesBy.Grid w g bl W H (fun x y => c (x, y))) (x y : Nat) (hx : x < W) (hy : y < H) (v : Int) : impl_distancesBy.Grid (w.setCell ⟨bl x, y, none⟩ (.int .i64 v)) g bl W H (fun a b => impl_countWays.upd c (x, y) v (a, b)) :=
  (h.set x y hx hy v).ext (fun a b _ _ => by simp [impl_countWays.upd, Prod.ext_iff])
theorem impl_countWays.litI {w : World} {g : Nat} {x y : Int} (h0 : w.cell? ⟨g, 0, none⟩ = some (.int .i64 x)) (h1 : w.cell? ⟨g, 1, none⟩ = some (.int .i64 y)) : Kd.C (Kd.int .i64) w (some ⟨g, 0, none⟩) 2 [x, y] := by
  refine ⟨rfl, by omega, fun _ => ⟨_, rfl, fun j p hp => ?_⟩⟩
  match j with
  | 0 =>
    obtain rfl : x = p := by simpa using hp
    refine ⟨[.int .i64 x], rfl, rfl, fun i u hu => ?_⟩
    match i with
    | 0 => obtain rfl : Value.int .i64 x = u := by simpa using hu
           exact h0
    | i + 1 => simp at hu
  | 1 =>
    obtain rfl : y = p := by simpa using hp
    refine ⟨[.int .i64 y], rfl, rfl, fun i u hu => ?_⟩
    match i with
    | 0 => obtain rfl : Value.int .i64 y = u := by simpa using hu
           exact h1
    | i + 1 => simp at hu
  | j + 2 => simp at hp
/-- A grid stays where another block turns. -/
theorem impl_countWays.grid_other {w w' : World} {g : Nat} {bl : Nat → Nat} {W H : Nat} {d : Nat → Nat → Int} (h : impl_distancesBy.Grid w g bl W H d) (it : Nat) (hg : g ≠ it) (hb : ∀ x, x < W → bl x ≠ it) (ho : ∀ k, k ≠ it → w'.heap[k]? = w.heap[k]?) : impl_distancesBy.Grid w' g bl W H d := by
  obtain ⟨⟨cur, g1, g2, g3⟩, gr, inj⟩ := h
  refine ⟨⟨cur, by rw [ho g hg]; exact g1, g2, g3⟩, fun a ha => ?_, inj⟩
  obtain ⟨c, h1, h2, h3⟩ := gr a ha
  exact ⟨c, by rw [ho _ (hb a ha)]; exact h1, h2, h3⟩
theorem impl_countWays.ipos {w : World} {k : Nat} {s : ByteArray} {p : Nat} (h : w.heap[k]? = some (.stringIter s p)) : w.iterPos k = p := by simp [World.iterPos, h]
set_option maxHeartbeats 16000000 in
set_option maxRecDepth 100000 in
theorem impl_countWays.walk (s t : ByteArray) (hS : impl_driveIn.Sized s t) (p : Nat) (rows : List (List Int)) (hR : impl_firstWay.Rect rows t.size s.size) (b o : Nat) (bl ol cp : Nat → Nat) (c0 : Nat) (A : Option Addr) (c : Nat) (ax ay : Nat) (w : World) (hG : impl_firstWay.RG w b o bl ol cp rows t.size s.size) (hr : Kd.C (Kd.int .i64) w A 2 [(ax : Int), (ay : Int)]) (hc : 2 ≤ c) (hax : ax < t.size) (hay : ay < s.size) (hp : w.heap[p]? = some (.cells #[.string s, .string t] 27 (0, 0))) (D : Nat) (hD : impl_firstWay.dv rows ax ay = (D : Int)) :
    Calls Try.prog 63 #[.slice (some ⟨b, o, none⟩) t.size c0, .slice A 2 c, .func (.func 71) #[] #[.pointer (some ⟨p, 0, none⟩)]] w fun e w' => e = .returned (.int .i64 (impl_countWays.total rows s t D (ax, ay))) ∧ Below w.heap.size w w' := by
  obtain ⟨⟨t1, t8⟩, s1, s8⟩ := hS
  have HS := Aside0.mk (show impl_driveIn.Sized s t from ⟨⟨t1, t8⟩, s1, s8⟩)
  have hD64 : D ≤ 64 := by have := (impl_firstWay.small hR ax ay hax hay).2; omega
  have HR := Aside0.mk hR
  have HG := Aside0.mk hG
  have HP := Aside0.mk hp
  have HPL := Aside0.mk (Array.getElem?_eq_some_iff.1 hp).1
  have HD := Aside0.mk hD
  have HC := Aside0.mk hc
  obtain ⟨ad, hA, hx0⟩ := Kd.at_int hr 0 (by omega) (by omega)
  obtain ⟨ad1, hA1, hx1⟩ := Kd.at_int hr 1 (by omega) (by omega)
  subst hA
  obtain rfl : ad = ad1 := by injection hA1
  rw [show (0 : Int).toNat = 0 from rfl, Addr.add_zero', show rd [(ax : Int), (ay : Int)] 0 = (ax : Int) from rfl] at hx0
  rw [show rd [(ax : Int), (ay : Int)] 1 = (ay : Int) from rfl] at hx1
  simp only [show (1 : Int).toNat = 1 from rfl, Nat.reduceMul, Nat.reduceEqDiff, Go.Addr.add, ↓reduceIte] at hx1
  have X0 := Aside0.mk hx0
  have X1 := Aside0.mk hx1
  have hg0 := (hG 0 (by omega)).1
  rw [Nat.add_zero] at hg0
  have HGr := Aside0.mk (impl_distancesBy.grid t.size s.size ⟨t1, t8⟩ ⟨s1, s8⟩ 0 w)
  clear hR hG hp hr hx0 hx1 hA1 hc hD
  have HT0 := Aside0.mk (show impl_countWays.iter (impl_countWays.levF rows s t) (D + 1 - 0) 0 (fun _ => 0) = impl_countWays.total rows s t D from rfl)
  obtain ⟨C, hCt⟩ : ∃ C, C = impl_countWays.total rows s t D := ⟨_, rfl⟩
  rw [← hCt] at HT0 ⊢
  clear hCt
  go_enter Try.func63, Try.ntmps63
  go_wp2_with (go_at_call 74; refine HGr.out.mono ?_; rintro e w1 ⟨g, gl, rfl, hG1, hb, hB⟩; have HG1 := Aside0.mk hG1; have Hb := Aside0.mk hb; have HB1 := Aside0.mk hB; clear hG1 hB hb)
  clear hg0 HGr
  -- what is read stays
  have HXs := Aside0.mk (show ∀ W : World, Below w.heap.size w W → W.cell? ad = some (.int .i64 ax) ∧ W.cell? { block := ad.block, off := ad.off + 1 } = some (.int .i64 ay) from fun W hW => ⟨(hW.cell (World.block_lt_of_cell? _ _ X0.out)).trans X0.out, (hW.cell (World.block_lt_of_cell? _ _ X1.out)).trans X1.out⟩)
  have HRs := Aside0.mk (show ∀ W : World, Below w.heap.size w W → impl_firstWay.RG W b o bl ol cp rows t.size s.size from fun W hW u hu => ⟨(hW.cell (World.block_lt_of_cell? _ _ (HG.out u hu).1)).trans (HG.out u hu).1, fun v hv => (hW.cell (World.block_lt_of_cell? _ _ ((HG.out u hu).2 v hv))).trans ((HG.out u hu).2 v hv)⟩)
  clear X0 X1
  go_loopw [8] (fun dv wr => ∃ (d : Nat) (k : Nat × Nat → Int), dv = .int .i64 d ∧ d ≤ D + 1 ∧ Aside0 (impl_distancesBy.Grid wr g gl t.size s.size (fun x y => k (x, y))) ∧ Aside0 (Below w.heap.size w wr) ∧ Aside0 (impl_countWays.iter (impl_countWays.levF rows s t) (D + 1 - d) d k = C)) (fun dv _ => D + 2 - (intOf dv).toNat)
  case atStart => exact ⟨0, fun _ => 0, rfl, Nat.zero_le _, HG1, HB1, HT0⟩
  case round =>
    clear HG1 HB1 HT0
    obtain ⟨d, k, rfl, hd, HG1, HB1, HI⟩ := hrel
    obtain ⟨hx0, hx1⟩ := HXs.out _ HB1.out
    have hg1 := (HRs.out _ HB1.out ax hax).1
    have hg2 := (HRs.out _ HB1.out ax hax).2 ay hay
    rw [HD.out] at hg2
    by_cases hdD : d ≤ D
    · have hdb : decide ((d : Int) ≤ (D : Int)) = true := decide_eq_true (by omega)
      have HI2 := Aside0.mk (show impl_countWays.iter (impl_countWays.levF rows s t) (D + 1 - (d + 1)) (d + 1) (impl_countWays.levF rows s t d k) = C by rw [← impl_countWays.iter_step _ _ _ (by omega)]; exact HI.out)
      have HDd := Aside0.mk hdD
      clear HI
      go_wp2
      go_quiet (fail)
      go_wp2
      clear hx0 hx1 hg1 hg2
      obtain ⟨CL, hCL⟩ : ∃ CL, CL = impl_countWays.levF rows s t d k := ⟨_, rfl⟩
      have HJ := Aside0.mk (show impl_countWays.iter (impl_countWays.rowF rows s t d) (t.size - 0) 0 k = CL by rw [hCL]; rfl)
      rw [← hCL] at HI2
      have HG2 := Aside0.mk (HG1.out.below (pw_below_drewN (Below.refl _ _) nq))
      have HB2 := Aside0.mk (pw_below_drewN HB1.out nq)
      clear hCL HG1 HB1
      go_loopw [40] (fun xv wr => ∃ (x : Nat) (k : Nat × Nat → Int), xv = .int .i64 x ∧ x ≤ t.size ∧ Aside0 (impl_distancesBy.Grid wr g gl t.size s.size (fun x y => k (x, y))) ∧ Aside0 (Below w.heap.size w wr) ∧ Aside0 (impl_countWays.iter (impl_countWays.rowF rows s t d) (t.size - x) x k = CL)) (fun xv _ => t.size - (intOf xv).toNat)
      case atStart => exact ⟨0, k, rfl, Nat.zero_le _, HG2, HB2, HJ⟩
      case round =>
        clear HG2 HB2 HJ
        obtain ⟨x, k, rfl, hx, HG1, HB1, HJ⟩ := hrel
        by_cases hxt : x < t.size
        · have HJ2 := Aside0.mk (show impl_countWays.iter (impl_countWays.rowF rows s t d) (t.size - (x + 1)) (x + 1) (impl_countWays.rowF rows s t d x k) = CL by rw [← impl_countWays.iter_step _ _ _ hxt]; exact HJ.out)
          have hg1 := (HRs.out _ HB1.out x hxt).1
          obtain ⟨CR, hCR⟩ : ∃ CR, CR = impl_countWays.rowF rows s t d x k := ⟨_, rfl⟩
          have HK := Aside0.mk (show impl_countWays.iter (impl_countWays.cellF rows s t d x) (s.size - 0) 0 k = CR by rw [hCR]; rfl)
          rw [← hCR] at HJ2
          have HXT := Aside0.mk hxt
          clear hCR HJ
          go_wp2
          clear hg1
          go_loopw [47] (fun yv wr => ∃ (y : Nat) (k : Nat × Nat → Int), yv = .int .i64 y ∧ y ≤ s.size ∧ Aside0 (impl_distancesBy.Grid wr g gl t.size s.size (fun x y => k (x, y))) ∧ Aside0 (Below w.heap.size w wr) ∧ Aside0 (impl_countWays.iter (impl_countWays.cellF rows s t d x) (s.size - y) y k = CR)) (fun yv _ => s.size - (intOf yv).toNat)
          case atStart => exact ⟨0, k, rfl, Nat.zero_le _, HG1, HB1, HK⟩
          case round =>
            clear HG1 HB1 HK
            obtain ⟨y, k, rfl, hy, HG1, HB1, HK⟩ := hrel
            by_cases hys : y < s.size
            · have HK2 := Aside0.mk (show impl_countWays.iter (impl_countWays.cellF rows s t d x) (s.size - (y + 1)) (y + 1) (impl_countWays.cellF rows s t d x y k) = CR by rw [← impl_countWays.iter_step _ _ _ hys]; exact HK.out)
              have hg2 := (HRs.out _ HB1.out x HXT.out).2 y hys
              obtain ⟨ov, hov⟩ : ∃ ov, ov = impl_firstWay.dv rows x y := ⟨_, rfl⟩
              rw [← hov] at hg2
              have HYS := Aside0.mk hys
              clear HK
              by_cases hod : ov = (d : Int)
              · have hob : (ov != (d : Int)) = false := bne_eq_false_iff_eq.2 hod
                have hcf : impl_countWays.cellF rows s t d x y k = impl_countWays.iter (impl_countWays.sgF rows s t d x y) 4 0 (if d = 0 then impl_countWays.upd k (x, y) 1 else k) := by
                  unfold impl_countWays.cellF
                  rw [if_pos (by rw [← hov]; exact hod)]
                rw [hcf] at HK2
                clear hcf hov
                by_cases hd0 : d = 0
                · have hdz : ((d : Int) == 0) = true := by rw [hd0]; rfl
                  have hgz : decide (0 < (d : Int)) = false := decide_eq_false (by omega)
                  have hcl : impl_countWays.iter (impl_countWays.sgF rows s t d x y) 4 0 (if d = 0 then impl_countWays.upd k (x, y) 1 else k) = impl_countWays.upd k (x, y) 1 := by
                    rw [if_pos hd0]
                    simp [impl_countWays.iter, impl_countWays.sgF, hd0]
                  rw [hcl] at HK2
                  have hrow := HG1.out.row x HXT.out
                  have hcel := HG1.out.cell x y HXT.out hys
                  have hfre := HG1.out.free x y HXT.out
                  have HLT := Aside0.mk HG1.out.lt
                  have HG2 := Aside0.mk (impl_countWays.grid_upd HG1.out x y HXT.out hys 1)
                  have HB2 := Aside0.mk (HB1.out.setCell (p := ⟨gl x, y, none⟩) (Hb.out.2 x HXT.out) (.int .i64 1))
                  have HG3 := Aside0.mk (HG2.out.below (w' := (wr.setCell ⟨gl x, y, none⟩ (.int .i64 1)).iter ⟨#[101, 110, 115, 119]⟩ 0) (below_alloc (Below.refl _ _) _))
                  have HB3 := Aside0.mk (show Below w.heap.size w ((wr.setCell ⟨gl x, y, none⟩ (.int .i64 1)).iter ⟨#[101, 110, 115, 119]⟩ 0) from below_then HB2.out HB2.out.size (below_alloc (Below.refl _ _) _))
                  have HIT0 := World.iter_heap (wr.setCell ⟨gl x, y, none⟩ (.int .i64 1)) ⟨#[101, 110, 115, 119]⟩ 0
                  obtain ⟨it, hit⟩ : ∃ it, it = wr.heap.size := ⟨_, rfl⟩
                  have HLE := Aside0.mk (show w.heap.size ≤ it by rw [hit]; exact HB1.out.size)
                  have HOT := Aside0.mk (show g ≠ it ∧ ∀ x, x < t.size → gl x ≠ it from ⟨by have := HLT.out.1; omega, fun x hx => by have := HLT.out.2 x hx; omega⟩)
                  rw [show (wr.setCell ⟨gl x, y, none⟩ (.int .i64 1)).heap.size = it by rw [hit]; simp] at HIT0
                  clear hcl hd0 HG1 HG2 HB2 HLT
                  go_wp2
                  rw [← hit]
                  clear hit hrow hcel hfre hg2 HB1
                  go_loopw [] (fun wi => ∃ j : Nat, j ≤ 4 ∧ wi.heap[it]? = some (.stringIter ⟨#[101, 110, 115, 119]⟩ j) ∧ Aside0 (impl_distancesBy.Grid wi g gl t.size s.size (fun a b => impl_countWays.upd k (x, y) 1 (a, b))) ∧ Aside0 (Below w.heap.size w wi)) (fun wi => 4 - wi.iterPos it)
                  case atStart => exact ⟨0, by omega, HIT0, HG3, HB3⟩
                  case round =>
                    clear HIT0 HG3 HB3
                    obtain ⟨j, hj, hit, HG, HB⟩ := hrel
                    by_cases hj4 : j < 4
                    · have hnx : ∀ ty, (Instr.next (.pointer (some ⟨it, 0, none⟩)) true ty).run Try.prog wr = _ := fun ty => Go.Lib.run_next_any_at wr it ⟨#[101, 110, 115, 119]⟩ j ty hit hj4
                      have hit1 := Aside0.mk (Go.Lib.iterAt_heap wr it ⟨#[101, 110, 115, 119]⟩ j (j + 1) hit)
                      have HIT := Aside0.mk hit
                      have HG1 := Aside0.mk (impl_countWays.grid_other (w' := wr.iterAt it ⟨#[101, 110, 115, 119]⟩ (j + 1)) HG.out it HOT.out.1 HOT.out.2 (fun k hk => Go.Lib.iterAt_other _ _ _ _ _ hk))
                      have HB1 := Aside0.mk (Go.Lib.below_iterAt HB.out HLE.out ⟨#[101, 110, 115, 119]⟩ (j + 1))
                      have HIL := Aside0.mk (show it < (wr.iterAt it ⟨#[101, 110, 115, 119]⟩ (j + 1)).heap.size from (Array.getElem?_eq_some_iff.1 hit1.out).1)
                      rw [impl_firstWay.wid j hj4] at hnx
                      clear hit HG HB
                      go_wp2
                      go_roundw
                      case rel => exact ⟨j + 1, by omega, (below_alloc (Below.refl _ _) _).block _ HIL.out |>.trans hit1.out, ⟨HG1.out.below (below_alloc (Below.refl _ _) _)⟩, ⟨below_then HB1.out HB1.out.size (below_alloc (Below.refl _ _) _)⟩⟩
                      case measure => rw [impl_countWays.ipos (((below_alloc (Below.refl _ _) _).block _ HIL.out).trans hit1.out), impl_countWays.ipos HIT.out]; omega
                    · obtain rfl : j = 4 := by omega
                      have hnx : ∀ ty, (Instr.next (.pointer (some ⟨it, 0, none⟩)) true ty).run Try.prog wr = _ := fun ty => Go.Lib.run_next_end_at wr it ⟨#[101, 110, 115, 119]⟩ 4 ty hit (by decide)
                      go_wp2
                      go_roundw
                      case rel => exact ⟨y + 1, _, by go_num, by have := HYS.out; omega, HG, HB, HK2⟩
                      case measure => have := HYS.out; simp [intOf]; omega
                · have hdz : ((d : Int) == 0) = false := beq_eq_false_iff_ne.2 (by omega)
                  have hgz : decide (0 < (d : Int)) = true := decide_eq_true (by omega)
                  have HD0 := Aside0.mk (show 0 < d by omega)
                  rw [if_neg hd0] at HK2
                  obtain ⟨CS, hCS⟩ : ∃ CS, CS = impl_countWays.iter (impl_countWays.sgF rows s t d x y) 4 0 k := ⟨_, rfl⟩
                  rw [← hCS] at HK2
                  have HS0 := Aside0.mk (show impl_countWays.iter (impl_countWays.sgF rows s t d x y) (4 - 0) 0 k = CS from hCS.symm)
                  have HLT := Aside0.mk HG1.out.lt
                  have HG3 := Aside0.mk (HG1.out.below (w' := wr.iter ⟨#[101, 110, 115, 119]⟩ 0) (below_alloc (Below.refl _ _) _))
                  have HB3 := Aside0.mk (show Below w.heap.size w (wr.iter ⟨#[101, 110, 115, 119]⟩ 0) from below_then HB1.out HB1.out.size (below_alloc (Below.refl _ _) _))
                  have HIT0 := World.iter_heap wr ⟨#[101, 110, 115, 119]⟩ 0
                  obtain ⟨it, hit⟩ : ∃ it, it = wr.heap.size := ⟨_, rfl⟩
                  have HLE := Aside0.mk (show w.heap.size ≤ it by rw [hit]; exact HB1.out.size)
                  have HOT := Aside0.mk (show g ≠ it ∧ ∀ x, x < t.size → gl x ≠ it from ⟨by have := HLT.out.1; omega, fun x hx => by have := HLT.out.2 x hx; omega⟩)
                  rw [← hit] at HIT0
                  clear hCS hd0 HG1 HLT
                  go_wp2
                  rw [← hit]
                  clear hit hg2 HB1
                  go_loopw [] (fun wi => ∃ (j : Nat) (c : Nat × Nat → Int), j ≤ 4 ∧ wi.heap[it]? = some (.stringIter ⟨#[101, 110, 115, 119]⟩ j) ∧ Aside0 (impl_distancesBy.Grid wi g gl t.size s.size (fun a b => c (a, b))) ∧ Aside0 (Below w.heap.size w wi) ∧ Aside0 (impl_countWays.iter (impl_countWays.sgF rows s t d x y) (4 - j) j c = CS)) (fun wi => 4 - wi.iterPos it)
                  case atStart => exact ⟨0, k, by omega, HIT0, HG3, HB3, HS0⟩
                  case round =>
                    clear HIT0 HG3 HB3 HS0
                    obtain ⟨j, cc, hj, hit, HG, HB, HI⟩ := hrel
                    by_cases hj4 : j < 4
                    · have hnx : ∀ ty, (Instr.next (.pointer (some ⟨it, 0, none⟩)) true ty).run Try.prog wr = _ := fun ty => Go.Lib.run_next_any_at wr it ⟨#[101, 110, 115, 119]⟩ j ty hit hj4
                      have hit1 := Aside0.mk (Go.Lib.iterAt_heap wr it ⟨#[101, 110, 115, 119]⟩ j (j + 1) hit)
                      have HIT := Aside0.mk hit
                      have HG1 := Aside0.mk (impl_countWays.grid_other (w' := wr.iterAt it ⟨#[101, 110, 115, 119]⟩ (j + 1)) HG.out it HOT.out.1 HOT.out.2 (fun k hk => Go.Lib.iterAt_other _ _ _ _ _ hk))
                      have HB1 := Aside0.mk (Go.Lib.below_iterAt HB.out HLE.out ⟨#[101, 110, 115, 119]⟩ (j + 1))
                      have HIL := Aside0.mk (show it < (wr.iterAt it ⟨#[101, 110, 115, 119]⟩ (j + 1)).heap.size from (Array.getElem?_eq_some_iff.1 hit1.out).1)
                      rw [impl_firstWay.wid j hj4] at hnx
                      have HI2 := Aside0.mk (show impl_countWays.iter (impl_countWays.sgF rows s t d x y) (4 - (j + 1)) (j + 1) (impl_countWays.sgF rows s t d x y j cc) = CS by rw [← impl_countWays.iter_step _ _ _ hj4]; exact HI.out)
                      have HN := Aside0.mk (show ∀ (g2 : Nat) (W : World), Below w.heap.size w W → Kd.C (Kd.int .i64) W (some ⟨g2, 0, none⟩) 2 [(x : Int), (y : Int)] → Calls Try.prog 75 #[.slice (some ⟨b, o, none⟩) t.size c0, .slice (some ⟨g2, 0, none⟩) 2 2, .int .i64 j, .func (.func 71) #[] #[.pointer (some ⟨p, 0, none⟩)]] W (fun e w' => e = .returned (.bool (impl_firstWay.nr rows s t x y j)) ∧ Below W.heap.size W w') from fun g2 W hW hC => impl_firstWay.nearer s t HS.out p rows HR.out b o bl ol cp c0 _ 2 x y j (by omega) W (HRs.out W hW) hC (Nat.le_refl _) HXT.out HYS.out ((hW.block p HPL.out).trans HP.out))
                      clear hit HG HB HI
                      have hd1 := HD0.out
                      cases hnr : impl_firstWay.nr rows s t x y j with
                      | false =>
                        have hsg : impl_countWays.sgF rows s t d x y j cc = cc := by
                          unfold impl_countWays.sgF
                          rw [if_neg (by rw [hnr]; simp)]
                        rw [hsg] at HI2
                        rw [hnr] at HN
                        clear hsg hnr
                        go_wp2_with (go_at_call 75; refine (HN.out _ _ (below_then HB1.out HB1.out.size (below_alloc (Below.refl _ _) _)) (impl_countWays.litI ((blk_cell (heap_alloc_new _ _) 0).trans rfl) ((blk_cell (heap_alloc_new _ _) 1).trans rfl))).mono ?_; rintro e w3 ⟨rfl, hb3⟩; have hit3 := Aside0.mk (((below_then (below_alloc (Below.refl _ _) _) (below_alloc (Below.refl _ _) _).size hb3).block _ HIL.out).trans hit1.out); have HG3 := Aside0.mk (HG1.out.below (below_then (below_alloc (Below.refl _ _) _) (below_alloc (Below.refl _ _) _).size hb3)); have HB3 := Aside0.mk (below_then HB1.out HB1.out.size (below_then (below_alloc (Below.refl _ _) _) (below_alloc (Below.refl _ _) _).size hb3)); clear hb3)
                        go_roundw
                        case rel => exact ⟨j + 1, cc, by omega, hit3.out, HG3, HB3, HI2⟩
                        case measure => rw [impl_countWays.ipos hit3.out, impl_countWays.ipos HIT.out]; omega
                      | true =>
                        have hsg : impl_countWays.sgF rows s t d x y j cc = impl_countWays.upd cc (x, y) (wrap64 (cc (x, y) + cc (((x : Int) + impl_driveIn.dx j).toNat, ((y : Int) + impl_driveIn.dy j).toNat))) := by
                          unfold impl_countWays.sgF
                          rw [if_pos ⟨HD0.out, hnr⟩]
                        rw [hsg] at HI2
                        rw [hnr] at HN
                        have hnr2 := hnr
                        unfold impl_firstWay.nr at hnr2
                        rw [Bool.and_eq_true, decide_eq_true_eq] at hnr2
                        have hat := impl_firstWay.can_at hnr2.1
                        have HMv := Aside0.mk (impl_driveIn.moved x y j (by omega) (by have := HXT.out; omega) (by have := HYS.out; omega))
                        obtain ⟨u, hu⟩ := Int.eq_ofNat_of_zero_le hat.1.1
                        obtain ⟨v, hv⟩ := Int.eq_ofNat_of_zero_le hat.2.1
                        rw [hu, hv] at HMv hat HI2
                        rw [Int.toNat_natCast, Int.toNat_natCast] at HI2
                        have hut : u < t.size := by have := hat.1.2; omega
                        have hvs : v < s.size := by have := hat.2.2; omega
                        obtain ⟨ca, hca⟩ : ∃ ca, ca = cc (x, y) := ⟨_, rfl⟩
                        obtain ⟨cb, hcb⟩ : ∃ cb, cb = cc (u, v) := ⟨_, rfl⟩
                        rw [← hca, ← hcb] at HI2
                        have ew : IntKind.i64.wrap (ca + cb) = wrap64 (ca + cb) := i64_w _
                        have HCA := Aside0.mk hca
                        have HCB := Aside0.mk hcb
                        clear hsg hnr hnr2 hat hu hv hca hcb
                        go_wp2_with (first | (go_at_call 75; have hl0 := Aside0.mk (impl_countWays.litI (w := (wr.iterAt it ⟨#[101, 110, 115, 119]⟩ (j + 1)).alloc (.cells #[.int .i64 (x : Int), .int .i64 (y : Int)] 3)) ((blk_cell (heap_alloc_new _ _) 0).trans rfl) ((blk_cell (heap_alloc_new _ _) 1).trans rfl)); refine (HN.out _ _ (below_then HB1.out HB1.out.size (below_alloc (Below.refl _ _) _)) hl0.out).mono ?_; rintro e w3 ⟨rfl, hb3⟩; have hC3 := Aside0.mk (Kd.C_below hl0.out hb3); have hit3 := Aside0.mk (((below_then (below_alloc (Below.refl _ _) _) (below_alloc (Below.refl _ _) _).size hb3).block _ HIL.out).trans hit1.out); have HG3 := Aside0.mk (HG1.out.below (below_then (below_alloc (Below.refl _ _) _) (below_alloc (Below.refl _ _) _).size hb3)); have HB3 := Aside0.mk (below_then HB1.out HB1.out.size (below_then (below_alloc (Below.refl _ _) _) (below_alloc (Below.refl _ _) _).size hb3)); have HIL3 := Aside0.mk (Array.getElem?_eq_some_iff.1 hit3.out).1; clear hb3 hl0) | (go_at_call 70; refine (impl_moved.calls _ _ [(x : Int), (y : Int)] (j : Int) _ _ hC3.out (Nat.le_refl _) HMv.out).mono ?_; rintro e w6 ⟨v6, rfl, hR6, hb6⟩; obtain ⟨A6, c6, e6⟩ := Kd.R_slice hR6; rw [show ([(u : Int), (v : Int)] : List Int).length = 2 from rfl] at e6; subst e6; have hC6 := (Kd.R_reads' hR6).2.2; rw [show ([(u : Int), (v : Int)] : List Int).length = 2 from rfl] at hC6; obtain ⟨ad2, hA2, hu0⟩ := Kd.at_int hC6 0 (by omega) (by omega); obtain ⟨ad3, hA3, hu1⟩ := Kd.at_int hC6 1 (by omega) (by omega); subst hA2; obtain rfl : ad2 = ad3 := (by injection hA3); rw [show (0 : Int).toNat = 0 from rfl, Addr.add_zero', show rd [(u : Int), (v : Int)] 0 = (u : Int) from rfl] at hu0; rw [show rd [(u : Int), (v : Int)] 1 = (v : Int) from rfl] at hu1; simp only [show (1 : Int).toNat = 1 from rfl, Nat.reduceMul, Nat.reduceEqDiff, Go.Addr.add, ↓reduceIte] at hu1; have HU0 := Aside0.mk hu0; have HU1 := Aside0.mk hu1; have HB6 := Aside0.mk (below_then HB3.out HB3.out.size hb6); have HG6 := Aside0.mk (HG3.out.below hb6); have hit6 := Aside0.mk ((hb6.block _ HIL3.out).trans hit3.out); clear hb6 hR6 hC6 hA3 hu0 hu1))
                        refine wp_region_still_tail 20 (by kernel_rfl) (by kernel_rfl) ?_
                        simp only [List.take_succ_cons, List.take_zero, List.drop_succ_cons, List.drop_zero]
                        obtain ⟨w7, hw7⟩ : ∃ w7 : World, w6.drew = w7 := ⟨_, rfl⟩
                        have hbd : Below w6.heap.size w6 w7 := by rw [← hw7]; exact below_drew1 (Below.refl _ _)
                        have HB7 := Aside0.mk (below_then HB6.out HB6.out.size hbd)
                        have HG7 := Aside0.mk (HG6.out.below hbd)
                        have hit7 := Aside0.mk (show w7.heap[it]? = some (.stringIter ⟨#[101, 110, 115, 119]⟩ (j + 1)) by rw [← hw7]; exact hit6.out)
                        have hu0 := (hbd.cell (World.block_lt_of_cell? _ _ HU0.out)).trans HU0.out
                        have hu1 := (hbd.cell (World.block_lt_of_cell? _ _ HU1.out)).trans HU1.out
                        have hrowa := HG7.out.row x HXT.out
                        have hrowb := HG7.out.row u hut
                        have hcela : w7.cell? ⟨gl x, y, none⟩ = some (.int .i64 ca) := by rw [HCA.out]; exact HG7.out.cell x y HXT.out HYS.out
                        have hcelb : w7.cell? ⟨gl u, v, none⟩ = some (.int .i64 cb) := by rw [HCB.out]; exact HG7.out.cell u v hut hvs
                        have hfrea := HG7.out.free x y HXT.out
                        have HG8 := Aside0.mk (impl_countWays.grid_upd HG7.out x y HXT.out HYS.out (wrap64 (ca + cb)))
                        have HB8 := Aside0.mk (HB7.out.setCell (p := ⟨gl x, y, none⟩) (Hb.out.2 x HXT.out) (.int .i64 (wrap64 (ca + cb))))
                        have hit8 := Aside0.mk ((Below.heap_setCell w7 ⟨gl x, y, none⟩ (.int .i64 (wrap64 (ca + cb))) it (fun e => HOT.out.2 x HXT.out e.symm)).trans hit7.out)
                        change wpStill _ _ w6.drew _ _ _
                        rw [hw7]
                        have HW7 := Aside0.mk hw7
                        clear hw7 hbd
                        repeat still_step
                        refine wpStill_nil ?_
                        change wpList _ _ _ _ _ w6.drew
                        rw [HW7.out]
                        clear HB7 HG7 hit7 hu0 hu1 hrowa hrowb hcelb
                        go_wp2
                        go_roundw
                        case rel => exact ⟨j + 1, _, by omega, hit8.out, HG8, HB8, HI2⟩
                        case measure => rw [impl_countWays.ipos hit8.out, impl_countWays.ipos HIT.out]; omega
                    · obtain rfl : j = 4 := by omega
                      have hnx : ∀ ty, (Instr.next (.pointer (some ⟨it, 0, none⟩)) true ty).run Try.prog wr = _ := fun ty => Go.Lib.run_next_end_at wr it ⟨#[101, 110, 115, 119]⟩ 4 ty hit (by decide)
                      have HE := Aside0.mk (show cc = CS from HI.out)
                      go_wp2
                      go_roundw
                      case rel => exact ⟨y + 1, cc, by go_num, by have := HYS.out; omega, HG, HB, ⟨by rw [HE.out]; exact HK2.out⟩⟩
                      case measure => have := HYS.out; simp [intOf]; omega
              · have hob : (ov != (d : Int)) = true := bne_iff_ne.2 hod
                have hcf : impl_countWays.cellF rows s t d x y k = k := by
                  unfold impl_countWays.cellF
                  rw [if_neg (by rw [← hov]; exact hod)]
                rw [hcf] at HK2
                clear hcf hov hod
                go_wp2
                go_roundw
                case rel => exact ⟨y + 1, k, by go_num, by omega, HG1, HB1, HK2⟩
                case measure => simp [intOf]; omega
            · obtain rfl : y = s.size := by omega
              clear hys
              have HE := Aside0.mk (show k = CR by have z := HK.out; rw [impl_countWays.iter_end] at z; exact z)
              go_wp2
              go_roundw
              case rel => exact ⟨x + 1, k, by go_num, by have := HXT.out; omega, HG1, HB1, ⟨by rw [HE.out]; exact HJ2.out⟩⟩
              case measure => have := HXT.out; simp [intOf]; omega
        · obtain rfl : x = t.size := by omega
          clear hxt
          have HE := Aside0.mk (show k = CL by have z := HJ.out; rw [impl_countWays.iter_end] at z; exact z)
          go_wp2
          go_roundw
          case rel => exact ⟨d + 1, k, by go_num, by have := HDd.out; omega, HG1, HB1, ⟨by rw [HE.out]; exact HI2.out⟩⟩
          case measure => have := HDd.out; simp [intOf]; omega
    · obtain rfl : d = D + 1 := by omega
      have hdb : decide (((D + 1 : Nat) : Int) ≤ (D : Int)) = false := decide_eq_false (by omega)
      have HE := Aside0.mk (show k = C by have z := HI.out; rw [impl_countWays.iter_end] at z; exact z)
      have hc1 := HG1.out.row ax hax
      have hc2 : wr.cell? ⟨gl ax, ay, none⟩ = some (.int .i64 (C (ax, ay))) := by rw [← HE.out]; exact HG1.out.cell ax ay hax hay
      clear hdD hd
      go_wp2
      go_quiet (fail)
      go_wp2
      go_quiet (fail)
      go_wp2
      go_ret
      exact ⟨rfl, pw_below_drewN (pw_below_drewN HB1.out _) _⟩
def impl_countWays.f : Nat → List (List Int) → List Int → ByteArray × ByteArray → Option Int
  | 0, _, _, _ => none
  | _ + 1, l0, l1, a2 => if ((impl_firstWay.Rect l0 a2.2.size a2.1.size ∧ impl_driveIn.Sized a2.1 a2.2) ∧ l1.length = 2 ∧ impl_driveIn.At a2.1 a2.2 (rd l1 0) (rd l1 1)) ∧ 0 ≤ impl_firstWay.dv l0 (rd l1 0) (rd l1 1) then some (impl_countWays.total l0 a2.1 a2.2 (impl_firstWay.dv l0 (rd l1 0) (rd l1 1)).toNat ((rd l1 0).toNat, (rd l1 1).toNat)) else none
theorem impl_countWays.mono : ∀ a0 a1 a2 k, LeO (impl_countWays.f k a0 a1 a2) (impl_countWays.f (k + 1) a0 a1 a2) := fun a0 a1 a2 k => by
  cases k with
  | zero => exact LeO.none _
  | succ k => exact LeO.refl _
theorem impl_countWays.calls (k : Nat) (A0 : Option Addr) (c0 : Nat) (l0 : List (List Int)) (A1 : Option Addr) (c1 : Nat) (l1 : List Int) (a2 : ByteArray × ByteArray) (r : Int) (w : World) (hr0 : Kd.C (Kd.slice 3 (Kd.int .i64)) w A0 l0.length l0) (hc0 : l0.length ≤ c0) (hr1 : Kd.C (Kd.int .i64) w A1 l1.length l1) (hc1 : l1.length ≤ c1) (h : impl_countWays.f k l0 l1 a2 = some r) (p : Nat) (hp : w.heap[p]? = some (.cells #[.string a2.1, .string a2.2] 27 (0, 0))) :
    Calls Try.prog 63 #[.slice A0 l0.length c0, .slice A1 l1.length c1, .func (.func 71) #[] #[.pointer (some ⟨p, 0, none⟩)]] w fun e w' => e = .returned (.int .i64 r) ∧ Below w.heap.size w w' := by
  cases k with
  | zero => cases h
  | succ k =>
    simp only [impl_countWays.f] at h
    by_cases cc : ((impl_firstWay.Rect l0 a2.2.size a2.1.size ∧ impl_driveIn.Sized a2.1 a2.2) ∧ l1.length = 2 ∧ impl_driveIn.At a2.1 a2.2 (rd l1 0) (rd l1 1)) ∧ 0 ≤ impl_firstWay.dv l0 (rd l1 0) (rd l1 1)
    · rw [if_pos cc] at h
      obtain ⟨⟨⟨hR, hS⟩, hl, ⟨x0, x1⟩, y0, y1⟩, hd⟩ := cc
      obtain rfl := Option.some.inj h
      obtain ⟨b, o, bl, ol, cp, rfl, hG⟩ := impl_firstWay.rg hr0 hR (by omega) (by omega)
      obtain ⟨x, hx⟩ := Int.eq_ofNat_of_zero_le x0
      obtain ⟨y, hy⟩ := Int.eq_ofNat_of_zero_le y0
      obtain ⟨D, hD⟩ := Int.eq_ofNat_of_zero_le hd
      have e : l1 = [(x : Int), (y : Int)] := by
        match l1, hl with
        | [u, v], _ =>
          have hu : u = (x : Int) := hx
          have hv : v = (y : Int) := hy
          rw [hu, hv]
      rw [hD, hx, hy, Int.toNat_natCast, Int.toNat_natCast, Int.toNat_natCast]
      rw [hx, hy] at hD
      rw [hl] at hr1 hc1 ⊢
      rw [hR.1]
      exact impl_countWays.walk a2.1 a2.2 hS p l0 hR b o bl ol cp c0 A1 c1 x y w hG (by rw [← e]; exact hr1) hc1 (by omega) (by omega) hp D hD
    · rw [if_neg cc] at h
      cases h

end Go.Proofs.Ytopbmiedlpkmjaa.MK
