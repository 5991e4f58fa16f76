-- The machine side, written by this repo's program mp.py; contracts marked as of this repo are this session's own.
import Derived.Test.YtbchfajbobploaaMCx0
namespace Go.Proofs.Ytbchfajbobploaa.MC
open Go.RowKit Go.Proofs.YtbchfajbobploaaW.PrintWords Go.Proofs.YtbchfajbobploaaW.PrintLast Go.Proofs.YtbchfajbobploaaW.PrintMore
attribute [local go_sem] max2_int min2_int max_two min_two max_three min_three max_four min_four   -- for this text's walks alone
set_option linter.unusedVariables false
set_option linter.unusedSimpArgs false

/-! ### impl_paintFrom: function 78 (a contract of this repo) -/
def impl_paintFrom.T2 : Bool × List (List Nat × List Nat) := (true, [([], []), ([0, 0], [0]), ([], []), ([2, 2], [2]), ([1, 0, 1], [1]), ([3, 4, 0, 1, 2, 3, 4], [3])])
def impl_paintFrom.B2 : List Nat := [0, 1, 0, 4, 3, 31]
theorem impl_paintFrom.tab2 : rtab .any (opsOf Try.f78 2) = impl_paintFrom.T2 := by kernel_rfl
theorem impl_paintFrom.bits2 : waitsOk impl_paintFrom.T2.2 impl_paintFrom.B2 = true := by kernel_rfl
def impl_paintFrom.T6 : Bool × List (List Nat × List Nat) := (true, [([], []), ([], []), ([], []), ([], []), ([], []), ([], []), ([4, 5], [4, 5]), ([6], [6]), ([7], [7]), ([8, 8], [8]), ([], []), ([], []), ([10, 11], [10, 11]), ([12], [12]), ([13], [13]), ([14, 14], [14]), ([0, 1, 0, 1, 4, 5, 6, 7, 8, 9, 13], [0, 1]), ([16, 9, 0, 1, 4, 5, 6, 7, 8, 9, 13], [9, 16]), ([2, 3, 0, 1, 2, 3, 4, 5, 6, 7, 8, 9, 10, 11, 12, 13, 14, 15, 16, 17], [2, 3]), ([18, 15, 17, 0, 1, 2, 3, 4, 5, 6, 7, 8, 9, 10, 11, 12, 13, 14, 15, 16, 17], [15, 18])])
def impl_paintFrom.B6 : List Nat := [0, 0, 0, 0, 0, 0, 48, 112, 240, 496, 0, 0, 3072, 7168, 15360, 31744, 16371, 81907, 262143, 524287]
theorem impl_paintFrom.tab6 : rtab .any (opsOf Try.f78 6) = impl_paintFrom.T6 := by kernel_rfl
theorem impl_paintFrom.bits6 : waitsOk impl_paintFrom.T6.2 impl_paintFrom.B6 = true := by kernel_rfl
def impl_paintFrom.T12 : Bool × List (List Nat × List Nat) := (true, [([], []), ([], []), ([0, 1], [0, 1]), ([2], [2]), ([], []), ([], []), ([], []), ([5, 6], [5, 6]), ([7], [7]), ([], []), ([], []), ([3, 4, 0, 1, 2, 3, 4, 8, 10], [3, 4]), ([11, 10, 0, 1, 2, 3, 4, 8, 10], [10, 11]), ([8, 9, 0, 1, 2, 3, 4, 5, 6, 7, 8, 9, 10, 11, 12], [8, 9]), ([13, 12, 0, 1, 2, 3, 4, 5, 6, 7, 8, 9, 10, 11, 12], [13])])
def impl_paintFrom.B12 : List Nat := [0, 0, 3, 7, 0, 0, 0, 96, 224, 0, 0, 1535, 3583, 8191, 16383]
theorem impl_paintFrom.tab12 : rtab .any (opsOf Try.f78 12) = impl_paintFrom.T12 := by kernel_rfl
theorem impl_paintFrom.bits12 : waitsOk impl_paintFrom.T12.2 impl_paintFrom.B12 = true := by kernel_rfl
def impl_paintFrom.T19 : Bool × List (List Nat × List Nat) := (true, [([], []), ([], []), ([0, 1], [0, 1]), ([2], [2]), ([], []), ([], []), ([], []), ([5, 6], [5, 6]), ([7], [7]), ([], []), ([], []), ([3, 4, 0, 1, 2, 3, 4, 8, 10], [3, 4]), ([11, 10, 0, 1, 2, 3, 4, 8, 10], [10, 11]), ([8, 9, 0, 1, 2, 3, 4, 5, 6, 7, 8, 9, 10, 11, 12], [8, 9]), ([13, 12, 0, 1, 2, 3, 4, 5, 6, 7, 8, 9, 10, 11, 12], [13])])
def impl_paintFrom.B19 : List Nat := [0, 0, 3, 7, 0, 0, 0, 96, 224, 0, 0, 1535, 3583, 8191, 16383]
theorem impl_paintFrom.tab19 : rtab .any (opsOf Try.f78 19) = impl_paintFrom.T19 := by kernel_rfl
theorem impl_paintFrom.bits19 : waitsOk impl_paintFrom.T19.2 impl_paintFrom.B19 = true := by kernel_rfl
def impl_paintFrom.iter {σ : Type} (f : Nat → σ → σ) : Nat → Nat → σ → σ
  | 0, _, c => c
  | r + 1, i, c => impl_paintFrom.iter f r (i + 1) (f i c)
theorem impl_paintFrom.iter_step {σ : Type} (f : Nat → σ → σ) (n i : Nat) (h : i < n) (c : σ) : impl_paintFrom.iter f (n - i) i c = impl_paintFrom.iter f (n - (i + 1)) (i + 1) (f i c) := by
  rw [show n - i = (n - (i + 1)) + 1 by omega]
  rfl
/-- A cost. -/
def impl_paintFrom.dv (l : List (List Int)) (i c : Nat) : Int := rd (l.getD i []) (c : Int)
/-- Rows, as many and as long as costs are. -/
def impl_paintFrom.Rect (l : List (List Int)) (n K : Nat) : Prop := l.length = n ∧ ∀ x ∈ l, x.length = K
instance (l : List (List Int)) (n K : Nat) : Decidable (impl_paintFrom.Rect l n K) := by unfold impl_paintFrom.Rect; infer_instance
/-- One colour of the next house, for a colour of a house: the least cost and how many lists have it. -/
def impl_paintFrom.stp (c : Nat) (v : Int) (bn cn : Nat → Int) (x : Nat) (p : Int × Int) : Int × Int :=
  if x = c ∨ cn x = 0 then p else if p.2 = 0 ∨ wrap64 (v + bn x) < p.1 then (wrap64 (v + bn x), wrap64 (0 + cn x)) else if wrap64 (v + bn x) = p.1 then (p.1, wrap64 (p.2 + cn x)) else p
/-- The rows from the last house on. -/
def impl_paintFrom.P (l : List (List Int)) (n K : Nat) (no : Int) : Nat → Nat → Int × Int
  | 0, c => if (c : Int) = no then (0, 0) else (impl_paintFrom.dv l (n - 1) c, 1)
  | r + 1, c => impl_paintFrom.iter (impl_paintFrom.stp c (impl_paintFrom.dv l (n - 1 - (r + 1)) c) (fun x => (impl_paintFrom.P l n K no r x).1) (fun x => (impl_paintFrom.P l n K no r x).2)) K 0 (0, 0)
def impl_paintFrom.D1 (l : List (List Int)) (n K : Nat) (no : Int) (x y : Nat) : Int := (impl_paintFrom.P l n K no (n - 1 - x) y).1
def impl_paintFrom.D2 (l : List (List Int)) (n K : Nat) (no : Int) (x y : Nat) : Int := (impl_paintFrom.P l n K no (n - 1 - x) y).2
def impl_paintFrom.tab (n K : Nat) (d : Nat → Nat → Int) : List (List Int) := (List.range n).map fun x => (List.range K).map fun y => d x y
theorem impl_paintFrom.plain {w : World} {ad : Addr} {v : Value} (h : w.cell? ad = some v) : ∃ b o, ad = ⟨b, o, none⟩ := by
  obtain ⟨b, o, sp⟩ := ad
  cases sp with
  | none => exact ⟨b, o, rfl⟩
  | some z => simp only [World.cell?] at h; split at h <;> simp at h
/-- Where the costs lie. -/
def impl_paintFrom.RG (w : World) (b o : Nat) (bl ol cp : Nat → Nat) (l : List (List Int)) (n K : Nat) : Prop := ∀ x, x < n → w.cell? ⟨b, o + x, none⟩ = some (.slice (some ⟨bl x, ol x, none⟩) K (cp x)) ∧ ∀ y, y < K → w.cell? ⟨bl x, ol x + y, none⟩ = some (.int .i64 (impl_paintFrom.dv l x y))
theorem impl_paintFrom.RG.below {w w' : World} {b o : Nat} {bl ol cp : Nat → Nat} {l : List (List Int)} {n K : Nat} (h : impl_paintFrom.RG w b o bl ol cp l n K) (hb : Below w.heap.size w w') : impl_paintFrom.RG w' b o bl ol cp l n K := fun x hx => ⟨pw_cell_below hb (h x hx).1, fun y hy => pw_cell_below hb ((h x hx).2 y hy)⟩
theorem impl_paintFrom.rg {w : World} {A : Option Addr} {l : List (List Int)} {n K : Nat} (h : Kd.C (Kd.slice 3 (Kd.int .i64)) w A l.length l) (hR : impl_paintFrom.Rect l n K) (hn : 0 < n) (hK : 0 < K) : ∃ b o bl ol cp, A = some ⟨b, o, none⟩ ∧ impl_paintFrom.RG w b o bl ol cp l n K := by
  obtain ⟨hl, hr⟩ := hR
  have key : ∀ x : Nat, ∃ q : Nat × Nat × Nat, x < n → ∃ ad, A = some ad ∧ w.cell? (ad.add x) = some (.slice (some ⟨q.1, q.2.1, none⟩) K q.2.2) ∧ ∀ y, y < K → w.cell? ⟨q.1, q.2.1 + y, none⟩ = some (.int .i64 (impl_paintFrom.dv l x y)) := by
    intro x
    by_cases hx : x < n
    · obtain ⟨ad, c, hA, hcl, ⟨A', c', rfl, hl', hC⟩, hcc⟩ := Kd.C_get h [] (x : Int) (by omega) (by omega)
      rw [Int.toNat_natCast] at hC hcc hl'
      have hxl : x < l.length := by omega
      have hg : l.getD x [] = l[x] := by rw [List.getD_eq_getElem?_getD, List.getElem?_eq_getElem hxl]; rfl
      have hlen : (l.getD x []).length = K := by rw [hg]; exact hr _ (List.getElem_mem hxl)
      obtain ⟨ad2, hA2, hc2⟩ := Kd.at_int hC 0 (by omega) (by omega)
      rw [show (0 : Int).toNat = 0 from rfl, Addr.add_zero'] at hc2
      obtain ⟨b2, o2, rfl⟩ := impl_paintFrom.plain hc2
      subst hA2
      refine ⟨(b2, o2, c'), fun _ => ⟨ad, hA, ?_, fun y hy => ?_⟩⟩
      · have z := hcc 0 _ rfl
        rw [hlen] at z
        simpa [Kd.slice] using z
      · obtain ⟨ad3, hA3, hc3⟩ := Kd.at_int hC (y : Int) (by omega) (by omega)
        injection hA3 with hA3
        subst hA3
        rw [Int.toNat_natCast, Addr.add_lit] at hc3
        exact hc3
    · exact ⟨(0, 0, 0), fun z => absurd z hx⟩
  obtain ⟨ad, hA, h0, -⟩ := Classical.choose_spec (key 0) hn
  rw [Addr.add_zero'] at h0
  obtain ⟨b, o, rfl⟩ := impl_paintFrom.plain h0
  subst hA
  refine ⟨b, o, fun x => (Classical.choose (key x)).1, fun x => (Classical.choose (key x)).2.1, fun x => (Classical.choose (key x)).2.2, rfl, fun x hx => ?_⟩
  obtain ⟨ad, hA, h0, h1⟩ := Classical.choose_spec (key x) hx
  injection hA with hA
  subst hA
  rw [Addr.add_lit] at h0
  exact ⟨h0, h1⟩
/-- A table under way: an outer row of so many slices, of which those from one on lead to rows of their own. -/
def impl_paintFrom.Tone (w : World) (B g : Nat) (bl cp : Nat → Nat) (n K i : Nat) (d : Nat → Nat → Int) : Prop :=
  (∃ cur : Array Value, w.heap[g]? = some (.cells cur 29 (0, 0)) ∧ cur.size = n ∧ ∀ x, i ≤ x → x < n → cur[x]? = some (.slice (some ⟨bl x, 0, none⟩) K (cp x))) ∧
  (∀ x, i ≤ x → x < n → ∃ c : Array Value, w.heap[bl x]? = some (.cells c 3 (0, 0)) ∧ c.size = cp x ∧ ∀ y, y < K → c[y]? = some (.int .i64 (d x y))) ∧
  (∀ x x', i ≤ x → x < n → i ≤ x' → x' < n → bl x = bl x' → x = x') ∧ (B ≤ g ∧ ∀ x, i ≤ x → x < n → B ≤ bl x ∧ K ≤ cp x)
section
variable {w w' : World} {B g : Nat} {bl cp : Nat → Nat} {n K i : Nat} {d d' : Nat → Nat → Int}
theorem impl_paintFrom.Tone.ne (h : impl_paintFrom.Tone w B g bl cp n K i d) (x : Nat) (h1 : i ≤ x) (h2 : x < n) : g ≠ bl x := fun e => by
  obtain ⟨c, a, -⟩ := h.2.1 x h1 h2
  obtain ⟨cur, b, -⟩ := h.1
  rw [← e, b] at a
  simp at a
theorem impl_paintFrom.Tone.row (h : impl_paintFrom.Tone w B g bl cp n K i d) (x : Nat) (h1 : i ≤ x) (h2 : x < n) : w.cell? ⟨g, x, none⟩ = some (.slice (some ⟨bl x, 0, none⟩) K (cp x)) := by
  obtain ⟨⟨cur, a1, a2, a3⟩, -⟩ := h
  simp only [World.cell?, a1]
  simpa using a3 x h1 h2
theorem impl_paintFrom.Tone.cell (h : impl_paintFrom.Tone w B g bl cp n K i d) (x y : Nat) (h1 : i ≤ x) (h2 : x < n) (hy : y < K) : w.cell? ⟨bl x, y, none⟩ = some (.int .i64 (d x y)) := by
  obtain ⟨c, a1, a2, a3⟩ := h.2.1 x h1 h2
  simp only [World.cell?, a1]
  simpa using a3 y hy
theorem impl_paintFrom.Tone.free (h : impl_paintFrom.Tone w B g bl cp n K i d) (x y : Nat) (h1 : i ≤ x) (h2 : x < n) : w.frozen? ⟨bl x, y, none⟩ = false := by
  obtain ⟨c, a1, a2, a3⟩ := h.2.1 x h1 h2
  simp [World.frozen?, a1]
theorem impl_paintFrom.Tone.gfree (h : impl_paintFrom.Tone w B g bl cp n K i d) (y : Nat) : w.frozen? ⟨g, y, none⟩ = false := by
  obtain ⟨⟨cur, a1, a2, a3⟩, -⟩ := h
  simp [World.frozen?, a1]
theorem impl_paintFrom.Tone.lt (h : impl_paintFrom.Tone w B g bl cp n K i d) : g < w.heap.size ∧ ∀ x, i ≤ x → x < n → bl x < w.heap.size := by
  obtain ⟨⟨cur, a1, -⟩, gr, -⟩ := h
  exact ⟨(Array.getElem?_eq_some_iff.1 a1).1, fun x h1 h2 => by obtain ⟨c, b1, -⟩ := gr x h1 h2; exact (Array.getElem?_eq_some_iff.1 b1).1⟩
theorem impl_paintFrom.Tone.keep (h : impl_paintFrom.Tone w B g bl cp n K i d) (hg : w'.heap[g]? = w.heap[g]?) (hb : ∀ x, i ≤ x → x < n → w'.heap[bl x]? = w.heap[bl x]?) : impl_paintFrom.Tone w' B g bl cp n K i d := by
  obtain ⟨⟨cur, a1, a2, a3⟩, gr, inj, gt⟩ := h
  exact ⟨⟨cur, by rw [hg]; exact a1, a2, a3⟩, fun x h1 h2 => by obtain ⟨c, b1, b2, b3⟩ := gr x h1 h2; exact ⟨c, by rw [hb x h1 h2]; exact b1, b2, b3⟩, inj, gt⟩
theorem impl_paintFrom.Tone.below (h : impl_paintFrom.Tone w B g bl cp n K i d) (hb : Below w.heap.size w w') : impl_paintFrom.Tone w' B g bl cp n K i d :=
  h.keep (hb.block g h.lt.1) (fun x h1 h2 => hb.block _ (h.lt.2 x h1 h2))
theorem impl_paintFrom.Tone.other (h : impl_paintFrom.Tone w B g bl cp n K i d) (p : Addr) (u : Value) (hg : g ≠ p.block) (hb : ∀ x, i ≤ x → x < n → bl x ≠ p.block) : impl_paintFrom.Tone (w.setCell p u) B g bl cp n K i d :=
  h.keep (Below.heap_setCell w p u g hg) (fun x h1 h2 => Below.heap_setCell w p u _ (hb x h1 h2))
theorem impl_paintFrom.Tone.ext (h : impl_paintFrom.Tone w B g bl cp n K i d) (e : ∀ x y, i ≤ x → x < n → y < K → d x y = d' x y) : impl_paintFrom.Tone w B g bl cp n K i d' := by
  obtain ⟨h0, gr, h2⟩ := h
  refine ⟨h0, fun x a b => ?_, h2⟩
  obtain ⟨c, b1, b2, b3⟩ := gr x a b
  exact ⟨c, b1, b2, fun y hy => by rw [b3 y hy, e x y a b hy]⟩
theorem impl_paintFrom.Tone.set (h : impl_paintFrom.Tone w B g bl cp n K i d) (x y : Nat) (h1 : i ≤ x) (h2 : x < n) (hy : y < K) (v : Int) : impl_paintFrom.Tone (w.setCell ⟨bl x, y, none⟩ (.int .i64 v)) B g bl cp n K i (fun a b => if a = x ∧ b = y then v else d a b) := by
  have hne := h.ne x h1 h2
  obtain ⟨c, b1, b2, b3⟩ := h.2.1 x h1 h2
  have hK := (h.2.2.2.2 x h1 h2).2
  obtain ⟨⟨cur, a1, a2, a3⟩, gr, inj, gt⟩ := h
  have hold : ∀ k, k ≠ bl x → (w.setCell ⟨bl x, y, none⟩ (.int .i64 v)).heap[k]? = w.heap[k]? := fun k hk => Below.heap_setCell w ⟨bl x, y, none⟩ _ k hk
  refine ⟨⟨cur, by rw [hold g hne]; exact a1, a2, a3⟩, fun a ha hb => ?_, inj, gt⟩
  by_cases e : a = x
  · subst e
    refine ⟨c.setIfInBounds y (.int .i64 v), by simp [World.setCell, Array.getElem?_modify, b1], by simpa using b2, fun z hz => ?_⟩
    rw [Array.getElem?_setIfInBounds]
    by_cases f : y = z
    · subst f; simp [b2]; omega
    · rw [if_neg f, b3 z hz]
      simp [Ne.symm f]
  · have hbx : bl a ≠ bl x := fun z => e (inj a x ha hb h1 h2 z)
    obtain ⟨c', c1, c2, c3⟩ := gr a ha hb
    refine ⟨c', by rw [hold _ hbx]; exact c1, c2, fun z hz => ?_⟩
    rw [c3 z hz]
    simp [e]
/-- A row more, ahead of the others. -/
theorem impl_paintFrom.Tone.put (h : impl_paintFrom.Tone w B g bl cp n K (i + 1) d) (hi : i < n) (b q : Nat) (hb : g ≠ b) (hB : B ≤ b) (hq : K ≤ q) (hnew : ∀ x, i + 1 ≤ x → x < n → bl x ≠ b) (c : Array Value) (e : Nat → Int) (h1 : w.heap[b]? = some (.cells c 3 (0, 0))) (h2 : c.size = q) (h3 : ∀ y, y < K → c[y]? = some (.int .i64 (e y))) :
    impl_paintFrom.Tone (w.setCell ⟨g, i, none⟩ (.slice (some ⟨b, 0, none⟩) K q)) B g (fun x => if x = i then b else bl x) (fun x => if x = i then q else cp x) n K i (fun x y => if x = i then e y else d x y) := by
  have hne := h.ne
  obtain ⟨⟨cur, g1, g2, g3⟩, gr, inj, gt⟩ := h
  have hold : ∀ k, k ≠ g → (w.setCell ⟨g, i, none⟩ (.slice (some ⟨b, 0, none⟩) K q)).heap[k]? = w.heap[k]? := fun k hk => Below.heap_setCell w ⟨g, i, none⟩ _ k hk
  refine ⟨⟨cur.setIfInBounds i (.slice (some ⟨b, 0, none⟩) K q), by simp [World.setCell, Array.getElem?_modify, g1], by simpa using g2, fun x hx hxn => ?_⟩, fun x hx hxn => ?_, fun x x' hx hxn hx' hxn' ee => ?_, gt.1, fun x hx hxn => ?_⟩
  · rw [Array.getElem?_setIfInBounds]
    by_cases f : i = x
    · subst f; simp [g2, hi]
    · rw [if_neg f, g3 x (by omega) hxn]; simp [Ne.symm f]
  · by_cases f : x = i
    · subst f
      refine ⟨c, ?_, by simpa using h2, fun y hy => by simpa using h3 y hy⟩
      rw [hold _ (by simp; exact fun z => hb z.symm)]
      simpa using h1
    · obtain ⟨c', a1, a2, a3⟩ := gr x (by omega) hxn
      refine ⟨c', ?_, by simpa [f] using a2, fun y hy => by simpa [f] using a3 y hy⟩
      rw [hold _ (by simp [f]; exact fun z => hne x (by omega) hxn z.symm)]
      simpa [f] using a1
  · by_cases f : x = i <;> by_cases f' : x' = i
    · omega
    · simp only [f, f', if_true, if_false] at ee
      exact absurd ee.symm (hnew x' (by omega) hxn')
    · simp only [f, f', if_true, if_false] at ee
      exact absurd ee (hnew x (by omega) hxn)
    · simp only [f, f', if_false] at ee
      exact inj x x' (by omega) hxn (by omega) hxn' ee
  · by_cases f : x = i
    · simp only [f, if_true]; exact ⟨hB, hq⟩
    · simp only [f, if_false]; exact gt.2 x (by omega) hxn
/-- A table as a row of rows of one's own. -/
theorem impl_paintFrom.Tone.own (h : impl_paintFrom.Tone w B g bl cp n K 0 d) (hn : n ≤ 20) (hK : K ≤ 5) (hcp : ∀ x, x < n → cp x ≤ 9223372036854775807) (ok : Nat → Prop) (hok1 : ok g) (hok2 : ∀ x, x < n → ok (bl x)) :
    Kd.S (Kd.slice 3 (Kd.int .i64)) 29 w B ok (.slice (some ⟨g, 0, none⟩) n n) (impl_paintFrom.tab n K d) := by
  have hne := h.ne
  obtain ⟨⟨cur, g1, g2, g3⟩, gr, inj, gt⟩ := h
  have hlen : (impl_paintFrom.tab n K d).length = n := by simp [impl_paintFrom.tab]
  refine ⟨fun k => if h : ∃ x, x < n ∧ bl x = k then Classical.choose h else 0, fun k hk => (Option.some.inj (show some g = some k from hk)) ▸ hok1, (List.range n).map fun x => Value.slice (some ⟨bl x, 0, none⟩) K (cp x), ⟨by simp [impl_paintFrom.tab, Kd.tag, Kd.slice], .inr ⟨g, n, cur, by rw [List.length_zipIdx, hlen], gt.1, g1, by rw [List.length_zipIdx, hlen]; exact Nat.le_refl _, by simp [maxLen]; omega, by simp [Kd.tag, Kd.slice, g2], ?_⟩⟩, by simp [impl_paintFrom.tab, Kd.tag, Kd.slice], fun j p hj => ?_⟩
  · rw [List.length_zipIdx, hlen]
    refine List.ext_getElem? (fun j => ?_)
    simp only [Kd.tag, Kd.slice, Nat.mul_one, List.getElem?_take, List.getElem?_map]
    by_cases hj : j < n
    · rw [if_pos hj, List.getElem?_range hj]
      have z := g3 j (Nat.zero_le _) hj
      rw [← Array.getElem?_toList] at z
      rw [z]
      rfl
    · rw [if_neg hj, List.getElem?_eq_none (by simp; omega)]
      rfl
  · rw [List.getElem?_zipIdx] at hj
    have hjw : j < n := by
      by_cases e : j < n
      · exact e
      · rw [List.getElem?_eq_none (by rw [hlen]; omega)] at hj
        simp at hj
    obtain ⟨c, h1, h2, h3⟩ := gr j (Nat.zero_le _) hjw
    have hp : p = ((List.range K).map fun y => d j y, j) := by
      simp only [impl_paintFrom.tab, List.getElem?_map, List.getElem?_range hjw, Option.map_some, Nat.zero_add, Option.some.injEq] at hj
      exact hj.symm
    subst hp
    have hfe : (if h : ∃ x, x < n ∧ bl x = bl j then Classical.choose h else 0) = j := by
      have e : ∃ x, x < n ∧ bl x = bl j := ⟨j, hjw, rfl⟩
      rw [dif_pos e]
      have z := Classical.choose_spec e
      exact inj _ _ (Nat.zero_le _) z.1 (Nat.zero_le _) hjw z.2
    have hgt := (gt.2 j (Nat.zero_le _) hjw)
    have hcj := hcp j hjw
    refine ⟨.slice (some ⟨bl j, 0, none⟩) K (cp j), ?_, ?_⟩
    · simp only [Kd.tag, Kd.slice, Nat.mul_one]
      refine List.ext_getElem? (fun i => ?_)
      simp only [List.getElem?_take, List.getElem?_drop, List.getElem?_map]
      rcases i with _ | i
      · rw [if_pos (by omega), List.getElem?_range (by omega)]
        rfl
      · simp
    · refine Kd.R_of_own (enc := Value.int .i64) ⟨by simp [encs], .inr ⟨bl j, cp j, c, by simp, hgt.1, h1, by simpa using hgt.2, by simp [maxLen]; omega, by simp [h2], ?_⟩⟩ (fun k hk => ?_)
      · refine List.ext_getElem? (fun i => ?_)
        simp only [encs, List.length_map, List.length_range, Nat.mul_one, List.getElem?_take, List.getElem?_map]
        by_cases hi : i < K
        · rw [if_pos hi, List.getElem?_range hi]
          have z := h3 i hi
          rw [← Array.getElem?_toList] at z
          rw [z]
          rfl
        · rw [if_neg hi, List.getElem?_eq_none (by simp; omega)]
          rfl
      · have e : bl j = k := by simpa [Value.ownBlock] using hk
        subst e
        refine ⟨⟨hok2 j hjw, ?_⟩, hfe⟩
        simp only [Value.ownBlock, ne_eq, Option.some.injEq]
        exact Ne.symm (hne j (Nat.zero_le _) hjw)
/-- Two tables, each apart from the other's outer row. -/
theorem impl_paintFrom.Tone.own2 {g' : Nat} {bl' cp' : Nat → Nat} {d' : Nat → Nat → Int} (h : impl_paintFrom.Tone w B g bl cp n K 0 d) (h' : impl_paintFrom.Tone w B g' bl' cp' n K 0 d') (hg : g ≠ g') (hn : n ≤ 20) (hK : K ≤ 5) (hcp : ∀ x, x < n → cp x ≤ 9223372036854775807) :
    Kd.S (Kd.slice 3 (Kd.int .i64)) 29 w B (fun k_ => some k_ ≠ (Value.slice (some ⟨g', 0, none⟩) n n).ownBlock) (.slice (some ⟨g, 0, none⟩) n n) (impl_paintFrom.tab n K d) :=
  h.own hn hK hcp _ (fun e => hg (Option.some.inj e)) (fun x hx e => by
    obtain ⟨c, a, -⟩ := h.2.1 x (Nat.zero_le _) hx
    obtain ⟨⟨cur, b, -⟩, -⟩ := h'
    have e' : bl x = g' := Option.some.inj e
    rw [e', b] at a
    simp at a)
/-- Two tables apart. -/
def impl_paintFrom.Ttwo (w : World) (B g1 g2 : Nat) (b1 c1 b2 c2 : Nat → Nat) (n K i : Nat) (d1 d2 : Nat → Nat → Int) : Prop :=
  impl_paintFrom.Tone w B g1 b1 c1 n K i d1 ∧ impl_paintFrom.Tone w B g2 b2 c2 n K i d2 ∧ g1 ≠ g2 ∧ ∀ x x', i ≤ x → x < n → i ≤ x' → x' < n → b1 x ≠ b2 x'
theorem impl_paintFrom.Tone.cross {g' : Nat} {bl' cp' : Nat → Nat} {i' : Nat} {d' : Nat → Nat → Int} (h : impl_paintFrom.Tone w B g bl cp n K i d) (h' : impl_paintFrom.Tone w B g' bl' cp' n K i' d') (x : Nat) (h1 : i' ≤ x) (h2 : x < n) : g ≠ bl' x := fun e => by
  obtain ⟨c, a, -⟩ := h'.2.1 x h1 h2
  obtain ⟨cur, b, -⟩ := h.1
  rw [← e, b] at a
  simp at a
theorem impl_paintFrom.Ttwo.below {g2 : Nat} {b2 c2 : Nat → Nat} {e : Nat → Nat → Int} (h : impl_paintFrom.Ttwo w B g g2 bl cp b2 c2 n K i d e) (hb : Below w.heap.size w w') : impl_paintFrom.Ttwo w' B g g2 bl cp b2 c2 n K i d e := ⟨h.1.below hb, h.2.1.below hb, h.2.2⟩
theorem impl_paintFrom.Ttwo.ext {g2 : Nat} {b2 c2 : Nat → Nat} {e e' : Nat → Nat → Int} (h : impl_paintFrom.Ttwo w B g g2 bl cp b2 c2 n K i d e) (h1 : ∀ x y, i ≤ x → x < n → y < K → d x y = d' x y) (h2 : ∀ x y, i ≤ x → x < n → y < K → e x y = e' x y) : impl_paintFrom.Ttwo w B g g2 bl cp b2 c2 n K i d' e' := ⟨h.1.ext h1, h.2.1.ext h2, h.2.2⟩
/-- A number of the first table. -/
theorem impl_paintFrom.Ttwo.set1 {g2 : Nat} {b2 c2 : Nat → Nat} {e : Nat → Nat → Int} (h : impl_paintFrom.Ttwo w B g g2 bl cp b2 c2 n K i d e) (x y : Nat) (h1 : i ≤ x) (h2 : x < n) (hy : y < K) (v : Int) : impl_paintFrom.Ttwo (w.setCell ⟨bl x, y, none⟩ (.int .i64 v)) B g g2 bl cp b2 c2 n K i (fun a b => if a = x ∧ b = y then v else d a b) e :=
  ⟨h.1.set x y h1 h2 hy v, h.2.1.other _ _ (h.2.1.cross h.1 x h1 h2) (fun x' a b z => h.2.2.2 x x' h1 h2 a b z.symm), h.2.2⟩
/-- A number of the second table. -/
theorem impl_paintFrom.Ttwo.set2 {g2 : Nat} {b2 c2 : Nat → Nat} {e : Nat → Nat → Int} (h : impl_paintFrom.Ttwo w B g g2 bl cp b2 c2 n K i d e) (x y : Nat) (h1 : i ≤ x) (h2 : x < n) (hy : y < K) (v : Int) : impl_paintFrom.Ttwo (w.setCell ⟨b2 x, y, none⟩ (.int .i64 v)) B g g2 bl cp b2 c2 n K i d (fun a b => if a = x ∧ b = y then v else e a b) :=
  ⟨h.1.other _ _ (h.1.cross h.2.1 x h1 h2) (fun x' a b z => h.2.2.2 x' x a b h1 h2 z), h.2.1.set x y h1 h2 hy v, h.2.2⟩
theorem impl_paintFrom.Ttwo.set {g2 : Nat} {b2 c2 : Nat → Nat} {e : Nat → Nat → Int} (h : impl_paintFrom.Ttwo w B g g2 bl cp b2 c2 n K i d e) (x y : Nat) (h1 : i ≤ x) (h2 : x < n) (hy : y < K) (u v : Int) : impl_paintFrom.Ttwo ((w.setCell ⟨bl x, y, none⟩ (.int .i64 u)).setCell ⟨b2 x, y, none⟩ (.int .i64 v)) B g g2 bl cp b2 c2 n K i (fun a b => if a = x ∧ b = y then u else d a b) (fun a b => if a = x ∧ b = y then v else e a b) := (h.set1 x y h1 h2 hy u).set2 x y h1 h2 hy v
end
def impl_paintFrom.f : Nat → List (List Int) → Int → Option (List (List Int) × List (List Int))
  | 0, _, _ => none
  | _ + 1, l, a => if (1 ≤ l.length ∧ l.length ≤ 20) ∧ (1 ≤ (l.getD 0 []).length ∧ (l.getD 0 []).length ≤ 5) ∧ impl_paintFrom.Rect l l.length (l.getD 0 []).length then some (impl_paintFrom.tab l.length (l.getD 0 []).length (impl_paintFrom.D1 l l.length (l.getD 0 []).length a), impl_paintFrom.tab l.length (l.getD 0 []).length (impl_paintFrom.D2 l l.length (l.getD 0 []).length a)) else none
theorem impl_paintFrom.mono : ∀ a0 a1 k, LeO (impl_paintFrom.f k a0 a1) (impl_paintFrom.f (k + 1) a0 a1) := fun a0 a1 k => by
  cases k with
  | zero => exact LeO.none _
  | succ k => exact LeO.refl _
theorem impl_paintFrom.swap {w : World} {p : Addr} {v : Value} {o : Obj} (hp : p.block < w.heap.size) : (w.setCell p v).alloc o = (w.alloc o).setCell p v := by
  unfold World.setCell World.alloc
  simp only [World.mk.injEq, true_and, and_true]
  apply Array.ext_getElem?
  intro i
  rw [Array.getElem?_modify, Array.getElem?_push, Array.getElem?_push, Array.getElem?_modify]
  simp only [Array.size_modify]
  have hpn : p.block ≠ w.heap.size := by omega
  by_cases c : p.block = i
  · subst c
    simp [hpn]
  · simp [c]
/-- What a store asks for. -/
theorem impl_paintFrom.stores {wD w : World} {g i t : Nat} {cur : Array Value} (hcur : wD.heap[g]? = some (.cells cur t (0, 0))) (hi : i < cur.size) (hb : Below wD.heap.size wD w) : w.cell? ⟨g, i, none⟩ = some cur[i] ∧ w.frozen? ⟨g, i, none⟩ = false := by
  have e := (hb.block g (Array.getElem?_eq_some_iff.1 hcur).1).trans hcur
  constructor
  · simp [World.cell?, e, hi]
  · simp [World.frozen?, e]
theorem impl_paintFrom.zeros (n : Nat) (v : Value) (y : Nat) (hy : y < n) : (madeCells #[v] n)[y]? = some v := by
  rw [← Array.getElem?_toList, toList_madeCells_one]
  simp [hy]
/-- What is known behind the making of a house's two rows, and the first one's being laid. -/
def impl_paintFrom.Mid (w0 W : World) (B g1 g2 : Nat) (b1 c1 b2 c2 : Nat → Nat) (n cw i : Nat) (d1 d2 : Nat → Nat → Int) (s : Nat × Nat) : Prop :=
  impl_paintFrom.Tone W B g1 (fun x => if x = i then s.1 else b1 x) (fun x => if x = i then cw else c1 x) n cw i (fun x y => if x = i then 0 else d1 x y) ∧ impl_paintFrom.Tone W B g2 b2 c2 n cw (i + 1) d2 ∧ (g1 ≠ g2 ∧ ∀ x x', i + 1 ≤ x → x < n → i + 1 ≤ x' → x' < n → b1 x ≠ b2 x') ∧ (W.heap[s.2]? = some (.cells (madeCells #[Value.int .i64 0] cw) 3 (0, 0)) ∧ B ≤ s.2 ∧ s.1 ≠ s.2 ∧ (∀ x, i + 1 ≤ x → x < n → s.1 ≠ b2 x ∧ s.2 ≠ b2 x ∧ b1 x ≠ s.2)) ∧ Below B w0 W
theorem impl_paintFrom.mid {w0 wD W : World} {B g1 g2 : Nat} {b1 c1 b2 c2 : Nat → Nat} {n cw i : Nat} {d1 d2 : Nat → Nat → Int} (h : impl_paintFrom.Ttwo wD B g1 g2 b1 c1 b2 c2 n cw (i + 1) d1 d2) (hi : i < n) (hB0 : Below B w0 wD) (hBs : B ≤ wD.heap.size) (hb : Below wD.heap.size wD W) (s1 s2 : Nat) (h1 : wD.heap.size ≤ s1) (h2 : wD.heap.size ≤ s2) (hne : s1 ≠ s2) (z1 : W.heap[s1]? = some (.cells (madeCells #[Value.int .i64 0] cw) 3 (0, 0))) (z2 : W.heap[s2]? = some (.cells (madeCells #[Value.int .i64 0] cw) 3 (0, 0))) :
    impl_paintFrom.Mid w0 (W.setCell ⟨g1, i, none⟩ (.slice (some ⟨s1, 0, none⟩) cw cw)) B g1 g2 b1 c1 b2 c2 n cw i d1 d2 (s1, s2) := by
  have hT := h.below hb
  have hl1 := h.1.lt
  have hl2 := h.2.1.lt
  have hold : ∀ k, k ≠ g1 → (W.setCell ⟨g1, i, none⟩ (.slice (some ⟨s1, 0, none⟩) cw cw)).heap[k]? = W.heap[k]? := fun k hk => Below.heap_setCell W ⟨g1, i, none⟩ _ k hk
  refine ⟨?_, ?_, ⟨h.2.2.1, h.2.2.2⟩, ⟨?_, by omega, hne, fun x hx hxn => ⟨fun e => ?_, fun e => ?_, fun e => ?_⟩⟩, ?_⟩
  · exact hT.1.put hi s1 cw (by omega) (by omega) (Nat.le_refl _) (fun x hx hxn e => by have := hl1.2 x hx hxn; omega) _ (fun _ => 0) z1 (size_madeCells _ _) (fun y hy => impl_paintFrom.zeros cw _ y hy)
  · exact hT.2.1.other _ _ (fun e => h.2.2.1 e.symm) (fun x hx hxn e => (hT.1.cross hT.2.1 x hx hxn) e.symm)
  · rw [hold _ (by show s2 ≠ g1; omega)]; exact z2
  · have := hl2.2 x hx hxn; omega
  · have := hl2.2 x hx hxn; omega
  · have := hl1.2 x hx hxn; omega
  · exact (below_then hB0 hBs hb).setCell (p := ⟨g1, i, none⟩) h.1.2.2.2.1 _
/-- The second row laid. -/
theorem impl_paintFrom.Mid.fin {w0 W : World} {B g1 g2 : Nat} {b1 c1 b2 c2 : Nat → Nat} {n cw i : Nat} {d1 d2 : Nat → Nat → Int} {s : Nat × Nat} (h : impl_paintFrom.Mid w0 W B g1 g2 b1 c1 b2 c2 n cw i d1 d2 s) (hi : i < n) :
    impl_paintFrom.Ttwo (W.setCell ⟨g2, i, none⟩ (.slice (some ⟨s.2, 0, none⟩) cw cw)) B g1 g2 (fun x => if x = i then s.1 else b1 x) (fun x => if x = i then cw else c1 x) (fun x => if x = i then s.2 else b2 x) (fun x => if x = i then cw else c2 x) n cw i (fun x y => if x = i then 0 else d1 x y) (fun x y => if x = i then 0 else d2 x y) ∧ Below B w0 (W.setCell ⟨g2, i, none⟩ (.slice (some ⟨s.2, 0, none⟩) cw cw)) := by
  obtain ⟨t1, t2, ⟨hg, hc⟩, ⟨z2, hB2, hs, hx⟩, hb⟩ := h
  have hg2 : g2 ≠ s.2 := fun e => by
    obtain ⟨⟨cur, q, -⟩, -⟩ := t2
    rw [e, z2] at q
    simp at q
  refine ⟨⟨t1.other _ _ hg (fun x hx' hxn e => t2.cross t1 x hx' hxn e.symm), t2.put hi s.2 cw hg2 hB2 (Nat.le_refl _) (fun x a b e => (hx x a b).2.1 e.symm) _ (fun _ => 0) z2 (size_madeCells _ _) (fun y hy => impl_paintFrom.zeros cw _ y hy), hg, fun x x' a b a' b' => ?_⟩, hb.setCell (p := ⟨g2, i, none⟩) t2.2.2.2.1 _⟩
  by_cases e : x = i <;> by_cases e' : x' = i
  · simp only [e, e', if_true]; exact hs
  · simp only [e, e', if_true, if_false]; exact (hx x' (by omega) b').1
  · simp only [e, e', if_true, if_false]; exact (hx x (by omega) b).2.2
  · simp only [e, e', if_false]; exact hc x x' (by omega) b (by omega) b'
theorem impl_paintFrom.step0 {l : List (List Int)} {n cw c i : Nat} {no : Int} (h : impl_paintFrom.P l n cw no (n - 1 - i) c = (0, 0)) (f : Int × Int → Int) (x y : Nat) (h0 : f (0, 0) = 0 := by rfl) : (if x = i ∧ c ≤ y then 0 else f (impl_paintFrom.P l n cw no (n - 1 - x) y)) = if x = i ∧ c + 1 ≤ y then 0 else f (impl_paintFrom.P l n cw no (n - 1 - x) y) := by
  by_cases e : x = i ∧ y = c
  · obtain ⟨rfl, rfl⟩ := e
    rw [if_pos ⟨rfl, Nat.le_refl _⟩, if_neg (fun q => by omega), h, h0]
  · by_cases q : x = i ∧ c ≤ y
    · rw [if_pos q, if_pos ⟨q.1, by have := q.2; have : y ≠ c := fun z => e ⟨q.1, z⟩; omega⟩]
    · rw [if_neg q, if_neg (fun z => q ⟨z.1, by have := z.2; omega⟩)]
theorem impl_paintFrom.step1 {l : List (List Int)} {n cw c i : Nat} {no : Int} {v : Int} (h : impl_paintFrom.P l n cw no (n - 1 - i) c = (v, 1)) (f : Int × Int → Int) (x y : Nat) : (if x = i ∧ y = c then f (v, 1) else if x = i ∧ c ≤ y then 0 else f (impl_paintFrom.P l n cw no (n - 1 - x) y)) = if x = i ∧ c + 1 ≤ y then 0 else f (impl_paintFrom.P l n cw no (n - 1 - x) y) := by
  by_cases e : x = i ∧ y = c
  · obtain ⟨rfl, rfl⟩ := e
    rw [if_pos ⟨rfl, rfl⟩, if_neg (fun q => by omega), h]
  · rw [if_neg e]
    by_cases q : x = i ∧ c ≤ y
    · rw [if_pos q, if_pos ⟨q.1, by have := q.2; have : y ≠ c := fun z => e ⟨q.1, z⟩; omega⟩]
    · rw [if_neg q, if_neg (fun z => q ⟨z.1, by have := z.2; omega⟩)]
theorem impl_paintFrom.step4 {l : List (List Int)} {n cw c i : Nat} {no : Int} {p : Int × Int} (h : p = impl_paintFrom.P l n cw no (n - 1 - i) c) (f : Int × Int → Int) (x y : Nat) : (if x = i ∧ y = c then f p else if x = i ∧ c ≤ y then 0 else f (impl_paintFrom.P l n cw no (n - 1 - x) y)) = if x = i ∧ c + 1 ≤ y then 0 else f (impl_paintFrom.P l n cw no (n - 1 - x) y) := by
  by_cases e : x = i ∧ y = c
  · obtain ⟨rfl, rfl⟩ := e
    rw [if_pos ⟨rfl, rfl⟩, if_neg (fun q => by omega), h]
  · rw [if_neg e]
    by_cases q : x = i ∧ c ≤ y
    · rw [if_pos q, if_pos ⟨q.1, by have := q.2; have : y ≠ c := fun z => e ⟨q.1, z⟩; omega⟩]
    · rw [if_neg q, if_neg (fun z => q ⟨z.1, by have := z.2; omega⟩)]
theorem impl_paintFrom.step2 (c i x y : Nat) (d : Int) : (if x = i ∧ c ≤ y then 0 else d) = if x = i ∧ y = c then 0 else if x = i ∧ c ≤ y then 0 else d := by
  by_cases e : x = i ∧ y = c
  · rw [if_pos e, if_pos ⟨e.1, by omega⟩]
  · rw [if_neg e]
theorem impl_paintFrom.step3 (c i x y : Nat) (u v d : Int) : (if x = i ∧ y = c then v else if x = i ∧ y = c then u else d) = if x = i ∧ y = c then v else d := by
  by_cases e : x = i ∧ y = c
  · rw [if_pos e, if_pos e]
  · rw [if_neg e, if_neg e, if_neg e]
theorem impl_paintFrom.step5 (c i x y : Nat) (u v z d : Int) : (if x = i ∧ y = c then v else if x = i ∧ y = c then u else if x = i ∧ y = c then z else d) = if x = i ∧ y = c then v else d := by
  by_cases e : x = i ∧ y = c
  · rw [if_pos e, if_pos e]
  · rw [if_neg e, if_neg e, if_neg e, if_neg e]
set_option maxHeartbeats 16000000 in
set_option maxRecDepth 100000 in
theorem impl_paintFrom.walk (l : List (List Int)) (n cw : Nat) (hn : 1 ≤ n ∧ n ≤ 20) (hcw : 1 ≤ cw ∧ cw ≤ 5) (no : Int) (b o : Nat) (rl ro rc : Nat → Nat) (c0 : Nat) (w : World) (hRG : impl_paintFrom.RG w b o rl ro rc l n cw) :
    Calls Try.prog 78 #[.slice (some ⟨b, o, none⟩) n c0, .int .i64 no] w fun e w' => ∃ g1 g2 b1 c1 b2 c2, e = .returned (.tuple #[.slice (some ⟨g1, 0, none⟩) n n, .slice (some ⟨g2, 0, none⟩) n n]) ∧ impl_paintFrom.Ttwo w' w.heap.size g1 g2 b1 c1 b2 c2 n cw 0 (impl_paintFrom.D1 l n cw no) (impl_paintFrom.D2 l n cw no) ∧ (∀ x, x < n → c1 x = cw ∧ c2 x = cw) ∧ Below w.heap.size w w' := by
  have HN := Aside0.mk hn
  have HCW := Aside0.mk hcw
  have HRs := Aside0.mk (show ∀ W : World, Below w.heap.size w W → impl_paintFrom.RG W b o rl ro rc l n cw from fun W hW => hRG.below hW)
  have hmk2 := run_make_row' (P := Try.prog) 35 29 (.slice none 0 0) 24 Try.underlying35 (show (Try.prog.info? 29).map (fun i => (i.zero, i.size, i.bytes)) = some (some (.slice none 0 0), 1, 24) from by kernel_rfl) rfl .i64 .i64 n (by omega) (by omega)
  have hmk1 := run_make_row' (P := Try.prog) 29 3 (.int .i64 0) 8 Try.underlying29 (show (Try.prog.info? 3).map (fun i => (i.zero, i.size, i.bytes)) = some (some (.int .i64 0), 1, 8) from by kernel_rfl) rfl .i64 .i64 cw (by omega) (by omega)
  have HMK1 := Aside0.mk hmk1
  have hb0 := (hRG 0 (by omega)).1
  rw [Nat.add_zero] at hb0
  clear hRG hmk1 hb0
  have ewn : IntKind.i64.wrap ((n : Int) - 1) = (n : Int) - 1 := by rw [i64_w]; unfold wrap64; omega
  go_enter Try.func78, Try.ntmps78
  go_wp2
  have HBd := Aside0.mk (below_drew1 (Below.refl w.heap.size w))
  refine start_ (n := 6) (S := fun w' => True) (ds := []) #[false, false, false, false, false, false] (by kernel_rfl) rfl rfl trivial (fun hHeld => ?_); refine with_tabW impl_paintFrom.tab2 impl_paintFrom.bits2 (fun HT_ HW_ => ?_)
  generalize w.drew = wd at HBd hHeld ⊢
  refine pure_ (i := 0) (N := some 17) (v := ?_) (a' := ?_) #[true, false, false, false, false, false] rfl rfl (any_of HT_.out (by kernel_rfl)) (fun _ _ _ h => h) (Or.inl ⟨by rfl, ?_⟩) ?_ ?_
  rotate_left
  · intro w'
    go_simp
    with_reducible rfl
  rotate_left
  · simp only [Act.put, List.setIfInBounds_toArray, List.set_cons_zero, List.set_cons_succ, i64_w, i32_w]
    rfl
  refine pure_ (i := 2) (N := some 19) (v := ?_) (a' := ?_) #[true, false, true, false, false, false] rfl rfl (any_of HT_.out (by kernel_rfl)) (fun _ _ _ h => h) (Or.inl ⟨by rfl, ?_⟩) ?_ ?_
  rotate_left
  · intro w'
    go_simp
    with_reducible rfl
  rotate_left
  · simp only [Act.put, List.setIfInBounds_toArray, List.set_cons_zero, List.set_cons_succ, i64_w, i32_w]
    rfl
  refine join_ (σ := Nat × Nat) 1 #[true, true, true, true, true, false] (fun s => [(18, .slice (some ⟨s.1, 0, none⟩) n n), (20, .slice (some ⟨s.2, 0, none⟩) n n), (7, .slice (some ⟨s.1, 0, none⟩) n n)]) (fun s W => impl_paintFrom.Ttwo W w.heap.size s.1 s.2 (fun _ => 0) (fun _ => 0) (fun _ => 0) (fun _ => 0) n cw n (impl_paintFrom.D1 l n cw no) (impl_paintFrom.D2 l n cw no) ∧ Below w.heap.size w W) ?_ ?_
  case refine_2 =>
    intro hcont
    refine two_ (i := 1) (j := 3) (Ni := some 18) (Nj := some 20) #[true, true, true, false, false, false] #[true, false, true, true, false, false] rfl rfl rfl rfl (two_of HT_.out (by kernel_rfl)) (by decide) (by decide) (fun K hK => ?_) (fun K hK => ?_)
    · refine value_ (w1 := (wd.alloc (.cells (madeCells #[Value.slice none 0 0] n) 29))) (v := .slice (some ⟨wd.heap.size, 0, none⟩) n n) (by rfl) rfl ?_ ?_
      · first | (go_simp; done) | (go_simp; rfl)
      refine hK.out _ _ trivial (fun hHeld => ?_)
      clear hK K
      refine norm_ (a' := ?_) ?_ ?_
      rotate_left
      · show Act.put _ (some 18) _ = _
        simp only [Act.put, List.setIfInBounds_toArray, List.set_cons_zero, List.set_cons_succ, i64_w, i32_w]
        rfl
      refine pure_ (i := 4) (N := some 7) (v := ?_) (a' := ?_) #[true, true, true, false, true, false] rfl rfl (any_of HT_.out (by kernel_rfl)) (fun _ _ _ h => h) (Or.inl ⟨by rfl, ?_⟩) ?_ ?_
      rotate_left
      · intro w'
        go_simp
        with_reducible rfl
      rotate_left
      · simp only [Act.put, List.setIfInBounds_toArray, List.set_cons_zero, List.set_cons_succ, i64_w, i32_w]
        rfl
      refine one_ (i := 3) (N := some 20) #[true, true, true, true, true, false] rfl rfl (one_of HT_.out (by kernel_rfl)) (by decide) (fun K hK => ?_)
      refine value_ (w1 := ((wd.alloc (.cells (madeCells #[Value.slice none 0 0] n) 29)).alloc (.cells (madeCells #[Value.slice none 0 0] n) 29))) (v := .slice (some ⟨wd.heap.size + 1, 0, none⟩) n n) (by rfl) rfl ?_ ?_
      · first | (go_simp; done) | (go_simp; rfl) | (simp; rfl)
      refine hK.out _ _ trivial (fun hHeld => ?_)
      clear hK K
      refine norm_ (a' := ?_) ?_ ?_
      rotate_left
      · show Act.put _ (some 20) _ = _
        simp only [Act.put, List.setIfInBounds_toArray, List.set_cons_zero, List.set_cons_succ, i64_w, i32_w]
        rfl
      have hsz := HBd.out.size
      have ha_ : ((wd.alloc (.cells (madeCells #[Value.slice none 0 0] n) 29)).alloc (.cells (madeCells #[Value.slice none 0 0] n) 29)).heap[wd.heap.size]? = some (.cells (madeCells #[Value.slice none 0 0] n) 29 (0, 0)) := blk_alloc (heap_alloc_new _ _) _
      have hb_ : ((wd.alloc (.cells (madeCells #[Value.slice none 0 0] n) 29)).alloc (.cells (madeCells #[Value.slice none 0 0] n) 29)).heap[wd.heap.size + 1]? = some (.cells (madeCells #[Value.slice none 0 0] n) 29 (0, 0)) := by have z := heap_alloc_new (wd.alloc (.cells (madeCells #[Value.slice none 0 0] n) 29)) (.cells (madeCells #[Value.slice none 0 0] n) 29); simpa using z
      exact hcont (wd.heap.size, wd.heap.size + 1) _ ⟨⟨⟨⟨_, ha_, size_madeCells _ _, fun x a b => by omega⟩, fun x a b => by omega, fun x x' a b => by omega, by show _ ≤ wd.heap.size; omega, fun x a b => by omega⟩, ⟨⟨_, hb_, size_madeCells _ _, fun x a b => by omega⟩, fun x a b => by omega, fun x x' a b => by omega, by show _ ≤ wd.heap.size + 1; omega, fun x a b => by omega⟩, by show wd.heap.size ≠ wd.heap.size + 1; omega, fun x x' a b => by omega⟩, below_then HBd.out hsz (below_alloc (below_alloc (Below.refl _ _) _) _)⟩
    · refine value_ (w1 := (wd.alloc (.cells (madeCells #[Value.slice none 0 0] n) 29))) (v := .slice (some ⟨wd.heap.size, 0, none⟩) n n) (by rfl) rfl ?_ ?_
      · first | (go_simp; done) | (go_simp; rfl)
      refine hK.out _ _ trivial (fun hHeld => ?_)
      clear hK K
      refine norm_ (a' := ?_) ?_ ?_
      rotate_left
      · show Act.put _ (some 20) _ = _
        simp only [Act.put, List.setIfInBounds_toArray, List.set_cons_zero, List.set_cons_succ, i64_w, i32_w]
        rfl
      refine one_ (i := 1) (N := some 18) #[true, true, true, true, false, false] rfl rfl (one_of HT_.out (by kernel_rfl)) (by decide) (fun K hK => ?_)
      refine value_ (w1 := ((wd.alloc (.cells (madeCells #[Value.slice none 0 0] n) 29)).alloc (.cells (madeCells #[Value.slice none 0 0] n) 29))) (v := .slice (some ⟨wd.heap.size + 1, 0, none⟩) n n) (by rfl) rfl ?_ ?_
      · first | (go_simp; done) | (go_simp; rfl) | (simp; rfl)
      refine hK.out _ _ trivial (fun hHeld => ?_)
      clear hK K
      refine norm_ (a' := ?_) ?_ ?_
      rotate_left
      · show Act.put _ (some 18) _ = _
        simp only [Act.put, List.setIfInBounds_toArray, List.set_cons_zero, List.set_cons_succ, i64_w, i32_w]
        rfl
      refine pure_ (i := 4) (N := some 7) (v := ?_) (a' := ?_) #[true, true, true, true, true, false] rfl rfl (any_of HT_.out (by kernel_rfl)) (fun _ _ _ h => h) (Or.inl ⟨by rfl, ?_⟩) ?_ ?_
      rotate_left
      · intro w'
        go_simp
        with_reducible rfl
      rotate_left
      · simp only [Act.put, List.setIfInBounds_toArray, List.set_cons_zero, List.set_cons_succ, i64_w, i32_w]
        rfl
      have hsz := HBd.out.size
      have ha_ : ((wd.alloc (.cells (madeCells #[Value.slice none 0 0] n) 29)).alloc (.cells (madeCells #[Value.slice none 0 0] n) 29)).heap[wd.heap.size]? = some (.cells (madeCells #[Value.slice none 0 0] n) 29 (0, 0)) := blk_alloc (heap_alloc_new _ _) _
      have hb_ : ((wd.alloc (.cells (madeCells #[Value.slice none 0 0] n) 29)).alloc (.cells (madeCells #[Value.slice none 0 0] n) 29)).heap[wd.heap.size + 1]? = some (.cells (madeCells #[Value.slice none 0 0] n) 29 (0, 0)) := by have z := heap_alloc_new (wd.alloc (.cells (madeCells #[Value.slice none 0 0] n) 29)) (.cells (madeCells #[Value.slice none 0 0] n) 29); simpa using z
      exact hcont (wd.heap.size + 1, wd.heap.size) _ ⟨⟨⟨⟨_, hb_, size_madeCells _ _, fun x a b => by omega⟩, fun x a b => by omega, fun x x' a b => by omega, by show _ ≤ wd.heap.size + 1; omega, fun x a b => by omega⟩, ⟨⟨_, ha_, size_madeCells _ _, fun x a b => by omega⟩, fun x a b => by omega, fun x x' a b => by omega, by show _ ≤ wd.heap.size; omega, fun x a b => by omega⟩, by show wd.heap.size + 1 ≠ wd.heap.size; omega, fun x x' a b => by omega⟩, below_then HBd.out hsz (below_alloc (below_alloc (Below.refl _ _) _) _)⟩
  rintro ⟨g1, g2⟩ wi ⟨hT0, hB0⟩
  refine norm_ (a' := ?_) ?_ ?_
  rotate_left
  · show putAll _ _ = _
    simp only [putAll, Act.put, List.setIfInBounds_toArray, List.set_cons_zero, List.set_cons_succ, i64_w, i32_w]
    rfl
  have HT0 := Aside0.mk hT0
  have HB0 := Aside0.mk hB0
  clear hT0 hB0
  refine pure_ (i := 5) (N := some 8) (v := ?_) (a' := ?_) #[true, true, true, true, true, true] rfl rfl (any_of HT_.out (by kernel_rfl)) (fun _ _ _ h => h) (Or.inl ⟨by rfl, ?_⟩) ?_ ?_
  rotate_left
  · intro w'
    go_simp
    with_reducible rfl
  rotate_left
  · simp only [Act.put, List.setIfInBounds_toArray, List.set_cons_zero, List.set_cons_succ, i64_w, i32_w]
    rfl
  refine done_ (done_of HT_.out (by kernel_rfl)) ?_
  clear hHeld HT_ HW_ HBd hmk2
  go_wp2
  clear ewn
  go_loopw [9] (fun iv wr => ∃ (m : Nat) (b1 c1 b2 c2 : Nat → Nat), iv = .int .i64 ((m : Int) - 1) ∧ m ≤ n ∧ Aside0 (impl_paintFrom.Ttwo wr w.heap.size g1 g2 b1 c1 b2 c2 n cw m (impl_paintFrom.D1 l n cw no) (impl_paintFrom.D2 l n cw no)) ∧ Aside0 (∀ x, m ≤ x → x < n → c1 x = cw ∧ c2 x = cw) ∧ Aside0 (Below w.heap.size w wr)) (fun iv _ => (intOf iv + 1).toNat)
  case atStart => exact ⟨n, _, _, _, _, by first | rfl | (congr 1; omega), Nat.le_refl _, HT0, ⟨fun x a b => by omega⟩, HB0⟩
  case round =>
    clear HT0 HB0
    obtain ⟨m, b1, c1, b2, c2, rfl, hmn, HT, HCC, HB⟩ := hrel
    by_cases hm0 : 1 ≤ m
    · obtain ⟨i, rfl⟩ : ∃ i, m = i + 1 := ⟨m - 1, by omega⟩
      have hin : i < n := by omega
      have HI := Aside0.mk hin
      have ei : ((i + 1 : Nat) : Int) - 1 = (i : Int) := by omega
      have ewi : IntKind.i64.wrap ((i : Int) - 1) = (i : Int) - 1 := by rw [i64_w]; have := HN.out; unfold wrap64; omega
      have HEW := Aside0.mk ewi
      rw [ei]
      clear hm0 hmn ei ewi
      go_wp2
      have HBd := Aside0.mk (below_drew1 HB.out)
      have HTd := Aside0.mk (HT.out.below (below_drew1 (Below.refl _ _)))
      have hc0 := (HRs.out _ HBd.out i HI.out).1
      have hmk1 := HMK1.out
      refine start_ (n := 20) (S := fun w' => w'.cell? ⟨b, o + i, none⟩ = some (.slice (some ⟨rl i, ro i, none⟩) cw (rc i)) ∧ True) (ds := []) #[false, false, false, false, false, false, false, false, false, false, false, false, false, false, false, false, false, false, false, false] (by kernel_rfl) rfl rfl ⟨hc0, trivial⟩ (fun hHeld => ?_); refine with_tabW impl_paintFrom.tab6 impl_paintFrom.bits6 (fun HT_ HW_ => ?_)
      generalize wr.drew = wd at HBd HTd hc0 hHeld ⊢
      refine pure_ (i := 0) (N := some 27) (v := ?_) (a' := ?_) #[true, false, false, false, false, false, false, false, false, false, false, false, false, false, false, false, false, false, false, false] rfl rfl (any_of HT_.out (by kernel_rfl)) (fun _ _ _ h => h) (Or.inl ⟨by rfl, ?_⟩) ?_ ?_
      rotate_left
      · intro w'
        go_simp
        with_reducible rfl
      rotate_left
      · simp only [Act.put, List.setIfInBounds_toArray, List.set_cons_zero, List.set_cons_succ, i64_w, i32_w]
        rfl
      refine pure_ (i := 1) (N := some 28) (v := ?_) (a' := ?_) #[true, true, false, false, false, false, false, false, false, false, false, false, false, false, false, false, false, false, false, false] rfl rfl (any_of HT_.out (by kernel_rfl)) (fun _ _ _ h => h) (Or.inl ⟨by rfl, ?_⟩) ?_ ?_
      rotate_left
      · intro w'
        go_simp
        with_reducible rfl
      rotate_left
      · simp only [Act.put, List.setIfInBounds_toArray, List.set_cons_zero, List.set_cons_succ, i64_w, i32_w]
        rfl
      refine pure_ (i := 2) (N := some 29) (v := ?_) (a' := ?_) #[true, true, true, false, false, false, false, false, false, false, false, false, false, false, false, false, false, false, false, false] rfl rfl (any_of HT_.out (by kernel_rfl)) (fun _ _ _ h => h) (Or.inl ⟨by rfl, ?_⟩) ?_ ?_
      rotate_left
      · intro w'
        go_simp
        with_reducible rfl
      rotate_left
      · simp only [Act.put, List.setIfInBounds_toArray, List.set_cons_zero, List.set_cons_succ, i64_w, i32_w]
        rfl
      refine pure_ (i := 3) (N := some 30) (v := ?_) (a' := ?_) #[true, true, true, true, false, false, false, false, false, false, false, false, false, false, false, false, false, false, false, false] rfl rfl (any_of HT_.out (by kernel_rfl)) (fun _ _ _ h => h) (Or.inl ⟨by rfl, ?_⟩) ?_ ?_
      rotate_left
      · intro w'
        go_simp
        with_reducible rfl
      rotate_left
      · simp only [Act.put, List.setIfInBounds_toArray, List.set_cons_zero, List.set_cons_succ, i64_w, i32_w]
        rfl
      refine pure_ (i := 4) (N := some 31) (v := ?_) (a' := ?_) #[true, true, true, true, true, false, false, false, false, false, false, false, false, false, false, false, false, false, false, false] rfl rfl (any_of HT_.out (by kernel_rfl)) (fun _ _ _ h => h) (Or.inl ⟨by rfl, ?_⟩) ?_ ?_
      rotate_left
      · intro w'
        go_simp
        with_reducible rfl
      rotate_left
      · simp only [Act.put, List.setIfInBounds_toArray, List.set_cons_zero, List.set_cons_succ, i64_w, i32_w]
        rfl
      refine pure_ (i := 5) (N := some 32) (v := ?_) (a' := ?_) #[true, true, true, true, true, true, false, false, false, false, false, false, false, false, false, false, false, false, false, false] rfl rfl (any_of HT_.out (by kernel_rfl)) (fun _ _ _ h => h) (Or.inl ⟨by rfl, ?_⟩) ?_ ?_
      rotate_left
      · intro w'
        go_simp
        with_reducible rfl
      rotate_left
      · simp only [Act.put, List.setIfInBounds_toArray, List.set_cons_zero, List.set_cons_succ, i64_w, i32_w]
        rfl
      refine pure_ (i := 6) (N := some 33) (v := ?_) (a' := ?_) #[true, true, true, true, true, true, true, false, false, false, false, false, false, false, false, false, false, false, false, false] rfl rfl (any_of HT_.out (by kernel_rfl)) (fun _ _ _ h => h) (Or.inl ⟨by rfl, ?_⟩) ?_ ?_
      rotate_left
      · intro w'
        go_simp
        with_reducible rfl
      rotate_left
      · simp only [Act.put, List.setIfInBounds_toArray, List.set_cons_zero, List.set_cons_succ, i64_w, i32_w]
        rfl
      refine take_ (i := 7) (N := some 34) (v := ?_) (a' := ?_) #[true, true, true, true, true, true, true, true, false, false, false, false, false, false, false, false, false, false, false, false] rfl rfl (take_ofW HT_.out HW_.out (by kernel_rfl)) (fun _ _ _ h => h) (Or.inl ⟨by rfl, ?_⟩) hHeld ?_ ?_
      rotate_left
      · rintro w' ⟨s0, s1⟩
        go_simp
        with_reducible rfl
      rotate_left
      · simp only [Act.put, List.setIfInBounds_toArray, List.set_cons_zero, List.set_cons_succ, i64_w, i32_w]
        rfl
      refine pure_ (i := 8) (N := some 35) (v := ?_) (a' := ?_) #[true, true, true, true, true, true, true, true, true, false, false, false, false, false, false, false, false, false, false, false] rfl rfl (any_of HT_.out (by kernel_rfl)) (fun _ _ _ h => h) (Or.inl ⟨by rfl, ?_⟩) ?_ ?_
      rotate_left
      · intro w'
        go_simp
        with_reducible rfl
      rotate_left
      · simp only [Act.put, List.setIfInBounds_toArray, List.set_cons_zero, List.set_cons_succ, i64_w, i32_w]
        rfl
      refine pure_ (i := 10) (N := some 37) (v := ?_) (a' := ?_) #[true, true, true, true, true, true, true, true, true, false, true, false, false, false, false, false, false, false, false, false] rfl rfl (any_of HT_.out (by kernel_rfl)) (fun _ _ _ h => h) (Or.inl ⟨by rfl, ?_⟩) ?_ ?_
      rotate_left
      · intro w'
        go_simp
        with_reducible rfl
      rotate_left
      · simp only [Act.put, List.setIfInBounds_toArray, List.set_cons_zero, List.set_cons_succ, i64_w, i32_w]
        rfl
      refine pure_ (i := 11) (N := some 38) (v := ?_) (a' := ?_) #[true, true, true, true, true, true, true, true, true, false, true, true, false, false, false, false, false, false, false, false] rfl rfl (any_of HT_.out (by kernel_rfl)) (fun _ _ _ h => h) (Or.inl ⟨by rfl, ?_⟩) ?_ ?_
      rotate_left
      · intro w'
        go_simp
        with_reducible rfl
      rotate_left
      · simp only [Act.put, List.setIfInBounds_toArray, List.set_cons_zero, List.set_cons_succ, i64_w, i32_w]
        rfl
      refine pure_ (i := 12) (N := some 39) (v := ?_) (a' := ?_) #[true, true, true, true, true, true, true, true, true, false, true, true, true, false, false, false, false, false, false, false] rfl rfl (any_of HT_.out (by kernel_rfl)) (fun _ _ _ h => h) (Or.inl ⟨by rfl, ?_⟩) ?_ ?_
      rotate_left
      · intro w'
        go_simp
        with_reducible rfl
      rotate_left
      · simp only [Act.put, List.setIfInBounds_toArray, List.set_cons_zero, List.set_cons_succ, i64_w, i32_w]
        rfl
      refine take_ (i := 13) (N := some 40) (v := ?_) (a' := ?_) #[true, true, true, true, true, true, true, true, true, false, true, true, true, true, false, false, false, false, false, false] rfl rfl (take_ofW HT_.out HW_.out (by kernel_rfl)) (fun _ _ _ h => h) (Or.inl ⟨by rfl, ?_⟩) hHeld ?_ ?_
      rotate_left
      · rintro w' ⟨s0, s1⟩
        go_simp
        with_reducible rfl
      rotate_left
      · simp only [Act.put, List.setIfInBounds_toArray, List.set_cons_zero, List.set_cons_succ, i64_w, i32_w]
        rfl
      refine pure_ (i := 14) (N := some 41) (v := ?_) (a' := ?_) #[true, true, true, true, true, true, true, true, true, false, true, true, true, true, true, false, false, false, false, false] rfl rfl (any_of HT_.out (by kernel_rfl)) (fun _ _ _ h => h) (Or.inl ⟨by rfl, ?_⟩) ?_ ?_
      rotate_left
      · intro w'
        go_simp
        with_reducible rfl
      rotate_left
      · simp only [Act.put, List.setIfInBounds_toArray, List.set_cons_zero, List.set_cons_succ, i64_w, i32_w]
        rfl
      refine join_ (σ := Nat × Nat) 2 #[true, true, true, true, true, true, true, true, true, true, true, true, true, true, true, true, true, true, false, false] (fun s => [(36, .slice (some ⟨s.1, 0, none⟩) cw cw), (42, .slice (some ⟨s.2, 0, none⟩) cw cw), (43, .pointer (some ⟨g1, i, none⟩))]) (fun s W => impl_paintFrom.Mid w W w.heap.size g1 g2 b1 c1 b2 c2 n cw i (impl_paintFrom.D1 l n cw no) (impl_paintFrom.D2 l n cw no) s) ?_ ?_
      case refine_2 =>
        intro hcont
        have hgs := HTd.out.1.lt.1
        have hws := HBd.out.size
        obtain ⟨⟨cur, hcur, hcs, -⟩, -⟩ := HTd.out.1
        have hfr := HTd.out.1.gfree i
        have hil_ : i < cur.size := by rw [hcs]; exact HI.out
        skip
        refine two_ (i := 9) (j := 15) (Ni := some 36) (Nj := some 42) #[true, true, true, true, true, true, true, true, true, true, true, true, true, true, true, false, false, false, false, false] #[true, true, true, true, true, true, true, true, true, false, true, true, true, true, true, true, false, false, false, false] rfl rfl rfl rfl (two_of HT_.out (by kernel_rfl)) (by decide) (by decide) (fun K hK => ?_) (fun K hK => ?_)
        · refine value_ (w1 := (wd.alloc (.cells (madeCells #[Value.int .i64 0] cw) 3))) (v := .slice (some ⟨wd.heap.size, 0, none⟩) cw cw) (by rfl) rfl ?_ ?_
          · first | (go_simp; done) | (go_simp; rfl) | (simp; rfl)
          refine hK.out _ _ ⟨(HRs.out _ (below_then HBd.out hws (below_alloc (Below.refl _ _) _)) i HI.out).1, trivial⟩ (fun hHeld => ?_)
          clear hK K
          refine norm_ (a' := ?_) ?_ ?_
          rotate_left
          · show Act.put _ (some 36) _ = _
            simp only [Act.put, List.setIfInBounds_toArray, List.set_cons_zero, List.set_cons_succ, i64_w, i32_w]
            rfl
          refine pure_ (i := 16) (N := some 43) (v := ?_) (a' := ?_) #[true, true, true, true, true, true, true, true, true, true, true, true, true, true, true, false, true, false, false, false] rfl rfl (any_of HT_.out (by kernel_rfl)) (fun _ _ _ h => h) (Or.inl ⟨by rfl, ?_⟩) ?_ ?_
          rotate_left
          · intro w'
            go_simp
            with_reducible rfl
          rotate_left
          · simp only [Act.put, List.setIfInBounds_toArray, List.set_cons_zero, List.set_cons_succ, i64_w, i32_w]
            rfl
          refine two_ (i := 15) (j := 17) (Ni := some 42) (Nj := none) #[true, true, true, true, true, true, true, true, true, true, true, true, true, true, true, true, true, false, false, false] #[true, true, true, true, true, true, true, true, true, true, true, true, true, true, true, false, true, true, false, false] rfl rfl rfl rfl (two_of HT_.out (by kernel_rfl)) (by decide) (by decide) (fun K hK => ?_) (fun K hK => ?_)
          · refine value_ (w1 := ((wd.alloc (.cells (madeCells #[Value.int .i64 0] cw) 3)).alloc (.cells (madeCells #[Value.int .i64 0] cw) 3))) (v := .slice (some ⟨wd.heap.size + 1, 0, none⟩) cw cw) (by rfl) rfl ?_ ?_
            · first | (go_simp; done) | (go_simp; rfl) | (simp; rfl)
            refine hK.out _ _ ⟨(HRs.out _ (below_then HBd.out hws (below_alloc (below_alloc (Below.refl _ _) _) _)) i HI.out).1, trivial⟩ (fun hHeld => ?_)
            clear hK K
            refine norm_ (a' := ?_) ?_ ?_
            rotate_left
            · show Act.put _ (some 42) _ = _
              simp only [Act.put, List.setIfInBounds_toArray, List.set_cons_zero, List.set_cons_succ, i64_w, i32_w]
              rfl
            refine one_ (i := 17) (N := none) #[true, true, true, true, true, true, true, true, true, true, true, true, true, true, true, true, true, true, false, false] rfl rfl (one_of HT_.out (by kernel_rfl)) (by decide) (fun K hK => ?_)
            obtain ⟨hx_, hf_⟩ := impl_paintFrom.stores (w := ((wd.alloc (.cells (madeCells #[Value.int .i64 0] cw) 3)).alloc (.cells (madeCells #[Value.int .i64 0] cw) 3))) hcur hil_ (below_alloc (below_alloc (Below.refl _ _) _) _)
            refine skip_ (w1 := (((wd.alloc (.cells (madeCells #[Value.int .i64 0] cw) 3)).alloc (.cells (madeCells #[Value.int .i64 0] cw) 3)).setCell ⟨g1, i, none⟩ (.slice (some ⟨wd.heap.size, 0, none⟩) cw cw))) (by rfl) rfl ?_ ?_
            · first | (go_simp; done) | (go_simp; rfl) | (simp; rfl)
            refine hK.out _ _ ⟨(HRs.out _ ((below_then HBd.out hws (below_alloc (below_alloc (Below.refl _ _) _) _)).setCell (p := ⟨g1, i, none⟩) HTd.out.1.2.2.2.1 _) i HI.out).1, trivial⟩ (fun hHeld => ?_)
            clear hK K
            have za_ : ((wd.alloc (.cells (madeCells #[Value.int .i64 0] cw) 3)).alloc (.cells (madeCells #[Value.int .i64 0] cw) 3)).heap[wd.heap.size]? = some (.cells (madeCells #[Value.int .i64 0] cw) 3 (0, 0)) := blk_alloc (heap_alloc_new _ _) _
            have zb_ : ((wd.alloc (.cells (madeCells #[Value.int .i64 0] cw) 3)).alloc (.cells (madeCells #[Value.int .i64 0] cw) 3)).heap[wd.heap.size + 1]? = some (.cells (madeCells #[Value.int .i64 0] cw) 3 (0, 0)) := by have z := heap_alloc_new (wd.alloc (.cells (madeCells #[Value.int .i64 0] cw) 3)) (.cells (madeCells #[Value.int .i64 0] cw) 3); simpa using z
            exact hcont (wd.heap.size, wd.heap.size + 1) _ (impl_paintFrom.mid HTd.out HI.out HBd.out hws (below_alloc (below_alloc (Below.refl _ _) _) _) _ _ (Nat.le_refl _) (by omega) (by omega) za_ zb_)
          · obtain ⟨hx_, hf_⟩ := impl_paintFrom.stores (w := (wd.alloc (.cells (madeCells #[Value.int .i64 0] cw) 3))) hcur hil_ (below_alloc (Below.refl _ _) _)
            refine skip_ (w1 := ((wd.alloc (.cells (madeCells #[Value.int .i64 0] cw) 3)).setCell ⟨g1, i, none⟩ (.slice (some ⟨wd.heap.size, 0, none⟩) cw cw))) (by rfl) rfl ?_ ?_
            · first | (go_simp; done) | (go_simp; rfl) | (simp; rfl)
            refine hK.out _ _ ⟨(HRs.out _ ((below_then HBd.out hws (below_alloc (Below.refl _ _) _)).setCell (p := ⟨g1, i, none⟩) HTd.out.1.2.2.2.1 _) i HI.out).1, trivial⟩ (fun hHeld => ?_)
            clear hK K
            refine one_ (i := 15) (N := some 42) #[true, true, true, true, true, true, true, true, true, true, true, true, true, true, true, true, true, true, false, false] rfl rfl (one_of HT_.out (by kernel_rfl)) (by decide) (fun K hK => ?_)
            refine value_ (w1 := (((wd.alloc (.cells (madeCells #[Value.int .i64 0] cw) 3)).setCell ⟨g1, i, none⟩ (.slice (some ⟨wd.heap.size, 0, none⟩) cw cw)).alloc (.cells (madeCells #[Value.int .i64 0] cw) 3))) (v := .slice (some ⟨wd.heap.size + 1, 0, none⟩) cw cw) (by rfl) rfl ?_ ?_
            · first | (go_simp; done) | (go_simp; rfl) | (simp; rfl)
            rw [impl_paintFrom.swap (p := ⟨g1, i, none⟩) (by simp; omega)]
            refine hK.out _ _ ⟨(HRs.out _ ((below_then HBd.out hws (below_alloc (below_alloc (Below.refl _ _) _) _)).setCell (p := ⟨g1, i, none⟩) HTd.out.1.2.2.2.1 _) i HI.out).1, trivial⟩ (fun hHeld => ?_)
            clear hK K
            refine norm_ (a' := ?_) ?_ ?_
            rotate_left
            · show Act.put _ (some 42) _ = _
              simp only [Act.put, List.setIfInBounds_toArray, List.set_cons_zero, List.set_cons_succ, i64_w, i32_w]
              rfl
            have za_ : ((wd.alloc (.cells (madeCells #[Value.int .i64 0] cw) 3)).alloc (.cells (madeCells #[Value.int .i64 0] cw) 3)).heap[wd.heap.size]? = some (.cells (madeCells #[Value.int .i64 0] cw) 3 (0, 0)) := blk_alloc (heap_alloc_new _ _) _
            have zb_ : ((wd.alloc (.cells (madeCells #[Value.int .i64 0] cw) 3)).alloc (.cells (madeCells #[Value.int .i64 0] cw) 3)).heap[wd.heap.size + 1]? = some (.cells (madeCells #[Value.int .i64 0] cw) 3 (0, 0)) := by have z := heap_alloc_new (wd.alloc (.cells (madeCells #[Value.int .i64 0] cw) 3)) (.cells (madeCells #[Value.int .i64 0] cw) 3); simpa using z
            exact hcont (wd.heap.size, wd.heap.size + 1) _ (impl_paintFrom.mid HTd.out HI.out HBd.out hws (below_alloc (below_alloc (Below.refl _ _) _) _) _ _ (Nat.le_refl _) (by omega) (by omega) za_ zb_)
        · refine value_ (w1 := (wd.alloc (.cells (madeCells #[Value.int .i64 0] cw) 3))) (v := .slice (some ⟨wd.heap.size, 0, none⟩) cw cw) (by rfl) rfl ?_ ?_
          · first | (go_simp; done) | (go_simp; rfl) | (simp; rfl)
          refine hK.out _ _ ⟨(HRs.out _ (below_then HBd.out hws (below_alloc (Below.refl _ _) _)) i HI.out).1, trivial⟩ (fun hHeld => ?_)
          clear hK K
          refine norm_ (a' := ?_) ?_ ?_
          rotate_left
          · show Act.put _ (some 42) _ = _
            simp only [Act.put, List.setIfInBounds_toArray, List.set_cons_zero, List.set_cons_succ, i64_w, i32_w]
            rfl
          refine one_ (i := 9) (N := some 36) #[true, true, true, true, true, true, true, true, true, true, true, true, true, true, true, true, false, false, false, false] rfl rfl (one_of HT_.out (by kernel_rfl)) (by decide) (fun K hK => ?_)
          refine value_ (w1 := ((wd.alloc (.cells (madeCells #[Value.int .i64 0] cw) 3)).alloc (.cells (madeCells #[Value.int .i64 0] cw) 3))) (v := .slice (some ⟨wd.heap.size + 1, 0, none⟩) cw cw) (by rfl) rfl ?_ ?_
          · first | (go_simp; done) | (go_simp; rfl) | (simp; rfl)
          refine hK.out _ _ ⟨(HRs.out _ (below_then HBd.out hws (below_alloc (below_alloc (Below.refl _ _) _) _)) i HI.out).1, trivial⟩ (fun hHeld => ?_)
          clear hK K
          refine norm_ (a' := ?_) ?_ ?_
          rotate_left
          · show Act.put _ (some 36) _ = _
            simp only [Act.put, List.setIfInBounds_toArray, List.set_cons_zero, List.set_cons_succ, i64_w, i32_w]
            rfl
          refine pure_ (i := 16) (N := some 43) (v := ?_) (a' := ?_) #[true, true, true, true, true, true, true, true, true, true, true, true, true, true, true, true, true, false, false, false] rfl rfl (any_of HT_.out (by kernel_rfl)) (fun _ _ _ h => h) (Or.inl ⟨by rfl, ?_⟩) ?_ ?_
          rotate_left
          · intro w'
            go_simp
            with_reducible rfl
          rotate_left
          · simp only [Act.put, List.setIfInBounds_toArray, List.set_cons_zero, List.set_cons_succ, i64_w, i32_w]
            rfl
          refine one_ (i := 17) (N := none) #[true, true, true, true, true, true, true, true, true, true, true, true, true, true, true, true, true, true, false, false] rfl rfl (one_of HT_.out (by kernel_rfl)) (by decide) (fun K hK => ?_)
          obtain ⟨hx_, hf_⟩ := impl_paintFrom.stores (w := ((wd.alloc (.cells (madeCells #[Value.int .i64 0] cw) 3)).alloc (.cells (madeCells #[Value.int .i64 0] cw) 3))) hcur hil_ (below_alloc (below_alloc (Below.refl _ _) _) _)
          refine skip_ (w1 := (((wd.alloc (.cells (madeCells #[Value.int .i64 0] cw) 3)).alloc (.cells (madeCells #[Value.int .i64 0] cw) 3)).setCell ⟨g1, i, none⟩ (.slice (some ⟨wd.heap.size + 1, 0, none⟩) cw cw))) (by rfl) rfl ?_ ?_
          · first | (go_simp; done) | (go_simp; rfl) | (simp; rfl)
          refine hK.out _ _ ⟨(HRs.out _ ((below_then HBd.out hws (below_alloc (below_alloc (Below.refl _ _) _) _)).setCell (p := ⟨g1, i, none⟩) HTd.out.1.2.2.2.1 _) i HI.out).1, trivial⟩ (fun hHeld => ?_)
          clear hK K
          have za_ : ((wd.alloc (.cells (madeCells #[Value.int .i64 0] cw) 3)).alloc (.cells (madeCells #[Value.int .i64 0] cw) 3)).heap[wd.heap.size]? = some (.cells (madeCells #[Value.int .i64 0] cw) 3 (0, 0)) := blk_alloc (heap_alloc_new _ _) _
          have zb_ : ((wd.alloc (.cells (madeCells #[Value.int .i64 0] cw) 3)).alloc (.cells (madeCells #[Value.int .i64 0] cw) 3)).heap[wd.heap.size + 1]? = some (.cells (madeCells #[Value.int .i64 0] cw) 3 (0, 0)) := by have z := heap_alloc_new (wd.alloc (.cells (madeCells #[Value.int .i64 0] cw) 3)) (.cells (madeCells #[Value.int .i64 0] cw) 3); simpa using z
          exact hcont (wd.heap.size + 1, wd.heap.size) _ (impl_paintFrom.mid HTd.out HI.out HBd.out hws (below_alloc (below_alloc (Below.refl _ _) _) _) _ _ (by omega) (Nat.le_refl _) (by omega) zb_ za_)
      rintro ⟨s1, s2⟩ wi hM
      refine norm_ (a' := ?_) ?_ ?_
      rotate_left
      · show putAll _ _ = _
        simp only [putAll, Act.put, List.setIfInBounds_toArray, List.set_cons_zero, List.set_cons_succ, i64_w, i32_w]
        rfl
      have HM := Aside0.mk hM
      clear hM
      refine pure_ (i := 18) (N := some 44) (v := ?_) (a' := ?_) #[true, true, true, true, true, true, true, true, true, true, true, true, true, true, true, true, true, true, true, false] rfl rfl (any_of HT_.out (by kernel_rfl)) (fun _ _ _ h => h) (Or.inl ⟨by rfl, ?_⟩) ?_ ?_
      rotate_left
      · intro w'
        go_simp
        with_reducible rfl
      rotate_left
      · simp only [Act.put, List.setIfInBounds_toArray, List.set_cons_zero, List.set_cons_succ, i64_w, i32_w]
        rfl
      obtain ⟨⟨cur2, hcur2, hcs2, -⟩, -⟩ := HM.out.2.1
      have hil2 : i < cur2.size := by rw [hcs2]; exact HI.out
      obtain ⟨hx_, hf_⟩ := impl_paintFrom.stores (w := wi) hcur2 hil2 (Below.refl _ _)
      refine one_ (i := 19) (N := none) #[true, true, true, true, true, true, true, true, true, true, true, true, true, true, true, true, true, true, true, true] rfl rfl (one_of HT_.out (by kernel_rfl)) (by decide) (fun K hK => ?_)
      refine skip_ (w1 := (wi.setCell ⟨g2, i, none⟩ (.slice (some ⟨s2, 0, none⟩) cw cw))) (by rfl) rfl ?_ ?_
      · first | (go_simp; done) | (go_simp; rfl) | (simp; rfl)
      obtain ⟨hTn, hBn⟩ := HM.out.fin HI.out
      refine hK.out _ _ ⟨(HRs.out _ hBn i HI.out).1, trivial⟩ (fun hHeld => ?_)
      clear hK K
      refine done_ (done_of HT_.out (by kernel_rfl)) ?_
      have HT1 := Aside0.mk (hTn.ext (d' := fun x y => if x = i then 0 else impl_paintFrom.D1 l n cw no x y) (fun _ _ _ _ _ => rfl) (e' := fun x y => if x = i then 0 else impl_paintFrom.D2 l n cw no x y) (fun _ _ _ _ _ => rfl))
      have HB1 := Aside0.mk hBn
      have HC1 := Aside0.mk (show ∀ x, i ≤ x → x < n → (if x = i then cw else c1 x) = cw ∧ (if x = i then cw else c2 x) = cw from fun x a b => by
        by_cases e : x = i
        · rw [if_pos e, if_pos e]; exact ⟨rfl, rfl⟩
        · rw [if_neg e, if_neg e]; exact HCC.out x (by omega) b)
      obtain ⟨b1', hb1⟩ : ∃ b1', b1' = fun x => if x = i then s1 else b1 x := ⟨_, rfl⟩
      obtain ⟨b2', hb2⟩ : ∃ b2', b2' = fun x => if x = i then s2 else b2 x := ⟨_, rfl⟩
      obtain ⟨c1', hc1⟩ : ∃ c1', c1' = fun x => if x = i then cw else c1 x := ⟨_, rfl⟩
      obtain ⟨c2', hc2⟩ : ∃ c2', c2' = fun x => if x = i then cw else c2 x := ⟨_, rfl⟩
      rw [show (fun x => if x = i then (s1, s2).1 else b1 x) = b1' from hb1.symm, show (fun x => if x = i then (s1, s2).2 else b2 x) = b2' from hb2.symm, ← hc1, ← hc2] at HT1
      have HC2 := Aside0.mk (show ∀ x, i ≤ x → x < n → c1' x = cw ∧ c2' x = cw by rw [hc1, hc2]; exact HC1.out)
      obtain ⟨W1, hW1⟩ : ∃ W1, W1 = wi.setCell ⟨g2, i, none⟩ (.slice (some ⟨s2, 0, none⟩) cw cw) := ⟨_, rfl⟩
      rw [← hW1] at HT1 HB1 ⊢
      clear hb1 hb2 hc1 hc2 HC1 HCC hTn hBn hx_ hf_ hcur2 hcs2 hil2 HM hHeld HT_ HW_ HT HB HTd HBd hc0 hmk1 hW1
      have hci := (HRs.out _ HB1.out i HI.out).1
      go_wp2
      go_loopw [50] (fun cv wr => ∃ c : Nat, cv = .int .i64 c ∧ c ≤ cw ∧ Aside0 (impl_paintFrom.Ttwo wr w.heap.size g1 g2 b1' c1' b2' c2' n cw i (fun x y => if x = i ∧ c ≤ y then 0 else impl_paintFrom.D1 l n cw no x y) (fun x y => if x = i ∧ c ≤ y then 0 else impl_paintFrom.D2 l n cw no x y)) ∧ Aside0 (Below w.heap.size w wr)) (fun cv _ => cw - (intOf cv).toNat)
      case atStart => exact ⟨0, rfl, Nat.zero_le _, ⟨HT1.out.ext (fun x y _ _ _ => by simp) (fun x y _ _ _ => by simp)⟩, HB1⟩
      case round =>
        clear HT1 HB1 hci
        obtain ⟨c, rfl, hcc, HT, HB⟩ := hrel
        by_cases hcl : c < cw
        · have hv := ((HRs.out _ HB.out) i HI.out).2 c hcl
          obtain ⟨v, hvv⟩ : ∃ v, v = impl_paintFrom.dv l i c := ⟨_, rfl⟩
          rw [← hvv] at hv
          have HV := Aside0.mk hvv
          have HCL := Aside0.mk hcl
          have ewn : IntKind.i64.wrap ((n : Int) - 1) = (n : Int) - 1 := by rw [i64_w]; have := HN.out; unfold wrap64; omega
          clear hvv
          by_cases hl : i + 1 = n
          · have hE : ((i : Int) == (n : Int) - 1) = true := by rw [beq_iff_eq]; omega
            have HD := Aside0.mk (show impl_paintFrom.P l n cw no (n - 1 - i) c = if (c : Int) = no then (0, 0) else (v, 1) by
              rw [show n - 1 - i = 0 by omega, HV.out, show i = n - 1 by omega]
              rfl)
            clear hl
            by_cases hno : (c : Int) = no
            · have hne : ((c : Int) != no) = false := by rw [bne_eq_false_iff_eq]; exact hno
              have HD2 := Aside0.mk (HD.out.trans (if_pos hno))
              clear hno
              go_wp2
              go_roundw
              case rel => exact ⟨c + 1, by go_num, by omega, ⟨HT.out.ext (fun x y _ _ _ => impl_paintFrom.step0 HD2.out (fun p => p.1) x y) (fun x y _ _ _ => impl_paintFrom.step0 HD2.out (fun p => p.2) x y)⟩, HB⟩
              case measure => have := HCL.out; simp [intOf]; omega
            · have hne : ((c : Int) != no) = true := by rw [bne_iff_ne]; exact hno
              have HD2 := Aside0.mk (HD.out.trans (if_neg hno))
              clear hno
              go_wp2
              have HBd := Aside0.mk (below_drew1 HB.out)
              have HTd := Aside0.mk (HT.out.below (below_drew1 (Below.refl _ _)))
              have hs1 := HTd.out.1.row i (Nat.le_refl _) HI.out
              have hs2 := HTd.out.2.1.row i (Nat.le_refl _) HI.out
              refine start_ (n := 15) (S := fun w' => w'.cell? ⟨g1, i, none⟩ = some (.slice (some ⟨b1' i, 0, none⟩) cw (c1' i)) ∧ w'.cell? ⟨g2, i, none⟩ = some (.slice (some ⟨b2' i, 0, none⟩) cw (c2' i))) (ds := []) #[false, false, false, false, false, false, false, false, false, false, false, false, false, false, false] (by kernel_rfl) rfl rfl ⟨hs1, hs2⟩ (fun hHeld => ?_); refine with_tabW impl_paintFrom.tab12 impl_paintFrom.bits12 (fun HT_ HW_ => ?_)
              generalize wr.drew = w7 at HBd HTd hs1 hs2 hHeld ⊢
              have hin : i < n := HI.out
              have hcin : c < cw := HCL.out
              refine pure_ (i := 0) (N := some 62) (v := ?_) (a' := ?_) #[true, false, false, false, false, false, false, false, false, false, false, false, false, false, false] rfl rfl (any_of HT_.out (by kernel_rfl)) (fun _ _ _ h => h) (Or.inl ⟨by rfl, ?_⟩) ?_ ?_
              rotate_left
              · intro w'
                go_simp
                with_reducible rfl
              rotate_left
              · simp only [Act.put, List.setIfInBounds_toArray, List.set_cons_zero, List.set_cons_succ, i64_w, i32_w]
                rfl
              refine pure_ (i := 1) (N := some 63) (v := ?_) (a' := ?_) #[true, true, false, false, false, false, false, false, false, false, false, false, false, false, false] rfl rfl (any_of HT_.out (by kernel_rfl)) (fun _ _ _ h => h) (Or.inl ⟨by rfl, ?_⟩) ?_ ?_
              rotate_left
              · intro w'
                go_simp
                with_reducible rfl
              rotate_left
              · simp only [Act.put, List.setIfInBounds_toArray, List.set_cons_zero, List.set_cons_succ, i64_w, i32_w]
                rfl
              refine pure_ (i := 2) (N := some 64) (v := ?_) (a' := ?_) #[true, true, true, false, false, false, false, false, false, false, false, false, false, false, false] rfl rfl (any_of HT_.out (by kernel_rfl)) (fun _ _ _ h => h) (Or.inl ⟨by rfl, ?_⟩) ?_ ?_
              rotate_left
              · intro w'
                go_simp
                with_reducible rfl
              rotate_left
              · simp only [Act.put, List.setIfInBounds_toArray, List.set_cons_zero, List.set_cons_succ, i64_w, i32_w]
                rfl
              refine take_ (i := 3) (N := some 65) (v := ?_) (a' := ?_) #[true, true, true, true, false, false, false, false, false, false, false, false, false, false, false] rfl rfl (take_ofW HT_.out HW_.out (by kernel_rfl)) (fun _ _ _ h => h) (Or.inl ⟨by rfl, ?_⟩) hHeld ?_ ?_
              rotate_left
              · rintro w' ⟨s0, s1⟩
                go_simp
                with_reducible rfl
              rotate_left
              · simp only [Act.put, List.setIfInBounds_toArray, List.set_cons_zero, List.set_cons_succ, i64_w, i32_w]
                rfl
              refine pure_ (i := 4) (N := some 66) (v := ?_) (a' := ?_) #[true, true, true, true, true, false, false, false, false, false, false, false, false, false, false] rfl rfl (any_of HT_.out (by kernel_rfl)) (fun _ _ _ h => h) (Or.inl ⟨by rfl, ?_⟩) ?_ ?_
              rotate_left
              · intro w'
                go_simp
                with_reducible rfl
              rotate_left
              · simp only [Act.put, List.setIfInBounds_toArray, List.set_cons_zero, List.set_cons_succ, i64_w, i32_w]
                rfl
              refine pure_ (i := 5) (N := some 67) (v := ?_) (a' := ?_) #[true, true, true, true, true, true, false, false, false, false, false, false, false, false, false] rfl rfl (any_of HT_.out (by kernel_rfl)) (fun _ _ _ h => h) (Or.inl ⟨by rfl, ?_⟩) ?_ ?_
              rotate_left
              · intro w'
                go_simp
                with_reducible rfl
              rotate_left
              · simp only [Act.put, List.setIfInBounds_toArray, List.set_cons_zero, List.set_cons_succ, i64_w, i32_w]
                rfl
              refine pure_ (i := 6) (N := some 68) (v := ?_) (a' := ?_) #[true, true, true, true, true, true, true, false, false, false, false, false, false, false, false] rfl rfl (any_of HT_.out (by kernel_rfl)) (fun _ _ _ h => h) (Or.inl ⟨by rfl, ?_⟩) ?_ ?_
              rotate_left
              · intro w'
                go_simp
                with_reducible rfl
              rotate_left
              · simp only [Act.put, List.setIfInBounds_toArray, List.set_cons_zero, List.set_cons_succ, i64_w, i32_w]
                rfl
              refine pure_ (i := 7) (N := some 69) (v := ?_) (a' := ?_) #[true, true, true, true, true, true, true, true, false, false, false, false, false, false, false] rfl rfl (any_of HT_.out (by kernel_rfl)) (fun _ _ _ h => h) (Or.inl ⟨by rfl, ?_⟩) ?_ ?_
              rotate_left
              · intro w'
                go_simp
                with_reducible rfl
              rotate_left
              · simp only [Act.put, List.setIfInBounds_toArray, List.set_cons_zero, List.set_cons_succ, i64_w, i32_w]
                rfl
              refine take_ (i := 8) (N := some 70) (v := ?_) (a' := ?_) #[true, true, true, true, true, true, true, true, true, false, false, false, false, false, false] rfl rfl (take_ofW HT_.out HW_.out (by kernel_rfl)) (fun _ _ _ h => h) (Or.inl ⟨by rfl, ?_⟩) hHeld ?_ ?_
              rotate_left
              · rintro w' ⟨s0, s1⟩
                go_simp
                with_reducible rfl
              rotate_left
              · simp only [Act.put, List.setIfInBounds_toArray, List.set_cons_zero, List.set_cons_succ, i64_w, i32_w]
                rfl
              refine pure_ (i := 9) (N := some 71) (v := ?_) (a' := ?_) #[true, true, true, true, true, true, true, true, true, true, false, false, false, false, false] rfl rfl (any_of HT_.out (by kernel_rfl)) (fun _ _ _ h => h) (Or.inl ⟨by rfl, ?_⟩) ?_ ?_
              rotate_left
              · intro w'
                go_simp
                with_reducible rfl
              rotate_left
              · simp only [Act.put, List.setIfInBounds_toArray, List.set_cons_zero, List.set_cons_succ, i64_w, i32_w]
                rfl
              refine pure_ (i := 10) (N := some 72) (v := ?_) (a' := ?_) #[true, true, true, true, true, true, true, true, true, true, true, false, false, false, false] rfl rfl (any_of HT_.out (by kernel_rfl)) (fun _ _ _ h => h) (Or.inl ⟨by rfl, ?_⟩) ?_ ?_
              rotate_left
              · intro w'
                go_simp
                with_reducible rfl
              rotate_left
              · simp only [Act.put, List.setIfInBounds_toArray, List.set_cons_zero, List.set_cons_succ, i64_w, i32_w]
                rfl
              refine pure_ (i := 11) (N := some 73) (v := ?_) (a' := ?_) #[true, true, true, true, true, true, true, true, true, true, true, true, false, false, false] rfl rfl (any_of HT_.out (by kernel_rfl)) (fun _ _ _ h => h) (Or.inl ⟨by rfl, ?_⟩) ?_ ?_
              rotate_left
              · intro w'
                go_simp
                with_reducible rfl
              rotate_left
              · simp only [Act.put, List.setIfInBounds_toArray, List.set_cons_zero, List.set_cons_succ, i64_w, i32_w]
                rfl
              have HB7 := Aside0.mk HBd.out
              have hs3 := HTd.out.1.cell i c (Nat.le_refl _) HI.out HCL.out
              have hs4 := HTd.out.1.free i c (Nat.le_refl _) HI.out
              have HT8 := Aside0.mk (HTd.out.set1 i c (Nat.le_refl _) HI.out HCL.out (v))
              have hs5 := HT8.out.2.1.cell i c (Nat.le_refl _) HI.out HCL.out
              have hs6 := HT8.out.2.1.free i c (Nat.le_refl _) HI.out
              have hs7 := HT8.out.1.row i (Nat.le_refl _) HI.out
              have hs8 := HT8.out.2.1.row i (Nat.le_refl _) HI.out
              have HT9 := Aside0.mk (HTd.out.set i c (Nat.le_refl _) HI.out HCL.out (v) (1))
              have hs9 := HT9.out.1.row i (Nat.le_refl _) HI.out
              have hs0 := HT9.out.2.1.row i (Nat.le_refl _) HI.out
              have HB8 := Aside0.mk (HB7.out.setCell (p := ⟨b1' i, c, none⟩) (HTd.out.1.2.2.2.2 i (Nat.le_refl _) HI.out).1 (.int .i64 (v)))
              have HB9 := Aside0.mk (HB8.out.setCell (p := ⟨b2' i, c, none⟩) (HTd.out.2.1.2.2.2.2 i (Nat.le_refl _) HI.out).1 (.int .i64 (1)))
              refine one_ (i := 12) (N := none) #[true, true, true, true, true, true, true, true, true, true, true, true, true, false, false] rfl rfl (one_of HT_.out (by kernel_rfl)) (by decide) (fun K hK => ?_)
              refine skip_ (w1 := (w7.setCell ⟨b1' i, c, none⟩ (.int .i64 (v)))) (by rfl) rfl ?_ ?_
              · first | (go_simp; done) | (go_simp; rfl) | (simp; rfl)
              refine hK.out _ _ ⟨hs7, hs8⟩ (fun hHeld => ?_)
              clear hK K
              refine pure_ (i := 13) (N := some 74) (v := ?_) (a' := ?_) #[true, true, true, true, true, true, true, true, true, true, true, true, true, true, false] rfl rfl (any_of HT_.out (by kernel_rfl)) (fun _ _ _ h => h) (Or.inl ⟨by rfl, ?_⟩) ?_ ?_
              rotate_left
              · intro w'
                go_simp
                with_reducible rfl
              rotate_left
              · simp only [Act.put, List.setIfInBounds_toArray, List.set_cons_zero, List.set_cons_succ, i64_w, i32_w]
                rfl
              refine one_ (i := 14) (N := none) #[true, true, true, true, true, true, true, true, true, true, true, true, true, true, true] rfl rfl (one_of HT_.out (by kernel_rfl)) (by decide) (fun K hK => ?_)
              refine skip_ (w1 := ((w7.setCell ⟨b1' i, c, none⟩ (.int .i64 (v))).setCell ⟨b2' i, c, none⟩ (.int .i64 (1)))) (by rfl) rfl ?_ ?_
              · first | (go_simp; done) | (go_simp; rfl) | (simp; rfl)
              refine hK.out _ _ ⟨hs9, hs0⟩ (fun hHeld => ?_)
              clear hK K
              refine done_ (done_of HT_.out (by kernel_rfl)) ?_
              clear hs1 hs2 hs3 hs4 hs5 hs6 hs7 hs8 hs9 hs0 HT8 HB8 HB7 HTd HBd HT_ HW_ hHeld
              go_wp2
              go_roundw
              case rel => exact ⟨c + 1, by go_num, by omega, ⟨HT9.out.ext (fun x y _ _ _ => impl_paintFrom.step1 HD2.out (fun p => p.1) x y) (fun x y _ _ _ => impl_paintFrom.step1 HD2.out (fun p => p.2) x y)⟩, HB9⟩
              case measure => have := HCL.out; simp [intOf]; omega
          · have hE : ((i : Int) == (n : Int) - 1) = false := by rw [beq_eq_false_iff_ne]; omega
            obtain ⟨j, hj⟩ : ∃ j, j = i + 1 := ⟨_, rfl⟩
            have HJ := Aside0.mk (show j = i + 1 ∧ j < n by omega)
            have ew1 : IntKind.i64.wrap ((i : Int) + 1) = (j : Int) := by rw [i64_w]; have := HN.out; unfold wrap64; omega
            have hjn : j < n := HJ.out.2
            have HE1 := Aside0.mk ew1
            have HD := Aside0.mk (show impl_paintFrom.iter (impl_paintFrom.stp c v (fun x => impl_paintFrom.D1 l n cw no j x) (fun x => impl_paintFrom.D2 l n cw no j x)) (cw - 0) 0 (0, 0) = impl_paintFrom.P l n cw no (n - 1 - i) c by
              rw [show n - 1 - i = (n - 1 - j) + 1 by omega, HV.out]
              show _ = impl_paintFrom.iter (impl_paintFrom.stp c (impl_paintFrom.dv l (n - 1 - (n - 1 - j + 1)) c) _ _) cw 0 (0, 0)
              rw [show n - 1 - (n - 1 - j + 1) = i by omega]
              rfl)
            have hrN := HT.out.2.1.row j (by omega) hjn
            have HT1 := Aside0.mk (HT.out.ext (d' := fun a y => if a = i ∧ y = c then 0 else if a = i ∧ c ≤ y then 0 else impl_paintFrom.D1 l n cw no a y) (fun x y _ _ _ => impl_paintFrom.step2 c i x y _) (e' := fun a y => if a = i ∧ y = c then 0 else if a = i ∧ c ≤ y then 0 else impl_paintFrom.D2 l n cw no a y) (fun x y _ _ _ => impl_paintFrom.step2 c i x y _))
            obtain ⟨PF, hPF⟩ : ∃ PF, PF = impl_paintFrom.P l n cw no (n - 1 - i) c := ⟨_, rfl⟩
            rw [← hPF] at HD
            have HPF := Aside0.mk hPF
            clear hl hj hPF HT
            go_wp2
            clear hrN hv
            go_loopw [81] (fun xv wr => ∃ (x : Nat) (pa pb : Int), xv = .int .i64 x ∧ x ≤ cw ∧ Aside0 (impl_paintFrom.Ttwo wr w.heap.size g1 g2 b1' c1' b2' c2' n cw i (fun a y => if a = i ∧ y = c then pa else if a = i ∧ c ≤ y then 0 else impl_paintFrom.D1 l n cw no a y) (fun a y => if a = i ∧ y = c then pb else if a = i ∧ c ≤ y then 0 else impl_paintFrom.D2 l n cw no a y)) ∧ Aside0 (Below w.heap.size w wr) ∧ Aside0 (impl_paintFrom.iter (impl_paintFrom.stp c v (fun x => impl_paintFrom.D1 l n cw no j x) (fun x => impl_paintFrom.D2 l n cw no j x)) (cw - x) x (pa, pb) = PF)) (fun xv _ => cw - (intOf xv).toNat)
            case atStart => exact ⟨0, 0, 0, rfl, Nat.zero_le _, HT1, HB, HD⟩
            case round =>
              clear HT1 HB HD
              obtain ⟨x, pa, pb, rfl, hxc, HT, HB, HI2⟩ := hrel
              by_cases hxl : x < cw
              · have hji : ¬ j = i := by have := HJ.out; omega
                have hcn : wr.cell? ⟨b2' j, x, none⟩ = some (.int .i64 (impl_paintFrom.D2 l n cw no j x)) := by
                  have z := HT.out.2.1.cell j x (by have := HJ.out; omega) hjn hxl
                  rw [if_neg (fun q => hji q.1), if_neg (fun q => hji q.1)] at z
                  exact z
                have hbn : wr.cell? ⟨b1' j, x, none⟩ = some (.int .i64 (impl_paintFrom.D1 l n cw no j x)) := by
                  have z := HT.out.1.cell j x (by have := HJ.out; omega) hjn hxl
                  rw [if_neg (fun q => hji q.1), if_neg (fun q => hji q.1)] at z
                  exact z
                have hr1 := HT.out.1.row j (by have := HJ.out; omega) hjn
                have hr2 := HT.out.1.row i (Nat.le_refl _) HI.out
                have hr3 := HT.out.2.1.row i (Nat.le_refl _) HI.out
                have hpa : wr.cell? ⟨b1' i, c, none⟩ = some (.int .i64 pa) := by
                  have z := HT.out.1.cell i c (Nat.le_refl _) HI.out HCL.out
                  rw [if_pos ⟨rfl, rfl⟩] at z
                  exact z
                have hpb : wr.cell? ⟨b2' i, c, none⟩ = some (.int .i64 pb) := by
                  have z := HT.out.2.1.cell i c (Nat.le_refl _) HI.out HCL.out
                  rw [if_pos ⟨rfl, rfl⟩] at z
                  exact z
                have hI := HI2.out
                rw [impl_paintFrom.iter_step _ _ x hxl] at hI
                obtain ⟨cn, hcne⟩ : ∃ cn, cn = impl_paintFrom.D2 l n cw no j x := ⟨_, rfl⟩
                obtain ⟨bn, hbne⟩ : ∃ bn, bn = impl_paintFrom.D1 l n cw no j x := ⟨_, rfl⟩
                rw [← hcne] at hcn
                rw [← hbne] at hbn
                obtain ⟨ow, how⟩ : ∃ ow, ow = wrap64 (v + bn) := ⟨_, rfl⟩
                have eow : IntKind.i64.wrap (v + bn) = ow := (i64_w _).trans how.symm
                have HS := Aside0.mk (show impl_paintFrom.stp c v (fun x => impl_paintFrom.D1 l n cw no j x) (fun x => impl_paintFrom.D2 l n cw no j x) x (pa, pb) = if x = c ∨ cn = 0 then (pa, pb) else if pb = 0 ∨ ow < pa then (ow, wrap64 (0 + cn)) else if ow = pa then (pa, wrap64 (pb + cn)) else (pa, pb) by
                  rw [how, hbne, hcne]
                  rfl)
                have HII := Aside0.mk hI
                have HXL := Aside0.mk hxl
                have hin : i < n := HI.out
                have hcin : c < cw := HCL.out
                clear hI HI2 hcne hbne how hji
                by_cases q1 : x = c
                · have k1 : ((x : Int) == (c : Int)) = true := by rw [beq_iff_eq]; omega
                  have HN2 := Aside0.mk (show impl_paintFrom.iter (impl_paintFrom.stp c v (fun x => impl_paintFrom.D1 l n cw no j x) (fun x => impl_paintFrom.D2 l n cw no j x)) (cw - (x + 1)) (x + 1) (pa, pb) = PF by have z := HII.out; rw [HS.out, if_pos (Or.inl q1)] at z; exact z)
                  clear q1
                  go_wp2
                  go_roundw
                  case rel => exact ⟨x + 1, pa, pb, by go_num, by have := HXL.out; omega, HT, HB, HN2⟩
                  case measure => have := HXL.out; simp [intOf]; omega
                · have k1 : ((x : Int) == (c : Int)) = false := by rw [beq_eq_false_iff_ne]; omega
                  by_cases q2 : cn = 0
                  · have k2 : (cn == 0) = true := by rw [beq_iff_eq]; exact q2
                    have HN2 := Aside0.mk (show impl_paintFrom.iter (impl_paintFrom.stp c v (fun x => impl_paintFrom.D1 l n cw no j x) (fun x => impl_paintFrom.D2 l n cw no j x)) (cw - (x + 1)) (x + 1) (pa, pb) = PF by have z := HII.out; rw [HS.out, if_pos (Or.inr q2)] at z; exact z)
                    clear q1 q2
                    go_wp2
                    go_roundw
                    case rel => exact ⟨x + 1, pa, pb, by go_num, by have := HXL.out; omega, HT, HB, HN2⟩
                    case measure => have := HXL.out; simp [intOf]; omega
                  · have k2 : (cn == 0) = false := by rw [beq_eq_false_iff_ne]; exact q2
                    have hS := HS.out
                    rw [if_neg (fun h => h.elim q1 q2)] at hS
                    have HS2 := Aside0.mk hS
                    clear q1 q2 hS HS
                    by_cases q3 : pb = 0
                    · have k3 : (pb == 0) = true := by rw [beq_iff_eq]; exact q3
                      have hS := HS2.out
                      rw [if_pos (Or.inl q3)] at hS
                      obtain ⟨qv, hqv⟩ : ∃ qv, qv = wrap64 (0 + cn) := ⟨_, rfl⟩
                      have eqv : IntKind.i64.wrap (0 + cn) = qv := (i64_w _).trans hqv.symm
                      have eqv2 : IntKind.i64.wrap cn = qv := by rw [← eqv, Int.zero_add]
                      rw [← hqv] at hS
                      have HN2 := Aside0.mk (show impl_paintFrom.iter (impl_paintFrom.stp c v (fun x => impl_paintFrom.D1 l n cw no j x) (fun x => impl_paintFrom.D2 l n cw no j x)) (cw - (x + 1)) (x + 1) (ow, qv) = PF by have z := HII.out; rw [hS] at z; exact z)
                      clear q3 hqv hS
                      go_wp2
                      have HBd := Aside0.mk (below_drew1 HB.out)
                      have HTd := Aside0.mk (HT.out.below (below_drew1 (Below.refl _ _)))
                      have hs1 := HTd.out.1.row i (Nat.le_refl _) HI.out
                      have hs2 := HTd.out.2.1.row i (Nat.le_refl _) HI.out
                      refine start_ (n := 15) (S := fun w' => w'.cell? ⟨g1, i, none⟩ = some (.slice (some ⟨b1' i, 0, none⟩) cw (c1' i)) ∧ w'.cell? ⟨g2, i, none⟩ = some (.slice (some ⟨b2' i, 0, none⟩) cw (c2' i))) (ds := []) #[false, false, false, false, false, false, false, false, false, false, false, false, false, false, false] (by kernel_rfl) rfl rfl ⟨hs1, hs2⟩ (fun hHeld => ?_); refine with_tabW impl_paintFrom.tab19 impl_paintFrom.bits19 (fun HT_ HW_ => ?_)
                      generalize wr.drew = w7 at HBd HTd hs1 hs2 hHeld ⊢
                      have hin : i < n := HI.out
                      have hcin : c < cw := HCL.out
                      refine pure_ (i := 0) (N := some 122) (v := ?_) (a' := ?_) #[true, false, false, false, false, false, false, false, false, false, false, false, false, false, false] rfl rfl (any_of HT_.out (by kernel_rfl)) (fun _ _ _ h => h) (Or.inl ⟨by rfl, ?_⟩) ?_ ?_
                      rotate_left
                      · intro w'
                        go_simp
                        with_reducible rfl
                      rotate_left
                      · simp only [Act.put, List.setIfInBounds_toArray, List.set_cons_zero, List.set_cons_succ, i64_w, i32_w]
                        rfl
                      refine pure_ (i := 1) (N := some 123) (v := ?_) (a' := ?_) #[true, true, false, false, false, false, false, false, false, false, false, false, false, false, false] rfl rfl (any_of HT_.out (by kernel_rfl)) (fun _ _ _ h => h) (Or.inl ⟨by rfl, ?_⟩) ?_ ?_
                      rotate_left
                      · intro w'
                        go_simp
                        with_reducible rfl
                      rotate_left
                      · simp only [Act.put, List.setIfInBounds_toArray, List.set_cons_zero, List.set_cons_succ, i64_w, i32_w]
                        rfl
                      refine pure_ (i := 2) (N := some 124) (v := ?_) (a' := ?_) #[true, true, true, false, false, false, false, false, false, false, false, false, false, false, false] rfl rfl (any_of HT_.out (by kernel_rfl)) (fun _ _ _ h => h) (Or.inl ⟨by rfl, ?_⟩) ?_ ?_
                      rotate_left
                      · intro w'
                        go_simp
                        with_reducible rfl
                      rotate_left
                      · simp only [Act.put, List.setIfInBounds_toArray, List.set_cons_zero, List.set_cons_succ, i64_w, i32_w]
                        rfl
                      refine take_ (i := 3) (N := some 125) (v := ?_) (a' := ?_) #[true, true, true, true, false, false, false, false, false, false, false, false, false, false, false] rfl rfl (take_ofW HT_.out HW_.out (by kernel_rfl)) (fun _ _ _ h => h) (Or.inl ⟨by rfl, ?_⟩) hHeld ?_ ?_
                      rotate_left
                      · rintro w' ⟨s0, s1⟩
                        go_simp
                        with_reducible rfl
                      rotate_left
                      · simp only [Act.put, List.setIfInBounds_toArray, List.set_cons_zero, List.set_cons_succ, i64_w, i32_w]
                        rfl
                      refine pure_ (i := 4) (N := some 126) (v := ?_) (a' := ?_) #[true, true, true, true, true, false, false, false, false, false, false, false, false, false, false] rfl rfl (any_of HT_.out (by kernel_rfl)) (fun _ _ _ h => h) (Or.inl ⟨by rfl, ?_⟩) ?_ ?_
                      rotate_left
                      · intro w'
                        go_simp
                        with_reducible rfl
                      rotate_left
                      · simp only [Act.put, List.setIfInBounds_toArray, List.set_cons_zero, List.set_cons_succ, i64_w, i32_w]
                        rfl
                      refine pure_ (i := 5) (N := some 127) (v := ?_) (a' := ?_) #[true, true, true, true, true, true, false, false, false, false, false, false, false, false, false] rfl rfl (any_of HT_.out (by kernel_rfl)) (fun _ _ _ h => h) (Or.inl ⟨by rfl, ?_⟩) ?_ ?_
                      rotate_left
                      · intro w'
                        go_simp
                        with_reducible rfl
                      rotate_left
                      · simp only [Act.put, List.setIfInBounds_toArray, List.set_cons_zero, List.set_cons_succ, i64_w, i32_w]
                        rfl
                      refine pure_ (i := 6) (N := some 128) (v := ?_) (a' := ?_) #[true, true, true, true, true, true, true, false, false, false, false, false, false, false, false] rfl rfl (any_of HT_.out (by kernel_rfl)) (fun _ _ _ h => h) (Or.inl ⟨by rfl, ?_⟩) ?_ ?_
                      rotate_left
                      · intro w'
                        go_simp
                        with_reducible rfl
                      rotate_left
                      · simp only [Act.put, List.setIfInBounds_toArray, List.set_cons_zero, List.set_cons_succ, i64_w, i32_w]
                        rfl
                      refine pure_ (i := 7) (N := some 129) (v := ?_) (a' := ?_) #[true, true, true, true, true, true, true, true, false, false, false, false, false, false, false] rfl rfl (any_of HT_.out (by kernel_rfl)) (fun _ _ _ h => h) (Or.inl ⟨by rfl, ?_⟩) ?_ ?_
                      rotate_left
                      · intro w'
                        go_simp
                        with_reducible rfl
                      rotate_left
                      · simp only [Act.put, List.setIfInBounds_toArray, List.set_cons_zero, List.set_cons_succ, i64_w, i32_w]
                        rfl
                      refine take_ (i := 8) (N := some 130) (v := ?_) (a' := ?_) #[true, true, true, true, true, true, true, true, true, false, false, false, false, false, false] rfl rfl (take_ofW HT_.out HW_.out (by kernel_rfl)) (fun _ _ _ h => h) (Or.inl ⟨by rfl, ?_⟩) hHeld ?_ ?_
                      rotate_left
                      · rintro w' ⟨s0, s1⟩
                        go_simp
                        with_reducible rfl
                      rotate_left
                      · simp only [Act.put, List.setIfInBounds_toArray, List.set_cons_zero, List.set_cons_succ, i64_w, i32_w]
                        rfl
                      refine pure_ (i := 9) (N := some 131) (v := ?_) (a' := ?_) #[true, true, true, true, true, true, true, true, true, true, false, false, false, false, false] rfl rfl (any_of HT_.out (by kernel_rfl)) (fun _ _ _ h => h) (Or.inl ⟨by rfl, ?_⟩) ?_ ?_
                      rotate_left
                      · intro w'
                        go_simp
                        with_reducible rfl
                      rotate_left
                      · simp only [Act.put, List.setIfInBounds_toArray, List.set_cons_zero, List.set_cons_succ, i64_w, i32_w]
                        rfl
                      refine pure_ (i := 10) (N := some 132) (v := ?_) (a' := ?_) #[true, true, true, true, true, true, true, true, true, true, true, false, false, false, false] rfl rfl (any_of HT_.out (by kernel_rfl)) (fun _ _ _ h => h) (Or.inl ⟨by rfl, ?_⟩) ?_ ?_
                      rotate_left
                      · intro w'
                        go_simp
                        with_reducible rfl
                      rotate_left
                      · simp only [Act.put, List.setIfInBounds_toArray, List.set_cons_zero, List.set_cons_succ, i64_w, i32_w]
                        rfl
                      refine pure_ (i := 11) (N := some 133) (v := ?_) (a' := ?_) #[true, true, true, true, true, true, true, true, true, true, true, true, false, false, false] rfl rfl (any_of HT_.out (by kernel_rfl)) (fun _ _ _ h => h) (Or.inl ⟨by rfl, ?_⟩) ?_ ?_
                      rotate_left
                      · intro w'
                        go_simp
                        with_reducible rfl
                      rotate_left
                      · simp only [Act.put, List.setIfInBounds_toArray, List.set_cons_zero, List.set_cons_succ, i64_w, i32_w]
                        rfl
                      have HB7 := Aside0.mk HBd.out
                      have hs3 := HTd.out.1.cell i c (Nat.le_refl _) HI.out HCL.out
                      have hs4 := HTd.out.1.free i c (Nat.le_refl _) HI.out
                      have HT8 := Aside0.mk (HTd.out.set1 i c (Nat.le_refl _) HI.out HCL.out (ow))
                      have hs5 := HT8.out.2.1.cell i c (Nat.le_refl _) HI.out HCL.out
                      have hs6 := HT8.out.2.1.free i c (Nat.le_refl _) HI.out
                      have hs7 := HT8.out.1.row i (Nat.le_refl _) HI.out
                      have hs8 := HT8.out.2.1.row i (Nat.le_refl _) HI.out
                      have HT9 := Aside0.mk (HTd.out.set i c (Nat.le_refl _) HI.out HCL.out (ow) (0))
                      have hs9 := HT9.out.1.row i (Nat.le_refl _) HI.out
                      have hs0 := HT9.out.2.1.row i (Nat.le_refl _) HI.out
                      have HB8 := Aside0.mk (HB7.out.setCell (p := ⟨b1' i, c, none⟩) (HTd.out.1.2.2.2.2 i (Nat.le_refl _) HI.out).1 (.int .i64 (ow)))
                      have HB9 := Aside0.mk (HB8.out.setCell (p := ⟨b2' i, c, none⟩) (HTd.out.2.1.2.2.2.2 i (Nat.le_refl _) HI.out).1 (.int .i64 (0)))
                      refine one_ (i := 12) (N := none) #[true, true, true, true, true, true, true, true, true, true, true, true, true, false, false] rfl rfl (one_of HT_.out (by kernel_rfl)) (by decide) (fun K hK => ?_)
                      refine skip_ (w1 := (w7.setCell ⟨b1' i, c, none⟩ (.int .i64 (ow)))) (by rfl) rfl ?_ ?_
                      · first | (go_simp; done) | (go_simp; rfl) | (simp; rfl)
                      refine hK.out _ _ ⟨hs7, hs8⟩ (fun hHeld => ?_)
                      clear hK K
                      refine pure_ (i := 13) (N := some 134) (v := ?_) (a' := ?_) #[true, true, true, true, true, true, true, true, true, true, true, true, true, true, false] rfl rfl (any_of HT_.out (by kernel_rfl)) (fun _ _ _ h => h) (Or.inl ⟨by rfl, ?_⟩) ?_ ?_
                      rotate_left
                      · intro w'
                        go_simp
                        with_reducible rfl
                      rotate_left
                      · simp only [Act.put, List.setIfInBounds_toArray, List.set_cons_zero, List.set_cons_succ, i64_w, i32_w]
                        rfl
                      refine one_ (i := 14) (N := none) #[true, true, true, true, true, true, true, true, true, true, true, true, true, true, true] rfl rfl (one_of HT_.out (by kernel_rfl)) (by decide) (fun K hK => ?_)
                      refine skip_ (w1 := ((w7.setCell ⟨b1' i, c, none⟩ (.int .i64 (ow))).setCell ⟨b2' i, c, none⟩ (.int .i64 (0)))) (by rfl) rfl ?_ ?_
                      · first | (go_simp; done) | (go_simp; rfl) | (simp; rfl)
                      refine hK.out _ _ ⟨hs9, hs0⟩ (fun hHeld => ?_)
                      clear hK K
                      refine done_ (done_of HT_.out (by kernel_rfl)) ?_
                      clear hs1 hs2 hs3 hs4 hs5 hs6 hs7 hs8 hs9 hs0 HT8 HB8 HB7 HTd HBd HT_ HW_ hHeld
                      have ht1 := HT9.out.1.row i (Nat.le_refl _) HI.out
                      have ht2 := HT9.out.2.1.row i (Nat.le_refl _) HI.out
                      have ht3 := HT9.out.1.cell i c (Nat.le_refl _) HI.out HCL.out
                      rw [if_pos ⟨rfl, rfl⟩] at ht3
                      have ht4 := HT9.out.2.1.cell i c (Nat.le_refl _) HI.out HCL.out
                      rw [if_pos ⟨rfl, rfl⟩] at ht4
                      have ht5 := HT9.out.2.1.free i c (Nat.le_refl _) HI.out
                      have k5 : (ow == ow) = true := by rw [beq_iff_eq]
                      have HT10 := Aside0.mk ((HT9.out.set2 i c (Nat.le_refl _) HI.out HCL.out qv).ext (d' := fun a y => if a = i ∧ y = c then ow else if a = i ∧ c ≤ y then 0 else impl_paintFrom.D1 l n cw no a y) (fun x y _ _ _ => impl_paintFrom.step3 c i x y _ _ _) (e' := fun a y => if a = i ∧ y = c then qv else if a = i ∧ c ≤ y then 0 else impl_paintFrom.D2 l n cw no a y) (fun x y _ _ _ => impl_paintFrom.step5 c i x y _ _ _ _))
                      have HB10 := Aside0.mk (HB9.out.setCell (p := ⟨b2' i, c, none⟩) (HT9.out.2.1.2.2.2.2 i (Nat.le_refl _) HI.out).1 (.int .i64 qv))
                      go_wp2
                      go_roundw
                      case rel => exact ⟨x + 1, ow, qv, by go_num, by have := HXL.out; omega, HT10, HB10, HN2⟩
                      case measure => have := HXL.out; simp [intOf]; omega
                    · have k3 : (pb == 0) = false := by rw [beq_eq_false_iff_ne]; exact q3
                      by_cases q4 : ow < pa
                      · have k4 : decide (ow < pa) = true := decide_eq_true q4
                        have hS := HS2.out
                        rw [if_pos (Or.inr q4)] at hS
                        obtain ⟨qv, hqv⟩ : ∃ qv, qv = wrap64 (0 + cn) := ⟨_, rfl⟩
                        have eqv : IntKind.i64.wrap (0 + cn) = qv := (i64_w _).trans hqv.symm
                        have eqv2 : IntKind.i64.wrap cn = qv := by rw [← eqv, Int.zero_add]
                        rw [← hqv] at hS
                        have HN2 := Aside0.mk (show impl_paintFrom.iter (impl_paintFrom.stp c v (fun x => impl_paintFrom.D1 l n cw no j x) (fun x => impl_paintFrom.D2 l n cw no j x)) (cw - (x + 1)) (x + 1) (ow, qv) = PF by have z := HII.out; rw [hS] at z; exact z)
                        clear q3 q4 hqv hS
                        go_wp2
                        have HBd := Aside0.mk (below_drew1 HB.out)
                        have HTd := Aside0.mk (HT.out.below (below_drew1 (Below.refl _ _)))
                        have hs1 := HTd.out.1.row i (Nat.le_refl _) HI.out
                        have hs2 := HTd.out.2.1.row i (Nat.le_refl _) HI.out
                        refine start_ (n := 15) (S := fun w' => w'.cell? ⟨g1, i, none⟩ = some (.slice (some ⟨b1' i, 0, none⟩) cw (c1' i)) ∧ w'.cell? ⟨g2, i, none⟩ = some (.slice (some ⟨b2' i, 0, none⟩) cw (c2' i))) (ds := []) #[false, false, false, false, false, false, false, false, false, false, false, false, false, false, false] (by kernel_rfl) rfl rfl ⟨hs1, hs2⟩ (fun hHeld => ?_); refine with_tabW impl_paintFrom.tab19 impl_paintFrom.bits19 (fun HT_ HW_ => ?_)
                        generalize wr.drew = w7 at HBd HTd hs1 hs2 hHeld ⊢
                        have hin : i < n := HI.out
                        have hcin : c < cw := HCL.out
                        refine pure_ (i := 0) (N := some 122) (v := ?_) (a' := ?_) #[true, false, false, false, false, false, false, false, false, false, false, false, false, false, false] rfl rfl (any_of HT_.out (by kernel_rfl)) (fun _ _ _ h => h) (Or.inl ⟨by rfl, ?_⟩) ?_ ?_
                        rotate_left
                        · intro w'
                          go_simp
                          with_reducible rfl
                        rotate_left
                        · simp only [Act.put, List.setIfInBounds_toArray, List.set_cons_zero, List.set_cons_succ, i64_w, i32_w]
                          rfl
                        refine pure_ (i := 1) (N := some 123) (v := ?_) (a' := ?_) #[true, true, false, false, false, false, false, false, false, false, false, false, false, false, false] rfl rfl (any_of HT_.out (by kernel_rfl)) (fun _ _ _ h => h) (Or.inl ⟨by rfl, ?_⟩) ?_ ?_
                        rotate_left
                        · intro w'
                          go_simp
                          with_reducible rfl
                        rotate_left
                        · simp only [Act.put, List.setIfInBounds_toArray, List.set_cons_zero, List.set_cons_succ, i64_w, i32_w]
                          rfl
                        refine pure_ (i := 2) (N := some 124) (v := ?_) (a' := ?_) #[true, true, true, false, false, false, false, false, false, false, false, false, false, false, false] rfl rfl (any_of HT_.out (by kernel_rfl)) (fun _ _ _ h => h) (Or.inl ⟨by rfl, ?_⟩) ?_ ?_
                        rotate_left
                        · intro w'
                          go_simp
                          with_reducible rfl
                        rotate_left
                        · simp only [Act.put, List.setIfInBounds_toArray, List.set_cons_zero, List.set_cons_succ, i64_w, i32_w]
                          rfl
                        refine take_ (i := 3) (N := some 125) (v := ?_) (a' := ?_) #[true, true, true, true, false, false, false, false, false, false, false, false, false, false, false] rfl rfl (take_ofW HT_.out HW_.out (by kernel_rfl)) (fun _ _ _ h => h) (Or.inl ⟨by rfl, ?_⟩) hHeld ?_ ?_
                        rotate_left
                        · rintro w' ⟨s0, s1⟩
                          go_simp
                          with_reducible rfl
                        rotate_left
                        · simp only [Act.put, List.setIfInBounds_toArray, List.set_cons_zero, List.set_cons_succ, i64_w, i32_w]
                          rfl
                        refine pure_ (i := 4) (N := some 126) (v := ?_) (a' := ?_) #[true, true, true, true, true, false, false, false, false, false, false, false, false, false, false] rfl rfl (any_of HT_.out (by kernel_rfl)) (fun _ _ _ h => h) (Or.inl ⟨by rfl, ?_⟩) ?_ ?_
                        rotate_left
                        · intro w'
                          go_simp
                          with_reducible rfl
                        rotate_left
                        · simp only [Act.put, List.setIfInBounds_toArray, List.set_cons_zero, List.set_cons_succ, i64_w, i32_w]
                          rfl
                        refine pure_ (i := 5) (N := some 127) (v := ?_) (a' := ?_) #[true, true, true, true, true, true, false, false, false, false, false, false, false, false, false] rfl rfl (any_of HT_.out (by kernel_rfl)) (fun _ _ _ h => h) (Or.inl ⟨by rfl, ?_⟩) ?_ ?_
                        rotate_left
                        · intro w'
                          go_simp
                          with_reducible rfl
                        rotate_left
                        · simp only [Act.put, List.setIfInBounds_toArray, List.set_cons_zero, List.set_cons_succ, i64_w, i32_w]
                          rfl
                        refine pure_ (i := 6) (N := some 128) (v := ?_) (a' := ?_) #[true, true, true, true, true, true, true, false, false, false, false, false, false, false, false] rfl rfl (any_of HT_.out (by kernel_rfl)) (fun _ _ _ h => h) (Or.inl ⟨by rfl, ?_⟩) ?_ ?_
                        rotate_left
                        · intro w'
                          go_simp
                          with_reducible rfl
                        rotate_left
                        · simp only [Act.put, List.setIfInBounds_toArray, List.set_cons_zero, List.set_cons_succ, i64_w, i32_w]
                          rfl
                        refine pure_ (i := 7) (N := some 129) (v := ?_) (a' := ?_) #[true, true, true, true, true, true, true, true, false, false, false, false, false, false, false] rfl rfl (any_of HT_.out (by kernel_rfl)) (fun _ _ _ h => h) (Or.inl ⟨by rfl, ?_⟩) ?_ ?_
                        rotate_left
                        · intro w'
                          go_simp
                          with_reducible rfl
                        rotate_left
                        · simp only [Act.put, List.setIfInBounds_toArray, List.set_cons_zero, List.set_cons_succ, i64_w, i32_w]
                          rfl
                        refine take_ (i := 8) (N := some 130) (v := ?_) (a' := ?_) #[true, true, true, true, true, true, true, true, true, false, false, false, false, false, false] rfl rfl (take_ofW HT_.out HW_.out (by kernel_rfl)) (fun _ _ _ h => h) (Or.inl ⟨by rfl, ?_⟩) hHeld ?_ ?_
                        rotate_left
                        · rintro w' ⟨s0, s1⟩
                          go_simp
                          with_reducible rfl
                        rotate_left
                        · simp only [Act.put, List.setIfInBounds_toArray, List.set_cons_zero, List.set_cons_succ, i64_w, i32_w]
                          rfl
                        refine pure_ (i := 9) (N := some 131) (v := ?_) (a' := ?_) #[true, true, true, true, true, true, true, true, true, true, false, false, false, false, false] rfl rfl (any_of HT_.out (by kernel_rfl)) (fun _ _ _ h => h) (Or.inl ⟨by rfl, ?_⟩) ?_ ?_
                        rotate_left
                        · intro w'
                          go_simp
                          with_reducible rfl
                        rotate_left
                        · simp only [Act.put, List.setIfInBounds_toArray, List.set_cons_zero, List.set_cons_succ, i64_w, i32_w]
                          rfl
                        refine pure_ (i := 10) (N := some 132) (v := ?_) (a' := ?_) #[true, true, true, true, true, true, true, true, true, true, true, false, false, false, false] rfl rfl (any_of HT_.out (by kernel_rfl)) (fun _ _ _ h => h) (Or.inl ⟨by rfl, ?_⟩) ?_ ?_
                        rotate_left
                        · intro w'
                          go_simp
                          with_reducible rfl
                        rotate_left
                        · simp only [Act.put, List.setIfInBounds_toArray, List.set_cons_zero, List.set_cons_succ, i64_w, i32_w]
                          rfl
                        refine pure_ (i := 11) (N := some 133) (v := ?_) (a' := ?_) #[true, true, true, true, true, true, true, true, true, true, true, true, false, false, false] rfl rfl (any_of HT_.out (by kernel_rfl)) (fun _ _ _ h => h) (Or.inl ⟨by rfl, ?_⟩) ?_ ?_
                        rotate_left
                        · intro w'
                          go_simp
                          with_reducible rfl
                        rotate_left
                        · simp only [Act.put, List.setIfInBounds_toArray, List.set_cons_zero, List.set_cons_succ, i64_w, i32_w]
                          rfl
                        have HB7 := Aside0.mk HBd.out
                        have hs3 := HTd.out.1.cell i c (Nat.le_refl _) HI.out HCL.out
                        have hs4 := HTd.out.1.free i c (Nat.le_refl _) HI.out
                        have HT8 := Aside0.mk (HTd.out.set1 i c (Nat.le_refl _) HI.out HCL.out (ow))
                        have hs5 := HT8.out.2.1.cell i c (Nat.le_refl _) HI.out HCL.out
                        have hs6 := HT8.out.2.1.free i c (Nat.le_refl _) HI.out
                        have hs7 := HT8.out.1.row i (Nat.le_refl _) HI.out
                        have hs8 := HT8.out.2.1.row i (Nat.le_refl _) HI.out
                        have HT9 := Aside0.mk (HTd.out.set i c (Nat.le_refl _) HI.out HCL.out (ow) (0))
                        have hs9 := HT9.out.1.row i (Nat.le_refl _) HI.out
                        have hs0 := HT9.out.2.1.row i (Nat.le_refl _) HI.out
                        have HB8 := Aside0.mk (HB7.out.setCell (p := ⟨b1' i, c, none⟩) (HTd.out.1.2.2.2.2 i (Nat.le_refl _) HI.out).1 (.int .i64 (ow)))
                        have HB9 := Aside0.mk (HB8.out.setCell (p := ⟨b2' i, c, none⟩) (HTd.out.2.1.2.2.2.2 i (Nat.le_refl _) HI.out).1 (.int .i64 (0)))
                        refine one_ (i := 12) (N := none) #[true, true, true, true, true, true, true, true, true, true, true, true, true, false, false] rfl rfl (one_of HT_.out (by kernel_rfl)) (by decide) (fun K hK => ?_)
                        refine skip_ (w1 := (w7.setCell ⟨b1' i, c, none⟩ (.int .i64 (ow)))) (by rfl) rfl ?_ ?_
                        · first | (go_simp; done) | (go_simp; rfl) | (simp; rfl)
                        refine hK.out _ _ ⟨hs7, hs8⟩ (fun hHeld => ?_)
                        clear hK K
                        refine pure_ (i := 13) (N := some 134) (v := ?_) (a' := ?_) #[true, true, true, true, true, true, true, true, true, true, true, true, true, true, false] rfl rfl (any_of HT_.out (by kernel_rfl)) (fun _ _ _ h => h) (Or.inl ⟨by rfl, ?_⟩) ?_ ?_
                        rotate_left
                        · intro w'
                          go_simp
                          with_reducible rfl
                        rotate_left
                        · simp only [Act.put, List.setIfInBounds_toArray, List.set_cons_zero, List.set_cons_succ, i64_w, i32_w]
                          rfl
                        refine one_ (i := 14) (N := none) #[true, true, true, true, true, true, true, true, true, true, true, true, true, true, true] rfl rfl (one_of HT_.out (by kernel_rfl)) (by decide) (fun K hK => ?_)
                        refine skip_ (w1 := ((w7.setCell ⟨b1' i, c, none⟩ (.int .i64 (ow))).setCell ⟨b2' i, c, none⟩ (.int .i64 (0)))) (by rfl) rfl ?_ ?_
                        · first | (go_simp; done) | (go_simp; rfl) | (simp; rfl)
                        refine hK.out _ _ ⟨hs9, hs0⟩ (fun hHeld => ?_)
                        clear hK K
                        refine done_ (done_of HT_.out (by kernel_rfl)) ?_
                        clear hs1 hs2 hs3 hs4 hs5 hs6 hs7 hs8 hs9 hs0 HT8 HB8 HB7 HTd HBd HT_ HW_ hHeld
                        have ht1 := HT9.out.1.row i (Nat.le_refl _) HI.out
                        have ht2 := HT9.out.2.1.row i (Nat.le_refl _) HI.out
                        have ht3 := HT9.out.1.cell i c (Nat.le_refl _) HI.out HCL.out
                        rw [if_pos ⟨rfl, rfl⟩] at ht3
                        have ht4 := HT9.out.2.1.cell i c (Nat.le_refl _) HI.out HCL.out
                        rw [if_pos ⟨rfl, rfl⟩] at ht4
                        have ht5 := HT9.out.2.1.free i c (Nat.le_refl _) HI.out
                        have k5 : (ow == ow) = true := by rw [beq_iff_eq]
                        have HT10 := Aside0.mk ((HT9.out.set2 i c (Nat.le_refl _) HI.out HCL.out qv).ext (d' := fun a y => if a = i ∧ y = c then ow else if a = i ∧ c ≤ y then 0 else impl_paintFrom.D1 l n cw no a y) (fun x y _ _ _ => impl_paintFrom.step3 c i x y _ _ _) (e' := fun a y => if a = i ∧ y = c then qv else if a = i ∧ c ≤ y then 0 else impl_paintFrom.D2 l n cw no a y) (fun x y _ _ _ => impl_paintFrom.step5 c i x y _ _ _ _))
                        have HB10 := Aside0.mk (HB9.out.setCell (p := ⟨b2' i, c, none⟩) (HT9.out.2.1.2.2.2.2 i (Nat.le_refl _) HI.out).1 (.int .i64 qv))
                        go_wp2
                        go_roundw
                        case rel => exact ⟨x + 1, ow, qv, by go_num, by have := HXL.out; omega, HT10, HB10, HN2⟩
                        case measure => have := HXL.out; simp [intOf]; omega
                      · have k4 : decide (ow < pa) = false := decide_eq_false q4
                        have hS := HS2.out
                        rw [if_neg (fun h => h.elim q3 q4)] at hS
                        by_cases q5 : ow = pa
                        · have k5 : (ow == pa) = true := by rw [beq_iff_eq]; exact q5
                          rw [if_pos q5] at hS
                          obtain ⟨qv, hqv⟩ : ∃ qv, qv = wrap64 (pb + cn) := ⟨_, rfl⟩
                          have eqv : IntKind.i64.wrap (pb + cn) = qv := (i64_w _).trans hqv.symm
                          rw [← hqv] at hS
                          have HN2 := Aside0.mk (show impl_paintFrom.iter (impl_paintFrom.stp c v (fun x => impl_paintFrom.D1 l n cw no j x) (fun x => impl_paintFrom.D2 l n cw no j x)) (cw - (x + 1)) (x + 1) (pa, qv) = PF by have z := HII.out; rw [hS] at z; exact z)
                          have hf2 := HT.out.2.1.free i c (Nat.le_refl _) HI.out
                          have HT9 := Aside0.mk ((HT.out.set2 i c (Nat.le_refl _) HI.out HCL.out qv).ext (d' := fun a y => if a = i ∧ y = c then pa else if a = i ∧ c ≤ y then 0 else impl_paintFrom.D1 l n cw no a y) (fun _ _ _ _ _ => rfl) (e' := fun a y => if a = i ∧ y = c then qv else if a = i ∧ c ≤ y then 0 else impl_paintFrom.D2 l n cw no a y) (fun x y _ _ _ => impl_paintFrom.step3 c i x y _ _ _))
                          have HB9 := Aside0.mk (HB.out.setCell (p := ⟨b2' i, c, none⟩) (HT.out.2.1.2.2.2.2 i (Nat.le_refl _) HI.out).1 (.int .i64 qv))
                          clear q3 q4 q5 hqv hS
                          go_wp2
                          go_roundw
                          case rel => exact ⟨x + 1, pa, qv, by go_num, by have := HXL.out; omega, HT9, HB9, HN2⟩
                          case measure => have := HXL.out; simp [intOf]; omega
                        · have k5 : (ow == pa) = false := by rw [beq_eq_false_iff_ne]; exact q5
                          rw [if_neg q5] at hS
                          have HN2 := Aside0.mk (show impl_paintFrom.iter (impl_paintFrom.stp c v (fun x => impl_paintFrom.D1 l n cw no j x) (fun x => impl_paintFrom.D2 l n cw no j x)) (cw - (x + 1)) (x + 1) (pa, pb) = PF by have z := HII.out; rw [hS] at z; exact z)
                          clear q3 q4 q5 hS
                          go_wp2
                          go_roundw
                          case rel => exact ⟨x + 1, pa, pb, by go_num, by have := HXL.out; omega, HT, HB, HN2⟩
                          case measure => have := HXL.out; simp [intOf]; omega
              · obtain rfl : x = cw := by omega
                have HE := Aside0.mk (show (pa, pb) = impl_paintFrom.P l n x no (n - 1 - i) c by have z := HI2.out; rw [Nat.sub_self] at z; rw [← HPF.out, ← z]; rfl)
                go_wp2
                go_roundw
                case rel => exact ⟨c + 1, by go_num, by have := HCL.out; omega, ⟨HT.out.ext (fun a y _ _ _ => impl_paintFrom.step4 HE.out (fun p => p.1) a y) (fun a y _ _ _ => impl_paintFrom.step4 HE.out (fun p => p.2) a y)⟩, HB⟩
                case measure => have := HCL.out; simp [intOf]; omega
        · obtain rfl : c = cw := by omega
          have HT9 := Aside0.mk (HT.out.ext (d' := impl_paintFrom.D1 l n c no) (fun x y _ _ hy => if_neg (fun q => by omega)) (e' := impl_paintFrom.D2 l n c no) (fun x y _ _ hy => if_neg (fun q => by omega)))
          have ewi := HEW.out
          clear hcl
          go_wp2
          go_roundw
          case rel => exact ⟨i, b1', c1', b2', c2', rfl, by have := HI.out; omega, HT9, HC2, HB⟩
          case measure => first | (simp [intOf]; done) | (simp [intOf]; omega)
    · obtain rfl : m = 0 := by omega
      clear hm0
      go_wp2
      refine bodyPost_ret (results_list (rs := [.tmp 4, .tmp 5]) rfl (by simp) (.tmp (.tmp .nil))) rfl ?_
      exact ⟨g1, g2, b1, c1, b2, c2, rfl, HT.out, fun x hx => HCC.out x (Nat.zero_le _) hx, HB.out⟩
theorem impl_paintFrom.calls (k : Nat) (A0 : Option Addr) (c0 : Nat) (l0 : List (List Int)) (a1 : Int) (r1 r2 : List (List Int)) (w : World) (hr0 : Kd.C (Kd.slice 3 (Kd.int .i64)) w A0 l0.length l0) (hc0 : l0.length ≤ c0) (h : impl_paintFrom.f k l0 a1 = some (r1, r2)) :
    Calls Try.prog 78 #[.slice A0 l0.length c0, .int .i64 a1] w fun e w' => ∃ v0_ v1_ : Value, e = .returned (.tuple #[v0_, v1_]) ∧ Kd.S (Kd.slice 3 (Kd.int .i64)) 29 w' w.heap.size (fun k_ => some k_ ≠ v1_.ownBlock) v0_ r1 ∧ Kd.S (Kd.slice 3 (Kd.int .i64)) 29 w' w.heap.size (fun k_ => some k_ ≠ v0_.ownBlock) v1_ r2 ∧ Below w.heap.size w w' := by
  cases k with
  | zero => cases h
  | succ k =>
    simp only [impl_paintFrom.f] at h
    by_cases c : (1 ≤ l0.length ∧ l0.length ≤ 20) ∧ (1 ≤ (l0.getD 0 []).length ∧ (l0.getD 0 []).length ≤ 5) ∧ impl_paintFrom.Rect l0 l0.length (l0.getD 0 []).length
    case neg => rw [if_neg c] at h; cases h
    rw [if_pos c] at h
    obtain ⟨hn, hcw, hR⟩ := c
    obtain ⟨h1, h2⟩ := Prod.mk.inj (Option.some.inj h)
    subst h1
    subst h2
    obtain ⟨b, o, rl, ro, rc, rfl, hG⟩ := impl_paintFrom.rg hr0 hR (by omega) (by omega)
    refine (impl_paintFrom.walk l0 l0.length (l0.getD 0 []).length hn hcw a1 b o rl ro rc c0 w hG).mono ?_
    rintro e w' ⟨g1, g2, b1, c1, b2, c2, rfl, hT, hcp, hB⟩
    exact ⟨_, _, rfl, hT.1.own2 hT.2.1 hT.2.2.1 hn.2 hcw.2 (fun x hx => by have := (hcp x hx).1; omega), hT.2.1.own2 hT.1 (Ne.symm hT.2.2.1) hn.2 hcw.2 (fun x hx => by have := (hcp x hx).2; omega), hB⟩

end Go.Proofs.Ytbchfajbobploaa.MC
