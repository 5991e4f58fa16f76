/- A law's argument that is a list of lists of whole numbers: what is read of it, as the printed functions ask for it. -/
import Derived.Test.YtknookofgnandaaWSized
import Derived.Test.YtknookofgnandaaWLast
import Derived.Test.YtknookofgnandaaWWords
import Derived.Deep.Matrix
namespace Go.Proofs.Ytknookofgnandaa.Mat
open Go.RowKit Go.Proofs.YtknookofgnandaaW.PrintWords Go.Proofs.YtknookofgnandaaW.PrintLast Go.Deep
theorem open_mat {H : Type} {enc : TypeId × Value → H} {P : Program} {W : World} {base : Nat} {held : Bool} {t e q : TypeId} {a : Option Addr} {len cap : Nat} {d : DataW H} {ps : List MemPlace} {ts : List TypeId} {ds : List (DataW H)} {j : Nat}
    (hsz : (DataW.weightsEach P ts ds).all (· ≤ reachBytes) = true) (hts : ts[j]? = some t) (hds : ds[j]? = some d) (ht : P.underlying t = some (.slice e)) (he : P.underlying e = some (.slice q)) (hq : P.underlying q = some (.int .i64)) (ce : P.cellsOf e = 1) (cq : P.cellsOf q = 1) {B : Nat} (hB : P.bytesOf e = B)
    (h : DataW.Trod enc P W base (fun _ => true) held t (.slice a len cap) d ps) :
    ∃ l : List (List Int), len = l.length ∧ Kd.C (Kd.slice q (Kd.int .i64)) W a l.length l ∧ l.length ≤ cap ∧ l.length * B ≤ 140737488351232 ∧ ∀ x ∈ l, x.length ≤ 9223372036854775807 ∧ ∀ y ∈ x, (Lit.int .i64 y).wf = true := by
  obtain ⟨fuel, hf⟩ := h
  rcases open_int_rows ht he hq ce cq hf with ⟨hcs, _⟩ | ⟨x, l, c, A, L, C, Z, hcs, _, hl, hm, hx, hrow⟩
  · simp [Value.cells] at hcs
    obtain ⟨rfl, rfl, rfl⟩ := hcs
    exact ⟨[], rfl, ⟨rfl, by simp, fun h => by simp at h⟩, Nat.le_refl _, by simp, by simp⟩
  · simp [Value.cells] at hcs
    obtain ⟨rfl, rfl, rfl⟩ := hcs
    obtain ⟨hx, _⟩ := Prod.mk.inj hx
    subst hx
    have z := sized_slice hsz hts hds ht
    rw [hB] at z
    simp only [List.length_map, List.length_range] at z
    have zl : len * B ≤ 140737488351232 := Nat.le_trans (Nat.mul_le_mul_right _ (by omega)) z
    have each : ∀ r, r < len → ∃ y : List Int, L r = y.length ∧ ReadsInt W .i64 (A r) y.length y ∧ y.length ≤ maxLen ∧ (∀ n ∈ y, (Lit.int .i64 n).wf = true) ∧ y.length ≤ C r := by
      intro r hr
      obtain ⟨-, r1, r2, r3, r4, r5, r6⟩ := hrow r (by omega)
      obtain ⟨y, y1, y2, y3, y4, y5⟩ := ReadsInt.ofRowC (k := .i64) (w := W) (a := A r) (len := L r) (cap := C r) (zs := Z r) (by
        cases hA : A r with
        | none =>
          have c0 := r5 hA
          exact .inl ⟨rfl, by omega, c0, List.length_eq_zero_iff.1 (by omega)⟩
        | some a' => exact .inr ⟨a', rfl, r1, r2, r3, fun i hi => (r6 a' hA).2 i (by omega), r4⟩)
      exact ⟨y, y1, y2, y3, y4, y5⟩
    obtain ⟨Y, hY⟩ := choose_lt each
    have hmx : maxLen = 9223372036854775807 := rfl
    refine ⟨(List.range len).map Y, by simp, ⟨by simp, by simp; omega, fun _ => ⟨x, rfl, fun j p hp => ?_⟩⟩, by simpa using hl, by simpa using zl, fun y hy => ?_⟩
    · have hj : j < len := by
        have := (List.getElem?_eq_some_iff.1 hp).1
        simpa using this
      obtain rfl : Y j = p := by simpa [hj] using hp
      obtain ⟨y1, y2, y3, y4, y5⟩ := hY j hj
      have hc := (hrow j (by omega)).1
      rw [y1] at hc
      refine ⟨[.slice (A j) (Y j).length (C j)], rfl, ⟨A j, C j, rfl, y5, Kd.C_of_reads (d := (0 : Int)) (h1 := fun _ => rfl) y2⟩, fun i u hu => ?_⟩
      match i with
      | 0 =>
        obtain rfl : Value.slice (A j) (Y j).length (C j) = u := by simpa using hu
        simpa [show (Kd.slice q (Kd.int .i64)).sz = 1 from rfl] using hc
      | i + 1 => simp at hu
    · obtain ⟨j, hj, rfl⟩ := List.mem_map.1 hy
      obtain ⟨y1, y2, y3, y4, y5⟩ := hY j (List.mem_range.1 hj)
      exact ⟨by omega, y4⟩
end Go.Proofs.Ytknookofgnandaa.Mat
