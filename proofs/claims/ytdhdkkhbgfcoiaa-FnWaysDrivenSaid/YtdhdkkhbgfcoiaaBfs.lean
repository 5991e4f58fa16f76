/- Breadth first search: distances of all nodes from one. -/
import Derived.Test.YtdhdkkhbgfcoiaaWWords
namespace Go.Proofs.Ytdhdkkhbgfcoiaa.Lib
set_option linter.unusedVariables false
structure Far {α : Type} (E : α → α → Prop) (a : α) (d : α → Int) : Prop where
 zero : d a = 0
 low : ∀ c, -1 ≤ d c
 next : ∀ c c', 0 ≤ d c → E c c' → 0 ≤ d c' ∧ d c' ≤ d c + 1
 back : ∀ c, 0 ≤ d c → c ≠ a → 0 < d c ∧ ∃ p, E p c ∧ d p + 1 = d c
inductive Path {α : Type} (E : α → α → Prop) : Nat → α → α → Prop where
 | nil (a : α) : Path E 0 a a
 | snoc {n : Nat} {a b c : α} : Path E n a b → E b c → Path E (n + 1) a c
theorem Path.cons {α : Type} {E : α → α → Prop} {n : Nat} {a b c : α} (h : E a b) (p : Path E n b c) : Path E (n + 1) a c := by
 induction p with
 | nil b => exact .snoc (.nil a) h
 | snoc q e ih => exact .snoc (ih h) e
theorem Path.op {α : Type} {E F : α → α → Prop} (hEF : ∀ x y, E x y → F y x) {n : Nat} {a b : α} (p : Path E n a b) : Path F n b a := by
 induction p with
 | nil b => exact .nil b
 | snoc q e ih => exact .cons (hEF _ _ e) ih
theorem Far.le {α : Type} {E : α → α → Prop} {a : α} {d : α → Int} (h : Far E a d) {n : Nat} {a' c : α} (p : Path E n a' c) : a' = a → 0 ≤ d c ∧ d c ≤ n := by
 induction p with
 | nil b => rintro rfl; have := h.zero; omega
 | snoc q e ih =>
  intro ha
  have i := ih ha
  have := h.next _ _ i.1 e
  omega
theorem Far.path {α : Type} {E : α → α → Prop} {a : α} {d : α → Int} (h : Far E a d) : ∀ (n : Nat) (c : α), d c = n → Path E n a c := by
 intro n
 induction n with
 | zero =>
  intro c hc
  by_cases e : c = a
  ·subst e; exact .nil c
  ·have := (h.back c (by omega) e).1
   omega
 | succ n ih =>
  intro c hc
  have e : c ≠ a := by rintro rfl; have := h.zero; omega
  obtain ⟨-, p, hp, hd⟩ := h.back c (by omega) e
  exact .snoc (ih p (by omega)) hp
theorem Far.uniq {α : Type} {E : α → α → Prop} {a : α} {d d' : α → Int} (h : Far E a d) (h' : Far E a d') : d = d' := by
 funext c
 have l1 := h.low c
 have l2 := h'.low c
 have k1 : 0 ≤ d c → 0 ≤ d' c ∧ d' c ≤ d c := fun z => by
  have := h'.le (h.path (d c).toNat c (by omega)) rfl
  omega
 have k2 : 0 ≤ d' c → 0 ≤ d c ∧ d c ≤ d' c := fun z => by
  have := h.le (h'.path (d' c).toNat c (by omega)) rfl
  omega
 omega
theorem Far.congr {α : Type} {E F : α → α → Prop} {a : α} {d : α → Int} (h : Far E a d) (e : ∀ x y, E x y ↔ F x y) : Far F a d :=
 ⟨h.zero, h.low, fun c c' z f => h.next c c' z ((e _ _).2 f), fun c z n => ⟨(h.back c z n).1, by obtain ⟨p, a, b⟩ := (h.back c z n).2; exact ⟨p, (e _ _).1 a, b⟩⟩⟩
theorem Far.turn {α : Type} {E F : α → α → Prop} {a b : α} {d d' : α → Int} (h : Far E a d) (h' : Far F b d') (e : ∀ x y, E x y ↔ F y x) : d b = d' a := by
 have l1 := h.low b
 have l2 := h'.low a
 have k1 : 0 ≤ d b → 0 ≤ d' a ∧ d' a ≤ d b := fun z => by
  have := h'.le ((h.path (d b).toNat b (by omega)).op (F := F) (fun x y => (e x y).1)) rfl
  omega
 have k2 : 0 ≤ d' a → 0 ≤ d b ∧ d b ≤ d' a := fun z => by
  have := h.le ((h'.path (d' a).toNat a (by omega)).op (F := E) (fun x y => (e y x).2)) rfl
  omega
 omega
structure Bfs {α : Type} (st : α → Nat → Option α) (a : α) (q : List α) (i m : Nat) (d : α → Int) : Prop where
 zero : d a = 0
 low : ∀ c, -1 ≤ d c
 mem : ∀ c, 0 ≤ d c ↔ c ∈ q
 nodup : q.Nodup
 sorted : ∀ (j k : Nat) (x y : α), j ≤ k → q[j]? = some x → q[k]? = some y → d x ≤ d y
 near : ∀ x, q[i]? = some x → ∀ c, d c ≤ d x + 1
 edge : ∀ (j : Nat) (x : α), j < i → q[j]? = some x → ∀ n c, n < 4 → st x n = some c → 0 ≤ d c ∧ d c ≤ d x + 1
 cur : ∀ x, q[i]? = some x → ∀ n c, n < m → st x n = some c → 0 ≤ d c
 back : ∀ c, 0 ≤ d c → c ≠ a → 0 < d c ∧ ∃ p n, n < 4 ∧ st p n = some c ∧ d p + 1 = d c
 deep : ∀ (j : Nat) (x : α), q[j]? = some x → d x ≤ j
theorem Bfs.start {α : Type} [DecidableEq α] {st : α → Nat → Option α} {a : α} : Bfs st a [a] 0 0 (fun c => if c = a then 0 else -1) where
 zero := by simp
 low := fun c => by split <;> omega
 mem := fun c => by by_cases e : c = a <;> simp [e]
 nodup := by simp
 sorted := fun j k x y _ hx hy => by
  have hj := (List.getElem?_eq_some_iff.1 hx).1
  have hk := (List.getElem?_eq_some_iff.1 hy).1
  simp at hj hk
  subst hj hk
  simp at hx hy
  subst hx hy
  simp
 near := fun x hx c => by simp at hx; subst hx; split <;> split <;> omega
 edge := fun j x hj => by omega
 cur := fun x hx n c hn => by omega
 back := fun c h hc => by simp [hc] at h
 deep := fun j x hx => by split <;> omega
theorem Bfs.next {α : Type} {st : α → Nat → Option α} {a : α} {q : List α} {i : Nat} {d : α → Int} (h : Bfs st a q i 4 d) (hi : i < q.length) : Bfs st a q (i + 1) 0 d where
 zero := h.zero
 low := h.low
 mem := h.mem
 nodup := h.nodup
 sorted := h.sorted
 near := fun x hx c => by
  have := h.near q[i] (by simp [hi]) c
  have := h.sorted i (i + 1) q[i] x (by omega) (by simp [hi]) hx
  omega
 edge := fun j x hj hx n c hn hs => by
  by_cases e : j = i
  ·subst e
   exact ⟨h.cur x hx n c hn hs, h.near x hx c⟩
  ·exact h.edge j x (by omega) hx n c hn hs
 cur := fun x hx n c hn => by omega
 back := h.back
 deep := h.deep
theorem Bfs.skip {α : Type} {st : α → Nat → Option α} {a : α} {q : List α} {i m : Nat} {d : α → Int} (h : Bfs st a q i m d) (x : α) (hx : q[i]? = some x) (hs : ∀ c, st x m = some c → 0 ≤ d c) : Bfs st a q i (m + 1) d where
 zero := h.zero
 low := h.low
 mem := h.mem
 nodup := h.nodup
 sorted := h.sorted
 near := h.near
 edge := h.edge
 cur := fun y hy n c hn hst => by
  rw [hx] at hy
  injection hy with hy
  subst hy
  by_cases e : n = m
  ·subst e; exact hs c hst
  ·exact h.cur x hx n c (by omega) hst
 back := h.back
 deep := h.deep
theorem Bfs.add {α : Type} [DecidableEq α] {st : α → Nat → Option α} {a : α} {q : List α} {i m : Nat} {d : α → Int} (h : Bfs st a q i m d) (hm : m < 4) (x : α) (hx : q[i]? = some x) (b : α) (hs : st x m = some b) (hb : d b < 0) : Bfs st a (q ++ [b]) i (m + 1) (fun c => if c = b then d x + 1 else d c) := by
 have hxq : x ∈ q := List.mem_of_getElem? hx
 have hx0 : 0 ≤ d x := (h.mem x).2 hxq
 have hbq : b ∉ q := fun z => by have := (h.mem b).2 z; omega
 have hil := (List.getElem?_eq_some_iff.1 hx).1
 have hne : ∀ y, y ∈ q → y ≠ b := fun y hy e => hbq (e ▸ hy)
 have old : ∀ j y, (q ++ [b])[j]? = some y → (j < q.length ∧ q[j]? = some y ∧ y ≠ b) ∨ (j = q.length ∧ y = b) := fun j y hy => by
  by_cases e : j < q.length
  ·rw [List.getElem?_append_left e] at hy
   exact .inl ⟨e, hy, hne _ (List.mem_of_getElem? hy)⟩
  ·have hj := (List.getElem?_eq_some_iff.1 hy).1
   simp at hj
   have : j = q.length := by omega
   subst this
   simp at hy
   exact .inr ⟨rfl, hy.symm⟩
 refine ⟨?_, fun c => ?_, fun c => ?_, ?_, fun j k y z hjk hy hz => ?_, fun y hy c => ?_, fun j y hj hy n c hn hst => ?_, fun y hy n c hn hst => ?_, fun c hc hca => ?_, fun j y hy => ?_⟩
 ·try dsimp only
  rw [if_neg (fun e => by have := h.zero; rw [e] at this; omega)]
  exact h.zero
 ·try dsimp only
  have := h.low c
  split <;> omega
 ·try dsimp only
  by_cases e : c = b
  ·simp [e]; omega
  ·simp [e, h.mem c]
 ·rw [List.nodup_append]
  refine ⟨h.nodup, by simp, fun y hy z hz => ?_⟩
  simp at hz
  subst hz
  exact hne y hy
 ·try dsimp only
  rcases old j y hy with ⟨a1, a2, a3⟩ | ⟨a1, a2⟩ <;> rcases old k z hz with ⟨b1, b2, b3⟩ | ⟨b1, b2⟩
  ·rw [if_neg a3, if_neg b3]; exact h.sorted j k y z hjk a2 b2
  ·rw [if_neg a3, if_pos b2]; exact h.near x hx y
  ·omega
  ·rw [if_pos a2, if_pos b2]; omega
 ·rw [List.getElem?_append_left hil, hx] at hy
  injection hy with hy
  subst hy
  try dsimp only
  rw [if_neg (hne x hxq)]
  split
  ·omega
  ·exact h.near x hx c
 ·rw [List.getElem?_append_left (by omega)] at hy
  have k := h.edge j y hj hy n c hn hst
  try dsimp only
  rw [if_neg (hne y (List.mem_of_getElem? hy)), if_neg (fun e => by rw [e] at k; omega)]
  exact k
 ·rw [List.getElem?_append_left hil, hx] at hy
  injection hy with hy
  subst hy
  try dsimp only
  by_cases e : n = m
  ·subst e
   rw [hs] at hst
   injection hst with hst
   rw [if_pos hst.symm]
   omega
  ·have k := h.cur x hx n c (by omega) hst
   split <;> omega
 ·try dsimp only at hc ⊢
  by_cases e : c = b
  ·subst e
   rw [if_pos rfl]
   exact ⟨by omega, x, m, hm, hs, by rw [if_neg (hne x hxq)]⟩
  ·rw [if_neg e] at hc ⊢
   obtain ⟨k, p, n, hn, hp, hd⟩ := h.back c hc hca
   exact ⟨k, p, n, hn, hp, by rw [if_neg (fun e => by rw [e] at hd; omega)]; exact hd⟩
 ·try dsimp only
  rcases old j y hy with ⟨a1, a2, a3⟩ | ⟨a1, a2⟩
  ·rw [if_neg a3]; exact h.deep j y a2
  ·rw [if_pos a2]
   have := h.deep i x hx
   omega
def Leads {α : Type} (st : α → Nat → Option α) (x y : α) : Prop := ∃ n, n < 4 ∧ st x n = some y
theorem Bfs.done {α : Type} {st : α → Nat → Option α} {a : α} {q : List α} {i m : Nat} {d : α → Int} (h : Bfs st a q i m d) (hi : i = q.length) : Far (Leads st) a d where
 zero := h.zero
 low := h.low
 next := fun c c' hc he => by
  obtain ⟨n, hn, hs⟩ := he
  obtain ⟨j, hj, e⟩ := List.getElem_of_mem ((h.mem c).1 hc)
  exact h.edge j c (by omega) (by simp [hj, e]) n c' hn hs
 back := fun c hc hca => by
  obtain ⟨k, p, n, hn, hp, hd⟩ := h.back c hc hca
  exact ⟨k, p, ⟨n, hn, hp⟩, hd⟩
def lev {α : Type} [DecidableEq α] (st : α → Nat → Option α) (ns : List α) (a : α) : Nat → α → Bool
 | 0, c => decide (c = a)
 | n + 1, c => lev st ns a n c || ns.any fun p => lev st ns a n p && (List.range 4).any fun m => decide (st p m = some c)
def theFar {α : Type} [DecidableEq α] (st : α → Nat → Option α) (ns : List α) (N : Nat) (a c : α) : Int :=
 match (List.range (N + 1)).find? (fun n => lev st ns a n c) with
 | some n => n
 | none => -1
theorem Far.lev {α : Type} [DecidableEq α] {st : α → Nat → Option α} {a : α} {d : α → Int} (h : Far (Leads st) a d) (ns : List α) (hns : ∀ p, 0 ≤ d p → p ∈ ns) : ∀ (n : Nat) (c : α), lev st ns a n c = true ↔ 0 ≤ d c ∧ d c ≤ n := by
 intro n
 induction n with
 | zero =>
  intro c
  simp only [Lib.lev, decide_eq_true_eq]
  constructor
  ·rintro rfl; have := h.zero; omega
  ·intro hc
   by_cases e : c = a
   ·exact e
   ·have := (h.back c hc.1 e).1; omega
 | succ n ih =>
  intro c
  simp only [Lib.lev, Bool.or_eq_true, List.any_eq_true, Bool.and_eq_true, decide_eq_true_eq, List.mem_range]
  constructor
  ·rintro (h1 | ⟨p, hp, h1, m, hm, hs⟩)
   ·have := (ih c).1 h1; omega
   ·have i := (ih p).1 h1
    have := h.next p c i.1 ⟨m, hm, hs⟩
    omega
  ·intro hc
   by_cases e : c = a
   ·subst e
    exact .inl ((ih c).2 (by have := h.zero; omega))
   ·obtain ⟨k, p, ⟨m, hm, hs⟩, hd⟩ := h.back c hc.1 e
    exact .inr ⟨p, hns p (by omega), (ih p).2 (by omega), m, hm, hs⟩
theorem Far.the {α : Type} [DecidableEq α] {st : α → Nat → Option α} {a : α} {d : α → Int} (h : Far (Leads st) a d) (ns : List α) (hns : ∀ p, 0 ≤ d p → p ∈ ns) (N : Nat) (hN : ∀ c, d c ≤ N) : theFar st ns N a = d := by
 funext c
 have hl := fun n => h.lev ns hns n c
 unfold theFar
 split
 ·rename_i n hn
  rw [List.find?_eq_some_iff_append] at hn
  obtain ⟨h1, as, bs, e, hno⟩ := hn
  have k1 := (hl n).1 h1
  have k2 : ¬ (d c).toNat < n := fun hlt => by
   have hle : as = List.range n := by
    have e1 := congrArg (List.take as.length) e
    rw [List.take_left, List.take_range] at e1
    have e2 := congrArg (fun l => l[as.length]?) e
    simp only [List.getElem?_append_right (Nat.le_refl _), Nat.sub_self, List.getElem?_cons_zero] at e2
    have e3 := List.getElem?_eq_some_iff.1 e2
    obtain ⟨e4, e5⟩ := e3
    simp at e4 e5
    rw [← e1, e5, Nat.min_eq_left (by omega)]
   have z := hno (d c).toNat (by rw [hle]; exact List.mem_range.2 hlt)
   have z2 := (hl (d c).toNat).2 (by omega)
   rw [z2] at z
   simp at z
  omega
 ·rename_i hn
  rw [List.find?_eq_none] at hn
  have l1 := h.low c
  have l2 := hN c
  by_cases e : 0 ≤ d c
  ·exact absurd ((hl N).2 ⟨e, l2⟩) (hn N (List.mem_range.2 (by omega)))
  ·omega
theorem nodup_le : ∀ (n : Nat) (l : List Nat), l.Nodup → (∀ x ∈ l, x < n) → l.length ≤ n
 | 0, l, _, h => by
  cases l with
  | nil => simp
  | cons x l => have := h x (by simp); omega
 | n + 1, l, hn, h => by
  by_cases e : n ∈ l
  ·have h1 := nodup_le n (l.erase n) (hn.erase n) (fun x hx => by
    have := h x (List.mem_of_mem_erase hx)
    have hne : x ≠ n := fun z => by subst z; exact (hn.not_mem_erase) hx
    omega)
   rw [List.length_erase_of_mem e] at h1
   omega
  ·have := nodup_le n l hn (fun x hx => by
    have := h x hx
    have hne : x ≠ n := fun z => by subst z; exact e hx
    omega)
   omega
theorem Bfs.length {α : Type} {st : α → Nat → Option α} {a : α} {q : List α} {i m : Nat} {d : α → Int} (h : Bfs st a q i m d) (code : α → Nat) (N : Nat) (inj : ∀ x ∈ q, ∀ y ∈ q, code x = code y → x = y) (hN : ∀ x ∈ q, code x < N) : q.length ≤ N := by
 have := nodup_le N (q.map code) (by
  rw [List.Nodup, List.pairwise_map]
  have := h.nodup
  rw [List.Nodup] at this
  refine List.Pairwise.imp_of_mem (fun hx hy hne e => hne (inj _ hx _ hy e)) this) (fun x hx => by
  obtain ⟨y, hy, rfl⟩ := List.mem_map.1 hx
  exact hN y hy)
 simpa using this
theorem Bfs.run {α : Type} [DecidableEq α] {st : α → Nat → Option α} {a : α} (V : α → Prop) (hV : V a) (hst : ∀ p n c, V p → st p n = some c → V c) (code : α → Nat) (N : Nat) (inj : ∀ x y, V x → V y → code x = code y → x = y) (hN : ∀ x, V x → code x < N) :
  ∃ d, Far (Leads st) a d ∧ (∀ c, 0 ≤ d c → V c) ∧ ∀ c, d c ≤ N := by
 have key : ∀ (fuel : Nat) (q : List α) (i m : Nat) (d : α → Int), Bfs st a q i m d → (∀ p ∈ q, V p) → i ≤ q.length → m ≤ 4 → (N + 1 - i) * 5 + (4 - m) ≤ fuel → ∃ d, Far (Leads st) a d ∧ (∀ c, 0 ≤ d c → V c) ∧ ∀ c, d c ≤ N := by
  intro fuel
  induction fuel with
  | zero =>
   intro q i m d h hq hi hm hf
   have hl := h.length code N (fun x hx y hy => inj x y (hq x hx) (hq y hy)) (fun x hx => hN x (hq x hx))
   omega
  | succ fuel ih =>
   intro q i m d h hq hi hm hf
   have hl := h.length code N (fun x hx y hy => inj x y (hq x hx) (hq y hy)) (fun x hx => hN x (hq x hx))
   by_cases e : i = q.length
   ·refine ⟨d, h.done e, fun c hc => hq c ((h.mem c).1 hc), fun c => ?_⟩
    by_cases z : 0 ≤ d c
    ·obtain ⟨j, hj, e⟩ := List.getElem_of_mem ((h.mem c).1 z)
     have := h.deep j c (by rw [List.getElem?_eq_getElem hj, e])
     omega
    ·omega
   ·have hil : i < q.length := by omega
    by_cases e4 : m = 4
    ·subst e4
     exact ih q (i + 1) 0 d (h.next hil) hq (by omega) (by omega) (by omega)
    ·have hx : q[i]? = some q[i] := List.getElem?_eq_getElem hil
     cases hs : st q[i] m with
     | none => exact ih q i (m + 1) d (h.skip q[i] hx (fun c hc => by rw [hs] at hc; cases hc)) hq hi (by omega) (by omega)
     | some b =>
      by_cases z : 0 ≤ d b
      ·exact ih q i (m + 1) d (h.skip q[i] hx (fun c hc => by rw [hs] at hc; injection hc with hc; rw [← hc]; exact z)) hq hi (by omega) (by omega)
      ·refine ih (q ++ [b]) i (m + 1) _ (h.add (by omega) q[i] hx b hs (by omega)) (fun p hp => ?_) (by simp; omega) (by omega) (by omega)
       rcases List.mem_append.1 hp with hp | hp
       ·exact hq p hp
       ·rw [List.mem_singleton.1 hp]
        exact hst q[i] m b (hq _ (List.getElem_mem hil)) hs
 exact key _ [a] 0 0 _ Bfs.start (fun p hp => by rw [List.mem_singleton.1 hp]; exact hV) (by simp) (by omega) (Nat.le_refl _)
end Go.Proofs.Ytdhdkkhbgfcoiaa.Lib
