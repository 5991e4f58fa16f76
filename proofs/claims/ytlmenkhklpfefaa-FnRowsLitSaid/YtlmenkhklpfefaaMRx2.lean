-- The machine side, written by this repo's program mp.py; contracts marked as of this repo are this session's own.
import Derived.Test.YtlmenkhklpfefaaMRx0
namespace Go.Proofs.Ytlmenkhklpfefaa.MR
open Go.RowKit Go.Proofs.YtlmenkhklpfefaaW.PrintWords Go.Proofs.YtlmenkhklpfefaaW.PrintLast Go.Proofs.YtlmenkhklpfefaaW.PrintMore
attribute [local go_sem] max2_int min2_int max_two min_two max_three min_three max_four min_four   -- for this text's walks alone
set_option linter.unusedVariables false
set_option linter.unusedSimpArgs false

/-! ### impl_rowLamps: function 47 (a contract of this repo) -/
theorem impl_rowLamps.tsize : Try.prog.types.size = (Try.prog.types.size - 1) + 1 := by
  have : decide (0 < Try.prog.types.size) = true := by kernel_rfl
  have := of_decide_eq_true this
  omega
theorem impl_rowLamps.ints2 (m : Nat) (a : Int) (ha : (Lit.int .i64 a).wf = true) : Try.prog.keyLits (m + 1) 3 [.int .i64 a] = some [.int .i64 a] := by
  have h : Try.prog.underlying 3 = some (.int .i64) := by kernel_rfl
  simp [Program.keyLits, h, ha]
theorem impl_rowLamps.laidOut : laidOutB Try.prog = true := by kernel_rfl
theorem impl_rowLamps.keyed : Go.Maps.Keyed Try.prog 88 := Go.Maps.Keyed.of_law (deep_law_laid impl_rowLamps.laidOut (m := 3) (by omega) (of_decide_eq_true (by kernel_rfl)) (by kernel_rfl) (by kernel_rfl))
/-- A key, an element: their values. -/
def impl_rowLamps.kv (p : Nat × Nat) : Value := .agg #[.int .i64 p.1, .int .i64 p.2]
theorem impl_rowLamps.key2 (a b : Int) (ha : (Lit.int .i64 a).wf = true) (hb : (Lit.int .i64 b).wf = true) : ∃ l, keyOf Try.prog 88 (.agg #[.int .i64 a, .int .i64 b]) = some l := by
  have hk : Try.prog.keyType 88 = true := by kernel_rfl
  have hcells : Try.prog.cellsOf 88 = 2 := by kernel_rfl
  have hc3 : Try.prog.cellsOf 3 = 1 := by kernel_rfl
  have hf : (Value.agg #[.int .i64 a, .int .i64 b]).formed Try.prog 88 = true := by
    simp [Value.formed, Try.underlying88, hcells]
  have h1 := impl_rowLamps.ints2 (Try.prog.types.size - 1) a ha
  have h2 := impl_rowLamps.ints2 (Try.prog.types.size - 1) b hb
  have hl : Try.prog.keyLits (Try.prog.types.size + 1) 88 (Value.agg #[.int .i64 a, .int .i64 b]).cells.toList = some [.int .i64 a, .int .i64 b] := by
    have h3u : Try.prog.underlying 3 = some (.int .i64) := by kernel_rfl
    rw [impl_rowLamps.tsize]
    generalize Try.prog.types.size - 1 = m
    show Try.prog.keyLits (m + 1 + 1) 88 [.int .i64 a, .int .i64 b] = _
    simp [Program.keyLits, Try.underlying88, h3u, hcells, hc3, ha, hb]
  refine ⟨.string (keyBytes [.int .i64 a, .int .i64 b]), ?_⟩
  unfold keyOf
  rw [Try.underlying88]
  simp only [hk, hf, hl, Bool.and_self, if_true, Option.map_some]
theorem impl_rowLamps.wf2 (n : Nat) (h : n < 2) : (Lit.int .i64 (n : Int)).wf = true := by
  have e1 : IntKind.i64.min = -9223372036854775808 := rfl
  have e2 : IntKind.i64.max = 9223372036854775807 := rfl
  simp [Lit.wf, e1, e2]
  omega
/-- One of the four states. -/
def impl_rowLamps.Is (p : Nat × Nat) : Prop := p.1 < 2 ∧ p.2 < 2
theorem impl_rowLamps.keyp {p : Nat × Nat} (h : impl_rowLamps.Is p) : ∃ l, keyOf Try.prog 88 (impl_rowLamps.kv p) = some l := impl_rowLamps.key2 _ _ (impl_rowLamps.wf2 _ h.1) (impl_rowLamps.wf2 _ h.2)
theorem impl_rowLamps.kv_inj {p q : Nat × Nat} (h : impl_rowLamps.kv p = impl_rowLamps.kv q) : p = q := by
  simp [impl_rowLamps.kv] at h
  exact Prod.ext (by omega) (by omega)
/-- How an element reads. -/
def impl_rowLamps.R (v : Value) : Option (DataW Unit × List MemPlace) := match v with
  | .agg cs => (match cs.toList with
    | [.int .i64 a, .int .i64 b] => some (.agg [.lit (.int .i64 a), .lit (.int .i64 b)], [])
    | _ => none)
  | _ => none
def impl_rowLamps.dat (r : Nat × Nat) : DataW Unit := .agg [.lit (.int .i64 r.1), .lit (.int .i64 r.2)]
theorem impl_rowLamps.R_kv (r : Nat × Nat) : impl_rowLamps.R (impl_rowLamps.kv r) = some (impl_rowLamps.dat r, []) := rfl
theorem impl_rowLamps.R_inv {v : Value} {r : Nat × Nat} {ps : List MemPlace} (h : impl_rowLamps.R v = some (impl_rowLamps.dat r, ps)) : v = impl_rowLamps.kv r := by
  unfold impl_rowLamps.R at h
  split at h
  · rename_i cs
    split at h
    · rename_i a b e
      simp [impl_rowLamps.dat] at h
      obtain ⟨⟨rfl, rfl⟩, -⟩ := h
      have : cs = #[.int .i64 (r.1 : Int), .int .i64 (r.2 : Int)] := by
        apply Array.toList_inj.1
        rw [e]
      rw [this]
      rfl
    · cases h
  · cases h
/-- What a table of the four states holds. -/
abbrev impl_rowLamps.Tab := Nat × Nat → Option (Nat × Nat)
def impl_rowLamps.enc (o : Option (Nat × Nat)) (z : DataW Unit) : DataW Unit := match o with
  | none => z
  | some r => impl_rowLamps.dat r
/-- A map's reading is the table's. -/
def impl_rowLamps.Of (D : DataW Unit) (T : impl_rowLamps.Tab) : Prop := (∀ p, impl_rowLamps.Is p → ∀ l, keyOf Try.prog 88 (impl_rowLamps.kv p) = some l → ∀ z, D.atKey l z = impl_rowLamps.enc (T p) z) ∧ ∀ l, Go.Maps.has D l = true → ∃ p, impl_rowLamps.Is p ∧ keyOf Try.prog 88 (impl_rowLamps.kv p) = some l
/-- A map of the call's own. -/
def impl_rowLamps.MapT (w : World) (g n : Nat) (T : impl_rowLamps.Tab) : Prop := ∃ D, w.ownsMap Try.prog 88 impl_rowLamps.R g n D ∧ impl_rowLamps.Of D T
def impl_rowLamps.upd (T : impl_rowLamps.Tab) (q : Nat × Nat) (v : Nat × Nat) : impl_rowLamps.Tab := fun p => if p = q then some v else T p
theorem impl_rowLamps.Of.has {D : DataW Unit} {T : impl_rowLamps.Tab} (h : impl_rowLamps.Of D T) {p : Nat × Nat} (hp : impl_rowLamps.Is p) {l : Lit} (hl : keyOf Try.prog 88 (impl_rowLamps.kv p) = some l) : Go.Maps.has D l = (T p).isSome := by
  have z := h.1 p hp l hl
  cases ht : T p with
  | none => exact Go.Maps.has_false_of_atKey (fun z' => by rw [z, ht]; rfl)
  | some r => exact Go.Maps.has_true_of_atKey (y := impl_rowLamps.dat r) (fun z' => by rw [z, ht]; rfl)
theorem impl_rowLamps.MapT.start (w : World) : impl_rowLamps.MapT (w.alloc (.map #[] 0)) w.heap.size 0 (fun _ => none) :=
  ⟨_, World.ownsMap_made w _ _ _, fun p hp l hl z => rfl, fun l hl => by simp [Go.Maps.has] at hl⟩
theorem impl_rowLamps.MapT.grown {w w' : World} {g n : Nat} {T : impl_rowLamps.Tab} (h : impl_rowLamps.MapT w g n T) {row : Option Nat} (hg : w.grownBy w' row) (hne : some g ≠ row) : impl_rowLamps.MapT w' g n T := by
  obtain ⟨D, ho, hD⟩ := h
  exact ⟨D, ho.kept hg hne, hD⟩
theorem impl_rowLamps.MapT.lt {w : World} {g n : Nat} {T : impl_rowLamps.Tab} (h : impl_rowLamps.MapT w g n T) : g < w.heap.size := by
  obtain ⟨D, ho, -⟩ := h
  exact ho.lt
theorem impl_rowLamps.MapT.move {w w' : World} {g n : Nat} {T : impl_rowLamps.Tab} (h : impl_rowLamps.MapT w g n T) (e : w'.heap[g]? = w.heap[g]?) : impl_rowLamps.MapT w' g n T := by
  obtain ⟨D, ⟨es, clock, h1, h2⟩, h3⟩ := h
  exact ⟨D, ⟨es, clock, e.trans h1, h2⟩, h3⟩
theorem impl_rowLamps.MapT.ext {w : World} {g n : Nat} {T T' : impl_rowLamps.Tab} (h : impl_rowLamps.MapT w g n T) (e : ∀ p, impl_rowLamps.Is p → T p = T' p) : impl_rowLamps.MapT w g n T' := by
  obtain ⟨D, ho, h1, h2⟩ := h
  exact ⟨D, ho, fun p hp l hl z => by rw [← e p hp]; exact h1 p hp l hl z, h2⟩
theorem impl_rowLamps.MapT.less {w : World} {g n m : Nat} {T : impl_rowLamps.Tab} (h : impl_rowLamps.MapT w g n T) (hn : n ≤ m) : impl_rowLamps.MapT w g m T := by
  obtain ⟨D, ⟨es, clock, h1, h2, h3, h4⟩, hD⟩ := h
  exact ⟨D, ⟨es, clock, h1, h2, Nat.le_trans h3 hn, h4⟩, hD⟩
/-- 'v, ok := m[k]'. -/
theorem impl_rowLamps.MapT.look {w : World} {g n : Nat} {T : impl_rowLamps.Tab} (h : impl_rowLamps.MapT w g n T) {p : Nat × Nat} (hp : impl_rowLamps.Is p) :
    (Instr.lookup 84 (.map (some g)) (impl_rowLamps.kv p) true).run Try.prog w = .ok (.tuple #[impl_rowLamps.kv ((T p).getD (0, 0)), .bool (T p).isSome]) w := by
  obtain ⟨D, ho, hD⟩ := h
  obtain ⟨l, hl⟩ := impl_rowLamps.keyp hp
  have hz : (zeroValue 86).run Try.prog w = .ok (.agg #[.int .i64 0, .int .i64 0]) w := by kernel_rfl
  obtain ⟨v, ps, hrun, hv⟩ := ho.look_ok impl_rowLamps.keyed Try.underlying84 hz (zd := impl_rowLamps.dat (0, 0)) (zp := []) rfl hl
  rw [hD.1 p hp l hl] at hv
  rw [hrun, hD.has hp hl]
  have e : v = impl_rowLamps.kv ((T p).getD (0, 0)) := by
    cases ht : T p with
    | none => rw [ht] at hv; exact impl_rowLamps.R_inv hv
    | some r => rw [ht] at hv; exact impl_rowLamps.R_inv hv
  rw [e]
/-- 'm[k] = v'. -/
theorem impl_rowLamps.MapT.put {w : World} {g n : Nat} {T : impl_rowLamps.Tab} (h : impl_rowLamps.MapT w g n T) {p : Nat × Nat} (hp : impl_rowLamps.Is p) (r : Nat × Nat) (hn : n ≤ 1000) :
    ∃ w', (Instr.mapUpdate 84 (.map (some g)) (impl_rowLamps.kv p) (impl_rowLamps.kv r)).run Try.prog w = .ok () w' ∧ impl_rowLamps.MapT w' g (n + 1) (impl_rowLamps.upd T p r) ∧ w.grownBy w' (some g) := by
  obtain ⟨D, ho, hD⟩ := h
  obtain ⟨l, hl⟩ := impl_rowLamps.keyp hp
  obtain ⟨w', hrun, ho', hg⟩ := ho.update impl_rowLamps.keyed Try.underlying84 (by simp [maxLen]; omega) hl (impl_rowLamps.R_kv r)
  refine ⟨w', hrun, ⟨_, ho', fun q hq l' hl' z => ?_, fun l' h' => ?_⟩, hg⟩
  · by_cases e : q = p
    · subst e
      obtain rfl : l = l' := Option.some.inj (hl.symm.trans hl')
      rw [Go.Maps.atKey_put_same ho.isMap (impl_rowLamps.keyed.key hl)]
      simp [impl_rowLamps.upd, impl_rowLamps.enc]
    · have hne : l' ≠ l := fun e2 => e (by
        subst e2
        exact impl_rowLamps.kv_inj (impl_rowLamps.keyed.inj hl' hl))
      rw [Go.Maps.atKey_put_other hne, hD.1 q hq l' hl']
      simp [impl_rowLamps.upd, e]
  · by_cases e : l' = l
    · subst e; exact ⟨p, hp, hl⟩
    · rw [Go.Maps.has_put_other e] at h'
      exact hD.2 l' h'
/-- A map ranged over: the table, which states have come. -/
def impl_rowLamps.Ran (w : World) (g r n : Nat) (T : impl_rowLamps.Tab) (done : Nat × Nat → Bool) (cnt : Nat) : Prop :=
  ∃ D left, w.ranges Try.prog 88 impl_rowLamps.R g r n D left cnt ∧ impl_rowLamps.Of D T ∧ ∀ p, impl_rowLamps.Is p → ∀ l, keyOf Try.prog 88 (impl_rowLamps.kv p) = some l → left l = ((T p).isSome && !done p)
theorem impl_rowLamps.Ran.grown {w w' : World} {g r n : Nat} {T : impl_rowLamps.Tab} {done : Nat × Nat → Bool} {cnt : Nat} (h : impl_rowLamps.Ran w g r n T done cnt) {row : Option Nat} (hg : w.grownBy w' row) (h1 : some g ≠ row) (h2 : some r ≠ row) : impl_rowLamps.Ran w' g r n T done cnt := by
  obtain ⟨D, left, hr, hD⟩ := h
  exact ⟨D, left, hr.kept hg h1 h2, hD⟩
theorem impl_rowLamps.Ran.bounds {w : World} {g r n : Nat} {T : impl_rowLamps.Tab} {done : Nat × Nat → Bool} {cnt : Nat} (h : impl_rowLamps.Ran w g r n T done cnt) : g < w.heap.size ∧ r < w.heap.size ∧ r ≠ g := by
  obtain ⟨D, left, hr, hD⟩ := h
  exact ⟨hr.owns.lt, hr.lt, hr.ne⟩
theorem impl_rowLamps.Ran.left_eq {w : World} {g r n : Nat} {T : impl_rowLamps.Tab} {done : Nat × Nat → Bool} {cnt : Nat} (h : impl_rowLamps.Ran w g r n T done cnt) : w.rangeLeft g r = cnt := by
  obtain ⟨D, left, hr, hD⟩ := h
  exact hr.left_eq
theorem impl_rowLamps.MapT.range {w : World} {g n : Nat} {T : impl_rowLamps.Tab} (h : impl_rowLamps.MapT w g n T) :
    ∃ w' cnt, (Instr.range 84 (.map (some g))).run Try.prog w = .ok (.pointer (some ⟨w.heap.size, 0, none⟩)) w' ∧ impl_rowLamps.Ran w' g w.heap.size n T (fun _ => false) cnt ∧ w.grownBy w' none ∧ w'.heap.size = w.heap.size + 1 := by
  obtain ⟨D, ho, hD⟩ := h
  obtain ⟨w', hrun, hr, hg, hs⟩ := ho.range impl_rowLamps.keyed Try.underlying84
  exact ⟨w', _, hrun, ⟨D, _, hr, hD, fun p hp l hl => by rw [hD.has hp hl]; simp⟩, hg, hs⟩
theorem impl_rowLamps.Ran.next {w : World} {g r n : Nat} {T : impl_rowLamps.Tab} {done : Nat × Nat → Bool} {cnt : Nat} (h : impl_rowLamps.Ran w g r n T done cnt) :
    ((∀ p, impl_rowLamps.Is p → (T p).isSome = true → done p = true) ∧ ∀ ty, (Instr.next (.pointer (some ⟨r, 0, none⟩)) false ty).run Try.prog w = .ok (.tuple #[.bool false]) w) ∨
    ∃ (p v : Nat × Nat) (w' : World) (cnt' : Nat), impl_rowLamps.Is p ∧ T p = some v ∧ done p = false ∧ (∀ ty, (Instr.next (.pointer (some ⟨r, 0, none⟩)) false ty).run Try.prog w = .ok (.tuple #[.bool true, impl_rowLamps.kv p, impl_rowLamps.kv v]) w') ∧ impl_rowLamps.Ran w' g r n T (fun q => done q || decide (q = p)) cnt' ∧ cnt' < cnt ∧ w.grownBy w' (some r) ∧ w'.heap.size = w.heap.size ∧ (Instr.entry (.pointer (some ⟨r, 0, none⟩))).run Try.prog w' = .ok (.tuple #[impl_rowLamps.kv p, impl_rowLamps.kv v]) w' := by
  obtain ⟨D, left, hr, hD, hL⟩ := h
  rcases hr.next impl_rowLamps.keyed 0 with ⟨-, hl, hrun⟩ | ⟨key, v, kl, y, w', cnt', hkey, hlk, hv, hat, hrun, hrg, hlt, hgr, hsz, hen⟩
  · refine .inl ⟨fun p hp hs => ?_, fun ty => hrun⟩
    obtain ⟨l, e⟩ := impl_rowLamps.keyp hp
    have z := hL p hp l e
    rw [hl, hs, Bool.true_and] at z
    simpa using z.symm
  · obtain ⟨p, hp, hpk⟩ := hD.2 kl (Go.Maps.has_true_of_atKey hat)
    obtain rfl : key = impl_rowLamps.kv p := impl_rowLamps.keyed.inj hkey hpk
    have hz := hL p hp kl hpk
    rw [hlk] at hz
    obtain ⟨hs, hd⟩ := (Bool.and_eq_true _ _).mp hz.symm
    obtain ⟨rr, ht⟩ := Option.isSome_iff_exists.1 hs
    have hy : y.1 = impl_rowLamps.dat rr := by
      rw [← hat .nil, hD.1 p hp kl hpk, ht]
      rfl
    have hv2 : v = impl_rowLamps.kv rr := impl_rowLamps.R_inv (ps := y.2) (by rw [hv, ← hy])
    subst hv2
    refine .inr ⟨p, rr, w', cnt', hp, ht, by simpa using hd, fun ty => hrun, ⟨D, _, hrg, hD, fun q hq l hl => ?_⟩, hlt, hgr, hsz, hen⟩
    rw [hL q hq l hl]
    by_cases e : q = p
    · subst e
      obtain rfl : l = kl := Option.some.inj (hl.symm.trans hpk)
      simp [WideAt.sameKey_self (impl_rowLamps.keyed.key hpk)]
    · have hne : l ≠ kl := fun e2 => e (by
        subst e2
        exact impl_rowLamps.kv_inj (impl_rowLamps.keyed.inj hl hpk))
      rw [Go.Maps.sameKey_ne hne]
      simp [e]
def impl_rowLamps.merge : Option (Nat × Nat) → Option (Nat × Nat) → Option (Nat × Nat)
  | none, c => c
  | some a, none => some a
  | some a, some b => if b.1 < a.1 then some b else if b.1 = a.1 then some (a.1, a.2 + b.2) else some a
theorem impl_rowLamps.merge_none (a : Option (Nat × Nat)) : impl_rowLamps.merge a none = a := by cases a <;> rfl
theorem impl_rowLamps.none_merge (a : Option (Nat × Nat)) : impl_rowLamps.merge none a = a := rfl
theorem impl_rowLamps.merge_comm (a b : Option (Nat × Nat)) : impl_rowLamps.merge a b = impl_rowLamps.merge b a := by
  cases a with
  | none => rw [impl_rowLamps.merge_none]; rfl
  | some a =>
    cases b with
    | none => rfl
    | some b =>
      obtain ⟨a1, a2⟩ := a
      obtain ⟨b1, b2⟩ := b
      simp only [impl_rowLamps.merge]
      rcases Nat.lt_trichotomy a1 b1 with h | h | h
      · rw [if_neg (by omega), if_neg (by omega), if_pos h]
      · subst h; simp [Nat.add_comm]
      · rw [if_pos h, if_neg (by omega), if_neg (by omega)]
theorem impl_rowLamps.m_lt {a b : Nat × Nat} (h : a.1 < b.1) : impl_rowLamps.merge (some a) (some b) = some a := by
  unfold impl_rowLamps.merge
  simp only
  rw [if_neg (by omega), if_neg (by omega)]
theorem impl_rowLamps.m_gt {a b : Nat × Nat} (h : b.1 < a.1) : impl_rowLamps.merge (some a) (some b) = some b := by
  unfold impl_rowLamps.merge
  simp only
  rw [if_pos h]
theorem impl_rowLamps.m_eq {a b : Nat × Nat} (h : b.1 = a.1) : impl_rowLamps.merge (some a) (some b) = some (a.1, a.2 + b.2) := by
  unfold impl_rowLamps.merge
  simp only
  rw [if_neg (by omega), if_pos h]
theorem impl_rowLamps.merge_assoc (a b c : Option (Nat × Nat)) : impl_rowLamps.merge (impl_rowLamps.merge a b) c = impl_rowLamps.merge a (impl_rowLamps.merge b c) := by
  cases a with
  | none => rfl
  | some a =>
    cases b with
    | none => rfl
    | some b =>
      cases c with
      | none => rw [impl_rowLamps.merge_none, impl_rowLamps.merge_none]
      | some c =>
        rcases Nat.lt_trichotomy a.1 b.1 with h | h | h
        · rw [impl_rowLamps.m_lt h]
          rcases Nat.lt_trichotomy b.1 c.1 with h' | h' | h'
          · rw [impl_rowLamps.m_lt h', impl_rowLamps.m_lt h, impl_rowLamps.m_lt (by omega)]
          · rw [impl_rowLamps.m_eq h'.symm, impl_rowLamps.m_lt (by omega), impl_rowLamps.m_lt (show a.1 < (b.1, b.2 + c.2).1 from h)]
          · rw [impl_rowLamps.m_gt h']
        · rw [impl_rowLamps.m_eq h.symm]
          rcases Nat.lt_trichotomy b.1 c.1 with h' | h' | h'
          · rw [impl_rowLamps.m_lt h', impl_rowLamps.m_eq h.symm, impl_rowLamps.m_lt (show (a.1, a.2 + b.2).1 < c.1 by show a.1 < c.1; omega)]
          · rw [impl_rowLamps.m_eq h'.symm, impl_rowLamps.m_eq (show c.1 = (a.1, a.2 + b.2).1 by show c.1 = a.1; omega), impl_rowLamps.m_eq (show (b.1, b.2 + c.2).1 = a.1 from h.symm)]
            show some (a.1, a.2 + b.2 + c.2) = some (a.1, a.2 + (b.2 + c.2))
            rw [Nat.add_assoc]
          · rw [impl_rowLamps.m_gt h', impl_rowLamps.m_gt (show c.1 < (a.1, a.2 + b.2).1 by show c.1 < a.1; omega), impl_rowLamps.m_gt (by omega)]
        · rw [impl_rowLamps.m_gt h]
          rcases Nat.lt_trichotomy b.1 c.1 with h' | h' | h'
          · rw [impl_rowLamps.m_lt h', impl_rowLamps.m_gt h]
          · rw [impl_rowLamps.m_eq h'.symm, impl_rowLamps.m_gt (show (b.1, b.2 + c.2).1 < a.1 from h)]
          · rw [impl_rowLamps.m_gt h', impl_rowLamps.m_gt (by omega)]
instance : Std.Associative impl_rowLamps.merge := ⟨impl_rowLamps.merge_assoc⟩
instance : Std.Commutative impl_rowLamps.merge := ⟨impl_rowLamps.merge_comm⟩
/-- What shuts a way out: the next house's lamp. -/
def impl_rowLamps.sk1 (fixed : List Int) (behind last : Int) (n i o x : Nat) : Bool := if i + 1 = n then (decide ((x : Int) ≠ behind) || (decide (0 ≤ last) && decide ((o : Int) ≠ last))) else decide (rd fixed ((i : Int) + 1) = 1 - (x : Int))
/-- The house is not lit. -/
def impl_rowLamps.sk2 (row : ByteArray) (i b o x : Nat) : Bool := decide (bt row (i : Int) = 35) && decide (b + o + x = 0)
/-- What one state gives. -/
def impl_rowLamps.con (row : ByteArray) (fixed : List Int) (behind last : Int) (n i : Nat) (T : impl_rowLamps.Tab) (p : Nat × Nat) (x : Nat) : Option (Nat × Nat) :=
  if (impl_rowLamps.sk1 fixed behind last n i p.2 x || impl_rowLamps.sk2 row i p.1 p.2 x) = true then none else (T p).map fun r => (r.1 + (if i + 1 < n then x else 0), r.2)
def impl_rowLamps.part (c : Nat × Nat → Nat → Option (Nat × Nat)) (done : Nat × Nat → Bool) : impl_rowLamps.Tab := fun q => impl_rowLamps.merge (if done (0, q.1) = true then c (0, q.1) q.2 else none) (if done (1, q.1) = true then c (1, q.1) q.2 else none)
def impl_rowLamps.stepT (c : Nat × Nat → Nat → Option (Nat × Nat)) : impl_rowLamps.Tab := fun q => impl_rowLamps.merge (c (0, q.1) q.2) (c (1, q.1) q.2)
/-- One state under way: its first so many next ones. -/
def impl_rowLamps.partx (c : Nat × Nat → Nat → Option (Nat × Nat)) (done : Nat × Nat → Bool) (p : Nat × Nat) (x : Nat) : impl_rowLamps.Tab := fun q => if q.1 = p.2 ∧ q.2 < x then impl_rowLamps.merge (impl_rowLamps.part c done q) (c p q.2) else impl_rowLamps.part c done q
theorem impl_rowLamps.partx_next (c : Nat × Nat → Nat → Option (Nat × Nat)) (done : Nat × Nat → Bool) (p : Nat × Nat) (x : Nat) (q : Nat × Nat) : impl_rowLamps.partx c done p (x + 1) q = if q = (p.2, x) then impl_rowLamps.merge (impl_rowLamps.partx c done p x q) (c p x) else impl_rowLamps.partx c done p x q := by
  unfold impl_rowLamps.partx
  by_cases e : q = (p.2, x)
  · subst e
    rw [if_pos rfl, if_pos ⟨rfl, by simp⟩, if_neg (by simp)]
  · rw [if_neg e]
    by_cases h : q.1 = p.2 ∧ q.2 < x
    · rw [if_pos h, if_pos ⟨h.1, by omega⟩]
    · rw [if_neg h, if_neg (fun z => e (Prod.ext z.1 (by have := z.2; have : ¬ q.2 < x := fun y => h ⟨z.1, y⟩; show q.2 = x; omega)))]
theorem impl_rowLamps.partx_end (c : Nat × Nat → Nat → Option (Nat × Nat)) (done : Nat × Nat → Bool) (p : Nat × Nat) (hp : impl_rowLamps.Is p) (hd : done p = false) (q : Nat × Nat) (hq : impl_rowLamps.Is q) : impl_rowLamps.partx c done p 2 q = impl_rowLamps.part c (fun z => done z || decide (z = p)) q := by
  obtain ⟨b, o⟩ := p
  unfold impl_rowLamps.partx impl_rowLamps.part
  by_cases e : q.1 = o
  · rw [if_pos ⟨e, hq.2⟩, e]
    have cb : b = 0 ∨ b = 1 := by have := hp.1; simp only at this; omega
    rcases cb with rfl | rfl
    · have e1 : decide ((1, o) = ((0, o) : Nat × Nat)) = false := decide_eq_false (fun z => by have := (Prod.mk.inj z).1; omega)
      simp only [hd, e1, Bool.or_false, Bool.or_true, Bool.false_eq_true, if_false, if_true, impl_rowLamps.none_merge]
      rw [impl_rowLamps.merge_comm]
      simp
    · have e1 : decide ((0, o) = ((1, o) : Nat × Nat)) = false := decide_eq_false (fun z => by have := (Prod.mk.inj z).1; omega)
      simp only [hd, e1, Bool.or_false, Bool.or_true, Bool.false_eq_true, if_false, if_true, impl_rowLamps.merge_none]
      simp
  · rw [if_neg (fun z => e z.1)]
    have e0 : decide ((0, q.1) = (b, o)) = false := decide_eq_false (fun z => e (Prod.mk.inj z).2)
    have e1 : decide ((1, q.1) = (b, o)) = false := decide_eq_false (fun z => e (Prod.mk.inj z).2)
    simp only [e0, e1, Bool.or_false]
theorem impl_rowLamps.part_all (row : ByteArray) (fixed : List Int) (behind last : Int) (n i : Nat) (T : impl_rowLamps.Tab) (done : Nat × Nat → Bool) (h : ∀ p, impl_rowLamps.Is p → (T p).isSome = true → done p = true) (q : Nat × Nat) (hq : impl_rowLamps.Is q) : impl_rowLamps.part (impl_rowLamps.con row fixed behind last n i T) done q = impl_rowLamps.stepT (impl_rowLamps.con row fixed behind last n i T) q := by
  have key : ∀ b, b < 2 → (if done (b, q.1) = true then impl_rowLamps.con row fixed behind last n i T (b, q.1) q.2 else none) = impl_rowLamps.con row fixed behind last n i T (b, q.1) q.2 := fun b hb => by
    by_cases hd : done (b, q.1) = true
    · rw [if_pos hd]
    · rw [if_neg hd]
      have : T (b, q.1) = none := by
        cases ht : T (b, q.1) with
        | none => rfl
        | some r => exact absurd (h _ ⟨hb, hq.1⟩ (by rw [ht]; rfl)) hd
      unfold impl_rowLamps.con
      rw [this]
      simp
  unfold impl_rowLamps.part impl_rowLamps.stepT
  rw [key 0 (by omega), key 1 (by omega)]
theorem impl_rowLamps.partx_skip (c : Nat × Nat → Nat → Option (Nat × Nat)) (done : Nat × Nat → Bool) (p : Nat × Nat) (x : Nat) (h : c p x = none) (q : Nat × Nat) : impl_rowLamps.partx c done p x q = impl_rowLamps.partx c done p (x + 1) q := by
  rw [impl_rowLamps.partx_next]
  by_cases e : q = (p.2, x)
  · rw [if_pos e, h, impl_rowLamps.merge_none]
  · rw [if_neg e]
def impl_rowLamps.fit1 (o : Option (Nat × Nat)) : Bool := match o with
  | none => true
  | some r => decide (r.1 ≤ 1000 ∧ r.2 ≤ 1000000000000 ∧ 1 ≤ r.2)
def impl_rowLamps.fit (T : impl_rowLamps.Tab) : Bool := (impl_rowLamps.fit1 (T (0, 0)) && impl_rowLamps.fit1 (T (0, 1))) && (impl_rowLamps.fit1 (T (1, 0)) && impl_rowLamps.fit1 (T (1, 1)))
theorem impl_rowLamps.fit_at {T : impl_rowLamps.Tab} (h : impl_rowLamps.fit T = true) {p : Nat × Nat} (hp : impl_rowLamps.Is p) {r : Nat × Nat} (hr : T p = some r) : r.1 ≤ 1000 ∧ r.2 ≤ 1000000000000 ∧ 1 ≤ r.2 := by
  unfold impl_rowLamps.fit at h
  simp only [Bool.and_eq_true] at h
  have key : impl_rowLamps.fit1 (T p) = true := by
    obtain ⟨b, o⟩ := p
    have cb : b = 0 ∨ b = 1 := by have := hp.1; simp only at this; omega
    have co : o = 0 ∨ o = 1 := by have := hp.2; simp only at this; omega
    rcases cb with rfl | rfl <;> rcases co with rfl | rfl
    · exact h.1.1
    · exact h.1.2
    · exact h.2.1
    · exact h.2.2
  rw [hr] at key
  exact of_decide_eq_true key
/-- What is there ahead of a state's next ones is small. -/
theorem impl_rowLamps.partx_small {row : ByteArray} {fixed : List Int} {behind last : Int} {n i : Nat} {T : impl_rowLamps.Tab} (h : impl_rowLamps.fit T = true) {done : Nat × Nat → Bool} {p : Nat × Nat} (hp : impl_rowLamps.Is p) (hd : done p = false) {x : Nat} (hx : x < 2) {r : Nat × Nat} (hr : impl_rowLamps.partx (impl_rowLamps.con row fixed behind last n i T) done p x (p.2, x) = some r) : r.1 ≤ 1002 ∧ r.2 ≤ 1000000000000 ∧ 1 ≤ r.2 := by
  have con_small : ∀ q, impl_rowLamps.Is q → ∀ r, impl_rowLamps.con row fixed behind last n i T q x = some r → r.1 ≤ 1002 ∧ r.2 ≤ 1000000000000 ∧ 1 ≤ r.2 := fun q hq r hr => by
    unfold impl_rowLamps.con at hr
    split at hr
    · cases hr
    · obtain ⟨z, hz, rfl⟩ := Option.map_eq_some_iff.1 hr
      have := impl_rowLamps.fit_at h hq hz
      refine ⟨?_, this.2⟩
      show z.1 + _ ≤ 1002
      split <;> omega
  unfold impl_rowLamps.partx at hr
  rw [if_neg (by simp)] at hr
  unfold impl_rowLamps.part at hr
  obtain ⟨b, o⟩ := p
  have cb : b = 0 ∨ b = 1 := by have := hp.1; simp only at this; omega
  simp only at hr
  rcases cb with rfl | rfl
  · rw [hd, if_neg (by simp), impl_rowLamps.none_merge] at hr
    split at hr
    · exact con_small (1, o) ⟨by show 1 < 2; omega, hp.2⟩ r hr
    · cases hr
  · rw [hd, if_neg (show ¬ false = true by simp), impl_rowLamps.merge_none] at hr
    split at hr
    · exact con_small (0, o) ⟨by show 0 < 2; omega, hp.2⟩ r hr
    · cases hr
/-- All houses from one on. -/
def impl_rowLamps.go (row : ByteArray) (fixed : List Int) (behind last : Int) (n : Nat) : Nat → Nat → impl_rowLamps.Tab → Option impl_rowLamps.Tab
  | 0, _, T => if impl_rowLamps.fit T = true then some T else none
  | r + 1, i, T => if impl_rowLamps.fit T = true then impl_rowLamps.go row fixed behind last n r (i + 1) (impl_rowLamps.stepT (impl_rowLamps.con row fixed behind last n i T)) else none
theorem impl_rowLamps.go_fit {row : ByteArray} {fixed : List Int} {behind last : Int} {n r i : Nat} {T U : impl_rowLamps.Tab} (h : impl_rowLamps.go row fixed behind last n r i T = some U) : impl_rowLamps.fit T = true := by
  cases r with
  | zero => unfold impl_rowLamps.go at h; exact (Option.ite_none_right_eq_some.1 h).1
  | succ r => unfold impl_rowLamps.go at h; exact (Option.ite_none_right_eq_some.1 h).1
/-- Where it starts. -/
def impl_rowLamps.T0 (fixed : List Int) (first before : Nat) : impl_rowLamps.Tab := fun p => if rd fixed 0 ≠ 1 - (first : Int) ∧ p = (before, first) then some (first, 1) else none
def impl_rowLamps.fin (T : impl_rowLamps.Tab) (done : Nat × Nat → Bool) : Option (Nat × Nat) := impl_rowLamps.merge (impl_rowLamps.merge (if done (0, 0) = true then T (0, 0) else none) (if done (0, 1) = true then T (0, 1) else none)) (impl_rowLamps.merge (if done (1, 0) = true then T (1, 0) else none) (if done (1, 1) = true then T (1, 1) else none))
theorem impl_rowLamps.fin_add (T : impl_rowLamps.Tab) (done : Nat × Nat → Bool) (p : Nat × Nat) (hp : impl_rowLamps.Is p) (hd : done p = false) : impl_rowLamps.fin T (fun z => done z || decide (z = p)) = impl_rowLamps.merge (impl_rowLamps.fin T done) (T p) := by
  obtain ⟨b, o⟩ := p
  have cb : b = 0 ∨ b = 1 := by have := hp.1; simp only at this; omega
  have co : o = 0 ∨ o = 1 := by have := hp.2; simp only at this; omega
  unfold impl_rowLamps.fin
  rcases cb with rfl | rfl <;> rcases co with rfl | rfl <;> rw [hd] <;> simp [impl_rowLamps.none_merge, impl_rowLamps.merge_none] <;> ac_rfl
theorem impl_rowLamps.fin_all (T : impl_rowLamps.Tab) (done : Nat × Nat → Bool) (h : ∀ p, impl_rowLamps.Is p → (T p).isSome = true → done p = true) : impl_rowLamps.fin T done = impl_rowLamps.fin T (fun _ => true) := by
  have key : ∀ p, impl_rowLamps.Is p → (if done p = true then T p else none) = T p := fun p hp => by
    by_cases hd : done p = true
    · rw [if_pos hd]
    · rw [if_neg hd]
      cases ht : T p with
      | none => rfl
      | some r => exact absurd (h _ hp (by rw [ht]; rfl)) hd
  unfold impl_rowLamps.fin
  rw [key (0, 0) ⟨by show 0 < 2; omega, by show 0 < 2; omega⟩, key (0, 1) ⟨by show 0 < 2; omega, by show 1 < 2; omega⟩, key (1, 0) ⟨by show 1 < 2; omega, by show 0 < 2; omega⟩, key (1, 1) ⟨by show 1 < 2; omega, by show 1 < 2; omega⟩]
  simp
/-- How the end is told. -/
def impl_rowLamps.out (o : Option (Nat × Nat)) : Nat × Nat := o.getD (0, 0)
def impl_rowLamps.val (row : ByteArray) (fixed : List Int) (first before : Nat) (behind last : Int) : Option (Nat × Nat) := (impl_rowLamps.go row fixed behind last row.size row.size 0 (impl_rowLamps.T0 fixed first before)).map fun T => impl_rowLamps.out (impl_rowLamps.fin T (fun _ => true))
/-- How many states are done. -/
def impl_rowLamps.nd (done : Nat × Nat → Bool) : Nat := (((done (0, 0)).toNat + (done (0, 1)).toNat) + (done (1, 0)).toNat) + (done (1, 1)).toNat
theorem impl_rowLamps.nd_le (done : Nat × Nat → Bool) : impl_rowLamps.nd done ≤ 4 := by
  unfold impl_rowLamps.nd
  cases done (0, 0) <;> cases done (0, 1) <;> cases done (1, 0) <;> cases done (1, 1) <;> decide
theorem impl_rowLamps.nd_add (done : Nat × Nat → Bool) (p : Nat × Nat) (hp : impl_rowLamps.Is p) (hd : done p = false) : impl_rowLamps.nd (fun z => done z || decide (z = p)) = impl_rowLamps.nd done + 1 := by
  obtain ⟨b, o⟩ := p
  have cb : b = 0 ∨ b = 1 := by have := hp.1; simp only at this; omega
  have co : o = 0 ∨ o = 1 := by have := hp.2; simp only at this; omega
  unfold impl_rowLamps.nd
  rcases cb with rfl | rfl <;> rcases co with rfl | rfl <;> rw [hd] <;> simp <;> omega
theorem impl_rowLamps.w_pred (n : Nat) (h : n ≤ 1000) : wrap64 ((n : Int) - 1) = (n : Int) - 1 := by unfold wrap64; omega
theorem impl_rowLamps.w_other (x : Nat) (h : x ≤ 2) : wrap64 (1 - (x : Int)) = 1 - (x : Int) := by unfold wrap64; omega
theorem impl_rowLamps.w_succ (i i1 : Nat) (h : i ≤ 1000) (e : i1 = i + 1) : wrap64 ((i : Int) + 1) = (i1 : Int) := by unfold wrap64; omega
theorem impl_rowLamps.w_two (b o : Nat) (h : b ≤ 1002 ∧ o ≤ 1002) : wrap64 ((b : Int) + (o : Int)) = (b : Int) + (o : Int) := by unfold wrap64; omega
theorem impl_rowLamps.w_three (b o x : Nat) (h : b ≤ 2 ∧ o ≤ 2 ∧ x ≤ 2) : wrap64 ((b : Int) + (o : Int) + (x : Int)) = (b : Int) + (o : Int) + (x : Int) := by unfold wrap64; omega
theorem impl_rowLamps.w_big (b o : Nat) (h : b ≤ 1000000000000 ∧ o ≤ 1000000000000) : wrap64 ((b : Int) + (o : Int)) = ((b + o : Nat) : Int) := by unfold wrap64; omega
theorem impl_rowLamps.three_zero (b o x : Nat) : ((b : Int) + (o : Int) + (x : Int) == 0) = decide (b + o + x = 0) := by
  rw [Bool.eq_iff_iff]
  simp
  omega
theorem impl_rowLamps.is_last (i n : Nat) (hi : i < n) : ((i : Int) == (n : Int) - 1) = decide (i + 1 = n) := by
  rw [Bool.eq_iff_iff]
  simp
  omega
theorem impl_rowLamps.not_last (i n : Nat) : decide ((i : Int) < (n : Int) - 1) = decide (i + 1 < n) := by
  rw [Bool.eq_iff_iff]
  simp
  omega
theorem impl_rowLamps.lt_two (x : Nat) (h : x < 2) : decide ((x : Int) < 2) = true := decide_eq_true (by omega)
theorem impl_rowLamps.new_one (w : World) (X Y : Array Value) (t u : TypeId) : ((w.alloc (.cells X t)).alloc (.cells Y u)).heap[w.heap.size]? = some (.cells X t (0, 0)) := blk_alloc (heap_alloc_new w _) _
theorem impl_rowLamps.new_two (w : World) (X Y : Array Value) (t u : TypeId) : ((w.alloc (.cells X t)).alloc (.cells Y u)).heap[w.heap.size + 1]? = some (.cells Y u (0, 0)) := by
  have z := heap_alloc_new (w.alloc (.cells X t)) (.cells Y u)
  rwa [show (w.alloc (.cells X t)).heap.size = w.heap.size + 1 by simp] at z
theorem impl_rowLamps.below_two (w : World) (X Y : Obj) : Below w.heap.size w ((w.alloc X).alloc Y) := below_then (below_alloc (Below.refl _ _) X) (by simp) (below_alloc (Below.refl _ _) Y)
theorem impl_rowLamps.cells_set {w : World} {s : Nat} {a b v : Value} {t : TypeId} (h : w.heap[s]? = some (.cells #[a, b] t (0, 0))) : (w.setCell ⟨s, 0, none⟩ v).heap[s]? = some (.cells #[v, b] t (0, 0)) := by
  simp [World.setCell, Array.getElem?_modify, h]
theorem impl_rowLamps.cells_free {w : World} {s : Nat} {a b : Value} {t : TypeId} (h : w.heap[s]? = some (.cells #[a, b] t (0, 0))) (j : Nat) : w.frozen? ⟨s, j, none⟩ = false := by
  simp [World.frozen?, h]
theorem impl_rowLamps.partx_put (c : Nat × Nat → Nat → Option (Nat × Nat)) (done : Nat × Nat → Bool) (p : Nat × Nat) (x : Nat) (v : Nat × Nat) (h : impl_rowLamps.merge (impl_rowLamps.partx c done p x (p.2, x)) (c p x) = some v) (q : Nat × Nat) : impl_rowLamps.upd (impl_rowLamps.partx c done p x) (p.2, x) v q = impl_rowLamps.partx c done p (x + 1) q := by
  rw [impl_rowLamps.partx_next]
  unfold impl_rowLamps.upd
  by_cases e : q = (p.2, x)
  · rw [if_pos e, if_pos e, e, h]
  · rw [if_neg e, if_neg e]
theorem impl_rowLamps.partx_same (c : Nat × Nat → Nat → Option (Nat × Nat)) (done : Nat × Nat → Bool) (p : Nat × Nat) (x : Nat) (h : impl_rowLamps.merge (impl_rowLamps.partx c done p x (p.2, x)) (c p x) = impl_rowLamps.partx c done p x (p.2, x)) (q : Nat × Nat) : impl_rowLamps.partx c done p x q = impl_rowLamps.partx c done p (x + 1) q := by
  rw [impl_rowLamps.partx_next]
  by_cases e : q = (p.2, x)
  · rw [if_pos e, e, h]
  · rw [if_neg e]
def impl_rowLamps.Sm (k : Nat) (o : Option (Nat × Nat)) : Prop := ∀ r, o = some r → r.1 ≤ 1000 ∧ r.2 ≤ k ∧ 1 ≤ r.2
theorem impl_rowLamps.Sm.merge {k l : Nat} {a b : Option (Nat × Nat)} (ha : impl_rowLamps.Sm k a) (hb : impl_rowLamps.Sm l b) : impl_rowLamps.Sm (k + l) (impl_rowLamps.merge a b) := by
  cases a with
  | none => exact fun r h => by have := hb r h; omega
  | some a =>
    cases b with
    | none => exact fun r h => by have := ha r h; omega
    | some b =>
      have h1 := ha a rfl
      have h2 := hb b rfl
      intro r h
      rcases Nat.lt_trichotomy a.1 b.1 with q | q | q
      · rw [impl_rowLamps.m_lt q] at h
        obtain rfl := Option.some.inj h
        omega
      · rw [impl_rowLamps.m_eq q.symm] at h
        obtain rfl := Option.some.inj h
        show a.1 ≤ 1000 ∧ a.2 + b.2 ≤ k + l ∧ 1 ≤ a.2 + b.2
        omega
      · rw [impl_rowLamps.m_gt q] at h
        obtain rfl := Option.some.inj h
        omega
theorem impl_rowLamps.fin_small {T : impl_rowLamps.Tab} (h : impl_rowLamps.fit T = true) (done : Nat × Nat → Bool) : impl_rowLamps.Sm 4000000000000 (impl_rowLamps.fin T done) := by
  have one : ∀ p, impl_rowLamps.Is p → impl_rowLamps.Sm 1000000000000 (if done p = true then T p else none) := fun p hp r hr => by
    split at hr
    · exact impl_rowLamps.fit_at h hp hr
    · cases hr
  exact ((one (0, 0) ⟨by show 0 < 2; omega, by show 0 < 2; omega⟩).merge (one (0, 1) ⟨by show 0 < 2; omega, by show 1 < 2; omega⟩)).merge ((one (1, 0) ⟨by show 1 < 2; omega, by show 0 < 2; omega⟩).merge (one (1, 1) ⟨by show 1 < 2; omega, by show 1 < 2; omega⟩))
theorem impl_rowLamps.w_sum (b o : Nat) (h : b ≤ 4000000000000 ∧ o ≤ 1000000000000) : wrap64 ((b : Int) + (o : Int)) = ((b + o : Nat) : Int) := by unfold wrap64; omega
theorem impl_rowLamps.w_self (o : Nat) (h : o ≤ 1000000000000) : wrap64 (o : Int) = (o : Int) := by unfold wrap64; omega
/-- The arguments, as small as they are. -/
def impl_rowLamps.Fits (row : ByteArray) (fixed : List Int) (first before : Nat) : Prop := (1 ≤ row.size ∧ row.size ≤ 1000) ∧ fixed.length = row.size ∧ first < 2 ∧ before < 2
/-- The search under way: both maps. -/
def impl_rowLamps.St (w wr : World) (g g2 r n m : Nat) (T T2 : impl_rowLamps.Tab) (done : Nat × Nat → Bool) (cnt : Nat) : Prop :=
  (impl_rowLamps.Ran wr g r n T done cnt ∧ impl_rowLamps.MapT wr g2 m T2) ∧ Below w.heap.size w wr ∧ (w.heap.size ≤ g ∧ w.heap.size ≤ g2) ∧ w.heap.size ≤ r ∧ g ≠ g2 ∧ r ≠ g2
theorem impl_rowLamps.St.grown {w wr w' : World} {g g2 r n m : Nat} {T T2 : impl_rowLamps.Tab} {done : Nat × Nat → Bool} {cnt : Nat} (h : impl_rowLamps.St w wr g g2 r n m T T2 done cnt) {row : Option Nat} (hg : wr.grownBy w' row) (hr : ∀ k, row = some k → w.heap.size ≤ k ∧ k ≠ g ∧ k ≠ g2 ∧ k ≠ r) : impl_rowLamps.St w w' g g2 r n m T T2 done cnt :=
  ⟨⟨h.1.1.grown hg (fun e => (hr g e.symm).2.1 rfl) (fun e => (hr r e.symm).2.2.2 rfl), h.1.2.grown hg (fun e => (hr g2 e.symm).2.2.1 rfl)⟩, h.2.1.grown hg h.2.1.size (fun k e => (hr k e).1), h.2.2⟩
theorem impl_rowLamps.St.alloc {w wr : World} {g g2 r n m : Nat} {T T2 : impl_rowLamps.Tab} {done : Nat × Nat → Bool} {cnt : Nat} (h : impl_rowLamps.St w wr g g2 r n m T T2 done cnt) (o : Obj) : impl_rowLamps.St w (wr.alloc o) g g2 r n m T T2 done cnt :=
  h.grown (World.grownBy_alloc wr o none) (fun k e => by cases e)
theorem impl_rowLamps.St.lts {w wr : World} {g g2 r n m : Nat} {T T2 : impl_rowLamps.Tab} {done : Nat × Nat → Bool} {cnt : Nat} (h : impl_rowLamps.St w wr g g2 r n m T T2 done cnt) : (g < wr.heap.size ∧ g2 < wr.heap.size) ∧ r < wr.heap.size ∧ w.heap.size ≤ wr.heap.size :=
  ⟨⟨h.1.1.bounds.1, h.1.2.lt⟩, h.1.1.bounds.2.1, h.2.1.size⟩
theorem impl_rowLamps.St.put {w wr w' : World} {g g2 r n m m' : Nat} {T T2 T2' : impl_rowLamps.Tab} {done : Nat × Nat → Bool} {cnt : Nat} (h : impl_rowLamps.St w wr g g2 r n m T T2 done cnt) (hm : impl_rowLamps.MapT w' g2 m' T2') (hg : wr.grownBy w' (some g2)) : impl_rowLamps.St w w' g g2 r n m' T T2' done cnt :=
  ⟨⟨h.1.1.grown hg (fun e => h.2.2.2.2.1 (Option.some.inj e)) (fun e => h.2.2.2.2.2 (Option.some.inj e)), hm⟩, h.2.1.grown hg h.2.1.size (fun k e => by rw [← Option.some.inj e]; exact h.2.2.1.2), h.2.2⟩
theorem impl_rowLamps.St.come {w wr w' : World} {g g2 r n m : Nat} {T T2 : impl_rowLamps.Tab} {done done' : Nat × Nat → Bool} {cnt cnt' : Nat} (h : impl_rowLamps.St w wr g g2 r n m T T2 done cnt) (hr : impl_rowLamps.Ran w' g r n T done' cnt') (hg : wr.grownBy w' (some r)) : impl_rowLamps.St w w' g g2 r n m T T2 done' cnt' :=
  ⟨⟨hr, h.1.2.grown hg (fun e => h.2.2.2.2.2 (Option.some.inj e).symm)⟩, h.2.1.grown hg h.2.1.size (fun k e => by rw [← Option.some.inj e]; exact h.2.2.2.1), h.2.2⟩
theorem impl_rowLamps.St.ext {w wr : World} {g g2 r n m m' : Nat} {T T2 T2' : impl_rowLamps.Tab} {done : Nat × Nat → Bool} {cnt : Nat} (h : impl_rowLamps.St w wr g g2 r n m T T2 done cnt) (hm : m ≤ m') (e : ∀ p, impl_rowLamps.Is p → T2 p = T2' p) : impl_rowLamps.St w wr g g2 r n m' T T2' done cnt :=
  ⟨⟨h.1.1, (h.1.2.ext e).less hm⟩, h.2⟩
theorem impl_rowLamps.St.below {w wr w' : World} {g g2 r n m : Nat} {T T2 : impl_rowLamps.Tab} {done : Nat × Nat → Bool} {cnt : Nat} (h : impl_rowLamps.St w wr g g2 r n m T T2 done cnt) (hb : Below wr.heap.size wr w') : impl_rowLamps.St w w' g g2 r n m T T2 done cnt :=
  h.grown (row := none) ⟨hb.os, hb.tape, hb.output, hb.size, fun i hi _ => hb.block i hi⟩ (fun k e => by cases e)
set_option maxHeartbeats 16000000 in
set_option maxRecDepth 100000 in
theorem impl_rowLamps.walk (row : ByteArray) (A : Option Addr) (c : Nat) (fixed : List Int) (first before : Nat) (behind last : Int) (w : World) (hF : impl_rowLamps.Fits row fixed first before) (hr : Kd.C (Kd.int .i64) w A fixed.length fixed) (hc : fixed.length ≤ c) (v : Nat × Nat) (h : impl_rowLamps.val row fixed first before behind last = some v) :
    Calls Try.prog 47 #[.string row, .slice A fixed.length c, .int .i64 first, .int .i64 before, .int .i64 behind, .int .i64 last] w fun e w' => e = .returned (.tuple #[.int .i64 v.1, .int .i64 v.2]) ∧ Below w.heap.size w w' := by
  obtain ⟨⟨n1, n1000⟩, hl, f2, b2⟩ := hF
  unfold impl_rowLamps.val at h
  obtain ⟨TN, hTN, hv⟩ := Option.map_eq_some_iff.1 h
  have HGO := Aside0.mk hTN
  have HV := Aside0.mk hv
  obtain ⟨ad, hA, -⟩ := Kd.at_int hr 0 (by omega) (by omega)
  have HFX := Aside0.mk (show ∀ W : World, Below w.heap.size w W → ∀ j : Nat, j < row.size → W.cell? (ad.add j) = some (.int .i64 (rd fixed (j : Int))) from fun W hW j hj => by
    obtain ⟨ad2, hA2, hx⟩ := Kd.at_int (Kd.C_below hr hW) (j : Int) (by omega) (by omega)
    rw [hA] at hA2
    obtain rfl := Option.some.inj hA2
    rwa [Int.toNat_natCast] at hx)
  subst hA
  have HI := Aside0.mk (show (Try.prog.info? 88).map (fun i => (i.zero, i.size, i.bytes)) = some (some (.agg #[.int .i64 0, .int .i64 0]), 2, 16) from by kernel_rfl)
  have HB0 := Aside0.mk (And.intro (And.intro f2 b2) (And.intro n1 n1000))
  rw [hl]
  rw [hl] at hc
  clear hr h hTN hv f2 b2 n1 n1000 hl
  have hmk : ∀ W : World, (Instr.makeMap 84 none).run Try.prog W = .ok (.map (some W.heap.size)) (W.alloc (.map #[] 0)) := fun W => rfl
  have hx0 := HFX.out (w.alloc (.map #[] 0)) (below_alloc (Below.refl _ _) _) 0 (by have := HB0.out.2.1; omega)
  rw [Addr.add_zero', show rd fixed ((0 : Nat) : Int) = rd fixed 0 from rfl] at hx0
  obtain ⟨f0, hf0⟩ : ∃ f0, f0 = rd fixed 0 := ⟨_, rfl⟩
  rw [← hf0] at hx0
  have HF0 := Aside0.mk hf0
  have ew : wrap64 (1 - (first : Int)) = 1 - (first : Int) := by have := HB0.out.1.1; unfold wrap64; omega
  have ew2 : IntKind.i64.wrap (1 - (first : Int)) = 1 - (first : Int) := (i64_w _).trans ew
  have n1 : 0 < row.size := by have := HB0.out.2.1; omega
  have HM0 := Aside0.mk (impl_rowLamps.MapT.start w)
  clear hf0
  go_enter Try.func47, Try.ntmps47
  go_upto_if 34 with (fail)
  (try simp only [Act.put, List.setIfInBounds_toArray, List.set_cons_zero, List.set_cons_succ])
  go_cut [14] (fun v14 wc => v14 = .map (some w.heap.size) ∧ Aside0 (∃ m, m ≤ 8 ∧ impl_rowLamps.MapT wc w.heap.size m (impl_rowLamps.T0 fixed first before)) ∧ Aside0 (Below w.heap.size w wc))
  case first =>
    as_aux_lemma =>
      by_cases q : f0 = 1 - (first : Int)
      · have qb : (f0 != 1 - (first : Int)) = false := bne_eq_false_iff_eq.2 q
        go_wp2
        go_meet
        case rel => exact ⟨rfl, ⟨0, by omega, HM0.out.ext (fun p _ => by
          unfold impl_rowLamps.T0
          rw [if_neg (fun z => z.1 (by rw [← HF0.out]; exact q))])⟩, ⟨below_alloc (Below.refl _ _) _⟩⟩
      · have qb : (f0 != 1 - (first : Int)) = true := bne_iff_ne.2 q
        obtain ⟨w2, hput, hm2, hg2⟩ := HM0.out.put (p := (before, first)) ⟨HB0.out.1.2, HB0.out.1.1⟩ (first, 1) (by omega)
        have hput : (Instr.mapUpdate 84 (.map (some w.heap.size)) (.agg #[.int .i64 (before : Int), .int .i64 (first : Int)]) (.agg #[.int .i64 (first : Int), .int .i64 1])).run Try.prog (w.alloc (.map #[] 0)) = .ok () w2 := hput
        have HM2 := Aside0.mk hm2
        have HG2 := Aside0.mk hg2
        clear hm2 hg2
        go_wp2
        go_meet
        case rel => exact ⟨rfl, ⟨1, by omega, HM2.out.ext (fun p _ => by
          unfold impl_rowLamps.T0 impl_rowLamps.upd
          by_cases e : p = (before, first)
          · rw [if_pos e, if_pos ⟨by rw [← HF0.out]; exact q, e⟩]
          · rw [if_neg e, if_neg (fun z => e z.2)])⟩, ⟨(below_alloc (Below.refl w.heap.size w) _).grown HG2.out (by simp) (fun k e => by have := Option.some.inj e; omega)⟩⟩
  case rest =>
    clear HM0 HF0 hx0 ew ew2
    obtain ⟨rfl, HM, HB⟩ := hcut
    have HM := HM.out
    have HGW := Aside0.mk (Nat.le_refl w.heap.size)
    go_wp2
    go_loopw [14, 43] (fun nv iv wr => ∃ (g i : Nat) (T : impl_rowLamps.Tab), nv = .map (some g) ∧ iv = .int .i64 i ∧ i ≤ row.size ∧ Aside0 (impl_rowLamps.go row fixed behind last row.size (row.size - i) i T = some TN) ∧ Aside0 (∃ m, m ≤ 8 ∧ impl_rowLamps.MapT wr g m T) ∧ Aside0 (Below w.heap.size w wr) ∧ Aside0 (w.heap.size ≤ g)) (fun _ iv _ => row.size - (intOf iv).toNat)
    case atStart => exact ⟨w.heap.size, 0, _, rfl, rfl, by omega, HGO, ⟨HM⟩, HB, HGW⟩
    case round =>
      clear HGO HM HB HGW
      obtain ⟨g, i, T, rfl, rfl, hi, HGO, HM, HB, HGW⟩ := hrel
      by_cases hlt : i < row.size
      · have hd : decide ((i : Int) < (row.size : Int)) = true := decide_eq_true (by omega)
        have hfit := impl_rowLamps.go_fit HGO.out
        have hgo := HGO.out
        rw [show row.size - i = (row.size - (i + 1)) + 1 by omega] at hgo
        simp only [impl_rowLamps.go] at hgo
        rw [if_pos hfit] at hgo
        obtain ⟨cf, hcf⟩ : ∃ cf, cf = impl_rowLamps.con row fixed behind last row.size i T := ⟨_, rfl⟩
        rw [← hcf] at hgo
        have HCF := Aside0.mk hcf
        have HGN := Aside0.mk hgo
        have HFIT := Aside0.mk hfit
        have HLT := Aside0.mk hlt
        obtain ⟨m, hm8, hm⟩ := HM.out
        have HM8 := Aside0.mk hm8
        have hglt := hm.lt
        obtain ⟨w2, cnt, hrg, hran, hgr, hsz⟩ := (hm.grown (World.grownBy_alloc wr (.map #[] 0) none) (by simp)).range
        have HS0 := Aside0.mk (show impl_rowLamps.St w w2 g wr.heap.size (wr.alloc (.map #[] 0)).heap.size m 0 T (impl_rowLamps.part cf (fun _ => false)) (fun _ => false) cnt from
          ⟨⟨hran, ((impl_rowLamps.MapT.start wr).grown hgr (by simp)).ext (fun p _ => by simp [impl_rowLamps.part, impl_rowLamps.merge])⟩, (below_then HB.out HB.out.size (below_alloc (Below.refl wr.heap.size wr) _)).grown hgr (by have := HB.out.size; simp; omega) (fun k e => by cases e), ⟨HGW.out, HB.out.size⟩, by have := HB.out.size; simp; omega, by omega, by simp⟩)
        clear hgo hfit hcf hm hran hgr hsz HM hglt HGO hm8
        go_wp2
        clear hrg hd
        obtain ⟨g2, hg2⟩ : ∃ g2, g2 = wr.heap.size := ⟨_, rfl⟩
        obtain ⟨r, hr⟩ : ∃ r, r = g2 + 1 := ⟨_, rfl⟩
        rw [show (wr.alloc (.map #[] 0)).heap.size = wr.heap.size + 1 by simp, ← hg2, ← hr] at HS0
        rw [← hg2, ← hr]
        have HGR := Aside0.mk (And.intro hg2 hr)
        clear hg2 hr
        as_aux_lemma =>
          clear HB hmk
          go_loopw [] (fun wq => ∃ (done : Nat × Nat → Bool) (cnt m2 : Nat), Aside0 (impl_rowLamps.St w wq g g2 r m m2 T (impl_rowLamps.part cf done) done cnt) ∧ Aside0 (m2 ≤ 2 * impl_rowLamps.nd done)) (fun wq => wq.rangeLeft g r)
          case atStart => exact ⟨_, cnt, 0, HS0, ⟨Nat.zero_le _⟩⟩
          case round =>
            clear HS0
            clear cnt
            obtain ⟨done, cnt, m2, HS, HM2⟩ := hrel
            rcases HS.out.1.1.next with ⟨hall, hnx⟩ | ⟨p, v, w3, cnt', hp, htp, hdn, hnx, hran, hcl, hg3, hs3, hen⟩
            · have HALL := Aside0.mk hall
              clear hall
              have h1000 := HB0.out.2.2
              have hlt := HLT.out
              go_wp2
              go_roundw
              case rel => exact ⟨g2, i + 1, _, rfl, by go_num, by have := HLT.out; omega, HGN, ⟨m2, by have := HM2.out; have := impl_rowLamps.nd_le done; omega, HS.out.1.2.ext (fun q hq => by rw [HCF.out]; exact impl_rowLamps.part_all row fixed behind last row.size i T done HALL.out q hq)⟩, ⟨HS.out.2.1⟩, ⟨HS.out.2.2.1.2⟩⟩
              case measure => have := HLT.out; simp [intOf]; omega
            · have HP := Aside0.mk hp
              have HTP := Aside0.mk htp
              have HDN := Aside0.mk hdn
              have HCL := Aside0.mk hcl
              have HS1 := Aside0.mk (HS.out.come hran hg3)
              simp only [impl_rowLamps.kv] at hnx hen
              clear hp htp hdn hran hg3 hs3 hcl
              go_wp2
              clear hnx hen
              obtain ⟨b, o⟩ := p
              obtain ⟨rf, rc⟩ := v
              obtain ⟨hb2, ho2⟩ : b < 2 ∧ o < 2 := HP.out
              have HBO := Aside0.mk (And.intro hb2 ho2)
              clear hb2 ho2
              obtain ⟨w4, hw4⟩ : ∃ w4 : World, w4 = (w3.alloc (.cells #[.int .i64 (b : Int), .int .i64 (o : Int)] 88)).alloc (.cells #[.int .i64 (rf : Int), .int .i64 (rc : Int)] 86) := ⟨_, rfl⟩
              have hsb : w4.heap[w3.heap.size]? = some (.cells #[.int .i64 (b : Int), .int .i64 (o : Int)] 88 (0, 0)) := by rw [hw4]; exact blk_alloc (heap_alloc_new _ _) _
              have hrb : w4.heap[w3.heap.size + 1]? = some (.cells #[.int .i64 (rf : Int), .int .i64 (rc : Int)] 86 (0, 0)) := by
                have z := heap_alloc_new (w3.alloc (.cells #[.int .i64 (b : Int), .int .i64 (o : Int)] 88)) (.cells #[.int .i64 (rf : Int), .int .i64 (rc : Int)] 86)
                rw [show (w3.alloc (.cells #[.int .i64 (b : Int), .int .i64 (o : Int)] 88)).heap.size = w3.heap.size + 1 by simp, ← hw4] at z
                exact z
              have HS4 := Aside0.mk (show impl_rowLamps.St w w4 g g2 r m m2 T (impl_rowLamps.partx cf done (b, o) 0) (fun z => done z || decide (z = (b, o))) cnt' by
                rw [hw4]
                exact ((HS1.out.alloc _).alloc _).ext (Nat.le_refl _) (fun q _ => by unfold impl_rowLamps.partx; rw [if_neg (by omega)]))
              obtain ⟨sb, hsbe⟩ : ∃ sb, sb = w3.heap.size := ⟨_, rfl⟩
              obtain ⟨rb, hrbe⟩ : ∃ rb, rb = w3.heap.size + 1 := ⟨_, rfl⟩
              have HSR := Aside0.mk (show (w.heap.size ≤ sb ∧ w.heap.size ≤ rb) ∧ (sb ≠ g2 ∧ rb ≠ g2) ∧ sb ≠ rb from by have := HS1.out.lts; omega)
              rw [← hsbe] at hsb
              rw [← hrbe] at hrb
              have HSB4 := Aside0.mk hsb
              have HRB4 := Aside0.mk hrb
              try rw [← hw4]
              try rw [← hrbe]
              try rw [← hsbe]
              have HM20 := Aside0.mk (show m2 ≤ 2 * impl_rowLamps.nd done + 0 from HM2.out)
              have HOLD := Aside0.mk HS.out.1.1.left_eq
              clear hw4 hsb hrb hsbe hrbe HS1 HS HM2
              go_loopw [54] (fun xv wq => ∃ (x m2 : Nat), xv = .int .i64 x ∧ x ≤ 2 ∧ Aside0 (impl_rowLamps.St w wq g g2 r m m2 T (impl_rowLamps.partx cf done (b, o) x) (fun z => done z || decide (z = (b, o))) cnt') ∧ Aside0 (m2 ≤ 2 * impl_rowLamps.nd done + x) ∧ Aside0 (wq.heap[sb]? = some (.cells #[.int .i64 (b : Int), .int .i64 (o : Int)] 88 (0, 0))) ∧ Aside0 (wq.heap[rb]? = some (.cells #[.int .i64 (rf : Int), .int .i64 (rc : Int)] 86 (0, 0)))) (fun xv _ => 2 - (intOf xv).toNat)
              case atStart => exact ⟨0, m2, rfl, by omega, HS4, HM20, HSB4, HRB4⟩
              case round =>
                clear HS4 HM20 HSB4 HRB4 m2
                obtain ⟨x, m2, rfl, hx, HS, HM2, HSB, HRB⟩ := hrel
                by_cases hx2 : x < 2
                · have hxd : decide ((x : Int) < 2) = true := impl_rowLamps.lt_two x hx2
                  have hlt := HLT.out
                  have h1000 := HB0.out.2.2
                  have e1 : wrap64 ((row.size : Int) - 1) = (row.size : Int) - 1 := impl_rowLamps.w_pred _ h1000
                  have e1' : IntKind.i64.wrap ((row.size : Int) - 1) = (row.size : Int) - 1 := (i64_w _).trans e1
                  have hs0 := (blk_cell HSB.out 0).trans (show _ = some (Value.int .i64 (b : Int)) from rfl)
                  have hs1 := (blk_cell HSB.out 1).trans (show _ = some (Value.int .i64 (o : Int)) from rfl)
                  go_upto_region 14 with (fail)
                  (try simp only [Act.put, List.setIfInBounds_toArray, List.set_cons_zero, List.set_cons_succ])
                  go_cut [93] (fun v93 wc => v93 = .bool (impl_rowLamps.sk1 fixed behind last row.size i o x) ∧ wc = wr)
                  case first =>
                    as_aux_lemma =>
                      by_cases hin : i + 1 = row.size
                      · have q61 : ((i : Int) == (row.size : Int) - 1) = true := (impl_rowLamps.is_last i _ hlt).trans (decide_eq_true hin)
                        have q82 : decide ((i : Int) < (row.size : Int) - 1) = false := (impl_rowLamps.not_last i _).trans (decide_eq_false (by omega))
                        by_cases hxb : (x : Int) = behind
                        · have q65 : ((x : Int) != behind) = false := bne_eq_false_iff_eq.2 hxb
                          by_cases hl0 : 0 ≤ last
                          · have q68 : decide (last ≥ 0) = true := decide_eq_true hl0
                            by_cases hol : (o : Int) = last
                            · have q73 : ((o : Int) != last) = false := bne_eq_false_iff_eq.2 hol
                              have hsk : impl_rowLamps.sk1 fixed behind last row.size i o x = false := by unfold impl_rowLamps.sk1; rw [if_pos hin]; simp [hxb, hol]
                              clear hol hl0 hxb hin
                              go_wp2
                              go_meet
                              case rel => exact ⟨by rw [hsk], rfl⟩
                            · have q73 : ((o : Int) != last) = true := bne_iff_ne.2 hol
                              have hsk : impl_rowLamps.sk1 fixed behind last row.size i o x = true := by unfold impl_rowLamps.sk1; rw [if_pos hin]; simp [hl0, hol]
                              clear hol hl0 hxb hin
                              go_wp2
                              go_meet
                              case rel => exact ⟨by rw [hsk], rfl⟩
                          · have q68 : decide (last ≥ 0) = false := decide_eq_false hl0
                            have hsk : impl_rowLamps.sk1 fixed behind last row.size i o x = false := by unfold impl_rowLamps.sk1; rw [if_pos hin]; simp [hxb, hl0]
                            clear hl0 hxb hin
                            go_wp2
                            go_meet
                            case rel => exact ⟨by rw [hsk], rfl⟩
                        · have q65 : ((x : Int) != behind) = true := bne_iff_ne.2 hxb
                          have hsk : impl_rowLamps.sk1 fixed behind last row.size i o x = true := by unfold impl_rowLamps.sk1; rw [if_pos hin]; simp [hxb]
                          clear hxb hin
                          go_wp2
                          go_meet
                          case rel => exact ⟨by rw [hsk], rfl⟩
                      · have q61 : ((i : Int) == (row.size : Int) - 1) = false := (impl_rowLamps.is_last i _ hlt).trans (decide_eq_false hin)
                        have q82 : decide ((i : Int) < (row.size : Int) - 1) = true := (impl_rowLamps.not_last i _).trans (decide_eq_true (by omega))
                        obtain ⟨i1, hi1⟩ : ∃ i1, i1 = i + 1 := ⟨_, rfl⟩
                        have e2 : wrap64 ((i : Int) + 1) = (i1 : Int) := impl_rowLamps.w_succ i i1 (by omega) hi1
                        have e2' : IntKind.i64.wrap ((i : Int) + 1) = (i1 : Int) := (i64_w _).trans e2
                        have e3 : wrap64 (1 - (x : Int)) = 1 - (x : Int) := impl_rowLamps.w_other x hx
                        have e3' : IntKind.i64.wrap (1 - (x : Int)) = 1 - (x : Int) := (i64_w _).trans e3
                        have hlt1 : i1 < row.size := by omega
                        have hxi := HFX.out _ HS.out.2.1 i1 hlt1
                        obtain ⟨fi, hfi⟩ : ∃ fi, fi = rd fixed (i1 : Int) := ⟨_, rfl⟩
                        rw [← hfi] at hxi
                        have hsk : impl_rowLamps.sk1 fixed behind last row.size i o x = decide (fi = 1 - (x : Int)) := by
                          unfold impl_rowLamps.sk1
                          rw [if_neg hin, hfi, hi1]
                          rfl
                        clear hfi hin hi1
                        by_cases hq : fi = 1 - (x : Int)
                        · have q91 : (fi == 1 - (x : Int)) = true := beq_iff_eq.2 hq
                          have hsk2 := hsk.trans (decide_eq_true hq)
                          clear hq hsk
                          go_wp2
                          go_meet
                          case rel => exact ⟨by rw [hsk2], rfl⟩
                        · have q91 : (fi == 1 - (x : Int)) = false := beq_eq_false_iff_ne.2 hq
                          have hsk2 := hsk.trans (decide_eq_false hq)
                          clear hq hsk
                          go_wp2
                          go_meet
                          case rel => exact ⟨by rw [hsk2], rfl⟩
                  case rest =>
                    obtain ⟨rfl, hwc⟩ := hcut
                    obtain rfl : wr = wc := hwc.symm
                    cases hk1 : impl_rowLamps.sk1 fixed behind last row.size i o x with
                    | true =>
                      as_aux_lemma =>
                        have HN := Aside0.mk (show cf (b, o) x = none by rw [HCF.out]; unfold impl_rowLamps.con; rw [hk1]; simp)
                        clear hk1
                        go_wp2
                        go_roundw
                        case rel => exact ⟨x + 1, m2, by go_num, by omega, ⟨HS.out.ext (Nat.le_refl _) (fun q _ => impl_rowLamps.partx_skip cf done (b, o) x HN.out q)⟩, ⟨by have := HM2.out; omega⟩, HSB, HRB⟩
                        case measure => simp [intOf]; omega
                    | false =>
                      have HK1 := Aside0.mk hk1
                      clear hk1
                      go_upto_region 15 with (fail)
                      (try simp only [Act.put, List.setIfInBounds_toArray, List.set_cons_zero, List.set_cons_succ])
                      go_cut [107] (fun v107 wc => v107 = .bool (impl_rowLamps.sk2 row i b o x) ∧ wc = wr)
                      case first =>
                        as_aux_lemma =>
                          have p1 : (0 ≤ (i : Int) ∧ (i : Int) < (row.size : Int)) := ⟨by omega, by omega⟩
                          have p2 : i < row.size := hlt
                          have hbt : bt row (i : Int) = (((row[i]'p2).toNat : Nat) : Int) := by simp [bt, p2]
                          have hbo := HBO.out
                          have e2 : wrap64 ((b : Int) + (o : Int)) = (b : Int) + (o : Int) := impl_rowLamps.w_two b o ⟨Nat.le_trans (Nat.le_of_lt hbo.1) (by decide), Nat.le_trans (Nat.le_of_lt hbo.2) (by decide)⟩
                          have e2' : IntKind.i64.wrap ((b : Int) + (o : Int)) = (b : Int) + (o : Int) := (i64_w _).trans e2
                          have e3 : wrap64 ((b : Int) + (o : Int) + (x : Int)) = (b : Int) + (o : Int) + (x : Int) := impl_rowLamps.w_three b o x ⟨Nat.le_of_lt hbo.1, Nat.le_of_lt hbo.2, hx⟩
                          have e3' : IntKind.i64.wrap ((b : Int) + (o : Int) + (x : Int)) = (b : Int) + (o : Int) + (x : Int) := (i64_w _).trans e3
                          by_cases h35 : (((row[i]'p2).toNat : Nat) : Int) = 35
                          · have q97 : ((((row[i]'p2).toNat : Nat) : Int) == 35) = true := beq_iff_eq.2 h35
                            by_cases hz : b + o + x = 0
                            · have q106 : ((b : Int) + (o : Int) + (x : Int) == 0) = true := (impl_rowLamps.three_zero b o x).trans (decide_eq_true hz)
                              have hsk : impl_rowLamps.sk2 row i b o x = true := by unfold impl_rowLamps.sk2; rw [hbt, decide_eq_true h35, decide_eq_true hz]; rfl
                              clear h35 hz hbt
                              go_wp2
                              go_meet
                              case rel => exact ⟨by rw [hsk], rfl⟩
                            · have q106 : ((b : Int) + (o : Int) + (x : Int) == 0) = false := (impl_rowLamps.three_zero b o x).trans (decide_eq_false hz)
                              have hsk : impl_rowLamps.sk2 row i b o x = false := by unfold impl_rowLamps.sk2; rw [decide_eq_false hz, Bool.and_false]
                              clear h35 hz hbt
                              go_wp2
                              go_meet
                              case rel => exact ⟨by rw [hsk], rfl⟩
                          · have q97 : ((((row[i]'p2).toNat : Nat) : Int) == 35) = false := beq_eq_false_iff_ne.2 h35
                            have hsk : impl_rowLamps.sk2 row i b o x = false := by unfold impl_rowLamps.sk2; rw [hbt, decide_eq_false h35, Bool.false_and]
                            clear h35 hbt
                            go_wp2
                            go_meet
                            case rel => exact ⟨by rw [hsk], rfl⟩
                      case rest =>
                        obtain ⟨rfl, hwc⟩ := hcut
                        obtain rfl : wr = wc := hwc.symm
                        cases hk2 : impl_rowLamps.sk2 row i b o x with
                        | true =>
                          as_aux_lemma =>
                            have HN := Aside0.mk (show cf (b, o) x = none by rw [HCF.out]; unfold impl_rowLamps.con; rw [hk2]; simp)
                            clear hk2
                            go_wp2
                            go_roundw
                            case rel => exact ⟨x + 1, m2, by go_num, by omega, ⟨HS.out.ext (Nat.le_refl _) (fun q _ => impl_rowLamps.partx_skip cf done (b, o) x HN.out q)⟩, ⟨by have := HM2.out; omega⟩, HSB, HRB⟩
                            case measure => simp [intOf]; omega
                        | false =>
                          have HCO := Aside0.mk (show cf (b, o) x = some (rf + (if i + 1 < row.size then x else 0), rc) by rw [HCF.out]; unfold impl_rowLamps.con; rw [HK1.out, hk2, HTP.out]; rfl)
                          clear hk2
                          (try simp only [Act.put, List.setIfInBounds_toArray, List.set_cons_zero, List.set_cons_succ])
                          go_wp2
                          clear e1 e1' hxd hs0
                          have hr0 := (blk_cell HRB.out 0).trans (show _ = some (Value.int .i64 (rf : Int)) from rfl)
                          have hr1 := (blk_cell HRB.out 1).trans (show _ = some (Value.int .i64 (rc : Int)) from rfl)
                          go_cut [20, 21] (fun v20 v21 wc => ∃ sq so : Nat, v20 = .pointer (some ⟨sq, 0, none⟩) ∧ v21 = .pointer (some ⟨so, 0, none⟩) ∧ Aside0 (Below wr.heap.size wr wc) ∧ Aside0 (wr.heap.size ≤ sq ∧ wr.heap.size ≤ so ∧ sq ≠ so) ∧ Aside0 (wc.heap[sq]? = some (.cells #[.int .i64 (o : Int), .int .i64 (x : Int)] 88 (0, 0))) ∧ Aside0 (wc.heap[so]? = some (.cells #[.int .i64 (rf : Int), .int .i64 (rc : Int)] 86 (0, 0))))
                          case first =>
                            as_aux_lemma =>
                              have hsl := (Array.getElem?_eq_some_iff.1 HSB.out).1
                              have hrl := (Array.getElem?_eq_some_iff.1 HRB.out).1
                              have ns1 : ¬ wr.heap.size = rb := by omega
                              have ns2 : ¬ wr.heap.size + 1 = rb := by omega
                              have ns3 : ¬ wr.heap.size = sb := by omega
                              have ns4 : ¬ wr.heap.size + 1 = sb := by omega
                              obtain ⟨oo, hoo⟩ : ∃ oo, oo = o := ⟨_, rfl⟩
                              subst hoo
                              have a1 : ∀ o : Obj, (wr.alloc o).cell? ⟨sb, 1, none⟩ = some (.int .i64 (oo : Int)) := fun o => (blk_cell (blk_alloc HSB.out o) 1).trans rfl
                              have a2 : ∀ o o' : Obj, ((wr.alloc o).alloc o').cell? ⟨sb, 1, none⟩ = some (.int .i64 (oo : Int)) := fun o o' => (blk_cell (blk_alloc (blk_alloc HSB.out o) o') 1).trans rfl
                              have b1 : ∀ o : Obj, (wr.alloc o).cell? ⟨rb, 0, none⟩ = some (.int .i64 (rf : Int)) := fun o => (blk_cell (blk_alloc HRB.out o) 0).trans rfl
                              have b2 : ∀ o o' : Obj, ((wr.alloc o).alloc o').cell? ⟨rb, 0, none⟩ = some (.int .i64 (rf : Int)) := fun o o' => (blk_cell (blk_alloc (blk_alloc HRB.out o) o') 0).trans rfl
                              have c1 : ∀ o : Obj, (wr.alloc o).cell? ⟨rb, 1, none⟩ = some (.int .i64 (rc : Int)) := fun o => (blk_cell (blk_alloc HRB.out o) 1).trans rfl
                              have c2 : ∀ o o' : Obj, ((wr.alloc o).alloc o').cell? ⟨rb, 1, none⟩ = some (.int .i64 (rc : Int)) := fun o o' => (blk_cell (blk_alloc (blk_alloc HRB.out o) o') 1).trans rfl
                              clear HS HM2 hsl hrl
                              go_region
                              all_goals go_wp2
                              all_goals go_meet
                              all_goals first | exact ⟨wr.heap.size, wr.heap.size + 1, rfl, rfl, ⟨below_drew1 (impl_rowLamps.below_two _ _ _)⟩, ⟨by omega⟩, ⟨impl_rowLamps.new_one _ _ _ _ _⟩, ⟨impl_rowLamps.new_two _ _ _ _ _⟩⟩ | exact ⟨wr.heap.size + 1, wr.heap.size, rfl, rfl, ⟨below_drew1 (impl_rowLamps.below_two _ _ _)⟩, ⟨by omega⟩, ⟨impl_rowLamps.new_two _ _ _ _ _⟩, ⟨impl_rowLamps.new_one _ _ _ _ _⟩⟩
                          case rest =>
                            clear hr0 hr1 hs1
                            obtain ⟨sq, so, rfl, rfl, HBN, HNW, HSQ, HSO⟩ := hcut
                            obtain ⟨ow, how⟩ : ∃ ow, ow = rf + (if i + 1 < row.size then x else 0) := ⟨_, rfl⟩
                            rw [← how] at HCO
                            have HOW := Aside0.mk how
                            clear how
                            have e1 : wrap64 ((row.size : Int) - 1) = (row.size : Int) - 1 := impl_rowLamps.w_pred _ h1000
                            have e1' : IntKind.i64.wrap ((row.size : Int) - 1) = (row.size : Int) - 1 := (i64_w _).trans e1
                            go_upto_if 117 with (fail)
                            (try simp only [Act.put, List.setIfInBounds_toArray, List.set_cons_zero, List.set_cons_succ])
                            go_cut [] (fun wd => Aside0 (Below wr.heap.size wr wd) ∧ Aside0 (wd.heap[sq]? = some (.cells #[.int .i64 (o : Int), .int .i64 (x : Int)] 88 (0, 0))) ∧ Aside0 (wd.heap[so]? = some (.cells #[.int .i64 (ow : Int), .int .i64 (rc : Int)] 86 (0, 0))))
                            case first =>
                              as_aux_lemma =>
                                by_cases hin : i + 1 < row.size
                                · have q117 : decide ((i : Int) < (row.size : Int) - 1) = true := (impl_rowLamps.not_last i _).trans (decide_eq_true hin)
                                  have p117 : (i : Int) < (row.size : Int) - 1 := of_decide_eq_true q117
                                  have hrf := impl_rowLamps.fit_at HFIT.out HP.out HTP.out
                                  have e2 : wrap64 ((rf : Int) + (x : Int)) = (ow : Int) := by rw [impl_rowLamps.w_two rf x ⟨by omega, by omega⟩, HOW.out, if_pos hin, Int.natCast_add]
                                  have e2' : IntKind.i64.wrap ((rf : Int) + (x : Int)) = (ow : Int) := (i64_w _).trans e2
                                  have hc0 := (blk_cell HSO.out 0).trans (show _ = some (Value.int .i64 (rf : Int)) from rfl)
                                  have hf0 := impl_rowLamps.cells_free HSO.out 0
                                  clear hin hrf
                                  go_wp2
                                  go_meet
                                  case rel => exact ⟨⟨HBN.out.setCell (p := ⟨so, 0, none⟩) HNW.out.2.1 _⟩, ⟨(Below.heap_setCell _ ⟨so, 0, none⟩ _ _ HNW.out.2.2).trans HSQ.out⟩, ⟨impl_rowLamps.cells_set HSO.out⟩⟩
                                · have q117 : decide ((i : Int) < (row.size : Int) - 1) = false := (impl_rowLamps.not_last i _).trans (decide_eq_false hin)
                                  have p117 : ¬ (i : Int) < (row.size : Int) - 1 := of_decide_eq_false q117
                                  have hrw : ow = rf := by rw [HOW.out, if_neg hin]; rfl
                                  clear hin
                                  go_wp2
                                  go_meet
                                  case rel => exact ⟨HBN, HSQ, ⟨by rw [hrw]; exact HSO.out⟩⟩
                            case rest =>
                              clear HBN HSQ HSO e1 e1'
                              obtain ⟨HBN, HSQ, HSO⟩ := hcut
                              have HS6 := Aside0.mk (HS.out.below HBN.out)
                              have HSB6 := Aside0.mk ((HBN.out.block sb (Array.getElem?_eq_some_iff.1 HSB.out).1).trans HSB.out)
                              have HRB6 := Aside0.mk ((HBN.out.block rb (Array.getElem?_eq_some_iff.1 HRB.out).1).trans HRB.out)
                              clear HS HSB HRB HBN
                              have hq0 := (blk_cell HSQ.out 0).trans (show _ = some (Value.int .i64 (o : Int)) from rfl)
                              have hq1 := (blk_cell HSQ.out 1).trans (show _ = some (Value.int .i64 (x : Int)) from rfl)
                              have qa0 : ∀ O : Obj, (wc.alloc O).cell? ⟨sq, 0, none⟩ = some (.int .i64 (o : Int)) := fun O => (blk_cell (blk_alloc HSQ.out O) 0).trans rfl
                              have qa1 : ∀ O : Obj, (wc.alloc O).cell? ⟨sq, 1, none⟩ = some (.int .i64 (x : Int)) := fun O => (blk_cell (blk_alloc HSQ.out O) 1).trans rfl
                              have oa0 : ∀ O : Obj, (wc.alloc O).cell? ⟨so, 0, none⟩ = some (.int .i64 (ow : Int)) := fun O => (blk_cell (blk_alloc HSO.out O) 0).trans rfl
                              have oa1 : ∀ O : Obj, (wc.alloc O).cell? ⟨so, 1, none⟩ = some (.int .i64 (rc : Int)) := fun O => (blk_cell (blk_alloc HSO.out O) 1).trans rfl
                              have hlk := HS6.out.1.2.look (p := (o, x)) ⟨HBO.out.2, hx2⟩
                              obtain ⟨old, hold⟩ : ∃ old, old = impl_rowLamps.partx cf done (b, o) x (o, x) := ⟨_, rfl⟩
                              rw [← hold] at hlk
                              have HOLD2 := Aside0.mk hold
                              cases old with
                              | none =>
                                as_aux_lemma =>
                                  have hlk : (Instr.lookup 84 (.map (some g2)) (.agg #[.int .i64 (o : Int), .int .i64 (x : Int)]) true).run Try.prog wc = .ok (.tuple #[.agg #[.int .i64 0, .int .i64 0], .bool false]) wc := hlk
                                  clear hold
                                  obtain ⟨w7, hput, hm7, hg7⟩ := (HS6.out.alloc (.cells #[.int .i64 0, .int .i64 0] 86)).1.2.put (p := (o, x)) ⟨HBO.out.2, hx2⟩ (ow, rc) (by have := HM2.out; have := impl_rowLamps.nd_le done; omega)
                                  have hput : (Instr.mapUpdate 84 (.map (some g2)) (.agg #[.int .i64 (o : Int), .int .i64 (x : Int)]) (.agg #[.int .i64 (ow : Int), .int .i64 (rc : Int)])).run Try.prog (wc.alloc (.cells #[.int .i64 0, .int .i64 0] 86)) = .ok () w7 := hput
                                  have HS7 := Aside0.mk (((HS6.out.alloc (.cells #[.int .i64 0, .int .i64 0] 86)).put hm7 hg7).ext (Nat.le_refl _) (fun q _ => impl_rowLamps.partx_put cf done (b, o) x (ow, rc) (by rw [← HOLD2.out, HCO.out]; rfl) q))
                                  have HSB7 := Aside0.mk ((hg7.block sb (by have := (Array.getElem?_eq_some_iff.1 HSB6.out).1; simp; omega) (fun e => HSR.out.2.1.1 (Option.some.inj e))).trans (blk_alloc HSB6.out _))
                                  have HRB7 := Aside0.mk ((hg7.block rb (by have := (Array.getElem?_eq_some_iff.1 HRB6.out).1; simp; omega) (fun e => HSR.out.2.1.2 (Option.some.inj e))).trans (blk_alloc HRB6.out _))
                                  clear hm7 hg7
                                  go_wp2
                                  go_roundw
                                  case rel => exact ⟨x + 1, m2 + 1, by go_num, by omega, HS7, ⟨by have := HM2.out; omega⟩, HSB7, HRB7⟩
                                  case measure => simp [intOf]; omega
                              | some old =>
                                obtain ⟨f1, k1⟩ := old
                                have hlk : (Instr.lookup 84 (.map (some g2)) (.agg #[.int .i64 (o : Int), .int .i64 (x : Int)]) true).run Try.prog wc = .ok (.tuple #[.agg #[.int .i64 (f1 : Int), .int .i64 (k1 : Int)], .bool true]) wc := hlk
                                have hsm := impl_rowLamps.partx_small (row := row) (fixed := fixed) (behind := behind) (last := last) (n := row.size) (i := i) HFIT.out HP.out HDN.out hx2 (r := (f1, k1)) (by rw [← HCF.out]; exact hold.symm)
                                have hrs := impl_rowLamps.fit_at HFIT.out HP.out HTP.out
                                have HSM := Aside0.mk (show k1 ≤ 1000000000000 ∧ rc ≤ 1000000000000 from ⟨hsm.2.1, hrs.2.1⟩)
                                clear hold hsm hrs
                                by_cases hlo : ow < f1
                                · as_aux_lemma =>
                                    have q137 : decide ((ow : Int) < (f1 : Int)) = true := decide_eq_true (by omega)
                                    obtain ⟨w7, hput, hm7, hg7⟩ := (HS6.out.alloc (.cells #[.int .i64 (f1 : Int), .int .i64 (k1 : Int)] 86)).1.2.put (p := (o, x)) ⟨HBO.out.2, hx2⟩ (ow, rc) (by have := HM2.out; have := impl_rowLamps.nd_le done; omega)
                                    have hput : (Instr.mapUpdate 84 (.map (some g2)) (.agg #[.int .i64 (o : Int), .int .i64 (x : Int)]) (.agg #[.int .i64 (ow : Int), .int .i64 (rc : Int)])).run Try.prog (wc.alloc (.cells #[.int .i64 (f1 : Int), .int .i64 (k1 : Int)] 86)) = .ok () w7 := hput
                                    have HS7 := Aside0.mk (((HS6.out.alloc (.cells #[.int .i64 (f1 : Int), .int .i64 (k1 : Int)] 86)).put hm7 hg7).ext (Nat.le_refl _) (fun q _ => impl_rowLamps.partx_put cf done (b, o) x (ow, rc) (by rw [← HOLD2.out, HCO.out]; exact impl_rowLamps.m_gt hlo) q))
                                    have HSB7 := Aside0.mk ((hg7.block sb (by have := (Array.getElem?_eq_some_iff.1 HSB6.out).1; simp; omega) (fun e => HSR.out.2.1.1 (Option.some.inj e))).trans (blk_alloc HSB6.out _))
                                    have HRB7 := Aside0.mk ((hg7.block rb (by have := (Array.getElem?_eq_some_iff.1 HRB6.out).1; simp; omega) (fun e => HSR.out.2.1.2 (Option.some.inj e))).trans (blk_alloc HRB6.out _))
                                    clear hm7 hg7
                                    go_wp2
                                    go_roundw
                                    case rel => exact ⟨x + 1, m2 + 1, by go_num, by omega, HS7, ⟨by have := HM2.out; omega⟩, HSB7, HRB7⟩
                                    case measure => simp [intOf]; omega
                                · have p137 : ¬ (ow : Int) < (f1 : Int) := by omega
                                  have q137 : decide ((ow : Int) < (f1 : Int)) = false := decide_eq_false p137
                                  by_cases heq : ow = f1
                                  · as_aux_lemma =>
                                      subst heq
                                      have q147 : ((ow : Int) == (ow : Int)) = true := by simp
                                      obtain ⟨ks, hks⟩ : ∃ ks, ks = k1 + rc := ⟨_, rfl⟩
                                      have e5 : wrap64 ((k1 : Int) + (rc : Int)) = (ks : Int) := by rw [hks]; exact impl_rowLamps.w_big k1 rc HSM.out
                                      have e5' : IntKind.i64.wrap ((k1 : Int) + (rc : Int)) = (ks : Int) := (i64_w _).trans e5
                                      have HKS := Aside0.mk hks
                                      clear hlo hks
                                      obtain ⟨w7, hput, hm7, hg7⟩ := (HS6.out.alloc (.cells #[.int .i64 (ow : Int), .int .i64 (k1 : Int)] 86)).1.2.put (p := (o, x)) ⟨HBO.out.2, hx2⟩ (ow, ks) (by have := HM2.out; have := impl_rowLamps.nd_le done; omega)
                                      have hput : (Instr.mapUpdate 84 (.map (some g2)) (.agg #[.int .i64 (o : Int), .int .i64 (x : Int)]) (.agg #[.int .i64 (ow : Int), .int .i64 (ks : Int)])).run Try.prog (wc.alloc (.cells #[.int .i64 (ow : Int), .int .i64 (k1 : Int)] 86)) = .ok () w7 := hput
                                      have HS7 := Aside0.mk (((HS6.out.alloc (.cells #[.int .i64 (ow : Int), .int .i64 (k1 : Int)] 86)).put hm7 hg7).ext (Nat.le_refl _) (fun q _ => impl_rowLamps.partx_put cf done (b, o) x (ow, ks) (by rw [← HOLD2.out, HCO.out]; rw [HKS.out]; exact impl_rowLamps.m_eq rfl) q))
                                      have HSB7 := Aside0.mk ((hg7.block sb (by have := (Array.getElem?_eq_some_iff.1 HSB6.out).1; simp; omega) (fun e => HSR.out.2.1.1 (Option.some.inj e))).trans (blk_alloc HSB6.out _))
                                      have HRB7 := Aside0.mk ((hg7.block rb (by have := (Array.getElem?_eq_some_iff.1 HRB6.out).1; simp; omega) (fun e => HSR.out.2.1.2 (Option.some.inj e))).trans (blk_alloc HRB6.out _))
                                      clear hm7 hg7
                                      go_wp2
                                      go_roundw
                                      case rel => exact ⟨x + 1, m2 + 1, by go_num, by omega, HS7, ⟨by have := HM2.out; omega⟩, HSB7, HRB7⟩
                                      case measure => simp [intOf]; omega
                                  · as_aux_lemma =>
                                      have p147 : ¬ (ow : Int) = (f1 : Int) := by omega
                                      have q147 : ((ow : Int) == (f1 : Int)) = false := beq_eq_false_iff_ne.2 p147
                                      have HS7 := Aside0.mk ((HS6.out.alloc (.cells #[.int .i64 (f1 : Int), .int .i64 (k1 : Int)] 86)).ext (Nat.le_refl _) (fun q _ => impl_rowLamps.partx_same cf done (b, o) x (by rw [← HOLD2.out, HCO.out]; exact impl_rowLamps.m_lt (by show f1 < ow; omega)) q))
                                      have HSB7 := Aside0.mk (blk_alloc HSB6.out (.cells #[.int .i64 (f1 : Int), .int .i64 (k1 : Int)] 86))
                                      have HRB7 := Aside0.mk (blk_alloc HRB6.out (.cells #[.int .i64 (f1 : Int), .int .i64 (k1 : Int)] 86))
                                      clear heq hlo
                                      go_wp2
                                      go_roundw
                                      case rel => exact ⟨x + 1, m2, by go_num, by omega, HS7, ⟨by have := HM2.out; omega⟩, HSB7, HRB7⟩
                                      case measure => simp [intOf]; omega
                · obtain rfl : x = 2 := by omega
                  clear hx hx2
                  go_wp2
                  go_roundw
                  case rel => exact ⟨_, cnt', m2, ⟨HS.out.ext (Nat.le_refl _) (fun q hq => impl_rowLamps.partx_end cf done (b, o) HP.out HDN.out q hq)⟩, ⟨by rw [impl_rowLamps.nd_add done (b, o) HP.out HDN.out]; have := HM2.out; omega⟩⟩
                  case measure => rw [HS.out.1.1.left_eq, HOLD.out]; exact HCL.out
      · have hd : decide ((i : Int) < (row.size : Int)) = false := decide_eq_false (by omega)
        have hdp : ¬ (i : Int) < (row.size : Int) := by omega
        have hgo := HGO.out
        rw [show row.size - i = 0 by omega] at hgo
        simp only [impl_rowLamps.go] at hgo
        obtain ⟨hfit, hT⟩ := Option.ite_none_right_eq_some.1 hgo
        have hv : impl_rowLamps.out (impl_rowLamps.fin T (fun _ => true)) = v := by rw [Option.some.inj hT]; exact HV.out
        have HV := Aside0.mk hv
        have HFIT := Aside0.mk hfit
        obtain ⟨m, hm8, hm⟩ := HM.out
        obtain ⟨w2, cnt, hrg, hran, hgr, hsz⟩ := hm.range
        have HR0 := Aside0.mk hran
        have HB0' := Aside0.mk (HB.out.grown hgr HB.out.size (fun k e => by cases e))
        have HH0 := Aside0.mk (show impl_rowLamps.out (impl_rowLamps.fin T (fun _ => false)) = (0, 0) from by simp [impl_rowLamps.fin, impl_rowLamps.merge, impl_rowLamps.out])
        have HRLE := Aside0.mk (show w.heap.size ≤ wr.heap.size from HB.out.size)
        clear hgo hT hv hfit hm hm8 hran hgr hsz HM hi hlt HGO HB hmk
        go_wp2
        clear hrg hd hdp
        obtain ⟨r, hr⟩ : ∃ r, r = wr.heap.size := ⟨_, rfl⟩
        rw [← hr] at HR0 HRLE ⊢
        clear hr
        go_loopw [24, 25] (fun fv cv wq => ∃ (done : Nat × Nat → Bool) (cnt f k : Nat), fv = .int .i64 f ∧ cv = .int .i64 k ∧ Aside0 (impl_rowLamps.Ran wq g r m T done cnt) ∧ Aside0 (Below w.heap.size w wq) ∧ Aside0 (impl_rowLamps.out (impl_rowLamps.fin T done) = (f, k))) (fun _ _ wq => wq.rangeLeft g r)
        case atStart => exact ⟨_, cnt, 0, 0, rfl, rfl, HR0, HB0', HH0⟩
        case round =>
          clear HR0 HB0' HH0 cnt
          obtain ⟨done, cnt, f, k, rfl, rfl, HR, HB, HO⟩ := hrel
          rcases HR.out.next with ⟨hall, hnx⟩ | ⟨p, pv, w3, cnt', hp, htp, hdn, hnx, hran, hcl, hg3, hs3, hen⟩
          · as_aux_lemma =>
              have HALL := Aside0.mk hall
              clear hall
              go_wp2
              refine bodyPost_ret (results_list (rs := [.tmp 12, .tmp 13]) rfl (by simp) (.tmp (.tmp .nil))) rfl ?_
              have z := HO.out
              rw [impl_rowLamps.fin_all T done HALL.out, HV.out] at z
              exact ⟨by rw [z]; rfl, HB.out⟩
          · obtain ⟨b, o⟩ := p
            obtain ⟨rf, rc⟩ := pv
            have HP := Aside0.mk hp
            have HTP := Aside0.mk htp
            have HDN := Aside0.mk hdn
            have HCL := Aside0.mk hcl
            have HOLD := Aside0.mk HR.out.left_eq
            have HR1 := Aside0.mk (hran.grown (World.grownBy_alloc w3 (.cells #[.int .i64 (rf : Int), .int .i64 (rc : Int)] 86) none) (by simp) (by simp))
            have HB1 := Aside0.mk (below_then (HB.out.grown hg3 HB.out.size (fun k e => by rw [← Option.some.inj e]; exact HRLE.out)) (Nat.le_trans HB.out.size hg3.size) (below_alloc (Below.refl w3.heap.size w3) (.cells #[.int .i64 (rf : Int), .int .i64 (rc : Int)] 86)))
            simp only [impl_rowLamps.kv] at hnx hen
            have hrs := impl_rowLamps.fit_at HFIT.out hp htp
            obtain ⟨hr1, hr2, hr3⟩ : rf ≤ 1000 ∧ rc ≤ 1000000000000 ∧ 1 ≤ rc := hrs
            have hsm := impl_rowLamps.fin_small HFIT.out done
            have hcase : (impl_rowLamps.fin T done = none ∧ f = 0 ∧ k = 0) ∨ (impl_rowLamps.fin T done = some (f, k) ∧ 1 ≤ k ∧ k ≤ 4000000000000) := by
              have z := HO.out
              cases hq : impl_rowLamps.fin T done with
              | none => rw [hq] at z; exact .inl ⟨rfl, (Prod.mk.inj z).1.symm, (Prod.mk.inj z).2.symm⟩
              | some q =>
                rw [hq] at z
                have z : q = (f, k) := z
                subst z
                have := hsm _ hq
                exact .inr ⟨rfl, this.2.2, this.2.1⟩
            have w1 : wrap64 (rc : Int) = (rc : Int) := impl_rowLamps.w_self rc hr2
            have w1' : IntKind.i64.wrap (rc : Int) = (rc : Int) := (i64_w _).trans w1
            have w0 : wrap64 (0 + (rc : Int)) = (rc : Int) := by rw [Int.zero_add]; exact w1
            have w0' : IntKind.i64.wrap (0 + (rc : Int)) = (rc : Int) := (i64_w _).trans w0
            have qrr : ((rf : Int) == (rf : Int)) = true := by simp
            have HRS := Aside0.mk (And.intro hr2 hr3)
            clear hp htp hdn hran hg3 hs3 hcl hr1 hr2 hr3 hsm
            rcases hcase with ⟨hq, hf0, hk0⟩ | ⟨hq, hk1, hk2⟩
            · as_aux_lemma =>
                have p168 : (k : Int) = 0 := by omega
                have q168 : ((k : Int) == 0) = true := by rw [p168]; rfl
                have HO2 := Aside0.mk (show impl_rowLamps.out (impl_rowLamps.fin T (fun z => done z || decide (z = (b, o)))) = (rf, rc) by rw [impl_rowLamps.fin_add T done (b, o) HP.out HDN.out, HTP.out, hq]; rfl)
                clear hq hf0 hk0
                go_wp2
                go_roundw
                case rel => exact ⟨_, cnt', rf, rc, rfl, rfl, HR1, HB1, HO2⟩
                case measure => rw [HR1.out.left_eq, HOLD.out]; exact HCL.out
            · have p168 : ¬ (k : Int) = 0 := by omega
              have q168 : ((k : Int) == 0) = false := beq_eq_false_iff_ne.2 p168
              by_cases hlo : rf < f
              · as_aux_lemma =>
                  have p173 : (rf : Int) < (f : Int) := by omega
                  have q173 : decide ((rf : Int) < (f : Int)) = true := decide_eq_true p173
                  have HO2 := Aside0.mk (show impl_rowLamps.out (impl_rowLamps.fin T (fun z => done z || decide (z = (b, o)))) = (rf, rc) by rw [impl_rowLamps.fin_add T done (b, o) HP.out HDN.out, HTP.out, hq, impl_rowLamps.m_gt hlo]; rfl)
                  clear hq hk1 hk2 hlo
                  go_wp2
                  go_roundw
                  case rel => exact ⟨_, cnt', rf, rc, rfl, rfl, HR1, HB1, HO2⟩
                  case measure => rw [HR1.out.left_eq, HOLD.out]; exact HCL.out
              · have p173 : ¬ (rf : Int) < (f : Int) := by omega
                have q173 : decide ((rf : Int) < (f : Int)) = false := decide_eq_false p173
                by_cases heq : rf = f
                · as_aux_lemma =>
                    subst heq
                    obtain ⟨ks, hks⟩ : ∃ ks, ks = k + rc := ⟨_, rfl⟩
                    have w2 : wrap64 ((k : Int) + (rc : Int)) = (ks : Int) := by rw [hks]; exact impl_rowLamps.w_sum k rc ⟨hk2, HRS.out.1⟩
                    have w2' : IntKind.i64.wrap ((k : Int) + (rc : Int)) = (ks : Int) := (i64_w _).trans w2
                    have HO2 := Aside0.mk (show impl_rowLamps.out (impl_rowLamps.fin T (fun z => done z || decide (z = (b, o)))) = (rf, ks) by rw [impl_rowLamps.fin_add T done (b, o) HP.out HDN.out, HTP.out, hq, impl_rowLamps.m_eq (a := (rf, k)) (b := (rf, rc)) rfl, hks]; rfl)
                    clear hq hk1 hk2 hlo hks
                    go_wp2
                    go_roundw
                    case rel => exact ⟨_, cnt', rf, ks, rfl, rfl, HR1, HB1, HO2⟩
                    case measure => rw [HR1.out.left_eq, HOLD.out]; exact HCL.out
                · as_aux_lemma =>
                    have p180 : ¬ (rf : Int) = (f : Int) := by omega
                    have q180 : ((rf : Int) == (f : Int)) = false := beq_eq_false_iff_ne.2 p180
                    have HO2 := Aside0.mk (show impl_rowLamps.out (impl_rowLamps.fin T (fun z => done z || decide (z = (b, o)))) = (f, k) by rw [impl_rowLamps.fin_add T done (b, o) HP.out HDN.out, HTP.out, hq, impl_rowLamps.m_lt (show f < rf by omega)]; rfl)
                    clear hq hk1 hk2 hlo heq
                    go_wp2
                    go_roundw
                    case rel => exact ⟨_, cnt', f, k, rfl, rfl, HR1, HB1, HO2⟩
                    case measure => rw [HR1.out.left_eq, HOLD.out]; exact HCL.out
def impl_rowLamps.f (a0 : ByteArray) (l1 : List Int) (a2 a3 a4 a5 : Int) : Option (Int × Int) :=
  if ((1 ≤ a0.size ∧ a0.size ≤ 1000) ∧ l1.length = a0.size) ∧ (0 ≤ a2 ∧ a2 < 2) ∧ (0 ≤ a3 ∧ a3 < 2) then (impl_rowLamps.val a0 l1 a2.toNat a3.toNat a4 a5).map fun v => ((v.1 : Int), (v.2 : Int)) else none
theorem impl_rowLamps.calls (a0 : ByteArray) (A1 : Option Addr) (c1 : Nat) (l1 : List Int) (a2 a3 a4 a5 : Int) (r1 r2 : Int) (w : World) (hr1 : Kd.C (Kd.int .i64) w A1 l1.length l1) (hc1 : l1.length ≤ c1) (h : impl_rowLamps.f a0 l1 a2 a3 a4 a5 = some (r1, r2)) :
    Calls Try.prog 47 #[.string a0, .slice A1 l1.length c1, .int .i64 a2, .int .i64 a3, .int .i64 a4, .int .i64 a5] w fun e w' => e = .returned (.tuple #[.int .i64 r1, .int .i64 r2]) ∧ Below w.heap.size w w' := by
  unfold impl_rowLamps.f at h
  obtain ⟨⟨⟨hz, hl⟩, ⟨h2, h2'⟩, h3, h3'⟩, h⟩ := Option.ite_none_right_eq_some.1 h
  obtain ⟨v, hv, e⟩ := Option.map_eq_some_iff.1 h
  obtain ⟨rfl, rfl⟩ := Prod.mk.inj e
  obtain ⟨n2, rfl⟩ := Int.eq_ofNat_of_zero_le h2
  obtain ⟨n3, rfl⟩ := Int.eq_ofNat_of_zero_le h3
  exact impl_rowLamps.walk a0 A1 c1 l1 n2 n3 a4 a5 w ⟨hz, hl, by omega, by omega⟩ hr1 hc1 v hv

end Go.Proofs.Ytlmenkhklpfefaa.MR
