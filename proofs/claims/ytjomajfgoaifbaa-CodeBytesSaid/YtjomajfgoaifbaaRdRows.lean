/-
  PROVED HERE: code that a call lays itself, row by row, in a variable of its own: what it is, what keeps it, how it grows; and that it then lies in memory as code does. No condition beyond the lemmas' own premises.
-/
import Derived.Test.YtjomajfgoaifbaaPCount
import Derived.Laws.OwnMore
namespace Go.Proofs.Ytjomajfgoaifbaa
open Go.RowKit

/-- The old blocks are as they were, but one. -/
structure But (p : Nat) (w w' : World) : Prop where
  low : Below p w w'
  kept : ∀ k, k < w.heap.size → k ≠ p → w'.heap[k]? = w.heap[k]?

theorem But.refl (p : Nat) (w : World) : But p w w := ⟨Below.refl _ _, fun _ _ _ => rfl⟩
theorem But.trans {p : Nat} {a b c : World} (h : But p a b) (k : But p b c) : But p a c :=
  ⟨h.low.trans k.low, fun i hi hp => (k.kept i (Nat.lt_of_lt_of_le hi h.low.size) hp).trans (h.kept i hi hp)⟩
theorem Only.but {p : Nat} {w w' : World} (h : Only p w w') : But p w w' := ⟨h.low, fun k _ hp => h.kept k hp⟩
theorem But.of {p : Nat} {w w' : World} (h : Below w.heap.size w w') (hp : p ≤ w.heap.size) : But p w w' := ⟨h.mono hp, fun k hk _ => h.block k hk⟩
theorem But.alloc {p : Nat} {a b : World} (h : But p a b) (hp : p ≤ b.heap.size) (o : Obj) : But p a (b.alloc o) := h.trans (But.of ((Below.refl _ _).alloc (Nat.le_refl _) o) hp)
theorem But.drew {p : Nat} {a b : World} (h : But p a b) : But p a b.drew := ⟨h.low.drew, h.kept⟩
/-- A store to a block that the call has made since. -/
theorem But.set {p : Nat} {a b : World} (h : But p a b) (q i : Nat) (v : Value) (hq : a.heap.size ≤ q) (hp : p ≤ q) : But p a (b.setCell ⟨q, i, none⟩ v) :=
  ⟨h.low.setCell (p := ⟨q, i, none⟩) hp v, fun k hk hne => (Below.heap_setCell b ⟨q, i, none⟩ v k (by show k ≠ q; omega)).trans (h.kept k hk hne)⟩
theorem blk_but {p k : Nat} {w w' : World} {c : Array Value} {t t' : TypeId} {c' : Array Value} (h : w.heap[k]? = some (.cells c t (0, 0))) (hb : But p w w') (hp : w.heap[p]? = some (.cells c' t' (0, 0))) (hne : t ≠ t') : w'.heap[k]? = some (.cells c t (0, 0)) := by
  refine (hb.kept k (blk_lt h) ?_).trans h
  rintro rfl
  rw [h] at hp
  cases hp
  exact hne rfl
theorem own_but {p base e size n : Nat} {w w' : World} {v : Value} {xs : List Value} {t' : TypeId} {c' : Array Value} (h : w.ownsRow base e size v n xs) (hb : But p w w') (hp : w.heap[p]? = some (.cells c' t' (0, 0))) (hne : e ≠ t') : w'.ownsRow base e size v n xs := by
  refine ⟨h.1, ?_⟩
  rcases h.2 with h | ⟨g, cap, cur, rfl, h1, hg, h2⟩
  · exact Or.inl h
  · exact Or.inr ⟨g, cap, cur, rfl, h1, blk_but hg hb hp hne, h2⟩
theorem own_lower {b0 base e size n : Nat} {w : World} {v : Value} {xs : List Value} (h : w.ownsRow base e size v n xs) (hb : b0 ≤ base) : w.ownsRow b0 e size v n xs := by
  refine ⟨h.1, ?_⟩
  rcases h.2 with h | ⟨g, cap, cur, rfl, h1, hg, h2⟩
  · exact Or.inl h
  · exact Or.inr ⟨g, cap, cur, rfl, by omega, hg, h2⟩
/-- A row of another type, where a row grows. -/
theorem own_grown {base base2 e e2 size size2 n n2 : Nat} {w w' : World} {v v2 : Value} {xs xs2 : List Value} (h : w.ownsRow base e size v n xs) (h2 : w.ownsRow base2 e2 size2 v2 n2 xs2) (hne : e ≠ e2) (hg : w.grownBy w' v2.ownBlock) : w'.ownsRow base e size v n xs := by
  refine ⟨h.1, ?_⟩
  rcases h.2 with h | ⟨g, cap, cur, rfl, h1, hb, h3⟩
  · exact Or.inl h
  · refine Or.inr ⟨g, cap, cur, rfl, h1, (hg.block g (blk_lt hb) ?_).trans hb, h3⟩
    intro e0
    exact own_ne_blk h2 hb (fun e1 => hne e1.symm) e0.symm
theorem own_set {base e size n p i : Nat} {w : World} {v u : Value} {xs : List Value} {t : TypeId} {c : Array Value} (h : w.ownsRow base e size v n xs) (hp : w.heap[p]? = some (.cells c t (0, 0))) (hne : e ≠ t) : (w.setCell ⟨p, i, none⟩ u).ownsRow base e size v n xs :=
  ownsRow_setCell_other h (a := ⟨p, i, none⟩) (own_ne_blk h hp hne) u

/-! ### A row of ints -/
structure Own3 (w : World) (u : Value) (l : List Int) : Prop where
  row : w.ownsRow 0 3 1 u l.length (l.map (Value.int .i64))
  int : ∀ x ∈ l, I64 x
  len : l.length ≤ 10000

theorem Own3.nil (w : World) : Own3 w (.slice none 0 0) [] := ⟨World.ownsRow_nil _ _ _ _, (fun x h => by simp at h), by simp⟩
theorem Own3.ints {w : World} {u : Value} {l : List Int} (h : Own3 w u l) : IntsV w.heap.size w u l := by
  refine ⟨h.int, ?_⟩
  have hlen := h.len
  rcases h.row.2 with ⟨rfl, h0⟩ | ⟨g, cap, cur, hu, _, hg, hn, hcap, _, _⟩
  · exact ⟨none, 0, 0, 0, by rw [h0], by omega, by omega, fun h => by omega, fun i hi => by omega⟩
  · subst hu
    refine ⟨_, g, 0, cap, rfl, hn, by unfold maxLen at hcap; omega, fun _ => ⟨rfl, blk_lt hg⟩, fun i hi => ?_⟩
    rw [Nat.zero_add, h.row.cellAt i (by omega)]
    simp [iAt, List.getD_eq_getElem?_getD, hi]
theorem Own3.but {p : Nat} {w w' : World} {u : Value} {l : List Int} {t' : TypeId} {c' : Array Value} (h : Own3 w u l) (hb : But p w w') (hp : w.heap[p]? = some (.cells c' t' (0, 0))) (hne : 3 ≠ t') : Own3 w' u l := ⟨own_but h.row hb hp hne, h.int, h.len⟩

/-! ### The rows of code -/
def opCells (o : Cd.GOp) : List Value := [.int .i64 o.d, .int .i64 o.a, .int .i64 o.b]
def fnCells (x : Cd.GFn × Value) : List Value := [.int .i64 x.1.params, .int .i64 x.1.slots, .int .i64 x.1.start, x.2]

theorem flat_at {α : Type} (f : α → List Value) (m : Nat) (hf : ∀ x, (f x).length = m) : ∀ (z : List α) (i j : Nat) (hi : i < z.length), j < m → (z.flatMap f)[i * m + j]? = (f z[i])[j]?
  | [], i, j, hi, _ => by simp at hi
  | x :: z, 0, j, hi, hj => by
    simp only [List.flatMap_cons, Nat.zero_mul, Nat.zero_add, List.getElem_cons_zero]
    rw [List.getElem?_append_left (by rw [hf]; exact hj)]
  | x :: z, i + 1, j, hi, hj => by
    simp only [List.flatMap_cons, List.getElem_cons_succ]
    rw [List.getElem?_append_right (by rw [hf, Nat.succ_mul]; omega), hf]
    rw [show (i + 1) * m + j - m = i * m + j by rw [Nat.succ_mul]; omega]
    exact flat_at f m hf z i j (by simpa using hi) hj

def RowO (N : Nat) (w : World) (v : Value) (l : List Cd.GOp) : Prop := w.ownsRow N 68 3 v l.length (l.flatMap opCells) ∧ ∀ o ∈ l, I64 o.d ∧ I64 o.a ∧ I64 o.b
def RowF (N : Nat) (w : World) (v : Value) (l : List Cd.GFn) : Prop :=
  ∃ z : List (Cd.GFn × Value), z.map (·.1) = l ∧ w.ownsRow N 61 4 v z.length (z.flatMap fnCells) ∧ ∀ x ∈ z, (I64 x.1.params ∧ I64 x.1.slots ∧ I64 x.1.start) ∧ Own3 w x.2 x.1.takes
def RowK (N : Nat) (w : World) (v : Value) (l : List (List Int)) : Prop :=
  ∃ z : List (List Int × Value), z.map (·.1) = l ∧ w.ownsRow N 24 1 v z.length (z.map (·.2)) ∧ ∀ x ∈ z, Own3 w x.2 x.1

theorem RowO.ops {N : Nat} {w : World} {v : Value} {l : List Cd.GOp} (h : RowO N w v l) (hlen : l.length ≤ 10000) : OpsV w.heap.size w v l := by
  obtain ⟨h1, h2⟩ := h
  refine ⟨h2, ?_⟩
  rcases h1.2 with ⟨rfl, h0⟩ | ⟨g, cap, cur, hu, _, hg, hn, hcap, _, _⟩
  · exact ⟨none, 0, 0, 0, by rw [h0], by omega, by omega, fun h => by omega, fun i hi => by omega⟩
  · subst hu
    refine ⟨_, g, 0, cap, rfl, hn, by unfold maxLen at hcap; omega, fun _ => ⟨rfl, blk_lt hg⟩, fun i hi => ?_⟩
    have e : l.getD i ⟨0, 0, 0⟩ = l[i] := by simp [List.getElem?_eq_getElem hi]
    rw [e, Nat.zero_add]
    have k := fun j (hj : j < 3) => (h1.cellAt (i * 3 + j) (by omega)).trans (flat_at opCells 3 (fun _ => rfl) l i j hi hj)
    exact ⟨k 0 (by omega), k 1 (by omega), k 2 (by omega)⟩

theorem RowF.fns {N : Nat} {w : World} {v : Value} {l : List Cd.GFn} (h : RowF N w v l) (hlen : l.length ≤ 10000) : FnsV w.heap.size w v l := by
  obtain ⟨z, rfl, h1, h2⟩ := h
  rw [List.length_map] at hlen
  refine ⟨fun x hx => ?_, ?_⟩
  · obtain ⟨y, hy, rfl⟩ := List.mem_map.1 hx
    exact (h2 y hy).1
  rcases h1.2 with ⟨rfl, h0⟩ | ⟨g, cap, cur, hu, _, hg, hn, hcap, _, _⟩
  · exact ⟨none, 0, 0, 0, by rw [List.length_map, h0], by rw [List.length_map]; omega, by rw [List.length_map]; omega, fun h => by rw [List.length_map] at h; omega, fun i hi => by rw [List.length_map] at hi; omega⟩
  · subst hu
    refine ⟨_, g, 0, cap, by rw [List.length_map], by rw [List.length_map]; exact hn, by rw [List.length_map]; unfold maxLen at hcap; omega, fun _ => ⟨rfl, blk_lt hg⟩, fun i hi => ?_⟩
    rw [List.length_map] at hi
    have e : (z.map (·.1)).getD i ⟨0, 0, 0, []⟩ = z[i].1 := by simp [List.getD_eq_getElem?_getD, List.getElem?_eq_getElem hi]
    rw [e, Nat.zero_add]
    have k := fun j (hj : j < 4) => (h1.cellAt (i * 4 + j) (by omega)).trans (flat_at fnCells 4 (fun _ => rfl) z i j hi hj)
    exact ⟨k 0 (by omega), k 1 (by omega), k 2 (by omega), z[i].2, k 3 (by omega), (h2 _ (List.getElem_mem hi)).2.ints⟩

theorem RowK.kinds {N : Nat} {w : World} {v : Value} {l : List (List Int)} (h : RowK N w v l) (hlen : l.length ≤ 10000) : KindsV w.heap.size w v l := by
  obtain ⟨z, rfl, h1, h2⟩ := h
  rw [List.length_map] at hlen
  rcases h1.2 with ⟨rfl, h0⟩ | ⟨g, cap, cur, hu, _, hg, hn, hcap, _, _⟩
  · exact ⟨none, 0, 0, 0, by rw [List.length_map, h0], by rw [List.length_map]; omega, by rw [List.length_map]; omega, fun h => by rw [List.length_map] at h; omega, fun i hi => by rw [List.length_map] at hi; omega⟩
  · subst hu
    refine ⟨_, g, 0, cap, by rw [List.length_map], by rw [List.length_map]; exact hn, by rw [List.length_map]; unfold maxLen at hcap; omega, fun _ => ⟨rfl, blk_lt hg⟩, fun i hi => ?_⟩
    rw [List.length_map] at hi
    have e : (z.map (·.1)).getD i [] = z[i].1 := by simp [List.getD_eq_getElem?_getD, List.getElem?_eq_getElem hi]
    rw [e, Nat.zero_add]
    refine ⟨z[i].2, ?_, (h2 _ (List.getElem_mem hi)).ints⟩
    rw [h1.cellAt i (by omega)]
    simp [hi]

/-- Code being laid: in the variable of block cb. -/
def CodeSt (N cb : Nat) (w : World) (C : Cd.GCode) : Prop :=
  ∃ vo vf vk, w.heap[cb]? = some (.cells #[vo, vf, vk] 30 (0, 0)) ∧ RowO N w vo C.ops ∧ RowF N w vf C.fns ∧ RowK N w vk C.kinds

theorem CodeSt.code {N cb : Nat} {w : World} {C : Cd.GCode} (h : CodeSt N cb w C) (k1 : C.ops.length ≤ 10000) (k2 : C.fns.length ≤ 10000) (k3 : C.kinds.length ≤ 10000) : ∃ vo vf vk, w.heap[cb]? = some (.cells #[vo, vf, vk] 30 (0, 0)) ∧ CodeV w.heap.size w vo vf vk C := by
  obtain ⟨vo, vf, vk, h0, h1, h2, h3⟩ := h
  exact ⟨vo, vf, vk, h0, h1.ops k1, h2.fns k2, h3.kinds k3⟩

theorem RowF.but {N p : Nat} {w w' : World} {v : Value} {l : List Cd.GFn} {t' : TypeId} {c' : Array Value} (h : RowF N w v l) (hb : But p w w') (hp : w.heap[p]? = some (.cells c' t' (0, 0))) (h61 : 61 ≠ t') (h3 : 3 ≠ t') : RowF N w' v l := by
  obtain ⟨z, e, h1, h2⟩ := h
  exact ⟨z, e, own_but h1 hb hp h61, fun x hx => ⟨(h2 x hx).1, (h2 x hx).2.but hb hp h3⟩⟩
theorem RowK.but {N p : Nat} {w w' : World} {v : Value} {l : List (List Int)} {t' : TypeId} {c' : Array Value} (h : RowK N w v l) (hb : But p w w') (hp : w.heap[p]? = some (.cells c' t' (0, 0))) (h24 : 24 ≠ t') (h3 : 3 ≠ t') : RowK N w' v l := by
  obtain ⟨z, e, h1, h2⟩ := h
  exact ⟨z, e, own_but h1 hb hp h24, fun x hx => (h2 x hx).but hb hp h3⟩
theorem CodeSt.but {N cb p : Nat} {w w' : World} {C : Cd.GCode} {t' : TypeId} {c' : Array Value} (h : CodeSt N cb w C) (hb : But p w w') (hp : w.heap[p]? = some (.cells c' t' (0, 0))) (h30 : 30 ≠ t') (h68 : 68 ≠ t') (h61 : 61 ≠ t') (h24 : 24 ≠ t') (h3 : 3 ≠ t') : CodeSt N cb w' C := by
  obtain ⟨vo, vf, vk, h0, h1, h2, hk⟩ := h
  exact ⟨vo, vf, vk, blk_but h0 hb hp h30, ⟨own_but h1.1 hb hp h68, h1.2⟩, h2.but hb hp h61 h3, hk.but hb hp h24 h3⟩

theorem CodeSt.start {N cb : Nat} {w : World} (h : w.heap[cb]? = some (.cells #[.slice none 0 0, .slice none 0 0, .slice none 0 0] 30 (0, 0))) : CodeSt N cb w Rd.noCode :=
  ⟨_, _, _, h, ⟨World.ownsRow_nil _ _ _ _, fun o h => by simp [Rd.noCode] at h⟩, ⟨[], rfl, World.ownsRow_nil _ _ _ _, fun x h => by simp at h⟩, ⟨[], rfl, World.ownsRow_nil _ _ _ _, fun x h => by simp at h⟩⟩

/-! ### How the rows grow -/
theorem Own3.grown {base e size n : Nat} {w w' : World} {u v2 : Value} {l : List Int} {xs : List Value} (h : Own3 w u l) (h2 : w.ownsRow base e size v2 n xs) (hne : 3 ≠ e) (hg : w.grownBy w' v2.ownBlock) : Own3 w' u l := ⟨own_grown h.row h2 hne hg, h.int, h.len⟩
theorem Own3.set {w : World} {u x : Value} {l : List Int} {p i : Nat} {t : TypeId} {c : Array Value} (h : Own3 w u l) (hp : w.heap[p]? = some (.cells c t (0, 0))) (hne : 3 ≠ t) : Own3 (w.setCell ⟨p, i, none⟩ x) u l := ⟨own_set h.row hp hne, h.int, h.len⟩
theorem RowF.grown {base e size n N : Nat} {w w' : World} {v v2 : Value} {l : List Cd.GFn} {xs : List Value} (h : RowF N w v l) (h2 : w.ownsRow base e size v2 n xs) (hne : 61 ≠ e) (hn3 : 3 ≠ e) (hg : w.grownBy w' v2.ownBlock) : RowF N w' v l := by
  obtain ⟨z, e0, k1, k2⟩ := h
  exact ⟨z, e0, own_grown k1 h2 hne hg, fun x hx => ⟨(k2 x hx).1, (k2 x hx).2.grown h2 hn3 hg⟩⟩
theorem RowF.set {N p i : Nat} {w : World} {v x : Value} {l : List Cd.GFn} {t : TypeId} {c : Array Value} (h : RowF N w v l) (hp : w.heap[p]? = some (.cells c t (0, 0))) (hne : 61 ≠ t) (hn3 : 3 ≠ t) : RowF N (w.setCell ⟨p, i, none⟩ x) v l := by
  obtain ⟨z, e0, k1, k2⟩ := h
  exact ⟨z, e0, own_set k1 hp hne, fun y hy => ⟨(k2 y hy).1, (k2 y hy).2.set hp hn3⟩⟩
theorem RowK.grown {base e size n N : Nat} {w w' : World} {v v2 : Value} {l : List (List Int)} {xs : List Value} (h : RowK N w v l) (h2 : w.ownsRow base e size v2 n xs) (hne : 24 ≠ e) (hn3 : 3 ≠ e) (hg : w.grownBy w' v2.ownBlock) : RowK N w' v l := by
  obtain ⟨z, e0, k1, k2⟩ := h
  exact ⟨z, e0, own_grown k1 h2 hne hg, fun x hx => (k2 x hx).grown h2 hn3 hg⟩
theorem RowK.set {N p i : Nat} {w : World} {v x : Value} {l : List (List Int)} {t : TypeId} {c : Array Value} (h : RowK N w v l) (hp : w.heap[p]? = some (.cells c t (0, 0))) (hne : 24 ≠ t) (hn3 : 3 ≠ t) : RowK N (w.setCell ⟨p, i, none⟩ x) v l := by
  obtain ⟨z, e0, k1, k2⟩ := h
  exact ⟨z, e0, own_set k1 hp hne, fun y hy => (k2 y hy).set hp hn3⟩

/-- An order laid behind the others. -/
theorem CodeSt.push_op {N cb : Nat} {w w1 : World} {vo vf vk v' : Value} {C : Cd.GCode} {o : Cd.GOp} (h0 : w.heap[cb]? = some (.cells #[vo, vf, vk] 30 (0, 0))) (h1 : RowO N w vo C.ops) (h2 : RowF N w vf C.fns) (h3 : RowK N w vk C.kinds)
    (ho : I64 o.d ∧ I64 o.a ∧ I64 o.b) (k1 : w1.ownsRow N 68 3 v' (C.ops.length + 1) (C.ops.flatMap opCells ++ opCells o)) (k2 : w.grownBy w1 vo.ownBlock) : CodeSt N cb (w1.setCell ⟨cb, 0, none⟩ v') ⟨C.ops ++ [o], C.fns, C.kinds⟩ := by
  have hb1 : w1.heap[cb]? = some (.cells #[vo, vf, vk] 30 (0, 0)) := blk_grown h0 k2 (fun e => own_ne_blk h1.1 h0 (by decide) e.symm)
  refine ⟨v', vf, vk, ?_, ⟨?_, ?_⟩, (h2.grown h1.1 (by decide) (by decide) k2).set hb1 (by decide) (by decide), (h3.grown h1.1 (by decide) (by decide) k2).set hb1 (by decide) (by decide)⟩
  · rw [blk_set hb1]; rfl
  · have := own_set (i := 0) (u := v') k1 hb1 (by decide)
    simpa using this
  · intro x hx
    rcases List.mem_append.1 hx with hx | hx
    · exact h1.2 x hx
    · rw [List.mem_singleton.1 hx]; exact ho

/-- A function laid behind the others. -/
theorem CodeSt.push_fn {N cb : Nat} {w w1 : World} {vo vf vk v' u : Value} {C : Cd.GCode} {f : Cd.GFn} {z : List (Cd.GFn × Value)} (h0 : w.heap[cb]? = some (.cells #[vo, vf, vk] 30 (0, 0))) (h1 : RowO N w vo C.ops) (hz : z.map (·.1) = C.fns) (hr : w.ownsRow N 61 4 vf z.length (z.flatMap fnCells))
    (hx : ∀ x ∈ z, (I64 x.1.params ∧ I64 x.1.slots ∧ I64 x.1.start) ∧ Own3 w x.2 x.1.takes) (h3 : RowK N w vk C.kinds) (hf : I64 f.params ∧ I64 f.slots ∧ I64 f.start) (hu : Own3 w u f.takes)
    (k1 : w1.ownsRow N 61 4 v' (z.length + 1) (z.flatMap fnCells ++ fnCells (f, u))) (k2 : w.grownBy w1 vf.ownBlock) : CodeSt N cb (w1.setCell ⟨cb, 1, none⟩ v') ⟨C.ops, C.fns ++ [f], C.kinds⟩ := by
  have hb1 : w1.heap[cb]? = some (.cells #[vo, vf, vk] 30 (0, 0)) := blk_grown h0 k2 (fun e => own_ne_blk hr h0 (by decide) e.symm)
  refine ⟨vo, v', vk, ?_, ⟨own_set (own_grown h1.1 hr (by decide) k2) hb1 (by decide), h1.2⟩, ⟨z ++ [(f, u)], by simp [hz], ?_, ?_⟩, (h3.grown hr (by decide) (by decide) k2).set hb1 (by decide) (by decide)⟩
  · rw [blk_set hb1]; rfl
  · have := own_set (i := 1) (u := v') k1 hb1 (by decide)
    simpa using this
  · intro x hx'
    rcases List.mem_append.1 hx' with hx' | hx'
    · exact ⟨(hx x hx').1, ((hx x hx').2.grown hr (by decide) k2).set hb1 (by decide)⟩
    · rw [List.mem_singleton.1 hx']
      exact ⟨hf, (hu.grown hr (by decide) k2).set hb1 (by decide)⟩

/-- A kind laid behind the others. -/
theorem CodeSt.push_kind {N cb : Nat} {w w1 : World} {vo vf vk v' u : Value} {C : Cd.GCode} {l : List Int} {z : List (List Int × Value)} (h0 : w.heap[cb]? = some (.cells #[vo, vf, vk] 30 (0, 0))) (h1 : RowO N w vo C.ops) (h2 : RowF N w vf C.fns) (hz : z.map (·.1) = C.kinds) (hr : w.ownsRow N 24 1 vk z.length (z.map (·.2)))
    (hx : ∀ x ∈ z, Own3 w x.2 x.1) (hu : Own3 w u l) (k1 : w1.ownsRow N 24 1 v' (z.length + 1) (z.map (·.2) ++ [u])) (k2 : w.grownBy w1 vk.ownBlock) : CodeSt N cb (w1.setCell ⟨cb, 2, none⟩ v') ⟨C.ops, C.fns, C.kinds ++ [l]⟩ := by
  have hb1 : w1.heap[cb]? = some (.cells #[vo, vf, vk] 30 (0, 0)) := blk_grown h0 k2 (fun e => own_ne_blk hr h0 (by decide) e.symm)
  refine ⟨vo, vf, v', ?_, ⟨own_set (own_grown h1.1 hr (by decide) k2) hb1 (by decide), h1.2⟩, (h2.grown hr (by decide) (by decide) k2).set hb1 (by decide) (by decide), ⟨z ++ [(l, u)], by simp [hz], ?_, ?_⟩⟩
  · rw [blk_set hb1]; rfl
  · have := own_set (i := 2) (u := v') k1 hb1 (by decide)
    simpa using this
  · intro x hx'
    rcases List.mem_append.1 hx' with hx' | hx'
    · exact ((hx x hx').grown hr (by decide) k2).set hb1 (by decide)
    · rw [List.mem_singleton.1 hx']
      exact (hu.grown hr (by decide) k2).set hb1 (by decide)
end Go.Proofs.Ytjomajfgoaifbaa
