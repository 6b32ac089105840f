/-
  PROVED HERE: how code lies in memory (slices of structs, a slice of slices), and that it lies so still where below a bound nothing has turned; how a block is known whole. No condition beyond the lemmas' own premises.
-/
import Derived.Test.YtjomajfgoaifbaaCd
import Derived.WalkKit
import Derived.ProofKit
import Derived.WalkSmall
import Derived.OneCell
namespace Go.Proofs.Ytjomajfgoaifbaa
open Go.RowKit

def I64 (n : Int) : Prop := -9223372036854775808 ≤ n ∧ n ≤ 9223372036854775807

def iAt (l : List Int) (i : Nat) : Int := l.getD i 0

theorem iAt_mem {l : List Int} {i : Nat} (h : i < l.length) : iAt l i ∈ l := by
  unfold iAt
  rw [List.getD_eq_getElem?_getD, List.getElem?_eq_getElem h]
  simp

/-- v is a slice of n elements of 'size' cells each; where there is an element, it begins at a cell of a block below B, and of it C holds. -/
def SlV (B : Nat) (v : Value) (n bytes : Nat) (C : Nat → Nat → Prop) : Prop :=
  ∃ (a : Option Addr) (b o cap : Nat), v = .slice a n cap ∧ n ≤ cap ∧ (n * bytes ≤ 140737488351232 ∧ cap ≤ 9223372036854775807) ∧ (0 < n → a = some ⟨b, o, none⟩ ∧ b < B) ∧ C b o

theorem SlV.mono {B B' : Nat} {v : Value} {n bytes : Nat} {C C' : Nat → Nat → Prop} (h : SlV B v n bytes C) (hB : B ≤ B') (hC : ∀ b o, (0 < n → b < B) → C b o → C' b o) : SlV B' v n bytes C' := by
  obtain ⟨a, b, o, cap, h1, h2, h3, h4, h5⟩ := h
  exact ⟨a, b, o, cap, h1, h2, h3, fun h => ⟨(h4 h).1, Nat.lt_of_lt_of_le (h4 h).2 hB⟩, hC b o (fun h => (h4 h).2) h5⟩

def IntsV (B : Nat) (w : World) (v : Value) (l : List Int) : Prop :=
  (∀ x ∈ l, I64 x) ∧ SlV B v l.length 8 fun b o => ∀ i, i < l.length → w.cell? ⟨b, o + i, none⟩ = some (.int .i64 (iAt l i))

def OpsV (B : Nat) (w : World) (v : Value) (l : List Cd.GOp) : Prop :=
  (∀ x ∈ l, I64 x.d ∧ I64 x.a ∧ I64 x.b) ∧ SlV B v l.length 24 fun b o => ∀ i, i < l.length → w.cell? ⟨b, o + i * 3, none⟩ = some (.int .i64 (l.getD i ⟨0, 0, 0⟩).d) ∧ w.cell? ⟨b, o + i * 3 + 1, none⟩ = some (.int .i64 (l.getD i ⟨0, 0, 0⟩).a) ∧ w.cell? ⟨b, o + i * 3 + 2, none⟩ = some (.int .i64 (l.getD i ⟨0, 0, 0⟩).b)

def FnsV (B : Nat) (w : World) (v : Value) (l : List Cd.GFn) : Prop :=
  (∀ x ∈ l, I64 x.params ∧ I64 x.slots ∧ I64 x.start) ∧ SlV B v l.length 48 fun b o => ∀ i, i < l.length → w.cell? ⟨b, o + i * 4, none⟩ = some (.int .i64 (l.getD i ⟨0, 0, 0, []⟩).params) ∧ w.cell? ⟨b, o + i * 4 + 1, none⟩ = some (.int .i64 (l.getD i ⟨0, 0, 0, []⟩).slots) ∧
    w.cell? ⟨b, o + i * 4 + 2, none⟩ = some (.int .i64 (l.getD i ⟨0, 0, 0, []⟩).start) ∧ ∃ u, w.cell? ⟨b, o + i * 4 + 3, none⟩ = some u ∧ IntsV B w u (l.getD i ⟨0, 0, 0, []⟩).takes

def KindsV (B : Nat) (w : World) (v : Value) (l : List (List Int)) : Prop :=
  SlV B v l.length 24 fun b o => ∀ i, i < l.length → ∃ u, w.cell? ⟨b, o + i, none⟩ = some u ∧ IntsV B w u (l.getD i [])

structure CodeV (B : Nat) (w : World) (vo vf vk : Value) (C : Cd.GCode) : Prop where
  ops : OpsV B w vo C.ops
  fns : FnsV B w vf C.fns
  kinds : KindsV B w vk C.kinds

theorem IntsV.below {B N : Nat} {w w' : World} {v : Value} {l : List Int} (h : IntsV B w v l) (hb : Below N w w') (hN : B ≤ N) : IntsV B w' v l :=
  ⟨h.1, h.2.mono (Nat.le_refl _) fun b o hlt hc i hi => by rw [hb.cell (by show b < N; have := hlt (by omega); omega)]; exact hc i hi⟩

theorem OpsV.below {B N : Nat} {w w' : World} {v : Value} {l : List Cd.GOp} (h : OpsV B w v l) (hb : Below N w w') (hN : B ≤ N) : OpsV B w' v l :=
  ⟨h.1, h.2.mono (Nat.le_refl _) fun b o hlt hc i hi => by
    have hbN : b < N := by have := hlt (by omega); omega
    rw [hb.cell hbN, hb.cell hbN, hb.cell hbN]; exact hc i hi⟩

theorem FnsV.below {B N : Nat} {w w' : World} {v : Value} {l : List Cd.GFn} (h : FnsV B w v l) (hb : Below N w w') (hN : B ≤ N) : FnsV B w' v l :=
  ⟨h.1, h.2.mono (Nat.le_refl _) fun b o hlt hc i hi => by
    have hbN : b < N := by have := hlt (by omega); omega
    obtain ⟨c1, c2, c3, u, c4, c5⟩ := hc i hi
    exact ⟨by rw [hb.cell hbN]; exact c1, by rw [hb.cell hbN]; exact c2, by rw [hb.cell hbN]; exact c3, u, by rw [hb.cell hbN]; exact c4, c5.below hb hN⟩⟩

theorem KindsV.below {B N : Nat} {w w' : World} {v : Value} {l : List (List Int)} (h : KindsV B w v l) (hb : Below N w w') (hN : B ≤ N) : KindsV B w' v l :=
  SlV.mono h (Nat.le_refl _) fun b o hlt hc i hi => by
    have hbN : b < N := by have := hlt (by omega); omega
    obtain ⟨u, c4, c5⟩ := hc i hi
    exact ⟨u, by rw [hb.cell hbN]; exact c4, c5.below hb hN⟩

theorem CodeV.below {B N : Nat} {w w' : World} {vo vf vk : Value} {C : Cd.GCode} (h : CodeV B w vo vf vk C) (hb : Below N w w') (hN : B ≤ N) : CodeV B w' vo vf vk C :=
  ⟨h.ops.below hb hN, h.fns.below hb hN, h.kinds.below hb hN⟩

/-! ### A block known whole -/
theorem blk_lt {w : World} {p : Nat} {o : Obj} (h : w.heap[p]? = some o) : p < w.heap.size := (Array.getElem?_eq_some_iff.1 h).1
theorem blk_cell {w : World} {p : Nat} {c : Array Value} {t : TypeId} (h : w.heap[p]? = some (.cells c t (0, 0))) (i : Nat) : w.cell? ⟨p, i, none⟩ = c[i]? := by simp [World.cell?, h]
theorem blk_free {w : World} {p : Nat} {c : Array Value} {t : TypeId} (h : w.heap[p]? = some (.cells c t (0, 0))) (i : Nat) : w.frozen? ⟨p, i, none⟩ = false := by simp [World.frozen?, h]
theorem blk_set {w : World} {p : Nat} {c : Array Value} {t : TypeId} (h : w.heap[p]? = some (.cells c t (0, 0))) (i : Nat) (u : Value) : (w.setCell ⟨p, i, none⟩ u).heap[p]? = some (.cells (c.setIfInBounds i u) t (0, 0)) := by
  simp [World.setCell, Array.getElem?_modify, h]
theorem blk_set_other {w : World} {p q : Nat} {o : Option Obj} (h : w.heap[q]? = o) (hne : q ≠ p) (i : Nat) (u : Value) : (w.setCell ⟨p, i, none⟩ u).heap[q]? = o := by
  rw [Below.heap_setCell _ _ _ _ hne]; exact h
theorem blk_alloc {w : World} {p : Nat} {o : Obj} (h : w.heap[p]? = some o) (x : Obj) : (w.alloc x).heap[p]? = some o := by
  rw [Below.heap_alloc _ _ _ (blk_lt h)]; exact h
theorem blk_new (w : World) (x : Obj) : (w.alloc x).heap[w.heap.size]? = some x := by
  show (w.heap.push x)[w.heap.size]? = _
  simp
theorem blk_below {N : Nat} {w w' : World} {p : Nat} {o : Obj} (h : w.heap[p]? = some o) (hb : Below N w w') (hp : p < N) : w'.heap[p]? = some o := (hb.block p hp).trans h
theorem blk_grown {w w' : World} {row : Option Nat} {p : Nat} {o : Obj} (h : w.heap[p]? = some o) (hg : w.grownBy w' row) (hp : some p ≠ row) : w'.heap[p]? = some o := (hg.block p (blk_lt h) hp).trans h

/-- A block of another element type is no owned row's. -/
theorem own_ne_blk {w : World} {base e size n : Nat} {v : Value} {xs : List Value} {p : Nat} {c : Array Value} {t : TypeId} (hown : w.ownsRow base e size v n xs) (h : w.heap[p]? = some (.cells c t (0, 0))) (hne : e ≠ t) : v.ownBlock ≠ some p := by
  rcases hown.2 with ⟨rfl, _⟩ | ⟨g, cap, cur, rfl, _, hg, _⟩
  · simp [Value.ownBlock]
  · simp only [Value.ownBlock]
    intro e1
    cases e1
    rw [h] at hg
    cases hg
    exact hne rfl
theorem own_below {w w' : World} {N base e size n : Nat} {v : Value} {xs : List Value} (hown : w.ownsRow base e size v n xs) (hb : Below N w w') (hN : ∀ k, v.ownBlock = some k → k < N) : w'.ownsRow base e size v n xs := by
  refine ⟨hown.1, ?_⟩
  rcases hown.2 with h | ⟨g, cap, cur, rfl, h1, hg, h2⟩
  · exact Or.inl h
  · exact Or.inr ⟨g, cap, cur, rfl, h1, (hb.block g (hN g rfl)).trans hg, h2⟩
end Go.Proofs.Ytjomajfgoaifbaa
