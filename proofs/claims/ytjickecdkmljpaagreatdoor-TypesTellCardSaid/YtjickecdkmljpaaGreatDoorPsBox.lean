/-
  PROVED HERE: boxes and rows of numbers of a parser function's own, through the calls that it makes. No condition beyond the lemmas' own premises.
-/
import Derived.Test.YtjickecdkmljpaaGreatDoorPsB
import Derived.Test.YtjickecdkmljpaaGreatDoorPsA
namespace Go.Proofs.YtjickecdkmljpaaGreatDoor
open Go.RowKit

section
variable {N p q : Nat} {w0 wk w2 : World} {X : Ps.Src} {S : ByteArray} {s s2 : Ps.St} {tv nv nk n2 : Value} {D E E2 : List (Ps.Nd × Value)} {c : Array Value} {t : TypeId}
/-- A box of the function's own. -/
structure Bx (w0 wk : World) (nk : Value) (q : Nat) (c : Array Value) (t : TypeId) : Prop where
 blk : wk.heap[q]? = some (.cells c t (0, 0))
 lo : w0.heap.size ≤ q
 ne : nk.ownBlock ≠ some q
theorem Bx.lt (h : Bx w0 wk nk q c t) : q < wk.heap.size := blk_lt h.blk
theorem Bx.mv (h : Bx w0 wk nk q c t) (hp : p < w0.heap.size) (m : Mv N p wk nk w2 n2) : Bx w0 w2 n2 q c t :=
 ⟨(m.keep q h.lt (by have := h.lo; omega) h.ne).trans h.blk, h.lo, fun e => (m.row q e).elim h.ne (fun h2 => by have := h.lt; omega)⟩
theorem Bx.new (hG : Go N p X S w0 tv nv D wk s nk E) (c : Array Value) (t : TypeId) : Bx w0 (wk.alloc (.cells c t)) nk wk.heap.size c t :=
 ⟨blk_new _ _, hG.size, fun e => by have := (hG.st.nodes.row.lt _ e).2; omega⟩
theorem Bx.below (h : Bx w0 wk nk q c t) (hb : Below wk.heap.size wk w2) : Bx w0 w2 nk q c t := ⟨blk_below h.blk hb h.lt, h.lo, h.ne⟩
theorem Bx.drew (h : Bx w0 wk nk q c t) : Bx w0 wk.drew nk q c t := h.below (Below.refl _ _).drew
theorem Bx.alloc (h : Bx w0 wk nk q c t) (o : Obj) : Bx w0 (wk.alloc o) nk q c t := h.below ((Below.refl _ _).alloc (Nat.le_refl _) o)
theorem Bx.set (h : Bx w0 wk nk q c t) (i : Nat) (u : Value) : Bx w0 (wk.setCell ⟨q, i, none⟩ u) nk q (c.setIfInBounds i u) t := ⟨blk_set h.blk i u, h.lo, h.ne⟩
theorem Bx.far (h : Bx w0 wk nk q c t) {k : Nat} (hk : q ≠ k) (i : Nat) (u : Value) : Bx w0 (wk.setCell ⟨k, i, none⟩ u) nk q c t := ⟨blk_set_other h.blk hk i u, h.lo, h.ne⟩
theorem Bx.farP (h : Bx w0 wk nk q c t) (hp : p < w0.heap.size) (i : Nat) (u : Value) : Bx w0 (wk.setCell ⟨p, i, none⟩ u) nk q c t := h.far (by have := h.lo; omega) i u
theorem Bx.cell (h : Bx w0 wk nk q c t) (i : Nat) : wk.cell? ⟨q, i, none⟩ = c[i]? := blk_cell h.blk i
theorem Bx.free (h : Bx w0 wk nk q c t) (i : Nat) : wk.frozen? ⟨q, i, none⟩ = false := blk_free h.blk i
theorem Bx.go (h : Bx w0 wk nk q c t) (hG : Go N p X S w0 tv nv D wk s nk E) (ht : 3 ≠ t) (i : Nat) (u : Value) : Go N p X S w0 tv nv D (wk.setCell ⟨q, i, none⟩ u) s nk E := hG.box h.lo h.blk h.ne ht i u
theorem Go.drew1 (h : Go N p X S w0 tv nv D wk s nk E) : Go N p X S w0 tv nv D wk.drew s nk E := h.new (Below.refl _ _).drew
theorem Go.row_lt (h : Go N p X S w0 tv nv D wk s nk E) : ∀ k, nk.ownBlock = some k → k < wk.heap.size := fun k hk => (h.st.nodes.row.lt k hk).2

/-- A row of numbers of the function's own, apart from all that the nodes hold. -/
structure Kd (N : Nat) (w0 wk : World) (F : List (Ps.Nd × Value)) (u : Value) (l : List Nat) : Prop where
 row : KidsV N wk u l
 lo : ∀ b, u.ownBlock = some b → w0.heap.size ≤ b
 ap : Apart F u
theorem Kd.nil (N : Nat) (w0 wk : World) (F : List (Ps.Nd × Value)) : Kd N w0 wk F (.slice none 0 0) [] := ⟨kids_nil _ _, nil_fresh _, fun _ _ _ _ h => by cases h⟩
theorem Kd.below {F : List (Ps.Nd × Value)} {u : Value} {l : List Nat} (h : Kd N w0 wk F u l) (hb : Below wk.heap.size wk w2) : Kd N w0 w2 F u l := ⟨own_below h.row hb (fun k hk => (h.row.lt k hk).2), h.lo, h.ap⟩
theorem Kd.drew {F : List (Ps.Nd × Value)} {u : Value} {l : List Nat} (h : Kd N w0 wk F u l) : Kd N w0 wk.drew F u l := h.below (Below.refl _ _).drew
theorem Kd.alloc {F : List (Ps.Nd × Value)} {u : Value} {l : List Nat} (h : Kd N w0 wk F u l) (o : Obj) : Kd N w0 (wk.alloc o) F u l := h.below ((Below.refl _ _).alloc (Nat.le_refl _) o)
/-- Through a store into a block of another kind. -/
theorem Kd.set {F : List (Ps.Nd × Value)} {u : Value} {l : List Nat} {k : Nat} (h : Kd N w0 wk F u l) (hk : wk.heap[k]? = some (.cells c t (0, 0))) (ht : 3 ≠ t) (i : Nat) (x : Value) : Kd N w0 (wk.setCell ⟨k, i, none⟩ x) F u l := ⟨own_set h.row hk ht, h.lo, h.ap⟩
/-- Through a call. -/
theorem Kd.mv {u : Value} {l : List Nat} (h : Kd N w0 wk (D ++ E) u l) (hG : Go N p X S w0 tv nv D wk s nk E) (m : Mv N p wk nk w2 n2) (hE : Fresh wk.heap.size E2) : Kd N w0 w2 (D ++ (E ++ E2)) u l := by
 refine ⟨own_keep h.row (fun k hk => m.keep k (h.row.lt k hk).2 (fun e => ?_) (own_ne_own h.row hG.st.nodes.row (by decide) hk)), h.lo, ?_⟩
 ·subst e;exact own_ne_blk h.row hG.st.blk (by decide) hk
 ·rw [← List.append_assoc];intro x hx b hb e
  rcases List.mem_append.1 hx with hx | hx
  ·exact h.ap x hx b hb e
  ·have h1 := hE x hx b hb;have h2 := (h.row.lt b e).2
   omega
theorem kidVals_one (l : List Nat) : ∀ x ∈ kidVals l, x.oneCell' = true := by
 intro x hx;obtain ⟨k, _, rfl⟩ := List.mem_map.1 hx
 rfl
/-- A row that is built. -/
theorem Kd.new (hG : Go N p X S w0 tv nv D wk s nk E) (l : List Nat) (hl : l.length ≤ 1000) : Kd N w0 (wk.alloc (.cells (kidVals l).toArray 3)) (D ++ E) (.slice (some ⟨wk.heap.size, 0, none⟩) l.length l.length) l := by
 refine ⟨⟨by simp [kidVals], .inr ⟨wk.heap.size, l.length, (kidVals l).toArray, rfl, hG.st.nN, blk_new _ _, Nat.le_refl _, by unfold maxLen; omega, by simp [kidVals], ?_⟩⟩, fun b hb => by cases hb; exact hG.size, fun x hx b hb e => ?_⟩
 ·simp [kidVals, List.take_of_length_le]
 ·obtain rfl : wk.heap.size = b := by simpa [Value.ownBlock] using e
  have := ((hG.st.nodes.kids x hx).lt _ hb).2;omega
/-- Behind an append to the row. -/
theorem Kd.grown {u : Value} {l l2 : List Nat} {w8 : World} {o : Obj} {g2 m cap2 : Nat} (h : Kd N w0 wk (D ++ E) u l) (hG : Go N p X S w0 tv nv D wk s nk E) (hown : w8.ownsRow N 3 1 (.slice (some ⟨g2, 0, none⟩) (l.length + m) cap2) (l.length + m) (kidVals l ++ kidVals l2)) (hm : l2.length = m) (hgrow : (wk.alloc o).grownBy w8 u.ownBlock)
  (hat : u.ownBlock = some g2 ∨ g2 = wk.heap.size + 1) : Go N p X S w0 tv nv D w8 s nk E ∧ Kd N w0 w8 (D ++ E) (.slice (some ⟨g2, 0, none⟩) (l.length + m) cap2) (l ++ l2) ∧ (∀ k, k < wk.heap.size → u.ownBlock ≠ some k → w8.heap[k]? = wk.heap[k]?) := by
 have hk : ∀ k, k < wk.heap.size → u.ownBlock ≠ some k → w8.heap[k]? = wk.heap[k]? := fun k h1 h2 => (hgrow.block k (by simp; omega) (fun e => h2 e.symm)).trans (Below.heap_alloc _ _ _ h1)
 have hst := hG.st;have hs := hG.size;have hlt : ∀ k, u.ownBlock = some k → k < wk.heap.size := fun k hk2 => (h.row.lt k hk2).2
 have hup : u.ownBlock ≠ some p := fun e => own_ne_blk h.row hst.blk (by decide) e
 have hb8 : Below N wk w8 := Below.grown ((Below.refl N wk).alloc hst.nN o) hgrow (by simp; have := hst.nN; omega) (fun k hk2 => (h.row.lt k hk2).1);have hG8 : Go N p X S w0 tv nv D w8 s nk E := by
  refine ⟨{ hst with
    blk := (hk p (blk_lt hst.blk) hup).trans hst.blk
    toks := own_keep hst.toks (fun k hk2 => hk k (hst.toks.lt k hk2).2 (fun e => own_ne_own hst.toks h.row (by decide) hk2 e))
    nodes := ⟨own_keep hst.nodes.row (fun k hk2 => hk k (hst.nodes.row.lt k hk2).2 (fun e => own_ne_own hst.nodes.row h.row (by decide) hk2 e)), fun x hx => own_keep (hst.nodes.kids x hx) (fun k hk2 => hk k ((hst.nodes.kids x hx).lt k hk2).2 (h.ap x hx k hk2))⟩ },
   ⟨hG.mv.below.trans hb8, fun k h1 h2 h3 => (hk k (by omega) (fun e => ?_)).trans (hG.mv.keep k h1 h2 h3), hG.mv.row⟩, hG.fr, hG.tl, hG.pl⟩
  have := h.lo k e;omega
 refine ⟨hG8, ⟨?_, fun b hb => ?_, fun x hx b hb e => ?_⟩, hk⟩
 ·have : kidVals (l ++ l2) = kidVals l ++ kidVals l2 := List.map_append
  show w8.ownsRow N 3 1 _ (l ++ l2).length (kidVals (l ++ l2))
  rw [this, List.length_append, hm];exact hown
 ·obtain rfl : g2 = b := by simpa [Value.ownBlock] using hb
  rcases hat with e | e
  ·exact h.lo _ e
  ·omega
 ·obtain rfl : g2 = b := by simpa [Value.ownBlock] using e
  rcases hat with e | e
  ·exact h.ap x hx _ hb e
  ·have := ((hst.nodes.kids x hx).lt _ hb).2;omega
end
end Go.Proofs.YtjickecdkmljpaaGreatDoor
