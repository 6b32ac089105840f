/-
  PROVED HERE: how the reference's parser lies in memory; what its calls leave. the reference's parser: the token that is now, tests, faults. the reference's parser takes tokens, names, what opens and what shuts. No condition beyond the lemmas' own premises.
-/
import Derived.Test.YtjickecdkmljpaaGreatDoorPsTk
import Derived.Test.YtjickecdkmljpaaGreatDoorPsBox
import Derived.Test.YtjickecdkmljpaaGreatDoorPsC
import Derived.Test.YtjickecdkmljpaaGreatDoorRsA
namespace Go.Proofs.YtjickecdkmljpaaGreatDoor.R
open Go.RowKit

/-- The first fault's code and place, as they lie there. -/
def wc (s : Rs.St) : Int := (s.w.getD (0, 0)).1
def wp (s : Rs.St) : Nat := (s.w.getD (0, 0)).2
/-- THE REFERENCE's PARSER, in block p. -/
structure PSt (N p : Nat) (w : World) (X : Ps.Src) (S : ByteArray) (s : Rs.St) (tv nv : Value) (D : List (Ps.Nd × Value)) : Prop where
 blk : w.heap[p]? = some (.cells #[.string S, tv, .int .i64 (s.p.i : Int), .int .i64 s.p.deep, nv, .int .i64 (wc s), .int .i64 (wp s : Int), .bool (Rs.isWrong s)] 67 (0, 0))
 toks : ToksV N w tv X.toks
 nodes : NodesV N w nv D
 eq : s.p.nodes = D.map (·.1)
 src : SrcOk X S
 i : s.p.i ≤ X.toks.length
 many : D.length ≤ Rs.room
 hN : N ≤ p
theorem room_is : Rs.room = 20000000 := rfl
theorem nodes_set {N p : Nat} {w : World} {nv : Value} {D : List (Ps.Nd × Value)} {c : Array Value} (h : NodesV N w nv D) (hp : w.heap[p]? = some (.cells c 67 (0, 0))) (i : Nat) (u : Value) : NodesV N (w.setCell ⟨p, i, none⟩ u) nv D :=
 ⟨own_set h.row hp (by decide), fun x hx => own_set (h.kids x hx) hp (by decide)⟩
section
variable {N p : Nat} {w w' : World} {X : Ps.Src} {S : ByteArray} {s : Rs.St} {tv nv : Value} {D : List (Ps.Nd × Value)}
theorem PSt.lt (h : PSt N p w X S s tv nv D) : p < w.heap.size := blk_lt h.blk
theorem PSt.below (h : PSt N p w X S s tv nv D) (hb : Below w.heap.size w w') : PSt N p w' X S s tv nv D :=
 {h with
  blk := blk_below h.blk hb h.lt
  toks := own_below h.toks hb (fun k hk => (h.toks.lt k hk).2)
  nodes := ⟨own_below h.nodes.row hb (fun k hk => (h.nodes.row.lt k hk).2), fun x hx => own_below (h.nodes.kids x hx) hb (fun k hk => ((h.nodes.kids x hx).lt k hk).2)⟩ }
theorem PSt.setI (h : PSt N p w X S s tv nv D) {j : Nat} (hj : j ≤ X.toks.length) : PSt N p (w.setCell ⟨p, 2, none⟩ (.int .i64 (j : Int))) X S { s with p := { s.p with i := j } } tv nv D :=
 { h with blk := blk_set h.blk 2 _, toks := own_set h.toks h.blk (by decide), nodes := nodes_set h.nodes h.blk 2 _, i := hj }
theorem PSt.setD (h : PSt N p w X S s tv nv D) (d : Int) : PSt N p (w.setCell ⟨p, 3, none⟩ (.int .i64 d)) X S { s with p := { s.p with deep := d } } tv nv D :=
 { h with blk := blk_set h.blk 3 _, toks := own_set h.toks h.blk (by decide), nodes := nodes_set h.nodes h.blk 3 _ }
theorem PSt.c0 (h : PSt N p w X S s tv nv D) : w.cell? ⟨p, 0, none⟩ = some (.string S) := blk_cell h.blk 0
theorem PSt.c1 (h : PSt N p w X S s tv nv D) : w.cell? ⟨p, 1, none⟩ = some tv := blk_cell h.blk 1
theorem PSt.c2 (h : PSt N p w X S s tv nv D) : w.cell? ⟨p, 2, none⟩ = some (.int .i64 (s.p.i : Int)) := blk_cell h.blk 2
theorem PSt.c3 (h : PSt N p w X S s tv nv D) : w.cell? ⟨p, 3, none⟩ = some (.int .i64 s.p.deep) := blk_cell h.blk 3
theorem PSt.c4 (h : PSt N p w X S s tv nv D) : w.cell? ⟨p, 4, none⟩ = some nv := blk_cell h.blk 4
theorem PSt.c5 (h : PSt N p w X S s tv nv D) : w.cell? ⟨p, 5, none⟩ = some (.int .i64 (wc s)) := blk_cell h.blk 5
theorem PSt.c6 (h : PSt N p w X S s tv nv D) : w.cell? ⟨p, 6, none⟩ = some (.int .i64 (wp s : Int)) := blk_cell h.blk 6
theorem PSt.c7 (h : PSt N p w X S s tv nv D) : w.cell? ⟨p, 7, none⟩ = some (.bool (Rs.isWrong s)) := blk_cell h.blk 7
theorem PSt.adv (h : PSt N p w X S s tv nv D) (hj : s.p.i < X.toks.length) : PSt N p (w.setCell ⟨p, 2, none⟩ (.int .i64 ((s.p.i : Int) + 1))) X S (Rs.adv s) tv nv D := h.setI (j := s.p.i + 1) hj
theorem PSt.free (h : PSt N p w X S s tv nv D) (i : Nat) : w.frozen? ⟨p, i, none⟩ = false := blk_free h.blk i
theorem PSt.nN (h : PSt N p w X S s tv nv D) : N ≤ w.heap.size := Nat.le_trans h.hN (Nat.le_of_lt h.lt)
end
/-- WHAT A CALL OF THE PARSER's LEAVES, by the plain answer. -/
def Out (N p : Nat) (X : Ps.Src) (S : ByteArray) (w : World) (tv nv : Value) (D : List (Ps.Nd × Value)) (val : List Nat → Value) (r : Rs.Res) (e : Ending) (w' : World) : Prop :=
 match r with
 | .out => True
 | .ok v s' => e = .returned (val v) ∧ ∃ nv' E, PSt N p w' X S s' tv nv' (D ++ E) ∧ Mv N p w nv w' nv' ∧ Fresh w.heap.size E
section
variable {N p : Nat} {w : World} {X : Ps.Src} {S : ByteArray} {s : Rs.St} {tv nv : Value} {D : List (Ps.Nd × Value)}
theorem Out.parts {val : List Nat → Value} {r : Rs.Res} {e : Ending} {w' : World} (h : Out N p X S w tv nv D val r e w') (hne : r ≠ .out) :
  ∃ v s' nv' E, r = .ok v s' ∧ e = .returned (val v) ∧ PSt N p w' X S s' tv nv' (D ++ E) ∧ Mv N p w nv w' nv' ∧ Fresh w.heap.size E := by
 cases r with
 | out => exact absurd rfl hne
 | ok v s' =>
  obtain ⟨h1, nv', E, h2, h3, h4⟩ := h;exact ⟨v, s', nv', E, rfl, h1, h2, h3, h4⟩
theorem out_ok {tv nv nv' : Value} {D E : List (Ps.Nd × Value)} {w w' : World} {s' : Rs.St} {val : List Nat → Value} {v : List Nat} {e : Ending} {r : Rs.Res} (hr : r = .ok v s') (he : e = .returned (val v)) (h1 : PSt N p w' X S s' tv nv' (D ++ E)) (h2 : Mv N p w nv w' nv') (h3 : Fresh w.heap.size E) : Out N p X S w tv nv D val r e w' := by
 subst hr;exact ⟨he, nv', E, h1, h2, h3⟩
/-- WHERE A FUNCTION OF THE PARSER's STANDS: the state now, what has been turned since it began, the nodes that are new. -/
structure Go (N p : Nat) (X : Ps.Src) (S : ByteArray) (w : World) (tv nv : Value) (D : List (Ps.Nd × Value)) (wk : World) (s : Rs.St) (nk : Value) (E : List (Ps.Nd × Value)) : Prop where
 st : PSt N p wk X S s tv nk (D ++ E)
 mv : Mv N p w nv wk nk
 fr : Fresh w.heap.size E
 tl : ∀ k, tv.ownBlock = some k → k < w.heap.size
 pl : p < w.heap.size
section
variable {wk w2 : World} {nk n2 : Value} {E E2 : List (Ps.Nd × Value)} {s2 : Rs.St}
theorem Go.start (h : PSt N p w X S s tv nv D) : Go N p X S w tv nv D w s nv [] := ⟨by rw [List.append_nil]; exact h, Mv.refl _ _ _ _, Fresh.nil _, fun k hk => (h.toks.lt k hk).2, h.lt⟩
theorem Go.size (h : Go N p X S w tv nv D wk s nk E) : w.heap.size ≤ wk.heap.size := h.mv.below.size
theorem Go.new (h : Go N p X S w tv nv D wk s nk E) (hb : Below wk.heap.size wk w2) : Go N p X S w tv nv D w2 s nk E := ⟨h.st.below hb, h.mv.trans (Mv.new hb h.st.nN), h.fr, h.tl, h.pl⟩
theorem Go.alloc (h : Go N p X S w tv nv D wk s nk E) (o : Obj) : Go N p X S w tv nv D (wk.alloc o) s nk E := h.new ((Below.refl _ _).alloc (Nat.le_refl _) o)
theorem Go.drawn (h : Go N p X S w tv nv D wk s nk E) (n : Nat) : Go N p X S w tv nv D (wk.drewN n) s nk E := h.new (below_drewN (Below.refl _ _) n)
theorem Go.adv (h : Go N p X S w tv nv D wk s nk E) (hlt : s.p.i < X.toks.length) : Go N p X S w tv nv D (wk.setCell ⟨p, 2, none⟩ (.int .i64 ((s.p.i : Int) + 1))) (Rs.adv s) nk E := ⟨h.st.adv hlt, h.mv.set h.st.hN 2 _, h.fr, h.tl, h.pl⟩
theorem Go.deep (h : Go N p X S w tv nv D wk s nk E) (d : Int) : Go N p X S w tv nv D (wk.setCell ⟨p, 3, none⟩ (.int .i64 d)) { s with p := { s.p with deep := d } } nk E := ⟨h.st.setD d, h.mv.set h.st.hN 3 _, h.fr, h.tl, h.pl⟩
theorem Go.adv2 (h : Go N p X S w tv nv D wk s nk E) (hlt : s.p.i + 2 ≤ X.toks.length) : Go N p X S w tv nv D (wk.setCell ⟨p, 2, none⟩ (.int .i64 ((s.p.i : Int) + 2))) (Rs.adv2 s) nk E := ⟨h.st.setI (j := s.p.i + 2) hlt, h.mv.set h.st.hN 2 _, h.fr, h.tl, h.pl⟩
theorem Go.then (h : Go N p X S w tv nv D wk s nk E) (h1 : PSt N p w2 X S s2 tv n2 ((D ++ E) ++ E2)) (h2 : Mv N p wk nk w2 n2) (h3 : Fresh wk.heap.size E2) : Go N p X S w tv nv D w2 s2 n2 (E ++ E2) :=
 ⟨by rw [← List.append_assoc]; exact h1, h.mv.trans h2, h.fr.append (h3.mono h.size), h.tl, h.pl⟩
/-- A word of a box of the call's own is written. -/
theorem Go.box (h : Go N p X S w tv nv D wk s nk E) {q : Nat} {c : Array Value} {t : TypeId} (hq : w.heap.size ≤ q) (hc : wk.heap[q]? = some (.cells c t (0, 0))) (hn : nk.ownBlock ≠ some q) (ht : 3 ≠ t) (i : Nat) (u : Value) : Go N p X S w tv nv D (wk.setCell ⟨q, i, none⟩ u) s nk E := by
 have hpq : p ≠ q := by have := h.pl; omega
 have hN : N ≤ q := Nat.le_trans h.st.hN (by have := h.pl; omega);have hk : ∀ k, k ≠ q → (wk.setCell ⟨q, i, none⟩ u).heap[k]? = wk.heap[k]? := fun k hne => Below.heap_setCell _ _ _ _ hne
 refine ⟨{ h.st with
   blk := (hk p hpq).trans h.st.blk
   toks := own_keep h.st.toks (fun k hk2 => hk k (by have := h.tl k hk2; omega))
   nodes := ⟨own_keep h.st.nodes.row (fun k hk2 => hk k (by rintro rfl; exact hn hk2)), fun x hx => own_set (h.st.nodes.kids x hx) hc ht⟩ },
  ⟨h.mv.below.setCell (p := ⟨q, i, none⟩) hN _, fun k h1 h2 h3 => (hk k (by omega)).trans (h.mv.keep k h1 h2 h3), h.mv.row⟩, h.fr, h.tl, h.pl⟩
theorem Go.out {val : List Nat → Value} {v : List Nat} {e : Ending} {r : Rs.Res} (h : Go N p X S w tv nv D wk s nk E) (hr : r = .ok v s) (he : e = .returned (val v)) : Out N p X S w tv nv D val r e wk := out_ok hr he h.st h.mv h.fr
theorem Go.put_ {x : Ps.Nd} {u : Value} (h : Go N p X S w tv nv D wk s nk E) {s3 : Rs.St} (h1 : PSt N p w2 X S s3 tv n2 ((D ++ E) ++ [(x, u)])) (h2 : Mv N p wk nk w2 n2) (hu : ∀ b, u.ownBlock = some b → w.heap.size ≤ b) : Go N p X S w tv nv D w2 s3 n2 (E ++ [(x, u)]) :=
 ⟨by rw [← List.append_assoc]; exact h1, h.mv.trans h2, h.fr.append (fresh_one hu), h.tl, h.pl⟩
theorem Go.step (h : Go N p X S w tv nv D wk s nk E) (h1 : PSt N p w2 X S s2 tv nk (D ++ E)) (h2 : Mv N p wk nk w2 nk) : Go N p X S w tv nv D w2 s2 nk E := ⟨h1, h.mv.trans h2, h.fr, h.tl, h.pl⟩
theorem Go.drew1 (h : Go N p X S w tv nv D wk s nk E) : Go N p X S w tv nv D wk.drew s nk E := h.new (Below.refl _ _).drew
theorem Bx.new (hG : Go N p X S w tv nv D wk s nk E) (c : Array Value) (t : TypeId) : Bx w (wk.alloc (.cells c t)) nk wk.heap.size c t :=
 ⟨blk_new _ _, hG.size, fun e => by have := (hG.st.nodes.row.lt _ e).2; omega⟩
end
end
section
variable {N p : Nat} {w : World} {X : Ps.Src} {S : ByteArray} {s : Rs.St} {tv nv : Value} {D : List (Ps.Nd × Value)}
def putSt (x : Ps.Nd) (s : Rs.St) : Rs.St := { s with p := { s.p with nodes := s.p.nodes ++ [x] } }
theorem put_few {x : Ps.Nd} {s : Rs.St} (h : Rs.put x s ≠ .out) : s.p.nodes.length < Rs.room := by
 unfold Rs.put at h
 split at h
 ·assumption
 ·exact absurd rfl h
theorem put_is {x : Ps.Nd} {s : Rs.St} (h : Rs.put x s ≠ .out) : Rs.put x s = .ok [s.p.nodes.length] (putSt x s) := by
 have := put_few h;unfold Rs.put;rw [if_pos this]
 rfl
/-- What putting a node leaves. -/
def PutOut (N p : Nat) (X : Ps.Src) (S : ByteArray) (w : World) (tv nv : Value) (D : List (Ps.Nd × Value)) (s : Rs.St) (x : Ps.Nd) (u : Value) (e : Ending) (w' : World) : Prop :=
 e = .returned (.int .i64 (s.p.nodes.length : Int)) ∧ ∃ nv', PSt N p w' X S (putSt x s) tv nv' (D ++ [(x, u)]) ∧ Mv N p w nv w' nv'
/-- The state behind the append. -/
theorem put_state {w1 w8 : World} {x : Ps.Nd} {u : Value} {g2 cap2 : Nat} {o : Obj} (h : Go N p X S w tv nv D w1 s nv []) (hown : w8.ownsRow N 41 5 (.slice (some ⟨g2, 0, none⟩) (D.length + 1) cap2) (D.length + 1) ((D.flatMap fun x => ndCells x.1 x.2) ++ ndCells x u)) (hgrow : ((w1.alloc o).drew).grownBy w8 nv.ownBlock)
  (hat : nv.ownBlock = some g2 ∨ g2 = w1.heap.size + 1) (hu : KidsV N w1 u x.kids) (hb8 : w8.heap[p]? = some (.cells #[.string S, tv, .int .i64 (s.p.i : Int), .int .i64 s.p.deep, nv, .int .i64 (wc s), .int .i64 (wp s : Int), .bool (Rs.isWrong s)] 67 (0, 0))) (hf : s.p.nodes.length < Rs.room) :
  PSt N p (w8.setCell ⟨p, 4, none⟩ (.slice (some ⟨g2, 0, none⟩) (D.length + 1) cap2)) X S (putSt x s) tv (.slice (some ⟨g2, 0, none⟩) (D.length + 1) cap2) (D ++ [(x, u)]) ∧ Mv N p w nv (w8.setCell ⟨p, 4, none⟩ (.slice (some ⟨g2, 0, none⟩) (D.length + 1) cap2)) (.slice (some ⟨g2, 0, none⟩) (D.length + 1) cap2) := by
 have hst := h.st;rw [List.append_nil] at hst;have hDl : D.length = s.p.nodes.length := by rw [hst.eq, List.length_map]
 have hk : ∀ k, k < w1.heap.size → nv.ownBlock ≠ some k → w8.heap[k]? = w1.heap[k]? := fun k h1 h2 => (hgrow.block k (by show k < (w1.alloc o).heap.size; simp; omega) (fun e => h2 e.symm)).trans (Below.heap_alloc _ _ _ h1)
 have htoks : ToksV N w8 tv X.toks := own_keep hst.toks (fun k hk2 => hk k (hst.toks.lt k hk2).2 (fun e => own_ne_own hst.toks hst.nodes.row (by decide) hk2 e));have hkids : ∀ u l, KidsV N w1 u l → KidsV N w8 u l := fun u l hl => own_keep hl (fun k hk2 => hk k (hl.lt k hk2).2 (fun e => own_ne_own hl hst.nodes.row (by decide) hk2 e))
 have hrow : NodesV N w8 (.slice (some ⟨g2, 0, none⟩) (D.length + 1) cap2) (D ++ [(x, u)]) := by
  refine ⟨?_, fun y hy => ?_⟩
  ·rw [List.length_append, List.flatMap_append]
   simpa using hown
  ·rcases List.mem_append.1 hy with hy | hy
   ·exact hkids _ _ (hst.nodes.kids y hy)
   ·obtain rfl : y = (x, u) := by simpa using hy
    exact hkids _ _ hu
 have hN : N ≤ p := hst.hN;have hrm := room_is;refine ⟨{ hst with
   blk := blk_set hb8 4 _
   toks := own_set htoks hb8 (by decide)
   nodes := nodes_set hrow hb8 4 _
   eq := by show s.p.nodes ++ [x] = _; rw [hst.eq, List.map_append]; rfl
   many := by rw [List.length_append]; simp; omega }, ?_, fun k h1 h2 h3 => ?_, fun g hg => ?_⟩
 ·have hb1 : Below N w (w1.alloc o).drew := (h.mv.below.alloc hst.nN o).drew;exact (Below.grown hb1 hgrow (by show N ≤ (w1.alloc o).heap.size; simp; have := hst.nN; omega) (fun k hk2 => (hst.nodes.row.lt k hk2).1)).setCell (p := ⟨p, 4, none⟩) hN _
 ·have hs := h.size;exact (Below.heap_setCell _ _ _ _ h2).trans ((hk k (by omega) h3).trans (h.mv.keep k h1 h2 h3))
 ·have hs := h.size
  cases hg
  show nv.ownBlock = some g2 ∨ w.heap.size ≤ g2
  rcases hat with e | e
  ·exact .inl e
  ·exact .inr (by omega)
set_option maxRecDepth 100000 in
set_option maxHeartbeats 1000000 in
theorem rpput_any (h : PSt N p w X S s tv nv D) (x : Ps.Nd) (u : Value) (hu : KidsV N w u x.kids) (hf : s.p.nodes.length < Rs.room) : Calls Tryz.prog 58 #[.pointer (some ⟨p, 0, none⟩), .agg #[.int .i64 x.kind, .int .i64 x.pos, .int .i64 x.num, .string (str x.text), u]] w (PutOut N p X S w tv nv D s x u) := by
 have hDl : D.length = s.p.nodes.length := by rw [h.eq, List.length_map]
 have HG := zh (Go.start h);have HU := zh hu;have h1c := zh (kids_one hu x.kind x.pos x.num (str x.text));obtain ⟨ua, uc, hus⟩ := own_slice hu rfl;obtain ⟨i0, hi0, hz0, hz1, hz2⟩ := info_parts node_info;have HDL := zh hDl;have hDf : D.length < Rs.room := by omega
 have hrm := room_is;have HL5 := zh (ndCells_len D);have HDE := zh h.eq;clear h hu hDl;subst hus
 go_enter Tryz.func58, Tryz.ntmps58
 go_wp2_with fail
 obtain ⟨w1, hw1⟩ : ∃ w1 : World, w1 = (w.alloc (.cells #[.int .i64 x.kind, .int .i64 x.pos, .int .i64 x.num, .string (str x.text), .slice ua x.kids.length uc] 41)) := ⟨_, rfl⟩;have HQ : Hid (w1.heap[w.heap.size]? = some (.cells #[.int .i64 x.kind, .int .i64 x.pos, .int .i64 x.num, .string (str x.text), .slice ua x.kids.length uc] 41 (0, 0))) := zh (by rw [hw1]; exact blk_new _ _);have HG1 : Hid (Go N p X S w tv nv D w1 s nv []) := zh (by rw [hw1]; exact HG.out.alloc _);have HU1 : Hid (KidsV N w1 (.slice ua x.kids.length uc) x.kids) := zh (by rw [hw1]; exact HU.out.alloc _);rw [← hw1];clear hw1;have q0 := blk_cell HQ.out 0;have q1 := blk_cell HQ.out 1;have q2 := blk_cell HQ.out 2;have q3 := blk_cell HQ.out 3;have q4 := blk_cell HQ.out 4;have hql := blk_lt HQ.out;have d4 := HG1.out.st.c4;have hp1 := HG1.out.st.lt;have hN1 := HG1.out.st.nN;simp only [List.getElem?_toArray, List.getElem?_cons_zero, List.getElem?_cons_succ] at q0 q1 q2 q3 q4
 have HV1 : Hid (w1.ownsRow N 41 5 nv D.length (D.flatMap fun x => ndCells x.1 x.2)) := zh (by have := HG1.out.st.nodes.row; rwa [List.append_nil] at this);have HP1 := zh HG1.out.st.blk;have HBA : Hid (((w1.alloc (.cells (ndCells x (.slice ua x.kids.length uc)).toArray 41)).drew).heap[p]? = some (.cells #[.string S, tv, .int .i64 (s.p.i : Int), .int .i64 s.p.deep, nv, .int .i64 (wc s), .int .i64 (wp s : Int), .bool (Rs.isWrong s)] 67 (0, 0))) := zh (blk_alloc HP1.out _);obtain ⟨na, nc, hnv⟩ := own_slice HV1.out rfl;subst hnv;go_wp2_with fail
 go_region_law (refine step_append_lies _ (by rfl) _ _ _ (by rfl) N 41 i0 _ 5 64 Tryz.underlying22 hi0 hz0 hz1 hz2 rfl (by omega) (.slice na D.length nc) D.length (D.flatMap fun x => ndCells x.1 x.2) (by rfl) (by exact HV1.out.alloc _) ⟨w1.heap.size, 0, none⟩ 1 1 (ndCells x (.slice ua x.kids.length uc)) (by rfl) (by rfl) (World.news_of_block (cs := (ndCells x (.slice ua x.kids.length uc)).toArray) (t := 41) (fr := (0, 0)) (heap_alloc_new _ _)) h1c.out (by omega) (by unfold maxLen; omega) (by omega) (by simp; omega) (w1.heap.size + 1) (by simp) ?_; intro g2 cap2 w8 hown1 hgrow hat hlt; have hb8 := blk_grown HBA.out hgrow (fun e0 => own_ne_blk HV1.out HP1.out (by decide) e0.symm); have e0 := blk_cell hb8 4; have e1 := blk_free hb8 4; have hl8 := blk_lt hb8; simp only [List.getElem?_toArray, List.getElem?_cons_zero, List.getElem?_cons_succ] at e0; have HGR := zh hgrow; have HO8 := zh hown1; have HB8 := zh hb8; clear hb8 hgrow hown1)
 all_goals
  have HF := zh (put_state HG1.out HO8.out HGR.out hat HU1.out HB8.out hf);clear hat e0 e1 q0 q1 q2 q3 q4 d4;have y4 := HF.out.1.c4;have hl9 := HF.out.1.lt;have wr1 : IntKind.i64.wrap ((D.length : Int) + 1 - 1) = (D.length : Int) := by rw [Int.add_sub_cancel]; exact IntWalk.i64_in _ (by omega)
  generalize (w8.setCell ⟨p, 4, none⟩ (.slice (some ⟨g2, 0, none⟩) (D.length + 1) cap2)) = w9 at *;go_wp2
  go_returns
  exact ⟨by show Ending.returned (.int .i64 (D.length : Int)) = _; rw [HDL.out], _, HF.out.1, HF.out.2⟩
end
section
variable {N p q : Nat} {w0 wk w2 : World} {X : Ps.Src} {S : ByteArray} {s s2 : Rs.St} {tv nv nk n2 : Value} {D E E2 : List (Ps.Nd × Value)} {c : Array Value} {t : TypeId}
/-- Through a call. -/
theorem Kd.mv {u : Value} {l : List Nat} (h : Kd N w0 wk (D ++ E) u l) (hG : Go N p X S w0 tv nv D wk s nk E) (m : Mv N p wk nk w2 n2) (hE : Fresh wk.heap.size E2) : Kd N w0 w2 (D ++ (E ++ E2)) u l := by
 refine ⟨own_keep h.row (fun k hk => m.keep k (h.row.lt k hk).2 (fun e => ?_) (own_ne_own h.row hG.st.nodes.row (by decide) hk)), h.lo, ?_⟩
 ·subst e;exact own_ne_blk h.row hG.st.blk (by decide) hk
 ·rw [← List.append_assoc];intro x hx b hb e
  rcases List.mem_append.1 hx with hx | hx
  ·exact h.ap x hx b hb e
  ·have h1 := hE x hx b hb;have h2 := (h.row.lt b e).2
   omega
/-- A row that is built. -/
theorem Kd.new (hG : Go N p X S w0 tv nv D wk s nk E) (l : List Nat) (hl : l.length ≤ 1000) : Kd N w0 (wk.alloc (.cells (kidVals l).toArray 3)) (D ++ E) (.slice (some ⟨wk.heap.size, 0, none⟩) l.length l.length) l := by
 refine ⟨⟨by simp [kidVals], .inr ⟨wk.heap.size, l.length, (kidVals l).toArray, rfl, hG.st.nN, blk_new _ _, Nat.le_refl _, by unfold maxLen; omega, by simp [kidVals], ?_⟩⟩, fun b hb => by cases hb; exact hG.size, fun x hx b hb e => ?_⟩
 ·simp [kidVals, List.take_of_length_le]
 ·obtain rfl : wk.heap.size = b := by simpa [Value.ownBlock] using e
  have := ((hG.st.nodes.kids x hx).lt _ hb).2;omega
/-- Behind an append to the row. -/
theorem Kd.grown {u : Value} {l l2 : List Nat} {w8 : World} {o : Obj} {g2 m cap2 : Nat} (h : Kd N w0 wk (D ++ E) u l) (hG : Go N p X S w0 tv nv D wk s nk E) (hown : w8.ownsRow N 3 1 (.slice (some ⟨g2, 0, none⟩) (l.length + m) cap2) (l.length + m) (kidVals l ++ kidVals l2)) (hm : l2.length = m) (hgrow : (wk.alloc o).grownBy w8 u.ownBlock)
  (hat : u.ownBlock = some g2 ∨ g2 = wk.heap.size + 1) : Go N p X S w0 tv nv D w8 s nk E ∧ Kd N w0 w8 (D ++ E) (.slice (some ⟨g2, 0, none⟩) (l.length + m) cap2) (l ++ l2) ∧ (∀ k, k < wk.heap.size → u.ownBlock ≠ some k → w8.heap[k]? = wk.heap[k]?) := by
 have hk : ∀ k, k < wk.heap.size → u.ownBlock ≠ some k → w8.heap[k]? = wk.heap[k]? := fun k h1 h2 => (hgrow.block k (by simp; omega) (fun e => h2 e.symm)).trans (Below.heap_alloc _ _ _ h1)
 have hst := hG.st;have hs := hG.size;have hlt : ∀ k, u.ownBlock = some k → k < wk.heap.size := fun k hk2 => (h.row.lt k hk2).2
 have hup : u.ownBlock ≠ some p := fun e => own_ne_blk h.row hst.blk (by decide) e
 have hb8 : Below N wk w8 := Below.grown ((Below.refl N wk).alloc hst.nN o) hgrow (by simp; have := hst.nN; omega) (fun k hk2 => (h.row.lt k hk2).1);have hG8 : Go N p X S w0 tv nv D w8 s nk E := by
  refine ⟨{ hst with
    blk := (hk p (blk_lt hst.blk) hup).trans hst.blk
    toks := own_keep hst.toks (fun k hk2 => hk k (hst.toks.lt k hk2).2 (fun e => own_ne_own hst.toks h.row (by decide) hk2 e))
    nodes := ⟨own_keep hst.nodes.row (fun k hk2 => hk k (hst.nodes.row.lt k hk2).2 (fun e => own_ne_own hst.nodes.row h.row (by decide) hk2 e)), fun x hx => own_keep (hst.nodes.kids x hx) (fun k hk2 => hk k ((hst.nodes.kids x hx).lt k hk2).2 (h.ap x hx k hk2))⟩ },
   ⟨hG.mv.below.trans hb8, fun k h1 h2 h3 => (hk k (by omega) (fun e => ?_)).trans (hG.mv.keep k h1 h2 h3), hG.mv.row⟩, hG.fr, hG.tl, hG.pl⟩
  have := h.lo k e;omega
 refine ⟨hG8, ⟨?_, fun b hb => ?_, fun x hx b hb e => ?_⟩, hk⟩
 ·have : kidVals (l ++ l2) = kidVals l ++ kidVals l2 := List.map_append
  show w8.ownsRow N 3 1 _ (l ++ l2).length (kidVals (l ++ l2))
  rw [this, List.length_append, hm];exact hown
 ·obtain rfl : g2 = b := by simpa [Value.ownBlock] using hb
  rcases hat with e | e
  ·exact h.lo _ e
  ·omega
 ·obtain rfl : g2 = b := by simpa [Value.ownBlock] using e
  rcases hat with e | e
  ·exact h.ap x hx _ hb e
  ·have := ((hst.nodes.kids x hx).lt _ hb).2;omega
end
section
variable {N p : Nat} {w : World} {X : Ps.Src} {S : ByteArray} {s : Rs.St} {tv nv : Value} {D : List (Ps.Nd × Value)}
/-- Behind an append of a whole row to the row. -/
theorem Kd.grown0 {wk : World} {nk : Value} {E : List (Ps.Nd × Value)} {u : Value} {l l2 : List Nat} {w8 : World} {g2 m cap2 : Nat} (h : Kd N w wk (D ++ E) u l) (hG : Go N p X S w tv nv D wk s nk E) (hown : w8.ownsRow N 3 1 (.slice (some ⟨g2, 0, none⟩) (l.length + m) cap2) (l.length + m) (kidVals l ++ kidVals l2)) (hm : l2.length = m) (hgrow : wk.grownBy w8 u.ownBlock)
  (hat : u.ownBlock = some g2 ∨ g2 = wk.heap.size) : Go N p X S w tv nv D w8 s nk E ∧ Kd N w w8 (D ++ E) (.slice (some ⟨g2, 0, none⟩) (l.length + m) cap2) (l ++ l2) := by
 have hk : ∀ k, k < wk.heap.size → u.ownBlock ≠ some k → w8.heap[k]? = wk.heap[k]? := fun k h1 h2 => hgrow.block k h1 (fun e => h2 e.symm)
 have hst := hG.st;have hs := hG.size;have hup : u.ownBlock ≠ some p := fun e => own_ne_blk h.row hst.blk (by decide) e
 have hb8 : Below N wk w8 := Below.grown (Below.refl N wk) hgrow hst.nN (fun k hk2 => (h.row.lt k hk2).1);have hG8 : Go N p X S w tv nv D w8 s nk E := by
  refine ⟨{ hst with
    blk := (hk p (blk_lt hst.blk) hup).trans hst.blk
    toks := own_keep hst.toks (fun k hk2 => hk k (hst.toks.lt k hk2).2 (fun e => own_ne_own hst.toks h.row (by decide) hk2 e))
    nodes := ⟨own_keep hst.nodes.row (fun k hk2 => hk k (hst.nodes.row.lt k hk2).2 (fun e => own_ne_own hst.nodes.row h.row (by decide) hk2 e)), fun x hx => own_keep (hst.nodes.kids x hx) (fun k hk2 => hk k ((hst.nodes.kids x hx).lt k hk2).2 (h.ap x hx k hk2))⟩ },
   ⟨hG.mv.below.trans hb8, fun k h1 h2 h3 => (hk k (by omega) (fun e => ?_)).trans (hG.mv.keep k h1 h2 h3), hG.mv.row⟩, hG.fr, hG.tl, hG.pl⟩
  have := h.lo k e;omega
 refine ⟨hG8, ⟨?_, fun b hb => ?_, fun x hx b hb e => ?_⟩⟩
 ·have : kidVals (l ++ l2) = kidVals l ++ kidVals l2 := List.map_append
  show w8.ownsRow N 3 1 _ (l ++ l2).length (kidVals (l ++ l2))
  rw [this, List.length_append, hm];exact hown
 ·obtain rfl : g2 = b := by simpa [Value.ownBlock] using hb
  rcases hat with e | e
  ·exact h.lo _ e
  ·omega
 ·obtain rfl : g2 = b := by simpa [Value.ownBlock] using e
  rcases hat with e | e
  ·exact h.ap x hx _ hb e
  ·have := ((hst.nodes.kids x hx).lt _ hb).2;omega
end
/-- What a call leaves that answers a row of numbers. -/
def OutL (N p : Nat) (X : Ps.Src) (S : ByteArray) (w : World) (tv nv : Value) (D : List (Ps.Nd × Value)) (r : Rs.Res) (e : Ending) (w' : World) : Prop :=
 match r with
 | .out => True
 | .ok v s' => ∃ u nv' E, e = .returned u ∧ PSt N p w' X S s' tv nv' (D ++ E) ∧ Mv N p w nv w' nv' ∧ Fresh w.heap.size E ∧ Kd N w w' (D ++ E) u v ∧ v.length ≤ 1000000
section
variable {N p : Nat} {w wk w2 : World} {X : Ps.Src} {S : ByteArray} {s sk : Rs.St} {tv nv nk : Value} {D E : List (Ps.Nd × Value)}
theorem OutL.parts {r : Rs.Res} {e : Ending} {w' : World} (h : OutL N p X S w tv nv D r e w') (hne : r ≠ .out) :
  ∃ v s' u nv' E, r = .ok v s' ∧ e = .returned u ∧ PSt N p w' X S s' tv nv' (D ++ E) ∧ Mv N p w nv w' nv' ∧ Fresh w.heap.size E ∧ Kd N w w' (D ++ E) u v ∧ v.length ≤ 1000000 := by
 cases r with
 | out => exact absurd rfl hne
 | ok v s' =>
  obtain ⟨u, nv', E, h1, h2, h3, h4, h5⟩ := h;exact ⟨v, s', u, nv', E, rfl, h1, h2, h3, h4, h5⟩
theorem Go.outL {v : List Nat} {u : Value} {r : Rs.Res} (h : Go N p X S w tv nv D wk sk nk E) (hk : Kd N w wk (D ++ E) u v) (hl : v.length ≤ 1000000) (hr : r = .ok v sk) : OutL N p X S w tv nv D r (.returned u) wk := by
 subst hr;exact ⟨u, nk, E, rfl, h.st, h.mv, h.fr, hk, hl⟩
end
/-- THE CONTRACT of a function of the parser's that takes nothing but the parser. -/
def POk (X : Ps.Src) (S : ByteArray) (f : FuncId) (val : List Nat → Value) (plain : Rs.St → Rs.Res) : Prop :=
 ∀ (N p : Nat) (w : World) (s : Rs.St) (tv nv : Value) (D : List (Ps.Nd × Value)), PSt N p w X S s tv nv D → plain s ≠ .out → Calls Tryz.prog f #[.pointer (some ⟨p, 0, none⟩)] w (Out N p X S w tv nv D val (plain s))
end Go.Proofs.YtjickecdkmljpaaGreatDoor.R
namespace Go.Proofs.YtjickecdkmljpaaGreatDoor.R
open Go.RowKit

theorem by_str_eq (a b : List UInt8) : ((str a).toList == b) = (a == b) := by rw [by_toList, by_str]
section
variable {N p : Nat} {w : World} {X : Ps.Src} {S : ByteArray} {s : Rs.St} {tv nv : Value} {D : List (Ps.Nd × Value)}
set_option maxRecDepth 100000 in
set_option maxHeartbeats 1000000 in
theorem rpnow_any (h : PSt N p w X S s tv nv D) : Calls Tryz.prog 55 #[.pointer (some ⟨p, 0, none⟩)] w fun e w' => e = .returned (tokVal (Rs.now X s)) ∧ Below w.heap.size w w' := by
 have c0 := blk_cell h.blk 0;have c1 := blk_cell h.blk 1;have c2 := blk_cell h.blk 2;have hpl := h.lt;simp only [List.getElem?_toArray, List.getElem?_cons_zero, List.getElem?_cons_succ] at c0 c1 c2;have hS := h.src.small;have hl := h.src.few;have hi := h.i
 by_cases hlt : s.p.i < X.toks.length
 ·obtain ⟨g, gc, hg⟩ := own_lit h.toks (by omega);subst hg
  obtain ⟨x0, x1, x2, x3⟩ := toks_get h.toks hlt (Ps.noTok X);have hgl := (World.ownsRow.lt h.toks g rfl).2;have HNOW : Hid (Rs.now X s = X.toks.getD s.p.i (Ps.noTok X)) := zh rfl;have b0 : (0 : Int) ≤ (s.p.i : Int) := by omega
  have b1 : (s.p.i : Int) < (X.toks.length : Int) := by omega
  clear h;generalize s.p.i = i at *;generalize X.toks.getD i (Ps.noTok X) = t at *;rw [HNOW.out];clear HNOW;generalize X.toks.length = n at *
  go_enter Tryz.func55, Tryz.ntmps55
  go_wp2_with fail
  go_quiet (fail)
  go_wp2_with fail
  go_region
  go_wp2
  go_returns
  exact ⟨rfl, four_below _ _ _ _ _ _ _⟩
 ·obtain ⟨a, gc, hg⟩ := own_slice h.toks rfl;subst hg
  have hle : X.toks.length ≤ s.p.i := by omega
  have HNOW : Hid (Rs.now X s = ⟨0, [], 0, S.size⟩) := zh (by unfold Rs.now Ps.now Ps.noTok; rw [List.getD_eq_getElem?_getD, List.getElem?_eq_none hle, h.src.len]; rfl);rw [HNOW.out];clear h HNOW hi hlt;generalize s.p.i = i at *;generalize X.toks.length = n at *
  go_enter Tryz.func55, Tryz.ntmps55
  go_wp2_with fail
  go_quiet (fail)
  go_wp2
  go_returns
  exact ⟨rfl, four_below _ _ _ _ _ _ _⟩

/-- The walk's own words for a test of the token. -/
theorem isK_eq (X : Ps.Src) (s : Rs.St) (Y : ByteArray) : Rs.isK X s (by_ Y) = (((str (Rs.now X s).text).toList == Y.toList) && ((Rs.now X s).kind == 3 || (Rs.now X s).kind == 4)) := by
 unfold Rs.isK Ps.isK
 show ((Ps.now X s.p).text == by_ Y && _) = ((str (Ps.now X s.p).text).toList == Y.toList && _)
 rw [by_toList, by_toList, by_str]
 rfl
set_option maxRecDepth 100000 in
set_option maxHeartbeats 1000000 in
theorem rpis_any (h : PSt N p w X S s tv nv D) (Y : ByteArray) : Calls Tryz.prog 105 #[.pointer (some ⟨p, 0, none⟩), .string Y] w fun e w' => e = .returned (.bool (Rs.isK X s (by_ Y))) ∧ Below w.heap.size w w' := by
 have HN := zh (rpnow_any h);rw [isK_eq];clear h;generalize Rs.now X s = t at *;obtain ⟨kind, text, num, pos⟩ := t;dsimp only
 cases h1 : ((str text).toList == Y.toList) with
 | false =>
  go_enter Tryz.func105, Tryz.ntmps105
  go_wp2_with fail
  refine HN.out.mono ?_;rintro e w1 ⟨rfl, hb⟩;have HB := zh hb;clear hb;unfold tokVal tokCells;go_wp2
  go_returns
  exact ⟨rfl, HB.out.alloc HB.out.size _⟩
 | true =>
  by_cases h3 : kind = 3
  ·subst h3
   go_enter Tryz.func105, Tryz.ntmps105
   go_wp2_with fail
   refine HN.out.mono ?_;rintro e w1 ⟨rfl, hb⟩;have HB := zh hb;clear hb;unfold tokVal tokCells;go_wp2
   go_returns
   exact ⟨rfl, HB.out.alloc HB.out.size _⟩
  ·have g3 : (kind == 3) = false := by simpa using h3
   have HG := zh g3;clear h3
   go_enter Tryz.func105, Tryz.ntmps105
   go_wp2_with fail
   refine HN.out.mono ?_;rintro e w1 ⟨rfl, hb⟩;have HB := zh hb;clear hb;unfold tokVal tokCells;go_wp2
   go_returns
   exact ⟨ret_bool (by rw [HG.out]; simp), HB.out.alloc HB.out.size _⟩
theorem rpis_is (h : PSt N p w X S s tv nv D) (Y : ByteArray) (b : Bool) (hb : Hid (Rs.isK X s (by_ Y) = b)) : Calls Tryz.prog 105 #[.pointer (some ⟨p, 0, none⟩), .string Y] w fun e w' => e = .returned (.bool b) ∧ Below w.heap.size w w' := by
 have := rpis_any h Y;rw [hb.out] at this;exact this


/-- Nothing is read any more: the parser's words for it. -/
theorem PSt.stopped {wk : World} (h : PSt N p wk X S s tv nv D) (c : Int) (hw : s.w = none) :
  PSt N p ((((wk.setCell ⟨p, 7, none⟩ (.bool true)).setCell ⟨p, 5, none⟩ (.int .i64 c)).setCell ⟨p, 6, none⟩ (.int .i64 ((Rs.now X s).pos : Int))).setCell ⟨p, 2, none⟩ (.int .i64 (X.toks.length : Int))) X S (Rs.stop X c s) tv nv D :=
 have e1 := blk_set h.blk 7 (.bool true);have e2 := blk_set e1 5 (.int .i64 c);have e3 := blk_set e2 6 (.int .i64 ((Rs.now X s).pos : Int))
 {blk := by
   have e4 := blk_set e3 2 (.int .i64 (X.toks.length : Int));have hs : Rs.stop X c s = ⟨{ s.p with i := X.toks.length }, some (c, (Rs.now X s).pos)⟩ := by unfold Rs.stop; rw [hw]; rfl
   rw [hs];exact e4
  toks := own_set (own_set (own_set (own_set h.toks h.blk (by decide)) e1 (by decide)) e2 (by decide)) e3 (by decide)
  nodes := nodes_set (nodes_set (nodes_set (nodes_set h.nodes h.blk 7 _) e1 5 _) e2 6 _) e3 2 _
  eq := h.eq, src := h.src, i := Nat.le_refl _, many := h.many, hN := h.hN }
theorem PSt.stopped2 {wk : World} (h : PSt N p wk X S s tv nv D) (c : Int) {x : Int × Nat} (hw : s.w = some x) :
  PSt N p (wk.setCell ⟨p, 2, none⟩ (.int .i64 (X.toks.length : Int))) X S (Rs.stop X c s) tv nv D := by
 have hs : Rs.stop X c s = { s with p := { s.p with i := X.toks.length } } := by unfold Rs.stop; rw [hw]; cases s; cases hw; rfl
 rw [hs];exact h.setI (Nat.le_refl _)
set_option maxRecDepth 100000 in
set_option maxHeartbeats 1000000 in
theorem rpfail_any (h : PSt N p w X S s tv nv D) (c : Int) : Calls Tryz.prog 111 #[.pointer (some ⟨p, 0, none⟩), .int .i64 c] w (Out N p X S w tv nv D unitV (.ok [] (Rs.stop X c s))) := by
 have HS := zh h;have HN := zh (rpnow_any h);have hNN := h.nN;have hp := h.hN;obtain ⟨ta, tc, hta⟩ := own_slice h.toks rfl
 cases hw : s.w with
 | none =>
  have c7 := h.c7;have hwr : Rs.isWrong s = false := by unfold Rs.isWrong; rw [hw]; rfl
  rw [hwr] at c7;have HW := zh hw;have hpl := h.lt;have HTA := zh hta;clear h hw hta
  go_enter Tryz.func111, Tryz.ntmps111
  go_wp2_with fail
  refine HN.out.mono ?_;rintro e w1 ⟨rfl, hb⟩;have HP1 := zh (HS.out.below hb);have HB := zh hb;have hbs := hb.size;clear hb c7 HN;generalize hnow : Rs.now X s = t at *;have HNOW := zh hnow;clear hnow;unfold tokVal tokCells;have HP2 := zh (HP1.out.below ((Below.refl _ _).alloc (Nat.le_refl _) (.cells #[.int .i64 t.kind, .string (str t.text), .int .i64 t.num, .int .i64 (t.pos : Int)] 95)));have HBX := zh (blk_new w1 (.cells #[.int .i64 t.kind, .string (str t.text), .int .i64 t.num, .int .i64 (t.pos : Int)] 95));have HB2 := zh (HB.out.alloc hbs (.cells #[.int .i64 t.kind, .string (str t.text), .int .i64 t.num, .int .i64 (t.pos : Int)] 95));have x3 := blk_cell HBX.out 3;have c1 := HP2.out.c1;have f7 := HP2.out.free 7;have f5 := HP2.out.free 5;have f6 := HP2.out.free 6;have f2 := HP2.out.free 2;have d7 := HP2.out.c7;have d5 := HP2.out.c5;have d6 := HP2.out.c6;have d2 := HP2.out.c2;have hl2 := HP2.out.lt
  have hql := blk_lt HBX.out;simp only [List.getElem?_toArray, List.getElem?_cons_zero, List.getElem?_cons_succ] at x3;rw [HTA.out] at c1;have HE := zh (HP2.out.stopped c HW.out);rw [HNOW.out] at HE;have hqp : w1.heap.size ≠ p := by have := HP1.out.lt; omega
  have hpq : p ≠ w1.heap.size := hqp.symm;go_wp2
  go_returns
  exact out_ok (E := []) rfl rfl (by rw [List.append_nil]; exact HE.out) (((((Mv.new HB2.out hNN).set hp 7 _).set hp 5 _).set hp 6 _).set hp 2 _) (Fresh.nil _)
 | some x =>
  have c7 := h.c7;have hwr : Rs.isWrong s = true := by unfold Rs.isWrong; rw [hw]; rfl
  rw [hwr] at c7;have c1 := h.c1;rw [hta] at c1;have f2 := h.free 2;have d2 := h.c2;have hpl := h.lt;have HE := zh (h.stopped2 c hw);clear h hw hta HN
  go_enter Tryz.func111, Tryz.ntmps111
  go_wp2
  go_returns
  exact out_ok (E := []) rfl rfl (by rw [List.append_nil]; exact HE.out) ((Mv.refl _ _ _ _).set hp 2 _) (Fresh.nil _)
end
end Go.Proofs.YtjickecdkmljpaaGreatDoor.R
namespace Go.Proofs.YtjickecdkmljpaaGreatDoor.R
open Go.RowKit

section
variable {N p : Nat} {w : World} {X : Ps.Src} {S : ByteArray} {s : Rs.St} {tv nv : Value} {D : List (Ps.Nd × Value)}
theorem Bx.go {N p q : Nat} {w0 wk : World} {X : Ps.Src} {S : ByteArray} {s : Rs.St} {tv nv nk : Value} {D E : List (Ps.Nd × Value)} {c : Array Value} {t : TypeId} (h : Bx w0 wk nk q c t) (hG : Go N p X S w0 tv nv D wk s nk E) (ht : 3 ≠ t) (i : Nat) (u : Value) : Go N p X S w0 tv nv D (wk.setCell ⟨q, i, none⟩ u) s nk E := hG.box h.lo h.blk h.ne ht i u
theorem Kd.step {N p : Nat} {w0 wk w2 : World} {X : Ps.Src} {S : ByteArray} {s : Rs.St} {tv nv nk u : Value} {D E : List (Ps.Nd × Value)} {l : List Nat} (h : Kd N w0 wk (D ++ E) u l) (hG : Go N p X S w0 tv nv D wk s nk E) (h2 : Mv N p wk nk w2 nk) : Kd N w0 w2 (D ++ E) u l := by
 have := Kd.mv h hG h2 (Fresh.nil _)
 rwa [List.append_nil] at this
theorem Kd.lift {N p : Nat} {w0 wk w2 : World} {X : Ps.Src} {S : ByteArray} {s : Rs.St} {tv nv nk u : Value} {D E E2 : List (Ps.Nd × Value)} {l : List Nat} (h : Kd N wk w2 ((D ++ E) ++ E2) u l) (hG : Go N p X S w0 tv nv D wk s nk E) : Kd N w0 w2 (D ++ (E ++ E2)) u l :=
 ⟨h.row, fun b hb => Nat.le_trans hG.size (h.lo b hb), by rw [← List.append_assoc]; exact h.ap⟩
theorem isK_lt {X : Ps.Src} {s : Rs.St} {x : List UInt8} (h : Rs.isK X s x = true) : s.p.i < X.toks.length := YtjickecdkmljpaaGreatDoor.isK_lt X s.p x h
theorem isName_lt {X : Ps.Src} {s : Rs.St} (h : Rs.isName X s = true) : s.p.i < X.toks.length := YtjickecdkmljpaaGreatDoor.isName_lt X s.p h
set_option maxRecDepth 100000 in
set_option maxHeartbeats 1000000 in
theorem rptake_any (h : PSt N p w X S s tv nv D) (Y : ByteArray) : Calls Tryz.prog 57 #[.pointer (some ⟨p, 0, none⟩), .string Y] w (Out N p X S w tv nv D oneV (Rs.take X (by_ Y) s)) := by
 have HG := zh (Go.start h);clear h
 go_enter Tryz.func57, Tryz.ntmps57
 go_wp2_with fail
 refine (rpnow_any HG.out.st).mono ?_;rintro e w1 ⟨rfl, hb⟩;replace HG := zh (HG.out.new hb);clear hb;generalize hnow : Rs.now X s = t at *;have HNOWt := zh hnow;clear hnow;unfold tokVal tokCells;go_wp2_with fail
 have HBt := zh (Bx.new HG.out #[.int .i64 t.kind, .string (str t.text), .int .i64 t.num, .int .i64 (t.pos : Int)] 95);replace HG := zh (HG.out.alloc (.cells #[.int .i64 t.kind, .string (str t.text), .int .i64 t.num, .int .i64 (t.pos : Int)] 95));generalize hw2 : (w1.alloc (.cells #[.int .i64 t.kind, .string (str t.text), .int .i64 t.num, .int .i64 (t.pos : Int)] 95)) = w2 at *;have hql := HBt.out.lt;clear hw2
 cases hb : Rs.isK X s (by_ Y) with
 | false =>
  have KB := zh hb
  skip
  clear hb;refine (rpis_is HG.out.st Y false KB).mono ?_;rintro e w3 ⟨rfl, hb⟩;replace HBt := zh (HBt.out.below hb);replace HG := zh (HG.out.new hb);clear hb;go_wp2_with fail
  refine (rpfail_any HG.out.st 3).mono ?_;rintro e w4 hq;obtain ⟨v, s4, n4, E4, hr, rfl, h1, h2, h3⟩ := hq.parts ((fun e => by cases e));replace hr : Rs.Res.ok [] (Rs.stop X 3 s) = .ok v s4 := hr
  cases hr
  replace HBt := zh (HBt.out.mv HG.out.pl h2);replace HG := zh (HG.out.then h1 h2 h3);clear hq h1 h2 h3;unfold unitV;have cHBt3 : w4.cell? ⟨w1.heap.size, 3, none⟩ = some (.int .i64 (t.pos : Int)) := HBt.out.cell 3;have lHBt := HBt.out.lt
  skip
  have HE : Hid (Out N p X S w tv nv D oneV (Rs.take X (by_ Y) s) (.returned (.int .i64 (t.pos : Int))) w4) := zh (HG.out.out (v := [t.pos]) (by simp [Rs.takeS, HNOWt.out, KB.out, Rs.take]) rfl);go_wp2
  go_returns
  exact HE.out
 | true =>
  have KB := zh hb;have hlt := isK_lt hb;clear hb;refine (rpis_is HG.out.st Y true KB).mono ?_;rintro e w5 ⟨rfl, hb⟩;replace HBt := zh (HBt.out.below hb);replace HG := zh (HG.out.new hb);clear hb;have ii0 : s.p.i + 1 ≤ X.toks.length := by omega
  have ii1 := HG.out.st.src.few;have dc := HG.out.st.c2;have df := HG.out.st.free 2;have dl := HG.out.st.lt;have iw : IntKind.i64.wrap ((s.p.i : Int) + 1) = (s.p.i : Int) + 1 := IntWalk.i64_in _ (by omega);replace HBt := zh (HBt.out.farP HG.out.pl 2 (.int .i64 ((s.p.i : Int) + 1)));replace HG : Hid (Go N p X S w tv nv D (w5.setCell ⟨p, 2, none⟩ (.int .i64 ((s.p.i : Int) + 1))) (Rs.adv s) nv _) := zh (HG.out.adv ii0);have e3 : (w5.setCell ⟨p, 2, none⟩ (.int .i64 ((s.p.i : Int) + 1))).cell? ⟨w1.heap.size, 3, none⟩ = some (.int .i64 (t.pos : Int)) := HBt.out.cell 3;have HE : Hid (Out N p X S w tv nv D oneV (Rs.take X (by_ Y) s) (.returned (.int .i64 (t.pos : Int))) (w5.setCell ⟨p, 2, none⟩ (.int .i64 ((s.p.i : Int) + 1)))) := zh (HG.out.out (v := [t.pos]) (by simp [Rs.takeS, HNOWt.out, KB.out, Rs.take]) rfl);go_wp2
  go_returns
  exact HE.out
set_option maxRecDepth 100000 in
set_option maxHeartbeats 1000000 in
theorem rptook_any (h : PSt N p w X S s tv nv D) (Y : ByteArray) (b : Bool) (hb : Hid (Rs.isK X s (by_ Y) = b)) : Calls Tryz.prog 102 #[.pointer (some ⟨p, 0, none⟩), .string Y] w fun e w' => e = .returned (.bool b) ∧ PSt N p w' X S (if b then Rs.adv s else s) tv nv D ∧ Mv N p w nv w' nv := by
 have HI := zh (rpis_is h Y b hb);have HS := zh h;have hpl := h.lt;have hN := h.nN
 cases b with
 | false =>
  clear h
  go_enter Tryz.func102, Tryz.ntmps102
  go_wp2_with fail
  refine HI.out.mono ?_;rintro e w1 ⟨rfl, hb1⟩;have HB := zh hb1;clear hb1;go_wp2
  go_returns
  exact ⟨rfl, HS.out.below HB.out, Mv.new HB.out hN⟩
 | true =>
  have hlt := isK_lt hb.out;have hfew := h.src.few;clear h
  go_enter Tryz.func102, Tryz.ntmps102
  go_wp2_with fail
  refine HI.out.mono ?_;rintro e w1 ⟨rfl, hb1⟩;have hs1 := HS.out.below hb1;have d2 := hs1.c2;have d2f := hs1.free 2;have hl1 := hs1.lt;have HB := zh hb1;have HS1 := zh hs1;clear hb1 hs1;go_wp2
  go_returns
  exact ⟨rfl, HS1.out.adv hlt, (Mv.new HB.out hN).set HS1.out.hN 2 _⟩
set_option maxRecDepth 100000 in
set_option maxHeartbeats 1000000 in
theorem rpname_any (h : PSt N p w X S s tv nv D) : Calls Tryz.prog 103 #[.pointer (some ⟨p, 0, none⟩)] w (Out N p X S w tv nv D (fun _ => .string (str (Rs.nameT X s))) (Rs.name X s)) := by
 have HG := zh (Go.start h);clear h
 go_enter Tryz.func103, Tryz.ntmps103
 go_wp2_with fail
 refine (rpnow_any HG.out.st).mono ?_;rintro e w1 ⟨rfl, hb⟩;replace HG := zh (HG.out.new hb);clear hb;generalize hnow : Rs.now X s = t at *;have HNOWt := zh hnow;clear hnow;unfold tokVal tokCells;have HBt := zh (Bx.new HG.out #[.int .i64 t.kind, .string (str t.text), .int .i64 t.num, .int .i64 (t.pos : Int)] 95);replace HG := zh (HG.out.alloc (.cells #[.int .i64 t.kind, .string (str t.text), .int .i64 t.num, .int .i64 (t.pos : Int)] 95));have cHBt0 : (w1.alloc (.cells #[.int .i64 t.kind, .string (str t.text), .int .i64 t.num, .int .i64 (t.pos : Int)] 95)).cell? ⟨w1.heap.size, 0, none⟩ = some (.int .i64 t.kind) := HBt.out.cell 0;have cHBt1 : (w1.alloc (.cells #[.int .i64 t.kind, .string (str t.text), .int .i64 t.num, .int .i64 (t.pos : Int)] 95)).cell? ⟨w1.heap.size, 1, none⟩ = some (.string (str t.text)) := HBt.out.cell 1;have lHBt := HBt.out.lt
 by_cases hk1 : t.kind = 1
 ·have hn : Rs.isName X s = true := by show ((Rs.now X s).kind == 1) = true; rw [HNOWt.out, hk1]; rfl
  have hlt := isName_lt hn;have KN := zh hn;have HT : Hid (Rs.nameT X s = t.text) := zh (by unfold Rs.nameT; rw [hn, HNOWt.out]; rfl);have kk : (t.kind != 1) = false := by simp [hk1]
  clear hn hk1;have ii0 : s.p.i + 1 ≤ X.toks.length := by omega
  have ii1 := HG.out.st.src.few;have dc := HG.out.st.c2;have df := HG.out.st.free 2;have dl := HG.out.st.lt;have iw : IntKind.i64.wrap ((s.p.i : Int) + 1) = (s.p.i : Int) + 1 := IntWalk.i64_in _ (by omega);replace HBt := zh (HBt.out.farP HG.out.pl 2 (.int .i64 ((s.p.i : Int) + 1)));replace HG : Hid (Go N p X S w tv nv D ((w1.alloc (.cells #[.int .i64 t.kind, .string (str t.text), .int .i64 t.num, .int .i64 (t.pos : Int)] 95)).setCell ⟨p, 2, none⟩ (.int .i64 ((s.p.i : Int) + 1))) (Rs.adv s) nv _) := zh (HG.out.adv ii0);have e1 : ((w1.alloc (.cells #[.int .i64 t.kind, .string (str t.text), .int .i64 t.num, .int .i64 (t.pos : Int)] 95)).setCell ⟨p, 2, none⟩ (.int .i64 ((s.p.i : Int) + 1))).cell? ⟨w1.heap.size, 1, none⟩ = some (.string (str t.text)) := HBt.out.cell 1;have HE : Hid (Out N p X S w tv nv D (fun _ => .string (str (Rs.nameT X s))) (Rs.name X s) (.returned (.string (str t.text))) ((w1.alloc (.cells #[.int .i64 t.kind, .string (str t.text), .int .i64 t.num, .int .i64 (t.pos : Int)] 95)).setCell ⟨p, 2, none⟩ (.int .i64 ((s.p.i : Int) + 1)))) := zh (HG.out.out (v := []) (by simp [Rs.nameS, KN.out, Rs.name]) (by rw [HT.out]))
  go_wp2
  go_returns
  exact HE.out
 ·have hn : Rs.isName X s = false := by show ((Rs.now X s).kind == 1) = false; rw [HNOWt.out]; simpa using hk1
  have KN := zh hn;have HT : Hid (Rs.nameT X s = []) := zh (by unfold Rs.nameT; rw [hn]; rfl);have kk : (t.kind != 1) = true := by simpa using hk1
  clear hn hk1;go_wp2_with fail
  clear cHBt0 cHBt1 lHBt;clear kk;generalize (w1.alloc (.cells #[.int .i64 t.kind, .string (str t.text), .int .i64 t.num, .int .i64 (t.pos : Int)] 95)) = w2 at *;refine (rpfail_any HG.out.st 3).mono ?_;rintro e w3 hq;obtain ⟨v, s3, n3, E3, hr, rfl, h1, h2, h3⟩ := hq.parts ((fun e => by cases e));replace hr : Rs.Res.ok [] (Rs.stop X 3 s) = .ok v s3 := hr
  cases hr
  replace HBt := zh (HBt.out.mv HG.out.pl h2);replace HG := zh (HG.out.then h1 h2 h3);clear hq h1 h2 h3;unfold unitV;have HE : Hid (Out N p X S w tv nv D (fun _ => .string (str (Rs.nameT X s))) (Rs.name X s) (.returned (.string ⟨#[]⟩)) w3) := zh (HG.out.out (v := []) (by simp [Rs.nameS, KN.out, Rs.name]) (by rw [HT.out]; rfl));go_wp2
  go_returns
  exact HE.out
set_option maxRecDepth 100000 in
set_option maxHeartbeats 1000000 in
theorem rpenter_any (h : PSt N p w X S s tv nv D) (Y : ByteArray) : Calls Tryz.prog 104 #[.pointer (some ⟨p, 0, none⟩), .string Y] w (Out N p X S w tv nv D oneV (Rs.enter X (by_ Y) s)) := by
 have HG := zh (Go.start h);clear h
 go_enter Tryz.func104, Tryz.ntmps104
 go_wp2_with fail
 refine (rpnow_any HG.out.st).mono ?_;rintro e w1 ⟨rfl, hb⟩;replace HG := zh (HG.out.new hb);clear hb;generalize hnow : Rs.now X s = t at *;have HNOWt := zh hnow;clear hnow;unfold tokVal tokCells;go_wp2_with fail
 have HBt := zh (Bx.new HG.out #[.int .i64 t.kind, .string (str t.text), .int .i64 t.num, .int .i64 (t.pos : Int)] 95);replace HG := zh (HG.out.alloc (.cells #[.int .i64 t.kind, .string (str t.text), .int .i64 t.num, .int .i64 (t.pos : Int)] 95));generalize hw2 : (w1.alloc (.cells #[.int .i64 t.kind, .string (str t.text), .int .i64 t.num, .int .i64 (t.pos : Int)] 95)) = w2 at *;have hql := HBt.out.lt;clear hw2
 cases hb : Rs.isK X s (by_ Y) with
 | false =>
  have KB := zh hb;clear hb;refine (rpis_is HG.out.st Y false KB).mono ?_;rintro e w3 ⟨rfl, hb⟩;replace HBt := zh (HBt.out.below hb);replace HG := zh (HG.out.new hb);clear hb;have KD : Hid (True) := zh trivial;have kk : True := trivial;obtain ⟨d4, hd⟩ : ∃ d, IntKind.i64.wrap (s.p.deep + 1) = d := ⟨_, rfl⟩;have dc := HG.out.st.c3;have df := HG.out.st.free 3;have dl := HG.out.st.lt;replace HBt := zh (HBt.out.farP HG.out.pl 3 (.int .i64 d4));replace HG : Hid (Go N p X S w tv nv D (w3.setCell ⟨p, 3, none⟩ (.int .i64 d4)) (Rs.up s) nv _) := zh (by rw [← hd]; exact HG.out.deep _);go_wp2_with fail
  clear kk;clear dc df dl hd;generalize (w3.setCell ⟨p, 3, none⟩ (.int .i64 d4)) = w5 at *;refine (rptake_any HG.out.st Y).mono ?_;rintro e w6 hq;obtain ⟨v, s6, n6, E6, hr, rfl, h1, h2, h3⟩ := hq.parts ((fun e => by cases e));replace hr : Rs.Res.ok [(Rs.now X (Rs.up s)).pos] (Rs.takeS X (by_ Y) (Rs.up s)) = .ok v s6 := hr
  cases hr
  replace HBt := zh (HBt.out.mv HG.out.pl h2);replace HG := zh (HG.out.then h1 h2 h3);clear hq h1 h2 h3;unfold oneV;rw [show (Rs.now X (Rs.up s)).pos = t.pos from congrArg Lx.Tok.pos HNOWt.out];have HE : Hid (Out N p X S w tv nv D oneV (Rs.enter X (by_ Y) s) (.returned (.int .i64 (t.pos : Int))) w6) := zh (HG.out.out (v := [t.pos]) (by unfold Rs.enter Rs.enterS; rw [if_neg (by simp [KB.out]), HNOWt.out]) rfl);go_wp2
  go_returns
  exact HE.out
 | true =>
  have KB := zh hb;clear hb;refine (rpis_is HG.out.st Y true KB).mono ?_;rintro e w7 ⟨rfl, hb⟩;replace HBt := zh (HBt.out.below hb);replace HG := zh (HG.out.new hb);clear hb
  by_cases h30 : s.p.deep = 30
  ·have KD := zh h30;have dc := HG.out.st.c3
   have dl := HG.out.st.lt;have kk : (s.p.deep == 30) = true := by simp [h30]
   clear h30;go_wp2_with fail
   clear dc dl kk;refine (rpfail_any HG.out.st 4).mono ?_;rintro e w8 hq;obtain ⟨v, s8, n8, E8, hr, rfl, h1, h2, h3⟩ := hq.parts ((fun e => by cases e));replace hr : Rs.Res.ok [] (Rs.stop X 4 s) = .ok v s8 := hr
   cases hr
   replace HBt := zh (HBt.out.mv HG.out.pl h2);replace HG := zh (HG.out.then h1 h2 h3);clear hq h1 h2 h3;unfold unitV;have cHBt3 : w8.cell? ⟨w1.heap.size, 3, none⟩ = some (.int .i64 (t.pos : Int)) := HBt.out.cell 3;have lHBt := HBt.out.lt;have HE : Hid (Out N p X S w tv nv D oneV (Rs.enter X (by_ Y) s) (.returned (.int .i64 (t.pos : Int))) w8) := zh (HG.out.out (v := [t.pos]) (by unfold Rs.enter Rs.enterS; rw [if_pos ⟨KB.out, KD.out⟩, HNOWt.out]) rfl);go_wp2
   go_returns
   exact HE.out
  ·have KD := zh h30;have kk : (s.p.deep == 30) = false := by simpa using h30
   clear h30;obtain ⟨d9, hd⟩ : ∃ d, IntKind.i64.wrap (s.p.deep + 1) = d := ⟨_, rfl⟩;have dc := HG.out.st.c3;have df := HG.out.st.free 3;have dl := HG.out.st.lt;replace HBt := zh (HBt.out.farP HG.out.pl 3 (.int .i64 d9));replace HG : Hid (Go N p X S w tv nv D (w7.setCell ⟨p, 3, none⟩ (.int .i64 d9)) (Rs.up s) nv _) := zh (by rw [← hd]; exact HG.out.deep _);go_wp2_with fail
   clear kk;clear dc df dl hd;generalize (w7.setCell ⟨p, 3, none⟩ (.int .i64 d9)) = w10 at *;refine (rptake_any HG.out.st Y).mono ?_;rintro e w11 hq;obtain ⟨v, s11, n11, E11, hr, rfl, h1, h2, h3⟩ := hq.parts ((fun e => by cases e));replace hr : Rs.Res.ok [(Rs.now X (Rs.up s)).pos] (Rs.takeS X (by_ Y) (Rs.up s)) = .ok v s11 := hr
   cases hr
   replace HBt := zh (HBt.out.mv HG.out.pl h2);replace HG := zh (HG.out.then h1 h2 h3);clear hq h1 h2 h3;unfold oneV;rw [show (Rs.now X (Rs.up s)).pos = t.pos from congrArg Lx.Tok.pos HNOWt.out];have HE : Hid (Out N p X S w tv nv D oneV (Rs.enter X (by_ Y) s) (.returned (.int .i64 (t.pos : Int))) w11) := zh (HG.out.out (v := [t.pos]) (by unfold Rs.enter Rs.enterS; rw [if_neg (by simp [KB.out, KD.out]), HNOWt.out]) rfl);go_wp2
   go_returns
   exact HE.out
set_option maxRecDepth 100000 in
set_option maxHeartbeats 1000000 in
theorem rpleave_any (h : PSt N p w X S s tv nv D) (Y : ByteArray) : Calls Tryz.prog 108 #[.pointer (some ⟨p, 0, none⟩), .string Y] w (Out N p X S w tv nv D unitV (Rs.leave X (by_ Y) s)) := by
 have HG := zh (Go.start h);clear h
 go_enter Tryz.func108, Tryz.ntmps108
 go_wp2_with fail
 refine (rptake_any HG.out.st Y).mono ?_;rintro e w1 hq;obtain ⟨v, s1, n1, E1, hr, rfl, h1, h2, h3⟩ := hq.parts ((fun e => by cases e));replace hr : Rs.Res.ok [(Rs.now X s).pos] (Rs.takeS X (by_ Y) s) = .ok v s1 := hr
 cases hr
 replace HG := zh (HG.out.then h1 h2 h3);clear hq h1 h2 h3;unfold oneV;obtain ⟨d2, hd⟩ : ∃ d, IntKind.i64.wrap ((Rs.takeS X (by_ Y) s).p.deep - 1) = d := ⟨_, rfl⟩;have dc := HG.out.st.c3;have df := HG.out.st.free 3;have dl := HG.out.st.lt;replace HG : Hid (Go N p X S w tv nv D (w1.setCell ⟨p, 3, none⟩ (.int .i64 d2)) (Rs.down (Rs.takeS X (by_ Y) s)) n1 _) := zh (by rw [← hd]; exact HG.out.deep _);have HE : Hid (Out N p X S w tv nv D unitV (Rs.leave X (by_ Y) s) (.returned (.tuple #[])) (w1.setCell ⟨p, 3, none⟩ (.int .i64 d2))) := zh (HG.out.out (v := []) (by simp [Rs.leaveS, Rs.leave]) rfl);go_wp2
 go_returns
 exact HE.out
set_option maxRecDepth 100000 in
theorem rpwith_any (h : PSt N p w X S s tv nv D) (kind : Int) (at_ : Nat) (kids : List Nat) (u : Value) (hu : KidsV N w u kids) (hf : s.p.nodes.length < Rs.room) : Calls Tryz.prog 206 #[.pointer (some ⟨p, 0, none⟩), .int .i64 kind, .int .i64 (at_ : Int), u] w (PutOut N p X S w tv nv D s ⟨kind, at_, 0, [], kids⟩ u) := by
 have HP := zh (rpput_any h ⟨kind, at_, 0, [], kids⟩ u hu hf);obtain ⟨ua, uc, hus⟩ := own_slice hu rfl;subst hus;clear h hu
 go_enter Tryz.func206, Tryz.ntmps206
 go_wp2_with fail
 refine HP.out.mono ?_;rintro e w1 ⟨rfl, hq⟩;have HQ := zh hq;clear hq;go_wp2
 go_returns
 exact ⟨rfl, HQ.out⟩
end
end Go.Proofs.YtjickecdkmljpaaGreatDoor.R
