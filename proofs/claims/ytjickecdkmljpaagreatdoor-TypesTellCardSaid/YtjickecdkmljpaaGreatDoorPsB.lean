/-
  PROVED HERE: how nodes and the program's parser lie in memory. the program's parser: the token that is now, faults, tests. the program's parser takes tokens, names, what opens and what shuts. the program's parser: nodes of kids, pointers, tests of several tokens. No condition beyond the lemmas' own premises.
-/
import Derived.Test.YtjickecdkmljpaaGreatDoorLxP9
import Derived.Test.YtjickecdkmljpaaGreatDoorPsA
import Derived.Test.YtjickecdkmljpaaGreatDoorPsTk
namespace Go.Proofs.YtjickecdkmljpaaGreatDoor
open Go.RowKit

def tokVal (t : Lx.Tok) : Value := .agg (tokCells t).toArray
def ndCells (x : Ps.Nd) (u : Value) : List Value := [.int .i64 x.kind, .int .i64 x.pos, .int .i64 x.num, .string (str x.text), u]
def kidVals (l : List Nat) : List Value := l.map fun (k : Nat) => Value.int .i64 (k : Int)
theorem node_info : (Tryz.prog.info? 41).map (fun i => (i.zero, i.size, i.bytes)) = some (some (.agg #[.int .i64 0, .int .i64 0, .int .i64 0, .string ByteArray.empty, .slice none 0 0]), 5, 64) := by kernel_rfl
theorem int_info : (Tryz.prog.info? 3).map (fun i => (i.zero, i.size, i.bytes)) = some (some (.int .i64 0), 1, 8) := by kernel_rfl

/-- A row of numbers of the call's own. -/
def KidsV (N : Nat) (w : World) (u : Value) (l : List Nat) : Prop := w.ownsRow N 3 1 u l.length (kidVals l)
/-- The nodes, each with the value of its kids. -/
structure NodesV (N : Nat) (w : World) (nv : Value) (D : List (Ps.Nd × Value)) : Prop where
 row : w.ownsRow N 41 5 nv D.length (D.flatMap fun x => ndCells x.1 x.2)
 kids : ∀ x ∈ D, KidsV N w x.2 x.1.kids
/-- All kids' rows lie at a block or above it. -/
def Fresh (B : Nat) (D : List (Ps.Nd × Value)) : Prop := ∀ x ∈ D, ∀ b, x.2.ownBlock = some b → B ≤ b
/-- No kids' row lies where a row lies. -/
def Apart (D : List (Ps.Nd × Value)) (u : Value) : Prop := ∀ x ∈ D, ∀ b, x.2.ownBlock = some b → u.ownBlock ≠ some b

theorem own_keep {w w' : World} {base e size n : Nat} {v : Value} {xs : List Value} (hown : w.ownsRow base e size v n xs) (hk : ∀ k, v.ownBlock = some k → w'.heap[k]? = w.heap[k]?) : w'.ownsRow base e size v n xs := by
 refine ⟨hown.1, ?_⟩;rcases hown.2 with h | ⟨g, cap, cur, rfl, h1, hg, h2⟩
 ·exact Or.inl h
 ·exact Or.inr ⟨g, cap, cur, rfl, h1, (hk g rfl).trans hg, h2⟩
theorem own_ne_own {w : World} {b1 b2 e1 e2 s1 s2 n1 n2 : Nat} {v1 v2 : Value} {xs ys : List Value} (h1 : w.ownsRow b1 e1 s1 v1 n1 xs) (h2 : w.ownsRow b2 e2 s2 v2 n2 ys) (hne : e1 ≠ e2) {k : Nat} (hk : v1.ownBlock = some k) : v2.ownBlock ≠ some k := by
 intro hk2;rcases h1.2 with ⟨rfl, _⟩ | ⟨g, cap, cur, rfl, _, hg, _⟩
 ·cases hk
 ·cases hk
  rcases h2.2 with ⟨rfl, _⟩ | ⟨g', cap', cur', rfl, _, hg', _⟩
  ·cases hk2
  ·cases hk2
   rw [hg] at hg'
   cases hg'
   exact hne rfl

/-- What is known of the text: its tokens lie in a row, none of them many. -/
structure SrcOk (X : Ps.Src) (S : ByteArray) : Prop where
 len : X.len = S.size
 small : S.size ≤ 6000
 few : X.toks.length ≤ 12001
/-- THE PROGRAM's PARSER, in block p. -/
structure PSt (N p : Nat) (w : World) (X : Ps.Src) (S : ByteArray) (s : Ps.St) (tv nv : Value) (D : List (Ps.Nd × Value)) : Prop where
 blk : w.heap[p]? = some (.cells #[.string S, tv, .int .i64 (s.i : Int), .int .i64 s.deep, nv] 63 (0, 0))
 toks : ToksV N w tv X.toks
 nodes : NodesV N w nv D
 eq : s.nodes = D.map (·.1)
 src : SrcOk X S
 i : s.i ≤ X.toks.length
 d0 : 0 ≤ s.deep
 d1 : s.deep ≤ 30
 many : D.length ≤ 100000
 hN : N ≤ p
/-- What a call turns: the parser, the nodes' row; else new blocks alone. -/
structure Mv (N p : Nat) (w : World) (nv : Value) (w' : World) (nv' : Value) : Prop where
 below : Below N w w'
 keep : ∀ k, k < w.heap.size → k ≠ p → nv.ownBlock ≠ some k → w'.heap[k]? = w.heap[k]?
 row : ∀ g, nv'.ownBlock = some g → nv.ownBlock = some g ∨ w.heap.size ≤ g
theorem Mv.refl (N p : Nat) (w : World) (nv : Value) : Mv N p w nv w nv := ⟨Below.refl _ _, fun _ _ _ _ => rfl, fun _ h => .inl h⟩
theorem Mv.trans {N p : Nat} {w w1 w2 : World} {nv nv1 nv2 : Value} (h : Mv N p w nv w1 nv1) (h2 : Mv N p w1 nv1 w2 nv2) : Mv N p w nv w2 nv2 := by
 have hs := h.below.size;refine ⟨h.below.trans h2.below, fun k h3 h4 h5 => ?_, fun g hg => ?_⟩
 ·refine (h2.keep k (by omega) h4 fun h6 => ?_).trans (h.keep k h3 h4 h5);rcases h.row k h6 with h7 | h7
  ·exact h5 h7
  ·omega
 ·rcases h2.row g hg with h7 | h7
  ·exact h.row g h7
  ·exact .inr (by omega)
/-- New blocks alone. -/
theorem Mv.new {N p : Nat} {w w' : World} {nv : Value} (h : Below w.heap.size w w') (hN : N ≤ w.heap.size) : Mv N p w nv w' nv := ⟨h.mono hN, fun k hk _ _ => h.block k hk, fun _ h => .inl h⟩
theorem Fresh.mono {A B : Nat} {D : List (Ps.Nd × Value)} (h : Fresh B D) (hA : A ≤ B) : Fresh A D := fun x hx b hb => Nat.le_trans hA (h x hx b hb)
theorem Fresh.append {B : Nat} {D E : List (Ps.Nd × Value)} (h : Fresh B D) (h2 : Fresh B E) : Fresh B (D ++ E) := fun x hx b hb => (List.mem_append.1 hx).elim (fun h3 => h x h3 b hb) (fun h3 => h2 x h3 b hb)
theorem Fresh.nil (B : Nat) : Fresh B [] := fun _ h => by cases h

section
variable {N p : Nat} {w w' : World} {X : Ps.Src} {S : ByteArray} {s : Ps.St} {tv nv : Value} {D : List (Ps.Nd × Value)}
theorem PSt.lt (h : PSt N p w X S s tv nv D) : p < w.heap.size := blk_lt h.blk
theorem PSt.below (h : PSt N p w X S s tv nv D) (hb : Below w.heap.size w w') : PSt N p w' X S s tv nv D :=
 {h with
  blk := blk_below h.blk hb h.lt
  toks := own_below h.toks hb (fun k hk => (h.toks.lt k hk).2)
  nodes := ⟨own_below h.nodes.row hb (fun k hk => (h.nodes.row.lt k hk).2), fun x hx => own_below (h.nodes.kids x hx) hb (fun k hk => ((h.nodes.kids x hx).lt k hk).2)⟩ }
/-- A word of the parser's block is written anew. -/
theorem NodesV.set {c : Array Value} (h : NodesV N w nv D) (hp : w.heap[p]? = some (.cells c 63 (0, 0))) (i : Nat) (u : Value) : NodesV N (w.setCell ⟨p, i, none⟩ u) nv D :=
 ⟨own_set h.row hp (by decide), fun x hx => own_set (h.kids x hx) hp (by decide)⟩
theorem PSt.setI (h : PSt N p w X S s tv nv D) {j : Nat} (hj : j ≤ X.toks.length) : PSt N p (w.setCell ⟨p, 2, none⟩ (.int .i64 (j : Int))) X S { s with i := j } tv nv D :=
 { h with blk := blk_set h.blk 2 _, toks := own_set h.toks h.blk (by decide), nodes := h.nodes.set h.blk 2 _, i := hj }
theorem PSt.setD (h : PSt N p w X S s tv nv D) {d : Int} (h0 : 0 ≤ d) (h1 : d ≤ 30) : PSt N p (w.setCell ⟨p, 3, none⟩ (.int .i64 d)) X S { s with deep := d } tv nv D :=
 { h with blk := blk_set h.blk 3 _, toks := own_set h.toks h.blk (by decide), nodes := h.nodes.set h.blk 3 _, d0 := h0, d1 := h1 }
theorem Mv.set {nv' : Value} (h : Mv N p w nv w' nv') (hN : N ≤ p) (i : Nat) (u : Value) : Mv N p w nv (w'.setCell ⟨p, i, none⟩ u) nv' :=
 ⟨h.below.setCell (p := ⟨p, i, none⟩) hN _, fun k h1 h2 h3 => (Below.heap_setCell _ _ _ _ h2).trans (h.keep k h1 h2 h3), h.row⟩
end

/-- How the program's parser throws. -/
def thrownS (c : Int) (j : Nat) : Ending := .panicked [{ v := .iface 60 (.agg #[.int .i64 c, .int .i64 (j : Int)]), recovered := false }]
/-- WHAT A CALL OF THE PARSER's LEAVES, by the plain answer. -/
def Out (N p : Nat) (X : Ps.Src) (S : ByteArray) (w : World) (tv nv : Value) (D : List (Ps.Nd × Value)) (val : List Nat → Value) (r : Ps.Res) (e : Ending) (w' : World) : Prop :=
 match r with
 | .out => True
 | .bad c q => e = thrownS c q ∧ Below N w w'
 | .ok v s' => e = .returned (val v) ∧ ∃ nv' E, PSt N p w' X S s' tv nv' (D ++ E) ∧ Mv N p w nv w' nv' ∧ Fresh w.heap.size E
end Go.Proofs.YtjickecdkmljpaaGreatDoor
namespace Go.Proofs.YtjickecdkmljpaaGreatDoor
open Go.RowKit

theorem toks_get {N : Nat} {w : World} {g n cap : Nat} {l : List Lx.Tok} (h : ToksV N w (.slice (some ⟨g, 0, none⟩) n cap) l) {k : Nat} (hk : k < l.length) (d : Lx.Tok) :
  w.cell? ⟨g, k * 4, none⟩ = some (.int .i64 (l.getD k d).kind) ∧ w.cell? ⟨g, k * 4 + 1, none⟩ = some (.string (str (l.getD k d).text)) ∧ w.cell? ⟨g, k * 4 + 2, none⟩ = some (.int .i64 (l.getD k d).num) ∧ w.cell? ⟨g, k * 4 + 3, none⟩ = some (.int .i64 ((l.getD k d).pos : Int)) := by
 have hr : w.ownsRow N 95 4 (.slice (some ⟨g, 0, none⟩) n cap) l.length (l.flatMap tokCells) := h;have hn : n = l.length := by
  rcases hr.2 with ⟨h0, _⟩ | ⟨g', cap', cur, hu, _⟩
  ·cases h0
  ·cases hu; rfl
 subst hn;have hsplit : l = l.take k ++ (l.getD k d :: l.drop (k + 1)) := by
  have h1 : l.getD k d = l[k] := by simp [List.getElem?_eq_getElem hk]
  rw [h1, ← List.drop_eq_getElem_cons hk, List.take_append_drop]
 have hl : ((l.take k).flatMap tokCells).length = k * 4 := toks_len _ _ (by rw [List.length_take]; omega);have key : ∀ j, j < 4 → w.cell? ⟨g, k * 4 + j, none⟩ = (tokCells (l.getD k d))[j]? := by
  intro j hj;have hc := hr.cellAt (k * 4 + j) (by omega);have hL : (l.flatMap tokCells)[k * 4 + j]? = (tokCells (l.getD k d))[j]? := by
   have e : l.flatMap tokCells = (l.take k).flatMap tokCells ++ (tokCells (l.getD k d) ++ (l.drop (k + 1)).flatMap tokCells) := by
    conv => lhs; rw [hsplit]
    rw [List.flatMap_append, List.flatMap_cons]
   rw [e, List.getElem?_append_right (by omega), hl, Nat.add_sub_cancel_left, List.getElem?_append_left (by simp [tokCells]; omega)]
  exact hc.trans hL
 exact ⟨key 0 (by omega), key 1 (by omega), key 2 (by omega), key 3 (by omega)⟩

theorem four_below (w : World) (o : Obj) (n : Nat) (a b c d : Value) : Below w.heap.size w ((((((w.alloc o).drewN n).setCell ⟨w.heap.size, 0, none⟩ a).setCell ⟨w.heap.size, 1, none⟩ b).setCell ⟨w.heap.size, 2, none⟩ c).setCell ⟨w.heap.size, 3, none⟩ d) :=
 ((((below_drewN ((Below.refl w.heap.size w).alloc (Nat.le_refl _) o) n).setCell (p := ⟨w.heap.size, 0, none⟩) (Nat.le_refl _) a).setCell (p := ⟨w.heap.size, 1, none⟩) (Nat.le_refl _) b).setCell (p := ⟨w.heap.size, 2, none⟩) (Nat.le_refl _) c).setCell (p := ⟨w.heap.size, 3, none⟩) (Nat.le_refl _) d

theorem tok_fld0 : ∀ (a b c d : Value) (w : World), (Instr.field 95 (.agg #[a, b, c, d]) 0).run Tryz.prog w = .ok a w := fun _ _ _ _ _ => by kernel_rfl
theorem tok_fld1 : ∀ (a b c d : Value) (w : World), (Instr.field 95 (.agg #[a, b, c, d]) 1).run Tryz.prog w = .ok b w := fun _ _ _ _ _ => by kernel_rfl
theorem tok_fld2 : ∀ (a b c d : Value) (w : World), (Instr.field 95 (.agg #[a, b, c, d]) 2).run Tryz.prog w = .ok c w := fun _ _ _ _ _ => by kernel_rfl
theorem tok_fld3 : ∀ (a b c d : Value) (w : World), (Instr.field 95 (.agg #[a, b, c, d]) 3).run Tryz.prog w = .ok d w := fun _ _ _ _ _ => by kernel_rfl
section
variable {N p : Nat} {w : World} {X : Ps.Src} {S : ByteArray} {s : Ps.St} {tv nv : Value} {D : List (Ps.Nd × Value)}
set_option maxRecDepth 100000 in
set_option maxHeartbeats 1000000 in
theorem spnow_any (h : PSt N p w X S s tv nv D) : Calls Tryz.prog 43 #[.pointer (some ⟨p, 0, none⟩)] w fun e w' => e = .returned (tokVal (Ps.now X s)) ∧ Below w.heap.size w w' := by
 have c0 := blk_cell h.blk 0;have c1 := blk_cell h.blk 1;have c2 := blk_cell h.blk 2;have hpl := h.lt;simp only [List.getElem?_toArray, List.getElem?_cons_zero, List.getElem?_cons_succ] at c0 c1 c2;have hS := h.src.small;have hl := h.src.few;have hi := h.i
 by_cases hlt : s.i < X.toks.length
 ·obtain ⟨g, gc, hg⟩ := own_lit h.toks (by omega);subst hg
  obtain ⟨x0, x1, x2, x3⟩ := toks_get h.toks hlt (Ps.noTok X);have hgl := (World.ownsRow.lt h.toks g rfl).2;have HNOW : Hid (Ps.now X s = X.toks.getD s.i (Ps.noTok X)) := zh rfl;have b0 : (0 : Int) ≤ (s.i : Int) := by omega
  have b1 : (s.i : Int) < (X.toks.length : Int) := by omega
  clear h;generalize s.i = i at *;generalize X.toks.getD i (Ps.noTok X) = t at *;rw [HNOW.out];clear HNOW;generalize X.toks.length = n at *
  go_enter Tryz.func43, Tryz.ntmps43
  go_wp2_with fail
  go_quiet (fail)
  go_wp2_with fail
  go_region
  go_wp2
  go_returns
  exact ⟨rfl, four_below _ _ _ _ _ _ _⟩
 ·obtain ⟨a, gc, hg⟩ := own_slice h.toks rfl;subst hg
  have hle : X.toks.length ≤ s.i := by omega
  have HNOW : Hid (Ps.now X s = ⟨0, [], 0, S.size⟩) := zh (by unfold Ps.now Ps.noTok; rw [List.getD_eq_getElem?_getD, List.getElem?_eq_none hle, h.src.len]; rfl);rw [HNOW.out];clear h HNOW hi hlt;generalize s.i = i at *;generalize X.toks.length = n at *
  go_enter Tryz.func43, Tryz.ntmps43
  go_wp2_with fail
  go_quiet (fail)
  go_wp2
  go_returns
  exact ⟨rfl, four_below _ _ _ _ _ _ _⟩

set_option maxRecDepth 100000 in
theorem spfail_any (h : PSt N p w X S s tv nv D) (c : Int) : Calls Tryz.prog 27 #[.pointer (some ⟨p, 0, none⟩), .int .i64 c] w fun e w' => e = thrownS c (Ps.now X s).pos ∧ Below w.heap.size w w' := by
 have HN := zh (spnow_any h);clear h;generalize Ps.now X s = t at *
 go_enter Tryz.func27, Tryz.ntmps27
 go_wp2_with fail
 refine HN.out.mono ?_;rintro e w1 ⟨rfl, hb⟩;have HB := zh hb;clear hb;unfold tokVal tokCells;have hf := tok_fld3;go_wp2
 exact ⟨rfl, rfl, HB.out⟩
/-- The walk's own words for a test of the token. -/
theorem isK_eq (X : Ps.Src) (s : Ps.St) (Y : ByteArray) : Ps.isK X s (by_ Y) = (((str (Ps.now X s).text).toList == Y.toList) && ((Ps.now X s).kind == 3 || (Ps.now X s).kind == 4)) := by
 unfold Ps.isK;rw [by_toList, by_toList, by_str]
set_option maxRecDepth 100000 in
set_option maxHeartbeats 1000000 in
theorem spis_any (h : PSt N p w X S s tv nv D) (Y : ByteArray) : Calls Tryz.prog 96 #[.pointer (some ⟨p, 0, none⟩), .string Y] w fun e w' => e = .returned (.bool (Ps.isK X s (by_ Y))) ∧ Below w.heap.size w w' := by
 have HN := zh (spnow_any h);rw [isK_eq];clear h;generalize Ps.now X s = t at *;obtain ⟨kind, text, num, pos⟩ := t;dsimp only
 cases h1 : ((str text).toList == Y.toList) with
 | false =>
  go_enter Tryz.func96, Tryz.ntmps96
  go_wp2_with fail
  refine HN.out.mono ?_;rintro e w1 ⟨rfl, hb⟩;have HB := zh hb;clear hb;unfold tokVal tokCells;go_wp2
  go_returns
  exact ⟨rfl, HB.out.alloc HB.out.size _⟩
 | true =>
  by_cases h3 : kind = 3
  ·subst h3
   go_enter Tryz.func96, Tryz.ntmps96
   go_wp2_with fail
   refine HN.out.mono ?_;rintro e w1 ⟨rfl, hb⟩;have HB := zh hb;clear hb;unfold tokVal tokCells;go_wp2
   go_returns
   exact ⟨rfl, HB.out.alloc HB.out.size _⟩
  ·have g3 : (kind == 3) = false := by simpa using h3
   have HG := zh g3;clear h3
   go_enter Tryz.func96, Tryz.ntmps96
   go_wp2_with fail
   refine HN.out.mono ?_;rintro e w1 ⟨rfl, hb⟩;have HB := zh hb;clear hb;unfold tokVal tokCells;go_wp2
   go_returns
   exact ⟨ret_bool (by rw [HG.out]; simp), HB.out.alloc HB.out.size _⟩
theorem spis_is (h : PSt N p w X S s tv nv D) (Y : ByteArray) (b : Bool) (hb : Hid (Ps.isK X s (by_ Y) = b)) : Calls Tryz.prog 96 #[.pointer (some ⟨p, 0, none⟩), .string Y] w fun e w' => e = .returned (.bool b) ∧ Below w.heap.size w w' := by
 have := spis_any h Y;rw [hb.out] at this;exact this

theorem PSt.c0 (h : PSt N p w X S s tv nv D) : w.cell? ⟨p, 0, none⟩ = some (.string S) := blk_cell h.blk 0
theorem PSt.c1 (h : PSt N p w X S s tv nv D) : w.cell? ⟨p, 1, none⟩ = some tv := blk_cell h.blk 1
theorem PSt.c2 (h : PSt N p w X S s tv nv D) : w.cell? ⟨p, 2, none⟩ = some (.int .i64 (s.i : Int)) := blk_cell h.blk 2
theorem PSt.c3 (h : PSt N p w X S s tv nv D) : w.cell? ⟨p, 3, none⟩ = some (.int .i64 s.deep) := blk_cell h.blk 3
theorem PSt.c4 (h : PSt N p w X S s tv nv D) : w.cell? ⟨p, 4, none⟩ = some nv := blk_cell h.blk 4
theorem PSt.adv (h : PSt N p w X S s tv nv D) (hj : s.i < X.toks.length) : PSt N p (w.setCell ⟨p, 2, none⟩ (.int .i64 ((s.i : Int) + 1))) X S (Ps.adv s) tv nv D := h.setI (j := s.i + 1) hj
theorem PSt.free (h : PSt N p w X S s tv nv D) (i : Nat) : w.frozen? ⟨p, i, none⟩ = false := blk_free h.blk i
theorem PSt.nN (h : PSt N p w X S s tv nv D) : N ≤ w.heap.size := Nat.le_trans h.hN (Nat.le_of_lt h.lt)
theorem isK_lt (X : Ps.Src) (s : Ps.St) (x : List UInt8) (h : Ps.isK X s x = true) : s.i < X.toks.length := by
 refine Classical.byContradiction fun hn => ?_
 unfold Ps.isK Ps.now Ps.noTok at h;rw [List.getD_eq_getElem?_getD, List.getElem?_eq_none (by omega)] at h;simp at h
theorem isName_lt (X : Ps.Src) (s : Ps.St) (h : Ps.isName X s = true) : s.i < X.toks.length := by
 refine Classical.byContradiction fun hn => ?_
 unfold Ps.isName Ps.now Ps.noTok at h;rw [List.getD_eq_getElem?_getD, List.getElem?_eq_none (by omega)] at h;simp at h
theorem out_ok {tv nv nv' : Value} {D E : List (Ps.Nd × Value)} {w w' : World} {s' : Ps.St} {val : List Nat → Value} {v : List Nat} {e : Ending} {r : Ps.Res} (hr : r = .ok v s') (he : e = .returned (val v)) (h1 : PSt N p w' X S s' tv nv' (D ++ E)) (h2 : Mv N p w nv w' nv') (h3 : Fresh w.heap.size E) : Out N p X S w tv nv D val r e w' := by
 subst hr;exact ⟨he, nv', E, h1, h2, h3⟩
theorem out_same {tv nv : Value} {D : List (Ps.Nd × Value)} {w w' : World} {s' : Ps.St} {val : List Nat → Value} {v : List Nat} {e : Ending} {r : Ps.Res} (hr : r = .ok v s') (he : e = .returned (val v)) (h1 : PSt N p w' X S s' tv nv D) (h2 : Mv N p w nv w' nv) : Out N p X S w tv nv D val r e w' :=
 out_ok (E := []) hr he (by rw [List.append_nil]; exact h1) h2 (Fresh.nil _)
theorem out_bad {tv nv : Value} {D : List (Ps.Nd × Value)} {w w' : World} {val : List Nat → Value} {e : Ending} {r : Ps.Res} {c : Int} {q : Nat} (hr : r = .bad c q) (he : e = thrownS c q) (hb : Below N w w') : Out N p X S w tv nv D val r e w' := by
 subst hr;exact ⟨he, hb⟩
def unitV (_ : List Nat) : Value := .tuple #[]
def oneV (v : List Nat) : Value := .int .i64 ((v.getD 0 0 : Nat) : Int)

set_option maxRecDepth 100000 in
set_option maxHeartbeats 1000000 in
theorem sptook_any (h : PSt N p w X S s tv nv D) (Y : ByteArray) (b : Bool) (hb : Hid (Ps.isK X s (by_ Y) = b)) : Calls Tryz.prog 94 #[.pointer (some ⟨p, 0, none⟩), .string Y] w fun e w' => e = .returned (.bool b) ∧ PSt N p w' X S (if b then Ps.adv s else s) tv nv D ∧ Mv N p w nv w' nv := by
 have HI := zh (spis_is h Y b hb);have HS := zh h;have hpl := h.lt;have hN := h.nN
 cases b with
 | false =>
  clear h
  go_enter Tryz.func94, Tryz.ntmps94
  go_wp2_with fail
  refine HI.out.mono ?_;rintro e w1 ⟨rfl, hb1⟩;have HB := zh hb1;clear hb1;go_wp2
  go_returns
  exact ⟨rfl, HS.out.below HB.out, Mv.new HB.out hN⟩
 | true =>
  have hlt := isK_lt X s _ hb.out;have hfew := h.src.few;clear h
  go_enter Tryz.func94, Tryz.ntmps94
  go_wp2_with fail
  refine HI.out.mono ?_;rintro e w1 ⟨rfl, hb1⟩;have hs1 := HS.out.below hb1;have d2 := hs1.c2;have d2f := hs1.free 2;have hl1 := hs1.lt;have HB := zh hb1;have HS1 := zh hs1;clear hb1 hs1;go_wp2
  go_returns
  exact ⟨rfl, HS1.out.adv hlt, (Mv.new HB.out hN).set HS1.out.hN 2 _⟩
end
end Go.Proofs.YtjickecdkmljpaaGreatDoor
namespace Go.Proofs.YtjickecdkmljpaaGreatDoor
open Go.RowKit

section
variable {N p : Nat} {w : World} {X : Ps.Src} {S : ByteArray} {s : Ps.St} {tv nv : Value} {D : List (Ps.Nd × Value)}
/-- How an answer is taken apart. -/
theorem Out.parts {val : List Nat → Value} {r : Ps.Res} {e : Ending} {w' : World} (h : Out N p X S w tv nv D val r e w') (hne : r ≠ .out) :
  (∃ c q, r = .bad c q ∧ e = thrownS c q ∧ Below N w w') ∨ (∃ v s' nv' E, r = .ok v s' ∧ e = .returned (val v) ∧ PSt N p w' X S s' tv nv' (D ++ E) ∧ Mv N p w nv w' nv' ∧ Fresh w.heap.size E) := by
 cases r with
 | out => exact absurd rfl hne
 | bad c q => exact .inl ⟨c, q, rfl, h.1, h.2⟩
 | ok v s' =>
  obtain ⟨h1, nv', E, h2, h3, h4⟩ := h;exact .inr ⟨v, s', nv', E, rfl, h1, h2, h3, h4⟩

/-- WHERE A FUNCTION OF THE PARSER's STANDS: the state now, what has been turned since it began, the nodes that are new. -/
structure Go (N p : Nat) (X : Ps.Src) (S : ByteArray) (w : World) (tv nv : Value) (D : List (Ps.Nd × Value)) (wk : World) (s : Ps.St) (nk : Value) (E : List (Ps.Nd × Value)) : Prop where
 st : PSt N p wk X S s tv nk (D ++ E)
 mv : Mv N p w nv wk nk
 fr : Fresh w.heap.size E
 tl : ∀ k, tv.ownBlock = some k → k < w.heap.size
 pl : p < w.heap.size
section
variable {wk w2 : World} {nk n2 : Value} {E E2 : List (Ps.Nd × Value)} {s2 : Ps.St}
theorem Go.start (h : PSt N p w X S s tv nv D) : Go N p X S w tv nv D w s nv [] := ⟨by rw [List.append_nil]; exact h, Mv.refl _ _ _ _, Fresh.nil _, fun k hk => (h.toks.lt k hk).2, h.lt⟩
theorem Go.size (h : Go N p X S w tv nv D wk s nk E) : w.heap.size ≤ wk.heap.size := h.mv.below.size
theorem Go.new (h : Go N p X S w tv nv D wk s nk E) (hb : Below wk.heap.size wk w2) : Go N p X S w tv nv D w2 s nk E := ⟨h.st.below hb, h.mv.trans (Mv.new hb h.st.nN), h.fr, h.tl, h.pl⟩
theorem Go.alloc (h : Go N p X S w tv nv D wk s nk E) (o : Obj) : Go N p X S w tv nv D (wk.alloc o) s nk E := h.new ((Below.refl _ _).alloc (Nat.le_refl _) o)
theorem Go.drawn (h : Go N p X S w tv nv D wk s nk E) (n : Nat) : Go N p X S w tv nv D (wk.drewN n) s nk E := h.new (below_drewN (Below.refl _ _) n)
theorem Go.adv (h : Go N p X S w tv nv D wk s nk E) (hlt : s.i < X.toks.length) : Go N p X S w tv nv D (wk.setCell ⟨p, 2, none⟩ (.int .i64 ((s.i : Int) + 1))) (Ps.adv s) nk E := ⟨h.st.adv hlt, h.mv.set h.st.hN 2 _, h.fr, h.tl, h.pl⟩
theorem Go.deep (h : Go N p X S w tv nv D wk s nk E) {d : Int} (h0 : 0 ≤ d) (h1 : d ≤ 30) : Go N p X S w tv nv D (wk.setCell ⟨p, 3, none⟩ (.int .i64 d)) { s with deep := d } nk E := ⟨h.st.setD h0 h1, h.mv.set h.st.hN 3 _, h.fr, h.tl, h.pl⟩
theorem Go.then (h : Go N p X S w tv nv D wk s nk E) (h1 : PSt N p w2 X S s2 tv n2 ((D ++ E) ++ E2)) (h2 : Mv N p wk nk w2 n2) (h3 : Fresh wk.heap.size E2) : Go N p X S w tv nv D w2 s2 n2 (E ++ E2) :=
 ⟨by rw [← List.append_assoc]; exact h1, h.mv.trans h2, h.fr.append (h3.mono h.size), h.tl, h.pl⟩
/-- A word of a box of the call's own is written. -/
theorem Go.box (h : Go N p X S w tv nv D wk s nk E) {q : Nat} {c : Array Value} {t : TypeId} (hq : w.heap.size ≤ q) (hc : wk.heap[q]? = some (.cells c t (0, 0))) (hn : nk.ownBlock ≠ some q) (ht : 3 ≠ t) (i : Nat) (u : Value) : Go N p X S w tv nv D (wk.setCell ⟨q, i, none⟩ u) s nk E := by
 have hpq : p ≠ q := by have := h.pl; omega
 have hN : N ≤ q := Nat.le_trans h.st.hN (by have := h.pl; omega);have hk : ∀ k, k ≠ q → (wk.setCell ⟨q, i, none⟩ u).heap[k]? = wk.heap[k]? := fun k hne => Below.heap_setCell _ _ _ _ hne
 refine ⟨{ h.st with
   blk := (hk p hpq).trans h.st.blk
   toks := own_keep h.st.toks (fun k hk2 => hk k (by have := h.tl k hk2; omega))
   nodes := ⟨own_keep h.st.nodes.row (fun k hk2 => hk k (by rintro rfl; exact hn hk2)), fun x hx => own_set (h.st.nodes.kids x hx) hc ht⟩ },
  ⟨h.mv.below.setCell (p := ⟨q, i, none⟩) hN _, fun k h1 h2 h3 => (hk k (by omega)).trans (h.mv.keep k h1 h2 h3), h.mv.row⟩, h.fr, h.tl, h.pl⟩
theorem Go.out {val : List Nat → Value} {v : List Nat} {e : Ending} {r : Ps.Res} (h : Go N p X S w tv nv D wk s nk E) (hr : r = .ok v s) (he : e = .returned (val v)) : Out N p X S w tv nv D val r e wk := out_ok hr he h.st h.mv h.fr
theorem Go.bad {val : List Nat → Value} {c : Int} {q : Nat} {r : Ps.Res} (h : Go N p X S w tv nv D wk s nk E) (hb : Below N wk w2) (hr : r = .bad c q) : Out N p X S w tv nv D val r (thrownS c q) w2 := out_bad hr rfl (h.mv.below.trans hb)
end

set_option maxRecDepth 100000 in
set_option maxHeartbeats 1000000 in
theorem sptake_any (h : PSt N p w X S s tv nv D) (Y : ByteArray) : Calls Tryz.prog 45 #[.pointer (some ⟨p, 0, none⟩), .string Y] w (Out N p X S w tv nv D oneV (Ps.take X (by_ Y) s)) := by
 have HS := zh h;have hpl := h.lt;have hN := h.nN
 cases hb : Ps.isK X s (by_ Y) with
 | false =>
  have HR : Hid (Ps.take X (by_ Y) s = .bad 3 (Ps.now X s).pos) := zh (by unfold Ps.take; rw [hb]; rfl);have HI := zh (spis_is h Y false (zh hb));clear h hb
  go_enter Tryz.func45, Tryz.ntmps45
  go_wp2_with fail
  refine HI.out.mono ?_;rintro e w1 ⟨rfl, hb1⟩;have HB := zh hb1;clear hb1;go_wp2_with fail
  refine (spfail_any (HS.out.below HB.out) 3).mono ?_;rintro e w2 ⟨rfl, hb2⟩;have HE : Hid (Out N p X S w tv nv D oneV (Ps.take X (by_ Y) s) (thrownS 3 (Ps.now X s).pos) w2) := zh (out_bad HR.out rfl ((HB.out.mono hN).trans (hb2.mono (Nat.le_trans hN HB.out.size))));clear hb2;unfold thrownS;go_wp2
  exact ⟨rfl, HE.out⟩
 | true =>
  have hlt := isK_lt X s _ hb;have HR : Hid (Ps.take X (by_ Y) s = .ok [(Ps.now X s).pos] (Ps.adv s)) := zh (by unfold Ps.take; rw [hb]; rfl);have HI := zh (spis_is h Y true (zh hb));have hfew := h.src.few;have hi := h.i;clear h hb
  go_enter Tryz.func45, Tryz.ntmps45
  go_wp2_with fail
  refine HI.out.mono ?_;rintro e w1 ⟨rfl, hb1⟩;have hs1 := HS.out.below hb1;have d2 := hs1.c2;have d2f := hs1.free 2;have hl1 := hs1.lt;have HB := zh hb1;have HS1 := zh hs1;clear hb1 hs1;go_wp2_with fail
  have hs2 := HS1.out.adv hlt;have HS2 := zh hs2;have d3 : (w1.setCell ⟨p, 2, none⟩ (.int .i64 ((s.i : Int) + 1))).cell? ⟨p, 2, none⟩ = some (.int .i64 ((s.i : Int) + 1)) := hs2.c2;obtain ⟨g, gc, hg⟩ := own_lit hs2.toks (by omega);subst hg;have d1 := hs2.c1;have x3 := (toks_get hs2.toks hlt (Ps.noTok X)).2.2.2;have HM := zh ((Mv.new (p := p) (nv := nv) HB.out hN).set HS1.out.hN 2 (.int .i64 ((s.i : Int) + 1)));have hgl := (World.ownsRow.lt hs2.toks g rfl).2;have hl2 := hs2.lt;have HRV : Hid (X.toks.getD s.i (Ps.noTok X) = Ps.now X s) := zh rfl;clear hs2 d2 d2f;generalize (w1.setCell ⟨p, 2, none⟩ (.int .i64 ((s.i : Int) + 1))) = w2 at *;generalize Ps.now X s = t at *;rw [HRV.out] at x3;clear HRV;have wr1 : IntKind.i64.wrap ((s.i : Int) + 1 - 1) = (s.i : Int) := by rw [Int.add_sub_cancel]; exact IntWalk.i64_in _ (by omega)
  have wr2 : (0 : Int) ≤ (s.i : Int) := by omega
  have wr3 : (s.i : Int) < (X.toks.length : Int) := by omega
  generalize s.i = i at *;generalize X.toks.length = n at *;go_quiet (fail)
  clear wr1 wr2 wr3;go_wp2
  go_returns
  exact out_same HR.out rfl (HS2.out.below (below_drewN (Below.refl _ _) _)) (HM.out.trans (Mv.new (below_drewN (Below.refl _ _) _) (by have := HM.out.below.size; omega)))

theorem take_ne (X : Ps.Src) (x : List UInt8) (s : Ps.St) : Ps.take X x s ≠ .out := by
 unfold Ps.take Ps.fail
 split <;> simp
theorem take_ok {X : Ps.Src} {x : List UInt8} {s s' : Ps.St} {v : List Nat} (h : Ps.take X x s = .ok v s') : v = [(Ps.now X s).pos] ∧ s' = Ps.adv s ∧ Ps.isK X s x = true := by
 unfold Ps.take Ps.fail at h
 split at h
 ·rename_i hk
  cases h
  exact ⟨rfl, rfl, hk⟩
 ·cases h
theorem take_bad {X : Ps.Src} {x : List UInt8} {s : Ps.St} {c : Int} {q : Nat} (h : Ps.take X x s = .bad c q) : c = 3 ∧ q = (Ps.now X s).pos ∧ Ps.isK X s x = false := by
 unfold Ps.take Ps.fail at h
 split at h
 ·cases h
 ·rename_i hk
  cases h
  exact ⟨rfl, rfl, by simpa using hk⟩

set_option maxRecDepth 100000 in
set_option maxHeartbeats 1000000 in
theorem spname_any (h : PSt N p w X S s tv nv D) : Calls Tryz.prog 98 #[.pointer (some ⟨p, 0, none⟩)] w (Out N p X S w tv nv D (fun _ => tokVal (Ps.now X s)) (Ps.name X s)) := by
 have HG := zh (Go.start h)
 cases hb : Ps.isName X s with
 | false =>
  have HR : Hid (Ps.name X s = .bad 3 (Ps.now X s).pos) := zh (by unfold Ps.name; rw [hb]; rfl);have hk : ((Ps.now X s).kind != 1) = true := by unfold Ps.isName at hb; simpa using hb
  have HNOW := zh (fun w1 (h1 : PSt N p w1 X S s tv nv (D ++ [])) => spnow_any h1);have HFAIL := zh (fun w1 (h1 : PSt N p w1 X S s tv nv (D ++ [])) => spfail_any h1 3);clear h hb;generalize Ps.now X s = t at *
  go_enter Tryz.func98, Tryz.ntmps98
  go_wp2_with fail
  have HG1 := zh (HG.out.alloc (.cells #[.int .i64 0, .string ⟨#[]⟩, .int .i64 0, .int .i64 0] 95));refine (HNOW.out _ HG1.out.st).mono ?_;rintro e w1 ⟨rfl, hb1⟩;have HG2 := zh (HG1.out.new hb1);clear hb1;unfold tokVal tokCells;have hf := tok_fld0;go_wp2_with fail
  refine (HFAIL.out w1 HG2.out.st).mono ?_;rintro e w2 ⟨rfl, hb2⟩;have HE : Hid (Out N p X S w tv nv D (fun _ => tokVal t) (Ps.name X s) (thrownS 3 t.pos) w2) := zh (HG2.out.bad (hb2.mono HG2.out.st.nN) HR.out);clear hb2;unfold thrownS;go_wp2
  exact ⟨rfl, HE.out⟩
 | true =>
  have hlt := isName_lt X s hb;have HR : Hid (Ps.name X s = .ok [] (Ps.adv s)) := zh (by unfold Ps.name; rw [hb]; rfl);have hk : ((Ps.now X s).kind != 1) = false := by unfold Ps.isName at hb; simpa using hb
  have HNOW := zh (fun w1 (h1 : PSt N p w1 X S s tv nv (D ++ [])) => spnow_any h1);have hfew := h.src.few;obtain ⟨g, gc, hg⟩ := own_lit h.toks (by omega);subst hg;have HRV : Hid (X.toks.getD s.i (Ps.noTok X) = Ps.now X s) := zh rfl;clear h hb;generalize Ps.now X s = t at *
  go_enter Tryz.func98, Tryz.ntmps98
  go_wp2_with fail
  have HG1 := zh (HG.out.alloc (.cells #[.int .i64 0, .string ⟨#[]⟩, .int .i64 0, .int .i64 0] 95));have HQ := zh (blk_new w (.cells #[.int .i64 0, .string ⟨#[]⟩, .int .i64 0, .int .i64 0] 95));refine (HNOW.out _ HG1.out.st).mono ?_;rintro e w1 ⟨rfl, hb1⟩;have HG2 := zh (HG1.out.new hb1);have hq1 := blk_below HQ.out hb1 (by simp);have HQ1 := zh hq1;have d2 := HG2.out.st.c2;have d2f := HG2.out.st.free 2;have hl1 := HG2.out.st.lt;clear hb1 hq1;unfold tokVal tokCells;have hf := tok_fld0;go_wp2_with fail
  have HG3 := zh (HG2.out.adv hlt);have hne : w.heap.size ≠ p := by have := HG.out.st.lt; omega
  have HQ3 := zh (blk_set_other (p := p) HQ1.out hne 2 (.int .i64 ((s.i : Int) + 1)));clear d2 d2f hf;have d3 : (w1.setCell ⟨p, 2, none⟩ (.int .i64 ((s.i : Int) + 1))).cell? ⟨p, 2, none⟩ = some (.int .i64 ((s.i : Int) + 1)) := HG3.out.st.c2;generalize (w1.setCell ⟨p, 2, none⟩ (.int .i64 ((s.i : Int) + 1))) = w2 at *;have d1 := HG3.out.st.c1;have hx := toks_get HG3.out.st.toks hlt (Ps.noTok X);rw [HRV.out] at hx;obtain ⟨x0, x1, x2, x3⟩ := hx;have hgl := (World.ownsRow.lt HG3.out.st.toks g rfl).2;have hl2 := HG3.out.st.lt;have e0 := blk_cell HQ3.out 0;have e1 := blk_cell HQ3.out 1;have e2 := blk_cell HQ3.out 2;have e3 := blk_cell HQ3.out 3;have z0 := blk_free HQ3.out 0;have z1 := blk_free HQ3.out 1;have z2 := blk_free HQ3.out 2;have z3 := blk_free HQ3.out 3;have hql := blk_lt HQ3.out;simp only [List.getElem?_toArray, List.getElem?_cons_zero, List.getElem?_cons_succ] at e0 e1 e2 e3;clear HRV HNOW
  have wr1 : IntKind.i64.wrap ((s.i : Int) + 1 - 1) = (s.i : Int) := by rw [Int.add_sub_cancel]; exact IntWalk.i64_in _ (by omega)
  have wr2 : (0 : Int) ≤ (s.i : Int) := by omega
  have wr3 : (s.i : Int) < (X.toks.length : Int) := by omega
  go_region
  all_goals
   have hq := Nat.le_refl w.heap.size;have hn : nv.ownBlock ≠ some w.heap.size := fun h0 => by have := (HG.out.st.nodes.row.lt _ h0).2; omega
   have k1 := blk_set HQ3.out 0 (.int .i64 t.kind);have k2 := blk_set k1 1 (.string (str t.text));have k3 := blk_set k2 2 (.int .i64 t.num);have k4 := blk_set k3 3 (.int .i64 (t.pos : Int));have HGF := zh (((((HG3.out.box hq HQ3.out hn (by decide) 0 (.int .i64 t.kind)).box hq k1 hn (by decide) 1 (.string (str t.text))).box hq k2 hn (by decide) 2 (.int .i64 t.num)).box hq k3 hn (by decide) 3 (.int .i64 (t.pos : Int))));clear k1 k2 k3 e0 e1 e2 e3 z0 z1 z2 z3 hn;generalize ((((w2.setCell ⟨w.heap.size, 0, none⟩ (.int .i64 t.kind)).setCell ⟨w.heap.size, 1, none⟩ (.string (str t.text))).setCell ⟨w.heap.size, 2, none⟩ (.int .i64 t.num)).setCell ⟨w.heap.size, 3, none⟩ (.int .i64 (t.pos : Int))) = w4 at *;have e0 := blk_cell k4 0;have e1 := blk_cell k4 1;have e2 := blk_cell k4 2;have e3 := blk_cell k4 3;simp only [List.setIfInBounds_toArray, List.set_cons_zero, List.set_cons_succ, List.getElem?_toArray, List.getElem?_cons_zero, List.getElem?_cons_succ] at e0 e1 e2 e3
   clear k4 wr1 wr2 wr3 x0 x1 x2 x3 d1 d3 hq hne hgl hk;go_wp2
   exact bodyPost_ret (v := tokVal t) (by simp [results, Tryz.results98, go_sem, e0, e1, e2, e3, tokVal, tokCells]) rfl ((HGF.out.drawn 1).out HR.out rfl)

set_option maxRecDepth 100000 in
set_option maxHeartbeats 1000000 in
theorem spenter_any (h : PSt N p w X S s tv nv D) (Y : ByteArray) : Calls Tryz.prog 150 #[.pointer (some ⟨p, 0, none⟩), .string Y] w (Out N p X S w tv nv D oneV (Ps.enter X (by_ Y) s)) := by
 have HG := zh (Go.start h);have hd0 := h.d0;have hd1 := h.d1
 cases hb : Ps.isK X s (by_ Y) with
 | false =>
  have HR : Hid (Ps.enter X (by_ Y) s = .bad 3 (Ps.now X s).pos) := zh (by simp [Ps.enter, Ps.take, Ps.fail, hb, Ps.Res.bind]);have HT : Hid (Ps.take X (by_ Y) s = .bad 3 (Ps.now X s).pos) := zh (by simp [Ps.take, Ps.fail, hb]);have HI := zh (spis_is h Y false (zh hb));clear h hb
  go_enter Tryz.func150, Tryz.ntmps150
  go_wp2_with fail
  refine HI.out.mono ?_;rintro e w1 ⟨rfl, hb1⟩;have HG1 := zh (HG.out.new hb1);clear hb1;go_wp2_with fail
  refine (sptake_any HG1.out.st Y).mono ?_;rintro e w2 hq;rw [HT.out] at hq;obtain ⟨rfl, hb2⟩ := hq;have HE : Hid (Out N p X S w tv nv D oneV (Ps.enter X (by_ Y) s) (thrownS 3 (Ps.now X s).pos) w2) := zh (HG1.out.bad hb2 HR.out);clear hb2;unfold thrownS;go_wp2
  exact ⟨rfl, HE.out⟩
 | true =>
  have HI := zh (spis_is h Y true (zh hb))
  by_cases hd : s.deep = 30
  ·have HR : Hid (Ps.enter X (by_ Y) s = .bad 4 (Ps.now X s).pos) := zh (by simp [Ps.enter, Ps.fail, hb, hd]);have g30 : (s.deep == 30) = true := by simpa using hd
   clear h hb hd
   go_enter Tryz.func150, Tryz.ntmps150
   go_wp2_with fail
   refine HI.out.mono ?_;rintro e w1 ⟨rfl, hb1⟩;have HG1 := zh (HG.out.new hb1);have d3 := HG1.out.st.c3;have hl1 := HG1.out.st.lt;clear hb1;go_wp2_with fail
   refine (spfail_any HG1.out.st 4).mono ?_;rintro e w2 ⟨rfl, hb2⟩;have HE : Hid (Out N p X S w tv nv D oneV (Ps.enter X (by_ Y) s) (thrownS 4 (Ps.now X s).pos) w2) := zh (HG1.out.bad (hb2.mono HG1.out.st.nN) HR.out);clear hb2;unfold thrownS;go_wp2
   exact ⟨rfl, HE.out⟩
  ·have HR : Hid (Ps.enter X (by_ Y) s = .ok [(Ps.now X s).pos] (Ps.up (Ps.adv s))) := zh (by simp [Ps.enter, Ps.take, hb, hd, Ps.Res.bind]);have HT : Hid (Ps.take X (by_ Y) s = .ok [(Ps.now X s).pos] (Ps.adv s)) := zh (by simp [Ps.take, hb])
   have g30 : (s.deep == 30) = false := by simpa using hd
   clear h hb
   go_enter Tryz.func150, Tryz.ntmps150
   go_wp2_with fail
   refine HI.out.mono ?_;rintro e w1 ⟨rfl, hb1⟩;have HG1 := zh (HG.out.new hb1);have d3 := HG1.out.st.c3;have hl1 := HG1.out.st.lt;clear hb1;go_wp2_with fail
   refine (sptake_any HG1.out.st Y).mono ?_;rintro e w2 hq;rw [HT.out] at hq;obtain ⟨rfl, n2, E2, h1, h2, h3⟩ := hq;have HG2 := zh (HG1.out.then h1 h2 h3);have f3 := HG2.out.st.c3;have f3f := HG2.out.st.free 3;have hl2 := HG2.out.st.lt;rw [show (Ps.adv s).deep = s.deep from rfl] at f3;clear h1 h2 h3 d3 hl1 HT;unfold oneV;go_wp2
   go_returns
   exact (HG2.out.deep (d := s.deep + 1) (by omega) (by omega)).out HR.out rfl
theorem leave_eq {X : Ps.Src} {x : List UInt8} {s s1 : Ps.St} {v : List Nat} (h : Ps.take X x s = .ok v s1) : Ps.leave X x s = .ok [] (Ps.down s1) := by simp [Ps.leave, h, Ps.Res.bind]
set_option maxRecDepth 100000 in
set_option maxHeartbeats 1000000 in
theorem spleave_any (h : PSt N p w X S s tv nv D) (Y : ByteArray) (hd : 1 ≤ s.deep) : Calls Tryz.prog 152 #[.pointer (some ⟨p, 0, none⟩), .string Y] w (Out N p X S w tv nv D unitV (Ps.leave X (by_ Y) s)) := by
 have HG := zh (Go.start h);have hd1 := h.d1;clear h
 go_enter Tryz.func152, Tryz.ntmps152
 go_wp2_with fail
 refine (sptake_any HG.out.st Y).mono ?_;rintro e w2 hq;rcases hq.parts (take_ne _ _ _) with ⟨c, q, hr, rfl, hb⟩ | ⟨v, s2, n2, E2, hr, rfl, h1, h2, h3⟩
 ·have HE : Hid (Out N p X S w tv nv D unitV (Ps.leave X (by_ Y) s) (thrownS c q) w2) := zh (HG.out.bad hb (by simp [Ps.leave, hr, Ps.Res.bind]));clear hq hr hb
  unfold thrownS;go_wp2
  exact ⟨rfl, HE.out⟩
 ·have HR : Hid (Ps.leave X (by_ Y) s = .ok [] (Ps.down s2)) := zh (leave_eq hr);obtain ⟨_, hs2, _⟩ := take_ok hr
  have HG2 := zh (HG.out.then h1 h2 h3);have f3 := HG2.out.st.c3;have f3f := HG2.out.st.free 3;have hl2 := HG2.out.st.lt;have hdd : s2.deep = s.deep := by rw [hs2]; rfl
  rw [hdd] at f3;have HDD := zh hdd;clear hq hr h1 h2 h3 hs2 hdd;unfold oneV;go_wp2
  go_returns
  exact (HG2.out.deep (d := s.deep - 1) (by omega) (by omega)).out (by rw [HR.out]; unfold Ps.down; rw [HDD.out]) rfl

def putSt (x : Ps.Nd) (s : Ps.St) : Ps.St := { s with nodes := s.nodes ++ [x] }
theorem put_few {x : Ps.Nd} {s : Ps.St} (h : Ps.put x s ≠ .out) : s.nodes.length < 100000 := by
 unfold Ps.put at h
 split at h
 ·assumption
 ·exact absurd rfl h
theorem put_is {x : Ps.Nd} {s : Ps.St} (h : Ps.put x s ≠ .out) : Ps.put x s = .ok [s.nodes.length] (putSt x s) := by
 have := put_few h;unfold Ps.put;rw [if_pos this]
 rfl
theorem ndCells_len (D : List (Ps.Nd × Value)) : (D.flatMap fun x => ndCells x.1 x.2).length = D.length * 5 := by
 induction D with
 | nil => rfl
 | cons x l ih => simp only [List.flatMap_cons, List.length_append, ih, List.length_cons]; simp [ndCells]; omega
theorem kids_one {N : Nat} {w : World} {u : Value} {l : List Nat} (h : KidsV N w u l) (a b c : Int) (t : ByteArray) : ∀ x ∈ [Value.int .i64 a, .int .i64 b, .int .i64 c, .string t, u], x.oneCell' = true := by
 intro x hx;simp only [List.mem_cons, List.not_mem_nil, or_false] at hx;rcases hx with rfl | rfl | rfl | rfl | rfl
 ·rfl
 ·rfl
 ·rfl
 ·rfl
 ·obtain ⟨a, c, rfl⟩ := own_slice h rfl
  rfl
/-- What putting a node leaves. -/
def PutOut (N p : Nat) (X : Ps.Src) (S : ByteArray) (w : World) (tv nv : Value) (D : List (Ps.Nd × Value)) (s : Ps.St) (x : Ps.Nd) (u : Value) (e : Ending) (w' : World) : Prop :=
 e = .returned (.int .i64 (s.nodes.length : Int)) ∧ ∃ nv', PSt N p w' X S (putSt x s) tv nv' (D ++ [(x, u)]) ∧ Mv N p w nv w' nv'
/-- The state behind the append. -/
theorem put_state {w1 w8 : World} {x : Ps.Nd} {u : Value} {g2 cap2 : Nat} {o : Obj} (h : Go N p X S w tv nv D w1 s nv []) (hown : w8.ownsRow N 41 5 (.slice (some ⟨g2, 0, none⟩) (D.length + 1) cap2) (D.length + 1) ((D.flatMap fun x => ndCells x.1 x.2) ++ ndCells x u)) (hgrow : ((w1.alloc o).drew).grownBy w8 nv.ownBlock)
  (hat : nv.ownBlock = some g2 ∨ g2 = w1.heap.size + 1) (hu : KidsV N w1 u x.kids) (hb8 : w8.heap[p]? = some (.cells #[.string S, tv, .int .i64 (s.i : Int), .int .i64 s.deep, nv] 63 (0, 0))) (hf : s.nodes.length < 100000) :
  PSt N p (w8.setCell ⟨p, 4, none⟩ (.slice (some ⟨g2, 0, none⟩) (D.length + 1) cap2)) X S (putSt x s) tv (.slice (some ⟨g2, 0, none⟩) (D.length + 1) cap2) (D ++ [(x, u)]) ∧ Mv N p w nv (w8.setCell ⟨p, 4, none⟩ (.slice (some ⟨g2, 0, none⟩) (D.length + 1) cap2)) (.slice (some ⟨g2, 0, none⟩) (D.length + 1) cap2) := by
 have hst := h.st;rw [List.append_nil] at hst;have hDl : D.length = s.nodes.length := by rw [hst.eq, List.length_map]
 have hk : ∀ k, k < w1.heap.size → nv.ownBlock ≠ some k → w8.heap[k]? = w1.heap[k]? := fun k h1 h2 => (hgrow.block k (by show k < (w1.alloc o).heap.size; simp; omega) (fun e => h2 e.symm)).trans (Below.heap_alloc _ _ _ h1)
 have htoks : ToksV N w8 tv X.toks := own_keep hst.toks (fun k hk2 => hk k (hst.toks.lt k hk2).2 (fun e => own_ne_own hst.toks hst.nodes.row (by decide) hk2 e));have hkids : ∀ u l, KidsV N w1 u l → KidsV N w8 u l := fun u l hl => own_keep hl (fun k hk2 => hk k (hl.lt k hk2).2 (fun e => own_ne_own hl hst.nodes.row (by decide) hk2 e))
 have hrow : NodesV N w8 (.slice (some ⟨g2, 0, none⟩) (D.length + 1) cap2) (D ++ [(x, u)]) := by
  refine ⟨?_, fun y hy => ?_⟩
  ·rw [List.length_append, List.flatMap_append]
   simpa using hown
  ·rcases List.mem_append.1 hy with hy | hy
   ·exact hkids _ _ (hst.nodes.kids y hy)
   ·obtain rfl : y = (x, u) := by simpa using hy
    exact hkids _ _ hu
 have hN : N ≤ p := hst.hN;refine ⟨{ hst with
   blk := blk_set hb8 4 _
   toks := own_set htoks hb8 (by decide)
   nodes := hrow.set hb8 4 _
   eq := by show s.nodes ++ [x] = _; rw [hst.eq, List.map_append]; rfl
   many := by rw [List.length_append]; simp; omega }, ?_, fun k h1 h2 h3 => ?_, fun g hg => ?_⟩
 ·have hb1 : Below N w (w1.alloc o).drew := (h.mv.below.alloc hst.nN o).drew;exact (Below.grown hb1 hgrow (by show N ≤ (w1.alloc o).heap.size; simp; have := hst.nN; omega) (fun k hk2 => (hst.nodes.row.lt k hk2).1)).setCell (p := ⟨p, 4, none⟩) hN _
 ·have hs := h.size;exact (Below.heap_setCell _ _ _ _ h2).trans ((hk k (by omega) h3).trans (h.mv.keep k h1 h2 h3))
 ·have hs := h.size
  cases hg
  show nv.ownBlock = some g2 ∨ w.heap.size ≤ g2
  rcases hat with e | e
  ·exact .inl e
  ·exact .inr (by omega)
set_option maxRecDepth 100000 in
set_option maxHeartbeats 1000000 in
theorem spput_any (h : PSt N p w X S s tv nv D) (x : Ps.Nd) (u : Value) (hu : KidsV N w u x.kids) (hf : s.nodes.length < 100000) : Calls Tryz.prog 46 #[.pointer (some ⟨p, 0, none⟩), .agg #[.int .i64 x.kind, .int .i64 x.pos, .int .i64 x.num, .string (str x.text), u]] w (PutOut N p X S w tv nv D s x u) := by
 have hDl : D.length = s.nodes.length := by rw [h.eq, List.length_map]
 have HG := zh (Go.start h);have HU := zh hu;have h1c := zh (kids_one hu x.kind x.pos x.num (str x.text));obtain ⟨ua, uc, hus⟩ := own_slice hu rfl;obtain ⟨i0, hi0, hz0, hz1, hz2⟩ := info_parts node_info;have HDL := zh hDl;have hDf : D.length < 100000 := by omega
 have HL5 := zh (ndCells_len D);have HDE := zh h.eq;clear h hu hDl;subst hus
 go_enter Tryz.func46, Tryz.ntmps46
 go_wp2_with fail
 obtain ⟨w1, hw1⟩ : ∃ w1 : World, w1 = (w.alloc (.cells #[.int .i64 x.kind, .int .i64 x.pos, .int .i64 x.num, .string (str x.text), .slice ua x.kids.length uc] 41)) := ⟨_, rfl⟩;have HQ : Hid (w1.heap[w.heap.size]? = some (.cells #[.int .i64 x.kind, .int .i64 x.pos, .int .i64 x.num, .string (str x.text), .slice ua x.kids.length uc] 41 (0, 0))) := zh (by rw [hw1]; exact blk_new _ _);have HG1 : Hid (Go N p X S w tv nv D w1 s nv []) := zh (by rw [hw1]; exact HG.out.alloc _);have HU1 : Hid (KidsV N w1 (.slice ua x.kids.length uc) x.kids) := zh (by rw [hw1]; exact HU.out.alloc _);rw [← hw1];clear hw1;have q0 := blk_cell HQ.out 0;have q1 := blk_cell HQ.out 1;have q2 := blk_cell HQ.out 2;have q3 := blk_cell HQ.out 3;have q4 := blk_cell HQ.out 4;have hql := blk_lt HQ.out;have d4 := HG1.out.st.c4;have hp1 := HG1.out.st.lt;have hN1 := HG1.out.st.nN;simp only [List.getElem?_toArray, List.getElem?_cons_zero, List.getElem?_cons_succ] at q0 q1 q2 q3 q4
 have HV1 : Hid (w1.ownsRow N 41 5 nv D.length (D.flatMap fun x => ndCells x.1 x.2)) := zh (by have := HG1.out.st.nodes.row; rwa [List.append_nil] at this);have HP1 := zh HG1.out.st.blk;have HBA : Hid (((w1.alloc (.cells (ndCells x (.slice ua x.kids.length uc)).toArray 41)).drew).heap[p]? = some (.cells #[.string S, tv, .int .i64 (s.i : Int), .int .i64 s.deep, nv] 63 (0, 0))) := zh (blk_alloc HP1.out _);obtain ⟨na, nc, hnv⟩ := own_slice HV1.out rfl;subst hnv;go_wp2_with fail
 go_region_law (refine step_append_lies _ (by rfl) _ _ _ (by rfl) N 41 i0 _ 5 64 Tryz.underlying22 hi0 hz0 hz1 hz2 rfl (by omega) (.slice na D.length nc) D.length (D.flatMap fun x => ndCells x.1 x.2) (by rfl) (by exact HV1.out.alloc _) ⟨w1.heap.size, 0, none⟩ 1 1 (ndCells x (.slice ua x.kids.length uc)) (by rfl) (by rfl) (World.news_of_block (cs := (ndCells x (.slice ua x.kids.length uc)).toArray) (t := 41) (fr := (0, 0)) (heap_alloc_new _ _)) h1c.out (by omega) (by unfold maxLen; omega) (by omega) (by simp; omega) (w1.heap.size + 1) (by simp) ?_; intro g2 cap2 w8 hown1 hgrow hat hlt; have hb8 := blk_grown HBA.out hgrow (fun e0 => own_ne_blk HV1.out HP1.out (by decide) e0.symm); have e0 := blk_cell hb8 4; have e1 := blk_free hb8 4; have hl8 := blk_lt hb8; simp only [List.getElem?_toArray, List.getElem?_cons_zero, List.getElem?_cons_succ] at e0; have HGR := zh hgrow; have HO8 := zh hown1; have HB8 := zh hb8; clear hb8 hgrow hown1)
 all_goals
  have HF := zh (put_state HG1.out HO8.out HGR.out hat HU1.out HB8.out hf);clear hat e0 e1 q0 q1 q2 q3 q4 d4;have y4 := HF.out.1.c4;have hl9 := HF.out.1.lt;have wr1 : IntKind.i64.wrap ((D.length : Int) + 1 - 1) = (D.length : Int) := by rw [Int.add_sub_cancel]; exact IntWalk.i64_in _ (by omega)
  generalize (w8.setCell ⟨p, 4, none⟩ (.slice (some ⟨g2, 0, none⟩) (D.length + 1) cap2)) = w9 at *;go_wp2
  go_returns
  exact ⟨by show Ending.returned (.int .i64 (D.length : Int)) = _; rw [HDL.out], _, HF.out.1, HF.out.2⟩
end
end Go.Proofs.YtjickecdkmljpaaGreatDoor
namespace Go.Proofs.YtjickecdkmljpaaGreatDoor
open Go.RowKit

/-- THE CONTRACT of a function of the parser's that takes nothing but the parser. -/
def POk (X : Ps.Src) (S : ByteArray) (f : FuncId) (val : List Nat → Value) (plain : Ps.St → Ps.Res) : Prop :=
 ∀ (N p : Nat) (w : World) (s : Ps.St) (tv nv : Value) (D : List (Ps.Nd × Value)), PSt N p w X S s tv nv D → plain s ≠ .out → Calls Tryz.prog f #[.pointer (some ⟨p, 0, none⟩)] w (Out N p X S w tv nv D val (plain s))

section
variable {N p : Nat} {w : World} {X : Ps.Src} {S : ByteArray} {s : Ps.St} {tv nv : Value} {D : List (Ps.Nd × Value)}
theorem fresh_one {B : Nat} {x : Ps.Nd} {u : Value} (hu : ∀ b, u.ownBlock = some b → B ≤ b) : Fresh B [(x, u)] := fun y hy b hb => by
 obtain rfl : y = (x, u) := by simpa using hy
 exact hu b hb
/-- A node is put, seen from where the function began: its kids' row is new. -/
theorem Go.put {wk w2 : World} {nk n2 : Value} {E : List (Ps.Nd × Value)} {x : Ps.Nd} {u : Value} (h : Go N p X S w tv nv D wk s nk E) (h1 : PSt N p w2 X S (putSt x s) tv n2 ((D ++ E) ++ [(x, u)])) (h2 : Mv N p wk nk w2 n2) (hu : ∀ b, u.ownBlock = some b → w.heap.size ≤ b) : Go N p X S w tv nv D w2 (putSt x s) n2 (E ++ [(x, u)]) :=
 ⟨by rw [← List.append_assoc]; exact h1, h.mv.trans h2, h.fr.append (fresh_one hu), h.tl, h.pl⟩
theorem kids_nil (N : Nat) (w : World) : KidsV N w (.slice none 0 0) [] := World.ownsRow_nil _ _ _ _
theorem nil_fresh (B : Nat) : ∀ b, (Value.slice none 0 0).ownBlock = some b → B ≤ b := fun b h => by cases h

set_option maxRecDepth 100000 in
theorem spwith_any (h : PSt N p w X S s tv nv D) (kind : Int) (at_ : Nat) (kids : List Nat) (u : Value) (hu : KidsV N w u kids) (hf : s.nodes.length < 100000) : Calls Tryz.prog 200 #[.pointer (some ⟨p, 0, none⟩), .int .i64 kind, .int .i64 (at_ : Int), u] w (PutOut N p X S w tv nv D s ⟨kind, at_, 0, [], kids⟩ u) := by
 have HP := zh (spput_any h ⟨kind, at_, 0, [], kids⟩ u hu hf);obtain ⟨ua, uc, hus⟩ := own_slice hu rfl;subst hus;clear h hu
 go_enter Tryz.func200, Tryz.ntmps200
 go_wp2_with fail
 refine HP.out.mono ?_;rintro e w1 ⟨rfl, hq⟩;have HQ := zh hq;clear hq;go_wp2
 go_returns
 exact ⟨rfl, HQ.out⟩

theorem name_ne (X : Ps.Src) (s : Ps.St) : Ps.name X s ≠ .out := by
 unfold Ps.name Ps.fail
 split <;> simp
theorem pointer_bad1 {c : Int} {q : Nat} (h : Ps.take X Ps.k_star s = .bad c q) : Ps.pointer X s = .bad c q := by simp [Ps.pointer, h, Ps.Res.bind]
set_option maxRecDepth 100000 in
set_option maxHeartbeats 1000000 in
theorem sppointer_any : POk X S 151 oneV (Ps.pointer X) := by
 intro N p w s tv nv D h hne;have HG := zh (Go.start h);have HNE := zh hne;clear h hne
 go_enter Tryz.func151, Tryz.ntmps151
 go_wp2_with fail
 refine (sptake_any HG.out.st ⟨#[42]⟩).mono ?_;rintro e w1 hq;rcases hq.parts (take_ne _ _ _) with ⟨c, q, hr, rfl, hb⟩ | ⟨v, s1, n1, E1, hr, rfl, h1, h2, h3⟩
 ·have HE : Hid (Out N p X S w tv nv D oneV (Ps.pointer X s) (thrownS c q) w1) := zh (HG.out.bad hb (pointer_bad1 hr));clear hq hr hb
  unfold thrownS;go_wp2
  exact ⟨rfl, HE.out⟩
 have HR1 : Hid (Ps.take X Ps.k_star s = .ok v s1) := zh hr;have hv := (take_ok hr).1;have HG1 := zh (HG.out.then h1 h2 h3);clear hq hr h1 h2 h3;subst hv;unfold oneV;go_wp2_with fail
 refine (spname_any HG1.out.st).mono ?_;rintro e w2 hq;rcases hq.parts (name_ne _ _) with ⟨c, q, hr, rfl, hb⟩ | ⟨v, s2, n2, E2, hr, rfl, h1, h2, h3⟩
 ·have HE : Hid (Out N p X S w tv nv D oneV (Ps.pointer X s) (thrownS c q) w2) := zh (HG1.out.bad hb (by simp [Ps.pointer, HR1.out, hr, Ps.Res.bind]));clear hq hr hb
  unfold thrownS;go_wp2
  exact ⟨rfl, HE.out⟩
 have HR2 : Hid (Ps.pointer X s = Ps.put ⟨4, (Ps.now X s).pos, 0, (Ps.now X s1).text, []⟩ s2) := zh (by simp [Ps.pointer, HR1.out, hr, Ps.Res.bind]);have HG2 := zh (HG1.out.then h1 h2 h3);have hne2 := HNE.out;rw [HR2.out] at hne2;have hf := put_few hne2;have HPI := zh (put_is hne2);clear hq hr h1 h2 h3 hne2;unfold tokVal tokCells;have hfl := tok_fld1;go_wp2_with fail
 refine (spput_any HG2.out.st ⟨4, (Ps.now X s).pos, 0, (Ps.now X s1).text, []⟩ (.slice none 0 0) (kids_nil _ _) hf).mono ?_;rintro e w3 ⟨rfl, n3, h1, h2⟩;have HE : Hid (Out N p X S w tv nv D oneV (Ps.pointer X s) (.returned (.int .i64 (s2.nodes.length : Int))) w3) := zh ((HG2.out.put h1 h2 (nil_fresh _)).out (by rw [HR2.out, HPI.out]) rfl);clear h1 h2;go_wp2
 go_returns
 exact HE.out
end
end Go.Proofs.YtjickecdkmljpaaGreatDoor
