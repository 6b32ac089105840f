/-
  PROVED HERE: the text of a type's node; it does not hang on what is put behind the node. the nodes that are read stand well: kids lie ahead of their node, and nodes of types, methods and interfaces have the kids that they have to; a type's text is no longer than so many bytes for each node. no token's text is long, and names are not empty; no node's text is long, no node has many kids, and what interfaces are called is not empty. No condition beyond the lemmas' own premises.
-/
import Derived.Test.YtjickecdkmljpaaGreatDoorPsA
namespace Go.Proofs.YtjickecdkmljpaaGreatDoor.Ps
open Lx (Tok)

/-- Texts with commas between them. -/
def joinC : List (List UInt8) → List UInt8
 | [] => []
 | [x] => x
 | x :: y :: r => x ++ 44 :: joinC (y :: r)
def t_chan : List UInt8 := [99, 104, 97, 110, 32]
def t_func : List UInt8 := [102, 117, 110, 99, 40]
def noNd : Nd := ⟨0, 0, 0, [], []⟩
/-- The text of a type's node, a signature's, a parameter's (its type's); with fuel. -/
def txt (L : List Nd) : Nat → Nat → List UInt8
 | 0, _ => []
 | f + 1, k =>
  if (L.getD k noNd).kind = 1 then k_int
  else if (L.getD k noNd).kind = 2 then k_bool
  else if (L.getD k noNd).kind = 3 then (L.getD k noNd).text
  else if (L.getD k noNd).kind = 4 then 42 :: (L.getD k noNd).text
  else if (L.getD k noNd).kind = 5 then t_chan ++ txt L f ((L.getD k noNd).kids.getD 0 0)
  else if (L.getD k noNd).kind = 7 then txt L f ((L.getD k noNd).kids.getD 0 0)
  else if (L.getD k noNd).kind = 6 ∨ (L.getD k noNd).kind = 8 then
   t_func ++ joinC (((L.getD k noNd).kids.take (L.getD k noNd).num.toNat).map fun j => txt L f j) ++ 41 :: (if (L.getD k noNd).num.toNat < (L.getD k noNd).kids.length then 32 :: txt L f ((L.getD k noNd).kids.getD (L.getD k noNd).num.toNat 0) else [])
  else []
/-- The text. -/
def text (L : List Nd) (k : Nat) : List UInt8 := txt L (k + 1) k

/-- A node that stands well among those ahead of it. -/
structure OkNd (L : List Nd) (k : Nat) (n : Nd) : Prop where
 lt : ∀ j ∈ n.kids, j < k
 one : n.kind = 5 ∨ n.kind = 7 ∨ n.kind = 11 → n.kids ≠ []
 num : n.kind = 6 ∨ n.kind = 8 → ∃ m : Nat, n.num = (m : Int) ∧ m ≤ n.kids.length
 self : n.kind = 14 → ∃ a b l, n.kids = a :: b :: l ∧ (L.getD a noNd).kids ≠ [] ∧ (L.getD a noNd).kind = 7
 ms : n.kind = 12 → ∀ j ∈ n.kids, (L.getD j noNd).kids ≠ []
/-- All nodes stand well. -/
def Wf (L : List Nd) : Prop := ∀ k n, L[k]? = some n → OkNd L k n

theorem getD_of {L : List Nd} {k : Nat} {n : Nd} (h : L[k]? = some n) : L.getD k noNd = n := by rw [List.getD_eq_getElem?_getD, h]; rfl
theorem getD_none {L : List Nd} {k : Nat} (h : L.length ≤ k) : L.getD k noNd = noNd := by rw [List.getD_eq_getElem?_getD, List.getElem?_eq_none h]; rfl
theorem getD_app {L E : List Nd} {k : Nat} (h : k < L.length) : (L ++ E).getD k noNd = L.getD k noNd := by
 rw [List.getD_eq_getElem?_getD, List.getD_eq_getElem?_getD, List.getElem?_append_left h]
theorem mem_getD {l : List Nat} {i : Nat} (h : i < l.length) : l.getD i 0 ∈ l := by
 rw [List.getD_eq_getElem?_getD, List.getElem?_eq_getElem h];exact List.getElem_mem h
/-- What the text of a node hangs on: the node, and the texts of its kids. -/
theorem txt_congr {L L' : List Nd} {f f' k : Nat} (hn : L.getD k noNd = L'.getD k noNd) (ho : OkNd L k (L.getD k noNd)) (hk : ∀ j, j < k → txt L f j = txt L' f' j) : txt L (f + 1) k = txt L' (f' + 1) k := by
 unfold txt;rw [← hn];generalize L.getD k noNd = n at *;have h0 : ∀ i, i < n.kids.length → txt L f (n.kids.getD i 0) = txt L' f' (n.kids.getD i 0) := fun i hi => hk _ (ho.lt _ (mem_getD hi))
 by_cases h1 : n.kind = 1
 ·simp only [h1, if_true]
 by_cases h2 : n.kind = 2
 ·simp [h2]
 by_cases h3 : n.kind = 3
 ·simp [h3]
 by_cases h4 : n.kind = 4
 ·simp [h4]
 rw [if_neg h1, if_neg h2, if_neg h3, if_neg h4, if_neg h1, if_neg h2, if_neg h3, if_neg h4]
 by_cases h5 : n.kind = 5
 ·rw [if_pos h5, if_pos h5, h0 0 (by have := ho.one (.inl h5); cases hq : n.kids with | nil => exact absurd hq this | cons a l => simp)]
 by_cases h7 : n.kind = 7
 ·rw [if_neg h5, if_neg h5, if_pos h7, if_pos h7, h0 0 (by have := ho.one (.inr (.inl h7)); cases hq : n.kids with | nil => exact absurd hq this | cons a l => simp)]
 rw [if_neg h5, if_neg h5, if_neg h7, if_neg h7]
 by_cases h6 : n.kind = 6 ∨ n.kind = 8
 ·rw [if_pos h6, if_pos h6];have e1 : ((n.kids.take n.num.toNat).map fun j => txt L f j) = (n.kids.take n.num.toNat).map fun j => txt L' f' j := List.map_congr_left fun j hj => hk _ (ho.lt _ (List.mem_of_mem_take hj))
  rw [e1]
  by_cases hl : n.num.toNat < n.kids.length
  ·rw [if_pos hl, if_pos hl, h0 _ hl]
  ·rw [if_neg hl, if_neg hl]
 ·rw [if_neg h6, if_neg h6]
theorem ok_none (L : List Nd) (k : Nat) : OkNd L k noNd := ⟨fun j hj => (by cases hj), fun h => (by rcases h with h | h | h <;> cases h), fun h => (by rcases h with h | h <;> cases h), fun h => (by cases h), fun h => (by cases h)⟩
theorem Wf.at {L : List Nd} (h : Wf L) (k : Nat) : OkNd L k (L.getD k noNd) := by
 cases hq : L[k]? with
 | none =>
  rw [getD_none (by rw [List.getElem?_eq_none_iff] at hq; exact hq)];exact ok_none L k
 | some n => rw [getD_of hq]; exact h k n hq
theorem txt_fuel {L : List Nd} (h : Wf L) : ∀ k f f', k < f → k < f' → txt L f k = txt L f' k := by
 intro k
 induction k using Nat.strongRecOn with
 | ind k ih =>
  intro f f' hf hf';obtain ⟨g, rfl⟩ : ∃ g, f = g + 1 := ⟨f - 1, by omega⟩;obtain ⟨g', rfl⟩ : ∃ g', f' = g' + 1 := ⟨f' - 1, by omega⟩;exact txt_congr rfl (h.at k) fun j hj => ih j hj g g' (by omega) (by omega)
theorem txt_is {L : List Nd} (h : Wf L) {k f : Nat} (hf : k < f) : txt L f k = text L k := txt_fuel h k f (k + 1) hf (by omega)
theorem text_app {L : List Nd} (h : Wf L) (E : List Nd) : ∀ k, k < L.length → text (L ++ E) k = text L k := by
 have : ∀ k f, k < L.length → txt (L ++ E) f k = txt L f k := by
  intro k
  induction k using Nat.strongRecOn with
  | ind k ih =>
   intro f hk
   cases f with
   | zero => rfl
   | succ f => exact (txt_congr (getD_app hk).symm (h.at k) fun j hj => (ih j hj f (by omega)).symm).symm
 intro k hk;exact this k _ hk
/-- The text of a node, by its kids' texts. -/
theorem text_eq {L : List Nd} (h : Wf L) (k : Nat) : text L k =
  if (L.getD k noNd).kind = 1 then k_int
  else if (L.getD k noNd).kind = 2 then k_bool
  else if (L.getD k noNd).kind = 3 then (L.getD k noNd).text
  else if (L.getD k noNd).kind = 4 then 42 :: (L.getD k noNd).text
  else if (L.getD k noNd).kind = 5 then t_chan ++ text L ((L.getD k noNd).kids.getD 0 0)
  else if (L.getD k noNd).kind = 7 then text L ((L.getD k noNd).kids.getD 0 0)
  else if (L.getD k noNd).kind = 6 ∨ (L.getD k noNd).kind = 8 then
   t_func ++ joinC (((L.getD k noNd).kids.take (L.getD k noNd).num.toNat).map fun j => text L j) ++ 41 :: (if (L.getD k noNd).num.toNat < (L.getD k noNd).kids.length then 32 :: text L ((L.getD k noNd).kids.getD (L.getD k noNd).num.toNat 0) else [])
  else [] := by
 have ho := h.at k;unfold text
 show txt L (k + 1) k = _
 rw [txt];generalize L.getD k noNd = n at *;have h0 : ∀ i, i < n.kids.length → txt L k (n.kids.getD i 0) = txt L (n.kids.getD i 0 + 1) (n.kids.getD i 0) := fun i hi => txt_fuel h _ _ _ (ho.lt _ (mem_getD hi)) (by omega)
 by_cases h5 : n.kind = 5
 ·simp only [h5];rw [h0 0 (by have := ho.one (.inl h5); cases hq : n.kids with | nil => exact absurd hq this | cons a l => simp)]
  simp
 by_cases h7 : n.kind = 7
 ·simp only [h7];rw [h0 0 (by have := ho.one (.inr (.inl h7)); cases hq : n.kids with | nil => exact absurd hq this | cons a l => simp)]
  simp
 have e1 : ((n.kids.take n.num.toNat).map fun j => txt L k j) = (n.kids.take n.num.toNat).map fun j => txt L (j + 1) j := List.map_congr_left fun j hj => txt_fuel h _ _ _ (ho.lt _ (List.mem_of_mem_take hj)) (by omega)
 rw [e1, if_neg h5, if_neg h5, if_neg h7, if_neg h7]
 by_cases hl : n.num.toNat < n.kids.length
 ·rw [if_pos hl, if_pos hl, h0 _ hl]
 ·rw [if_neg hl, if_neg hl]
/-- One node more. -/
theorem Wf.put {L : List Nd} (h : Wf L) {n : Nd} (hn : OkNd L L.length n) : Wf (L ++ [n]) := by
 intro k x hx;have hself : ∀ j, j < L.length → (L ++ [n]).getD j noNd = L.getD j noNd := fun j hj => getD_app hj
 have up : ∀ {m : Nat} {y : Nd}, m ≤ L.length → OkNd L m y → OkNd (L ++ [n]) m y := fun {m y} hm o =>
  ⟨o.lt, o.one, o.num, fun e => by
   obtain ⟨a, b, l, e1, e2⟩ := o.self e;exact ⟨a, b, l, e1, by rw [hself a (Nat.lt_of_lt_of_le (o.lt a (by rw [e1]; simp)) hm)]; exact e2⟩, fun e j hj => by
   rw [hself j (Nat.lt_of_lt_of_le (o.lt j hj) hm)];exact o.ms e j hj⟩
 by_cases hk : k < L.length
 ·rw [List.getElem?_append_left hk] at hx;exact up (by omega) (h k x hx)
 ·by_cases e : k = L.length
  ·subst e;rw [List.getElem?_append_right (Nat.le_refl _), Nat.sub_self] at hx
   cases hx
   exact up (Nat.le_refl _) hn
  ·rw [List.getElem?_eq_none (by rw [List.length_append]; simp; omega)] at hx
   cases hx
theorem Wf.nil : Wf [] := fun k n h => by simp at h
end Go.Proofs.YtjickecdkmljpaaGreatDoor.Ps
namespace Go.Proofs.YtjickecdkmljpaaGreatDoor.Ps
open Lx (Tok)

def V (v : List Nat) (L : List Nd) : Prop := ∀ a ∈ v, a < L.length
def Ext (L L' : List Nd) : Prop := ∃ E, L' = L ++ E
/-- No text is longer than D for each node up to it. -/
def Sh (D : Nat) (L : List Nd) : Prop := ∀ k, k < L.length → (text L k).length + 1 ≤ D * (k + 1)
def In (D : Nat) (L : List Nd) : Prop := Wf L ∧ Sh D L
/-- How long texts are together. -/
def wt (L : List Nd) (v : List Nat) : Nat := (v.map fun a => (text L a).length + 1).sum
section
variable {D : Nat}
variable (D) in
/-- What a reader that goes well leaves: more nodes, all standing well; its answer's nodes are there. -/
def Gd (r : Res) (L : List Nd) (Q : List Nat → List Nd → Prop) : Prop := In D L → ∀ v s', r = .ok v s' → Ext L s'.nodes ∧ In D s'.nodes ∧ V v s'.nodes ∧ Q v s'.nodes
def Any : List Nat → List Nd → Prop := fun _ _ => True
/-- Each of them has kids. -/
def Kd (v : List Nat) (L : List Nd) : Prop := ∀ j ∈ v, (L.getD j noNd).kids ≠ []
theorem Ext.refl (L : List Nd) : Ext L L := ⟨[], by simp⟩
theorem Ext.trans {A B C : List Nd} (h : Ext A B) (k : Ext B C) : Ext A C := by
 obtain ⟨E, rfl⟩ := h;obtain ⟨F, rfl⟩ := k;exact ⟨E ++ F, by simp⟩
theorem Ext.len {A B : List Nd} (h : Ext A B) : A.length ≤ B.length := by
 obtain ⟨E, rfl⟩ := h;simp
theorem V.up {v : List Nat} {A B : List Nd} (h : V v A) (e : Ext A B) : V v B := fun a ha => Nat.lt_of_lt_of_le (h a ha) e.len
theorem V.app {u v : List Nat} {A : List Nd} (h : V u A) (k : V v A) : V (u ++ v) A := fun a ha => (List.mem_append.1 ha).elim (h a) (k a)
theorem V.cons {a : Nat} {v : List Nat} {A : List Nd} (h : a < A.length) (k : V v A) : V (a :: v) A := fun b hb => (List.mem_cons.1 hb).elim (fun e => e ▸ h) (k b)
theorem V.nil (A : List Nd) : V [] A := fun a ha => by cases ha
theorem Kd.up {v : List Nat} {A B : List Nd} (h : Kd v A) (hv : V v A) (e : Ext A B) : Kd v B := fun j hj => by
 obtain ⟨E, rfl⟩ := e;rw [getD_app (hv j hj)];exact h j hj
theorem Kd.app {u v : List Nat} {A : List Nd} (h : Kd u A) (k : Kd v A) : Kd (u ++ v) A := fun j hj => (List.mem_append.1 hj).elim (h j) (k j)
theorem Gd.mono {r : Res} {L : List Nd} {Q Q' : List Nat → List Nd → Prop} (h : Gd D r L Q) (hq : ∀ v L', V v L' → Q v L' → Q' v L') : Gd D r L Q' := fun w v s' e => by
 obtain ⟨a, b, c, d⟩ := h w v s' e;exact ⟨a, b, c, hq _ _ c d⟩
theorem Gd.any {r : Res} {L : List Nd} {Q : List Nat → List Nd → Prop} (h : Gd D r L Q) : Gd D r L Any := h.mono fun _ _ _ _ => trivial
theorem Gd.bind {r : Res} {L : List Nd} {Q1 Q : List Nat → List Nd → Prop} {f : List Nat → St → Res} (h : Gd D r L Q1) (hf : ∀ v s1, r = .ok v s1 → Ext L s1.nodes → V v s1.nodes → Q1 v s1.nodes → Gd D (f v s1) s1.nodes Q) : Gd D (r.bind f) L Q := by
 intro w v s' he
 cases r with
 | out => cases he
 | bad c p => cases he
 | ok v1 s1 =>
  obtain ⟨a, b, c, d⟩ := h w v1 s1 rfl;obtain ⟨a2, b2, c2, d2⟩ := hf v1 s1 rfl a c d b v s' he;exact ⟨a.trans a2, b2, c2, d2⟩
theorem Gd.ite {c : Prop} [Decidable c] {a b : Res} {L : List Nd} {Q : List Nat → List Nd → Prop} (h1 : Gd D a L Q) (h2 : Gd D b L Q) : Gd D (if c then a else b) L Q := by
 split
 ·exact h1
 ·exact h2
theorem Gd.ok {v : List Nat} {s : St} (h : V v s.nodes) : Gd D (.ok v s) s.nodes Any := fun w v' s' e => by cases e; exact ⟨Ext.refl _, w, h, trivial⟩
theorem Gd.okQ {v : List Nat} {s : St} {Q : List Nat → List Nd → Prop} (h : V v s.nodes) (hq : Q v s.nodes) : Gd D (.ok v s) s.nodes Q := fun w v' s' e => by cases e; exact ⟨Ext.refl _, w, h, hq⟩
theorem Gd.fail (X : Src) (c : Int) (s : St) (L : List Nd) (Q : List Nat → List Nd → Prop) : Gd D (fail X c s) L Q := fun w v s' e => by cases e
/-- What gives no nodes. -/
def Same (r : Res) (L : List Nd) : Prop := ∀ v s', r = .ok v s' → s'.nodes = L
theorem same_take (X : Src) (x : List UInt8) (s : St) : Same (take X x s) s.nodes := by
 intro v s' h;unfold take fail at h
 split at h <;> cases h
 rfl
theorem same_name (X : Src) (s : St) : Same (name X s) s.nodes := by
 intro v s' h;unfold name fail at h
 split at h <;> cases h
 rfl
theorem same_enter (X : Src) (x : List UInt8) (s : St) : Same (enter X x s) s.nodes := by
 intro v s' h;unfold enter fail at h
 split at h
 ·cases h
 ·cases ht : take X x s with
  | out => rw [ht] at h; cases h
  | bad c p => rw [ht] at h; cases h
  | ok v1 s1 =>
   rw [ht] at h
   cases h
   have := same_take X x s _ _ ht;exact this
theorem same_leave (X : Src) (x : List UInt8) (s : St) : Same (leave X x s) s.nodes := by
 intro v s' h;unfold leave at h
 cases ht : take X x s with
 | out => rw [ht] at h; cases h
 | bad c p => rw [ht] at h; cases h
 | ok v1 s1 =>
  rw [ht] at h
  cases h
  have := same_take X x s _ _ ht;exact this
theorem Gd.skip {r : Res} {L : List Nd} {Q : List Nat → List Nd → Prop} {f : List Nat → St → Res} (h : Same r L) (hf : ∀ v s1, s1.nodes = L → Gd D (f v s1) L Q) : Gd D (r.bind f) L Q := by
 intro w v s' he
 cases r with
 | out => cases he
 | bad c p => cases he
 | ok v1 s1 => exact hf v1 s1 (h _ _ rfl) w v s' he
/-- A node of a kind of which nothing is asked but that its kids lie ahead. -/
def plainK (k : Int) : Bool := !(k == 5 || k == 7 || k == 11 || k == 6 || k == 8 || k == 14 || k == 12 || k == 1 || k == 2 || k == 3 || k == 4)
theorem ok_plain {L : List Nd} {n : Nd} (hk : V n.kids L) (hp : plainK n.kind = true) : OkNd L L.length n := by
 unfold plainK at hp;simp only [Bool.not_eq_true', Bool.or_eq_false_iff, beq_eq_false_iff_ne] at hp;obtain ⟨⟨⟨⟨⟨⟨⟨⟨⟨⟨h5, h7⟩, h11⟩, h6⟩, h8⟩, h14⟩, h12⟩, _⟩, _⟩, _⟩, _⟩ := hp;exact ⟨hk, fun h => (by rcases h with h | h | h <;> contradiction), fun h => (by rcases h with h | h <;> contradiction), fun h => absurd h h14, fun h => absurd h h12⟩
theorem getD_new (L : List Nd) (n : Nd) : (L ++ [n]).getD L.length noNd = n := by
 rw [List.getD_eq_getElem?_getD, List.getElem?_append_right (Nat.le_refl _), Nat.sub_self]
 rfl
theorem wt_nil (L : List Nd) : wt L [] = 0 := rfl
theorem wt_app (L : List Nd) (u v : List Nat) : wt L (u ++ v) = wt L u + wt L v := by
 unfold wt;rw [List.map_append, List.sum_append]
theorem wt_one (L : List Nd) (a : Nat) : wt L [a] = (text L a).length + 1 := by simp [wt]
theorem wt_up {L L' : List Nd} {v : List Nat} (h : Wf L) (hv : V v L) (e : Ext L L') : wt L' v = wt L v := by
 obtain ⟨E, rfl⟩ := e;unfold wt;rw [List.map_congr_left fun a ha => by rw [text_app h E a (hv a ha)]]
theorem joinC_len (l : List (List UInt8)) : (joinC l).length ≤ (l.map fun x => x.length + 1).sum := by
 induction l with
 | nil => simp [joinC]
 | cons x r ih =>
  cases r with
  | nil => simp [joinC]
  | cons y r =>
   simp only [joinC, List.length_append, List.length_cons, List.map_cons, List.sum_cons] at ih ⊢;omega
theorem take_sum (L : List Nd) (l : List Nat) (m : Nat) : ((l.take m).map fun a => (text L a).length + 1).sum + (if m < l.length then (text L (l.getD m 0)).length + 1 else 0) ≤ wt L l := by
 induction l generalizing m with
 | nil => simp [wt]
 | cons x r ih =>
  unfold wt at ih ⊢
  cases m with
  | zero => simp
  | succ m =>
   have := ih m;simp only [List.take_succ_cons, List.map_cons, List.sum_cons, List.length_cons, List.getD_cons_succ, Nat.add_lt_add_iff_right] at this ⊢;omega
theorem kid_le (L : List Nd) (l : List Nat) (h : l ≠ []) : (text L (l.getD 0 0)).length + 1 ≤ wt L l := by
 cases l with
 | nil => exact absurd rfl h
 | cons x r => simp [wt]
/-- How long a new node's text is. -/
theorem len_new {L : List Nd} {n : Nd} (h : Wf L) (ho : OkNd L L.length n) : (text (L ++ [n]) L.length).length ≤ wt L n.kids + n.text.length + 7 := by
 have hw := h.put ho;have hk : ∀ j ∈ n.kids, text (L ++ [n]) j = text L j := fun j hj => text_app h [n] j (ho.lt j hj)
 have h0 : ∀ i, i < n.kids.length → text (L ++ [n]) (n.kids.getD i 0) = text L (n.kids.getD i 0) := fun i hi => hk _ (mem_getD hi)
 rw [text_eq hw, getD_new]
 by_cases h1 : n.kind = 1
 ·rw [if_pos h1]; show 3 ≤ _; omega
 rw [if_neg h1]
 by_cases h2 : n.kind = 2
 ·rw [if_pos h2]; show 4 ≤ _; omega
 rw [if_neg h2]
 by_cases h3 : n.kind = 3
 ·rw [if_pos h3]; omega
 rw [if_neg h3]
 by_cases h4 : n.kind = 4
 ·rw [if_pos h4]; simp; omega
 rw [if_neg h4]
 by_cases h5 : n.kind = 5
 ·have hne := ho.one (.inl h5);have := kid_le L n.kids hne
  rw [if_pos h5, h0 0 (by cases hq : n.kids with | nil => exact absurd hq hne | cons a l => simp), List.length_append]
  show 5 + _ ≤ _
  omega
 rw [if_neg h5]
 by_cases h7 : n.kind = 7
 ·have hne := ho.one (.inr (.inl h7));have := kid_le L n.kids hne
  rw [if_pos h7, h0 0 (by cases hq : n.kids with | nil => exact absurd hq hne | cons a l => simp)];omega
 rw [if_neg h7]
 by_cases h6 : n.kind = 6 ∨ n.kind = 8
 ·rw [if_pos h6];have e1 : ((n.kids.take n.num.toNat).map fun j => text (L ++ [n]) j) = (n.kids.take n.num.toNat).map fun j => text L j := List.map_congr_left fun j hj => hk j (List.mem_of_mem_take hj)
  have h8 := joinC_len ((n.kids.take n.num.toNat).map fun j => text L j);have h9 := take_sum L n.kids n.num.toNat;rw [List.map_map] at h8;rw [e1];simp only [List.length_append, List.length_cons];have h10 : t_func.length = 5 := rfl;have h11 : ((n.kids.take n.num.toNat).map ((fun x : List UInt8 => x.length + 1) ∘ fun j => text L j)).sum = ((n.kids.take n.num.toNat).map fun a => (text L a).length + 1).sum := rfl
  by_cases hl : n.num.toNat < n.kids.length
  ·rw [if_pos hl, h0 _ hl];rw [if_pos hl] at h9
   simp only [List.length_cons];omega
  ·rw [if_neg hl];rw [if_neg hl] at h9
   simp only [List.length_nil];omega
 ·rw [if_neg h6];simp
theorem text_plain {L : List Nd} {n : Nd} (h : Wf L) (ho : OkNd L L.length n) (hp : ¬ (1 ≤ n.kind ∧ n.kind ≤ 8)) : text (L ++ [n]) L.length = [] := by
 rw [text_eq (h.put ho), getD_new, if_neg (by omega), if_neg (by omega), if_neg (by omega), if_neg (by omega), if_neg (by omega), if_neg (by omega), if_neg (by omega)]
theorem Sh.put {L : List Nd} {n : Nd} (h : Wf L) (hs : Sh D L) (hn : (text (L ++ [n]) L.length).length + 1 ≤ D * (L.length + 1)) : Sh D (L ++ [n]) := by
 intro k hk;rw [List.length_append, List.length_singleton] at hk
 by_cases e : k < L.length
 ·rw [text_app h [n] k e];exact hs k e
 ·obtain rfl : k = L.length := by omega
  exact hn
theorem Gd.putQ {n : Nd} {s : St} (ho : OkNd s.nodes s.nodes.length n) (hl : Wf s.nodes → (text (s.nodes ++ [n]) s.nodes.length).length + 1 ≤ D * (s.nodes.length + 1)) : Gd D (put n s) s.nodes (fun v L' => v = [s.nodes.length] ∧ L' = s.nodes ++ [n]) := by
 intro w v s' h;unfold put at h
 split at h <;> cases h
 refine ⟨⟨[n], rfl⟩, ⟨w.1.put ho, Sh.put w.1 w.2 (hl w.1)⟩, fun a ha => ?_, rfl, rfl⟩;obtain rfl : a = s.nodes.length := by simpa using ha
 simp
/-- A node whose kind is no type's. -/
theorem Gd.putN {n : Nd} {s : St} (hD : 1 ≤ D) (ho : OkNd s.nodes s.nodes.length n) (hp : ¬ (1 ≤ n.kind ∧ n.kind ≤ 8)) : Gd D (Ps.put n s) s.nodes (fun v L' => v = [s.nodes.length] ∧ L' = s.nodes ++ [n]) :=
 Gd.putQ ho fun w => by
  rw [text_plain w ho hp];exact Nat.mul_le_mul hD (Nat.succ_le_succ (Nat.zero_le _))
theorem plain_not {k : Int} (hp : plainK k = true) (_h0 : k ≠ 6) : ¬ (1 ≤ k ∧ k ≤ 8) := by
 unfold plainK at hp;simp only [Bool.not_eq_true', Bool.or_eq_false_iff, beq_eq_false_iff_ne] at hp;omega
theorem Gd.put {n : Nd} {s : St} (hD : 1 ≤ D) (hk : V n.kids s.nodes) (hp : plainK n.kind = true := by rfl) : Gd D (put n s) s.nodes Any := (Gd.putN hD (ok_plain hk hp) (plain_not hp (by rintro e; rw [e] at hp; cases hp))).any
/-- A node with kids, put. -/
theorem Gd.putK {n : Nd} {s : St} {Q : List Nat → List Nd → Prop} (h : Gd D (Ps.put n s) s.nodes Q) (hk : n.kids ≠ []) : Gd D (Ps.put n s) s.nodes Kd := by
 intro w v s' e;obtain ⟨a, b, c, d⟩ := h w v s' e;refine ⟨a, b, c, fun j hj => ?_⟩;unfold Ps.put at e
 split at e <;> cases e
 obtain rfl : j = s.nodes.length := by simpa using hj
 rw [getD_new];exact hk
/-- The texts together are no longer than D for each node since there were n0. -/
def Wb (D n0 : Nat) (v : List Nat) (L : List Nd) : Prop := wt L v ≤ D * (L.length - n0)
theorem Gd.putT {n : Nd} {s : St} (n0 : Nat) (h0 : n0 ≤ s.nodes.length) (ho : OkNd s.nodes s.nodes.length n) (hw : wt s.nodes n.kids ≤ D * (s.nodes.length - n0)) (ht : n.text.length + 8 ≤ D) : Gd D (Ps.put n s) s.nodes (Wb D n0) := by
 have e1 : D * (s.nodes.length + 1 - n0) = D * (s.nodes.length - n0) + D := by rw [show s.nodes.length + 1 - n0 = s.nodes.length - n0 + 1 by omega, Nat.mul_add, Nat.mul_one]
 have e2 : D * (s.nodes.length + 1 - n0) ≤ D * (s.nodes.length + 1) := Nat.mul_le_mul_left D (by omega);intro w v s' e;have hn := len_new w.1 ho;obtain ⟨a, b, c, rfl, d⟩ := Gd.putQ ho (fun w => by omega) w v s' e;refine ⟨a, b, c, ?_⟩;unfold Wb;rw [d, wt_one, List.length_append, List.length_singleton];omega
theorem Gd.wf {r : Res} {L : List Nd} {Q : List Nat → List Nd → Prop} (h : Wf L → Gd D r L Q) : Gd D r L Q := fun w => h w.1 w

/-! ### The readers -/
def Pre : Fn → List Nd → Prop
 | .climb _ a, L | .part a, L => a < L.length
 | .typs a, L | .params a, L | .exprs a, L | .stmts a, L | .body a, L | .cases a, L | .fields a, L | .decls a, L => V a L
 | .msigs a, L => V a L ∧ Kd a L
 | _, _ => True
/-- The same, and what was there. -/
def Wa (D : Nat) (L : List Nd) (a : List Nat) (v : List Nat) (L' : List Nd) : Prop := wt L' v ≤ wt L a + D * (L'.length - L.length)
def Post (D : Nat) : Fn → List Nd → List Nat → List Nd → Prop
 | .typ, L => Wb D L.length
 | .typs a, L | .params a, L => Wa D L a
 | .msigs _, _ => Kd
 | _, _ => Any
def Good (D : Nat) (rec : Rec) : Prop := ∀ f s, Pre f s.nodes → Gd D (rec f s) s.nodes (Post D f s.nodes)
section
variable {X : Src} {rec : Rec} (hD : 1 ≤ D) (hT : ∀ s, (now X s).text.length + 8 ≤ D)
theorem list_gd {Q : List Nat → List Nd → Prop} {l : St → Res} (s : St) (hl : ∀ s1, s1.nodes = s.nodes → Gd D (l s1) s1.nodes Q) : Gd D (list X l s) s.nodes Q :=
 Gd.skip (same_enter X _ s) fun _ s1 e1 => by
  have hl1 := hl s1 e1;rw [e1] at hl1;exact Gd.bind hl1 fun v s2 _ e2 v2 q2 => Gd.skip (same_leave X _ s2) fun _ s3 e3 => e3 ▸ Gd.okQ (by rw [e3]; exact v2) (by rw [e3]; exact q2)
theorem items_gd {Q : List Nat → List Nd → Prop} {l : St → Res} (hl : ∀ s, Gd D (l s) s.nodes Q) (s : St) : Gd D (items X l s) s.nodes Q :=
 Gd.skip (same_enter X _ s) fun _ s1 e1 => e1 ▸ Gd.bind (hl s1) fun v s2 _ e2 v2 q2 => Gd.skip (same_leave X _ s2) fun _ s3 e3 => e3 ▸ Gd.okQ (by rw [e3]; exact v2) (by rw [e3]; exact q2)
theorem listL_gd {o : St → Res} {g : List Nat → St → Res} (ho : ∀ s, Gd D (o s) s.nodes Any) (hg : ∀ a s, V a s.nodes → Gd D (g a s) s.nodes Any) (acc : List Nat) (s : St) (ha : V acc s.nodes) : Gd D (listL X o g acc s) s.nodes Any :=
 Gd.ite (Gd.ok ha) (Gd.bind (ho s) fun k s1 _ e1 v1 _ => Gd.ite (Gd.ok ((ha.up e1).app v1)) (Gd.skip (same_take X _ s1) fun _ s2 e2 => Gd.ite (Gd.fail _ _ _ _ _) (e2 ▸ hg _ s2 (by rw [e2]; exact (ha.up e1).app v1))))
theorem itemsL_gd {Q : List Nat → List Nd → Prop} {o : St → Res} {g : List Nat → St → Res} (hup : ∀ u A B, Q u A → V u A → Ext A B → Q u B) (hap : ∀ u v A, Q u A → Q v A → Q (u ++ v) A) (ho : ∀ s, Gd D (o s) s.nodes Q) (hg : ∀ a s, V a s.nodes → Q a s.nodes → Gd D (g a s) s.nodes Q) (acc : List Nat) (s : St) (ha : V acc s.nodes) (hq : Q acc s.nodes) : Gd D (itemsL X o g acc s) s.nodes Q :=
 Gd.ite (Gd.okQ ha hq) (Gd.bind (ho s) fun k s1 _ e1 v1 q1 => Gd.ite (Gd.okQ ((ha.up e1).app v1) (hap _ _ _ (hup _ _ _ hq ha e1) q1)) (Gd.skip (same_take X _ s1) fun _ s2 e2 => e2 ▸ hg _ s2 (by rw [e2]; exact (ha.up e1).app v1) (by rw [e2]; exact hap _ _ _ (hup _ _ _ hq ha e1) q1)))
theorem itemsA_gd {o : St → Res} {g : List Nat → St → Res} (ho : ∀ s, Gd D (o s) s.nodes Any) (hg : ∀ a s, V a s.nodes → Gd D (g a s) s.nodes Any) (acc : List Nat) (s : St) (ha : V acc s.nodes) : Gd D (itemsL X o g acc s) s.nodes Any :=
 itemsL_gd (fun _ _ _ _ _ _ => trivial) (fun _ _ _ _ _ => trivial) ho (fun a s h _ => hg a s h) acc s ha trivial
theorem listW_gd {o : St → Res} {g : List Nat → St → Res} (ho : ∀ s, Gd D (o s) s.nodes (Wb D s.nodes.length)) (hg : ∀ a s, V a s.nodes → Gd D (g a s) s.nodes (Wa D s.nodes a)) (acc : List Nat) (s : St) (ha : V acc s.nodes) : Gd D (listL X o g acc s) s.nodes (Wa D s.nodes acc) :=
 Gd.wf fun hw => Gd.ite (Gd.okQ ha (by unfold Wa; omega)) (Gd.bind (ho s) fun k s1 _ e1 v1 q1 => by
  have hl := e1.len;have hq : wt s1.nodes (acc ++ k) ≤ wt s.nodes acc + D * (s1.nodes.length - s.nodes.length) := by
   rw [wt_app, wt_up hw ha e1];unfold Wb at q1;omega
  refine Gd.ite (Gd.okQ ((ha.up e1).app v1) hq) (Gd.skip (same_take X _ s1) fun _ s2 e2 => Gd.ite (Gd.fail _ _ _ _ _) ?_);have h3 := hg (acc ++ k) s2 (by rw [e2]; exact (ha.up e1).app v1);rw [e2] at h3;intro w v s' e;obtain ⟨a, b, c, d⟩ := h3 w v s' e;refine ⟨a, b, c, ?_⟩;have h4 := a.len;unfold Wa at d ⊢;have h5 : D * (s'.nodes.length - s.nodes.length) = D * (s1.nodes.length - s.nodes.length) + D * (s'.nodes.length - s1.nodes.length) := by rw [← Nat.mul_add]; congr 1; omega
  omega)
theorem ok34 {k : Int} {L : List Nd} {p m : Int} {t : List UInt8} (hk : k = 1 ∨ k = 2 ∨ k = 3 ∨ k = 4) : OkNd L L.length ⟨k, p, m, t, []⟩ :=
 ⟨V.nil _, fun e => (by rcases hk with rfl | rfl | rfl | rfl <;> rcases e with e | e | e <;> cases e), fun e => (by rcases hk with rfl | rfl | rfl | rfl <;> rcases e with e | e <;> cases e), fun e => (by rcases hk with rfl | rfl | rfl | rfl <;> cases e), fun e => (by rcases hk with rfl | rfl | rfl | rfl <;> cases e)⟩
theorem put34 {k p m : Int} {t : List UInt8} (hk : k = 1 ∨ k = 2 ∨ k = 3 ∨ k = 4) (s : St) (ht : t.length + 8 ≤ D) : Gd D (put ⟨k, p, m, t, []⟩ s) s.nodes (Wb D s.nodes.length) := Gd.putT _ (Nat.le_refl _) (ok34 hk) (by simp [wt_nil]) ht
include hT in
theorem pointer_gd (s : St) : Gd D (pointer X s) s.nodes (Wb D s.nodes.length) := Gd.skip (same_take X _ s) fun _ s1 e1 => e1 ▸ Gd.skip (same_name X s1) fun _ s2 e2 => e2 ▸ put34 (.inr (.inr (.inr rfl))) s2 (hT s1)
theorem ok7 {k : Int} {L : List Nd} {v : List Nat} {p m : Int} {t : List UInt8} (hk : k = 5 ∨ k = 7 ∨ k = 11) (hv : V v L) (hne : v ≠ []) : OkNd L L.length ⟨k, p, m, t, v⟩ :=
 ⟨hv, fun _ => hne, fun e => (by rcases hk with rfl | rfl | rfl <;> rcases e with e | e <;> cases e), fun e => (by rcases hk with rfl | rfl | rfl <;> cases e), fun e => (by rcases hk with rfl | rfl | rfl <;> cases e)⟩
theorem ok6 {k : Int} {L : List Nd} {v : List Nat} {p : Int} {m : Nat} {t : List UInt8} (hk : k = 6 ∨ k = 8) (hv : V v L) (hm : m ≤ v.length) : OkNd L L.length ⟨k, p, (m : Int), t, v⟩ :=
 ⟨hv, fun e => (by rcases hk with rfl | rfl <;> rcases e with e | e | e <;> cases e), fun _ => ⟨m, rfl, hm⟩, fun e => (by rcases hk with rfl | rfl <;> cases e), fun e => (by rcases hk with rfl | rfl <;> cases e)⟩
variable (h : Good D rec) (hO : Ones rec)
include h hD
include hO hT in
theorem named_gd (kind : Int) (hk : kind = 7 ∨ kind = 9) (s : St) : Gd D (named X rec kind s) s.nodes (if kind = 7 then Wb D s.nodes.length else Any) :=
 Gd.skip (same_name X s) fun _ s1 e1 => e1 ▸ Gd.bind (h .typ s1 trivial) fun k s2 e e2 v2 q2 => by
  obtain ⟨a, rfl⟩ := hO .typ rfl s1 k s2 e;rcases hk with rfl | rfl
  ·rw [if_pos rfl];exact Gd.putT _ e2.len (ok7 (.inr (.inl rfl)) v2 (by simp)) q2 (hT s)
  ·rw [if_neg (by decide)];exact Gd.put hD v2
omit hD in
theorem result_gd (kind : Int) (hk : kind = 6 ∨ kind = 8) (at_ n0 : Nat) (l : List Nat) (s : St) (fin : St → St) (hf : ∀ s, (fin s).nodes = s.nodes) (hl : V l s.nodes) (h0 : n0 ≤ s.nodes.length) (hw : wt s.nodes l ≤ D * (s.nodes.length - n0)) (h8 : 8 ≤ D) : Gd D (result X rec kind at_ l s fin) s.nodes (Wb D n0) :=
 Gd.wf fun wf => Gd.ite (Gd.bind (h .typ s trivial) fun k s1 _ e1 v1 q1 => by
  have hl1 := e1.len;have hx : wt s1.nodes (l ++ k) ≤ D * (s1.nodes.length - n0) := by
   rw [wt_app, wt_up wf hl e1];have q2 : wt s1.nodes k ≤ D * (s1.nodes.length - s.nodes.length) := q1;have h5 : D * (s1.nodes.length - n0) = D * (s.nodes.length - n0) + D * (s1.nodes.length - s.nodes.length) := by rw [← Nat.mul_add]; congr 1; omega
   omega
  have := Gd.putT (s := fin s1) (n := ⟨kind, (at_ : Int), (l.length : Int), [], l ++ k⟩) n0 (by rw [hf]; omega) (ok6 hk (by rw [hf]; exact (hl.up e1).app v1) (by simp)) (by rw [hf]; exact hx) h8
  rwa [hf] at this) (by
  have := Gd.putT (s := fin s) (n := ⟨kind, (at_ : Int), (l.length : Int), [], l⟩) n0 (by rw [hf]; exact h0) (ok6 hk (by rw [hf]; exact hl) (by simp)) (by rw [hf]; exact hw) h8
  rwa [hf] at this)
include hT in
theorem sig_gd (s : St) : Gd D (sig X rec s) s.nodes (Wb D s.nodes.length) := Gd.bind (list_gd (Q := Wa D s.nodes []) s (fun s1 e => by have := h (.params []) s1 (V.nil _); rw [e] at this ⊢; exact this)) fun l s1 _ e1 v1 q1 => result_gd h 8 (.inr rfl) _ _ l s1 id (fun _ => rfl) v1 e1.len (by simpa [Wa, wt_nil] using q1) (by have := hT s; omega)
include hO hT in
theorem typF_gd (s : St) : Gd D (typF X rec s) s.nodes (Wb D s.nodes.length) := by
 have h8 : 8 ≤ D := by have := hT s; omega
 refine Gd.ite (put34 (.inl rfl) (adv s) h8) (Gd.ite (put34 (.inr (.inl rfl)) (adv s) h8) (Gd.ite (pointer_gd hT s) (Gd.ite (Gd.skip (same_enter X _ s) fun _ s1 e1 => e1 ▸ Gd.bind (h .typ s1 trivial) fun k s2 e e2 v2 q2 => ?_) (Gd.ite (Gd.skip (same_enter X _ s) fun _ s1 e1 => e1 ▸ Gd.bind (list_gd (Q := Wa D s1.nodes []) s1 (fun s3 e => by have := h (.typs []) s3 (V.nil _); rw [e] at this ⊢; exact this)) fun l s2 _ e2 v2 q2 => result_gd h 6 (.inl rfl) _ _ l s2 down (fun _ => rfl) v2 e2.len (by simpa [Wa, wt_nil] using q2) h8) (Gd.skip (same_name X s) fun _ s1 e1 => e1 ▸ put34 (.inr (.inr (.inl rfl))) s1 (hT s))))));obtain ⟨a, rfl⟩ := hO .typ rfl s1 k s2 e;exact Gd.putT (s := down s2) _ e2.len (ok7 (.inl rfl) v2 (by simp)) q2 h8
theorem blockF_gd (s : St) : Gd D (blockF X rec s) s.nodes Any := Gd.bind (items_gd (fun s => h (.stmts []) s (V.nil _)) s) fun l s1 _ e1 v1 _ => Gd.put hD v1
theorem bracketed_gd (kind : Int) (hk : plainK kind = true) (at_ : Nat) (s : St) : Gd D (bracketed X rec kind at_ s) s.nodes Any :=
 Gd.skip (same_enter X _ s) fun _ s1 e1 => e1 ▸ Gd.bind (h (.expr 0) s1 trivial) fun e s2 _ e2 v2 _ => Gd.skip (same_leave X _ s2) fun _ s3 e3 => e3 ▸ Gd.put hD (by rw [e3]; exact v2) hk
theorem bodyF_gd (s : St) : Gd D (bodyF X rec s) s.nodes Any := Gd.skip (same_take X _ s) fun _ s1 e1 => e1 ▸ Gd.bind (h (.body []) s1 (V.nil _)) fun l s2 _ e2 v2 _ => Gd.put hD v2
theorem caseF_gd (s : St) : Gd D (caseF X rec s) s.nodes Any :=
 Gd.ite (Gd.bind (bodyF_gd hD h (adv s)) fun b s1 _ e1 v1 _ => Gd.put hD v1)
  (Gd.skip (same_take X _ s) fun _ s1 e1 => e1 ▸ Gd.ite (Gd.skip (same_take X _ (adv2 s1)) fun _ s2 e2 => (show s2.nodes = s1.nodes from e2) ▸ Gd.bind (h (.expr 0) s2 trivial) fun c s3 _ e3 v3 _ => Gd.bind (bodyF_gd hD h s3) fun b s4 _ e4 v4 _ => Gd.put hD ((v3.up e4).app v4))
   (Gd.ite (Gd.bind (h (.expr 0) (adv s1) trivial) fun c s3 _ e3 v3 _ => Gd.bind (bodyF_gd hD h s3) fun b s4 _ e4 v4 _ => Gd.put hD ((v3.up e4).app v4))
    (Gd.bind (h (.expr 0) s1 trivial) fun c s2 _ e2 v2 _ => Gd.skip (same_take X _ s2) fun _ s3 e3 => e3 ▸ Gd.bind (h (.expr 0) s3 trivial) fun v s4 _ e4 v4 _ => Gd.bind (bodyF_gd hD h s4) fun b s5 _ e5 v5 _ => Gd.put hD ((((V.up (A := s3.nodes) (by rw [e3]; exact v2) e4).app v4).up e5).app v5))))
theorem choice_gd (at_ : Nat) (s : St) : Gd D (choice X rec at_ s) s.nodes Any :=
 Gd.skip (same_enter X _ s) fun _ s1 e1 => e1 ▸ Gd.bind (h (.cases []) s1 (V.nil _)) fun l s2 _ e2 v2 _ => Gd.skip (same_leave X _ s2) fun _ s3 e3 => e3 ▸ Gd.put hD (by rw [e3]; exact v2)
theorem stmtF_gd (s : St) : Gd D (stmtF X rec s) s.nodes Any := by
 unfold stmtF;refine Gd.ite (Gd.bind (h (.expr 0) (adv s) trivial) fun _ s1 _ e1 v1 _ => Gd.put hD v1) (Gd.ite (bracketed_gd hD h _ rfl _ (adv s)) (Gd.ite (bracketed_gd hD h _ rfl _ (adv s)) (Gd.ite (bracketed_gd hD h _ rfl _ (adv s)) (Gd.ite (h .branch s trivial) (Gd.ite (Gd.bind (h (.expr 0) (adv s) trivial) fun _ s1 _ e1 v1 _ => Gd.bind (h .block s1 trivial) fun _ s2 _ e2 v2 _ => Gd.put hD ((v1.up e2).app v2)) (Gd.ite (Gd.ite (Gd.put hD (s := adv s) (V.nil _)) (Gd.bind (h (.expr 0) (adv s) trivial) fun _ s1 _ e1 v1 _ => Gd.put hD v1)) (Gd.ite (Gd.put hD (s := adv s) (V.nil _)) (Gd.ite (choice_gd hD h _ (adv s)) (Gd.ite (Gd.bind (h (.expr 0) (adv2 s) trivial) fun _ s1 _ e1 v1 _ => Gd.put hD v1) (Gd.bind (h (.expr 0) s trivial) fun _ s1 _ e1 v1 _ => ?_))))))))));exact Gd.ite (Gd.bind (h (.expr 0) (adv s1) trivial) fun _ s2 _ e2 v2 _ => Gd.put hD ((V.up (A := s1.nodes) v1 e2).app v2)) (Gd.ite (Gd.bind (h (.expr 0) (adv s1) trivial) fun _ s2 _ e2 v2 _ => Gd.put hD ((V.up (A := s1.nodes) v1 e2).app v2)) (Gd.put hD v1))
theorem branchF_gd (s : St) : Gd D (branchF X rec s) s.nodes Any :=
 Gd.skip (same_take X _ s) fun _ s1 e1 => e1 ▸ Gd.bind (h (.expr 0) s1 trivial) fun c s2 _ e2 v2 _ => Gd.bind (h .block s2 trivial) fun b s3 _ e3 v3 _ =>
  Gd.ite (Gd.ite (Gd.skip (same_enter X _ s3) fun _ s4 e4 => e4 ▸ Gd.bind (h .branch s4 trivial) fun e s5 _ e5 v5 _ => Gd.put hD (s := down s5) ((V.up (A := s4.nodes) (by rw [e4]; exact (v2.up e3).app v3) e5).app v5)) (Gd.bind (h .block (adv s3) trivial) fun e s5 _ e5 v5 _ => Gd.put hD ((V.up (A := s3.nodes) ((v2.up e3).app v3) e5).app v5))) (Gd.put hD ((v2.up e3).app v3))
theorem climbF_gd (k a : Nat) (s : St) (ha : a < s.nodes.length) : Gd D (climbF X rec k a s) s.nodes Any :=
 Gd.ite (Gd.bind (h _ (adv s) trivial) fun b s1 _ e1 v1 _ => Gd.bind (Gd.put hD (V.cons (Nat.lt_of_lt_of_le ha (Ext.len e1)) v1)) fun e s2 he e2 v2 _ => by
  obtain ⟨x, rfl⟩ := One.put _ _ _ _ he;exact h _ s2 (v2 x (by simp))) (Gd.ok (V.cons ha (V.nil _)))
theorem made_gd (at_ : Nat) (s : St) : Gd D (made X rec at_ s) s.nodes Any :=
 Gd.skip (same_enter X _ s) fun _ s1 e1 => e1 ▸ Gd.skip (same_enter X _ s1) fun _ s2 e2 => e2 ▸ Gd.bind (h .typ s2 trivial) fun k s3 _ e3 v3 _ =>
  Gd.ite (Gd.ite (Gd.skip (L := s3.nodes) (same_leave X _ _) fun _ s5 e5 => e5 ▸ Gd.put hD (by rw [e5]; exact v3)) (Gd.fail _ _ _ _ _)) (Gd.skip (L := s3.nodes) (same_leave X _ _) fun _ s5 e5 => e5 ▸ Gd.put hD (by rw [e5]; exact v3))
include hT in
theorem firstF_gd (s : St) : Gd D (firstF X rec s) s.nodes Any :=
 Gd.ite (Gd.put hD (s := adv s) (V.nil _)) (Gd.ite (Gd.put hD (s := adv s) (V.nil _)) (Gd.ite (Gd.put hD (s := adv s) (V.nil _)) (Gd.ite (Gd.put hD (s := adv s) (V.nil _)) (Gd.ite (Gd.bind (sig_gd hD hT h (adv s)) fun g s1 _ e1 v1 _ => Gd.bind (h .block s1 trivial) fun b s2 _ e2 v2 _ => Gd.put hD ((v1.up e2).app v2))
  (Gd.ite (Gd.skip (L := s.nodes) (same_enter X _ (adv s)) fun _ s1 e1 => e1 ▸ Gd.skip (same_name X s1) fun _ s2 e2 => e2 ▸ Gd.skip (same_leave X _ s2) fun _ s3 e3 => e3 ▸ Gd.put hD (V.nil _)) (Gd.ite (made_gd hD h _ (adv s))
   (Gd.ite (Gd.skip (same_enter X _ s) fun _ s1 e1 => e1 ▸ Gd.bind (h (.expr 0) s1 trivial) fun e s2 _ e2 v2 _ => Gd.skip (same_leave X _ s2) fun _ s3 e3 => e3 ▸ Gd.ok (by rw [e3]; exact v2)) (Gd.skip (same_name X s) fun _ s1 e1 => e1 ▸ Gd.put hD (V.nil _)))))))))
theorem prefixed_gd (x : List UInt8) (kind : Int) (hk : plainK kind = true) (s : St) : Gd D (prefixed X rec x kind s) s.nodes Any := Gd.skip (same_enter X _ s) fun _ s1 e1 => e1 ▸ Gd.bind (h .unary s1 trivial) fun _e s2 _ _e2 v2 _ => Gd.put hD (s := down s2) v2 hk
include hO hT in
theorem unaryF_gd (s : St) : Gd D (unaryF X rec s) s.nodes Any := Gd.ite (prefixed_gd hD h _ _ rfl s) (Gd.ite (prefixed_gd hD h _ _ rfl s) (Gd.ite (prefixed_gd hD h _ _ rfl s) (Gd.bind (firstF_gd hD hT h s) fun e s1 he e1 v1 _ => by
 obtain ⟨a, rfl⟩ := firstF_one hO _ _ _ he;exact h (.part a) s1 (v1 a (by simp)))))
theorem partF_gd (e : Nat) (s : St) (he : e < s.nodes.length) : Gd D (partF X rec e s) s.nodes Any :=
 Gd.ite (Gd.bind (list_gd s (fun s1 _ => h (.exprs []) s1 (V.nil _))) fun l s1 _ e1 v1 _ => Gd.bind (Gd.put hD (V.cons (Nat.lt_of_lt_of_le he (Ext.len e1)) v1)) fun e1 s2 h2 _ v2 _ => by
   obtain ⟨x, rfl⟩ := One.put _ _ _ _ h2;exact h (.part x) s2 (v2 x (by simp)))
  (Gd.ite (Gd.ite (Gd.skip (L := s.nodes) (same_enter X _ (adv s)) fun _ s1 e1 => e1 ▸ Gd.bind (h .typ s1 trivial) fun t s2 _ e2 v2 _ => Gd.skip (same_leave X _ s2) fun _ s3 e3 => e3 ▸ Gd.bind (Gd.put hD (V.cons (by rw [e3]; exact Nat.lt_of_lt_of_le (by rw [e1]; exact he) (Ext.len e2)) (by rw [e3]; exact v2))) fun e1 s4 h4 _ v4 _ => by
    obtain ⟨x, rfl⟩ := One.put _ _ _ _ h4;exact h (.part x) s4 (v4 x (by simp)))
   (Gd.skip (L := s.nodes) (same_name X (adv s)) fun _ s1 e1 => e1 ▸ Gd.bind (Gd.put hD (V.cons (by rw [e1]; exact he) (V.nil _))) fun e1 s2 h2 _ v2 _ => by
    obtain ⟨x, rfl⟩ := One.put _ _ _ _ h2;exact h (.part x) s2 (v2 x (by simp)))) (Gd.ok (V.cons he (V.nil _))))
include hT in
theorem msig_gd (s : St) : Gd D (msig X rec s) s.nodes Kd := Gd.skip (same_name X s) fun _ s1 e1 => e1 ▸ Gd.bind (sig_gd hD hT h s1) fun g s2 hg e2 v2 _ => by
 obtain ⟨a, rfl⟩ := sig_one _ _ _ hg;exact Gd.putK (Gd.putN hD (ok7 (.inr (.inr rfl)) v2 (by simp)) (by show ¬ (1 ≤ (11 : Int) ∧ (11 : Int) ≤ 8); decide)) (by simp)
omit h hD in
theorem ok12 {L : List Nd} {v : List Nat} {p m : Int} {t : List UInt8} (hv : V v L) (hk : Kd v L) : OkNd L L.length ⟨12, p, m, t, v⟩ :=
 ⟨hv, fun e => (by rcases e with e | e | e <;> cases e), fun e => (by rcases e with e | e <;> cases e), fun e => (by cases e), fun _ => hk⟩
theorem typed_gd (at_ : Nat) (s : St) : Gd D (typed X rec at_ s) s.nodes Any :=
 Gd.skip (same_name X s) fun _ s1 e1 => e1 ▸ Gd.ite (Gd.bind (items_gd (fun s => h (.fields []) s (V.nil _)) (adv s1)) fun l s2 _ e2 v2 _ => Gd.put hD v2) (Gd.skip (same_take X _ s1) fun _ s2 e2 => e2 ▸ Gd.bind (items_gd (fun s => h (.msigs []) s ⟨V.nil _, fun j hj => by cases hj⟩) s2) fun l s3 _ e3 v3 q3 => (Gd.putN hD (ok12 v3 q3) (by show ¬ (1 ≤ (12 : Int) ∧ (12 : Int) ≤ 8); decide)).any)
omit h hD in
theorem put_kind {n : Nd} {s s' : St} {a : Nat} {L : List Nd} (h : put n s = .ok [a] s') (e : Ext s'.nodes L) : (L.getD a noNd).kind = n.kind := by
 unfold put at h
 split at h
 ·cases h
  obtain ⟨E, rfl⟩ := e;rw [getD_app (by simp), getD_new]
 ·cases h
omit h hD in
theorem ok14 {L : List Nd} {a g b : Nat} {p m : Int} {t : List UInt8} (hv : V [a, g, b] L) (hk : (L.getD a noNd).kids ≠ [] ∧ (L.getD a noNd).kind = 7) : OkNd L L.length ⟨14, p, m, t, [a, g, b]⟩ :=
 ⟨hv, fun e => (by rcases e with e | e | e <;> cases e), fun e => (by rcases e with e | e <;> cases e), fun _ => ⟨a, g, [b], rfl, hk⟩, fun e => (by cases e)⟩
include hO hT in
theorem method_gd (at_ : Nat) (s : St) : Gd D (method X rec at_ s) s.nodes Any :=
 Gd.skip (same_enter X _ s) fun _ s1 e1 => e1 ▸ Gd.skip (same_name X s1) fun _ s2 e2 => e2 ▸ Gd.bind (pointer_gd hT s2) fun p s3 hp e3 v3 q3 => Gd.skip (same_leave X _ s3) fun _ s4 e4 => e4 ▸ by
  obtain ⟨x, rfl⟩ := pointer_one _ _ _ hp;refine Gd.bind (Gd.putK (Gd.putT s2.nodes.length (by rw [e4]; exact e3.len) (ok7 (.inr (.inl rfl)) (by rw [e4]; exact v3) (by simp)) (by rw [e4]; exact q3) (hT s1)) (by simp)) fun self s5 h5 _ v5 q5 => Gd.skip (same_name X s5) fun _ s6 e6 => e6 ▸ Gd.bind (sig_gd hD hT h s6) fun g s7 hg e7 v7 _ => Gd.bind (h .block s7 trivial) fun b s8 hb e8 v8 _ => ?_
  obtain ⟨a, rfl⟩ := One.put _ _ _ _ h5;obtain ⟨g, rfl⟩ := sig_one _ _ _ hg;obtain ⟨b, rfl⟩ := hO .block rfl _ _ _ hb;have ee := e7.trans e8;rw [e6] at ee;exact (Gd.putN hD (ok14 (V.cons (v5.up ee a (by simp)) (V.cons (v7.up e8 g (by simp)) v8)) ⟨(Kd.up q5 v5 ee) a (by simp), put_kind h5 ee⟩) (by show ¬ (1 ≤ (14 : Int) ∧ (14 : Int) ≤ 8); decide)).any
include hO hT in
theorem declF_gd (s : St) : Gd D (declF X rec s) s.nodes Any :=
 Gd.ite (typed_gd hD h _ (adv s)) (Gd.skip (same_take X _ s) fun _ s1 e1 => e1 ▸ Gd.ite (method_gd hD hT h hO _ s1) (Gd.skip (same_name X s1) fun _ s2 e2 => e2 ▸ Gd.bind (sig_gd hD hT h s2) fun g s3 _ e3 v3 _ => Gd.bind (h .block s3 trivial) fun b s4 _ e4 v4 _ => Gd.put hD ((v3.up e4).app v4)))
include hO hT in
theorem bodyR_gd (f : Fn) (s : St) (hp : Pre f s.nodes) : Gd D (bodyR X rec f s) s.nodes (Post D f s.nodes) := by
 cases f with
 | typ => exact typF_gd hD hT h hO s
 | block => exact blockF_gd hD h s
 | stmt => exact stmtF_gd hD h s
 | branch => exact branchF_gd hD h s
 | expr k =>
  refine Gd.bind (h .unary s trivial) fun e s1 he e1 v1 _ => ?_
  obtain ⟨a, rfl⟩ := hO .unary rfl _ _ _ he;exact h (.climb k a) s1 (v1 a (by simp))
 | climb k a => exact climbF_gd hD h k a s hp
 | unary => exact unaryF_gd hD hT h hO s
 | part e => exact partF_gd hD h e s hp
 | typs acc => exact listW_gd (fun s => h .typ s trivial) (fun a s ha => h (.typs a) s ha) acc s hp
 | params acc => exact listW_gd (fun s => by have := named_gd hD hT h hO 7 (.inl rfl) s; rwa [if_pos rfl] at this) (fun a s ha => h (.params a) s ha) acc s hp
 | exprs acc => exact listL_gd (fun s => h (.expr 0) s trivial) (fun a s ha => h (.exprs a) s ha) acc s hp
 | stmts acc => exact itemsA_gd (fun s => h .stmt s trivial) (fun a s ha => h (.stmts a) s ha) acc s hp
 | body acc => exact Gd.ite (Gd.ok hp) (Gd.bind (h .stmt s trivial) fun k s1 _ e1 v1 _ => Gd.ite (Gd.ok ((V.up hp e1).app v1)) (Gd.skip (same_take X _ s1) fun _ s2 e2 => e2 ▸ h (.body _) s2 (by rw [e2]; exact (V.up hp e1).app v1)))
 | cases acc => exact Gd.ite (Gd.ok hp) (Gd.bind (caseF_gd hD h s) fun k s1 _ e1 v1 _ => h (.cases _) s1 ((V.up hp e1).app v1))
 | fields acc => exact itemsA_gd (fun s => by have := named_gd hD hT h hO 9 (.inr rfl) s; rwa [if_neg (by decide)] at this) (fun a s ha => h (.fields a) s ha) acc s hp
 | msigs acc => exact itemsL_gd (Q := Kd) (fun u A B q v e => Kd.up q v e) (fun u v A q r => Kd.app q r) (fun s => msig_gd hD hT h s) (fun a s ha q => h (.msigs a) s ⟨ha, q⟩) acc s hp.1 hp.2
 | decls acc => exact Gd.ite (Gd.bind (declF_gd hD hT h hO s) fun k s1 _ e1 v1 _ => Gd.ite (Gd.skip (same_take X _ s1) fun _ s2 e2 => e2 ▸ h (.decls _) s2 (by rw [e2]; exact (V.up hp e1).app v1)) (h (.decls _) s1 ((V.up hp e1).app v1))) (Gd.ok hp)
end
end
theorem run_good {X : Src} {D : Nat} (hD : 1 ≤ D) (hT : ∀ s, (now X s).text.length + 8 ≤ D) (n : Nat) : Good D (run X n) := by
 induction n with
 | zero => intro f s _ _ v s' h; cases h
 | succ n ih => exact fun f s hp => bodyR_gd hD hT ih (run_ones X n) f s hp
/-- ALL NODES THAT ARE READ STAND WELL. -/
theorem program_wf {X : Src} {D n : Nat} (hD : 1 ≤ D) (hT : ∀ s, (now X s).text.length + 8 ≤ D) {v : List Nat} {s : St} (h : program X n = .ok v s) : In D s.nodes :=
 ((Gd.bind (run_good hD hT n (.decls []) start (V.nil _)) fun l s1 _ _ v1 _ => (Gd.put hD (n := ⟨15, (now X start).pos, 0, [], l⟩) v1)) ⟨Wf.nil, fun k hk => by cases hk⟩ v s h).2.1
end Go.Proofs.YtjickecdkmljpaaGreatDoor.Ps
namespace Go.Proofs.YtjickecdkmljpaaGreatDoor.Ps
open Lx (Tok)

def TkOk (t : Tok) : Prop := t.text.length ≤ 6000 ∧ (t.kind = 1 → t.text ≠ [])
theorem cut_len (s : List UInt8) (i j : Nat) : (Lx.cut s i j).length ≤ s.length := by unfold Lx.cut; simp; omega
theorem step_ok {s : List UInt8} {i to : Nat} {t : Tok} (hs : s.length ≤ 6000) (hi : i < s.length) (h : Lx.stepAt s i = .tok t to) : TkOk t := by
 have hc := fun j => cut_len s i j
 unfold Lx.stepAt at h
 split at h
 ·cases h
 split at h
 ·split at h <;> cases h
 split at h
 ·rename_i hl
  cases h
  refine ⟨by have := hc (Lx.spanEnd Lx.wordC s i); dsimp only; omega, fun _ e => ?_⟩;have h1 := Lx.spanEnd_gt (p := Lx.wordC) hi (by unfold Lx.wordC; rw [hl]; rfl);have h2 := congrArg List.length e;unfold Lx.cut at h2;simp at h2;omega
 split at h
 ·split at h
  ·cases h
  ·cases h
   exact ⟨by have := hc (Lx.spanEnd Lx.digit s i); dsimp only; omega, fun e => by cases e⟩
 ·split at h
  ·cases h
  ·rename_i g hg
   cases h
   have hm := List.mem_of_find?_eq_some hg;have : ∀ g ∈ Lx.signs, g.length ≤ 2 := by decide
   exact ⟨by have := this g hm; dsimp only; omega, fun e => by cases e⟩
theorem close_ok {acc : List Tok} (h : ∀ t ∈ acc, TkOk t) (line : Bool) (i : Nat) : ∀ t ∈ Lx.close acc line i, TkOk t := by
 have hs : ∀ t ∈ acc ++ [Lx.semi i], TkOk t := fun t ht => (List.mem_append.1 ht).elim (h t) fun e => by
  rw [List.mem_singleton] at e;subst e;exact ⟨by show 1 ≤ 6000; omega, fun e => by cases e⟩
 unfold Lx.close
 split
 ·split
  ·split
   ·exact hs
   ·exact h
  ·exact h
 ·exact h
theorem go_ok {s : List UInt8} (hs : s.length ≤ 6000) (m : Nat) : ∀ (i : Nat) (line : Bool) (acc l : List Tok), s.length - i ≤ m → (∀ t ∈ acc, TkOk t) → Lx.go s i line acc = .ok l → ∀ t ∈ l, TkOk t := by
 induction m with
 | zero =>
  intro i line acc l hm ha h;rw [Lx.go_end (by omega)] at h
  cases h
  exact close_ok ha _ _
 | succ m ih =>
  intro i line acc l hm ha h;rw [Lx.go] at h
  split at h
  ·rename_i hi
   split at h
   ·exact ih _ _ _ _ (by omega) (close_ok ha _ _) h
   ·split at h
    ·cases h
    ·exact ih _ _ _ _ (by omega) ha h
    ·rename_i hst
     exact ih _ _ _ _ (by omega) (fun t ht => (List.mem_append.1 ht).elim (ha t) fun e => by
      rw [List.mem_singleton] at e;subst e;exact step_ok hs hi hst) h
  ·cases h
   exact close_ok ha _ _
theorem scan_ok {s : List UInt8} {l : List Tok} (h : Lx.scan s = .ok l) : ∀ t ∈ l, TkOk t := by
 unfold Lx.scan at h
 split at h
 ·cases h
 ·exact go_ok (by omega) _ 0 false [] l (Nat.le_refl _) (fun t ht => by cases ht) h

/-! ### Nodes -/
/-- A node's text is short, its kids are few, an interface is called something. -/
def NdOk (K : Nat) (n : Nd) : Prop := n.text.length ≤ 6000 ∧ n.kids.length ≤ K ∧ (n.kind = 12 → n.text ≠ [])
section
variable {K : Nat} {X : Src}
variable (K) in
def Bd (m : Nat) (r : Res) (L : List Nd) : Prop := (∀ n ∈ L, NdOk K n) → ∀ v s', r = .ok v s' → (∀ n ∈ s'.nodes, NdOk K n) ∧ v.length ≤ m
theorem Bd.bind {m m2 : Nat} {r : Res} {L : List Nd} {f : List Nat → St → Res} (h : Bd K m r L) (hf : ∀ v s1, r = .ok v s1 → v.length ≤ m → Bd K m2 (f v s1) s1.nodes) : Bd K m2 (r.bind f) L := by
 intro w v s' he
 cases r with
 | out => cases he
 | bad c p => cases he
 | ok v1 s1 =>
  obtain ⟨a, b⟩ := h w v1 s1 rfl;exact hf v1 s1 rfl b a v s' he
theorem Bd.ite {m : Nat} {c : Prop} [Decidable c] {a b : Res} {L : List Nd} (h1 : c → Bd K m a L) (h2 : Bd K m b L) : Bd K m (if c then a else b) L := by
 split
 ·exact h1 (by assumption)
 ·exact h2
theorem Bd.fail (m : Nat) (c : Int) (s : St) (L : List Nd) : Bd K m (Ps.fail X c s) L := fun w v s' e => by cases e
theorem Bd.ok {m : Nat} {v : List Nat} {s : St} (h : v.length ≤ m := by first | (simp; done) | (simp; omega)) : Bd K m (.ok v s) s.nodes := fun w v' s' e => by cases e; exact ⟨w, h⟩
theorem Bd.put {n : Nd} {s : St} (h : NdOk K n) : Bd K 1 (Ps.put n s) s.nodes := by
 intro w v s' e;unfold Ps.put at e
 split at e
 ·cases e
  exact ⟨fun x hx => (List.mem_append.1 hx).elim (w x) fun e => by rw [List.mem_singleton] at e; subst e; exact h, Nat.le_refl _⟩
 ·cases e
theorem Bd.same {m : Nat} {r : Res} {L : List Nd} (h : Same r L) (hl : ∀ v s', r = .ok v s' → v.length ≤ m) : Bd K m r L := fun w v s' e => ⟨by rw [h v s' e]; exact w, hl v s' e⟩
theorem take_le {x : List UInt8} {s : St} {v : List Nat} {s' : St} (e : take X x s = .ok v s') : v.length ≤ 1 := by
 unfold take fail at e
 split at e <;> cases e
 exact Nat.le_refl _
theorem Bd.take (x : List UInt8) (s : St) : Bd K 1 (Ps.take X x s) s.nodes := Bd.same (same_take X x s) fun _ _ e => take_le e
theorem Bd.name (s : St) : Bd K 1 (Ps.name X s) s.nodes := Bd.same (same_name X s) fun v s' e => by
 unfold Ps.name Ps.fail at e
 split at e <;> cases e
 exact Nat.zero_le _
theorem Bd.enter (x : List UInt8) (s : St) : Bd K 1 (Ps.enter X x s) s.nodes := Bd.same (same_enter X x s) fun v s' e => by
 unfold Ps.enter Ps.fail at e
 split at e
 ·cases e
 ·cases ht : Ps.take X x s with
  | out => rw [ht] at e; cases e
  | bad c p => rw [ht] at e; cases e
  | ok v1 s1 => rw [ht] at e; cases e; exact take_le ht
theorem Bd.leave (x : List UInt8) (s : St) : Bd K 1 (Ps.leave X x s) s.nodes := Bd.same (same_leave X x s) fun v s' e => by
 unfold Ps.leave at e
 cases ht : Ps.take X x s with
 | out => rw [ht] at e; cases e
 | bad c p => rw [ht] at e; cases e
 | ok v1 s1 => rw [ht] at e; cases e; exact Nat.zero_le _
theorem Bd.to {m m2 : Nat} {r : Res} {L : List Nd} (h : Bd K m r L) (hm : m ≤ m2) : Bd K m2 r L := fun w v s' e => ⟨(h w v s' e).1, Nat.le_trans (h w v s' e).2 hm⟩
def capL : Fn → Nat → Nat
 | .typs acc, n => acc.length + n
 | .params acc, n => acc.length + n
 | .exprs acc, n => acc.length + n
 | .stmts acc, n => acc.length + n
 | .body acc, n => acc.length + n
 | .cases acc, n => acc.length + n
 | .fields acc, n => acc.length + n
 | .msigs acc, n => acc.length + n
 | .decls acc, n => acc.length + n
 | _, _ => 1
/-- What is known of the tokens. -/
def TX (X : Src) : Prop := ∀ s, (now X s).text.length ≤ 6000 ∧ (isName X s = true → (now X s).text ≠ [])
variable {rec : Rec} {n : Nat} (hT : TX X) (hn : n + 3 ≤ K) (h : ∀ f s, Bd K (capL f n) (rec f s) s.nodes)
theorem nd0 {kind p m : Int} {l : List Nat} (hk : kind ≠ 12) (hl : l.length ≤ K) : NdOk K ⟨kind, p, m, [], l⟩ := ⟨Nat.zero_le _, hl, fun e => absurd e hk⟩
include hT in
theorem ndT {kind p m : Int} {l : List Nat} {s : St} (hk : kind ≠ 12) (hl : l.length ≤ K) : NdOk K ⟨kind, p, m, (now X s).text, l⟩ := ⟨(hT s).1, hl, fun e => absurd e hk⟩
include hT in
theorem pointer_bd (s : St) : Bd K 1 (pointer X s) s.nodes := Bd.bind (Bd.take _ _) fun _ s1 _ _ => Bd.bind (Bd.name s1) fun _ s2 _ _ => Bd.put (ndT hT (by decide) (Nat.zero_le _))
include h
theorem hbT (s : St) : Bd K 1 (rec .typ s) s.nodes := h .typ s
theorem hbE (k : Nat) (s : St) : Bd K 1 (rec (.expr k) s) s.nodes := h (.expr k) s
theorem hbB (s : St) : Bd K 1 (rec .block s) s.nodes := h .block s
theorem hbS (s : St) : Bd K 1 (rec .stmt s) s.nodes := h .stmt s
omit h in
theorem list_bd {m : Nat} {l : St → Res} (hl : ∀ s, Bd K m (l s) s.nodes) (s : St) : Bd K m (list X l s) s.nodes := Bd.bind (Bd.enter _ s) fun _ s1 _ _ => Bd.bind (hl s1) fun _v s2 _ hv => Bd.bind (Bd.leave _ s2) fun _ _ _ _ => Bd.ok hv
omit h in
theorem items_bd {m : Nat} {l : St → Res} (hl : ∀ s, Bd K m (l s) s.nodes) (s : St) : Bd K m (items X l s) s.nodes := Bd.bind (Bd.enter _ s) fun _ s1 _ _ => Bd.bind (hl s1) fun _v s2 _ hv => Bd.bind (Bd.leave _ s2) fun _ _ _ _ => Bd.ok hv
omit h in
theorem listL_bd {o : St → Res} {g : List Nat → St → Res} (ho : ∀ s, Bd K 1 (o s) s.nodes) (hg : ∀ a s, Bd K (a.length + n) (g a s) s.nodes) (acc : List Nat) (s : St) : Bd K (acc.length + (n + 1)) (listL X o g acc s) s.nodes :=
 Bd.ite (fun _ => Bd.ok) (Bd.bind (ho s) fun k s1 _ hk => Bd.ite (fun _ => Bd.ok) (Bd.bind (Bd.take _ s1) fun _ s2 _ _ => Bd.ite (fun _ => Bd.fail _ _ _ _) ((hg _ s2).to (by simp; omega))))
omit h in
theorem itemsL_bd {o : St → Res} {g : List Nat → St → Res} (ho : ∀ s, Bd K 1 (o s) s.nodes) (hg : ∀ a s, Bd K (a.length + n) (g a s) s.nodes) (acc : List Nat) (s : St) : Bd K (acc.length + (n + 1)) (itemsL X o g acc s) s.nodes :=
 Bd.ite (fun _ => Bd.ok) (Bd.bind (ho s) fun k s1 _ hk => Bd.ite (fun _ => Bd.ok) (Bd.bind (Bd.take _ s1) fun _ s2 _ _ => (hg _ s2).to (by simp; omega)))
include hn
theorem result_bd (kind : Int) (hk : kind ≠ 12) (at_ : Nat) (l : List Nat) (hl : l.length ≤ n) (s : St) (fin : St → St) (hf : ∀ s', (fin s').nodes = s'.nodes) : Bd K 1 (result X rec kind at_ l s fin) s.nodes :=
 Bd.ite (fun _ => Bd.bind (hbT h s) fun k s1 _ hk1 => by rw [← hf s1]; exact Bd.put (nd0 hk (by simp; omega))) (by rw [← hf s]; exact Bd.put (nd0 hk (by omega)))
theorem sig_bd (s : St) : Bd K 1 (sig X rec s) s.nodes := Bd.bind (list_bd (fun s => h (.params []) s) s) fun l s1 _ hl => result_bd hn h 8 (by decide) _ l (by simpa [capL] using hl) s1 id fun _ => rfl
include hT
theorem named_bd (kind : Int) (hk : kind ≠ 12) (s : St) : Bd K 1 (named X rec kind s) s.nodes := Bd.bind (Bd.name s) fun _ s1 _ _ => Bd.bind (hbT h s1) fun k s2 _ hk1 => Bd.put (ndT hT hk (by omega))
theorem typF_bd (s : St) : Bd K 1 (typF X rec s) s.nodes :=
 Bd.ite (fun _ => Bd.put (s := adv s) (nd0 (by decide) (Nat.zero_le _))) (Bd.ite (fun _ => Bd.put (s := adv s) (nd0 (by decide) (Nat.zero_le _))) (Bd.ite (fun _ => pointer_bd hT s) (Bd.ite (fun _ => Bd.bind (Bd.enter _ s) fun _ s1 _ _ => Bd.bind (hbT h s1) fun k s2 _ hk => Bd.put (s := down s2) (nd0 (by decide) (by omega)))
  (Bd.ite (fun _ => Bd.bind (Bd.enter _ s) fun _ s1 _ _ => Bd.bind (list_bd (fun s => h (.typs []) s) s1) fun l s2 _ hl => result_bd hn h 6 (by decide) _ l (by simpa [capL] using hl) s2 down fun _ => rfl) (Bd.bind (Bd.name s) fun _ s1 _ _ => Bd.put (ndT hT (by decide) (Nat.zero_le _)))))))
omit hT
theorem blockF_bd (s : St) : Bd K 1 (blockF X rec s) s.nodes := Bd.bind (items_bd (fun s => h (.stmts []) s) s) fun l s1 _ hl => Bd.put (nd0 (by decide) (by simp [capL] at hl; omega))
theorem bracketed_bd (kind : Int) (hk : kind ≠ 12) (at_ : Nat) (s : St) : Bd K 1 (bracketed X rec kind at_ s) s.nodes := Bd.bind (Bd.enter _ s) fun _ s1 _ _ => Bd.bind (hbE h 0 s1) fun e s2 _ he => Bd.bind (Bd.leave _ s2) fun _ s3 _ _ => Bd.put (nd0 hk (by omega))
theorem bodyF_bd (s : St) : Bd K 1 (bodyF X rec s) s.nodes := Bd.bind (Bd.take _ s) fun _ s1 _ _ => Bd.bind (h (.body []) s1) fun l s2 _ hl => Bd.put (nd0 (by decide) (by simp [capL] at hl; omega))
include hT
theorem caseF_bd (s : St) : Bd K 1 (caseF X rec s) s.nodes :=
 Bd.ite (fun _ => Bd.bind (bodyF_bd hn h (adv s)) fun b s1 _ hb => Bd.put (nd0 (by decide) (by omega)))
  (Bd.bind (Bd.take _ s) fun _ s1 _ _ => Bd.ite (fun _ => Bd.bind (Bd.take _ (adv2 s1)) fun _ s2 _ _ => Bd.bind (hbE h 0 s2) fun c s3 _ hc => Bd.bind (bodyF_bd hn h s3) fun b s4 _ hb => Bd.put (ndT hT (by decide) (by simp; omega)))
   (Bd.ite (fun _ => Bd.bind (hbE h 0 (adv s1)) fun c s3 _ hc => Bd.bind (bodyF_bd hn h s3) fun b s4 _ hb => Bd.put (nd0 (by decide) (by simp; omega)))
    (Bd.bind (hbE h 0 s1) fun c s2 _ hc => Bd.bind (Bd.take _ s2) fun _ s3 _ _ => Bd.bind (hbE h 0 s3) fun v s4 _ hv => Bd.bind (bodyF_bd hn h s4) fun b s5 _ hb => Bd.put (nd0 (by decide) (by simp; omega)))))
omit hT
theorem choice_bd (at_ : Nat) (s : St) : Bd K 1 (choice X rec at_ s) s.nodes := Bd.bind (Bd.enter _ s) fun _ s1 _ _ => Bd.bind (h (.cases []) s1) fun l s2 _ hl => Bd.bind (Bd.leave _ s2) fun _ s3 _ _ => Bd.put (nd0 (by decide) (by simp [capL] at hl; omega))
include hT
theorem stmtF_bd (s : St) : Bd K 1 (stmtF X rec s) s.nodes := by
 unfold stmtF;refine Bd.ite (fun _ => Bd.bind (hbE h 0 (adv s)) fun e s1 _ he => Bd.put (nd0 (by decide) (by omega))) (Bd.ite (fun _ => bracketed_bd hn h _ (by decide) _ (adv s)) (Bd.ite (fun _ => bracketed_bd hn h _ (by decide) _ (adv s)) (Bd.ite (fun _ => bracketed_bd hn h _ (by decide) _ (adv s)) (Bd.ite (fun _ => h .branch s) (Bd.ite (fun _ => Bd.bind (hbE h 0 (adv s)) fun c s1 _ hc => Bd.bind (hbB h s1) fun b s2 _ hb => Bd.put (nd0 (by decide) (by simp; omega)))
  (Bd.ite (fun _ => Bd.ite (fun _ => Bd.put (s := adv s) (nd0 (by decide) (Nat.zero_le _))) (Bd.bind (hbE h 0 (adv s)) fun e s1 _ he => Bd.put (nd0 (by decide) (by omega)))) (Bd.ite (fun _ => Bd.put (s := adv s) (nd0 (by decide) (Nat.zero_le _))) (Bd.ite (fun _ => choice_bd hn h _ (adv s)) (Bd.ite (fun _ => Bd.bind (hbE h 0 (adv2 s)) fun e s1 _ he => Bd.put (ndT hT (by decide) (by omega))) (Bd.bind (hbE h 0 s) fun a s1 _ ha => ?_))))))))))
 exact Bd.ite (fun _ => Bd.bind (hbE h 0 (adv s1)) fun b s2 _ hb => Bd.put (nd0 (by decide) (by simp; omega))) (Bd.ite (fun _ => Bd.bind (hbE h 0 (adv s1)) fun b s2 _ hb => Bd.put (nd0 (by decide) (by simp; omega))) (Bd.put (nd0 (by decide) (by omega))))
omit hT
theorem branchF_bd (s : St) : Bd K 1 (branchF X rec s) s.nodes :=
 Bd.bind (Bd.take _ s) fun _ s1 _ _ => Bd.bind (hbE h 0 s1) fun c s2 _ hc => Bd.bind (hbB h s2) fun b s3 _ hb =>
  Bd.ite (fun _ => Bd.ite (fun _ => Bd.bind (Bd.enter _ s3) fun _ s4 _ _ => Bd.bind (m := 1) (h .branch s4) fun e s5 _ he => Bd.put (s := down s5) (nd0 (by decide) (by simp; omega))) (Bd.bind (hbB h (adv s3)) fun e s5 _ he => Bd.put (nd0 (by decide) (by simp; omega)))) (Bd.put (nd0 (by decide) (by simp; omega)))
include hT
theorem climbF_bd (k a : Nat) (s : St) : Bd K 1 (climbF X rec k a s) s.nodes := Bd.ite (fun _ => Bd.bind (hbE h _ (adv s)) fun b s1 _ hb => Bd.bind (Bd.put (ndT hT (by decide) (by simp; omega))) fun e s2 _ _ => h (.climb k (e.getD 0 0)) s2) (Bd.ok (Nat.le_refl _))
omit hT
theorem made_bd (at_ : Nat) (s : St) : Bd K 1 (made X rec at_ s) s.nodes :=
 Bd.bind (Bd.enter _ s) fun _ s1 _ _ => Bd.bind (Bd.enter _ s1) fun _ s2 _ _ => Bd.bind (hbT h s2) fun k s3 _ hk =>
  Bd.ite (fun _ => Bd.ite (fun _ => Bd.bind (Bd.leave _ _) fun _ s5 _ _ => Bd.put (nd0 (by decide) (by omega))) (Bd.fail _ _ _ _)) (Bd.bind (Bd.leave _ _) fun _ s5 _ _ => Bd.put (nd0 (by decide) (by omega)))
include hT
theorem firstF_bd (s : St) : Bd K 1 (firstF X rec s) s.nodes :=
 Bd.ite (fun _ => Bd.put (s := adv s) (nd0 (by decide) (Nat.zero_le _))) (Bd.ite (fun _ => Bd.put (s := adv s) (nd0 (by decide) (Nat.zero_le _))) (Bd.ite (fun _ => Bd.put (s := adv s) (nd0 (by decide) (Nat.zero_le _))) (Bd.ite (fun _ => Bd.put (s := adv s) (nd0 (by decide) (Nat.zero_le _)))
  (Bd.ite (fun _ => Bd.bind (sig_bd hn h (adv s)) fun g s1 _ hg => Bd.bind (hbB h s1) fun b s2 _ hb => Bd.put (nd0 (by decide) (by simp; omega))) (Bd.ite (fun _ => Bd.bind (Bd.enter _ (adv s)) fun _ s1 _ _ => Bd.bind (Bd.name s1) fun _ s2 _ _ => Bd.bind (Bd.leave _ s2) fun _ s3 _ _ => Bd.put (ndT hT (by decide) (Nat.zero_le _)))
   (Bd.ite (fun _ => made_bd hn h _ (adv s)) (Bd.ite (fun _ => Bd.bind (Bd.enter _ s) fun _ s1 _ _ => Bd.bind (hbE h 0 s1) fun e s2 _ he => Bd.bind (Bd.leave _ s2) fun _ s3 _ _ => Bd.ok he) (Bd.bind (Bd.name s) fun _ s1 _ _ => Bd.put (ndT hT (by decide) (Nat.zero_le _))))))))))
omit hT
theorem prefixed_bd (x : List UInt8) (kind : Int) (hk : kind ≠ 12) (s : St) : Bd K 1 (prefixed X rec x kind s) s.nodes := Bd.bind (Bd.enter _ s) fun _ s1 _ _ => Bd.bind (m := 1) (h .unary s1) fun e s2 _ he => Bd.put (s := down s2) (nd0 hk (by omega))
include hT
theorem unaryF_bd (s : St) : Bd K 1 (unaryF X rec s) s.nodes := Bd.ite (fun _ => prefixed_bd hn h _ _ (by decide) s) (Bd.ite (fun _ => prefixed_bd hn h _ _ (by decide) s) (Bd.ite (fun _ => prefixed_bd hn h _ _ (by decide) s) (Bd.bind (firstF_bd hT hn h s) fun e s1 _ _ => h (.part (e.getD 0 0)) s1)))
theorem partF_bd (e : Nat) (s : St) : Bd K 1 (partF X rec e s) s.nodes :=
 Bd.ite (fun _ => Bd.bind (list_bd (fun s => h (.exprs []) s) s) fun l s1 _ hl => Bd.bind (Bd.put (nd0 (by decide) (by simp [capL] at hl; simp; omega))) fun e1 s2 _ _ => h (.part (e1.getD 0 0)) s2)
  (Bd.ite (fun _ => Bd.ite (fun _ => Bd.bind (Bd.enter _ (adv s)) fun _ s1 _ _ => Bd.bind (hbT h s1) fun t s2 _ ht => Bd.bind (Bd.leave _ s2) fun _ s3 _ _ => Bd.bind (Bd.put (nd0 (by decide) (by simp; omega))) fun e1 s4 _ _ => h (.part (e1.getD 0 0)) s4)
   (Bd.bind (Bd.name (adv s)) fun _ s1 _ _ => Bd.bind (Bd.put (ndT hT (by decide) (by simp; omega))) fun e1 s2 _ _ => h (.part (e1.getD 0 0)) s2)) (Bd.ok (Nat.le_refl _)))
theorem msig_bd (s : St) : Bd K 1 (msig X rec s) s.nodes := Bd.bind (Bd.name s) fun _ s1 _ _ => Bd.bind (sig_bd hn h s1) fun g s2 _ hg => Bd.put (ndT hT (by decide) (by omega))
theorem typed_bd (at_ : Nat) (s : St) : Bd K 1 (typed X rec at_ s) s.nodes :=
 Bd.bind (Bd.name s) fun _ s1 he _ => Bd.ite (fun _ => Bd.bind (items_bd (fun s => h (.fields []) s) (adv s1)) fun l s2 _ hl => Bd.put (ndT hT (by decide) (by simp [capL] at hl; omega)))
  (Bd.bind (Bd.take _ s1) fun _ s2 _ _ => Bd.bind (items_bd (fun s => h (.msigs []) s) s2) fun l s3 _ hl => Bd.put ⟨(hT s).1, by simp [capL] at hl; show l.length ≤ K; omega, fun _ => (hT s).2 (by
   unfold name Ps.fail at he
   split at he
   ·assumption
   ·cases he)⟩)
theorem method_bd (at_ : Nat) (s : St) : Bd K 1 (method X rec at_ s) s.nodes :=
 Bd.bind (Bd.enter _ s) fun _ s1 _ _ => Bd.bind (Bd.name s1) fun _ s2 _ _ => Bd.bind (pointer_bd hT s2) fun p s3 _ hp => Bd.bind (Bd.leave _ s3) fun _ s4 _ _ =>
  Bd.bind (Bd.put (ndT hT (by decide) (by omega))) fun self s5 _ h5 => Bd.bind (Bd.name s5) fun _ s6 _ _ => Bd.bind (sig_bd hn h s6) fun g s7 _ hg => Bd.bind (hbB h s7) fun b s8 _ hb => Bd.put (ndT hT (by decide) (by simp; omega))
theorem declF_bd (s : St) : Bd K 1 (declF X rec s) s.nodes :=
 Bd.ite (fun _ => typed_bd hT hn h _ (adv s)) (Bd.bind (Bd.take _ s) fun _ s1 _ _ => Bd.ite (fun _ => method_bd hT hn h _ s1) (Bd.bind (Bd.name s1) fun _ s2 _ _ => Bd.bind (sig_bd hn h s2) fun g s3 _ hg => Bd.bind (hbB h s3) fun b s4 _ hb => Bd.put (ndT hT (by decide) (by simp; omega))))
theorem bodyR_bd (f : Fn) (s : St) : Bd K (capL f (n + 1)) (bodyR X rec f s) s.nodes := by
 cases f with
 | typ => exact typF_bd hT hn h s
 | block => exact blockF_bd hn h s
 | stmt => exact stmtF_bd hT hn h s
 | branch => exact branchF_bd hn h s
 | expr k => exact Bd.bind (m := 1) (h .unary s) fun e s1 _ _ => h (.climb k (e.getD 0 0)) s1
 | climb k a => exact climbF_bd hT hn h k a s
 | unary => exact unaryF_bd hT hn h s
 | part e => exact partF_bd hT hn h e s
 | typs acc => exact listL_bd (fun s => hbT h s) (fun a s => h (.typs a) s) acc s
 | params acc => exact listL_bd (fun s => named_bd hT hn h 7 (by decide) s) (fun a s => h (.params a) s) acc s
 | exprs acc => exact listL_bd (fun s => hbE h 0 s) (fun a s => h (.exprs a) s) acc s
 | stmts acc => exact itemsL_bd (fun s => hbS h s) (fun a s => h (.stmts a) s) acc s
 | body acc => exact Bd.ite (fun _ => Bd.ok (by simp [capL])) (Bd.bind (hbS h s) fun k s1 _ hk => Bd.ite (fun _ => Bd.ok (by simp [capL]; omega)) (Bd.bind (Bd.take _ s1) fun _ s2 _ _ => (h (.body _) s2).to (by simp [capL]; omega)))
 | cases acc => exact Bd.ite (fun _ => Bd.ok (by simp [capL])) (Bd.bind (caseF_bd hT hn h s) fun k s1 _ hk => (h (.cases _) s1).to (by simp [capL]; omega))
 | fields acc => exact itemsL_bd (fun s => named_bd hT hn h 9 (by decide) s) (fun a s => h (.fields a) s) acc s
 | msigs acc => exact itemsL_bd (fun s => msig_bd hT hn h s) (fun a s => h (.msigs a) s) acc s
 | decls acc => exact Bd.ite (fun _ => Bd.bind (declF_bd hT hn h s) fun k s1 _ hk => Bd.ite (fun _ => Bd.bind (Bd.take _ s1) fun _ s2 _ _ => (h (.decls _) s2).to (by simp [capL]; omega)) ((h (.decls _) s1).to (by simp [capL]; omega))) (Bd.ok (by simp [capL]))
end
theorem run_bd {X : Src} {K : Nat} (hT : TX X) (n : Nat) (hn : n + 3 ≤ K) : ∀ f s, Bd K (capL f n) (run X n f s) s.nodes := by
 induction n with
 | zero => intro f s _ v s' h; cases h
 | succ n ih => exact fun f s => bodyR_bd hT (by omega) (ih (by omega)) f s
theorem program_bd {X : Src} {n : Nat} (hT : TX X) {v : List Nat} {s : St} (h : program X n = .ok v s) : ∀ x ∈ s.nodes, NdOk (n + 3) x :=
 ((Bd.bind (run_bd (K := n + 3) hT n (Nat.le_refl _) (.decls []) start) fun l s1 _ hl => Bd.put (n := ⟨15, (now X start).pos, 0, [], l⟩) (nd0 (by decide) (by simp [capL] at hl; omega))) (fun x hx => by cases hx) v s h).1
theorem toks_tx {X : Src} (h : ∀ t ∈ X.toks, TkOk t) : TX X := by
 intro s;unfold isName now
 by_cases hs : s.i < X.toks.length
 ·have := h _ (List.getElem_mem hs);rw [List.getD_eq_getElem?_getD, List.getElem?_eq_getElem hs]
  exact ⟨this.1, fun e => this.2 (by simpa using e)⟩
 ·rw [List.getD_eq_getElem?_getD, List.getElem?_eq_none (by omega)];exact ⟨Nat.zero_le _, fun e => by simp [noTok] at e⟩
end Go.Proofs.YtjickecdkmljpaaGreatDoor.Ps
