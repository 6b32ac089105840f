/-
  PROVED HERE: maps from texts to values that the call itself has made: looked at, written; and groups: a map from texts to rows of texts, to which texts are appended. first: the first number that a text is laid at stays. what a program's table is while it is made (OfS), and its laws. rows of a table put in order: plain law (the reference's order is the sorted one), slices.Sort on a row of the call's own, the table when a row of it has been sorted. a region whose order is drawn and whose last operation (z) waits for all others: what is to be kept in it (S) need not hold behind z. (After the library's laws on what is held, to which this is a small change.) No condition beyond the lemmas' own premises.
-/
import Derived.Test.YtjickecdkmljpaaGreatDoorTyR
import Derived.Maps.RangeWalk
import Derived.Maps.AppendAt
import Derived.Test.YtjickecdkmljpaaGreatDoorPsTk
import Derived.Sort.OwnSorted
import Derived.OrdersHeld
import Derived.StillTail
import Derived.IntWalk
import Derived.Handy
import Derived.Lib.Hide
import Derived.Deep.RegionHeld
namespace Go.Proofs.YtjickecdkmljpaaGreatDoor
open Go.RowKit

/-- A value reads as itself. -/
def hV (v : Value) : Option (DataW Value × List MemPlace) := some (.held v, [])
def dV : Option Value → DataW Value
 | some v => .held v
 | none => .nil
theorem dV_inj {a b : Option Value} (h : dV a = dV b) : a = b := by
 cases a <;> cases b <;> cases h <;> rfl
/-- Block b is a map, of at most n texts, that has m. -/
def MapV (w : World) (b n : Nat) (m : List UInt8 → Option Value) : Prop := ∃ D, w.ownsMap Tryz.prog 9 hV b n D ∧ ∀ s, D.atKey (.string s) .nil = dV (m s) ∧ Maps.has D (.string s) = (m s).isSome
def updM (m : List UInt8 → Option Value) (s : List UInt8) (v : Value) (x : List UInt8) : Option Value := if x = s then some v else m x
theorem skeyed : Maps.Keyed Tryz.prog 9 := Maps.string_keyed Tryz.underlying9
theorem skey {s : List UInt8} (h : s.length ≤ maxLen) : keyOf Tryz.prog 9 (.string (str s)) = some (.string s) := WideMaps.keyOf_string_mk (s := str s) Tryz.underlying9 (by rw [str_size]; exact h)
section
variable {w w' : World} {b n : Nat} {m : List UInt8 → Option Value}
theorem MapV.made (w : World) : MapV (w.alloc (.map #[] 0)) w.heap.size 0 (fun _ => none) := ⟨_, World.ownsMap_made w _ _ _, fun _ => ⟨rfl, rfl⟩⟩
theorem MapV.obj (h : MapV w b n m) : ∃ es c, w.heap[b]? = some (.map es c) := by
 obtain ⟨D, ⟨es, c, hb, _⟩, _⟩ := h;exact ⟨es, c, hb⟩
theorem MapV.lt (h : MapV w b n m) : b < w.heap.size := by
 obtain ⟨es, c, hb⟩ := h.obj;exact (Array.getElem?_eq_some_iff.1 hb).1
theorem MapV.mono (h : MapV w b n m) : MapV w b (n + 1) m := by
 obtain ⟨D, h1, h2⟩ := h;exact ⟨D, h1.mono (Nat.le_succ n), h2⟩
theorem MapV.move (h : MapV w b n m) (hb : w'.heap[b]? = w.heap[b]?) : MapV w' b n m := by
 obtain ⟨D, ⟨es, c, h1, h2⟩, h3⟩ := h;exact ⟨D, ⟨es, c, hb.trans h1, h2⟩, h3⟩
theorem MapV.below (h : MapV w b n m) (hb : Below w.heap.size w w') : MapV w' b n m := h.move (hb.block b h.lt)
theorem MapV.grown (h : MapV w b n m) {row : Option Nat} (hb : w.grownBy w' row) (hr : some b ≠ row) : MapV w' b n m := h.move (hb.block b h.lt hr)
theorem MapV.look2 (h : MapV w b n m) {t e : Nat} {z : Value} (ht : Tryz.prog.underlying t = some (.map 9 e)) (hz : (zeroValue e).run Tryz.prog w = .ok z w) {s : List UInt8} (hs : s.length ≤ maxLen) : (Instr.lookup t (.map (some b)) (.string (str s)) true).run Tryz.prog w = .ok (.tuple #[(m s).getD z, .bool (m s).isSome]) w := by
 obtain ⟨D, ⟨es, clock, hb, F, hn, rfl⟩, h3⟩ := h;obtain ⟨h4, h5⟩ := h3 s;rcases Maps.fit_look true skeyed ht hz hb F (skey hs) with ⟨hrun, _, hat⟩ | ⟨e0, y, _, _, hrun, hRv, hat, _⟩
 ·rw [hat] at h4;have : m s = none := dV_inj h4.symm
  rw [this];exact hrun
 ·rw [hat] at h4
  cases hRv
  have : m s = some e0.val := dV_inj h4.symm;rw [this];exact hrun
theorem MapV.look1 (h : MapV w b n m) {t e : Nat} {z : Value} (ht : Tryz.prog.underlying t = some (.map 9 e)) (hz : (zeroValue e).run Tryz.prog w = .ok z w) {s : List UInt8} (hs : s.length ≤ maxLen) : (Instr.lookup t (.map (some b)) (.string (str s)) false).run Tryz.prog w = .ok ((m s).getD z) w := by
 obtain ⟨D, ⟨es, clock, hb, F, hn, rfl⟩, h3⟩ := h;obtain ⟨h4, h5⟩ := h3 s;rcases Maps.fit_look false skeyed ht hz hb F (skey hs) with ⟨hrun, _, hat⟩ | ⟨e0, y, _, _, hrun, hRv, hat, _⟩
 ·rw [hat] at h4;have : m s = none := dV_inj h4.symm
  rw [this];exact hrun
 ·rw [hat] at h4
  cases hRv
  have : m s = some e0.val := dV_inj h4.symm;rw [this];exact hrun
theorem MapV.put (h : MapV w b n m) (hn : n < maxLen) {t e : Nat} (ht : Tryz.prog.underlying t = some (.map 9 e)) {s : List UInt8} (hs : s.length ≤ maxLen) (v : Value) : ∃ w', (Instr.mapUpdate t (.map (some b)) (.string (str s)) v).run Tryz.prog w = .ok () w' ∧ MapV w' b (n + 1) (updM m s v) ∧ w.grownBy w' (some b) := by
 obtain ⟨D, hD, h3⟩ := h;have hM : Maps.IsMap D := by obtain ⟨_, _, _, _, _, rfl⟩ := hD; exact ⟨_, rfl⟩
 obtain ⟨w', h1, h2, h4⟩ := hD.update skeyed ht hn (val := v) (skey hs) (d := .held v) (ps := []) rfl;refine ⟨w', h1, ⟨_, h2, fun x => ?_⟩, h4⟩;unfold updM
 by_cases hx : x = s
 ·subst hx;rw [if_pos rfl, Maps.atKey_put_same hM (show WideAt.IsKeyLit (.string x) from trivial), Maps.has_put_same hM (show WideAt.IsKeyLit (.string x) from trivial)]
  exact ⟨rfl, rfl⟩
 ·have hne : Lit.string x ≠ Lit.string s := fun e => hx (by cases e; rfl)
  rw [if_neg hx, Maps.atKey_put_other hne, Maps.has_put_other hne];exact h3 x

/-! ### Groups -/
/-- Block b is a map of rows of texts, no two in one block: G. -/
def GrpM (N : Nat) (w : World) (b n : Nat) (m : List UInt8 → Option Value) (G : List UInt8 → List (List UInt8)) : Prop :=
 MapV w b n m ∧ (∀ s, m s = none → G s = []) ∧ (∀ s v, m s = some v → G s ≠ [] ∧ TxtV N w v (G s)) ∧ ∀ s s' v v' g, m s = some v → m s' = some v' → v.ownBlock = some g → v'.ownBlock = some g → s = s'
variable {N : Nat} {G : List UInt8 → List (List UInt8)}
theorem TxtV.blk {u : Value} {l : List (List UInt8)} (h : TxtV N w u l) (hl : l ≠ []) : ∃ g cap cur, u = .slice (some ⟨g, 0, none⟩) l.length cap ∧ N ≤ g ∧ w.heap[g]? = some (.cells cur 9 (0, 0)) := by
 rcases h.2 with ⟨_, h0⟩ | ⟨g, cap, cur, hu, hg, hb, _⟩
 ·exact absurd (List.eq_nil_of_length_eq_zero h0) hl
 ·exact ⟨g, cap, cur, hu, hg, hb⟩
theorem TxtV.move {u : Value} {l : List (List UInt8)} (h : TxtV N w u l) (hb : ∀ g, u.ownBlock = some g → w'.heap[g]? = w.heap[g]?) : TxtV N w' u l := by
 refine ⟨h.1, ?_⟩;rcases h.2 with h0 | ⟨g, cap, cur, rfl, hg, hb2, h3⟩
 ·exact .inl h0
 ·exact .inr ⟨g, cap, cur, rfl, hg, (hb g rfl).trans hb2, h3⟩
theorem TxtV.own_lt {u : Value} {l : List (List UInt8)} (h : TxtV N w u l) {g : Nat} (hg : u.ownBlock = some g) : g < w.heap.size := by
 rcases h.2 with ⟨rfl, _⟩ | ⟨g', cap, cur, rfl, _, hb, _⟩
 ·cases hg
 ·cases hg
  exact (Array.getElem?_eq_some_iff.1 hb).1
theorem GrpM.below (h : GrpM N w b n m G) (hb : Below w.heap.size w w') : GrpM N w' b n m G :=
 ⟨h.1.below hb, h.2.1, fun s v hs => ⟨(h.2.2.1 s v hs).1, (h.2.2.1 s v hs).2.move fun g hg => hb.block g ((h.2.2.1 s v hs).2.own_lt hg)⟩, h.2.2.2⟩
theorem GrpM.made (N : Nat) (w : World) : GrpM N (w.alloc (.map #[] 0)) w.heap.size 0 (fun _ => none) (fun _ => []) := ⟨MapV.made w, fun _ _ => rfl, (fun _ _ h => by cases h), (fun _ _ _ _ _ h => by cases h)⟩
theorem GrpM.at (h : GrpM N w b n m G) (s : List UInt8) : TxtV N w ((m s).getD (.slice none 0 0)) (G s) := by
 cases hm : m s with
 | none => rw [h.2.1 s hm]; exact World.ownsRow_nil _ _ _ _
 | some v => exact (h.2.2.1 s v hm).2
def updG (G : List UInt8 → List (List UInt8)) (s x : List UInt8) (y : List UInt8) : List (List UInt8) := if y = s then G s ++ [x] else G y
/-- A row has been written anew, and is laid into the map. -/
theorem GrpM.set {w1 w2 w3 : World} {s : List UInt8} {v' : Value} {x : List UInt8} (h : GrpM N w b n m G) (h1 : Below w.heap.size w w1) (hv : TxtV N w2 v' (G s ++ [x])) (hg : w1.grownBy w2 ((m s).getD (.slice none 0 0)).ownBlock) (hat : v'.ownBlock = ((m s).getD (.slice none 0 0)).ownBlock ∨ v'.ownBlock = some w1.heap.size)
  (hM : MapV w3 b (n + 1) (updM m s v')) (hg3 : w2.grownBy w3 (some b)) : GrpM N w3 b (n + 1) (updM m s v') (updG G s x) := by
 have h1' := h.below h1;obtain ⟨es, c, hob⟩ := h1'.1.obj;have hn3 : ∀ (u : Value) (l : List (List UInt8)), TxtV N w2 u l → TxtV N w3 u l := fun u l hu => hu.move fun g hg' => by
  refine hg3.block g (hu.own_lt hg') fun e => ?_
  rw [show g = b from Option.some.inj e] at hg';rcases hu.2 with ⟨hu1, _⟩ | ⟨g', cap, cur, hu1, _, hb, _⟩
  ·rw [hu1] at hg'; cases hg'
  ·rw [hu1] at hg';rw [show g' = b from Option.some.inj hg'] at hb
   have : w2.heap[b]? = w1.heap[b]? := by
    refine hg.block b h1'.1.lt fun e => ?_
    have h9 := h1'.at s;rcases h9.2 with ⟨h8, _⟩ | ⟨g2, cap, cur, h8, _, hb2, _⟩
    ·rw [h8] at e; cases e
    ·rw [h8] at e;rw [show g2 = b from (Option.some.inj e).symm, hob] at hb2
     cases hb2
   rw [this, hob] at hb
   cases hb
 refine ⟨hM, fun y hy => ?_, fun y v hy => ?_, fun y y' v v'' g hy hy' hgv hgv' => ?_⟩
 ·unfold updM at hy;unfold updG
  by_cases e : y = s
  ·rw [if_pos e] at hy; cases hy
  ·rw [if_neg e] at hy ⊢; exact h.2.1 y hy
 ·unfold updM at hy;unfold updG
  by_cases e : y = s
  ·rw [if_pos e] at hy ⊢
   cases hy
   exact ⟨by simp, hn3 _ _ hv⟩
  ·rw [if_neg e] at hy ⊢;refine ⟨(h.2.2.1 y v hy).1, hn3 _ _ ((h1'.2.2.1 y v hy).2.move fun g hgv => hg.block g ((h1'.2.2.1 y v hy).2.own_lt hgv) fun e2 => ?_)⟩
   cases hm : m s with
   | none => rw [hm] at e2; cases e2
   | some vs =>
    rw [hm] at e2;exact e (h.2.2.2 y s v vs g hy hm hgv e2.symm)
 ·have key : ∀ (y : List UInt8) (v : Value) (g : Nat), y ≠ s → m y = some v → v.ownBlock = some g → v'.ownBlock = some g → False := by
   intro y v g hne hy hgv hgv';rcases hat with h0 | h0
   ·rw [h0] at hgv'
    cases hm : m s with
    | none => rw [hm] at hgv'; cases hgv'
    | some vs =>
     rw [hm] at hgv';exact hne (h.2.2.2 y s v vs g hy hm hgv hgv')
   ·rw [h0] at hgv'
    cases hgv'
    exact Nat.lt_irrefl _ ((h1'.2.2.1 y v hy).2.own_lt hgv)
  unfold updM at hy hy'
  by_cases e : y = s
  ·by_cases e' : y' = s
   ·rw [e, e']
   ·rw [if_pos e] at hy;rw [if_neg e'] at hy'
    cases hy
    exact (key y' v'' g e' hy' hgv' hgv).elim
  ·by_cases e' : y' = s
   ·rw [if_neg e] at hy;rw [if_pos e'] at hy'
    cases hy'
    exact (key y v g e hy hgv hgv').elim
   ·rw [if_neg e] at hy;rw [if_neg e'] at hy'
    exact h.2.2.2 y y' v v'' g hy hy' hgv hgv'
end
end Go.Proofs.YtjickecdkmljpaaGreatDoor
namespace Go.Proofs.YtjickecdkmljpaaGreatDoor
open Go.RowKit

def firstM (m : List UInt8 → Option Value) (s : List UInt8) (k : Nat) : List UInt8 → Option Value := if (m s).isSome then m else updM m s (.int .i64 (k : Int))
theorem putM {ops : Array Oper} {rest : List Oper} {o : Oper} {a : Act} {Z : Exit → Act → World → Prop} {w : World} {b n t e : Nat} {m : List UInt8 → Option Value} {s : List UInt8} {v : Value} {m0 x0 v0 : Operand} (h : MapV w b n m) (hn : n < maxLen) (ht : Tryz.prog.underlying t = some (.map 9 e)) (hs : s.length ≤ maxLen)
  (hK : ∀ w', MapV w' b (n + 1) (updM m s v) → w.grownBy w' (some b) → wpList Tryz.prog ops Z rest (a.put o.dst undef) w')
  (hg : o.guard = none := by rfl) (hop : o.op = Op.mapUpdate t m0 x0 v0 := by rfl) (hm : a.eval m0 = .map (some b) := by rfl) (hx : a.eval x0 = .string (str s) := by rfl) (hv : a.eval v0 = v := by rfl) : wpList Tryz.prog ops Z (o :: rest) a w := by
 refine wpList_plain hg fun K' hK' => ?_
 obtain ⟨w', hrun, r1, r2⟩ := h.put hn ht hs v;unfold Oper.wp;simp [execOp, hop, hm, hx, hv, hrun, Result.andThen];exact hK' _ _ (hK w' r1 r2)
set_option maxHeartbeats 2000000 in
theorem tfirst_any {w : World} {b n : Nat} {m : List UInt8 → Option Value} (h : MapV w b n m) (hn : n < maxLen) {s : List UInt8} (hs : s.length ≤ maxLen) (k : Nat) :
  Calls Tryz.prog 65 #[.map (some b), .string (str s), .int .i64 (k : Int)] w fun e w' => e = .returned (.tuple #[]) ∧ MapV w' b (n + 1) (firstM m s k) ∧ w.grownBy w' (some b) := by
 have HM := zh h;have HS := zh hs;have HN := zh hn;have c := h.look2 Tryz.underlying82 (Tryz.zeroValue3 w) hs;have HF : Hid (firstM m s k = if (m s).isSome then m else updM m s (.int .i64 (k : Int))) := zh rfl;clear h hs hn
 cases hm : m s with
 | some v =>
  rw [hm] at c HF;simp only [Option.getD_some, Option.isSome_some] at c
  go_enter Tryz.func65, Tryz.ntmps65
  go_wp2
  go_returns
  exact ⟨rfl, by rw [HF.out, if_pos (show (some v).isSome = true from rfl)]; exact HM.out.mono, World.grownBy.refl _ _⟩
 | none =>
  rw [hm] at c HF;simp only [Option.getD_none, Option.isSome_none] at c
  go_enter Tryz.func65, Tryz.ntmps65
  go_wp2_with (at_mapUpdate; refine putM HM.out HN.out Tryz.underlying82 HS.out (fun w8 h8 g8 => ?_); have H8 := zh h8; have G8 := zh g8; clear h8 g8)
  go_wp2
  go_returns
  exact ⟨rfl, by rw [HF.out, if_neg (by decide)]; exact H8.out, G8.out⟩
end Go.Proofs.YtjickecdkmljpaaGreatDoor
namespace Go.Proofs.YtjickecdkmljpaaGreatDoor
open Go.RowKit

/-- Where a name is declared first, of the first k nodes. -/
def fM (L : List Ps.Nd) (kind : Int) (k : Nat) (s : List UInt8) : Option Value := ((L.take k).findIdx? fun n => n.kind == kind && n.text == s).map fun j : Nat => Value.int .i64 (j : Int)
theorem fM_zero {L : List Ps.Nd} {kind : Int} : fM L kind 0 = fun _ => none := rfl
theorem fM_step {L : List Ps.Nd} {kind : Int} {k : Nat} {x : Ps.Nd} (h : L[k]? = some x) : fM L kind (k + 1) = if x.kind = kind then firstM (fM L kind k) x.text k else fM L kind k := by
 have hk : (L.take k).length = k := by rw [List.length_take]; have := (List.getElem?_eq_some_iff.1 h).1; omega
 funext s
 have hq : fM L kind (k + 1) s = (((L.take k).findIdx? fun n => n.kind == kind && n.text == s).or (([x].findIdx? fun n => n.kind == kind && n.text == s).map (· + k))).map fun j : Nat => Value.int .i64 (j : Int) := by
  unfold fM;rw [List.take_add_one, h, Option.toList_some, List.findIdx?_append, hk]
 rw [hq];have h0 : fM L kind k s = ((L.take k).findIdx? fun n => n.kind == kind && n.text == s).map fun j : Nat => Value.int .i64 (j : Int) := rfl
 generalize (L.take k).findIdx? (fun n => n.kind == kind && n.text == s) = q at *
 by_cases hx : x.kind = kind
 ·rw [if_pos hx];unfold firstM
  by_cases hs : s = x.text
  ·rw [← hs, h0]
   cases q with
   | some j => simp [h0]
   | none => simp [updM, hx, hs, List.findIdx?_cons]
  ·have hs2 : ¬ x.text = s := fun e => hs e.symm
   have h1 : [x].findIdx? (fun n => n.kind == kind && n.text == s) = none := by simp [List.findIdx?_cons, hs2]
   rw [h1, Option.map_none, Option.or_none, ← h0]
   split
   ·rfl
   ·unfold updM;rw [if_neg hs]
 ·have h1 : [x].findIdx? (fun n => n.kind == kind && n.text == s) = none := by simp [List.findIdx?_cons, hx]
  rw [if_neg hx, h1, Option.map_none, Option.or_none, ← h0]
theorem fM_all {L : List Ps.Nd} {kind : Int} {s : List UInt8} : (fM L kind L.length s).isSome = decide (0 ≤ declN L kind s) := by
 unfold fM declN;rw [List.take_length]
 cases L.findIdx? (fun n => n.kind == kind && n.text == s) with
 | some j => simp
 | none => simp
/-- The table, while it is made. -/
structure OfS (w0 : World) (v : Value) (b1 b2 b3 tp : Nat) (n1 n2 n3 : Nat) (m1 m2 m3 : List UInt8 → Option Value) (G : List UInt8 → List (List UInt8)) (w : World) : Prop where
 bel : Below w0.heap.size w0 w
 tab : TabB w tp v (.map (some b1)) (.map (some b2)) (.map (some b3))
 s1 : MapV w b1 n1 m1
 s2 : MapV w b2 n2 m2
 s3 : GrpM w0.heap.size w b3 n3 m3 G
 q : w0.heap.size ≤ b1 ∧ w0.heap.size ≤ b2 ∧ w0.heap.size ≤ b3 ∧ w0.heap.size ≤ tp ∧ b1 ≠ b2 ∧ b1 ≠ b3 ∧ b2 ≠ b3
section
variable {w0 : World} {v : Value} {b1 b2 b3 tp n1 n2 n3 : Nat} {m1 m2 m3 : List UInt8 → Option Value} {G : List UInt8 → List (List UInt8)} {w w' : World}
theorem OfS.below (h : OfS w0 v b1 b2 b3 tp n1 n2 n3 m1 m2 m3 G w) (hb : Below w.heap.size w w') : OfS w0 v b1 b2 b3 tp n1 n2 n3 m1 m2 m3 G w' :=
 ⟨h.bel.trans (hb.mono h.bel.size), blk_below h.tab hb (blk_lt h.tab), h.s1.below hb, h.s2.below hb, h.s3.below hb, h.q⟩
theorem OfS.alloc (h : OfS w0 v b1 b2 b3 tp n1 n2 n3 m1 m2 m3 G w) (o : Obj) : OfS w0 v b1 b2 b3 tp n1 n2 n3 m1 m2 m3 G (w.alloc o) := h.below ((Below.refl _ _).alloc (Nat.le_refl _) o)
theorem OfS.drew (h : OfS w0 v b1 b2 b3 tp n1 n2 n3 m1 m2 m3 G w) : OfS w0 v b1 b2 b3 tp n1 n2 n3 m1 m2 m3 G w.drew := h.below (Below.refl _ _).drew
/-- A block of the call's own is not one of a map's. -/
theorem OfS.tab_ne (h : OfS w0 v b1 b2 b3 tp n1 n2 n3 m1 m2 m3 G w) : tp ≠ b1 ∧ tp ≠ b2 ∧ tp ≠ b3 := by
 have ht := h.tab;unfold TabB at ht;refine ⟨fun e => ?_, fun e => ?_, fun e => ?_⟩
 ·obtain ⟨es, c, hb⟩ := h.s1.obj;rw [← e, ht] at hb; cases hb
 ·obtain ⟨es, c, hb⟩ := h.s2.obj;rw [← e, ht] at hb; cases hb
 ·obtain ⟨es, c, hb⟩ := h.s3.1.obj;rw [← e, ht] at hb; cases hb
theorem GrpM.far {N b n : Nat} (h : GrpM N w b n m3 G) {q : Nat} (hg : w.grownBy w' (some q)) (hq : q ≠ b) (ho : ∀ cur, w.heap[q]? ≠ some (.cells cur 9 (0, 0))) : GrpM N w' b n m3 G :=
 ⟨h.1.grown hg (by simpa using fun e => hq e.symm), h.2.1, fun s v hs => ⟨(h.2.2.1 s v hs).1, (h.2.2.1 s v hs).2.move fun g hv => hg.block g ((h.2.2.1 s v hs).2.own_lt hv) fun e => by
  rw [show g = q from Option.some.inj e] at hv;rcases (h.2.2.1 s v hs).2.2 with ⟨hu, _⟩ | ⟨g2, cap, cur, hu, _, hb, _⟩
  ·rw [hu] at hv; cases hv
  ·rw [hu] at hv;rw [show g2 = q from Option.some.inj hv] at hb
   exact ho cur hb⟩, h.2.2.2⟩
theorem OfS.put1 (h : OfS w0 v b1 b2 b3 tp n1 n2 n3 m1 m2 m3 G w) {m : List UInt8 → Option Value} (hm : MapV w' b1 (n1 + 1) m) (hg : w.grownBy w' (some b1)) : OfS w0 v b1 b2 b3 tp (n1 + 1) n2 n3 m m2 m3 G w' := by
 obtain ⟨q1, q2, q3, q4, q5, q6, q7⟩ := h.q;obtain ⟨t1, t2, t3⟩ := h.tab_ne;obtain ⟨es, c, hb⟩ := h.s1.obj;exact ⟨h.bel.grown hg h.bel.size (by intro k hk; cases hk; exact q1), (hg.block tp (blk_lt h.tab) (by simpa using t1)).trans h.tab, hm, h.s2.grown hg (by simpa using fun e => q5 e.symm), h.s3.far hg q6 (fun cur e => by rw [hb] at e; cases e), h.q⟩
theorem OfS.put2 (h : OfS w0 v b1 b2 b3 tp n1 n2 n3 m1 m2 m3 G w) {m : List UInt8 → Option Value} (hm : MapV w' b2 (n2 + 1) m) (hg : w.grownBy w' (some b2)) : OfS w0 v b1 b2 b3 tp n1 (n2 + 1) n3 m1 m m3 G w' := by
 obtain ⟨q1, q2, q3, q4, q5, q6, q7⟩ := h.q;obtain ⟨t1, t2, t3⟩ := h.tab_ne;obtain ⟨es, c, hb⟩ := h.s2.obj;exact ⟨h.bel.grown hg h.bel.size (by intro k hk; cases hk; exact q2), (hg.block tp (blk_lt h.tab) (by simpa using t2)).trans h.tab, h.s1.grown hg (by simpa using q5), hm, h.s3.far hg q7 (fun cur e => by rw [hb] at e; cases e), h.q⟩
theorem OfS.more (h : OfS w0 v b1 b2 b3 tp n1 n2 n3 m1 m2 m3 G w) : OfS w0 v b1 b2 b3 tp (n1 + 1) n2 n3 m1 m2 m3 G w ∧ OfS w0 v b1 b2 b3 tp n1 (n2 + 1) n3 m1 m2 m3 G w := ⟨{ h with s1 := h.s1.mono }, { h with s2 := h.s2.mono }⟩
/-- A text has been appended to a group, and the row is laid into the map. -/
theorem OfS.put3 {w1 w2 w3 : World} {s : List UInt8} {v' : Value} {x : List UInt8} (h : OfS w0 v b1 b2 b3 tp n1 n2 n3 m1 m2 m3 G w1) (hv : TxtV w0.heap.size w2 v' (G s ++ [x])) (hg : w1.grownBy w2 ((m3 s).getD (.slice none 0 0)).ownBlock) (hat : v'.ownBlock = ((m3 s).getD (.slice none 0 0)).ownBlock ∨ v'.ownBlock = some w1.heap.size)
  (hM : MapV w3 b3 (n3 + 1) (updM m3 s v')) (hg3 : w2.grownBy w3 (some b3)) : OfS w0 v b1 b2 b3 tp n1 n2 (n3 + 1) m1 m2 (updM m3 s v') (updG G s x) w3 := by
 obtain ⟨q1, q2, q3, q4, q5, q6, q7⟩ := h.q;obtain ⟨t1, t2, t3⟩ := h.tab_ne;have hrow := h.s3.at s;have hno : ∀ q, (∀ cur, w1.heap[q]? ≠ some (.cells cur 9 (0, 0))) → some q ≠ ((m3 s).getD (.slice none 0 0)).ownBlock := fun q hq e => by
  rcases hrow.2 with ⟨hu, _⟩ | ⟨g2, cap, cur, hu, _, hb, _⟩
  ·rw [hu] at e; cases e
  ·rw [hu] at e;rw [show g2 = q from (Option.some.inj e).symm] at hb
   exact hq cur hb
 obtain ⟨e1, c1, ho1⟩ := h.s1.obj;obtain ⟨e2, c2, ho2⟩ := h.s2.obj;have ht := h.tab;unfold TabB at ht;have r1 := hno b1 fun cur e => by rw [ho1] at e; cases e
 have r2 := hno b2 fun cur e => by rw [ho2] at e; cases e
 have rt := hno tp fun cur e => by rw [ht] at e; cases e
 have hb2 : Below w0.heap.size w0 w2 := h.bel.grown hg h.bel.size (fun k hk => by
  rcases hrow.2 with ⟨hu, _⟩ | ⟨g2, cap, cur, hu, hN, hb, _⟩
  ·rw [hu] at hk; cases hk
  ·rw [hu] at hk; cases hk; exact hN)
 exact ⟨hb2.grown hg3 hb2.size (by intro k hk; cases hk; exact q3), (hg3.block tp (Nat.lt_of_lt_of_le (blk_lt h.tab) hg.size) (by simpa using t3)).trans ((hg.block tp (blk_lt h.tab) rt).trans ht),
  (h.s1.grown hg r1).grown hg3 (by simpa using q6), (h.s2.grown hg r2).grown hg3 (by simpa using q7), h.s3.set (Below.refl _ _) hv hg hat hM hg3, h.q⟩
/-- What is as it was while a row is written. -/
theorem OfS.mid {w1 w2 : World} {s : List UInt8} (h : OfS w0 v b1 b2 b3 tp n1 n2 n3 m1 m2 m3 G w1) (hg : w1.grownBy w2 ((m3 s).getD (.slice none 0 0)).ownBlock) : Below w0.heap.size w0 w2 ∧ TabB w2 tp v (.map (some b1)) (.map (some b2)) (.map (some b3)) ∧ MapV w2 b3 n3 m3 ∧
  ∀ (q : Nat) (c : Array Value) (t : TypeId), w1.heap[q]? = some (.cells c t (0, 0)) → t ≠ 9 → w2.heap[q]? = some (.cells c t (0, 0)) := by
 have hrow := h.s3.at s;have hno : ∀ q, (∀ cur, w1.heap[q]? ≠ some (.cells cur 9 (0, 0))) → some q ≠ ((m3 s).getD (.slice none 0 0)).ownBlock := fun q hq e => by
  rcases hrow.2 with ⟨hu, _⟩ | ⟨g2, cap, cur, hu, _, hb, _⟩
  ·rw [hu] at e; cases e
  ·rw [hu] at e;rw [show g2 = q from (Option.some.inj e).symm] at hb
   exact hq cur hb
 obtain ⟨e3, c3, ho3⟩ := h.s3.1.obj;have ht := h.tab;unfold TabB at ht;refine ⟨h.bel.grown hg h.bel.size (fun k hk => by
  rcases hrow.2 with ⟨hu, _⟩ | ⟨g2, cap, cur, hu, hN, hb, _⟩
  ·rw [hu] at hk; cases hk
  ·rw [hu] at hk; cases hk; exact hN), (hg.block tp (blk_lt h.tab) (hno tp fun cur e => by rw [ht] at e; cases e)).trans ht, h.s3.1.grown hg (hno b3 fun cur e => by rw [ho3] at e; cases e), fun q c t hq hne => (hg.block q (blk_lt hq) (hno q fun cur e => ?_)).trans hq⟩
 rw [hq] at e
 cases e
 exact hne rfl
/-- One text more, as a step of a region. -/
theorem apQ {ops : Array Oper} {o : Oper} {s0 x0 : Operand} {Z : Exit → Act → World → Prop} {A : Prop} {K' : Act → World → Prop} {a : Act} {N : Nat} {w : World} {u : Value} {l : List (List UInt8)} (x : List UInt8) (hv : TxtV N w u l) (hl : l.length ≤ 1000000000000) (hN : N ≤ w.heap.size)
  (h : ∀ g cap w8, TxtV N w8 (.slice (some ⟨g, 0, none⟩) (l.length + 1) cap) (l ++ [x]) → (w.alloc (.cells #[.string (str x)] 9)).grownBy w8 u.ownBlock → (u.ownBlock = some g ∨ g = w.heap.size + 1) → K' (a.put o.dst (.slice (some ⟨g, 0, none⟩) (l.length + 1) cap)) w8)
  (hgd : o.guard = none := by rfl) (ho : o.op = .call { callee := .builtin .append, args := #[s0, x0], argTypes := #[33, 33] } := by rfl) (hs : a.eval s0 = u := by rfl) (hx : a.eval x0 = .slice (some ⟨w.heap.size, 0, none⟩) 1 1 := by rfl) :
  if Region.wanted o (yielded ops a.tmps) = true then Oper.wp Tryz.prog o a (w.alloc (.cells #[.string (str x)] 9)) K' Z else A := by
 obtain ⟨i0, hi0, hz0, hz1, hz2⟩ := info_parts str_info;have hv2 : (w.alloc (.cells #[.string (str x)] 9)).ownsRow N 9 1 u l.length (l.map fun x => Value.string (str x)) := own_below hv ((Below.refl w.heap.size w).alloc (Nat.le_refl _) _) fun k hk => (World.ownsRow.lt hv k hk).2
 refine step_append_lies _ hgd s0 x0 33 ho N 9 i0 _ 1 16 Tryz.underlying33 hi0 hz0 hz1 hz2 rfl (by omega) u l.length (l.map fun x => Value.string (str x)) hs hv2 ⟨w.heap.size, 0, none⟩ 1 1 [.string (str x)] hx rfl (World.news_of_block (cs := #[.string (str x)]) (t := 9) (fr := (0, 0)) (heap_alloc_new _ _)) (by intro y hy; simp at hy; subst hy; rfl) (by omega) (by unfold maxLen; omega) (by omega) (by simp; omega) (w.heap.size + 1) (by simp) ?_;intro g cap w8 hown hgrow hat _;refine h g cap w8 ?_ hgrow hat;unfold TxtV;rw [List.length_append, List.map_append];exact hown
/-- A value laid into a map, as a step of a region. -/
theorem putQ {ops : Array Oper} {o : Oper} {a : Act} {Z : Exit → Act → World → Prop} {A : Prop} {K' : Act → World → Prop} {w : World} {b n t e : Nat} {m : List UInt8 → Option Value} {s : List UInt8} {v : Value} {m0 x0 v0 : Operand} (h : MapV w b n m) (hn : n < maxLen) (ht : Tryz.prog.underlying t = some (.map 9 e)) (hs : s.length ≤ maxLen)
  (hK : ∀ w', MapV w' b (n + 1) (updM m s v) → w.grownBy w' (some b) → K' (a.put o.dst undef) w')
  (hg : o.guard = none := by rfl) (hop : o.op = Op.mapUpdate t m0 x0 v0 := by rfl) (hm : a.eval m0 = .map (some b) := by rfl) (hx : a.eval x0 = .string (str s) := by rfl) (hv : a.eval v0 = v := by rfl) : if Region.wanted o (yielded ops a.tmps) = true then Oper.wp Tryz.prog o a w K' Z else A := by
 have hw : Region.wanted o (yielded ops a.tmps) = true := by simp [Region.wanted, hg]
 rw [if_pos hw];obtain ⟨w', hrun, r1, r2⟩ := h.put hn ht hs v;unfold Oper.wp;simp [execOp, hop, hm, hx, hv, hrun, Result.andThen];exact hK w' r1 r2
end
end Go.Proofs.YtjickecdkmljpaaGreatDoor
namespace Go.Proofs.YtjickecdkmljpaaGreatDoor
open Go.RowKit

theorem ltT_eq (x y : List UInt8) : ltT x y = decide (x < y) := by
 unfold ltT
 induction x generalizing y with
 | nil => cases y <;> simp [Op.bytesLess]
 | cons a r ih =>
  cases y with
  | nil => simp [Op.bytesLess]
  | cons b s =>
   rw [Op.bytesLess, ih s];simp only [List.cons_lt_cons_iff]
   by_cases h1 : a < b <;> by_cases h2 : a = b <;> by_cases h3 : r < s <;> simp [h1, h2, h3]
theorem insT_perm (s : List UInt8) (l : List (List UInt8)) : (insT s l).Perm (s :: l) := by
 induction l with
 | nil => exact List.Perm.refl _
 | cons x r ih =>
  show (if ltT s x then s :: x :: r else x :: insT s r).Perm _
  split
  ·exact List.Perm.refl _
  ·exact (List.Perm.cons x ih).trans (List.Perm.swap s x r)
theorem insT_sorted (s : List UInt8) (l : List (List UInt8)) (h : l.Pairwise (· ≤ ·)) : (insT s l).Pairwise (· ≤ ·) := by
 induction l with
 | nil => simp [insT]
 | cons x r ih =>
  obtain ⟨h1, h2⟩ := List.pairwise_cons.1 h
  show (if ltT s x then s :: x :: r else x :: insT s r).Pairwise _
  split
  ·rename_i hs
   have hs : s < x := by simpa [ltT_eq] using hs
   refine List.pairwise_cons.2 ⟨fun y hy => ?_, h⟩;rcases List.mem_cons.1 hy with rfl | hy
   ·exact List.le_of_lt hs
   ·exact List.le_trans (List.le_of_lt hs) (h1 y hy)
  ·rename_i hs
   have hs : x ≤ s := by simpa [ltT_eq] using hs
   refine List.pairwise_cons.2 ⟨fun y hy => ?_, ih h2⟩;rcases List.mem_cons.1 ((insT_perm s r).mem_iff.1 hy) with rfl | hy
   ·exact hs
   ·exact h1 y hy
theorem mF_both (l : List (List UInt8)) : (mF l).Perm l ∧ (mF l).Pairwise (· ≤ ·) := by
 have : ∀ (l acc : List (List UInt8)), acc.Pairwise (· ≤ ·) → (l.foldl (fun a s => insT s a) acc).Perm (acc ++ l) ∧ (l.foldl (fun a s => insT s a) acc).Pairwise (· ≤ ·) := by
  intro l
  induction l with
  | nil => intro acc h; exact ⟨by simp, h⟩
  | cons x r ih =>
   intro acc h;obtain ⟨p, q⟩ := ih (insT x acc) (insT_sorted x acc h);exact ⟨p.trans ((List.Perm.append_right r (insT_perm x acc)).trans (List.perm_middle.symm)), q⟩
 have h := this l [] List.Pairwise.nil
 simpa [mF] using h
/-- In order is sorted. -/
theorem mF_sort (l : List (List UInt8)) : (l.mergeSort fun x y => decide (x ≤ y)) = mF l := by
 obtain ⟨p, q⟩ := mF_both l;refine (List.Perm.eq_of_pairwise (le := (· ≤ ·)) (fun a b _ _ => List.le_antisymm) q ?_ (p.trans (List.mergeSort_perm _ _).symm)).symm;have := List.pairwise_mergeSort (le := fun x y : List UInt8 => decide (x ≤ y)) (fun a b c => by simpa using List.le_trans) (fun a b => by simpa using List.le_total a b) l;exact this.imp fun h => by simpa using h
theorem mF_mem {l : List (List UInt8)} {x : List UInt8} : x ∈ mF l ↔ x ∈ l := (mF_both l).1.mem_iff
theorem sortV {N : Nat} {w : World} {v : Value} {l : List (List UInt8)} (h : TxtV N w v l) (hl : l ≠ []) (hm : l.length ≤ 100000000000) : Calls Tryz.prog 66 #[v] w fun e w' => e = .returned (.tuple #[]) ∧ TxtV N w' v (mF l) ∧ w.grownBy w' v.ownBlock := by
 rcases h.2 with ⟨_, h0⟩ | ⟨g, cap, cur, rfl, hN, hb, h1, h2, h3, h4⟩
 ·exact absurd (List.eq_nil_of_length_eq_zero h0) hl
 ·refine (Tryz.slices_Sort_string g 0 cap l w (holds_of_block hb (by rw [Nat.mul_one] at h4; exact h4)) (blk_lt hb) (by omega)).mono ?_;rintro e w' ⟨rfl, n, os, rfl⟩
  refine ⟨rfl, ?_, grownBy_sorted _⟩;have h5 := ownsRow_sorted (n := n) (os := os) (ss := l) (ts := l.mergeSort fun x y => decide (x ≤ y)) (by simp) hN hb h1 h2 h3;unfold TxtV;rw [mF_sort] at h5;rw [mF_sort, mF_len];exact h5
section
variable {w0 : World} {v : Value} {b1 b2 b3 tp n1 n2 n3 : Nat} {m1 m2 m3 : List UInt8 → Option Value} {G : List UInt8 → List (List UInt8)} {w w' : World}
/-- A row of the table has been written in its place. -/
theorem OfS.turned (h : OfS w0 v b1 b2 b3 tp n1 n2 n3 m1 m2 m3 G w) {s : List UInt8} {c : Value} {l' : List (List UInt8)} (hm : m3 s = some c) (hl : l' ≠ []) (hv : TxtV w0.heap.size w' c l') (hg : w.grownBy w' c.ownBlock) : OfS w0 v b1 b2 b3 tp n1 n2 n3 m1 m2 m3 (fun y => if y = s then l' else G y) w' := by
 have hg' : w.grownBy w' ((m3 s).getD (.slice none 0 0)).ownBlock := by rw [hm]; exact hg
 have hrow := h.s3.at s;have hno : ∀ q, (∀ cur, w.heap[q]? ≠ some (.cells cur 9 (0, 0))) → some q ≠ ((m3 s).getD (.slice none 0 0)).ownBlock := fun q hq e => by
  rcases hrow.2 with ⟨hu, _⟩ | ⟨g2, cap, cur, hu, _, hb, _⟩
  ·rw [hu] at e; cases e
  ·rw [hu] at e;rw [show g2 = q from (Option.some.inj e).symm] at hb
   exact hq cur hb
 obtain ⟨e1, c1, ho1⟩ := h.s1.obj;obtain ⟨e2, c2, ho2⟩ := h.s2.obj;obtain ⟨k1, k2, k3, _⟩ := h.mid hg';refine ⟨k1, k2, h.s1.grown hg' (hno b1 fun cur e => by rw [ho1] at e; cases e), h.s2.grown hg' (hno b2 fun cur e => by rw [ho2] at e; cases e), ⟨k3, fun y hy => ?_, fun y u hy => ?_, h.s3.2.2.2⟩, h.q⟩
 ·dsimp only;rw [if_neg (fun e => by rw [e, hm] at hy; cases hy)]
  exact h.s3.2.1 y hy
 ·dsimp only
  by_cases e : y = s
  ·rw [if_pos e];rw [e, hm] at hy
   cases hy
   exact ⟨hl, hv⟩
  ·rw [if_neg e];exact ⟨(h.s3.2.2.1 y u hy).1, (h.s3.2.2.1 y u hy).2.move fun g hgu => hg.block g ((h.s3.2.2.1 y u hy).2.own_lt hgu) fun e2 => e (h.s3.2.2.2 y s u c g hy hm hgu e2.symm)⟩
/-- A range's iterator has gone on. -/
theorem OfS.iter (h : OfS w0 v b1 b2 b3 tp n1 n2 n3 m1 m2 m3 G w) {r : Nat} (hr : ∃ a s1 s2 s3, w.heap[r]? = some (.mapIter a s1 s2 s3)) (hN : w0.heap.size ≤ r) (hg : w.grownBy w' (some r)) : OfS w0 v b1 b2 b3 tp n1 n2 n3 m1 m2 m3 G w' := by
 obtain ⟨a, s1, s2, s3, hr⟩ := hr;obtain ⟨e1, c1, ho1⟩ := h.s1.obj;obtain ⟨e2, c2, ho2⟩ := h.s2.obj;obtain ⟨e3, c3, ho3⟩ := h.s3.1.obj;have ht := h.tab;unfold TabB at ht;have key : ∀ {q : Nat} {o : Obj}, w.heap[q]? = some o → (∀ a s1 s2 s3, o ≠ .mapIter a s1 s2 s3) → some q ≠ some r := fun {q o} hq hne e => by
  cases e
  rw [hr] at hq
  cases hq
  exact hne _ _ _ _ rfl
 exact ⟨h.bel.grown hg h.bel.size (by intro k hk; cases hk; exact hN), (hg.block tp (blk_lt ht) (key ht fun _ _ _ _ e => by cases e)).trans ht, h.s1.grown hg (key ho1 fun _ _ _ _ e => by cases e), h.s2.grown hg (key ho2 fun _ _ _ _ e => by cases e),
  h.s3.far hg (fun e => key ho3 (fun _ _ _ _ e => by cases e) (by rw [e])) (fun cur e => by rw [hr] at e; cases e), h.q⟩
theorem OfS.new (h : OfS w0 v b1 b2 b3 tp n1 n2 n3 m1 m2 m3 G w) (hg : w.grownBy w' none) : OfS w0 v b1 b2 b3 tp n1 n2 n3 m1 m2 m3 G w' := h.below ((Below.refl w.heap.size w).grown hg (Nat.le_refl _) (by intro k hk; cases hk))
end
/-- The rows, as far as a range over them has come. -/
def rowsG (left : Lit → Bool) (G : List UInt8 → List (List UInt8)) (y : List UInt8) : List (List UInt8) := if left (.string y) then G y else mF (G y)
theorem rowsG_step {left : Lit → Bool} {G : List UInt8 → List (List UInt8)} (x : List UInt8) : rowsG (fun z => left z && !z.sameKey (.string x)) G = fun y => if y = x then mF (G x) else rowsG left G y := by
 funext y
 unfold rowsG
 by_cases e : y = x
 ·subst e;simp [Lit.sameKey]
 ·simp [Lit.sameKey, e]
theorem key_str {key : Value} {kl : Lit} (h : keyOf Tryz.prog 9 key = some kl) : ∃ x, key = .string (str x) ∧ kl = .string x := by
 cases key <;> simp [keyOf, Tryz.underlying9, mapKey] at h
 rename_i s
 exact ⟨s.data.toList, by simp [str], by first | exact h.2.symm | exact h.symm | (obtain ⟨_, h⟩ := h; exact h.symm) | (obtain ⟨h, _⟩ := h; exact h.symm)⟩
end Go.Proofs.YtjickecdkmljpaaGreatDoor
namespace Go.Proofs.YtjickecdkmljpaaGreatDoor

section
variable {P : Program} {ops : Array Oper} {Q : Exit → Act → World → Prop} {md : Region.Mode} {S : World → Prop} {z : Nat}
/-- Whatever order is picked, and S holds behind every operation but z. -/
def wpAnyZ (P : Program) (md : Region.Mode) (ops : Array Oper) (Q : Exit → Act → World → Prop) (S : World → Prop) (z : Nat) : Nat → Array Bool → Act → World → Prop
 | 0, listed, a, w => Region.ready md ops listed = [] ∧ Q .normal a w
 | fuel + 1, listed, a, w =>
  (Region.ready md ops listed = [] → Q .normal a w) ∧
  ∀ i ∈ Region.ready md ops listed, wpOp P ops Q i (fun a' w' => (i ≠ z → S w') ∧ wpAnyZ P md ops Q S z fuel (listed.setIfInBounds i true) a' w') a w
theorem wpAny_of_Z : ∀ (fuel : Nat) (listed : Array Bool) (a : Act) (w : World), wpAnyZ P md ops Q S z fuel listed a w → wpAny P md ops Q fuel listed a w
 | 0, _, _, _, h => h
 | fuel + 1, _, _, _, h => ⟨h.1, fun i hi => wpOp_mono (fun a' w' h' => wpAny_of_Z fuel _ a' w' h'.2) (h.2 i hi)⟩
theorem wpAnyZ_first {i : Nat} {oi : Oper} {v : Value} (hi : ops[i]? = some oi) (hsel : ∀ (j : Nat) (o : Oper) cs b, ops[j]? = some o → o.op ≠ .select cs b)
  (hQ : ∀ c a w, Q (.panic c) (a.put oi.dst v) w → Q (.panic c) a w) (hz : Region.waitsFor md ops z i = true) :
  ∀ (fuel : Nat) (listed : Array Bool) (a : Act) (w : World),
   (∀ j oj, ops[j]? = some oj → j ≠ i → listed.getD j true = false → (∀ e ∈ oj.after, Region.binds md e = true → e.on ≠ i) → oi.apart ops oj = true) →
   i ∈ Region.ready md ops listed → YieldsIf P ops S oi v a → S w →
   wpAnyZ P md ops Q S z fuel (listed.setIfInBounds i true) (a.put oi.dst v) w → wpAnyZ P md ops Q S z (fuel + 1) listed a w := by
 intro fuel
 induction fuel with
 | zero =>
  intro listed a w _ hr hy hS H;refine ⟨fun h => (by rw [h] at hr; cases hr), fun j hj => ?_⟩
  by_cases hji : j = i
  ·subst hji; exact hy.wpOp hi hS ⟨fun _ => hS, H⟩
  ·have := ready_mono hj hji;rw [H.1] at this
   cases this
 | succ fuel ih =>
  intro listed a w hfree hr hy hS H;refine ⟨fun h => (by rw [h] at hr; cases hr), fun j hj => ?_⟩
  by_cases hji : j = i
  ·subst hji; exact hy.wpOp hi hS ⟨fun _ => hS, H⟩
  ·have h1 := H.2 j (ready_mono hj hji);obtain ⟨hjun, oj, hoj, hall⟩ := mem_ready.1 hj
   have hnot : ∀ e ∈ oj.after, Region.binds md e = true → e.on ≠ i := fun e he hb heq => by
    have h1 := hall e he hb;have h0 := (mem_ready.1 hr).1;rw [heq] at h1;rcases Nat.lt_or_ge i listed.size with h' | h'
    ·simp [h'] at h0 h1; rw [h0] at h1; cases h1
    ·simp [Array.getElem?_eq_none h'] at h1
   have hjz : j ≠ z := fun e => by
    obtain ⟨oz, hoz, ez, h5, h6, h7⟩ := Region.waitsFor_spec hz;rw [e, hoz] at hoj
    cases hoj
    exact hnot ez h5 h6 h7
   have h2 := wpOp_putIf hoj (hfree j oj hoj hji hjun hnot) (fun cs b => hsel i oi cs b hi) (fun cs b => hsel j oj cs b hoj) hQ hy h1;have hfree' : ∀ k ok, ops[k]? = some ok → k ≠ i → (listed.setIfInBounds j true).getD k true = false →
     (∀ e ∈ ok.after, Region.binds md e = true → e.on ≠ i) → oi.apart ops ok = true := fun k ok hk hki hun hno => by
    refine hfree k ok hk hki ?_ hno
    by_cases hjk : j = k
    ·subst hjk; exact hjun
    ·rw [getD_set_ne true hjk] at hun; exact hun
   refine wpOp_mono (fun a' w' h3 => ⟨fun _ => h3.2.1 hjz, ih (listed.setIfInBounds j true) a' w' hfree' (ready_mono hr (Ne.symm hji)) h3.1 (h3.2.1 hjz) ?_⟩) h2;rw [Array.setIfInBounds_comm _ _ hji];exact h3.2.2
/-- One step of a walk: an operation that reads, or makes no more than a value, is taken. -/
theorem tz (i : Nat) {oi : Oper} {v : Value} {fuel : Nat} {listed l2 : Array Bool} {a a2 : Act} {w : World}
  (h : wpAnyZ P md ops Q S z fuel l2 a2 w)
  (hi : ops[i]? = some oi := by rfl) (hs : Region.noSelect ops = true := by kernel_rfl) (hf : Region.free md ops listed i = true := by kernel_rfl) (hr : (Region.ready md ops listed).contains i = true := by kernel_rfl) (hz : Region.waitsFor md ops z i = true := by kernel_rfl)
  (hQ : ∀ c a w, Q (.panic c) (a.put oi.dst v) w → Q (.panic c) a w := by exact fun _ _ _ h => h)
  (hw : Region.wanted oi (yielded ops a.tmps) = true := by rfl)
  (hy : ∀ w, S w → (execOp a.eval oi).run P w = .ok (.value v) w := by intro w hSw; (try dsimp only at hSw); (try simp only [and_imp] at hSw); (first | (go_simp; done) | (go_simp; with_reducible rfl)))
  (hS : S w := by assumption)
  (ha : a.put oi.dst v = a2 := by simp only [Act.put, List.getElem_toArray, List.getElem_cons_succ, List.getElem_cons_zero, List.setIfInBounds_toArray, List.set_cons_zero, List.set_cons_succ]; rfl)
  (hl : listed.setIfInBounds i true = l2 := by first | (simp only [List.setIfInBounds_toArray, List.set_cons_zero, List.set_cons_succ]; rfl) | rfl) : wpAnyZ P md ops Q S z (fuel + 1) listed a w := by
 subst ha hl;exact wpAnyZ_first hi (Region.noSelect_spec hs) hQ hz fuel listed a w (Region.free_spec hi hf) (by simpa using hr) (Or.inl ⟨hw, hy⟩) hS h
/-- An operation that has to come now. -/
theorem rz (i : Nat) {oi : Oper} {fuel : Nat} {listed : Array Bool} {a : Act} {w : World}
  (h : ∀ K' : Act → World → Prop, RowKit.Hid (∀ a w, (i ≠ z → S w) → wpAnyZ P md ops Q S z fuel (listed.setIfInBounds i true) a w → K' a w) → if Region.wanted oi (yielded ops a.tmps) = true then Oper.wp P oi a w K' Q else K' (a.put oi.dst undef) w)
  (hi : ops[i]? = some oi := by rfl) (hr : Region.ready md ops listed = [i] := by kernel_rfl) : wpAnyZ P md ops Q S z (fuel + 1) listed a w := by
 refine ⟨fun h0 => absurd (hr.symm.trans h0) (by simp), fun j hj => ?_⟩;rw [hr, List.mem_singleton] at hj;subst hj;have h1 := h (fun a' w' => (j ≠ z → S w') ∧ wpAnyZ P md ops Q S z fuel (listed.setIfInBounds j true) a' w') (zh fun a w h2 h3 => ⟨h2, h3⟩);unfold wpOp;simp only [hi]
 split at h1
 ·rename_i hw; simp only [hw, if_true]; exact .inl h1
 ·rename_i hw; simp only [hw]; exact h1
theorem dz {fuel : Nat} {listed : Array Bool} {a : Act} {w : World} (h : Q .normal a w) (hr : Region.ready md ops listed = [] := by kernel_rfl) : wpAnyZ P md ops Q S z fuel listed a w := by
 cases fuel with
 | zero => exact ⟨hr, h⟩
 | succ n => exact ⟨fun _ => h, by rw [hr]; simp⟩
theorem wp_region_Z {id : Nat} {a : Act} {w : World} (z : Nat) (S : World → Prop) (hS : S w.drew) (h : S w.drew → wpAnyZ P .any ops Q S z ops.size (Array.replicate ops.size false) a w.drew) (hm : P.follows .mixedOrders = true := by kernel_rfl) : (Code.region id ops true).wp P Q a w :=
 wp_region_any hm (wpAny_of_Z _ _ _ _ (h hS))
end
end Go.Proofs.YtjickecdkmljpaaGreatDoor
