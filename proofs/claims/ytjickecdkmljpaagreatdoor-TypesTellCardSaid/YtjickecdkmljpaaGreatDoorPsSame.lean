/-
  PROVED HERE: Same of two rows of nodes that tell the same list is true. No condition beyond the lemmas' own premises.
-/
import Derived.Test.YtjickecdkmljpaaGreatDoorPsTk
import Derived.Test.YtjickecdkmljpaaGreatDoorPsB
namespace Go.Proofs.YtjickecdkmljpaaGreatDoor
open Go.RowKit

theorem nd_len (D : List (Ps.Nd × Value)) : (D.flatMap fun x => ndCells x.1 x.2).length = D.length * 5 := by
 induction D with
 | nil => rfl
 | cons x D ih => rw [List.flatMap_cons, List.length_append, ih, List.length_cons]; simp [ndCells]; omega
theorem nodes_at {N : Nat} {w : World} {g n cap : Nat} {D : List (Ps.Nd × Value)} {nv : Value} (h : NodesV N w nv D) (hnv : nv = .slice (some ⟨g, 0, none⟩) n cap) {k : Nat} {x : Ps.Nd × Value} (hk : D[k]? = some x) :
  w.cell? ⟨g, k * 5, none⟩ = some (.int .i64 x.1.kind) ∧ w.cell? ⟨g, k * 5 + 1, none⟩ = some (.int .i64 (x.1.pos : Int)) ∧ w.cell? ⟨g, k * 5 + 2, none⟩ = some (.int .i64 x.1.num) ∧ w.cell? ⟨g, k * 5 + 3, none⟩ = some (.string (str x.1.text)) ∧ w.cell? ⟨g, k * 5 + 4, none⟩ = some x.2 := by
 subst hnv;have hr := h.row;obtain ⟨hlt, he⟩ := List.getElem?_eq_some_iff.1 hk;have hn : n = D.length := by
  rcases hr.2 with ⟨h0, _⟩ | ⟨g', cap', cur, hu, _⟩
  ·cases h0
  ·cases hu; rfl
 subst hn;have hsplit : D = D.take k ++ (x :: D.drop (k + 1)) := by
  rw [← he, ← List.drop_eq_getElem_cons hlt, List.take_append_drop]
 have hl : ((D.take k).flatMap fun x => ndCells x.1 x.2).length = k * 5 := by rw [nd_len, List.length_take]; congr 1; omega
 have key : ∀ j, j < 5 → w.cell? ⟨g, k * 5 + j, none⟩ = (ndCells x.1 x.2)[j]? := by
  intro j hj;have hc := hr.cellAt (k * 5 + j) (by omega);have hL : (D.flatMap fun x => ndCells x.1 x.2)[k * 5 + j]? = (ndCells x.1 x.2)[j]? := by
   have e : (D.flatMap fun x => ndCells x.1 x.2) = ((D.take k).flatMap fun x => ndCells x.1 x.2) ++ (ndCells x.1 x.2 ++ ((D.drop (k + 1)).flatMap fun x => ndCells x.1 x.2)) := by
    conv => lhs; rw [hsplit]
    rw [List.flatMap_append, List.flatMap_cons]
   rw [e, List.getElem?_append_right (by omega), hl, Nat.add_sub_cancel_left, List.getElem?_append_left (by simp [ndCells]; omega)]
  exact hc.trans hL
 exact ⟨key 0 (by omega), key 1 (by omega), key 2 (by omega), key 3 (by omega), key 4 (by omega)⟩
theorem kids_at {N : Nat} {w : World} {g n cap : Nat} {l : List Nat} {u : Value} (h : KidsV N w u l) (hu : u = .slice (some ⟨g, 0, none⟩) n cap) {k : Nat} (hk : k < l.length) : w.cell? ⟨g, k, none⟩ = some (.int .i64 ((l.getD k 0 : Nat) : Int)) := by
 have h2 : w.ownsRow N 3 1 u l.length (kidVals l) := h;subst hu;have hn : n = l.length := by
  rcases h2.2 with ⟨h0, _⟩ | ⟨g', cap', cur, hu, _⟩
  ·cases h0
  ·cases hu; rfl
 subst hn;have hc := World.ownsRow.cellAt h2 k (by omega);rw [hc];unfold kidVals;rw [List.getElem?_map, List.getElem?_eq_getElem hk];simp [hk]
theorem NodesV.further {N : Nat} {w w' : World} {nv : Value} {D : List (Ps.Nd × Value)} (h : NodesV N w nv D) (hb : Below w.heap.size w w') : NodesV N w' nv D :=
 ⟨own_below h.row hb fun j hj => (World.ownsRow.lt h.row j hj).2, fun x hx => own_below (h.kids x hx) hb fun j hj => (World.ownsRow.lt (h.kids x hx) j hj).2⟩
theorem row_max {w : World} {b e sz n : Nat} {v : Value} {xs : List Value} (h : w.ownsRow b e sz v n xs) : n ≤ maxLen := by
 rcases h.2 with ⟨_, rfl⟩ | ⟨_, _, _, _, _, _, h1, h2, _⟩
 ·exact Nat.zero_le _
 ·omega
/-- Both rows at one place. -/
theorem pair_at {D E : List (Ps.Nd × Value)} (he : D.map (·.1) = E.map (·.1)) {k : Nat} (hk : k < D.length) : ∃ x u u', D[k]? = some (x, u) ∧ E[k]? = some (x, u') ∧ (x, u) ∈ D ∧ (x, u') ∈ E := by
 have hl : D.length = E.length := by simpa using congrArg List.length he
 have h1 : D[k]? = some D[k] := List.getElem?_eq_getElem hk;have h2 : E[k]? = some E[k] := List.getElem?_eq_getElem (by omega);have h3 : (D.map (·.1))[k]? = (E.map (·.1))[k]? := by rw [he]
 rw [List.getElem?_map, List.getElem?_map, h1, h2] at h3;have h4 : D[k].1 = E[k].1 := Option.some.inj h3;refine ⟨D[k].1, D[k].2, E[k].2, h1, ?_, List.getElem_mem _, ?_⟩
 ·rw [h2, h4]
 ·rw [h4]; exact List.getElem_mem _

set_option maxRecDepth 100000 in
set_option maxHeartbeats 2000000 in
theorem same_any (N : Nat) (w : World) (v1 v2 : Value) (D E : List (Ps.Nd × Value)) (h1 : NodesV N w v1 D) (h2 : NodesV N w v2 E) (he : D.map (·.1) = E.map (·.1)) :
  Calls Tryz.prog 10 #[v1, v2, .bool true] w fun e w' => e = .returned (.bool true) ∧ Below w.heap.size w w' := by
 have HE := zh he;have hlen : E.length = D.length := by simpa using (congrArg List.length he).symm
 obtain ⟨a1, c1, e1⟩ := own_slice h1.row rfl;obtain ⟨a2, c2, e2⟩ := own_slice h2.row rfl;rw [hlen] at e2;have HV := zh h1;have HU := zh h2;have hmx := row_max h1.row;have HA := zh e1;have HB := zh e2;rw [e1, e2];clear h1 h2 he e1 e2;unfold maxLen at hmx
 go_enter Tryz.func10, Tryz.ntmps10
 go_wp2
 go_loopw [7] (fun i wr => ∃ k : Nat, k ≤ D.length ∧ i = .int .i64 k ∧ Hid (Below w.heap.size w wr)) (fun i _ => D.length - (intOf i).toNat)
 case atStart => exact ⟨0, by omega, rfl, zh (Below.refl _ _)⟩
 case round =>
  obtain ⟨k, hk, rfl, HW⟩ := hrel
  by_cases hlt : k < D.length
  ·obtain ⟨x, u, u', p1, p2, m1, m2⟩ := pair_at HE.out hlt;have nv := HV.out.further HW.out
   have nu := HU.out.further HW.out;obtain ⟨g, gc, hg⟩ := own_lit nv.row (by omega);obtain ⟨g', gc', hg'⟩ := own_lit nu.row (by rw [hlen]; omega);have x5 := nodes_at nv hg p1;have y5 := nodes_at nu hg' p2;obtain ⟨ka, kc, e3⟩ := own_slice (nv.kids _ m1) rfl;obtain ⟨la, lc, e4⟩ := own_slice (nu.kids _ m2) rfl;have hgl := (World.ownsRow.lt nv.row g (by rw [hg]; rfl)).2;have hgl' := (World.ownsRow.lt nu.row g' (by rw [hg']; rfl)).2;have KV := zh (nv.kids _ m1);have KU := zh (nu.kids _ m2);rw [hlen] at hg';rw [HA.out] at hg;rw [HB.out] at hg'
   cases hg
   cases hg'
   obtain ⟨kd, ps, nm, tx, ks⟩ := x;dsimp only at x5 y5 e3 e4;rw [e3] at x5;rw [e4] at y5;obtain ⟨x0, x1, x2, x3, x4⟩ := x5;obtain ⟨y0, y1, y2, y3, y4⟩ := y5;have hkm := row_max KV.out;unfold maxLen at hkm;clear nv nu m1 m2 p1 p2;have bk0 : (0 : Int) ≤ (k : Int) := by omega
   have bk1 : (k : Int) < (D.length : Int) := by omega
   have F1 : ((wr.alloc (.cells #[.int .i64 kd, .int .i64 (ps : Int), .int .i64 nm, .string (str tx), .slice ka ks.length kc] 41)).alloc (.cells #[.int .i64 kd, .int .i64 (ps : Int), .int .i64 nm, .string (str tx), .slice la ks.length lc] 41)).heap[wr.heap.size]? = _ := blk_alloc (blk_new wr _) _;have F2 : ((wr.alloc (.cells #[.int .i64 kd, .int .i64 (ps : Int), .int .i64 nm, .string (str tx), .slice ka ks.length kc] 41)).alloc (.cells #[.int .i64 kd, .int .i64 (ps : Int), .int .i64 nm, .string (str tx), .slice la ks.length lc] 41)).heap[wr.heap.size + 1]? = _ := blk_new_at (by simp);have q0 := blk_cell F1 0;have q1 := blk_cell F1 1;have q2 := blk_cell F1 2;have q3 := blk_cell F1 3;have q4 := blk_cell F1 4;have r0 := blk_cell F2 0;have r1 := blk_cell F2 1;have r2 := blk_cell F2 2;have r3 := blk_cell F2 3;have r4 := blk_cell F2 4;simp only [List.getElem?_toArray, List.getElem?_cons_zero, List.getElem?_cons_succ] at q0 q1 q2 q3 q4 r0 r1 r2 r3 r4
   have HW2 : Hid (Below w.heap.size w ((wr.alloc (.cells #[.int .i64 kd, .int .i64 (ps : Int), .int .i64 nm, .string (str tx), .slice ka ks.length kc] 41)).alloc (.cells #[.int .i64 kd, .int .i64 (ps : Int), .int .i64 nm, .string (str tx), .slice la ks.length lc] 41))) := zh ((HW.out.alloc HW.out.size _).alloc (by have := HW.out.size; simp; omega) _);have KV2 : Hid (KidsV N ((wr.alloc (.cells #[.int .i64 kd, .int .i64 (ps : Int), .int .i64 nm, .string (str tx), .slice ka ks.length kc] 41)).alloc (.cells #[.int .i64 kd, .int .i64 (ps : Int), .int .i64 nm, .string (str tx), .slice la ks.length lc] 41)) (.slice ka ks.length kc) ks) := zh (by
    have h := KV.out;rw [e3] at h;exact World.ownsRow.alloc (World.ownsRow.alloc h _) _)
   have KU2 : Hid (KidsV N ((wr.alloc (.cells #[.int .i64 kd, .int .i64 (ps : Int), .int .i64 nm, .string (str tx), .slice ka ks.length kc] 41)).alloc (.cells #[.int .i64 kd, .int .i64 (ps : Int), .int .i64 nm, .string (str tx), .slice la ks.length lc] 41)) (.slice la ks.length lc) ks) := zh (by
    have h := KU.out;rw [e4] at h;exact World.ownsRow.alloc (World.ownsRow.alloc h _) _)
   have hl1 := blk_lt F1;have hl2 := blk_lt F2;clear F1 F2 e3 e4 KV KU;go_wp2
   clear x0 x1 x2 x3 x4 y0 y1 y2 y3 y4 q0 q1 q2 q3 r0 r1 r2 r3;generalize ((wr.alloc (.cells #[.int .i64 kd, .int .i64 (ps : Int), .int .i64 nm, .string (str tx), .slice ka ks.length kc] 41)).alloc (.cells #[.int .i64 kd, .int .i64 (ps : Int), .int .i64 nm, .string (str tx), .slice la ks.length lc] 41)) = w3 at *
   go_loopw [10] (fun i wx => ∃ j : Nat, j ≤ ks.length ∧ i = .int .i64 j ∧ Hid (∃ n, wx = w3.drewN n)) (fun i _ => ks.length - (intOf i).toNat)
   case atStart => exact ⟨0, by omega, rfl, zh ⟨0, rfl⟩⟩
   case round =>
    obtain ⟨j, hj, rfl, HX⟩ := hrel;obtain ⟨n, rfl⟩ := HX.out
    by_cases hlt2 : j < ks.length
    ·obtain ⟨o, oc, ho⟩ := own_lit KV2.out (by omega)
     cases ho
     obtain ⟨o', oc', ho'⟩ := own_lit KU2.out (by omega)
     cases ho'
     have z := kids_at KV2.out rfl hlt2;have z' := kids_at KU2.out rfl hlt2;have bk2 : (0 : Int) ≤ (j : Int) := by omega
     have bk3 : (j : Int) < (ks.length : Int) := by omega
     generalize ks.getD j 0 = kid at *;go_wp2_with fail
     go_quiet (fail)
     go_wp2
     go_roundw
     case rel => exact ⟨j + 1, by omega, by go_num, zh ⟨n + nq, rfl⟩⟩
     case measure => simp [intOf]; omega
    ·go_wp2
     go_roundw
     case rel => exact ⟨k + 1, by omega, by go_num, zh (HW2.out.trans ⟨rfl, rfl, rfl, Nat.le_refl _, fun _ _ => rfl⟩)⟩
     case measure => simp [intOf]; omega
  ·go_wp2
   go_returns
   exact ⟨rfl, HW.out⟩
end Go.Proofs.YtjickecdkmljpaaGreatDoor
