/-
  PROVED HERE: facts for the walk of the program's Read: where it stands, how it falls, how it ends. No condition beyond the lemmas' own premises.
-/
import Derived.Test.YtjomajfgoaifbaaPCatch
import Derived.Deep.RegionWith
import Derived.Deep.RegionHeld3
import Derived.Deep.AppendLies
import Derived.Deep.DeepCutAuto
import Derived.Deep.RegionLaw
namespace Go.Proofs.Ytjomajfgoaifbaa
open Go.RowKit

/-- Where the program's Read stands: what is left, what is laid. -/
structure RSt (w wx : World) (r : List UInt8) (C : Cd.GCode) : Prop where
  code : CodeSt w.heap.size w.heap.size wx C
  err : ∃ ve, wx.heap[w.heap.size + 1]? = some (.cells #[ve] 22 (0, 0))
  rd : RdAt w.heap.size (w.heap.size + 1 + 1) r wx
  bel : Below w.heap.size w wx

/-- What the deferred function wants. -/
structure ESt (w wx : World) : Prop where
  code : ∃ v0 v1 v2, wx.heap[w.heap.size]? = some (.cells #[v0, v1, v2] 30 (0, 0))
  err : ∃ ve, wx.heap[w.heap.size + 1]? = some (.cells #[ve] 22 (0, 0))
  bel : Below w.heap.size w wx

theorem RSt.est {w wx : World} {r : List UInt8} {C : Cd.GCode} (h : RSt w wx r C) : ESt w wx := by
  obtain ⟨vo, vf, vk, h0, _⟩ := h.code
  exact ⟨⟨_, _, _, h0⟩, h.err, h.bel⟩
theorem RSt.but {w wx wy : World} {r r' : List UInt8} {C : Cd.GCode} (h : RSt w wx r C) (hb : But (w.heap.size + 1 + 1) wx wy) (hr : RdAt w.heap.size (w.heap.size + 1 + 1) r' wy) : RSt w wy r' C := by
  obtain ⟨c0, hp⟩ := h.rd.blk
  obtain ⟨ve, he⟩ := h.err
  exact ⟨h.code.but hb hp (by decide) (by decide) (by decide) (by decide) (by decide), ⟨ve, blk_but he hb hp (by decide)⟩, hr, h.bel.trans (hb.low.mono (by omega))⟩
theorem RSt.efail {w wx wy : World} {r : List UInt8} {C : Cd.GCode} (h : RSt w wx r C) (hb : But (w.heap.size + 1 + 1) wx wy) : ESt w wy := by
  obtain ⟨c0, hp⟩ := h.rd.blk
  obtain ⟨ve, he⟩ := h.err
  obtain ⟨vo, vf, vk, h0, _⟩ := h.code
  exact ⟨⟨_, _, _, blk_but h0 hb hp (by decide)⟩, ⟨ve, blk_but he hb hp (by decide)⟩, h.bel.trans (hb.low.mono (by omega))⟩

theorem rst_start (w : World) (v : Value) (b : List UInt8) (hv : BytesV w.heap.size w v b) :
    RSt w (((w.alloc (.cells #[.slice none 0 0, .slice none 0 0, .slice none 0 0] 30)).alloc (.cells #[.int .i64 0] 22)).alloc (.cells #[v] 74)) b Rd.noCode := by
  have hb : Below w.heap.size w (((w.alloc (.cells #[.slice none 0 0, .slice none 0 0, .slice none 0 0] 30)).alloc (.cells #[.int .i64 0] 22)).alloc (.cells #[v] 74)) := by go_grown
  refine ⟨CodeSt.start (blk_alloc (blk_alloc (blk_new _ _) _) _), ⟨.int .i64 0, blk_alloc ?_ _⟩, ⟨v, ?_, hv.below hb (Nat.le_refl _)⟩, hb⟩
  · have := blk_new (w.alloc (.cells #[.slice none 0 0, .slice none 0 0, .slice none 0 0] 30)) (.cells #[.int .i64 0] 22)
    simpa using this
  · have := blk_new ((w.alloc (.cells #[.slice none 0 0, .slice none 0 0, .slice none 0 0] 30)).alloc (.cells #[.int .i64 0] 22)) (.cells #[v] 74)
    simpa using this

/-- What reading code leaves. -/
def CdPost (b : List UInt8) (w : World) (e : Ending) (w' : World) : Prop :=
  ∃ vo vf vk, e = .returned (.tuple #[.agg #[vo, vf, vk], .int .i64 (Rd.readF b).1]) ∧ CodeV w'.heap.size w' vo vf vk (Rd.readF b).2 ∧ Below w.heap.size w w'

theorem codeV_none (w : World) : CodeV w.heap.size w (.slice none 0 0) (.slice none 0 0) (.slice none 0 0) Rd.noCode :=
  ⟨⟨fun x h => by simp [Rd.noCode] at h, none, 0, 0, 0, rfl, Nat.le_refl _, by simp [Rd.noCode], fun h => absurd h (by simp [Rd.noCode]), fun i h => absurd h (by simp [Rd.noCode])⟩,
   ⟨fun x h => by simp [Rd.noCode] at h, none, 0, 0, 0, rfl, Nat.le_refl _, by simp [Rd.noCode], fun h => absurd h (by simp [Rd.noCode]), fun i h => absurd h (by simp [Rd.noCode])⟩,
   ⟨none, 0, 0, 0, rfl, Nat.le_refl _, by simp [Rd.noCode], fun h => absurd h (by simp [Rd.noCode]), fun i h => absurd h (by simp [Rd.noCode])⟩⟩

theorem CdPost.fail {b : List UInt8} {w w' : World} {c : Int} (h : Rd.codeP b = .error c) (hb : Below w.heap.size w w') : CdPost b w (.returned (.tuple #[.agg #[.slice none 0 0, .slice none 0 0, .slice none 0 0], .int .i64 c])) w' := by
  have e : Rd.readF b = (c, Rd.noCode) := by unfold Rd.readF; rw [h]
  exact ⟨_, _, _, by rw [e], by rw [e]; exact codeV_none w', hb⟩

/-- The frame's one deferred call. -/
def door (n : Nat) : List Deferred := [{ target := .fn (.func 26) #[.pointer (some ⟨n, 0, none⟩), .pointer (some ⟨n + 1, 0, none⟩)], args := #[] }]

set_option maxRecDepth 100000 in
theorem door_err {w wx : World} {b : List UInt8} {c : Int} {T : Array Value} (h : ESt w wx) (hc : Rd.codeP b = .error c) (h2 : T[2]? = some (.pointer (some ⟨w.heap.size, 0, none⟩))) (h3 : T[3]? = some (.pointer (some ⟨w.heap.size + 1, 0, none⟩))) :
    bodyPostD Try.prog Try.f10 (CdPost b w) (Exit.panic [{ v := .iface 71 (.agg #[.int .i64 c]), recovered := false }]) { tmps := T, defers := door w.heap.size } wx := by
  unfold door
  refine leaves_cons (f := 26) (args := #[.pointer (some ⟨w.heap.size, 0, none⟩), .pointer (some ⟨w.heap.size + 1, 0, none⟩)]) (by simp) (by simp [go_sem]) ?_
  obtain ⟨⟨x0, x1, x2, q1⟩, ⟨x3, q2⟩, q3⟩ := h
  refine (pcatch _ _ _ _ _ _ c _ q1 q2).mono ?_
  rintro e u' w3 ⟨rfl, rfl, m1, m2, m3⟩
  have k0 := blk_cell m1 0
  have k1 := blk_cell m1 1
  have k2 := blk_cell m1 2
  have ke := blk_cell m2 0
  have hl1 := blk_lt m1
  have hl2 := blk_lt m2
  simp only [List.getElem?_toArray, List.getElem?_cons_zero, List.getElem?_cons_succ] at k0 k1 k2 ke
  have HF := Lib.hid (CdPost.fail hc (q3.trans (m3 w.heap.size (by omega) (by omega))))
  clear m1 m2 m3 q1 q2 q3
  simp [Leaves, settle, results, Try.results10, go_sem, k0, k1, k2, ke, h2, h3]
  exact HF.out

set_option maxRecDepth 100000 in
theorem door_ok {w wx : World} {b : List UInt8} {vo vf vk ve : Value} {T : Array Value} {e0 : Exit} (he : e0 = .ret) (hcb : wx.heap[w.heap.size]? = some (.cells #[vo, vf, vk] 30 (0, 0))) (heb : wx.heap[w.heap.size + 1]? = some (.cells #[ve] 22 (0, 0))) (hp : CdPost b w (.returned (.tuple #[.agg #[vo, vf, vk], ve])) wx)
    (h2 : T[2]? = some (.pointer (some ⟨w.heap.size, 0, none⟩))) (h3 : T[3]? = some (.pointer (some ⟨w.heap.size + 1, 0, none⟩))) :
    bodyPostD Try.prog Try.f10 (CdPost b w) e0 { tmps := T, defers := door w.heap.size } wx := by
  subst he
  unfold door
  refine leaves_cons (f := 26) (args := #[.pointer (some ⟨w.heap.size, 0, none⟩), .pointer (some ⟨w.heap.size + 1, 0, none⟩)]) (by simp) (by simp [go_sem]) ?_
  refine (pcatch_idle _ _ _).mono ?_
  rintro e u' w3 ⟨rfl, rfl, rfl⟩
  have k0 := blk_cell hcb 0
  have k1 := blk_cell hcb 1
  have k2 := blk_cell hcb 2
  have ke := blk_cell heb 0
  have hl1 := blk_lt hcb
  have hl2 := blk_lt heb
  simp only [List.getElem?_toArray, List.getElem?_cons_zero, List.getElem?_cons_succ] at k0 k1 k2 ke
  have HF := Lib.hid hp
  clear hcb heb hp
  simp [Leaves, settle, results, Try.results10, go_sem, k0, k1, k2, ke, h2, h3]
  exact HF.out

theorem leaves_results {T T' : Array Value} {R : Ending → World → Prop} (h : results Try.f10 T' = results Try.f10 T) : ∀ {ds : List Deferred} {u : FrameMode} {w : World}, Leaves Try.prog Try.f10 T R ds u w → Leaves Try.prog Try.f10 T' R ds u w
  | [], u, w, hl => by
    cases u with
    | run => exact hl
    | returning => unfold Leaves at hl ⊢; rw [h]; exact hl
    | panicking chain => exact hl
  | d :: ds, u, w, hl => by
    obtain ⟨h1, fv, cap, f, args, h2, h3, h4⟩ := hl
    refine ⟨h1, fv, cap, f, args, h2, h3, h4.mono ?_⟩
    intro e u' w' he
    cases e with
    | returned v => exact leaves_results h he
    | panicked chain => exact leaves_results h he
    | outgrown => exact he

/-- Where the program's Read falls, it does not look at a slot behind the fourth. -/
theorem blind {R : Ending → World → Prop} {c : List PanicEntry} {a : Act} {w : World} {v : Value} (d : Nat) (hd : 3 < d) (h : bodyPostD Try.prog Try.f10 R (.panic c) (a.put (some d) v) w) : bodyPostD Try.prog Try.f10 R (.panic c) a w := by
  refine leaves_results ?_ h
  have e : ∀ i, i ≤ 3 → (a.put (some d) v).tmps.getD i undef = a.tmps.getD i undef := by
    intro i hi
    unfold Act.put
    simp only [Array.getD_eq_getD_getElem?, Array.getElem?_setIfInBounds]
    rw [if_neg (by omega)]
  unfold results
  rw [Try.results10]
  simp only [Array.mapM_eq_mapM_toList, List.mapM_cons, List.mapM_nil, e 2 (by omega), e 3 (by omega)]

theorem rd_info68 : (Try.prog.info? 68).map (fun i => (i.zero, i.size, i.bytes)) = some (some (.agg #[.int .i64 0, .int .i64 0, .int .i64 0]), 3, 24) := by kernel_rfl
theorem rd_info61 : (Try.prog.info? 61).map (fun i => (i.zero, i.size, i.bytes)) = some (some (.agg #[.int .i64 0, .int .i64 0, .int .i64 0, .slice none 0 0]), 4, 48) := by kernel_rfl
theorem rd_info24 : (Try.prog.info? 24).map (fun i => (i.zero, i.size, i.bytes)) = some (some (.slice none 0 0), 1, 24) := by kernel_rfl

theorem pnum_ok {B p : Nat} {w : World} {l r : List UInt8} {n : Int} (h : Rd.num l = .ok (n, r)) (hp : Hid (RdAt B p l w)) (hB : B ≤ p) :
    Calls Try.prog 28 #[.pointer (some ⟨p, 0, none⟩)] w fun e w' => e = .returned (.int .i64 n) ∧ Hid (Only p w w') ∧ Hid (RdAt B p r w') := by
  refine (pnum_any B p w l hp.out hB).mono ?_
  rintro e w' ⟨ho, ⟨c, hc, rfl⟩ | ⟨m, s, hm, rfl, hr⟩⟩
  · rw [h] at hc; cases hc
  · rw [h] at hm
    cases hm
    exact ⟨rfl, Lib.hid ho, Lib.hid hr⟩
theorem pnum_er {B p : Nat} {w : World} {l : List UInt8} {c : Int} (h : Rd.num l = .error c) (hp : Hid (RdAt B p l w)) (hB : B ≤ p) :
    Calls Try.prog 28 #[.pointer (some ⟨p, 0, none⟩)] w fun e w' => e = .panicked [{ v := .iface 71 (.agg #[.int .i64 c]), recovered := false }] ∧ Hid (Only p w w') := by
  refine (pnum_any B p w l hp.out hB).mono ?_
  rintro e w' ⟨ho, ⟨d, hc, rfl⟩ | ⟨m, s, hm, rfl, hr⟩⟩
  · rw [h] at hc
    cases hc
    exact ⟨rfl, Lib.hid ho⟩
  · rw [h] at hm; cases hm

theorem only_cell {p b o : Nat} {w w' : World} (h : Only p w w') (hb : b ≠ p) : w'.cell? ⟨b, o, none⟩ = w.cell? ⟨b, o, none⟩ := World.cell?_of_block (w := w) (h.kept b hb)
/-- The rows behind a reading. -/
theorem parts_but {N cb p : Nat} {w w' : World} {v0 v1 v2 : Value} {os : List Cd.GOp} {fs : List Cd.GFn} {ks : List (List Int)} {c' : Array Value} (h0 : w.heap[cb]? = some (.cells #[v0, v1, v2] 30 (0, 0))) (h1 : RowO N w v0 os) (h2 : RowF N w v1 fs) (h3 : RowK N w v2 ks) (hb : But p w w') (hp : w.heap[p]? = some (.cells c' 74 (0, 0))) :
    Hid (w'.heap[cb]? = some (.cells #[v0, v1, v2] 30 (0, 0))) ∧ Hid (RowO N w' v0 os) ∧ Hid (RowF N w' v1 fs) ∧ Hid (RowK N w' v2 ks) :=
  ⟨Lib.hid (blk_but h0 hb hp (by decide)), Lib.hid ⟨own_but h1.1 hb hp (by decide), h1.2⟩, Lib.hid (h2.but hb hp (by decide) (by decide)), Lib.hid (h3.but hb hp (by decide) (by decide))⟩

theorem RdAt.alloc {B p : Nat} {w : World} {l : List UInt8} (h : RdAt B p l w) (hB : B ≤ p) (o : Obj) : RdAt B p l (w.alloc o) := by
  obtain ⟨v, h1, h2⟩ := h
  exact ⟨v, blk_alloc h1 o, h2.below ((Below.refl p w).alloc (Nat.le_of_lt (blk_lt h1)) o) hB⟩

/-- A store to the code's variable leaves the reader. -/
theorem rst_push {w wa wb : World} {r : List UInt8} {C : Cd.GCode} {base e size n : Nat} {v v' : Value} {xs : List Value} {i : Nat} {ve : Value} (_hN : w.heap.size + 1 + 1 ≤ wa.heap.size) (hbel : Below w.heap.size w wa) (hrd : RdAt w.heap.size (w.heap.size + 1 + 1) r wa) (herr : wa.heap[w.heap.size + 1]? = some (.cells #[ve] 22 (0, 0)))
    (hown : wa.ownsRow base e size v n xs) (hbase : w.heap.size ≤ base) (he1 : e ≠ 74) (he2 : e ≠ 22) (hg : wa.grownBy wb v.ownBlock) (hC : CodeSt w.heap.size w.heap.size (wb.setCell ⟨w.heap.size, i, none⟩ v') C) : RSt w (wb.setCell ⟨w.heap.size, i, none⟩ v') r C := by
  obtain ⟨v0, h1, h2⟩ := hrd
  have hl := blk_lt h1
  have g1 := blk_grown h1 hg (fun e0 => own_ne_blk hown h1 he1 e0.symm)
  have g2 := blk_grown herr hg (fun e0 => own_ne_blk hown herr he2 e0.symm)
  have hb1 : Below w.heap.size wa wb := Below.grown (Below.refl _ _) hg (by omega) (fun k hk => by have := (hown.lt k hk).1; omega)
  have hb2 := hb1.setCell (p := ⟨w.heap.size, i, none⟩) (Nat.le_refl _) v'
  exact ⟨hC, ⟨ve, blk_set_other g2 (by omega) _ _⟩, ⟨v0, blk_set_other g1 (by omega) _ _, h2.below hb2 (Nat.le_refl _)⟩, hbel.trans hb2⟩

theorem op_er1 {r : List UInt8} {c : Int} (h : Rd.num r = .error c) : Rd.opP r = .error c := by simp only [Rd.opP, Rd.andThen, h]
theorem op_er2 {r r1 : List UInt8} {c d : Int} (h : Rd.num r = .ok (d, r1)) (h1 : Rd.num r1 = .error c) : Rd.opP r = .error c := by simp only [Rd.opP, Rd.andThen, h, h1]
theorem op_er3 {r r1 r2 : List UInt8} {c d a : Int} (h : Rd.num r = .ok (d, r1)) (h1 : Rd.num r1 = .ok (a, r2)) (h2 : Rd.num r2 = .error c) : Rd.opP r = .error c := by simp only [Rd.opP, Rd.andThen, h, h1, h2]
theorem op_ok {r r1 r2 r3 : List UInt8} {d a b : Int} (h : Rd.num r = .ok (d, r1)) (h1 : Rd.num r1 = .ok (a, r2)) (h2 : Rd.num r2 = .ok (b, r3)) : Rd.opP r = .ok (⟨d, a, b⟩, r3) := by simp only [Rd.opP, Rd.andThen, h, h1, h2, Rd.give]

/-- The three counts at the head. -/
structure Heads (b : List UInt8) (no nf nk : Nat) (r3 : List UInt8) : Prop where
  all : ∃ r1 r2, Rd.count b = .ok (no, r1) ∧ Rd.count r1 = .ok (nf, r2) ∧ Rd.count r2 = .ok (nk, r3)

theorem Heads.ops {b r3 : List UInt8} {no nf nk : Nat} {c : Int} (h : Heads b no nf nk r3) (h1 : Rd.rep Rd.opP no r3 = .error c) : Rd.codeP b = .error c := by
  obtain ⟨r1, r2, a1, a2, a3⟩ := h
  simp only [Rd.codeP, Rd.andThen, a1, a2, a3, h1]

theorem fn_er1 {r : List UInt8} {c : Int} (h : Rd.num r = .error c) : Rd.fnP r = .error c := by simp only [Rd.fnP, Rd.andThen, h]
theorem fn_er2 {r r1 : List UInt8} {c d : Int} (h : Rd.num r = .ok (d, r1)) (h1 : Rd.num r1 = .error c) : Rd.fnP r = .error c := by simp only [Rd.fnP, Rd.andThen, h, h1]
theorem fn_er3 {r r1 r2 : List UInt8} {c d a : Int} (h : Rd.num r = .ok (d, r1)) (h1 : Rd.num r1 = .ok (a, r2)) (h2 : Rd.num r2 = .error c) : Rd.fnP r = .error c := by simp only [Rd.fnP, Rd.andThen, h, h1, h2]
theorem list_er1 {r : List UInt8} {c : Int} (h : Rd.count r = .error c) : Rd.listP r = .error c := by simp only [Rd.listP, Rd.andThen, h]
theorem list_er2 {r r1 : List UInt8} {c : Int} {n : Nat} (h : Rd.count r = .ok (n, r1)) (h1 : Rd.rep Rd.num n r1 = .error c) : Rd.listP r = .error c := by simp only [Rd.listP, Rd.andThen, h, h1]
theorem list_ok {r r1 r2 : List UInt8} {n : Nat} {l : List Int} (h : Rd.count r = .ok (n, r1)) (h1 : Rd.rep Rd.num n r1 = .ok (l, r2)) : Rd.listP r = .ok (l, r2) := by simp only [Rd.listP, Rd.andThen, h, h1]
theorem fn_er4 {r r1 r2 r3 : List UInt8} {c d a e : Int} (h : Rd.num r = .ok (d, r1)) (h1 : Rd.num r1 = .ok (a, r2)) (h2 : Rd.num r2 = .ok (e, r3)) (h3 : Rd.listP r3 = .error c) : Rd.fnP r = .error c := by simp only [Rd.fnP, Rd.andThen, h, h1, h2, h3]
theorem fn_ok {r r1 r2 r3 r4 : List UInt8} {d a e : Int} {l : List Int} (h : Rd.num r = .ok (d, r1)) (h1 : Rd.num r1 = .ok (a, r2)) (h2 : Rd.num r2 = .ok (e, r3)) (h3 : Rd.listP r3 = .ok (l, r4)) : Rd.fnP r = .ok (⟨d, a, e, l⟩, r4) := by simp only [Rd.fnP, Rd.andThen, h, h1, h2, h3, Rd.give]

/-- The orders told. -/
structure Heads2 (b : List UInt8) (nf nk : Nat) (os : List Cd.GOp) (r4 : List UInt8) : Prop where
  all : ∃ no r3, Heads b no nf nk r3 ∧ Rd.rep Rd.opP no r3 = .ok (os, r4)
theorem Heads2.fns {b r4 : List UInt8} {nf nk : Nat} {os : List Cd.GOp} {c : Int} (h : Heads2 b nf nk os r4) (h1 : Rd.rep Rd.fnP nf r4 = .error c) : Rd.codeP b = .error c := by
  obtain ⟨no, r3, ⟨r1, r2, a1, a2, a3⟩, a4⟩ := h
  simp only [Rd.codeP, Rd.andThen, a1, a2, a3, a4, h1]
/-- The functions told. -/
structure Heads3 (b : List UInt8) (nk : Nat) (os : List Cd.GOp) (fs : List Cd.GFn) (r5 : List UInt8) : Prop where
  all : ∃ nf r4, Heads2 b nf nk os r4 ∧ Rd.rep Rd.fnP nf r4 = .ok (fs, r5)
theorem Heads3.kinds {b r5 : List UInt8} {nk : Nat} {os : List Cd.GOp} {fs : List Cd.GFn} {c : Int} (h : Heads3 b nk os fs r5) (h1 : Rd.rep Rd.listP nk r5 = .error c) : Rd.codeP b = .error c := by
  obtain ⟨nf, r4, ⟨no, r3, ⟨r1, r2, a1, a2, a3⟩, a4⟩, a5⟩ := h
  simp only [Rd.codeP, Rd.andThen, a1, a2, a3, a4, a5, h1]
theorem Heads3.done {b r5 r6 : List UInt8} {nk : Nat} {os : List Cd.GOp} {fs : List Cd.GFn} {ks : List (List Int)} (h : Heads3 b nk os fs r5) (h1 : Rd.rep Rd.listP nk r5 = .ok (ks, r6)) : Rd.codeP b = .ok (⟨os, fs, ks⟩, r6) := by
  obtain ⟨nf, r4, ⟨no, r3, ⟨r1, r2, a1, a2, a3⟩, a4⟩, a5⟩ := h
  simp only [Rd.codeP, Rd.andThen, a1, a2, a3, a4, a5, h1, Rd.give]
theorem own_lit {w : World} {base e size n : Nat} {v : Value} {xs : List Value} (h : w.ownsRow base e size v n xs) (hn : 0 < n) : ∃ g cap, v = .slice (some ⟨g, 0, none⟩) n cap := by
  rcases h.2 with ⟨_, h0⟩ | ⟨g, cap, cur, hv, _⟩
  · omega
  · exact ⟨g, cap, hv⟩
theorem news4 (w : World) (q : Nat) (u : Value) (d a s : Int) : ∀ j x, [Value.int .i64 d, .int .i64 a, .int .i64 s, u][j]? = some x → ((w.setCell ⟨q, 3, none⟩ u).alloc (.cells #[.int .i64 d, .int .i64 a, .int .i64 s, u] 61)).cell? ((⟨w.heap.size, 0, none⟩ : Addr).add j) = some x := by
  have e : w.heap.size = (w.setCell ⟨q, 3, none⟩ u).heap.size := by simp
  rw [e]
  exact World.news_of_block (cs := #[.int .i64 d, .int .i64 a, .int .i64 s, u]) (t := 61) (fr := (0, 0)) (heap_alloc_new _ _)
theorem one4 (d a s : Int) (ua : Option Addr) (n uc : Nat) : ∀ u ∈ [Value.int .i64 d, .int .i64 a, .int .i64 s, .slice ua n uc], u.oneCell' = true := by
  intro u hu
  simp only [List.mem_cons, List.not_mem_nil, or_false] at hu
  rcases hu with rfl | rfl | rfl | rfl <;> rfl
theorem Own3.slice {w : World} {u : Value} {l : List Int} (h : Own3 w u l) : ∃ a cap, u = .slice a l.length cap := by
  rcases h.row.2 with ⟨rfl, h0⟩ | ⟨g, cap, cur, hu, _⟩
  · exact ⟨none, 0, by rw [h0]⟩
  · exact ⟨_, _, hu⟩
theorem Own3.alloc {w : World} {u : Value} {l : List Int} (h : Own3 w u l) (o : Obj) : Own3 (w.alloc o) u l := ⟨h.row.alloc o, h.int, h.len⟩

theorem pcount_ok {B p : Nat} {w : World} {l r : List UInt8} {n : Nat} (h : Rd.count l = .ok (n, r)) (hp : Hid (RdAt B p l w)) (hB : B ≤ p) :
    Calls Try.prog 27 #[.pointer (some ⟨p, 0, none⟩)] w fun e w' => e = .returned (.int .i64 n) ∧ Hid (Only p w w') ∧ Hid (RdAt B p r w') := by
  refine (pcount_any B p w l hp.out hB).mono ?_
  rintro e w' ⟨ho, ⟨c, hc, rfl⟩ | ⟨m, s, hm, rfl, hr⟩⟩
  · rw [h] at hc; cases hc
  · rw [h] at hm
    cases hm
    exact ⟨rfl, Lib.hid ho, Lib.hid hr⟩
theorem pcount_er {B p : Nat} {w : World} {l : List UInt8} {c : Int} (h : Rd.count l = .error c) (hp : Hid (RdAt B p l w)) (hB : B ≤ p) :
    Calls Try.prog 27 #[.pointer (some ⟨p, 0, none⟩)] w fun e w' => e = .panicked [{ v := .iface 71 (.agg #[.int .i64 c]), recovered := false }] ∧ Hid (Only p w w') := by
  refine (pcount_any B p w l hp.out hB).mono ?_
  rintro e w' ⟨ho, ⟨d, hc, rfl⟩ | ⟨m, s, hm, rfl, hr⟩⟩
  · rw [h] at hc
    cases hc
    exact ⟨rfl, Lib.hid ho⟩
  · rw [h] at hm; cases hm
theorem plist_ok {B p n : Nat} {w : World} {l r : List UInt8} {xs : List Int} (h : Rd.rep Rd.num n l = .ok (xs, r)) (hp : Hid (RdAt B p l w)) (hB : B ≤ p) (hn : n ≤ 10000) :
    Calls Try.prog 29 #[.pointer (some ⟨p, 0, none⟩), .int .i64 n] w fun e w' => ∃ ua uc, e = .returned (.slice ua xs.length uc) ∧ Hid (But p w w') ∧ Hid (RdAt B p r w') ∧ Hid (Own3 w' (.slice ua xs.length uc) xs) := by
  refine (plist_any B p n w l hp.out hB hn).mono ?_
  rintro e w' ⟨ho, ⟨c, hc, rfl⟩ | ⟨m, s, u, hm, rfl, hr, hu⟩⟩
  · rw [h] at hc; cases hc
  · rw [h] at hm
    cases hm
    obtain ⟨ua, uc, rfl⟩ := hu.slice
    exact ⟨ua, uc, rfl, Lib.hid ho, Lib.hid hr, Lib.hid hu⟩
theorem plist_er {B p n : Nat} {w : World} {l : List UInt8} {c : Int} (h : Rd.rep Rd.num n l = .error c) (hp : Hid (RdAt B p l w)) (hB : B ≤ p) (hn : n ≤ 10000) :
    Calls Try.prog 29 #[.pointer (some ⟨p, 0, none⟩), .int .i64 n] w fun e w' => e = .panicked [{ v := .iface 71 (.agg #[.int .i64 c]), recovered := false }] ∧ Hid (But p w w') := by
  refine (plist_any B p n w l hp.out hB hn).mono ?_
  rintro e w' ⟨ho, ⟨d, hc, rfl⟩ | ⟨m, s, u, hm, rfl, hr, hu⟩⟩
  · rw [h] at hc
    cases hc
    exact ⟨rfl, Lib.hid ho⟩
  · rw [h] at hm; cases hm
theorem but_cell {p b o : Nat} {w w' : World} (h : But p w w') (hl : b < w.heap.size) (hb : b ≠ p) : w'.cell? ⟨b, o, none⟩ = w.cell? ⟨b, o, none⟩ := World.cell?_of_block (w := w) (h.kept b hl hb)
theorem one_slice (ua : Option Addr) (n uc : Nat) : ∀ u ∈ [Value.slice ua n uc], u.oneCell' = true := by
  intro u hu
  rw [List.mem_singleton.1 hu]
  rfl

/-- The rows behind a store to a variable. -/
theorem parts_set {N q i : Nat} {w : World} {v0 v1 v2 x : Value} {os : List Cd.GOp} {fs : List Cd.GFn} {ks : List (List Int)} {t : TypeId} {c : Array Value} (h : RowO N w v0 os ∧ RowF N w v1 fs ∧ RowK N w v2 ks) (hq : w.heap[q]? = some (.cells c t (0, 0))) (h68 : 68 ≠ t) (h61 : 61 ≠ t) (h24 : 24 ≠ t) (h3 : 3 ≠ t) :
    RowO N (w.setCell ⟨q, i, none⟩ x) v0 os ∧ RowF N (w.setCell ⟨q, i, none⟩ x) v1 fs ∧ RowK N (w.setCell ⟨q, i, none⟩ x) v2 ks :=
  ⟨⟨own_set h.1.1 hq h68, h.1.2⟩, h.2.1.set hq h61 h3, h.2.2.set hq h24 h3⟩

theorem own_slice {w : World} {base e size n m : Nat} {v : Value} {xs : List Value} (h : w.ownsRow base e size v n xs) (hm : n = m) : ∃ a cap, v = .slice a m cap := by
  subst hm
  rcases h.2 with ⟨rfl, h0⟩ | ⟨g, cap, cur, hv, _⟩
  · exact ⟨none, 0, by rw [h0]⟩
  · exact ⟨_, cap, hv⟩
/-- The two results' variables laid. -/
theorem lay_res {cb eb : Nat} {v0 v1 v2 ve u0 u1 u2 ue : Value} {w : World} (hcb : w.heap[cb]? = some (.cells #[v0, v1, v2] 30 (0, 0))) (heb : w.heap[eb]? = some (.cells #[ve] 22 (0, 0))) :
    ((((w.setCell ⟨cb, 0, none⟩ u0).setCell ⟨cb, 1, none⟩ u1).setCell ⟨cb, 2, none⟩ u2).setCell ⟨eb, 0, none⟩ ue).heap[cb]? = some (.cells #[u0, u1, u2] 30 (0, 0)) ∧
    ((((w.setCell ⟨cb, 0, none⟩ u0).setCell ⟨cb, 1, none⟩ u1).setCell ⟨cb, 2, none⟩ u2).setCell ⟨eb, 0, none⟩ ue).heap[eb]? = some (.cells #[ue] 22 (0, 0)) ∧
    ∀ B, B ≤ cb → B ≤ eb → Below B w ((((w.setCell ⟨cb, 0, none⟩ u0).setCell ⟨cb, 1, none⟩ u1).setCell ⟨cb, 2, none⟩ u2).setCell ⟨eb, 0, none⟩ ue) := by
  have hne : cb ≠ eb := by
    rintro rfl
    rw [hcb] at heb
    cases heb
  have a1 := blk_set hcb 0 u0
  have a2 := blk_set a1 1 u1
  have a3 := blk_set a2 2 u2
  have b1 := blk_set_other (p := cb) heb hne.symm 0 u0
  have b2 := blk_set_other (p := cb) b1 hne.symm 1 u1
  have b3 := blk_set_other (p := cb) b2 hne.symm 2 u2
  exact ⟨blk_set_other (p := eb) a3 hne 0 ue, blk_set b3 0 ue, fun B h1 h2 => ((((Below.refl B w).setCell (p := ⟨cb, 0, none⟩) h1 _).setCell (p := ⟨cb, 1, none⟩) h1 _).setCell (p := ⟨cb, 2, none⟩) h1 _).setCell (p := ⟨eb, 0, none⟩) h2 _⟩

theorem lay_drew {w X : World} {cb eb : Nat} {o1 o2 : Option Obj} (h1 : X.heap[cb]? = o1) (h2 : X.heap[eb]? = o2) (h3 : Below w.heap.size w X) : X.drew.heap[cb]? = o1 ∧ X.drew.heap[eb]? = o2 ∧ Below w.heap.size w X.drew := ⟨h1, h2, h3.drew⟩
theorem rows_lay {N cb eb : Nat} {v0 v1 v2 ve u0 u1 u2 ue : Value} {w : World} {os : List Cd.GOp} {fs : List Cd.GFn} {ks : List (List Int)} (hcb : w.heap[cb]? = some (.cells #[v0, v1, v2] 30 (0, 0))) (heb : w.heap[eb]? = some (.cells #[ve] 22 (0, 0))) (h : RowO N w v0 os ∧ RowF N w v1 fs ∧ RowK N w v2 ks) :
    RowO N ((((w.setCell ⟨cb, 0, none⟩ u0).setCell ⟨cb, 1, none⟩ u1).setCell ⟨cb, 2, none⟩ u2).setCell ⟨eb, 0, none⟩ ue) v0 os ∧ RowF N ((((w.setCell ⟨cb, 0, none⟩ u0).setCell ⟨cb, 1, none⟩ u1).setCell ⟨cb, 2, none⟩ u2).setCell ⟨eb, 0, none⟩ ue) v1 fs ∧ RowK N ((((w.setCell ⟨cb, 0, none⟩ u0).setCell ⟨cb, 1, none⟩ u1).setCell ⟨cb, 2, none⟩ u2).setCell ⟨eb, 0, none⟩ ue) v2 ks := by
  have hne : cb ≠ eb := by
    rintro rfl
    rw [hcb] at heb
    cases heb
  have a1 := blk_set hcb 0 u0
  have a2 := blk_set a1 1 u1
  have b1 := blk_set_other (p := cb) heb hne.symm 0 u0
  have b2 := blk_set_other (p := cb) b1 hne.symm 1 u1
  have b3 := blk_set_other (p := cb) b2 hne.symm 2 u2
  exact parts_set (parts_set (parts_set (parts_set h hcb (by decide) (by decide) (by decide) (by decide)) a1 (by decide) (by decide) (by decide) (by decide)) a2 (by decide) (by decide) (by decide) (by decide)) b3 (by decide) (by decide) (by decide) (by decide)

theorem CdPost.none {b : List UInt8} {w w' : World} {c : Int} (h : Rd.readF b = (c, Rd.noCode)) (hb : Below w.heap.size w w') : CdPost b w (.returned (.tuple #[.agg #[.slice none 0 0, .slice none 0 0, .slice none 0 0], .int .i64 c])) w' :=
  ⟨_, _, _, by rw [h], by rw [h]; exact codeV_none w', hb⟩
theorem CdPost.some {b : List UInt8} {w w' : World} {vo vf vk : Value} {C : Cd.GCode} {N : Nat} (h : Rd.readF b = (0, C)) (hr : RowO N w' vo C.ops ∧ RowF N w' vf C.fns ∧ RowK N w' vk C.kinds) (k1 : C.ops.length ≤ 10000) (k2 : C.fns.length ≤ 10000) (k3 : C.kinds.length ≤ 10000) (hb : Below w.heap.size w w') : CdPost b w (.returned (.tuple #[.agg #[vo, vf, vk], .int .i64 0])) w' :=
  ⟨_, _, _, by rw [h], by rw [h]; exact ⟨hr.1.ops k1, hr.2.1.fns k2, hr.2.2.kinds k3⟩, hb⟩
theorem read_rest {b r : List UInt8} {C : Cd.GCode} (h : Rd.codeP b = .ok (C, r)) (hr : r ≠ []) : Rd.readF b = (3, Rd.noCode) := by unfold Rd.readF; rw [h]; exact if_pos hr
theorem read_bad {b : List UInt8} {C : Cd.GCode} (h : Rd.codeP b = .ok (C, [])) (hr : Cd.check C ≠ 0) : Rd.readF b = (Cd.check C, Rd.noCode) := by unfold Rd.readF; rw [h]; dsimp only; rw [if_neg (by simp), if_pos hr]
theorem read_good {b : List UInt8} {C : Cd.GCode} (h : Rd.codeP b = .ok (C, [])) (hr : Cd.check C = 0) : Rd.readF b = (0, C) := by unfold Rd.readF; rw [h]; dsimp only; rw [if_neg (by simp), if_neg (by rw [hr]; simp)]

end Go.Proofs.Ytjomajfgoaifbaa
