/-
  PROVED HERE: facts for the walk of the reference's Read: where it stands, what keeps it. No condition beyond the lemmas' own premises.
-/
import Derived.Test.YtjomajfgoaifbaaPReadL
import Derived.Test.YtjomajfgoaifbaaRReadL
namespace Go.Proofs.Ytjomajfgoaifbaa
open Go.RowKit

/-- Where the reference's Read stands: its result's variable, its reader, what it has laid. -/
structure RRSt (w wx : World) (b : List UInt8) (x : Except Int (List UInt8)) (C : Cd.GCode) : Prop where
  res : ∃ v0 v1 v2, wx.heap[w.heap.size]? = some (.cells #[v0, v1, v2] 30 (0, 0))
  rd : RrAt w.heap.size (w.heap.size + 1) b x wx
  code : CodeSt w.heap.size (w.heap.size + 1 + 1) wx C
  bel : Below w.heap.size w wx

theorem RRSt.but {w wx wy : World} {b : List UInt8} {x x' : Except Int (List UInt8)} {C : Cd.GCode} (h : RRSt w wx b x C) (hb : But (w.heap.size + 1) wx wy) (hr : RrAt w.heap.size (w.heap.size + 1) b x' wy) : RRSt w wy b x' C := by
  obtain ⟨a, n, cap, i, hp⟩ := h.rd.blk
  obtain ⟨v0, v1, v2, h0⟩ := h.res
  exact ⟨⟨v0, v1, v2, blk_but h0 hb hp (by decide)⟩, hr, h.code.but hb hp (by decide) (by decide) (by decide) (by decide) (by decide), h.bel.trans (hb.low.mono (by omega))⟩

theorem rrst_start (w : World) (v : Value) (b : List UInt8) (hv : BytesV w.heap.size w v b) :
    RRSt w (((w.alloc (.cells #[.slice none 0 0, .slice none 0 0, .slice none 0 0] 30)).alloc (.cells #[v, .int .i64 0, .int .i64 0] 79)).alloc (.cells #[.slice none 0 0, .slice none 0 0, .slice none 0 0] 30)) b (.ok b) Rd.noCode := by
  have hb : Below w.heap.size w (((w.alloc (.cells #[.slice none 0 0, .slice none 0 0, .slice none 0 0] 30)).alloc (.cells #[v, .int .i64 0, .int .i64 0] 79)).alloc (.cells #[.slice none 0 0, .slice none 0 0, .slice none 0 0] 30)) := by go_grown
  refine ⟨⟨_, _, _, blk_alloc (blk_alloc (blk_new _ _) _) _⟩, ⟨v, 0, blk_alloc ?_ _, hv.below hb (Nat.le_refl _), Nat.zero_le _, rfl⟩, CodeSt.start ?_, hb⟩
  · have := blk_new (w.alloc (.cells #[.slice none 0 0, .slice none 0 0, .slice none 0 0] 30)) (.cells #[v, .int .i64 0, .int .i64 0] 79)
    simpa using this
  · have := blk_new ((w.alloc (.cells #[.slice none 0 0, .slice none 0 0, .slice none 0 0] 30)).alloc (.cells #[v, .int .i64 0, .int .i64 0] 79)) (.cells #[.slice none 0 0, .slice none 0 0, .slice none 0 0] 30)
    simpa using this

theorem rcount_p {B p : Nat} {w : World} {b : List UInt8} {x : Except Int (List UInt8)} (hp : Hid (RrAt B p b x w)) (hB : B ≤ p) :
    ∃ n x', countX x = (n, x') ∧ Hid (I64 n) ∧ Calls Try.prog 30 #[.pointer (some ⟨p, 0, none⟩)] w fun e w' => Hid (Only p w w') ∧ e = .returned (.int .i64 n) ∧ Hid (RrAt B p b x' w') := by
  refine ⟨(countX x).1, (countX x).2, rfl, Lib.hid ?_, (rcount_any B p w b x hp.out hB).mono ?_⟩
  · have h := numX_bd x
    unfold countX
    cases hx : numX x with
    | mk n y =>
      rw [hx] at h
      cases y with
      | error c => exact h
      | ok r =>
        show I64 (if n < 0 ∨ 10000 < n then (n, Except.error 1) else (n, Except.ok r)).1
        split <;> exact h
  · rintro e w' ⟨h1, h2, h3⟩
    exact ⟨Lib.hid h1, h2, Lib.hid h3⟩
theorem rnum_p {B p : Nat} {w : World} {b : List UInt8} {x : Except Int (List UInt8)} (hp : Hid (RrAt B p b x w)) (hB : B ≤ p) :
    ∃ n x', numX x = (n, x') ∧ Hid (I64 n) ∧ Calls Try.prog 31 #[.pointer (some ⟨p, 0, none⟩)] w fun e w' => Hid (Only p w w') ∧ e = .returned (.int .i64 n) ∧ Hid (RrAt B p b x' w') := by
  refine ⟨(numX x).1, (numX x).2, rfl, Lib.hid (numX_bd x), (rnum_any B p w b x hp.out hB).mono ?_⟩
  rintro e w' ⟨h1, h2, h3⟩
  exact ⟨Lib.hid h1, h2, Lib.hid h3⟩

/-- The rows behind a reading. -/
theorem parts_but2 {N cb p : Nat} {w w' : World} {v0 v1 v2 : Value} {os : List Cd.GOp} {fs : List Cd.GFn} {ks : List (List Int)} {c' : Array Value} (h0 : w.heap[cb]? = some (.cells #[v0, v1, v2] 30 (0, 0))) (h1 : RowO N w v0 os) (h2 : RowF N w v1 fs) (h3 : RowK N w v2 ks) (hb : But p w w') (hp : w.heap[p]? = some (.cells c' 79 (0, 0))) :
    Hid (w'.heap[cb]? = some (.cells #[v0, v1, v2] 30 (0, 0))) ∧ Hid (RowO N w' v0 os) ∧ Hid (RowF N w' v1 fs) ∧ Hid (RowK N w' v2 ks) :=
  ⟨Lib.hid (blk_but h0 hb hp (by decide)), Lib.hid ⟨own_but h1.1 hb hp (by decide), h1.2⟩, Lib.hid (h2.but hb hp (by decide) (by decide)), Lib.hid (h3.but hb hp (by decide) (by decide))⟩

theorem RrAt.alloc {B p : Nat} {w : World} {b : List UInt8} {x : Except Int (List UInt8)} (h : RrAt B p b x w) (hB : B ≤ p) (o : Obj) : RrAt B p b x (w.alloc o) :=
  h.keep (Below.heap_alloc _ _ _ h.lt) ((Below.refl p w).alloc (Nat.le_of_lt h.lt) o) hB

/-- A store to the code's variable leaves the reader. -/
theorem rrst_push {w wa wb : World} {b : List UInt8} {x : Except Int (List UInt8)} {C C' : Cd.GCode} {base e size n : Nat} {v v' : Value} {xs : List Value} {i : Nat} (h : RRSt w wa b x C')
    (hown : wa.ownsRow base e size v n xs) (hbase : w.heap.size ≤ base) (he1 : e ≠ 79) (he2 : e ≠ 30) (hg : wa.grownBy wb v.ownBlock) (hC : CodeSt w.heap.size (w.heap.size + 1 + 1) (wb.setCell ⟨w.heap.size + 1 + 1, i, none⟩ v') C) : RRSt w (wb.setCell ⟨w.heap.size + 1 + 1, i, none⟩ v') b x C := by
  obtain ⟨a, m, cap, k, h1⟩ := h.rd.blk
  obtain ⟨v0, v1, v2, h0⟩ := h.res
  have hl := blk_lt h1
  have g1 := (blk_grown h1 hg (fun e0 => own_ne_blk hown h1 he1 e0.symm)).trans h1.symm
  have g2 := blk_grown h0 hg (fun e0 => own_ne_blk hown h0 he2 e0.symm)
  have hb1 : Below w.heap.size wa wb := Below.grown (Below.refl _ _) hg (by omega) (fun k hk => by have := (hown.lt k hk).1; omega)
  have hb2 := hb1.setCell (p := ⟨w.heap.size + 1 + 1, i, none⟩) (by show w.heap.size ≤ w.heap.size + 1 + 1; omega) v'
  refine ⟨⟨v0, v1, v2, blk_set_other g2 (by omega) _ _⟩, ?_, hC, h.bel.trans hb2⟩
  cases x with
  | ok r =>
    obtain ⟨v, i', h, hv, h1', h2⟩ := h.rd
    exact ⟨v, i', blk_set_other (g1.trans h) (by omega) _ _, hv.below hb2 (Nat.le_refl _), h1', h2⟩
  | error c =>
    obtain ⟨a, n, cap, i', hc, h⟩ := h.rd
    exact ⟨a, n, cap, i', hc, blk_set_other (g1.trans h) (by omega) _ _⟩

/-- Within a round: what lay there stays, but the reader. -/
structure KSt (N : Nat) (wr wx : World) (b : List UInt8) (x : Except Int (List UInt8)) : Prop where
  but : But (N + 1) wr wx
  rd : RrAt N (N + 1) b x wx
theorem KSt.refl {N : Nat} {w : World} {b : List UInt8} {x : Except Int (List UInt8)} (h : RrAt N (N + 1) b x w) : KSt N w w b x := ⟨But.refl _ _, h⟩
theorem KSt.call {N : Nat} {wr wx wy : World} {b : List UInt8} {x x' : Except Int (List UInt8)} (h : KSt N wr wx b x) (ho : Only (N + 1) wx wy) (hr : RrAt N (N + 1) b x' wy) : KSt N wr wy b x' := ⟨h.but.trans ho.but, hr⟩
theorem KSt.alloc {N : Nat} {wr wx : World} {b : List UInt8} {x : Except Int (List UInt8)} (h : KSt N wr wx b x) (o : Obj) : KSt N wr (wx.alloc o) b x := ⟨h.but.alloc (Nat.le_of_lt h.rd.lt) o, h.rd.alloc (by omega) o⟩
theorem KSt.put {N q i : Nat} {wr wx : World} {b : List UInt8} {x : Except Int (List UInt8)} (h : KSt N wr wx b x) (hq : wr.heap.size ≤ q) (hN : N + 1 < wr.heap.size) (v : Value) : KSt N wr (wx.setCell ⟨q, i, none⟩ v) b x :=
  ⟨h.but.set q i v hq (by omega), h.rd.keep (Below.heap_setCell wx ⟨q, i, none⟩ v (N + 1) (by show N + 1 ≠ q; omega)) ((Below.refl _ _).setCell (p := ⟨q, i, none⟩) (by show N + 1 ≤ q; omega) v) (by omega)⟩
theorem KSt.grown {N base e size n : Nat} {wr w1 w2 : World} {b : List UInt8} {x : Except Int (List UInt8)} {v : Value} {xs : List Value} {o : Obj} (h : KSt N wr w1 b x) (hN : N + 1 < wr.heap.size) (hown : w1.ownsRow base e size v n xs) (hbase : wr.heap.size ≤ base) (hg : (w1.alloc o).grownBy w2 v.ownBlock) : KSt N wr w2 b x := by
  refine ⟨h.but.grown (by omega) hown hbase hg, h.rd.keep ?_ (Below.grown ((Below.refl _ w1).alloc (Nat.le_of_lt h.rd.lt) o) hg (by have := h.rd.lt; simp; omega) (fun k hk => by have := (hown.lt k hk).1; omega)) (by omega)⟩
  obtain ⟨a, m, cap, i, h1⟩ := h.rd.blk
  exact (blk_grown (blk_alloc h1 o) hg (fun e0 => by have := (hown.lt _ e0.symm).1; omega)).trans h1.symm
end Go.Proofs.Ytjomajfgoaifbaa
