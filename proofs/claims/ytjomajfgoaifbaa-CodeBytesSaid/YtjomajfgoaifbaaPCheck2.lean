/-
  PROVED HERE: the program's Check answers as chapter 16 says. No condition beyond the lemmas' own premises.
-/
import Derived.Test.YtjomajfgoaifbaaPCheck
import Derived.Test.YtjomajfgoaifbaaPDo9
import Derived.Deep.LoopGhost
import Derived.StillTailTactics
import Derived.Deep.DeepCutAuto
namespace Go.Proofs.Ytjomajfgoaifbaa
open Go.RowKit

set_option maxRecDepth 100000 in
set_option maxHeartbeats 4000000 in
theorem pcheck_size (B : Nat) (w : World) (vo vf vk : Value) (C : Cd.GCode) (hC : CodeV B w vo vf vk C) (hs : Cd.sizeBad C = true) :
    Calls Try.prog 8 #[.agg #[vo, vf, vk]] w fun e w' => e = .returned (.int .i64 (Cd.check C)) ∧ Below w.heap.size w w' := by
  have HC := Lib.hid hC
  obtain ⟨_, ao, bo, oo, co, rfl, _, _, ho, _⟩ := hC.ops
  obtain ⟨_, af, bf, of_, cf, rfl, _, _, hf, _⟩ := hC.fns
  obtain ⟨ak, bk, ok, ck, rfl, _, _, hk, _⟩ := hC.kinds
  clear hC ho hf hk
  by_cases s1 : 8000 < C.ops.length
  · have e1 : Hid (Cd.check C = 1) := Lib.hid (by unfold Cd.check Cd.sizeBad; simp [s1])
    go_enter Try.func8, Try.ntmps8
    go_wp2
    go_returns
    rw [e1.out]
    exact ⟨rfl, by go_grown⟩
  by_cases s2 : 1200 < C.fns.length
  · have e1 : Hid (Cd.check C = 1) := Lib.hid (by unfold Cd.check Cd.sizeBad; simp [s2])
    go_enter Try.func8, Try.ntmps8
    go_wp2
    go_returns
    rw [e1.out]
    exact ⟨rfl, by go_grown⟩
  by_cases s3 : 1200 < C.kinds.length
  · have e1 : Hid (Cd.check C = 1) := Lib.hid (by unfold Cd.check Cd.sizeBad; simp [s3])
    go_enter Try.func8, Try.ntmps8
    go_wp2
    go_returns
    rw [e1.out]
    exact ⟨rfl, by go_grown⟩
  by_cases s4 : C.fns.length = 0
  · have e1 : Hid (Cd.check C = 1) := Lib.hid (by unfold Cd.check Cd.sizeBad; simp [s4])
    rw [s4]
    go_enter Try.func8, Try.ntmps8
    go_wp2
    go_returns
    rw [e1.out]
    exact ⟨rfl, by go_grown⟩
  exfalso
  unfold Cd.sizeBad at hs
  have := of_decide_eq_true hs
  omega

/-- A checker as it is made: the table, the code's slices, whatever depths and work. -/
structure CkAt (n r p : Nat) (w wx : World) (vo vf vk : Value) : Prop where
  tab : TabAt r wx
  blk : ∃ vd vw, wx.heap[p]? = some (.cells #[vo, vf, vk, .map (some r), vd, vw] 59 (0, 0))
  bel : Below n w wx
  rp : r + 2 < p
  nr : n ≤ r

theorem CkAt.step {n r p : Nat} {w wx wy : World} {vo vf vk : Value} (h : CkAt n r p w wx vo vf vk) (hb : Below wx.heap.size wx wy) : CkAt n r p w wy vo vf vk := by
  obtain ⟨vd, vw, hv⟩ := h.blk
  have hl := h.rp
  have hn := h.nr
  have hlt := blk_lt hv
  exact ⟨h.tab.grow hb, ⟨vd, vw, blk_below hv hb hlt⟩, h.bel.trans (hb.mono (by omega)), h.rp, h.nr⟩

theorem fill_cell {r c b o : Nat} {W w : World} {bs : List Int} {v : Option Value} (h : FillN r W c bs w) (hb : b < r) (hv : W.cell? ⟨b, o, none⟩ = v) : w.cell? ⟨b, o, none⟩ = v :=
  (h.2.1.cell (p := ⟨b, o, none⟩) hb).trans hv

theorem ck_made {r r0 : Nat} {w W w2 : World} {vo vf vk : Value} (hb : Below w.heap.size w W) (hn : w.heap.size ≤ r) (hr : r0 = r) (h : FillN r0 W 30 [8, 10] w2) :
    CkAt w.heap.size r w2.heap.size w (w2.alloc (.cells #[vo, vf, vk, .map (some r), .slice none 0 0, .slice none 0 0] 59)) vo vf vk := by
  subst hr
  have ht := tab_of_fill h
  have hlt := ht.lt
  refine ⟨ht.grow ((Below.refl _ _).alloc (Nat.le_refl _) _), ⟨_, _, blk_new _ _⟩, hb.trans ((h.2.1.mono hn).alloc (by omega) _), by omega, hn⟩

theorem okAll_parts {C : Cd.GCode} (h : Cd.okAll C = true) : C.fns.all (Cd.fnOK C.ops.length) = true ∧ C.kinds.all (Cd.kindOK C.fns.length) = true ∧ C.ops.all (Cd.rangeB C.ops.length C.fns.length C.kinds.length) = true := by
  unfold Cd.okAll at h
  simp only [Bool.and_eq_true] at h
  exact ⟨h.1.1, h.1.2, h.2⟩
theorem check_forms' {C : Cd.GCode} (h : Cd.sizeBad C = false) (h1 : Cd.okAll C = true) : Cd.check C = if C.fns.all (Cd.formOK C) then 0 else 12 :=
  check_forms h (okAll_parts h1).1 (okAll_parts h1).2.1 (okAll_parts h1).2.2
theorem okAll_op {C : Cd.GCode} (h1 : Cd.okAll C = true) : ∀ o ∈ C.ops, Cd.rangeB C.ops.length C.fns.length C.kinds.length o = true := List.all_eq_true.1 (okAll_parts h1).2.2
theorem okAll_fn {C : Cd.GCode} (h1 : Cd.okAll C = true) : ∀ f ∈ C.fns, 0 ≤ f.start ∧ f.start < C.ops.length := by
  intro f hf
  have h := List.all_eq_true.1 (okAll_parts h1).1 f hf
  rw [fnOK_parts] at h
  simp only [Bool.and_eq_true] at h
  have := of_decide_eq_true h.1.1.2
  omega

/-- A box made, then what a call makes above it. -/
theorem box_after {w w3 : World} {o o2 : Obj} (hb : Below ((w.alloc o).alloc o2).heap.size ((w.alloc o).alloc o2) w3) : Below w.heap.size w w3 ∧ w3.heap[w.heap.size]? = some o :=
  ⟨(((Below.refl _ _).alloc (Nat.le_refl _) _).alloc (by simp) _).trans (hb.mono (by simp; omega)), blk_below (blk_alloc (blk_new w o) o2) hb (by simp; omega)⟩

/-- Where the walk over a function begins. -/
structure Inner (B n r p q : Nat) (w W5 : World) (vo vf vk : Value) (C : Cd.GCode) (bx : Array Value) : Prop where
  tab : TabAt r W5
  codeB : CodeV B W5 vo vf vk C
  code : CodeV p W5 vo vf vk C
  box : W5.heap[q]? = some (.cells bx 61 (0, 0))
  bel : Below n w W5
  rp : r + 2 < p
  nr : n ≤ r
  Bp : B ≤ p

theorem inner_begin {B n r p q g m : Nat} {w w3 : World} {vo vf vk vd vw : Value} {C : Cd.GCode} {bx : Array Value} (h : CkAt n r p w w3 vo vf vk) (hC : CodeV B w3 vo vf vk C) (hB : B ≤ n) (_hP : w3.heap[p]? = some (.cells #[vo, vf, vk, .map (some r), vd, vw] 59 (0, 0))) (hbox : w3.heap[q]? = some (.cells bx 61 (0, 0)))
    (hn : n ≤ p) (hne : q ≠ p) : Inner B n r p q w ((w3.setCell ⟨p, 4, none⟩ (.slice (some ⟨g, 0, none⟩) m m)).setCell ⟨p, 5, none⟩ (.slice none 0 0)) vo vf vk C bx := by
  have hb : Below p w3 ((w3.setCell ⟨p, 4, none⟩ (.slice (some ⟨g, 0, none⟩) m m)).setCell ⟨p, 5, none⟩ (.slice none 0 0)) := ((Below.refl p w3).setCell (p := ⟨p, 4, none⟩) (Nat.le_refl _) _).setCell (p := ⟨p, 5, none⟩) (Nat.le_refl _) _
  have hC5 := hC.below hb (by omega)
  exact ⟨h.tab.below hb h.rp, hC5, hC5.up (by omega), blk_set_other (blk_set_other hbox hne _ _) hne _ _, h.bel.trans (hb.mono hn), h.rp, h.nr, by omega⟩

theorem Inner.back {B n r p q N : Nat} {w W5 wr : World} {vo vf vk : Value} {C : Cd.GCode} {bx : Array Value} {D W : List Int} (h : Inner B n r p q w W5 vo vf vk C bx) (hc : ChkSt p N r wr p vo vf vk D W) (hk : Keep p N p W5 wr) : CkAt n r p w wr vo vf vk := by
  have h1 := h.rp
  have h2 := h.nr
  obtain ⟨_, _, g, cap, vr, hb, _, _⟩ := hc
  exact ⟨h.tab.below hk.low h1, ⟨_, _, hb⟩, h.bel.trans (hk.low.mono (by omega)), h1, h2⟩

theorem keep_set {N p : Nat} {w wd : World} (h : Below w.heap.size w wd) (hp : p ≤ w.heap.size) (hN : N ≤ w.heap.size) (i : Nat) (v : Value) : Keep p N p w ((wd.setCell ⟨p, i, none⟩ v).drew) :=
  ⟨((h.mono hp).setCell (p := ⟨p, i, none⟩) (Nat.le_refl _) v).drew, fun k hk hne => (Below.heap_setCell wd ⟨p, i, none⟩ v k hne).trans (h.block k (by omega))⟩

theorem chk_begin {r p g n N : Nat} {w : World} {vo vf vk vd vw : Value} (hb : w.heap[p]? = some (.cells #[vo, vf, vk, .map (some r), vd, vw] 59 (0, 0))) (hg : w.heap[g]? = some (.cells (List.replicate n (.int .i64 (-1))).toArray 3 (0, 0))) (hN : N ≤ g) (h8 : n ≤ 8000) (hpN : p ≤ N) :
    ChkSt p N r ((w.setCell ⟨p, 4, none⟩ (.slice (some ⟨g, 0, none⟩) n n)).setCell ⟨p, 5, none⟩ (.slice none 0 0)) p vo vf vk (List.replicate n (-1)) [] := by
  have hne : g ≠ p := fun e => by
    rw [e, hb] at hg
    have := congrArg (fun o : Option Obj => match o with | some (.cells _ t _) => t | _ => 0) hg
    simp at this
  have h1 := blk_set hb 4 (.slice (some ⟨g, 0, none⟩) n n)
  have h2 := blk_set h1 5 (.slice none 0 0)
  have g1 := blk_set_other (w := w) (p := p) (q := g) hg hne 4 (.slice (some ⟨g, 0, none⟩) n n)
  have g2 := blk_set_other g1 hne 5 (.slice none 0 0)
  have hfr : Cd.free (List.replicate n (-1)) ≤ n := by
    unfold Cd.free
    have := List.countP_le_length (p := fun x : Int => decide (x < 0)) (l := List.replicate n (-1))
    simpa using this
  refine ⟨⟨Nat.le_refl _, hpN⟩, by simp; omega, g, n, .slice none 0 0, ?_, ?_, World.ownsRow_nil _ _ _ _⟩
  · rw [h2]
    simp
  · refine ⟨by simp, Or.inr ⟨g, n, _, by simp, hN, g2, by simp, by unfold maxLen; omega, by simp, by simp⟩⟩

theorem lead_begin {C : Cd.GCode} {f : Cd.GFn} (h0 : 0 ≤ f.start) (h1 : f.start < C.ops.length) :
    Cd.Inv C f (pD (List.replicate C.ops.length (-1)) f.start 0) (fun _ => False) (pW (List.replicate C.ops.length (-1)) [] f.start 0) := by
  have hd : Cd.dAt (List.replicate C.ops.length (-1)) f.start.toNat < 0 := by
    unfold Cd.dAt
    have : f.start.toNat < C.ops.length := by omega
    simp [this]
  have hok : Cd.leadOK (List.replicate C.ops.length (-1)) f.start 0 = true := by unfold Cd.leadOK; simp [hd]; omega
  have e1 : pD (List.replicate C.ops.length (-1)) f.start 0 = (List.replicate C.ops.length (-1)).set f.start.toNat 0 := by unfold pD; rw [if_pos hok]; unfold Cd.leadD; rw [if_pos hd]
  have e2 : pW (List.replicate C.ops.length (-1)) [] f.start 0 = [f.start] := by unfold pW; rw [if_pos hok]; unfold Cd.leadW; rw [if_pos hd]; rfl
  rw [e1, e2]
  exact Cd.Inv.start h0 h1

set_option maxRecDepth 100000 in
set_option maxHeartbeats 4000000 in
theorem pcheck_main (B : Nat) (w : World) (vo vf vk : Value) (C : Cd.GCode) (hC : CodeV B w vo vf vk C) (hB : B ≤ w.heap.size) (hs : Cd.sizeBad C = false) :
    Calls Try.prog 8 #[.agg #[vo, vf, vk]] w fun e w' => e = .returned (.int .i64 (Cd.check C)) ∧ Below w.heap.size w w' := by
  have HC := Lib.hid hC
  obtain ⟨j1, ao, bo, oo, co, rfl, j2, j3, ho, j4⟩ := hC.ops
  obtain ⟨j5, af, bf, of_, cf, rfl, j6, j7, hf, j8⟩ := hC.fns
  obtain ⟨ak, bk, ok, ck, rfl, j9, j10, hk, j11⟩ := hC.kinds
  clear hC ho hf hk j1 j4 j5 j8 j11
  obtain ⟨s1, s2, s3, s4⟩ : C.ops.length ≤ 8000 ∧ C.fns.length ≤ 1200 ∧ C.kinds.length ≤ 1200 ∧ C.fns.length ≠ 0 := by
    unfold Cd.sizeBad at hs
    have := of_decide_eq_false hs
    omega
  have hsz := Lib.hid hs
  clear hs
  have hs4 : ((C.fns.length : Int) == 0) = false := by simpa using s4
  clear s4
  go_enter Try.func8, Try.ntmps8
  go_upto_region 3 with fail
  go_cut [3] (fun c wx => ∃ p r : Nat, c = .pointer (some ⟨p, 0, none⟩) ∧ Hid (CkAt w.heap.size r p w wx (.slice ao C.ops.length co) (.slice af C.fns.length cf) (.slice ak C.kinds.length ck)))
  case first =>
    go_region_with (go_at_call 18; refine (shapes_any _).mono ?_; rintro e w2 ⟨rfl, hF⟩; have q0 := fill_cell hF (b := w.heap.size) (o := 0) (v := some (.slice ao C.ops.length co)) (by simp) (by simp [World.cell?_alloc_new]); have q1 := fill_cell hF (b := w.heap.size) (o := 1) (v := some (.slice af C.fns.length cf)) (by simp) (by simp [World.cell?_alloc_new]); have q2 := fill_cell hF (b := w.heap.size) (o := 2) (v := some (.slice ak C.kinds.length ck)) (by simp) (by simp [World.cell?_alloc_new]); have HF := Lib.hid hF; clear hF)
    all_goals
      go_wp2_with fail
      go_meet
      exact ⟨_, _, rfl, Lib.hid (ck_made (((Below.refl _ _).alloc (Nat.le_refl _) _).drew) (by omega) (by simp) HF.out)⟩
  case rest =>
    obtain ⟨p, r, rfl, HK⟩ := hcut
    have hrp := HK.out.rp
    have hnr := HK.out.nr
    have hCw := Lib.hid (HC.out.below HK.out.bel hB)
    obtain ⟨vd0, vw0, hblk⟩ := HK.out.blk
    have hpl := blk_lt hblk
    have hrange := Lib.hid (pranges_any B r p wc ao af ak co cf ck vd0 vw0 C hCw.out (by omega) HK.out.tab hblk s1 s2 s3)
    have HB := Lib.hid hblk
    clear hblk
    cases gok : Cd.okAll C with
    | false =>
      have hne : Hid (Cd.check C = 11) := Lib.hid (by unfold Cd.check; rw [hsz.out, gok]; rfl)
      rw [gok] at hrange
      go_wp2_with (go_at_call 19; refine hrange.out.mono ?_; rintro e w4 ⟨rfl, hb4⟩; have HB4 := Lib.hid hb4; clear hb4)
      go_returns
      rw [hne.out]
      exact ⟨rfl, HK.out.bel.trans (HB4.out.mono (by omega))⟩
    | true =>
      rw [gok] at hrange
      go_wp2_with (go_at_call 19; refine hrange.out.mono ?_; rintro e w4 ⟨rfl, hb4⟩; have HB4 := Lib.hid (HK.out.step hb4); have HC4 := Lib.hid (hCw.out.below hb4 (by omega)); have HBl := Lib.hid (blk_below HB.out hb4 hpl); have c1 := blk_cell HBl.out 1; simp only [List.getElem?_toArray, List.getElem?_cons_zero, List.getElem?_cons_succ] at c1; clear hb4)
      have hform := Lib.hid (check_forms' hsz.out gok)
      have hfn := Lib.hid (okAll_fn gok)
      have hrng := Lib.hid (okAll_op gok)
      clear HB hCw hrange HK
      go_loopw [42] (fun i wr => Hid (CkAt w.heap.size r p w wr (.slice ao C.ops.length co) (.slice af C.fns.length cf) (.slice ak C.kinds.length ck)) ∧ Hid (CodeV B wr (.slice ao C.ops.length co) (.slice af C.fns.length cf) (.slice ak C.kinds.length ck) C) ∧ ∃ k : Nat, k ≤ C.fns.length ∧ i = .int .i64 k ∧ Hid ((C.fns.take k).all (Cd.formOK C) = true)) (fun i _ => C.fns.length - (intOf i).toNat)
      case atStart => exact ⟨HB4, HC4, 0, by omega, rfl, Lib.hid (by simp)⟩
      case round =>
        clear HB4 HC4 HBl c1
        obtain ⟨HK, HCr, k, hk, rfl, Hall⟩ := hrel
        by_cases hkn : k < C.fns.length
        · obtain ⟨fb, fo, cf', u, hv, hfB, _, p0, p1, p2, p3, p4⟩ := HCr.out.fns.at hkn
          cases hv
          have e1 : C.fns.getD k ⟨0, 0, 0, []⟩ = C.fns[k] := by simp [List.getElem?_eq_getElem hkn]
          rw [e1] at p0 p1 p2
          have hno := Lib.hid (fun h : Cd.formOK C C.fns[k] = false => (show Cd.check C = 12 by rw [hform.out, all_false hkn h]; rfl))
          have hyes := Lib.hid (fun h : Cd.formOK C C.fns[k] = true => (all_take_succ (P := Cd.formOK C) hkn).trans (by rw [Hall.out, h]))
          obtain ⟨hst0, hst1⟩ := hfn.out _ (List.getElem_mem hkn)
          rw [e1] at p4
          clear e1
          generalize C.fns[k] = f at *
          obtain ⟨k1, ut, ub, uo, uc, rfl, k2, k3, k4, k5⟩ := p4
          clear k1 k4 k5
          obtain ⟨vd, vw, hblk⟩ := HK.out.blk
          have hpl := blk_lt hblk
          have hsize := HK.out.bel.size
          have hfbl : fb < wr.heap.size := by omega
          have c0 := blk_cell hblk 0
          simp only [List.getElem?_toArray, List.getElem?_cons_zero] at c0
          have Hblk := Lib.hid hblk
          clear hblk
          have hno1 : 1 ≤ C.ops.length := by omega
          go_wp2_with fail
          refine (repeat_any _ (wr.heap.size + 1) C.ops.length (-1) ?_ (by simp) hno1 s1).mono ?_
          · have e : wr.heap.size + 1 = (wr.alloc (.cells #[.int .i64 f.params, .int .i64 f.slots, .int .i64 f.start, .slice ut f.takes.length uc] 61)).heap.size := by simp
            rw [e, World.cell?_alloc_new]
            rfl
          rintro e w3 ⟨g, rfl, hg1, hg2, hb3⟩
          obtain ⟨hw3, hbox⟩ := box_after hb3
          have hg3 : wr.heap.size + 1 + 1 ≤ g := by simpa using hg1
          clear hg1
          have HK3 := Lib.hid (HK.out.step hw3)
          have HC3 := Lib.hid (HCr.out.below hw3 (by omega))
          have hP3 := blk_below Hblk.out hw3 hpl
          have c4 := blk_cell hP3 4
          have c5 := blk_cell hP3 5
          simp only [List.getElem?_toArray, List.getElem?_cons_zero, List.getElem?_cons_succ] at c4 c5
          have d4 := blk_free hP3 4
          have d5 := blk_free hP3 5
          have e2 := blk_cell hbox 2
          simp only [List.getElem?_toArray, List.getElem?_cons_zero, List.getElem?_cons_succ] at e2
          have hpl3 := blk_lt hP3
          have hs3 := hw3.size
          have hchk := Lib.hid (chk_begin (N := wr.heap.size + 1) hP3 hg2 (by omega) s1 (by omega))
          have HP3 := Lib.hid hP3
          have Hbox := Lib.hid hbox
          have hne : wr.heap.size ≠ p := by omega
          clear hb3 hg2 hbox hP3 hw3 c0 p0 p1 p2 p3
          go_wp2_with fail
          have hI5 := Lib.hid (inner_begin (B := B) (g := g) (m := C.ops.length) HK3.out HC3.out (by omega) HP3.out Hbox.out (by omega) hne)
          generalize ((w3.setCell ⟨p, 4, none⟩ (.slice (some ⟨g, 0, none⟩) C.ops.length C.ops.length)).setCell ⟨p, 5, none⟩ (.slice none 0 0)) = W5 at *
          clear HK3 HC3 HP3 Hbox c4 c5 d4 d5 e2 hpl3 hs3
          refine (plead_int p (wr.heap.size + 1) r p _ _ _ _ C.ops _ _ f.start 0 hchk.out hI5.out.code.ops (by simp) hst0 (by omega)).mono ?_
          rintro e w6 ⟨rfl, hC6, hK6⟩
          have HC6 := Lib.hid hC6
          have HK6 := Lib.hid hK6
          have Hinv := Lib.hid (lead_begin hst0 hst1)
          clear hC6 hK6 hchk
          generalize pD (List.replicate C.ops.length (-1)) f.start 0 = D0 at *
          generalize pW (List.replicate C.ops.length (-1)) [] f.start 0 = R0 at *
          obtain ⟨wo, rfl⟩ : ∃ wo : World, wo = wr := ⟨_, rfl⟩
          go_wp2_with fail
          go_loopg [6] (2 * Cd.free D0 + R0.length) (fun m _ wr => ∃ D W : List Int, Hid (ChkSt p (wo.heap.size + 1) r wr p (.slice ao C.ops.length co) (.slice (some ⟨fb, fo, none⟩) C.fns.length cf) (.slice ak C.kinds.length ck) D W) ∧ Hid (Keep p (wo.heap.size + 1) p W5 wr) ∧ Hid (∃ S, Cd.Inv C f D S W) ∧ 2 * Cd.free D + W.length ≤ m)
          case atStart => exact ⟨D0, R0, HC6, HK6, Lib.hid ⟨_, Hinv.out⟩, Nat.le_refl _⟩
          case round =>
            clear HC6 HK6 Hinv
            obtain ⟨D, W, HCk, HKp, Hinv, hm⟩ := hrel
            have hpw := HCk.out.lt
            rcases List.eq_nil_or_concat W with rfl | ⟨L, x, rfl⟩
            · obtain ⟨ga, gc, c5⟩ := HCk.out.work
              simp only [List.length_nil] at c5
              have Hyes : Hid (Cd.formOK C f = true) := Lib.hid (by obtain ⟨S, hS⟩ := Hinv.out; exact hS.good)
              have Hall2 := Lib.hid (hyes.out Hyes.out)
              have HK2 := Lib.hid (hI5.out.back HCk.out HKp.out)
              have HC2 := Lib.hid (hI5.out.codeB.below HKp.out.low hI5.out.Bp)
              go_wp2
              go_roundw
              case rel => exact ⟨HK2, HC2, k + 1, by omega, by go_num, Hall2⟩
              case measure => simp [intOf]; omega
            · rw [List.concat_eq_append] at *
              obtain ⟨gr, gc, c5, f5, hgr, hLc, hL8, cx, hset⟩ := HCk.out.last
              have Hset := Lib.hid hset
              obtain ⟨S, hS⟩ := Hinv.out
              obtain ⟨y, rfl, hy1, hy2, hy3, hDl, hmid⟩ := inv_pop hS
              have Hmid := Lib.hid hmid
              have HDl := Lib.hid hDl
              clear hset hmid hDl hS Hinv
              go_wp2_with fail
              have x1 : IntKind.i64.wrap ((L.length : Int) + 1 - 1) = L.length := by rw [IntWalk.i64_in _ (by omega)]; omega
              go_quiet (fail)
              clear x1
              have hbx := (HKp.out.kept wo.heap.size (by omega) hne).trans hI5.out.box
              have e0 := blk_cell hbx 0
              have e1 := blk_cell hbx 1
              have e2 := blk_cell hbx 2
              have e3 := blk_cell hbx 3
              simp only [List.getElem?_toArray, List.getElem?_cons_zero, List.getElem?_cons_succ] at e0 e1 e2 e3
              clear hbx cx
              go_wp2_with fail
              obtain ⟨wd, hwd⟩ : ∃ wd, wd = wr.drewN nq := ⟨_, rfl⟩
              rw [← hwd]
              have hheap : wd.heap = wr.heap := by rw [hwd]; rfl
              have hcell : ∀ a, wd.cell? a = wr.cell? a := fun a => by rw [hwd]; rfl
              have hfroz : ∀ a, wd.frozen? a = wr.frozen? a := fun a => by rw [hwd]; rfl
              rw [← hcell] at c5 e0 e1 e2 e3
              rw [← hfroz] at f5
              have hdl : Below wr.heap.size wr wd := by rw [hwd]; exact below_drewN (Below.refl _ _) _
              have hpd : p < wd.heap.size := by rw [hheap]; exact hpw
              have Hheap := Lib.hid hheap
              have Hdl := Lib.hid hdl
              clear hheap hcell hfroz hdl hwd
              have x1 : IntKind.i64.wrap ((L.length : Int) + 1 - 1) = L.length := by rw [IntWalk.i64_in _ (by omega)]; omega
              have x2 : L.length ≤ gc := by omega
              have x3 : IntKind.i64.wrap (L.length : Int) = L.length := IntWalk.i64_in _ (by omega)
              go_still_tail 12, (by kernel_rfl)
              clear x1 x3
              change wpList _ _ _ _ _ _
              go_wp2_with fail
              have K7 := Lib.hid (HKp.out.trans (keep_set Hdl.out (by omega) HCk.out.nle 5 (.slice (some ⟨gr, 0, none⟩) L.length gc)))
              have hX := Lib.hid (show DoCtx p (wo.heap.size + 1) r p _ _ _ _ C D L y from
                ⟨(Hset.out wd Hheap.out).below ((Below.refl _ _).drew), hI5.out.tab.below K7.out.low hrp, hrp, hI5.out.code.below K7.out.low (Nat.le_refl _), HDl.out, s1, hrng.out, hy1, hy2, hy3, (by simp; omega)⟩)
              refine (pdo_any p (wo.heap.size + 1) r p _ _ _ _ C D L y f.params f.slots f.start _ hX.out).mono ?_
              rintro e w8 ⟨okb, D', W', rfl, q1, q2, q3, q4⟩
              obtain ⟨t1, t2⟩ := do_step hrng.out Hmid.out q2 q3
              have K8 := Lib.hid (K7.out.trans q4)
              have Q1 := Lib.hid q1
              clear q1 q2 q3 q4 K7 hX c5 f5 e0 e1 e2 e3
              rw [List.length_append, List.length_singleton] at hm
              cases okb with
              | false =>
                have hne := Lib.hid (hno.out (t2 rfl))
                clear t1 t2
                go_wp2
                go_returns
                rw [hne.out]
                exact ⟨rfl, hI5.out.bel.trans (K8.out.low.mono (by omega))⟩
              | true =>
                obtain ⟨S', i1, i2⟩ := t1 rfl
                have I1 := Lib.hid i1
                clear t1 t2 i1
                go_wp2
                go_roundg (2 * Cd.free D' + W'.length)
                case measure => omega
                case rel => exact ⟨D', W', Q1, K8, Lib.hid ⟨S', I1.out⟩, Nat.le_refl _⟩
        · obtain rfl : k = C.fns.length := by omega
          have hend : Hid (Cd.check C = 0) := Lib.hid (by rw [hform.out]; have := Hall.out; rw [List.take_length] at this; rw [this]; rfl)
          go_wp2
          go_returns
          rw [hend.out]
          exact ⟨rfl, HK.out.bel⟩

/-- The program's Check. -/
theorem pcheck_any (B : Nat) (w : World) (vo vf vk : Value) (C : Cd.GCode) (hC : CodeV B w vo vf vk C) (hB : B ≤ w.heap.size) :
    Calls Try.prog 8 #[.agg #[vo, vf, vk]] w fun e w' => e = .returned (.int .i64 (Cd.check C)) ∧ Below w.heap.size w w' := by
  cases hs : Cd.sizeBad C with
  | true => exact pcheck_size B w vo vf vk C hC hs
  | false => exact pcheck_main B w vo vf vk C hC hB hs
end Go.Proofs.Ytjomajfgoaifbaa
