/-
  PROVED HERE: the program's scanner: the end of a line. No condition beyond the lemmas' own premises.
-/
import Derived.Test.YtjickecdkmljpaaDoorLxP3
namespace Go.Proofs.YtjickecdkmljpaaDoor
open Go.RowKit

def tokCells (t : Lx.Tok) : List Value := [.int .i64 t.kind, .string (str t.text), .int .i64 t.num, .int .i64 (t.pos : Int)]
theorem tok_info : (Tryd.prog.info? 29).map (fun i => (i.zero, i.size, i.bytes)) = some (some (.agg #[.int .i64 0, .string ByteArray.empty, .int .i64 0, .int .i64 0]), 4, 40) := by kernel_rfl
/-- A row of tokens of the call's own. -/
def ToksV (N : Nat) (w : World) (v : Value) (l : List Lx.Tok) : Prop := w.ownsRow N 29 4 v l.length (l.flatMap tokCells)
/-- Where the scanner stands. -/
structure ScSt (N p : Nat) (w : World) (S : ByteArray) (i : Nat) (line : Bool) (acc : List Lx.Tok) : Prop where
  at_ : ∃ v, ScAt p w S i line v ∧ ToksV N w v acc
/-- What the end of a line leaves. -/
def EndPost (N p : Nat) (S : ByteArray) (i : Nat) (line : Bool) (acc : List Lx.Tok) (w : World) (e : Ending) (w' : World) : Prop :=
  e = .returned (.tuple #[]) ∧ ScSt N p w' S i false (Lx.close acc line i) ∧ Below N w w'
theorem end_post {N p i : Nat} {S : ByteArray} {line : Bool} {acc acc' : List Lx.Tok} {w w' : World} (h : Lx.close acc line i = acc') (hs : ScSt N p w' S i false acc') (hb : Below N w w') : EndPost N p S i line acc w (.returned (.tuple #[])) w' := ⟨rfl, by rw [h]; exact hs, hb⟩

set_option maxRecDepth 100000 in
theorem end_false (N p i : Nat) (S : ByteArray) (acc : List Lx.Tok) (w : World) (h : ScSt N p w S i false acc) (hN : N ≤ p) : Calls Tryd.prog 18 #[.pointer (some ⟨p, 0, none⟩)] w (EndPost N p S i false acc w) := by
  obtain ⟨v, hp, hv⟩ := h.at_
  have c2 := blk_cell hp 2
  have f2 := blk_free hp 2
  have hpl := blk_lt hp
  simp only [List.getElem?_toArray, List.getElem?_cons_zero, List.getElem?_cons_succ] at c2
  have HP := Lib.hid hp
  have HV := Lib.hid hv
  clear hp hv h
  go_enter Tryd.func18, Tryd.ntmps18
  go_wp2_with fail
  go_quiet (fail)
  go_wp2
  go_returns
  have hb : Below N w (w.drewN nq) := ⟨rfl, rfl, rfl, Nat.le_refl _, fun _ _ => rfl⟩
  exact ⟨rfl, ⟨v, blk_set (w := w.drewN nq) HP.out 2 (.bool false), own_set (w := w.drewN nq) HV.out HP.out (by decide)⟩, hb.setCell (p := ⟨p, 2, none⟩) hN _⟩

theorem close_no {ini : List Lx.Tok} {t : Lx.Tok} {i : Nat} (h : Lx.ends t = false) : Lx.close (ini ++ [t]) true i = ini ++ [t] := by simp [Lx.close, h]
theorem close_yes {ini : List Lx.Tok} {t : Lx.Tok} {i : Nat} (h : Lx.ends t = true) : Lx.close (ini ++ [t]) true i = ini ++ [t] ++ [Lx.semi i] := by simp [Lx.close, h]
theorem tok_one (a n p : Int) (x : ByteArray) : ∀ u ∈ [Value.int .i64 a, .string x, .int .i64 n, .int .i64 p], u.oneCell' = true := by
  intro u hu
  simp only [List.mem_cons, List.not_mem_nil, or_false] at hu
  rcases hu with rfl | rfl | rfl | rfl <;> rfl
theorem toks_len (l : List Lx.Tok) (n : Nat) (h : l.length = n) : (l.flatMap tokCells).length = n * 4 := by
  subst h
  induction l with
  | nil => rfl
  | cons x l ih => simp only [List.flatMap_cons, List.length_append, ih, List.length_cons]; simp [tokCells]; omega
theorem toks_row {N : Nat} {w : World} {v : Value} {ini : List Lx.Tok} {t : Lx.Tok} (h : w.ownsRow N 29 4 v (ini ++ [t]).length ((ini ++ [t]).flatMap tokCells)) : w.ownsRow N 29 4 v (ini.length + 1) ((ini ++ [t]).flatMap tokCells) := by
  rwa [show (ini ++ [t]).length = ini.length + 1 by simp] at h
theorem toks_snoc {N : Nat} {w : World} {v : Value} {acc : List Lx.Tok} {t : Lx.Tok} {n : Nat} (h : w.ownsRow N 29 4 v n (acc.flatMap tokCells ++ tokCells t)) (hn : n = acc.length + 1) : ToksV N w v (acc ++ [t]) := by
  subst hn
  unfold ToksV
  rw [List.flatMap_append, List.length_append]
  simpa using h
theorem toks_last {N : Nat} {w : World} {g n cap : Nat} {ini : List Lx.Tok} {t : Lx.Tok} (h : ToksV N w (.slice (some ⟨g, 0, none⟩) n cap) (ini ++ [t])) : n = ini.length + 1 ∧ w.cell? ⟨g, ini.length * 4, none⟩ = some (.int .i64 t.kind) ∧ w.cell? ⟨g, ini.length * 4 + 1, none⟩ = some (.string (str t.text)) ∧ w.cell? ⟨g, ini.length * 4 + 2, none⟩ = some (.int .i64 t.num) ∧ w.cell? ⟨g, ini.length * 4 + 3, none⟩ = some (.int .i64 (t.pos : Int)) := by
  have hr : w.ownsRow N 29 4 (.slice (some ⟨g, 0, none⟩) n cap) (ini ++ [t]).length ((ini ++ [t]).flatMap tokCells) := h
  have hn : n = ini.length + 1 := by
    rcases hr.2 with ⟨h0, _⟩ | ⟨g', cap', cur, hu, _⟩
    · cases h0
    · cases hu; simp
  have hl : (ini.flatMap tokCells).length = ini.length * 4 := by
    clear h hr hn
    induction ini with
    | nil => rfl
    | cons x l ih => simp only [List.flatMap_cons, List.length_append, ih, List.length_cons]; simp [tokCells]; omega
  subst hn
  rw [show (ini ++ [t]).length = ini.length + 1 by simp] at hr
  have key : ∀ j, j < 4 → w.cell? ⟨g, ini.length * 4 + j, none⟩ = (tokCells t)[j]? := by
    intro j hj
    have hc := hr.cellAt (ini.length * 4 + j) (by omega)
    have hL : ((ini ++ [t]).flatMap tokCells)[ini.length * 4 + j]? = (tokCells t)[j]? := by
      rw [List.flatMap_append, List.getElem?_append_right (by omega), hl, Nat.add_sub_cancel_left]
      simp
    exact hc.trans hL
  exact ⟨rfl, key 0 (by omega), key 1 (by omega), key 2 (by omega), key 3 (by omega)⟩

theorem ends_is (t : Lx.Tok) (b : Bool) (w : World) (h : Hid (Lx.ends t = b)) : Calls Tryd.prog 30 #[.agg #[.int .i64 t.kind, .string (str t.text), .int .i64 t.num, .int .i64 (t.pos : Int)]] w fun e w' => e = .returned (.bool b) ∧ Below w.heap.size w w' := by
  have := ends_any t w
  rw [h.out] at this
  exact this
set_option maxRecDepth 100000 in
set_option maxHeartbeats 1000000 in
theorem end_true (N p i : Nat) (S : ByteArray) (ini : List Lx.Tok) (t : Lx.Tok) (w : World) (h : ScSt N p w S i true (ini ++ [t])) (hN : N ≤ p) (hl : ini.length ≤ 12010) : Calls Tryd.prog 18 #[.pointer (some ⟨p, 0, none⟩)] w (EndPost N p S i true (ini ++ [t]) w) := by
  obtain ⟨v, hp, hv⟩ := h.at_
  obtain ⟨g, cap, hlit⟩ := own_lit hv (by simp)
  rw [show (ini ++ [t]).length = ini.length + 1 by simp] at hlit
  subst hlit
  obtain ⟨_, x0, x1, x2, x3⟩ := toks_last hv
  have hgl := (World.ownsRow.lt hv g rfl).2
  have hgN := (World.ownsRow.lt hv g rfl).1
  have c1 := blk_cell hp 1
  have c2 := blk_cell hp 2
  have c3 := blk_cell hp 3
  have hpl := blk_lt hp
  simp only [List.getElem?_toArray, List.getElem?_cons_zero, List.getElem?_cons_succ] at c1 c2 c3
  have HP := Lib.hid hp
  have HV := Lib.hid hv
  have wr1 : IntKind.i64.wrap ((ini.length : Int) + 1 - 1) = (ini.length : Int) := by rw [Int.add_sub_cancel]; exact IntWalk.i64_in _ (by omega)
  have wr2 : IntKind.i64.wrap (ini.length : Int) = (ini.length : Int) := IntWalk.i64_in _ (by omega)
  have bd1 : (0 : Int) ≤ (ini.length : Int) := by omega
  have bd2 : (ini.length : Int) < (ini.length : Int) + 1 := by omega
  obtain ⟨i0, hi, hz0, hz1, hz2⟩ := info_parts tok_info
  clear hp hv h
  cases hE : Lx.ends t with
  | false =>
    have HE := Lib.hid hE
    clear hE
    go_enter Tryd.func18, Tryd.ntmps18
    go_wp2_with fail
    go_region_held3 (fun w' => Below w.heap.size w w' ∧ w'.cell? ⟨p, 2, none⟩ = some (.bool true) ∧ w'.cell? ⟨p, 3, none⟩ = some (.slice (some ⟨g, 0, none⟩) (ini.length + 1) cap) ∧ w'.cell? ⟨g, ini.length * 4, none⟩ = some (.int .i64 t.kind) ∧ w'.cell? ⟨g, ini.length * 4 + 1, none⟩ = some (.string (str t.text)) ∧ w'.cell? ⟨g, ini.length * 4 + 2, none⟩ = some (.int .i64 t.num) ∧ w'.cell? ⟨g, ini.length * 4 + 3, none⟩ = some (.int .i64 (t.pos : Int))) ((refine ⟨?_, ?_, ?_, ?_, ?_, ?_, ?_⟩ <;> first | assumption | exact (Below.refl _ _).drew))
      ((go_at_call 30; refine (ends_is t false _ HE).mono ?_; rintro e w5 ⟨rfl, hb5⟩; have hb6 : Below w.heap.size w w5 := ((Below.refl w.heap.size w).drew).trans hb5; have d2 := (hb6.cell (p := ⟨p, 2, none⟩) hpl).trans c2; have d3 := (hb6.cell (p := ⟨p, 3, none⟩) hpl).trans c3; have y0 := (hb6.cell (p := ⟨g, ini.length * 4, none⟩) hgl).trans x0; have y1 := (hb6.cell (p := ⟨g, ini.length * 4 + 1, none⟩) hgl).trans x1; have y2 := (hb6.cell (p := ⟨g, ini.length * 4 + 2, none⟩) hgl).trans x2; have y3 := (hb6.cell (p := ⟨g, ini.length * 4 + 3, none⟩) hgl).trans x3))
    have HB6 := Lib.hid hb6
    have m1 := Lib.hid (blk_below HP.out hb6 hpl)
    have d2f := (hb6.frozen (p := ⟨p, 2, none⟩) hpl).trans (blk_free HP.out 2)
    clear wr1 wr2 bd1 bd2 hb5 y0 y1 y2 y3 d3
    go_wp2
    go_returns
    have hb : Below N w w5 := HB6.out.mono (by omega)
    exact end_post (close_no HE.out) ⟨_, blk_set m1.out 2 (.bool false), own_set (own_below HV.out HB6.out (fun k hk => by cases hk; exact hgl)) m1.out (by decide)⟩ (hb.setCell (p := ⟨p, 2, none⟩) hN _)
  | true =>
    have HE := Lib.hid hE
    clear hE
    go_enter Tryd.func18, Tryd.ntmps18
    go_wp2_with fail
    go_region_held3 (fun w' => Below w.heap.size w w' ∧ w'.cell? ⟨p, 2, none⟩ = some (.bool true) ∧ w'.cell? ⟨p, 3, none⟩ = some (.slice (some ⟨g, 0, none⟩) (ini.length + 1) cap) ∧ w'.cell? ⟨g, ini.length * 4, none⟩ = some (.int .i64 t.kind) ∧ w'.cell? ⟨g, ini.length * 4 + 1, none⟩ = some (.string (str t.text)) ∧ w'.cell? ⟨g, ini.length * 4 + 2, none⟩ = some (.int .i64 t.num) ∧ w'.cell? ⟨g, ini.length * 4 + 3, none⟩ = some (.int .i64 (t.pos : Int))) ((refine ⟨?_, ?_, ?_, ?_, ?_, ?_, ?_⟩ <;> first | assumption | exact (Below.refl _ _).drew))
      ((go_at_call 30; refine (ends_is t true _ HE).mono ?_; rintro e w5 ⟨rfl, hb5⟩; have hb6 : Below w.heap.size w w5 := ((Below.refl w.heap.size w).drew).trans hb5; have d2 := (hb6.cell (p := ⟨p, 2, none⟩) hpl).trans c2; have d3 := (hb6.cell (p := ⟨p, 3, none⟩) hpl).trans c3; have y0 := (hb6.cell (p := ⟨g, ini.length * 4, none⟩) hgl).trans x0; have y1 := (hb6.cell (p := ⟨g, ini.length * 4 + 1, none⟩) hgl).trans x1; have y2 := (hb6.cell (p := ⟨g, ini.length * 4 + 2, none⟩) hgl).trans x2; have y3 := (hb6.cell (p := ⟨g, ini.length * 4 + 3, none⟩) hgl).trans x3))
    have HB6 := Lib.hid hb6
    have m1 := Lib.hid (blk_below HP.out hb6 hpl)
    have d2f := (hb6.frozen (p := ⟨p, 2, none⟩) hpl).trans (blk_free HP.out 2)
    have d1 := (hb6.cell (p := ⟨p, 1, none⟩) hpl).trans c1
    have d3f := (hb6.frozen (p := ⟨p, 3, none⟩) hpl).trans (blk_free HP.out 3)
    have HV5 : Hid (w5.ownsRow N 29 4 (.slice (some ⟨g, 0, none⟩) (ini.length + 1) cap) (ini.length + 1) ((ini ++ [t]).flatMap tokCells)) := Lib.hid (toks_row (own_below HV.out hb6 (fun k hk => by cases hk; exact hgl)))
    have hs5 := hb6.size
    have hp5 : p < w5.heap.size := by omega
    have hg5 : g < w5.heap.size := by omega
    clear wr1 wr2 bd1 bd2 hb5 y0 y1 y2 y3 d2 c1 c2 c3 x0 x1 x2 x3
    have hlen : ((ini ++ [t]).flatMap tokCells).length = (ini.length + 1) * 4 := toks_len _ _ (by simp)
    have HBA : Hid (((w5.alloc (.cells (tokCells (Lx.semi i)).toArray 29)).drew).heap[p]? = some (.cells #[.string S, .int .i64 (i : Int), .bool true, .slice (some ⟨g, 0, none⟩) (ini.length + 1) cap] 35 (0, 0))) := Lib.hid (blk_alloc m1.out _)
    have Hlen := Lib.hid hlen
    clear hlen
    go_wp2_with fail
    go_region_law (refine step_append_lies _ (by rfl) _ _ _ (by rfl) N 29 i0 _ 4 40 Tryd.underlying22 hi hz0 hz1 hz2 rfl (by omega) (.slice (some ⟨g, 0, none⟩) (ini.length + 1) cap) (ini.length + 1) ((ini ++ [t]).flatMap tokCells) (by rfl) (by exact HV5.out.alloc _) ⟨w5.heap.size, 0, none⟩ 1 1 (tokCells (Lx.semi i)) (by rfl) (by rfl) (World.news_of_block (cs := (tokCells (Lx.semi i)).toArray) (t := 29) (fr := (0, 0)) (heap_alloc_new _ _)) (tok_one _ _ _ _) (by omega) (by unfold maxLen; omega) (by omega) (by simp; omega) (w5.heap.size + 1) (by simp) ?_; intro g2 cap2 w8 hown1 hgrow hat hlt; have hb8 := blk_grown HBA.out hgrow (fun e0 => own_ne_blk HV5.out m1.out (by decide) e0.symm); have e0 := blk_cell hb8 3; have e1 := blk_free hb8 3; have e2 := blk_cell hb8 2; have e3 := blk_free hb8 2; have hl8 := blk_lt hb8; simp only [List.getElem?_toArray, List.getElem?_cons_zero, List.getElem?_cons_succ] at e0 e2; have HG := Lib.hid hgrow; have HO8 := Lib.hid hown1; have HB8 := Lib.hid hb8; clear hb8 hgrow hown1 hat)
    all_goals
      go_wp2
      go_returns
      have hb8 : Below N w w8 := Below.grown ((HB6.out.mono (by omega)).alloc (by omega) _).drew HG.out (by simp; omega) (fun k hk => by cases hk; exact hgN)
      have hb9 := ((hb8.setCell (p := ⟨p, 3, none⟩) hN (.slice (some ⟨g2, 0, none⟩) (ini.length + 1 + 1) cap2)).setCell (p := ⟨p, 2, none⟩) hN (.bool false))
      have r1 := blk_set HB8.out 3 (.slice (some ⟨g2, 0, none⟩) (ini.length + 1 + 1) cap2)
      have ho : ToksV N w8 (.slice (some ⟨g2, 0, none⟩) (ini.length + 1 + 1) cap2) (ini ++ [t] ++ [Lx.semi i]) := toks_snoc HO8.out (by simp)
      exact end_post (close_yes HE.out) ⟨_, blk_set r1 2 (.bool false), own_set (own_set ho HB8.out (by decide)) r1 (by decide)⟩ hb9
end Go.Proofs.YtjickecdkmljpaaDoor
