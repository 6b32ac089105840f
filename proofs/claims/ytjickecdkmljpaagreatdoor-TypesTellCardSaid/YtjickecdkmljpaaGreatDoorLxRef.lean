/-
  PROVED HERE: what the reference's Scan makes of a text: the tokens that chapter 1 tells, or the first fault. No condition beyond the lemmas' own premises.
-/
import Derived.Test.YtjickecdkmljpaaGreatDoorPsTk
import Derived.Test.YtjickecdkmljpaaGreatDoorLxB
namespace Go.Proofs.YtjickecdkmljpaaGreatDoor
open Go.RowKit

set_option maxRecDepth 100000 in
theorem closes_any (t : Lx.Tok) (w : World) : Calls Tryz.prog 49 #[.agg #[.int .i64 t.kind, .string (str t.text), .int .i64 t.num, .int .i64 (t.pos : Int)]] w fun e w' => e = .returned (.bool (Lx.ends t)) ∧ Below w.heap.size w w' := by
 obtain ⟨kind, text, num, pos⟩ := t;dsimp only
 by_cases h1 : kind = 1
 ·subst h1
  go_enter Tryz.func49, Tryz.ntmps49
  go_wp2
  go_returns
  exact ⟨ret_bool (by simp [Lx.ends]), by go_grown⟩
 ·by_cases h2 : kind = 2
  ·subst h2
   go_enter Tryz.func49, Tryz.ntmps49
   go_wp2
   go_returns
   exact ⟨ret_bool (by simp [Lx.ends]), by go_grown⟩
  ·have g1 : (kind == 1) = false := by simpa using h1
   have g2 : (kind == 2) = false := by simpa using h2
   by_cases h3 : kind = 3
   ·subst h3;clear g1 g2
    go_enter Tryz.func49, Tryz.ntmps49
    go_wp2
    all_goals
     go_returns
     refine ⟨ret_bool ?_, by go_grown⟩
     simp_all [Lx.ends, by_toList, by_str]
   ·have g3 : (kind == 3) = false := by simpa using h3
    have HE : Hid (Lx.ends ⟨kind, text, num, pos⟩ = hasB Lx.enders (str text)) := zh (by unfold Lx.ends hasB; simp [h1, h2, h3, by_str]);clear h1 h2 h3
    go_enter Tryz.func49, Tryz.ntmps49
    go_wp2_with fail
    refine (has_any Lx.enders (w.heap.size + 1) (str text) _ ?_ (by decide)).mono ?_
    ·have := blk_new (w.alloc (.cells #[.int .i64 kind, .string (str text), .int .i64 num, .int .i64 (pos : Int)] 95)) (.cells (Lx.enders.map fun l => Value.string (str l)).toArray 9);rw [show (w.alloc (.cells #[.int .i64 kind, .string (str text), .int .i64 num, .int .i64 (pos : Int)] 95)).heap.size = w.heap.size + 1 by simp] at this
     exact this
    rintro e w' ⟨rfl, rfl⟩;go_wp2
    go_returns
    exact ⟨ret_bool HE.out.symm, by go_grown⟩

/-- What scanning leaves. -/
def ScanPost (S : ByteArray) (w : World) (e : Ending) (w' : World) : Prop :=
 Below w.heap.size w w' ∧ match Lx.scan (by_ S) with
  | .ok l => ∃ v, e = .returned (.tuple #[v, .agg #[.int .i64 0, .int .i64 0]]) ∧ ToksV w.heap.size w' v l ∧ l.length ≤ 12001
  | .error (c, p) => e = .returned (.tuple #[.slice none 0 0, .agg #[.int .i64 c, .int .i64 (p : Int)]])
theorem scan_bad {S : ByteArray} {w w' : World} {c : Int} {p : Nat} (h : Lx.scan (by_ S) = .error (c, p)) (hb : Below w.heap.size w w') : ScanPost S w (.returned (.tuple #[.slice none 0 0, .agg #[.int .i64 c, .int .i64 (p : Int)]])) w' := by
 refine ⟨hb, ?_⟩;rw [h]
theorem scan_ok {S : ByteArray} {w w' : World} {l : List Lx.Tok} {v : Value} (h : Lx.scan (by_ S) = .ok l) (hb : Below w.heap.size w w') (hv : ToksV w.heap.size w' v l) (hl : l.length ≤ 12001) : ScanPost S w (.returned (.tuple #[v, .agg #[.int .i64 0, .int .i64 0]])) w' := by
 refine ⟨hb, ?_⟩;rw [h];exact ⟨v, rfl, hv, hl⟩

/-- Where the reference's Scan stands. -/
structure RxSt (w wr : World) (v : Value) (acc : List Lx.Tok) : Prop where
 bel : Below w.heap.size w wr
 res : ∃ c0 c1, wr.heap[w.heap.size]? = some (.cells #[c0, c1] 25 (0, 0))
 words : StrsAt wr (w.heap.size + 1) Lx.words
 signs : StrsAt wr (w.heap.size + 1 + 1) Lx.signs
 row : ToksV w.heap.size wr v acc

theorem RxSt.below {w wr wx : World} {v : Value} {acc : List Lx.Tok} (h : RxSt w wr v acc) (hb : Below wr.heap.size wr wx) : RxSt w wx v acc := by
 obtain ⟨c0, c1, hr⟩ := h.res;have h1 := blk_lt hr;exact ⟨h.bel.trans (hb.mono h.bel.size), ⟨c0, c1, blk_below hr hb h1⟩, h.words.below hb (blk_lt h.words), h.signs.below hb (blk_lt h.signs), own_below h.row hb (fun k hk => (h.row.lt k hk).2)⟩
theorem ToksV.snoc {N : Nat} {w : World} {v : Value} {acc : List Lx.Tok} {t : Lx.Tok} (h : w.ownsRow N 95 4 v (acc.length + 1) (acc.flatMap tokCells ++ tokCells t)) : ToksV N w v (acc ++ [t]) := by
 unfold ToksV
 simpa using h
theorem ToksV.row {N : Nat} {w : World} {v : Value} {acc : List Lx.Tok} (h : ToksV N w v acc) : w.ownsRow N 95 4 v acc.length (acc.flatMap tokCells) := h
theorem RxSt.push {w wa wb : World} {v v' : Value} {acc : List Lx.Tok} {t : Lx.Tok} {o : Obj} (h : RxSt w wa v acc) (hg : (wa.alloc o).grownBy wb v.ownBlock) (hr : wb.ownsRow w.heap.size 95 4 v' (acc.length + 1) (acc.flatMap tokCells ++ tokCells t)) : RxSt w wb v' (acc ++ [t]) := by
 obtain ⟨c0, c1, hf⟩ := h.res;have hs := h.bel.size;refine ⟨Below.grown (h.bel.alloc hs o) hg (by simp; omega) (fun k hk => by have := (h.row.row.lt k hk).1; omega), ⟨c0, c1, ?_⟩, ?_, ?_, ToksV.snoc hr⟩
 ·exact blk_grown (blk_alloc hf o) hg (fun e => own_ne_blk h.row.row hf (by decide) e.symm)
 ·exact blk_grown (blk_alloc h.words o) hg (fun e => own_ne_blk h.row.row h.words (by decide) e.symm)
 ·exact blk_grown (blk_alloc h.signs o) hg (fun e => own_ne_blk h.row.row h.signs (by decide) e.symm)
set_option maxRecDepth 100000 in
theorem rx_ret {w wx : World} {S : ByteArray} {v : Value} {c p : Int} {T : Array Value} (hf : wx.heap[w.heap.size]? = some (.cells #[.int .i64 c, .int .i64 p] 25 (0, 0))) (hp : ScanPost S w (.returned (.tuple #[v, .agg #[.int .i64 c, .int .i64 p]])) wx)
  (h2 : T[2]? = some v) (h3 : T[3]? = some (.pointer (some ⟨w.heap.size, 0, none⟩))) : bodyPost Tryz.prog Tryz.f28 (ScanPost S w) .ret { tmps := T, defers := [] } wx := by
 have k0 := blk_cell hf 0;have k1 := blk_cell hf 1;have hl1 := blk_lt hf;simp only [List.getElem?_toArray, List.getElem?_cons_zero, List.getElem?_cons_succ] at k0 k1;exact bodyPost_ret (v := .tuple #[v, .agg #[.int .i64 c, .int .i64 p]]) (by simp [results, Tryz.results28, go_sem, k0, k1, h2, h3]) rfl hp
theorem close_false (acc : List Lx.Tok) (i : Nat) : Lx.close acc false i = acc := rfl
theorem rx_fail {S : ByteArray} {w wr : World} {v : Value} {acc : List Lx.Tok} {c : Int} {p : Nat} (h : RxSt w wr v acc) (hg : Lx.scan (by_ S) = .error (c, p)) :
  ((wr.setCell ⟨w.heap.size, 0, none⟩ (.int .i64 c)).setCell ⟨w.heap.size, 1, none⟩ (.int .i64 (p : Int))).heap[w.heap.size]? = some (.cells #[.int .i64 c, .int .i64 (p : Int)] 25 (0, 0)) ∧ ScanPost S w (.returned (.tuple #[.slice none 0 0, .agg #[.int .i64 c, .int .i64 (p : Int)]])) ((wr.setCell ⟨w.heap.size, 0, none⟩ (.int .i64 c)).setCell ⟨w.heap.size, 1, none⟩ (.int .i64 (p : Int))) := by
 obtain ⟨c0, c1, hf⟩ := h.res;exact ⟨blk_set (blk_set hf 0 _) 1 _, scan_bad hg ((h.bel.setCell (p := ⟨w.heap.size, 0, none⟩) (Nat.le_refl _) _).setCell (p := ⟨w.heap.size, 1, none⟩) (Nat.le_refl _) _)⟩
theorem rx_res {w wr : World} {v : Value} {acc : List Lx.Tok} (h : RxSt w wr v acc) : ∃ c0 c1, wr.cell? ⟨w.heap.size, 0, none⟩ = some c0 ∧ wr.cell? ⟨w.heap.size, 1, none⟩ = some c1 ∧ wr.frozen? ⟨w.heap.size, 0, none⟩ = false ∧ wr.frozen? ⟨w.heap.size, 1, none⟩ = false ∧ w.heap.size < wr.heap.size := by
 obtain ⟨c0, c1, hf⟩ := h.res;exact ⟨c0, c1, by rw [blk_cell hf]; rfl, by rw [blk_cell hf]; rfl, blk_free hf 0, blk_free hf 1, blk_lt hf⟩
theorem get_by (S : ByteArray) (j : Nat) (h : j < S.size) : S[j] = (by_ S).getD j 0 := by simp [by_, h, ByteArray.getElem_eq_getElem_data]
theorem RxSt.add {w wr wa wb : World} {v v' : Value} {acc : List Lx.Tok} {t : Lx.Tok} {o : Obj} (h : RxSt w wr v acc) (hb : Below wr.heap.size wr wa) (hg : (wa.alloc o).grownBy wb v.ownBlock) (hr : wb.ownsRow w.heap.size 95 4 v' (acc.length + 1) (acc.flatMap tokCells ++ tokCells t)) : RxSt w wb v' (acc ++ [t]) := (h.below hb).push hg hr

theorem u8_is {c d : UInt8} (h : c = d) (n : Int) : ((c.toNat : Int) == n) = ((d.toNat : Int) == n) := by rw [h]
theorem numVal_snoc (l : List UInt8) (c : UInt8) : Lx.numVal (l ++ [c]) = 10 * Lx.numVal l + ((c.toNat : Int) - 48) := by
 unfold Lx.numVal;rw [List.foldl_append]
 rfl
theorem cut_snoc (S : ByteArray) (k j : Nat) (hk : k ≤ j) (hj : j < S.size) : Lx.cut (by_ S) k (j + 1) = Lx.cut (by_ S) k j ++ [(by_ S).getD j 0] := by
 unfold Lx.cut;rw [show j + 1 - k = (j - k) + 1 by omega, List.take_succ_eq_append_getElem (by rw [List.length_drop, by_size]; omega)]
 congr 2
 rw [List.getElem_drop];have hl : j < (by_ S).length := by rw [by_size]; exact hj
 simp [show k + (j - k) = j by omega, hl]
theorem cut_nil (S : ByteArray) (k : Nat) : Lx.cut (by_ S) k k = [] := by unfold Lx.cut; simp
theorem pow9 (n : Nat) (h : n ≤ 9) : (10 : Int) ^ n ≤ 1000000000 := by
 have : (10 : Nat) ^ n ≤ 10 ^ 9 := Nat.pow_le_pow_right (by omega) h;have h2 : ((10 ^ n : Nat) : Int) ≤ ((10 ^ 9 : Nat) : Int) := by exact_mod_cast this
 simpa using h2
/-- What a number's digits have made. -/
def NumOk (s : List UInt8) (k j : Nat) (num : Int) : Prop := j - k ≤ 9 → num = Lx.numVal (Lx.cut s k j) ∧ num < 10 ^ (j - k)
theorem NumOk.more {S : ByteArray} {k j : Nat} {num : Int} {c : UInt8} (h : NumOk (by_ S) k j num) (hk : k ≤ j) (hj : j < S.size) (hc : (by_ S).getD j 0 = c) (hd : Lx.digit c = true) (_h0 : 0 ≤ num) :
  (10 * num + (c.toNat : Int) - 48 ≤ 1000000000000 → NumOk (by_ S) k (j + 1) (10 * num + (c.toNat : Int) - 48)) ∧ (1000000000000 < 10 * num + (c.toNat : Int) - 48 → NumOk (by_ S) k (j + 1) 1000000000000) := by
 rw [digit_iff] at hd;simp only [decide_eq_true_eq] at hd;have key : j + 1 - k ≤ 9 → 10 * num + (c.toNat : Int) - 48 = Lx.numVal (Lx.cut (by_ S) k (j + 1)) ∧ 10 * num + (c.toNat : Int) - 48 < 10 ^ (j + 1 - k) := by
  intro h9;obtain ⟨h1, h2⟩ := h (by omega);rw [cut_snoc S k j hk hj, hc, numVal_snoc, ← h1];refine ⟨by omega, ?_⟩;rw [show j + 1 - k = (j - k) + 1 by omega, Int.pow_succ];omega
 refine ⟨fun _ => key, fun hb h9 => ?_⟩;have h1 := (key h9).2;have h2 := pow9 (j + 1 - k) h9;omega
set_option maxRecDepth 100000 in
set_option maxHeartbeats 40000000 in
theorem rscan_any (B : Nat) (w : World) (S : ByteArray) (hT : Tabs B w) (hB : B ≤ w.heap.size) : Calls Tryz.prog 28 #[.string S] w (ScanPost S w) := by
 have HT := zh hT;clear hT;have hsl := by_size S;obtain ⟨i0, hi0, hz0, hs0, hb0⟩ := info_parts tok_info
 go_enter Tryz.func28, Tryz.ntmps28
 by_cases hsz : 6000 < S.size
 ·have HE : Hid (Lx.scan (by_ S) = .error (1, 0)) := zh (by unfold Lx.scan; rw [if_pos (by omega)]);go_wp2
  exact bodyPost_ret (v := .tuple #[.slice none 0 0, .agg #[.int .i64 1, .int .i64 0]]) (by simp [results, Tryz.results28, go_sem]) rfl (scan_bad HE.out (by go_grown))
 ·have HE : Hid (Lx.scan (by_ S) = Lx.go (by_ S) 0 false []) := zh (by unfold Lx.scan; rw [if_neg (by omega)]);go_wp2_with fail
  have R0 := zh (blk_new w (.cells #[.int .i64 0, .int .i64 0] 25));have B0 : Hid (Below w.heap.size w (w.alloc (.cells #[.int .i64 0, .int .i64 0] 25))) := zh (by go_grown);have hsw : (w.alloc (.cells #[.int .i64 0, .int .i64 0] 25)).heap.size = w.heap.size + 1 := by simp
  generalize (w.alloc (.cells #[.int .i64 0, .int .i64 0] 25)) = w1 at *;refine (words_any w1).mono ?_;rintro e w2 ⟨rfl, hw2, hb2, hs2⟩;rw [hsw] at hw2 hs2 hb2;have R2 := zh (blk_below R0.out hb2 (by omega));have B2 := zh (B0.out.trans (hb2.mono (by omega)));have W2 := zh hw2;clear R0 B0 hw2 hb2;rw [hsw];clear hsw;go_wp2_with fail
  refine (signs_any w2).mono ?_;rintro e w3 ⟨rfl, hw3, hb3, hs3⟩;rw [hs2] at hw3 hs3 hb3;have ST : Hid (RxSt w w3 (.slice none 0 0) []) := zh ⟨B2.out.trans (hb3.mono (by omega)), ⟨_, _, blk_below R2.out hb3 (by omega)⟩, W2.out.below hb3 (by omega), hw3, World.ownsRow_nil _ _ _ _⟩;rw [hs2];clear R2 B2 W2 hw3 hb3 hs2 hs3;go_wp2_with fail
  go_loopw [4, 7, 8] (fun l o i wr => ∃ (k : Nat) (line : Bool) (acc : List Lx.Tok), k ≤ S.size ∧ i = .int .i64 k ∧ o = .bool line ∧ acc.length ≤ 2 * k ∧ Hid (Lx.scan (by_ S) = Lx.go (by_ S) k line acc) ∧ Hid (line = true → acc ≠ []) ∧ Hid (RxSt w wr l acc)) (fun _ _ i _ => S.size - (intOf i).toNat)
  case atStart => exact ⟨0, false, [], by omega, rfl, rfl, by simp, HE, zh (fun h => by cases h), ST⟩
  case round =>
   clear HE ST;obtain ⟨k, line, acc, hk, rfl, rfl, hacc, HG, HL, HS⟩ := hrel
   by_cases hend : k = S.size
   ·as_aux_lemma =>
    subst hend;have hke : ((S.size : Int) == (S.size : Int)) = true := by simp
    clear hke
    cases line with
    | false =>
     have HGE : Hid (Lx.scan (by_ S) = .ok acc) := zh (by rw [HG.out, Lx.go_end (by omega), close_false]);have ST := HS;clear HG HS HL;obtain ⟨c0, c1, hf⟩ := ST.out.res;have hfl := blk_lt hf;have ff0 := blk_free hf 0;have ff1 := blk_free hf 1;have fc0 := blk_cell hf 0;have fc1 := blk_cell hf 1;simp only [List.getElem?_toArray, List.getElem?_cons_zero, List.getElem?_cons_succ] at fc0 fc1;have HF := zh (blk_set (blk_set hf 0 (.int .i64 0)) 1 (.int .i64 0));have HR := zh (own_set (i := 1) (u := .int .i64 0) (own_set (i := 0) (u := .int .i64 0) ST.out.row.row hf (by decide)) (blk_set hf 0 (.int .i64 0)) (by decide));have HB := zh ((ST.out.bel.setCell (p := ⟨w.heap.size, 0, none⟩) (Nat.le_refl _) (.int .i64 0)).setCell (p := ⟨w.heap.size, 1, none⟩) (Nat.le_refl _) (.int .i64 0));clear hf ST;go_wp2
     exact rx_ret HF.out (scan_ok HGE.out HB.out HR.out (by omega)) rfl rfl
    | true =>
     obtain ⟨ini, t, rfl⟩ := last_split (HL.out rfl);have hrow := HS.out.row;obtain ⟨g, cap, hv⟩ := own_lit hrow (by simp);have hn1 : (ini ++ [t]).length = ini.length + 1 := by simp
     rw [hn1] at hv;subst hv;obtain ⟨_, x0, x1, x2, x3⟩ := toks_last hrow;have hgl := (hrow.row.lt g rfl).2;simp only [List.length_append, List.length_cons, List.length_nil, Nat.zero_add] at hacc;clear hrow hn1;go_wp2_with fail
     refine (closes_any t _).mono ?_;rintro e w5 ⟨rfl, hb5⟩;have HS5 := zh (HS.out.below hb5);clear HS hb5 x0 x1 x2 x3
     cases he : Lx.ends t with
     | false =>
      have HGE : Hid (Lx.scan (by_ S) = .ok (ini ++ [t])) := zh (by rw [HG.out, Lx.go_end (by omega), close_no he]);have ST := HS5;clear HG HS5 HL;obtain ⟨c0, c1, hf⟩ := ST.out.res;have hfl := blk_lt hf;have ff0 := blk_free hf 0;have ff1 := blk_free hf 1;have fc0 := blk_cell hf 0;have fc1 := blk_cell hf 1;simp only [List.getElem?_toArray, List.getElem?_cons_zero, List.getElem?_cons_succ] at fc0 fc1;have HF := zh (blk_set (blk_set hf 0 (.int .i64 0)) 1 (.int .i64 0));have HR := zh (own_set (i := 1) (u := .int .i64 0) (own_set (i := 0) (u := .int .i64 0) ST.out.row.row hf (by decide)) (blk_set hf 0 (.int .i64 0)) (by decide));have HB := zh ((ST.out.bel.setCell (p := ⟨w.heap.size, 0, none⟩) (Nat.le_refl _) (.int .i64 0)).setCell (p := ⟨w.heap.size, 1, none⟩) (Nat.le_refl _) (.int .i64 0));clear hf ST;go_wp2
      exact rx_ret HF.out (scan_ok HGE.out HB.out HR.out (by simp; omega)) rfl rfl
     | true =>
      have hs5 := HS5.out.bel.size;have hp1 : w.heap.size ≤ (w5.alloc (.cells #[.int .i64 3, .string (str [59]), .int .i64 0, .int .i64 (S.size : Int)] 95)).heap.size := by simp; omega
      have HRW := zh (HS5.out.row.row.alloc (.cells #[.int .i64 3, .string (str [59]), .int .i64 0, .int .i64 (S.size : Int)] 95));go_wp2_with (at_builtin; refine wpList_append_own _ rfl _ _ 56 rfl w.heap.size 95 i0 (.agg #[.int .i64 0, .string ByteArray.empty, .int .i64 0, .int .i64 0]) 4 40 Tryz.underlying56 hi0 hz0 hs0 hb0 rfl (by decide) _ _ _ rfl HRW.out ⟨w5.heap.size, 0, none⟩ 1 1 [.int .i64 3, .string (str [59]), .int .i64 0, .int .i64 (S.size : Int)] rfl rfl (World.news_of_block (cs := #[.int .i64 3, .string (str [59]), .int .i64 0, .int .i64 (S.size : Int)]) (t := 95) (fr := (0, 0)) (heap_alloc_new _ _)) (tok_one _ _ _ _) ?c3 ?c4 hp1 ?_; rotate_right; intro v' w10 hown' hgrow hnil; have HSX := zh (HS5.out.push (t := Lx.semi S.size) hgrow hown'); obtain ⟨c0, c1, hf⟩ := HSX.out.res; have hfl := blk_lt hf; have ff0 := blk_free hf 0; have ff1 := blk_free hf 1; have fc0 := blk_cell hf 0; have fc1 := blk_cell hf 1; simp only [List.getElem?_toArray, List.getElem?_cons_zero, List.getElem?_cons_succ] at fc0 fc1; clear hf hgrow hown' hnil)
      case c3 => unfold maxLen; simp; omega
      case c4 => simp; omega
      clear HS5 HRW;have HGE : Hid (Lx.scan (by_ S) = .ok (ini ++ [t] ++ [Lx.semi S.size])) := zh (by rw [HG.out, Lx.go_end (by omega), close_yes he]);have ST := HSX;clear HG HSX HL;obtain ⟨d0, d1, hf⟩ := ST.out.res;have HF := zh (blk_set (blk_set hf 0 (.int .i64 0)) 1 (.int .i64 0));have HR := zh (own_set (i := 1) (u := .int .i64 0) (own_set (i := 0) (u := .int .i64 0) ST.out.row.row hf (by decide)) (blk_set hf 0 (.int .i64 0)) (by decide));have HB := zh ((ST.out.bel.setCell (p := ⟨w.heap.size, 0, none⟩) (Nat.le_refl _) (.int .i64 0)).setCell (p := ⟨w.heap.size, 1, none⟩) (Nat.le_refl _) (.int .i64 0));clear hf ST;exact rx_ret HF.out (scan_ok HGE.out HB.out HR.out (by simp; omega)) rfl rfl
   ·have hlt : k < S.size := by omega
    have hke : ((k : Int) == (S.size : Int)) = false := by simp; omega
    have hget : S[k] = (by_ S).getD k 0 := by simp [by_, hlt, ByteArray.getElem_eq_getElem_data]
    by_cases hnl : (by_ S).getD k 0 = 10
    ·as_aux_lemma =>
     have hc10 : ((S[k].toNat : Int) == 10) = true := by rw [hget, hnl]; rfl
     have HNL := zh hnl;clear hnl hget
     cases line with
     | false =>
      have HGN : Hid (Lx.scan (by_ S) = Lx.go (by_ S) (k + 1) false (acc)) := zh (by rw [HG.out, Lx.go_feed (by omega) HNL.out, close_false]);clear HG HNL HL;go_wp2
      go_roundw
      case rel => exact ⟨k + 1, false, _, by omega, by go_num, rfl, by omega, HGN, zh (fun h => by cases h), HS⟩
      case measure => simp [intOf]; omega
     | true =>
      obtain ⟨ini, t, rfl⟩ := last_split (HL.out rfl);have hrow := HS.out.row;obtain ⟨g, cap, hv⟩ := own_lit hrow (by simp);have hn1 : (ini ++ [t]).length = ini.length + 1 := by simp
      rw [hn1] at hv;subst hv;obtain ⟨_, x0, x1, x2, x3⟩ := toks_last hrow;have hgl := (hrow.row.lt g rfl).2;simp only [List.length_append, List.length_cons, List.length_nil, Nat.zero_add] at hacc;clear hrow hn1;go_wp2_with fail
      refine (closes_any t _).mono ?_;rintro e w5 ⟨rfl, hb5⟩;have HS5 := zh (HS.out.below hb5);clear HS hb5 x0 x1 x2 x3
      cases he : Lx.ends t with
      | false =>
       have HGN : Hid (Lx.scan (by_ S) = Lx.go (by_ S) (k + 1) false (ini ++ [t])) := zh (by rw [HG.out, Lx.go_feed (by omega) HNL.out, close_no he]);clear HG HNL HL;go_wp2
       go_roundw
       case rel => exact ⟨k + 1, false, _, by omega, by go_num, rfl, by simp; omega, HGN, zh (fun h => by cases h), HS5⟩
       case measure => simp [intOf]; omega
      | true =>
       have hs5 := HS5.out.bel.size;have hp1 : w.heap.size ≤ (w5.alloc (.cells #[.int .i64 3, .string (str [59]), .int .i64 0, .int .i64 (k : Int)] 95)).heap.size := by simp; omega
       have HRW := zh (HS5.out.row.row.alloc (.cells #[.int .i64 3, .string (str [59]), .int .i64 0, .int .i64 (k : Int)] 95));go_wp2_with (at_builtin; refine wpList_append_own _ rfl _ _ 56 rfl w.heap.size 95 i0 (.agg #[.int .i64 0, .string ByteArray.empty, .int .i64 0, .int .i64 0]) 4 40 Tryz.underlying56 hi0 hz0 hs0 hb0 rfl (by decide) _ _ _ rfl HRW.out ⟨w5.heap.size, 0, none⟩ 1 1 [.int .i64 3, .string (str [59]), .int .i64 0, .int .i64 (k : Int)] rfl rfl (World.news_of_block (cs := #[.int .i64 3, .string (str [59]), .int .i64 0, .int .i64 (k : Int)]) (t := 95) (fr := (0, 0)) (heap_alloc_new _ _)) (tok_one _ _ _ _) ?c3 ?c4 hp1 ?_; rotate_right; intro v' w10 hown' hgrow hnil; have HSX := zh (HS5.out.push (t := Lx.semi k) hgrow hown'); obtain ⟨c0, c1, hf⟩ := HSX.out.res; have hfl := blk_lt hf; have ff0 := blk_free hf 0; have ff1 := blk_free hf 1; have fc0 := blk_cell hf 0; have fc1 := blk_cell hf 1; simp only [List.getElem?_toArray, List.getElem?_cons_zero, List.getElem?_cons_succ] at fc0 fc1; clear hf hgrow hown' hnil)
       case c3 => unfold maxLen; simp; omega
       case c4 => simp; omega
       clear HS5 HRW;have HGN : Hid (Lx.scan (by_ S) = Lx.go (by_ S) (k + 1) false (ini ++ [t] ++ [Lx.semi k])) := zh (by rw [HG.out, Lx.go_feed (by omega) HNL.out, close_yes he]);clear HG HNL HL;go_wp2
       go_roundw
       case rel => exact ⟨k + 1, false, _, by omega, by go_num, rfl, by simp; omega, HGN, zh (fun h => by cases h), HSX⟩
       case measure => simp [intOf]; omega
    ·as_aux_lemma =>
     have hc10 : ((S[k].toNat : Int) == 10) = false := by rw [hget]; exact u8_ne hnl
     have HNL := zh hnl;clear hnl
     cases hbl : Lx.blank ((by_ S).getD k 0) with
     | true =>
      have HBL := zh hbl;rw [← hget] at hbl;rcases blank_yes hbl with h32 | ⟨h32, h9⟩ | ⟨h32, h9, h13⟩
      all_goals clear hbl
      ·have HGN : Hid (Lx.scan (by_ S) = Lx.go (by_ S) (k + 1) line acc) := zh (by rw [HG.out]; exact Lx.go_skip (by omega) HNL.out (by unfold Lx.stepAt; rw [if_pos HBL.out]) (by omega));clear HG HNL HBL hget
       go_wp2
       go_roundw
       case rel => exact ⟨k + 1, line, acc, by omega, by go_num, rfl, by omega, HGN, HL, HS⟩
       case measure => simp [intOf]; omega
      ·have HGN : Hid (Lx.scan (by_ S) = Lx.go (by_ S) (k + 1) line acc) := zh (by rw [HG.out]; exact Lx.go_skip (by omega) HNL.out (by unfold Lx.stepAt; rw [if_pos HBL.out]) (by omega));clear HG HNL HBL hget
       go_wp2
       go_roundw
       case rel => exact ⟨k + 1, line, acc, by omega, by go_num, rfl, by omega, HGN, HL, HS⟩
       case measure => simp [intOf]; omega
      ·have HGN : Hid (Lx.scan (by_ S) = Lx.go (by_ S) (k + 1) line acc) := zh (by rw [HG.out]; exact Lx.go_skip (by omega) HNL.out (by unfold Lx.stepAt; rw [if_pos HBL.out]) (by omega));clear HG HNL HBL hget
       go_wp2
       go_roundw
       case rel => exact ⟨k + 1, line, acc, by omega, by go_num, rfl, by omega, HGN, HL, HS⟩
       case measure => simp [intOf]; omega
     | false =>
      have HBL := zh hbl;rw [← hget] at hbl;obtain ⟨h32, h9, h13⟩ := blank_not hbl;have HGET := zh hget;clear hbl hget;go_wp2_with fail
      refine (begins_any S (str [47, 47]) k wr (by omega) (by decide) (by omega)).mono ?_;rintro e w5 ⟨rfl, rfl⟩;rw [by_str];clear h32 h9 h13
      cases hp : List.isPrefixOf [47, 47] ((by_ S).drop k) with
      | true =>
       as_aux_lemma =>
       have HSTEP : Hid (Lx.stepAt (by_ S) k = match Lx.noteEnd (by_ S) k with | .error j => .bad 2 j | .ok j => .skip j) := zh (by unfold Lx.stepAt; rw [if_neg (by rw [HBL.out]; simp), if_pos hp]; cases Lx.noteEnd (by_ S) k <;> rfl);have HKN : Hid (k < (by_ S).length) := zh (by omega);clear hp HBL HGET hke hc10;obtain ⟨wo, rfl⟩ : ∃ wo : World, wo = wr := ⟨_, rfl⟩;go_wp2_with fail
       go_loopw [8] (fun i wr => ∃ j : Nat, j ≤ S.size ∧ i = .int .i64 j ∧ Hid (Lx.noteEnd (by_ S) k = Lx.noteEnd (by_ S) j) ∧ Hid (RxSt w wr u4 acc)) (fun i _ => S.size - (intOf i).toNat)
       case atStart => exact ⟨k, by omega, rfl, zh rfl, HS⟩
       case round =>
        clear HS;obtain ⟨j, hj, rfl, HJ, HS⟩ := hrel
        by_cases hje : j < S.size
        ·have hget : S[j] = (by_ S).getD j 0 := by simp [by_, hje, ByteArray.getElem_eq_getElem_data]
         by_cases hnl : (by_ S).getD j 0 = 10
         ·have hc10 : ((S[j].toNat : Int) == 10) = true := by rw [hget, hnl]; rfl
          have HGN : Hid (Lx.scan (by_ S) = Lx.go (by_ S) j line acc) := zh (by
           have e : Lx.noteEnd (by_ S) k = .ok j := by rw [HJ.out, Lx.noteEnd_end (by rw [hnl]; simp)]
           rw [HG.out];exact Lx.go_skip HKN.out HNL.out (by rw [HSTEP.out, e]) (Lx.noteEnd_gt e HKN.out HNL.out))
          have hkj : k < j := by
           have e : Lx.noteEnd (by_ S) k = .ok j := by rw [HJ.out, Lx.noteEnd_end (by rw [hnl]; simp)]
           exact Lx.noteEnd_gt e HKN.out HNL.out
          clear hnl hget HJ;go_wp2
          go_roundw
          case rel => exact ⟨j, line, acc, by omega, rfl, rfl, by omega, HGN, HL, HS⟩
          case measure => simp [intOf]; omega
         ·have hc10 : ((S[j].toNat : Int) == 10) = false := by rw [hget]; exact u8_ne hnl
          have HNJ := zh hnl;have hne : (by_ S).drop j ≠ [] := by intro h; have := List.drop_eq_nil_iff.1 h; omega
          obtain ⟨d1, d2, d3⟩ := Lx.dec_bd hne;rw [List.length_drop] at d2;have hex := extract_drop S j;have HEX := zh hex;have hTW := HT.out.below HS.out.bel hB;have hTW2 := (hTW _ (Below.refl _ _)).1;have HTW := zh hTW2;clear hnl hget hne hex hTW hTW2;go_wp2_with fail
          rw [HEX.out];refine (Tryz.utf8_DecodeRuneInString (str ((by_ S).drop j)) _ HTW.out).mono ?_;rintro e w6 ⟨rfl, hb6⟩;have HS6 := zh (HS.out.below hb6);have hdd : Lib.decodeGo (str ((by_ S).drop j)) = Lx.dec ((by_ S).drop j) := rfl;rw [hdd];clear hb6 hdd HS;obtain ⟨c0, c1, fc0, fc1, ff0, ff1, hfl⟩ := rx_res HS6.out
          cases hd : Lx.dec ((by_ S).drop j) with
          | mk r n =>
           rw [hd] at d1 d2 d3;dsimp only at d1 d2 d3 ⊢;have HD := zh hd;clear hd
           by_cases hbad : r = 65533 ∧ n = 1
           ·obtain ⟨rfl, rfl⟩ := hbad;have HGE : Hid (Lx.scan (by_ S) = .error (2, j)) := zh (by
             rw [HG.out];exact Lx.go_bad HKN.out HNL.out (by rw [HSTEP.out, HJ.out, Lx.noteEnd_bad (by omega) HNJ.out HD.out]))
            clear HG HJ;go_wp2
            exact rx_ret (rx_fail HS6.out HGE.out).1 (rx_fail HS6.out HGE.out).2 rfl rfl
           ·have HJN : Hid (Lx.noteEnd (by_ S) k = Lx.noteEnd (by_ S) (j + n)) := zh (by
             rw [HJ.out, Lx.noteEnd_more (by omega) HNJ.out (by rw [HD.out]; intro h; injection h with h1 h2; exact hbad ⟨h1, h2⟩), HD.out];dsimp only;rw [show max 1 n = n by omega])
            have hb1 : ((r : Int) == 65533) = false ∨ (((r : Int) == 65533) = true ∧ ((n : Int) == 1) = false) := by
             by_cases h : r = 65533
             ·right; refine ⟨by simp [h], ?_⟩; simp; intro h2; exact hbad ⟨h, by omega⟩
             ·left; simp; omega
            clear HJ hbad;rcases hb1 with hr1 | ⟨hr1, hr2⟩
            ·go_wp2
             go_roundw
             case rel => exact ⟨j + n, by omega, by go_num, HJN, HS6⟩
             case measure => simp [intOf]; omega
            ·go_wp2
             go_roundw
             case rel => exact ⟨j + n, by omega, by go_num, HJN, HS6⟩
             case measure => simp [intOf]; omega
        ·obtain rfl : j = S.size := by omega
         have HGN : Hid (Lx.scan (by_ S) = Lx.go (by_ S) S.size line acc) := zh (by
          have e : Lx.noteEnd (by_ S) k = .ok S.size := by rw [HJ.out, Lx.noteEnd_end (by omega)]
          rw [HG.out];exact Lx.go_skip HKN.out HNL.out (by rw [HSTEP.out, e]) (Lx.noteEnd_gt e HKN.out HNL.out))
         clear HJ;go_wp2
         go_roundw
         case rel => exact ⟨S.size, line, acc, by omega, rfl, rfl, by omega, HGN, HL, HS⟩
         case measure => simp [intOf]; omega
      | false =>
       as_aux_lemma =>
       have HPF := zh hp;clear hp hke hc10;go_wp2_with fail
       refine (letter_any S[k] wr).mono ?_;rintro e w6 ⟨rfl, rfl⟩;go_wp2_with fail
       refine (digit_any S[k] wr).mono ?_;rintro e w6 ⟨rfl, rfl⟩;have hLe : Lx.letter S[k] = Lx.letter ((by_ S).getD k 0) := by rw [HGET.out]
       have hDi : Lx.digit S[k] = Lx.digit ((by_ S).getD k 0) := by rw [HGET.out]
       rw [hLe, hDi];clear hLe hDi;have HKN : Hid (k < (by_ S).length) := zh (by omega);have hws := HS.out.bel.size
       cases hlt1 : Lx.letter ((by_ S).getD k 0) with
       | true =>
        have HLT := zh hlt1;clear hlt1;obtain ⟨b2, hb2⟩ : ∃ b2, Lx.digit ((by_ S).getD k 0) = b2 := ⟨_, rfl⟩;rw [hb2];have HJ0 : Hid ((true || b2) = true ↔ (k < S.size ∧ Lx.wordC ((by_ S).getD k 0) = true)) := zh (by constructor; intro _; exact ⟨hlt, by unfold Lx.wordC; rw [HLT.out]; rfl⟩; intro _; rfl);clear hb2;go_wp2_with fail
        go_loop [8, 14, 15] (fun i a b => ∃ (j : Nat) (b1 b2 : Bool), k ≤ j ∧ j ≤ S.size ∧ i = .int .i64 j ∧ a = .bool b1 ∧ b = .bool b2 ∧ Hid ((b1 || b2) = true ↔ (j < S.size ∧ Lx.wordC ((by_ S).getD j 0) = true)) ∧ Hid (Lx.spanEnd Lx.wordC (by_ S) k = Lx.spanEnd Lx.wordC (by_ S) j)) (fun i _ _ => S.size - (intOf i).toNat)
        case atStart => exact ⟨k, true, b2, by omega, by omega, rfl, rfl, rfl, HJ0, zh rfl⟩
        case round =>
         clear HJ0;obtain ⟨j, b1, b2, hkj, hj, rfl, rfl, rfl, HJ, HE⟩ := hrel
         by_cases hb : (b1 || b2) = true
         ·obtain ⟨hjs, hjw⟩ := HJ.out.1 hb;have HEN : Hid (Lx.spanEnd Lx.wordC (by_ S) k = Lx.spanEnd Lx.wordC (by_ S) (j + 1)) := zh (by rw [HE.out, Lx.spanEnd_more (by omega) hjw])
          clear HE HJ hjw
          by_cases hj1 : j + 1 < S.size
          ·have hgj := get_by S (j + 1) hj1;have HJN : Hid ((Lx.letter S[j + 1] || Lx.digit S[j + 1]) = true ↔ (j + 1 < S.size ∧ Lx.wordC ((by_ S).getD (j + 1) 0) = true)) := zh (by rw [← hgj]; exact ⟨fun h => ⟨hj1, h⟩, fun h => h.2⟩)
           clear hgj
           cases b1 with
           | true =>
            clear hb;go_wp2_with fail
            refine (letter_any S[j + 1] _).mono ?_;rintro e w6 ⟨rfl, rfl⟩;go_wp2_with fail
            refine (digit_any S[j + 1] _).mono ?_;rintro e w6 ⟨rfl, rfl⟩;go_wp2
            go_round
            case rel => exact ⟨j + 1, _, _, by omega, by omega, by go_num, rfl, rfl, HJN, HEN⟩
            case measure => simp [intOf]; omega
           | false =>
            obtain rfl : b2 = true := by simpa using hb
            clear hb;go_wp2_with fail
            refine (letter_any S[j + 1] _).mono ?_;rintro e w6 ⟨rfl, rfl⟩;go_wp2_with fail
            refine (digit_any S[j + 1] _).mono ?_;rintro e w6 ⟨rfl, rfl⟩;go_wp2
            go_round
            case rel => exact ⟨j + 1, _, _, by omega, by omega, by go_num, rfl, rfl, HJN, HEN⟩
            case measure => simp [intOf]; omega
          ·have HJN : Hid ((false || false) = true ↔ (j + 1 < S.size ∧ Lx.wordC ((by_ S).getD (j + 1) 0) = true)) := zh (by simp; intro h; omega)
           cases b1 with
           | true =>
            clear hb;go_wp2
            go_round
            case rel => exact ⟨j + 1, false, false, by omega, by omega, by go_num, rfl, rfl, HJN, HEN⟩
            case measure => simp [intOf]; omega
           | false =>
            obtain rfl : b2 = true := by simpa using hb
            clear hb;go_wp2
            go_round
            case rel => exact ⟨j + 1, false, false, by omega, by omega, by go_num, rfl, rfl, HJN, HEN⟩
            case measure => simp [intOf]; omega
         ·obtain ⟨rfl, rfl⟩ : b1 = false ∧ b2 = false := by cases b1 <;> cases b2 <;> simp at hb ⊢
          have HSE : Hid (Lx.spanEnd Lx.wordC (by_ S) k = j) := zh (by
           rw [HE.out];refine Lx.spanEnd_end (fun h => ?_);have := HJ.out.2 ⟨by omega, h.2⟩
           cases this)
          have hkj1 : k < j := by
           have := Lx.spanEnd_gt (p := Lx.wordC) HKN.out (by unfold Lx.wordC; rw [HLT.out]; rfl);rw [HSE.out] at this;exact this
          have HTX : Hid (Lx.cut (by_ S) k j = by_ (S.extract k j)) := zh (by rw [by_extract]);clear HE HJ hb;go_wp2_with fail
          refine (has_any Lx.words (w.heap.size + 1) (S.extract k j) _ ((HS.out.below (by go_grown)).words) (by decide)).mono ?_;rintro e w6 ⟨rfl, rfl⟩
          cases hw : hasB Lx.words (S.extract k j) with
          | true =>
           have HB5 : Hid (Below wr.heap.size wr (wr.alloc (.cells #[.int .i64 4, .string (S.extract k j), .int .i64 0, .int .i64 (k : Int)] 95))) := zh (by go_grown);have hwsz : (wr.alloc (.cells #[.int .i64 4, .string (S.extract k j), .int .i64 0, .int .i64 (k : Int)] 95)).heap.size = wr.heap.size + 1 := by simp
           have hp1 : w.heap.size ≤ ((wr.alloc (.cells #[.int .i64 4, .string (S.extract k j), .int .i64 0, .int .i64 (k : Int)] 95)).alloc (.cells #[.int .i64 4, .string (S.extract k j), .int .i64 0, .int .i64 (k : Int)] 95)).heap.size := by simp; omega
           have HSW := zh (HS.out.below HB5.out);have HRW := zh (HSW.out.row.row.alloc (.cells #[.int .i64 4, .string (S.extract k j), .int .i64 0, .int .i64 (k : Int)] 95));have hnw := World.news_of_block (cs := #[.int .i64 4, .string (S.extract k j), .int .i64 0, .int .i64 (k : Int)]) (t := 95) (fr := (0, 0)) (heap_alloc_new (wr.alloc (.cells #[.int .i64 4, .string (S.extract k j), .int .i64 0, .int .i64 (k : Int)] 95)) (.cells #[.int .i64 4, .string (S.extract k j), .int .i64 0, .int .i64 (k : Int)] 95));rw [hwsz] at hnw;have HNW := zh hnw;have hacc1 : acc.length ≤ 12000 := by omega
           clear hnw hwsz;go_wp2_with (at_builtin; refine wpList_append_own _ rfl _ _ 56 rfl w.heap.size 95 i0 (.agg #[.int .i64 0, .string ByteArray.empty, .int .i64 0, .int .i64 0]) 4 40 Tryz.underlying56 hi0 hz0 hs0 hb0 rfl (by decide) _ _ _ rfl HRW.out ⟨wr.heap.size + 1, 0, none⟩ 1 1 [.int .i64 4, .string (S.extract k j), .int .i64 0, .int .i64 (k : Int)] rfl rfl HNW.out (tok_one _ _ _ _) ?c3 ?c4 hp1 ?_; rotate_right; intro v' w10 hown' hgrow hnil; have HSX := zh (HS.out.add (t := ⟨4, by_ (S.extract k j), 0, k⟩) HB5.out hgrow hown'); clear hgrow hown' hnil)
           case c3 => unfold maxLen; omega
           case c4 => omega
           have HGN : Hid (Lx.scan (by_ S) = Lx.go (by_ S) j true (acc ++ [⟨4, by_ (S.extract k j), 0, k⟩])) := zh (by
            have e := step_word HBL.out HPF.out HLT.out;rw [HSE.out, HTX.out] at e;have hw2 : Lx.words.contains (by_ (S.extract k j)) = true := hw;rw [hw2] at e;rw [HG.out];exact Lx.go_tok HKN.out HNL.out e hkj1)
           clear HRW HSW HS HG HB5 HNW
           go_roundw
           case rel => exact ⟨j, true, _, by omega, by go_num, rfl, by simp; omega, HGN, zh (fun _ => by simp), HSX⟩
           case measure => simp [intOf]; omega
          | false =>
           have HB5 : Hid (Below wr.heap.size wr (wr.alloc (.cells #[.int .i64 1, .string (S.extract k j), .int .i64 0, .int .i64 (k : Int)] 95))) := zh (by go_grown);have hwsz : (wr.alloc (.cells #[.int .i64 1, .string (S.extract k j), .int .i64 0, .int .i64 (k : Int)] 95)).heap.size = wr.heap.size + 1 := by simp
           have hp1 : w.heap.size ≤ ((wr.alloc (.cells #[.int .i64 1, .string (S.extract k j), .int .i64 0, .int .i64 (k : Int)] 95)).alloc (.cells #[.int .i64 1, .string (S.extract k j), .int .i64 0, .int .i64 (k : Int)] 95)).heap.size := by simp; omega
           have HSW := zh (HS.out.below HB5.out);have HRW := zh (HSW.out.row.row.alloc (.cells #[.int .i64 1, .string (S.extract k j), .int .i64 0, .int .i64 (k : Int)] 95));have hnw := World.news_of_block (cs := #[.int .i64 1, .string (S.extract k j), .int .i64 0, .int .i64 (k : Int)]) (t := 95) (fr := (0, 0)) (heap_alloc_new (wr.alloc (.cells #[.int .i64 1, .string (S.extract k j), .int .i64 0, .int .i64 (k : Int)] 95)) (.cells #[.int .i64 1, .string (S.extract k j), .int .i64 0, .int .i64 (k : Int)] 95));rw [hwsz] at hnw;have HNW := zh hnw;have hacc1 : acc.length ≤ 12000 := by omega
           clear hnw hwsz;go_wp2_with (at_builtin; refine wpList_append_own _ rfl _ _ 56 rfl w.heap.size 95 i0 (.agg #[.int .i64 0, .string ByteArray.empty, .int .i64 0, .int .i64 0]) 4 40 Tryz.underlying56 hi0 hz0 hs0 hb0 rfl (by decide) _ _ _ rfl HRW.out ⟨wr.heap.size + 1, 0, none⟩ 1 1 [.int .i64 1, .string (S.extract k j), .int .i64 0, .int .i64 (k : Int)] rfl rfl HNW.out (tok_one _ _ _ _) ?c3 ?c4 hp1 ?_; rotate_right; intro v' w10 hown' hgrow hnil; have HSX := zh (HS.out.add (t := ⟨1, by_ (S.extract k j), 0, k⟩) HB5.out hgrow hown'); clear hgrow hown' hnil)
           case c3 => unfold maxLen; omega
           case c4 => omega
           have HGN : Hid (Lx.scan (by_ S) = Lx.go (by_ S) j true (acc ++ [⟨1, by_ (S.extract k j), 0, k⟩])) := zh (by
            have e := step_word HBL.out HPF.out HLT.out;rw [HSE.out, HTX.out] at e;have hw2 : Lx.words.contains (by_ (S.extract k j)) = false := hw;rw [hw2] at e;rw [HG.out];exact Lx.go_tok HKN.out HNL.out e hkj1)
           clear HRW HSW HS HG HB5 HNW
           go_roundw
           case rel => exact ⟨j, true, _, by omega, by go_num, rfl, by simp; omega, HGN, zh (fun _ => by simp), HSX⟩
           case measure => simp [intOf]; omega
       | false =>
        have HLT := zh hlt1;clear hlt1;obtain ⟨wq, rfl⟩ : ∃ wq : World, wq = wr := ⟨_, rfl⟩
        cases hdg : Lx.digit ((by_ S).getD k 0) with
        | true =>
         as_aux_lemma =>
         have HDG := zh hdg;have HN0 : Hid (NumOk (by_ S) k k 0) := zh (fun _ => by rw [cut_nil]; exact ⟨rfl, by simp⟩);have HB0 : Hid (Below wq.heap.size wq (wq.alloc (.cells #[.int .i64 0, .string { data := #[] }, .int .i64 0, .int .i64 (k : Int)] 95))) := zh (by go_grown);have HX0 := zh (blk_new wq (.cells #[.int .i64 0, .string { data := #[] }, .int .i64 0, .int .i64 (k : Int)] 95));clear hdg;go_wp2_with fail
         go_loopw [8, 15] (fun i b wx => ∃ (j : Nat) (bb : Bool) (num : Int), k ≤ j ∧ j ≤ S.size ∧ i = .int .i64 j ∧ b = .bool bb ∧ (0 ≤ num ∧ num ≤ 1000000000000) ∧ Hid (bb = true ↔ (j < S.size ∧ Lx.digit ((by_ S).getD j 0) = true)) ∧ Hid (Lx.spanEnd Lx.digit (by_ S) k = Lx.spanEnd Lx.digit (by_ S) j) ∧ Hid (NumOk (by_ S) k j num) ∧ Hid (Below wq.heap.size wq wx) ∧ Hid (wx.heap[wq.heap.size]? = some (.cells #[.int .i64 0, .string { data := #[] }, .int .i64 num, .int .i64 (k : Int)] 95 (0, 0)))) (fun i _ _ => S.size - (intOf i).toNat)
         case atStart => exact ⟨k, true, 0, by omega, by omega, rfl, rfl, by omega, zh ⟨fun _ => ⟨hlt, HDG.out⟩, fun _ => rfl⟩, zh rfl, HN0, HB0, HX0⟩
         case round =>
          clear HN0 HB0 HX0;obtain ⟨j, bb, num, hkj, hj, rfl, rfl, ⟨hn0, hn1⟩, HJ, HE, HN, HB, HX⟩ := hrel;have hq0 := blk_cell HX.out 0;have hq1 := blk_cell HX.out 1;have hq2 := blk_cell HX.out 2;have hq3 := blk_cell HX.out 3;have hqf0 := blk_free HX.out 0;have hqf1 := blk_free HX.out 1;have hqf2 := blk_free HX.out 2;have hql := blk_lt HX.out;simp only [List.getElem?_toArray, List.getElem?_cons_zero, List.getElem?_cons_succ] at hq0 hq1 hq2 hq3
          cases bb with
          | true =>
           obtain ⟨hjs, hjd⟩ := HJ.out.1 rfl;have HEN : Hid (Lx.spanEnd Lx.digit (by_ S) k = Lx.spanEnd Lx.digit (by_ S) (j + 1)) := zh (by rw [HE.out, Lx.spanEnd_more (by omega) hjd]);have hgj := get_by S j hjs;have hmore := HN.out.more hkj hjs hgj.symm (by rw [hgj]; exact hjd) hn0;have hdc := hjd;rw [← hgj, digit_iff] at hdc;simp only [decide_eq_true_eq] at hdc;obtain ⟨hd1, hd2⟩ := hdc;clear hgj hjd HE HJ HN
           by_cases hcap : 10 * num + (S[j].toNat : Int) - 48 ≤ 1000000000000
           ·by_cases hj1 : j + 1 < S.size
            ·as_aux_lemma =>
             have HNN := zh (hmore.1 hcap);clear hmore;have HX1 := zh (blk_set HX.out 2 (.int .i64 (10 * num + (S[j].toNat : Int) - 48)));have HB1 := zh (HB.out.setCell (p := ⟨wq.heap.size, 2, none⟩) (Nat.le_refl _) (.int .i64 (10 * num + (S[j].toNat : Int) - 48)));have hgj1 := get_by S (j + 1) hj1;have HJN : Hid (Lx.digit S[j + 1] = true ↔ (j + 1 < S.size ∧ Lx.digit ((by_ S).getD (j + 1) 0) = true)) := zh (by rw [← hgj1]; exact ⟨fun h => ⟨hj1, h⟩, fun h => h.2⟩);clear hgj1;go_wp2_with fail
             go_region
             all_goals
              go_wp2_with fail
              refine (digit_any S[j + 1] _).mono ?_;rintro e w6 ⟨rfl, rfl⟩;go_wp2
              go_roundw
              case rel => exact ⟨j + 1, _, 10 * num + (S[j].toNat : Int) - 48, by omega, by omega, by go_num, rfl, by omega, HJN, HEN, HNN, (by first | exact HB1 | exact zh HB1.out.drew), HX1⟩
              case measure => simp [intOf]; omega
            ·as_aux_lemma =>
             have HNN := zh (hmore.1 hcap);clear hmore;have HX1 := zh (blk_set HX.out 2 (.int .i64 (10 * num + (S[j].toNat : Int) - 48)));have HB1 := zh (HB.out.setCell (p := ⟨wq.heap.size, 2, none⟩) (Nat.le_refl _) (.int .i64 (10 * num + (S[j].toNat : Int) - 48)));have HJN : Hid (false = true ↔ (j + 1 < S.size ∧ Lx.digit ((by_ S).getD (j + 1) 0) = true)) := zh ⟨fun h => Bool.noConfusion h, fun h => absurd h.1 hj1⟩;go_wp2_with fail
             go_region
             all_goals
              go_wp2
              go_roundw
              case rel => exact ⟨j + 1, false, 10 * num + (S[j].toNat : Int) - 48, by omega, by omega, by go_num, rfl, by omega, zh ⟨fun h => Bool.noConfusion h, fun h => absurd h.1 hj1⟩, HEN, HNN, (by first | exact HB1 | exact zh HB1.out.drew), HX1⟩
              case measure => simp [intOf]; omega
           ·have hcap : 1000000000000 < 10 * num + (S[j].toNat : Int) - 48 := by omega
            by_cases hj1 : j + 1 < S.size
            ·as_aux_lemma =>
             have HNN := zh (hmore.2 hcap);clear hmore;have hb1 := blk_set HX.out 2 (.int .i64 (10 * num + (S[j].toNat : Int) - 48));have HX1 := zh (blk_set hb1 2 (.int .i64 1000000000000));have HB1 := zh ((HB.out.setCell (p := ⟨wq.heap.size, 2, none⟩) (Nat.le_refl _) (.int .i64 (10 * num + (S[j].toNat : Int) - 48))).setCell (p := ⟨wq.heap.size, 2, none⟩) (Nat.le_refl _) (.int .i64 1000000000000));clear hb1;have hgj1 := get_by S (j + 1) hj1;have HJN : Hid (Lx.digit S[j + 1] = true ↔ (j + 1 < S.size ∧ Lx.digit ((by_ S).getD (j + 1) 0) = true)) := zh (by rw [← hgj1]; exact ⟨fun h => ⟨hj1, h⟩, fun h => h.2⟩);clear hgj1;go_wp2_with fail
             go_region
             all_goals
              go_wp2_with fail
              refine (digit_any S[j + 1] _).mono ?_;rintro e w6 ⟨rfl, rfl⟩;go_wp2
              go_roundw
              case rel => exact ⟨j + 1, _, 1000000000000, by omega, by omega, by go_num, rfl, by omega, HJN, HEN, HNN, (by first | exact HB1 | exact zh HB1.out.drew), HX1⟩
              case measure => simp [intOf]; omega
            ·as_aux_lemma =>
             have HNN := zh (hmore.2 hcap);clear hmore;have hb1 := blk_set HX.out 2 (.int .i64 (10 * num + (S[j].toNat : Int) - 48));have HX1 := zh (blk_set hb1 2 (.int .i64 1000000000000));have HB1 := zh ((HB.out.setCell (p := ⟨wq.heap.size, 2, none⟩) (Nat.le_refl _) (.int .i64 (10 * num + (S[j].toNat : Int) - 48))).setCell (p := ⟨wq.heap.size, 2, none⟩) (Nat.le_refl _) (.int .i64 1000000000000));clear hb1;have HJN : Hid (false = true ↔ (j + 1 < S.size ∧ Lx.digit ((by_ S).getD (j + 1) 0) = true)) := zh ⟨fun h => Bool.noConfusion h, fun h => absurd h.1 hj1⟩;go_wp2_with fail
             go_region
             all_goals
              go_wp2
              go_roundw
              case rel => exact ⟨j + 1, false, 1000000000000, by omega, by omega, by go_num, rfl, by omega, zh ⟨fun h => Bool.noConfusion h, fun h => absurd h.1 hj1⟩, HEN, HNN, (by first | exact HB1 | exact zh HB1.out.drew), HX1⟩
              case measure => simp [intOf]; omega
          | false =>
           have HSE : Hid (Lx.spanEnd Lx.digit (by_ S) k = j) := zh (by
            rw [HE.out];refine Lx.spanEnd_end (fun h => ?_);have := HJ.out.2 ⟨by omega, h.2⟩
            cases this)
           have hkj1 : k < j := by
            have := Lx.spanEnd_gt (p := Lx.digit) HKN.out HDG.out;rw [HSE.out] at this;exact this
           have HTX : Hid (Lx.cut (by_ S) k j = by_ (S.extract k j)) := zh (by rw [by_extract]);have HSF := zh (HS.out.below HB.out);have hcs := cut_size S k j (by omega) hj;have hstep := step_num HBL.out HPF.out HLT.out HDG.out;rw [HSE.out, cut_len S k j (by omega) hj] at hstep;obtain ⟨n, hnn⟩ : ∃ n, n = j - k := ⟨_, rfl⟩;rw [← hnn] at hcs hstep;have HST := zh hstep;have HNE := zh hnn;have hnj : (n : Int) ≤ 6000 := by omega
           have hneq : w.heap.size < wq.heap.size := (rx_res HS.out).choose_spec.choose_spec.2.2.2.2;obtain ⟨c0, c1, fc0, fc1, ff0, ff1, hfl⟩ := rx_res HSF.out;obtain ⟨wz, rfl⟩ : ∃ wz : World, wz = wr := ⟨_, rfl⟩;clear HE HJ hstep hnn hkj;have HB5 : Hid (Below wq.heap.size wq ((wz.setCell ⟨wq.heap.size, 0, none⟩ (.int .i64 2)).setCell ⟨wq.heap.size, 1, none⟩ (.string (S.extract k j)))) := zh ((HB.out.setCell (p := ⟨wq.heap.size, 0, none⟩) (Nat.le_refl _) (.int .i64 2)).setCell (p := ⟨wq.heap.size, 1, none⟩) (Nat.le_refl _) (.string (S.extract k j)));have HS6 := zh (HS.out.below HB5.out)
           by_cases h9 : (9 : Int) < n
           ·as_aux_lemma =>
            have HGE : Hid (Lx.scan (by_ S) = .error (3, k)) := zh (by
             rw [HG.out];exact Lx.go_bad HKN.out HNL.out (HST.out.trans (if_pos (Or.inl (by omega)))))
            clear HG HST;go_wp2
            exact rx_ret (rx_fail HS6.out HGE.out).1 (rx_fail HS6.out HGE.out).2 rfl rfl
           ·by_cases h1 : (1 : Int) < n
            ·by_cases h48 : (by_ S).getD k 0 = 48
             ·as_aux_lemma =>
              have h48b : ((S[k].toNat : Int) == 48) = true := (u8_is HGET.out 48).trans (by rw [h48]; rfl);have H48 := zh h48;clear h48;have HGE : Hid (Lx.scan (by_ S) = .error (3, k)) := zh (by
               rw [HG.out];exact Lx.go_bad HKN.out HNL.out (HST.out.trans (if_pos (Or.inr ⟨by omega, H48.out⟩))))
              clear HG HST;go_wp2
              exact rx_ret (rx_fail HS6.out HGE.out).1 (rx_fail HS6.out HGE.out).2 rfl rfl
             ·as_aux_lemma =>
              have h48b : ((S[k].toNat : Int) == 48) = false := (u8_is HGET.out 48).trans (u8_ne48 h48);have H48 := zh h48;have HIF : Hid (¬ (9 < n ∨ (1 < n ∧ (by_ S).getD k 0 = 48))) := zh (fun h => h.elim (fun h => by omega) (fun h => H48.out h.2));clear h48;have hwsz : ((wz.setCell ⟨wq.heap.size, 0, none⟩ (.int .i64 2)).setCell ⟨wq.heap.size, 1, none⟩ (.string (S.extract k j))).heap.size = wz.heap.size := by simp
              have hp1 : w.heap.size ≤ (((wz.setCell ⟨wq.heap.size, 0, none⟩ (.int .i64 2)).setCell ⟨wq.heap.size, 1, none⟩ (.string (S.extract k j))).alloc (.cells #[.int .i64 2, .string (S.extract k j), .int .i64 num, .int .i64 (k : Int)] 95)).heap.size := by have := HS.out.bel.size; have := HB5.out.size; simp; omega
              have HSW := zh (HS.out.below HB5.out);have HRW := zh (HSW.out.row.row.alloc (.cells #[.int .i64 2, .string (S.extract k j), .int .i64 num, .int .i64 (k : Int)] 95));have hnw := World.news_of_block (cs := #[.int .i64 2, .string (S.extract k j), .int .i64 num, .int .i64 (k : Int)]) (t := 95) (fr := (0, 0)) (heap_alloc_new ((wz.setCell ⟨wq.heap.size, 0, none⟩ (.int .i64 2)).setCell ⟨wq.heap.size, 1, none⟩ (.string (S.extract k j))) (.cells #[.int .i64 2, .string (S.extract k j), .int .i64 num, .int .i64 (k : Int)] 95));rw [hwsz] at hnw;have HNW := zh hnw;have hacc1 : acc.length ≤ 12000 := by omega
              clear hnw hwsz;go_wp2_with (at_builtin; refine wpList_append_own _ rfl _ _ 56 rfl w.heap.size 95 i0 (.agg #[.int .i64 0, .string ByteArray.empty, .int .i64 0, .int .i64 0]) 4 40 Tryz.underlying56 hi0 hz0 hs0 hb0 rfl (by decide) _ _ _ rfl HRW.out ⟨wz.heap.size, 0, none⟩ 1 1 [.int .i64 2, .string (S.extract k j), .int .i64 num, .int .i64 (k : Int)] rfl rfl HNW.out (tok_one _ _ _ _) ?c3 ?c4 hp1 ?_; rotate_right; intro v' w10 hown' hgrow hnil; have HSX := zh (HS.out.add (t := ⟨2, by_ (S.extract k j), num, k⟩) HB5.out hgrow hown'); clear hgrow hown' hnil)
              case c3 => unfold maxLen; omega
              case c4 => omega
              have HGN : Hid (Lx.scan (by_ S) = Lx.go (by_ S) j true (acc ++ [⟨2, by_ (S.extract k j), num, k⟩])) := zh (by
               rw [HG.out];refine Lx.go_tok HKN.out HNL.out ?_ hkj1;rw [HST.out, if_neg HIF.out, (HN.out (by have := HNE.out; omega)).1, HTX.out])
              clear HRW HSW HS HG HB5 HNW
              go_roundw
              case rel => exact ⟨j, true, _, by omega, by go_num, rfl, by simp; omega, HGN, zh (fun _ => by simp), HSX⟩
              case measure => simp [intOf]; omega
            ·as_aux_lemma =>
             have HIF : Hid (¬ (9 < n ∨ (1 < n ∧ (by_ S).getD k 0 = 48))) := zh (fun h => h.elim (fun h => by omega) (fun h => by omega));have hwsz : ((wz.setCell ⟨wq.heap.size, 0, none⟩ (.int .i64 2)).setCell ⟨wq.heap.size, 1, none⟩ (.string (S.extract k j))).heap.size = wz.heap.size := by simp
             have hp1 : w.heap.size ≤ (((wz.setCell ⟨wq.heap.size, 0, none⟩ (.int .i64 2)).setCell ⟨wq.heap.size, 1, none⟩ (.string (S.extract k j))).alloc (.cells #[.int .i64 2, .string (S.extract k j), .int .i64 num, .int .i64 (k : Int)] 95)).heap.size := by have := HS.out.bel.size; have := HB5.out.size; simp; omega
             have HSW := zh (HS.out.below HB5.out);have HRW := zh (HSW.out.row.row.alloc (.cells #[.int .i64 2, .string (S.extract k j), .int .i64 num, .int .i64 (k : Int)] 95));have hnw := World.news_of_block (cs := #[.int .i64 2, .string (S.extract k j), .int .i64 num, .int .i64 (k : Int)]) (t := 95) (fr := (0, 0)) (heap_alloc_new ((wz.setCell ⟨wq.heap.size, 0, none⟩ (.int .i64 2)).setCell ⟨wq.heap.size, 1, none⟩ (.string (S.extract k j))) (.cells #[.int .i64 2, .string (S.extract k j), .int .i64 num, .int .i64 (k : Int)] 95));rw [hwsz] at hnw;have HNW := zh hnw;have hacc1 : acc.length ≤ 12000 := by omega
             clear hnw hwsz;go_wp2_with (at_builtin; refine wpList_append_own _ rfl _ _ 56 rfl w.heap.size 95 i0 (.agg #[.int .i64 0, .string ByteArray.empty, .int .i64 0, .int .i64 0]) 4 40 Tryz.underlying56 hi0 hz0 hs0 hb0 rfl (by decide) _ _ _ rfl HRW.out ⟨wz.heap.size, 0, none⟩ 1 1 [.int .i64 2, .string (S.extract k j), .int .i64 num, .int .i64 (k : Int)] rfl rfl HNW.out (tok_one _ _ _ _) ?c3 ?c4 hp1 ?_; rotate_right; intro v' w10 hown' hgrow hnil; have HSX := zh (HS.out.add (t := ⟨2, by_ (S.extract k j), num, k⟩) HB5.out hgrow hown'); clear hgrow hown' hnil)
             case c3 => unfold maxLen; omega
             case c4 => omega
             have HGN : Hid (Lx.scan (by_ S) = Lx.go (by_ S) j true (acc ++ [⟨2, by_ (S.extract k j), num, k⟩])) := zh (by
              rw [HG.out];refine Lx.go_tok HKN.out HNL.out ?_ hkj1;rw [HST.out, if_neg HIF.out, (HN.out (by have := HNE.out; omega)).1, HTX.out])
             clear HRW HSW HS HG HB5 HNW
             go_roundw
             case rel => exact ⟨j, true, _, by omega, by go_num, rfl, by simp; omega, HGN, zh (fun _ => by simp), HSX⟩
             case measure => simp [intOf]; omega
        | false =>
         as_aux_lemma =>
         have HDG := zh hdg;clear hdg;go_wp2_with fail
         go_loopw [19] (fun m wx => ∃ (n : Nat) (g : List UInt8), n ≤ 25 ∧ m = .int .i64 n ∧ g.length ≤ 2 ∧ wx = wq.alloc (.cells #[.int .i64 3, .string (str g), .int .i64 0, .int .i64 (k : Int)] 95) ∧ Hid ((g = [] ∧ ∀ x ∈ Lx.signs.take n, x.isPrefixOf ((by_ S).drop k) = false) ∨ (g ≠ [] ∧ Lx.firstSign ((by_ S).drop k) = some g))) (fun m _ => 25 - (intOf m).toNat)
         case atStart => exact ⟨0, [], by omega, rfl, by simp, rfl, zh (Or.inl ⟨rfl, fun x hx => by simp at hx⟩)⟩
         case round =>
          obtain ⟨n, g, hn, rfl, hgl, rfl, HH⟩ := hrel;have HSG := zh (HS.out.below (show Below wq.heap.size wq (wq.alloc (.cells #[.int .i64 3, .string (str g), .int .i64 0, .int .i64 (k : Int)] 95)) by go_grown))
          by_cases hg : g = []
          ·subst hg;have HNO := zh (HH.out.resolve_right (fun h => h.1 rfl)).2
           have t1 : (str ([] : List UInt8)).toList = [] := by rw [by_toList, by_str]
           have t2 : ((str ([] : List UInt8)).toList == []) = true := by rw [t1]; rfl
           clear HH
           by_cases hn25 : n < 25
           ·have hsc := HSG.out.signs.cell (k := n) (show n < Lx.signs.length from hn25);obtain ⟨y1, y2⟩ := signs_ne n hn25
            have HF : Hid (List.isPrefixOf (Lx.signs.getD n []) ((by_ S).drop k) = true → Lx.firstSign ((by_ S).drop k) = some (Lx.signs.getD n [])) := zh (fun h => find_at (p := fun g => g.isPrefixOf ((by_ S).drop k)) (show n < Lx.signs.length from hn25) HNO.out h);have HNN : Hid (List.isPrefixOf (Lx.signs.getD n []) ((by_ S).drop k) = false → ∀ x ∈ Lx.signs.take (n + 1), x.isPrefixOf ((by_ S).drop k) = false) := zh (fun h x hx => by
             rw [List.take_succ_eq_append_getElem (show n < Lx.signs.length from hn25), List.mem_append, List.mem_singleton] at hx;rcases hx with hx | hx
             ·exact HNO.out x hx
             ·have e : Lx.signs.getD n [] = Lx.signs[n]'(show n < Lx.signs.length from hn25) := by simp [List.getElem?_eq_getElem (show n < Lx.signs.length from hn25)]
              rw [hx, ← e];exact h)
            have hs25 : Lx.signs.length = 25 := rfl;have Y1 := zh y1;clear y1;generalize Lx.signs.getD n [] = y at *;go_wp2_with fail
            refine (begins_any S (str y) k _ (by omega) (by rw [str_size]; omega) (by omega)).mono ?_;rintro e w5 ⟨rfl, rfl⟩;rw [by_str]
            cases hpy : List.isPrefixOf y ((by_ S).drop k) with
            | true =>
             have HFF := zh (HF.out hpy);clear HF HNN HNO hpy;go_wp2
             go_roundw
             case rel => exact ⟨n + 1, y, by omega, by go_num, y2, rfl, zh (Or.inr ⟨Y1.out, HFF.out⟩)⟩
             case measure => simp [intOf]; omega
            | false =>
             have HFF := zh (HNN.out hpy);clear HF HNN HNO hpy;go_wp2
             go_roundw
             case rel => exact ⟨n + 1, [], by omega, by go_num, by simp, rfl, zh (Or.inl ⟨rfl, HFF.out⟩)⟩
             case measure => simp [intOf]; omega
           ·obtain rfl : n = 25 := by omega
            have HGE : Hid (Lx.scan (by_ S) = .error (2, k)) := zh (by
             rw [HG.out];have hf : Lx.firstSign ((by_ S).drop k) = none := find_none (p := fun g => g.isPrefixOf ((by_ S).drop k)) (by have h := HNO.out; rwa [show Lx.signs.take 25 = Lx.signs from rfl] at h);exact Lx.go_bad HKN.out HNL.out (step_sign HBL.out HPF.out HLT.out HDG.out hf))
            have HSF := HSG;clear HNO;obtain ⟨c0, c1, fc0, fc1, ff0, ff1, hfl⟩ := rx_res HSF.out;go_wp2
            exact rx_ret (rx_fail HSF.out HGE.out).1 (rx_fail HSF.out HGE.out).2 rfl rfl
          ·have HF := zh (HH.out.resolve_left (fun h => hg h.1)).2;have t1 : ¬ (str g).toList = [] := by rw [by_toList, by_str]; exact hg
           have t2 : ((str g).toList == []) = false := by rw [by_toList, by_str]; simpa using hg
           have t3 : (str g).toList.isEmpty = false := by rw [by_toList, by_str]; simpa using hg
           have hgp : 0 < g.length := List.length_pos_iff.2 hg;have hgs : (str g).size = g.length := str_size g;have hpre : k + g.length ≤ S.size := by
            have h0 : Lx.signs.find? (fun g => g.isPrefixOf ((by_ S).drop k)) = some g := HF.out;have h1 := List.find?_some h0;have h2 := (List.isPrefixOf_iff_prefix.1 h1).length_le;rw [List.length_drop] at h2;omega
           clear HH hg HSG
           by_cases hn25 : n < 25
           ·skip
            have HB5 : Hid (Below wq.heap.size wq (wq.alloc (.cells #[.int .i64 3, .string (str g), .int .i64 0, .int .i64 (k : Int)] 95))) := zh (by go_grown);have hwsz : (wq.alloc (.cells #[.int .i64 3, .string (str g), .int .i64 0, .int .i64 (k : Int)] 95)).heap.size = wq.heap.size + 1 := by simp
            have hp1 : w.heap.size ≤ ((wq.alloc (.cells #[.int .i64 3, .string (str g), .int .i64 0, .int .i64 (k : Int)] 95)).alloc (.cells #[.int .i64 3, .string (str g), .int .i64 0, .int .i64 (k : Int)] 95)).heap.size := by have := HS.out.bel.size; have := HB5.out.size; simp; omega
            have HSW := zh (HS.out.below HB5.out);have HRW := zh (HSW.out.row.row.alloc (.cells #[.int .i64 3, .string (str g), .int .i64 0, .int .i64 (k : Int)] 95));have hnw := World.news_of_block (cs := #[.int .i64 3, .string (str g), .int .i64 0, .int .i64 (k : Int)]) (t := 95) (fr := (0, 0)) (heap_alloc_new (wq.alloc (.cells #[.int .i64 3, .string (str g), .int .i64 0, .int .i64 (k : Int)] 95)) (.cells #[.int .i64 3, .string (str g), .int .i64 0, .int .i64 (k : Int)] 95));rw [hwsz] at hnw;have HNW := zh hnw;have hacc1 : acc.length ≤ 12000 := by omega
            clear hnw hwsz;go_wp2_with (at_builtin; refine wpList_append_own _ rfl _ _ 56 rfl w.heap.size 95 i0 (.agg #[.int .i64 0, .string ByteArray.empty, .int .i64 0, .int .i64 0]) 4 40 Tryz.underlying56 hi0 hz0 hs0 hb0 rfl (by decide) _ _ _ rfl HRW.out ⟨wq.heap.size + 1, 0, none⟩ 1 1 [.int .i64 3, .string (str g), .int .i64 0, .int .i64 (k : Int)] rfl rfl HNW.out (tok_one _ _ _ _) ?c3 ?c4 hp1 ?_; rotate_right; intro v' w10 hown' hgrow hnil; have HSX := zh (HS.out.add (t := ⟨3, by_ (str g), 0, k⟩) HB5.out hgrow hown'); clear hgrow hown' hnil)
            case c3 => unfold maxLen; omega
            case c4 => omega
            have HGN : Hid (Lx.scan (by_ S) = Lx.go (by_ S) (k + g.length) true (acc ++ [⟨3, by_ (str g), 0, k⟩])) := zh (by
             rw [HG.out];exact Lx.go_tok HKN.out HNL.out (step_sign HBL.out HPF.out HLT.out HDG.out HF.out) (by omega))
            clear HRW HSW HS HG HB5 HNW
            go_roundw
            case rel => exact ⟨k + g.length, true, _, by omega, by go_num, rfl, by simp; omega, HGN, zh (fun _ => by simp), HSX⟩
            case measure => simp [intOf]; omega
           ·skip
            have HB5 : Hid (Below wq.heap.size wq (wq.alloc (.cells #[.int .i64 3, .string (str g), .int .i64 0, .int .i64 (k : Int)] 95))) := zh (by go_grown);have hwsz : (wq.alloc (.cells #[.int .i64 3, .string (str g), .int .i64 0, .int .i64 (k : Int)] 95)).heap.size = wq.heap.size + 1 := by simp
            have hp1 : w.heap.size ≤ ((wq.alloc (.cells #[.int .i64 3, .string (str g), .int .i64 0, .int .i64 (k : Int)] 95)).alloc (.cells #[.int .i64 3, .string (str g), .int .i64 0, .int .i64 (k : Int)] 95)).heap.size := by have := HS.out.bel.size; have := HB5.out.size; simp; omega
            have HSW := zh (HS.out.below HB5.out);have HRW := zh (HSW.out.row.row.alloc (.cells #[.int .i64 3, .string (str g), .int .i64 0, .int .i64 (k : Int)] 95));have hnw := World.news_of_block (cs := #[.int .i64 3, .string (str g), .int .i64 0, .int .i64 (k : Int)]) (t := 95) (fr := (0, 0)) (heap_alloc_new (wq.alloc (.cells #[.int .i64 3, .string (str g), .int .i64 0, .int .i64 (k : Int)] 95)) (.cells #[.int .i64 3, .string (str g), .int .i64 0, .int .i64 (k : Int)] 95));rw [hwsz] at hnw;have HNW := zh hnw;have hacc1 : acc.length ≤ 12000 := by omega
            clear hnw hwsz;go_wp2_with (at_builtin; refine wpList_append_own _ rfl _ _ 56 rfl w.heap.size 95 i0 (.agg #[.int .i64 0, .string ByteArray.empty, .int .i64 0, .int .i64 0]) 4 40 Tryz.underlying56 hi0 hz0 hs0 hb0 rfl (by decide) _ _ _ rfl HRW.out ⟨wq.heap.size + 1, 0, none⟩ 1 1 [.int .i64 3, .string (str g), .int .i64 0, .int .i64 (k : Int)] rfl rfl HNW.out (tok_one _ _ _ _) ?c3 ?c4 hp1 ?_; rotate_right; intro v' w10 hown' hgrow hnil; have HSX := zh (HS.out.add (t := ⟨3, by_ (str g), 0, k⟩) HB5.out hgrow hown'); clear hgrow hown' hnil)
            case c3 => unfold maxLen; omega
            case c4 => omega
            have HGN : Hid (Lx.scan (by_ S) = Lx.go (by_ S) (k + g.length) true (acc ++ [⟨3, by_ (str g), 0, k⟩])) := zh (by
             rw [HG.out];exact Lx.go_tok HKN.out HNL.out (step_sign HBL.out HPF.out HLT.out HDG.out HF.out) (by omega))
            clear HRW HSW HS HG HB5 HNW
            go_roundw
            case rel => exact ⟨k + g.length, true, _, by omega, by go_num, rfl, by simp; omega, HGN, zh (fun _ => by simp), HSX⟩
            case measure => simp [intOf]; omega
end Go.Proofs.YtjickecdkmljpaaGreatDoor
