/-
  PROVED HERE: a token is put behind the others. No condition beyond the lemmas' own premises.
-/
import Derived.Test.YtjickecdkmljpaaGreatDoorPsTk
import Derived.Test.YtjickecdkmljpaaGreatDoorLxA
import Derived.Lib.AtoiErrMem
namespace Go.Proofs.YtjickecdkmljpaaGreatDoor
open Go.RowKit

/-- What putting a token leaves. -/
def PutPost (N p : Nat) (S : ByteArray) (j : Nat) (t : Lx.Tok) (acc : List Lx.Tok) (w : World) (e : Ending) (w' : World) : Prop :=
 e = .returned (.tuple #[]) ∧ ScSt N p w' S j true (acc ++ [t]) ∧ Below N w w'
theorem put_post {N p j : Nat} {S : ByteArray} {t : Lx.Tok} {acc : List Lx.Tok} {w w' : World} (hs : ScSt N p w' S j true (acc ++ [t])) (hb : Below N w w') : PutPost N p S j t acc w (.returned (.tuple #[])) w' := ⟨rfl, hs, hb⟩
theorem cut_str (S : ByteArray) (i k : Nat) : S.extract i k = str (Lx.cut (by_ S) i k) := by
 apply by_inj
 rw [by_extract, by_str]

set_option maxRecDepth 100000 in
set_option maxHeartbeats 1000000 in
theorem put_tok (N p i j : Nat) (kind : Int) (S : ByteArray) (line : Bool) (acc : List Lx.Tok) (w : World) (h : ScSt N p w S i line acc) (hN : N ≤ p) (hi : i ≤ j) (hto : j ≤ S.size) (_hS : S.size ≤ 6000) (hk : (kind == 2) = false) (hl : acc.length ≤ 12010) :
  Calls Tryz.prog 87 #[.pointer (some ⟨p, 0, none⟩), .int .i64 kind, .int .i64 (j : Int)] w (PutPost N p S j ⟨kind, Lx.cut (by_ S) i j, 0, i⟩ acc w) := by
 obtain ⟨v, hp, hv⟩ := h.at_;have c0 := blk_cell hp 0;have c1 := blk_cell hp 1;have c2 := blk_cell hp 2;have c3 := blk_cell hp 3;have f1 := blk_free hp 1;have f2 := blk_free hp 2;have f3 := blk_free hp 3;have hpl := blk_lt hp;simp only [List.getElem?_toArray, List.getElem?_cons_zero, List.getElem?_cons_succ] at c0 c1 c2 c3;have HP := zh hp;have HV := zh hv;have HC := zh (cut_str S i j);obtain ⟨i0, hi0, hz0, hz1, hz2⟩ := info_parts tok_info;clear hp hv h
 go_enter Tryz.func87, Tryz.ntmps87
 go_wp2_with fail
 go_region
 rw [HC.out];obtain ⟨w1, hw1⟩ : ∃ w1 : World, w1 = (w.alloc (.cells #[.int .i64 kind, .string (str (Lx.cut (by_ S) i j)), .int .i64 0, .int .i64 (i : Int)] 95)).drew := ⟨_, rfl⟩;have HQ : Hid (w1.heap[w.heap.size]? = some (.cells #[.int .i64 kind, .string (str (Lx.cut (by_ S) i j)), .int .i64 0, .int .i64 (i : Int)] 95 (0, 0))) := zh (by rw [hw1]; exact blk_new _ _);have HP1 : Hid (ScAt p w1 S i line v) := zh (by rw [hw1]; exact blk_alloc HP.out _);have HB1 : Hid (Below w.heap.size w w1) := zh (by rw [hw1]; exact ((Below.refl _ _).alloc (Nat.le_refl _) _).drew);have HV1 : Hid (w1.ownsRow N 95 4 v acc.length (acc.flatMap tokCells)) := zh (by rw [hw1]; exact HV.out.alloc _);rw [← hw1];have q0 := blk_cell HQ.out 0;have q1 := blk_cell HQ.out 1;have q2 := blk_cell HQ.out 2;have q3 := blk_cell HQ.out 3;have hql := blk_lt HQ.out;have d0 := blk_cell HP1.out 0;have d1 := blk_cell HP1.out 1;have d2 := blk_cell HP1.out 2
 have d3 := blk_cell HP1.out 3;have hp1 := blk_lt HP1.out;have hs1 := HB1.out.size;simp only [List.getElem?_toArray, List.getElem?_cons_zero, List.getElem?_cons_succ] at q0 q1 q2 q3 d0 d1 d2 d3;have HBA : Hid (((w1.alloc (.cells (tokCells ⟨kind, Lx.cut (by_ S) i j, 0, i⟩).toArray 95)).drew).heap[p]? = some (.cells #[.string S, .int .i64 (i : Int), .bool line, v] 92 (0, 0))) := zh (blk_alloc HP1.out _);clear hw1 c0 c1 c2 c3 f1 f2 f3 HC;go_wp2_with fail
 go_region_law (refine step_append_lies _ (by rfl) _ _ _ (by rfl) N 95 i0 _ 4 40 Tryz.underlying56 hi0 hz0 hz1 hz2 rfl (by omega) v acc.length (acc.flatMap tokCells) (by rfl) (by exact HV1.out.alloc _) ⟨w1.heap.size, 0, none⟩ 1 1 (tokCells ⟨kind, Lx.cut (by_ S) i j, 0, i⟩) (by rfl) (by rfl) (World.news_of_block (cs := (tokCells ⟨kind, Lx.cut (by_ S) i j, 0, i⟩).toArray) (t := 95) (fr := (0, 0)) (heap_alloc_new _ _)) (tok_one _ _ _ _) (by omega) (by unfold maxLen; omega) (by omega) (by simp; omega) (w1.heap.size + 1) (by simp) ?_; intro g2 cap2 w8 hown1 hgrow hat hlt; have hb8 := blk_grown HBA.out hgrow (fun e0 => own_ne_blk HV1.out HP1.out (by decide) e0.symm); have e0 := blk_cell hb8 3; have e1 := blk_free hb8 3; have e2 := blk_cell hb8 2; have e3 := blk_free hb8 2; have e4 := blk_cell hb8 1; have e5 := blk_free hb8 1; have hl8 := blk_lt hb8; simp only [List.getElem?_toArray, List.getElem?_cons_zero, List.getElem?_cons_succ] at e0 e2 e4; have HG := zh hgrow; have HO8 := zh hown1; have HB8 := zh hb8; clear hb8 hgrow hown1 hat)
 all_goals
  clear d0 d1 d2 d3 q0 q1 q2 q3;go_wp2
  go_returns
  have hb8 : Below N w w8 := Below.grown ((HB1.out.mono (by omega)).alloc (by omega) _).drew HG.out (by simp; omega) (fun k hk => (HV1.out.lt k hk).1);have hb9 := (((hb8.setCell (p := ⟨p, 3, none⟩) hN (.slice (some ⟨g2, 0, none⟩) (acc.length + 1) cap2)).setCell (p := ⟨p, 1, none⟩) hN (.int .i64 (j : Int))).setCell (p := ⟨p, 2, none⟩) hN (.bool true));have r1 := blk_set HB8.out 3 (.slice (some ⟨g2, 0, none⟩) (acc.length + 1) cap2);have r2 := blk_set r1 1 (.int .i64 (j : Int));have ho : ToksV N w8 (.slice (some ⟨g2, 0, none⟩) (acc.length + 1) cap2) (acc ++ [⟨kind, Lx.cut (by_ S) i j, 0, i⟩]) := toks_snoc HO8.out rfl;exact put_post ⟨_, blk_set r2 2 (.bool true), own_set (own_set (own_set ho HB8.out (by decide)) r1 (by decide)) r2 (by decide)⟩ hb9
/-! ### Numbers, plain -/
theorem dec_num : ∀ (l : List UInt8) (acc : Nat), (∀ c ∈ l, Lx.digit c = true) → ∃ m : Nat, Lib.decFrom acc l = some m ∧ (m : Int) = l.foldl (fun a c => 10 * a + ((c.toNat : Int) - 48)) (acc : Int)
 | [], acc, _ => ⟨acc, rfl, rfl⟩
 | c :: l, acc, h => by
  have hc := h c (by simp);rw [digit_iff, decide_eq_true_eq] at hc;obtain ⟨m, h1, h2⟩ := dec_num l (acc * 10 + (c.toNat - 48)) (fun x hx => h x (by simp [hx]));refine ⟨m, ?_, ?_⟩
  ·simp only [Lib.decFrom, Lib.digitVal];rw [if_pos ⟨by omega, by omega⟩]
   exact h1
  ·rw [h2, List.foldl_cons]
   congr 1
   omega
theorem atoi_num {l : List UInt8} (h : ∀ c ∈ l, Lx.digit c = true) (hne : l ≠ []) : Lib.atoi l = some (Lx.numVal l) := by
 cases l with
 | nil => exact absurd rfl hne
 | cons c r =>
  obtain ⟨m, h1, h2⟩ := dec_num (c :: r) 0 h;have hc := h c (by simp);rw [digit_iff, decide_eq_true_eq] at hc;have n45 : (c == 45) = false := by
   rw [beq_eq_false_iff_ne]; intro e; rw [e] at hc; revert hc; decide
  have n43 : (c == 43) = false := by
   rw [beq_eq_false_iff_ne]; intro e; rw [e] at hc; revert hc; decide
  simp only [Lib.atoi, n45, n43, Lib.decNat, List.isEmpty_cons, Bool.false_eq_true, if_false, h1, Option.map_some];rw [h2]
  rfl
theorem span_all (p : UInt8 → Bool) (s : List UInt8) (i : Nat) (_hi : i ≤ s.length) : ∀ c ∈ Lx.cut s i (Lx.spanEnd p s i), p c = true := by
 by_cases h : i < s.length ∧ p (s.getD i 0) = true
 ·have hg := Lx.spanEnd_ge p s (i + 1);have ih := span_all p s (i + 1) (by omega)
  rw [Lx.spanEnd_more h.1 h.2];intro c hc;unfold Lx.cut at hc ih;rw [List.drop_eq_getElem_cons h.1, show Lx.spanEnd p s (i + 1) - i = (Lx.spanEnd p s (i + 1) - (i + 1)) + 1 by omega, List.take_succ_cons] at hc;rcases List.mem_cons.1 hc with rfl | hc
  ·have := h.2
   rwa [List.getD_eq_getElem?_getD, List.getElem?_eq_getElem h.1] at this
  ·exact ih c hc
 ·rw [Lx.spanEnd_end h];intro c hc
  unfold Lx.cut at hc;simp at hc
termination_by s.length - i
decreasing_by omega

theorem cut_size (S : ByteArray) (k j : Nat) (hk : k ≤ j) (hj : j ≤ S.size) : (S.extract k j).size = j - k := by
 rw [ByteArray.size_extract];omega
theorem cut_head (S : ByteArray) (i j : Nat) (hi : i < j) (hj : j ≤ S.size) : ∀ h : 0 < (S.extract i j).size, (S.extract i j)[0] = (by_ S).getD i 0 := by
 intro h;have hlt : i < S.size := by omega
 rw [ByteArray.getElem_extract];simp [by_, hlt, ByteArray.getElem_eq_getElem_data]
/-- What a number that may not be is told as. -/
def BadPost (N : Nat) (i : Nat) (w : World) (e : Ending) (w' : World) : Prop := e = .panicked [{ v := .iface 89 (.agg #[.int .i64 3, .int .i64 (i : Int)]), recovered := false }] ∧ Below N w w'
set_option maxRecDepth 100000 in
set_option maxHeartbeats 1000000 in
theorem put_bad (N p i j : Nat) (S : ByteArray) (line : Bool) (acc : List Lx.Tok) (w : World) (h : ScSt N p w S i line acc) (hN : N ≤ p) (hi : i < j) (hto : j ≤ S.size) (_hS : S.size ≤ 6000) (hbad : 9 < j - i ∨ (1 < j - i ∧ (by_ S).getD i 0 = 48)) :
  Calls Tryz.prog 87 #[.pointer (some ⟨p, 0, none⟩), .int .i64 2, .int .i64 (j : Int)] w (BadPost N i w) := by
 obtain ⟨v, hp, hv⟩ := h.at_;have c0 := blk_cell hp 0;have c1 := blk_cell hp 1;have hpl := blk_lt hp;simp only [List.getElem?_toArray, List.getElem?_cons_zero, List.getElem?_cons_succ] at c0 c1;have hXs := cut_size S i j (by omega) hto;have HX0 := zh (cut_head S i j hi hto);clear hp hv h
 go_enter Tryz.func87, Tryz.ntmps87
 go_wp2_with fail
 go_region
 all_goals
  generalize S.extract i j = X at *;have h0 : 0 < X.size := by omega
  by_cases h9 : 9 < X.size
  ·clear HX0 hXs hbad;go_wp2_with fail
   refine (fail_any p 3 (i : Int) _).mono ?_;rintro e w7 ⟨rfl, rfl⟩;go_wp2
   exact ⟨rfl, rfl, ((Below.refl _ _).alloc (by omega) _).drew⟩
  ·have h1 : 1 < X.size := by omega
   have hx : ((X[0].toNat : Int) == 48) = true := by
    rcases hbad with hb | ⟨_, hb⟩
    ·omega
    ·rw [HX0.out h0, hb]; rfl
   clear HX0 hXs hbad;go_wp2_with fail
   refine (fail_any p 3 (i : Int) _).mono ?_;rintro e w7 ⟨rfl, rfl⟩;go_wp2
   exact ⟨rfl, rfl, ((Below.refl _ _).alloc (by omega) _).drew⟩
theorem u8_ne48 {c : UInt8} (h : ¬ c = 48) : ((c.toNat : Int) == 48) = false := by
 rw [beq_eq_false_iff_ne];intro h1;exact h (UInt8.toNat_inj.1 (by rw [show (48 : UInt8).toNat = 48 from rfl]; omega))
set_option maxRecDepth 100000 in
set_option maxHeartbeats 1000000 in
theorem put_num (N p i j : Nat) (S : ByteArray) (line : Bool) (acc : List Lx.Tok) (w : World) (h : ScSt N p w S i line acc) (hN : N ≤ p) (hi : i < j) (hto : j ≤ S.size) (_hS : S.size ≤ 6000) (hgood : ¬ (9 < j - i ∨ (1 < j - i ∧ (by_ S).getD i 0 = 48))) (hd : ∀ c ∈ Lx.cut (by_ S) i j, Lx.digit c = true) (hl : acc.length ≤ 12010) :
  Calls Tryz.prog 87 #[.pointer (some ⟨p, 0, none⟩), .int .i64 2, .int .i64 (j : Int)] w (PutPost N p S j ⟨2, Lx.cut (by_ S) i j, Lx.numVal (Lx.cut (by_ S) i j), i⟩ acc w) := by
 obtain ⟨v, hp, hv⟩ := h.at_;have c0 := blk_cell hp 0;have c1 := blk_cell hp 1;have hpl := blk_lt hp;simp only [List.getElem?_toArray, List.getElem?_cons_zero, List.getElem?_cons_succ] at c0 c1;have hXs := cut_size S i j (by omega) hto;have HX0 := zh (cut_head S i j hi hto);have HXC := zh (by_extract S i j);have hne : Lx.cut (by_ S) i j ≠ [] := by intro h0; have := congrArg List.length h0; rw [← by_extract, by_size, hXs] at this; simp at this; omega
 have HN := zh (atoi_num hd hne);have HP := zh hp;have HV := zh hv;obtain ⟨i0, hi0, hz0, hz1, hz2⟩ := info_parts tok_info;clear hp hv h hd hne
 go_enter Tryz.func87, Tryz.ntmps87
 go_wp2_with fail
 go_region
 all_goals
  generalize S.extract i j = X at *;obtain ⟨w1, hw1⟩ : ∃ w1 : World, w1 = (w.alloc (.cells #[.int .i64 2, .string X, .int .i64 0, .int .i64 (i : Int)] 95)).drew := ⟨_, rfl⟩;have HQ : Hid (w1.heap[w.heap.size]? = some (.cells #[.int .i64 2, .string X, .int .i64 0, .int .i64 (i : Int)] 95 (0, 0))) := zh (by rw [hw1]; exact blk_new _ _);have HP1 : Hid (ScAt p w1 S i line v) := zh (by rw [hw1]; exact blk_alloc HP.out _);have HB1 : Hid (Below w.heap.size w w1) := zh (by rw [hw1]; exact ((Below.refl _ _).alloc (Nat.le_refl _) _).drew);have HV1 : Hid (w1.ownsRow N 95 4 v acc.length (acc.flatMap tokCells)) := zh (by rw [hw1]; exact HV.out.alloc _);rw [← hw1];have q0 := blk_cell HQ.out 0;have q1 := blk_cell HQ.out 1;have q2 := blk_cell HQ.out 2;have q3 := blk_cell HQ.out 3;have hql := blk_lt HQ.out;have hs1 := HB1.out.size;simp only [List.getElem?_toArray, List.getElem?_cons_zero, List.getElem?_cons_succ] at q0 q1 q2 q3
  have h0 : 0 < X.size := by omega
  have h9 : X.size ≤ 9 := by omega
  clear hw1 c0 c1;have hgo : Calls Tryz.prog 145 #[.string X] w1 fun e w' => e = .returned (.tuple #[.int .i64 (Lx.numVal (Lx.cut (by_ S) i j)), .nilIface]) ∧ Below w1.heap.size w1 w' := (Tryz.strconv_Atoi X _ (by omega) (by rw [show X.data.toList = by_ X from rfl, HXC.out]; exact HN.out) w1).mono fun e w' h => by
   obtain ⟨he, t, ht⟩ := h;rw [ht];exact ⟨he, Lib.bytesWorld_below _ _ _⟩
  have HGO := zh hgo;clear hgo;have HNQ : Hid (v.ownBlock ≠ some w.heap.size) := zh (fun e0 => by have := (HV.out.lt _ e0).2; omega)
  by_cases h1 : 1 < X.size
  ·have hx : ((X[0].toNat : Int) == 48) = false := by
    rw [HX0.out h0];refine u8_ne48 fun e0 => hgood (.inr ⟨by omega, e0⟩)
   clear hgood HX0 hXs;go_wp2_with fail
   refine HGO.out.mono ?_;rintro e w5 ⟨rfl, hb5⟩;have HQ5 := zh (blk_below HQ.out hb5 hql);have HP5 := zh (blk_below HP1.out hb5 (blk_lt HP1.out));have HV5 := zh (own_below HV1.out hb5 (fun k hk => (HV1.out.lt k hk).2));have HB5 := zh (HB1.out.trans (hb5.mono hs1));have q2' := blk_cell HQ5.out 2;have q2f := blk_free HQ5.out 2;simp only [List.getElem?_toArray, List.getElem?_cons_zero, List.getElem?_cons_succ] at q2';have hql5 := blk_lt HQ5.out;have hne : w.heap.size ≠ p := by omega
   clear q0 q1 q2 q3 hb5;go_wp2_with fail
   obtain ⟨w2, hw2⟩ : ∃ w2 : World, w2 = w5.setCell ⟨w.heap.size, 2, none⟩ (.int .i64 (Lx.numVal (Lx.cut (by_ S) i j))) := ⟨_, rfl⟩;have HQ2 : Hid (w2.heap[w.heap.size]? = some (.cells #[.int .i64 2, .string X, .int .i64 (Lx.numVal (Lx.cut (by_ S) i j)), .int .i64 (i : Int)] 95 (0, 0))) := zh (by rw [hw2]; exact blk_set HQ5.out 2 _);have HP2 : Hid (ScAt p w2 S i line v) := zh (by rw [hw2]; exact blk_set_other HP5.out (Ne.symm hne) 2 _);have HB2 : Hid (Below w.heap.size w w2) := zh (by rw [hw2]; exact HB5.out.setCell (p := ⟨w.heap.size, 2, none⟩) (Nat.le_refl _) _);have HV2 : Hid (w2.ownsRow N 95 4 v acc.length (acc.flatMap tokCells)) := zh (by rw [hw2]; exact ownsRow_setCell_other HV5.out (a := ⟨w.heap.size, 2, none⟩) HNQ.out _);rw [← hw2];have q0 := blk_cell HQ2.out 0;have q1 := blk_cell HQ2.out 1;have q2 := blk_cell HQ2.out 2;have q3 := blk_cell HQ2.out 3;have d0 := blk_cell HP2.out 0;have d1 := blk_cell HP2.out 1
   have d2 := blk_cell HP2.out 2;have d3 := blk_cell HP2.out 3;have hp2 := blk_lt HP2.out;have hql2 := blk_lt HQ2.out;have hs2 := HB2.out.size;simp only [List.getElem?_toArray, List.getElem?_cons_zero, List.getElem?_cons_succ] at q0 q1 q2 q3 d0 d1 d2 d3;clear hw2 q2' q2f;have HBA : Hid (((w2.alloc (.cells (tokCells ⟨2, by_ X, Lx.numVal (Lx.cut (by_ S) i j), i⟩).toArray 95)).drew).heap[p]? = some (.cells #[.string S, .int .i64 (i : Int), .bool line, v] 92 (0, 0))) := zh (blk_alloc HP2.out _);go_wp2_with fail
   go_region_law (refine step_append_lies _ (by rfl) _ _ _ (by rfl) N 95 i0 _ 4 40 Tryz.underlying56 hi0 hz0 hz1 hz2 rfl (by omega) v acc.length (acc.flatMap tokCells) (by rfl) (by exact HV2.out.alloc _) ⟨w2.heap.size, 0, none⟩ 1 1 (tokCells ⟨2, by_ X, Lx.numVal (Lx.cut (by_ S) i j), i⟩) (by rfl) (by rfl) (World.news_of_block (cs := (tokCells ⟨2, by_ X, Lx.numVal (Lx.cut (by_ S) i j), i⟩).toArray) (t := 95) (fr := (0, 0)) (heap_alloc_new _ _)) (tok_one _ _ _ _) (by omega) (by unfold maxLen; omega) (by omega) (by simp; omega) (w2.heap.size + 1) (by simp) ?_; intro g2 cap2 w8 hown1 hgrow hat hlt; have hb8 := blk_grown HBA.out hgrow (fun e0 => own_ne_blk HV2.out HP2.out (by decide) e0.symm); have e0 := blk_cell hb8 3; have e1 := blk_free hb8 3; have e2 := blk_cell hb8 2; have e3 := blk_free hb8 2; have e4 := blk_cell hb8 1; have e5 := blk_free hb8 1; have hl8 := blk_lt hb8; simp only [List.getElem?_toArray, List.getElem?_cons_zero, List.getElem?_cons_succ] at e0 e2 e4; have HG := zh hgrow; have HO8 := zh hown1; have HB8 := zh hb8; clear hb8 hgrow hown1 hat)
   all_goals
    clear d0 d1 d2 d3 q0 q1 q2 q3;go_wp2
    go_returns
    have hb8 : Below N w w8 := Below.grown ((HB2.out.mono (by omega)).alloc (by omega) _).drew HG.out (by simp; omega) (fun k hk => (HV2.out.lt k hk).1);have hb9 := (((hb8.setCell (p := ⟨p, 3, none⟩) hN (.slice (some ⟨g2, 0, none⟩) (acc.length + 1) cap2)).setCell (p := ⟨p, 1, none⟩) hN (.int .i64 (j : Int))).setCell (p := ⟨p, 2, none⟩) hN (.bool true));have r1 := blk_set HB8.out 3 (.slice (some ⟨g2, 0, none⟩) (acc.length + 1) cap2);have r2 := blk_set r1 1 (.int .i64 (j : Int));have ho : ToksV N w8 (.slice (some ⟨g2, 0, none⟩) (acc.length + 1) cap2) (acc ++ [⟨2, by_ X, Lx.numVal (Lx.cut (by_ S) i j), i⟩]) := toks_snoc HO8.out rfl;rw [HXC.out] at ho;exact put_post ⟨_, blk_set r2 2 (.bool true), own_set (own_set (own_set ho HB8.out (by decide)) r1 (by decide)) r2 (by decide)⟩ hb9
  ·clear hgood HX0 hXs;go_wp2_with fail
   refine HGO.out.mono ?_;rintro e w5 ⟨rfl, hb5⟩;have HQ5 := zh (blk_below HQ.out hb5 hql);have HP5 := zh (blk_below HP1.out hb5 (blk_lt HP1.out));have HV5 := zh (own_below HV1.out hb5 (fun k hk => (HV1.out.lt k hk).2));have HB5 := zh (HB1.out.trans (hb5.mono hs1));have q2' := blk_cell HQ5.out 2;have q2f := blk_free HQ5.out 2;simp only [List.getElem?_toArray, List.getElem?_cons_zero, List.getElem?_cons_succ] at q2';have hql5 := blk_lt HQ5.out;have hne : w.heap.size ≠ p := by omega
   clear q0 q1 q2 q3 hb5;go_wp2_with fail
   obtain ⟨w2, hw2⟩ : ∃ w2 : World, w2 = w5.setCell ⟨w.heap.size, 2, none⟩ (.int .i64 (Lx.numVal (Lx.cut (by_ S) i j))) := ⟨_, rfl⟩;have HQ2 : Hid (w2.heap[w.heap.size]? = some (.cells #[.int .i64 2, .string X, .int .i64 (Lx.numVal (Lx.cut (by_ S) i j)), .int .i64 (i : Int)] 95 (0, 0))) := zh (by rw [hw2]; exact blk_set HQ5.out 2 _);have HP2 : Hid (ScAt p w2 S i line v) := zh (by rw [hw2]; exact blk_set_other HP5.out (Ne.symm hne) 2 _);have HB2 : Hid (Below w.heap.size w w2) := zh (by rw [hw2]; exact HB5.out.setCell (p := ⟨w.heap.size, 2, none⟩) (Nat.le_refl _) _);have HV2 : Hid (w2.ownsRow N 95 4 v acc.length (acc.flatMap tokCells)) := zh (by rw [hw2]; exact ownsRow_setCell_other HV5.out (a := ⟨w.heap.size, 2, none⟩) HNQ.out _);rw [← hw2];have q0 := blk_cell HQ2.out 0;have q1 := blk_cell HQ2.out 1;have q2 := blk_cell HQ2.out 2;have q3 := blk_cell HQ2.out 3;have d0 := blk_cell HP2.out 0;have d1 := blk_cell HP2.out 1
   have d2 := blk_cell HP2.out 2;have d3 := blk_cell HP2.out 3;have hp2 := blk_lt HP2.out;have hql2 := blk_lt HQ2.out;have hs2 := HB2.out.size;simp only [List.getElem?_toArray, List.getElem?_cons_zero, List.getElem?_cons_succ] at q0 q1 q2 q3 d0 d1 d2 d3;clear hw2 q2' q2f;have HBA : Hid (((w2.alloc (.cells (tokCells ⟨2, by_ X, Lx.numVal (Lx.cut (by_ S) i j), i⟩).toArray 95)).drew).heap[p]? = some (.cells #[.string S, .int .i64 (i : Int), .bool line, v] 92 (0, 0))) := zh (blk_alloc HP2.out _);go_wp2_with fail
   go_region_law (refine step_append_lies _ (by rfl) _ _ _ (by rfl) N 95 i0 _ 4 40 Tryz.underlying56 hi0 hz0 hz1 hz2 rfl (by omega) v acc.length (acc.flatMap tokCells) (by rfl) (by exact HV2.out.alloc _) ⟨w2.heap.size, 0, none⟩ 1 1 (tokCells ⟨2, by_ X, Lx.numVal (Lx.cut (by_ S) i j), i⟩) (by rfl) (by rfl) (World.news_of_block (cs := (tokCells ⟨2, by_ X, Lx.numVal (Lx.cut (by_ S) i j), i⟩).toArray) (t := 95) (fr := (0, 0)) (heap_alloc_new _ _)) (tok_one _ _ _ _) (by omega) (by unfold maxLen; omega) (by omega) (by simp; omega) (w2.heap.size + 1) (by simp) ?_; intro g2 cap2 w8 hown1 hgrow hat hlt; have hb8 := blk_grown HBA.out hgrow (fun e0 => own_ne_blk HV2.out HP2.out (by decide) e0.symm); have e0 := blk_cell hb8 3; have e1 := blk_free hb8 3; have e2 := blk_cell hb8 2; have e3 := blk_free hb8 2; have e4 := blk_cell hb8 1; have e5 := blk_free hb8 1; have hl8 := blk_lt hb8; simp only [List.getElem?_toArray, List.getElem?_cons_zero, List.getElem?_cons_succ] at e0 e2 e4; have HG := zh hgrow; have HO8 := zh hown1; have HB8 := zh hb8; clear hb8 hgrow hown1 hat)
   all_goals
    clear d0 d1 d2 d3 q0 q1 q2 q3;go_wp2
    go_returns
    have hb8 : Below N w w8 := Below.grown ((HB2.out.mono (by omega)).alloc (by omega) _).drew HG.out (by simp; omega) (fun k hk => (HV2.out.lt k hk).1);have hb9 := (((hb8.setCell (p := ⟨p, 3, none⟩) hN (.slice (some ⟨g2, 0, none⟩) (acc.length + 1) cap2)).setCell (p := ⟨p, 1, none⟩) hN (.int .i64 (j : Int))).setCell (p := ⟨p, 2, none⟩) hN (.bool true));have r1 := blk_set HB8.out 3 (.slice (some ⟨g2, 0, none⟩) (acc.length + 1) cap2);have r2 := blk_set r1 1 (.int .i64 (j : Int));have ho : ToksV N w8 (.slice (some ⟨g2, 0, none⟩) (acc.length + 1) cap2) (acc ++ [⟨2, by_ X, Lx.numVal (Lx.cut (by_ S) i j), i⟩]) := toks_snoc HO8.out rfl;rw [HXC.out] at ho;exact put_post ⟨_, blk_set r2 2 (.bool true), own_set (own_set (own_set ho HB8.out (by decide)) r1 (by decide)) r2 (by decide)⟩ hb9
end Go.Proofs.YtjickecdkmljpaaGreatDoor
