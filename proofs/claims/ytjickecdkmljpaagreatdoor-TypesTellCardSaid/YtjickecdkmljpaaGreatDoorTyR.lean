/-
  PROVED HERE: the reference's Text: of every node it tells the plain text. the program's Table.Text: of every node it tells the plain text. the reference's small functions on texts: Sames of equal rows, Begins, Decl, put. the reference's put: a text into its place. the reference's Methods: what it tells of a type. the reference's Fits. No condition beyond the lemmas' own premises.
-/
import Derived.Test.YtjickecdkmljpaaGreatDoorTyA
import Derived.Test.YtjickecdkmljpaaGreatDoorPsSame
import Derived.Test.YtjickecdkmljpaaGreatDoorPsTk
import Derived.Laws.Concat
import Derived.Test.YtjickecdkmljpaaGreatDoorShelf2
namespace Go.Proofs.YtjickecdkmljpaaGreatDoor
open Go.RowKit

theorem add_str {P : Program} (a b c : List UInt8) {A B : ByteArray} (w : World) (hc : a ++ b = c) (h : c.length ≤ 1000000000000) (hA : A = str a := by rfl) (hB : B = str b := by rfl) : (Op.stringOp .add A B).run P w = .ok (.string (str c)) w := by
 subst hA hB hc;rw [run_string_add_sum w _ _ (by rw [str_size, str_size]; rw [List.length_append] at h; omega)]
 congr 2
theorem joinC_snoc (l : List (List UInt8)) (x : List UInt8) (h : l ≠ []) : Ps.joinC (l ++ [x]) = Ps.joinC l ++ (44 :: x) := by
 induction l with
 | nil => exact absurd rfl h
 | cons y r ih =>
  cases r with
  | nil => rfl
  | cons z r =>
   have := ih (by simp);simp only [List.cons_append, Ps.joinC] at this ⊢;rw [this];simp
/-- The beginning of a text of more is no longer. -/
theorem joinC_take (l : List (List UInt8)) (j : Nat) : (Ps.joinC (l.take j)).length ≤ (Ps.joinC l).length := by
 induction l generalizing j with
 | nil => simp [Ps.joinC]
 | cons x r ih =>
  cases j with
  | zero => simp [Ps.joinC]
  | succ j =>
   cases r with
   | nil => simp
   | cons y r =>
    cases j with
    | zero => simp only [List.take_succ_cons, List.take_zero, Ps.joinC, List.length_append]; omega
    | succ j =>
     have := ih (j + 1);simp only [List.take_succ_cons, Ps.joinC, List.length_append, List.length_cons] at this ⊢;omega
section
variable {L : List Ps.Nd} {D : List (Ps.Nd × Value)} {N : Nat}
set_option maxRecDepth 100000 in
set_option maxHeartbeats 4000000 in
theorem rtext_any (HW : Hid (Ps.Wf L)) (HS : Hid (∀ k, (Ps.text L k).length ≤ 100000000000)) (HL : Hid (L = D.map (·.1))) (k : Nat) : ∀ (w : World) (v : Value), NodesV N w v D → k < D.length → Calls Tryz.prog 16 #[v, .int .i64 (k : Int)] w fun e w' => e = .returned (.string (str (Ps.text L k))) ∧ Below w.heap.size w w' := by
 induction k using Nat.strongRecOn with
 | ind k ih =>
 intro w v hv hk;obtain ⟨⟨x, u⟩, hx⟩ : ∃ x, D[k]? = some x := ⟨_, List.getElem?_eq_getElem hk⟩;have hLx : L[k]? = some x := by rw [HL.out, List.getElem?_map, hx]; rfl
 have HO := zh (HW.out k x hLx);have T := Ps.text_eq HW.out k;rw [Ps.getD_of hLx] at T;have HT := zh T;clear T;have hkl := row_max hv.row;obtain ⟨g, cap, rfl⟩ := own_lit hv.row (by omega);obtain ⟨c0, c1, c2, c3, c4⟩ := nodes_at hv rfl hx;have hmem : (x, u) ∈ D := List.mem_of_getElem? hx;have hkv : KidsV N w u x.kids := hv.kids _ hmem;obtain ⟨ua, uc, rfl⟩ := own_slice hkv rfl;dsimp only at c0 c1 c2 c3 c4;have hA : ∀ o, NodesV N (w.alloc o) (.slice (some ⟨g, 0, none⟩) D.length cap) D := fun o => hv.further ((Below.refl _ _).alloc (Nat.le_refl _) o)
 have HA := zh hA;have HIH := zh ih;have hlen := HS.out k;clear ih hA;have hki : (k : Int) < (D.length : Int) := by omega
 have hk0 : (0 : Int) ≤ (k : Int) := by omega
 have HB : ∀ o, Below w.heap.size w (w.alloc o) := fun o => (Below.refl _ _).alloc (Nat.le_refl _) o
 have HBB := zh HB;clear HB
 go_enter Tryz.func16, Tryz.ntmps16
 by_cases k1 : x.kind = 1
 ·have b1 : (x.kind == 1) = true := by simp [k1]
  go_wp2
  go_returns
  exact ⟨by rw [HT.out, if_pos k1]; rfl, HBB.out _⟩
 have b1 : (x.kind == 1) = false := by simpa using k1
 replace HT := zh (HT.out.trans (if_neg k1))
 by_cases k2 : x.kind = 2
 ·have b2 : (x.kind == 2) = true := by simp [k2]
  go_wp2
  go_returns
  exact ⟨by rw [HT.out, if_pos k2]; rfl, HBB.out _⟩
 have b2 : (x.kind == 2) = false := by simpa using k2
 replace HT := zh (HT.out.trans (if_neg k2))
 by_cases k3 : x.kind = 3
 ·have b3 : (x.kind == 3) = true := by simp [k3]
  go_wp2
  go_returns
  exact ⟨by rw [HT.out, if_pos k3]; rfl, HBB.out _⟩
 have b3 : (x.kind == 3) = false := by simpa using k3
 replace HT := zh (HT.out.trans (if_neg k3))
 by_cases k4 : x.kind = 4
 ·have b4 : (x.kind == 4) = true := by simp [k4]
  have ha : ∀ w, (Op.stringOp .add ⟨#[42]⟩ (str x.text)).run Tryz.prog w = .ok (.string (str (42 :: x.text))) w := fun w => add_str [42] x.text _ w rfl (by rw [HT.out, if_pos k4] at hlen; omega)
  go_wp2
  go_returns
  exact ⟨by rw [HT.out, if_pos k4]; rfl, HBB.out _⟩
 have b4 : (x.kind == 4) = false := by simpa using k4
 replace HT := zh (HT.out.trans (if_neg k4))
 by_cases k5 : x.kind = 5
 ·have b5 : (x.kind == 5) = true := by simp [k5]
  have hne := HO.out.one (.inl k5);have hl0 : 0 < x.kids.length := List.length_pos_iff.2 hne;obtain ⟨g2, c2p, hg2⟩ := own_lit hkv (by omega)
  cases hg2
  have kc : ∀ o, (w.alloc o).cell? ⟨g2, 0, none⟩ = some (.int .i64 ((x.kids.getD 0 0 : Nat) : Int)) := fun o => kids_at ((HA.out o).kids _ hmem) rfl hl0
  have hlt := HO.out.lt _ (Ps.mem_getD hl0);have hli : (0 : Int) < (x.kids.length : Int) := by omega
  obtain ⟨a, ha0⟩ : ∃ a, x.kids.getD 0 0 = a := ⟨_, rfl⟩;rw [ha0] at HT hlt;simp only [ha0] at kc;clear ha0;replace HT := zh (HT.out.trans (if_pos k5));have ha : ∀ w, (Op.stringOp .add ⟨#[99, 104, 97, 110, 32]⟩ (str (Ps.text L a))).run Tryz.prog w = .ok (.string (str (Ps.t_chan ++ Ps.text L a))) w := fun w => add_str Ps.t_chan _ _ w rfl (by rw [HT.out] at hlen; omega)
  go_wp2_with fail
  refine (HIH.out _ hlt _ _ (HA.out _) (by omega)).mono ?_;rintro e w2 ⟨rfl, hb2⟩;have HB2 := zh hb2;clear hb2;go_wp2
  go_returns
  exact ⟨by rw [HT.out]; rfl, (HBB.out _).trans (HB2.out.mono (by simp))⟩
 have b5 : (x.kind == 5) = false := by simpa using k5
 replace HT := zh (HT.out.trans (if_neg k5))
 by_cases k7 : x.kind = 7
 ·have b7 : (x.kind == 7) = true := by simp [k7]
  have hne := HO.out.one (.inr (.inl k7));have hl0 : 0 < x.kids.length := List.length_pos_iff.2 hne;obtain ⟨g2, c2p, hg2⟩ := own_lit hkv (by omega)
  cases hg2
  have kc : ∀ o, (w.alloc o).cell? ⟨g2, 0, none⟩ = some (.int .i64 ((x.kids.getD 0 0 : Nat) : Int)) := fun o => kids_at ((HA.out o).kids _ hmem) rfl hl0
  have hlt := HO.out.lt _ (Ps.mem_getD hl0);have hli : (0 : Int) < (x.kids.length : Int) := by omega
  obtain ⟨a, ha0⟩ : ∃ a, x.kids.getD 0 0 = a := ⟨_, rfl⟩;rw [ha0] at HT hlt;simp only [ha0] at kc;clear ha0;replace HT := zh (HT.out.trans (if_pos k7));go_wp2_with fail
  refine (HIH.out _ hlt _ _ (HA.out _) (by omega)).mono ?_;rintro e w2 ⟨rfl, hb2⟩;have HB2 := zh hb2;clear hb2;go_wp2
  go_returns
  exact ⟨by rw [HT.out]; rfl, (HBB.out _).trans (HB2.out.mono (by simp))⟩
 have b7 : (x.kind == 7) = false := by simpa using k7
 replace HT := zh (HT.out.trans (if_neg k7))
 by_cases k6 : x.kind = 6 ∨ x.kind = 8
 ·obtain ⟨m, hm, hml⟩ := HO.out.num k6;replace HT := zh (HT.out.trans (if_pos k6))
  rw [hm, Int.toNat_natCast] at HT;have hkmax := row_max hkv;unfold maxLen at hkmax;have HKV := zh hkv;obtain ⟨TX, hTX⟩ : ∃ T : List (List UInt8), T = (x.kids.take m).map fun j => Ps.text L j := ⟨_, rfl⟩
  rw [← hTX] at HT;have hTl : TX.length = m := by rw [hTX]; simp; omega
  have hTj : ∀ j, j < m → TX.take (j + 1) = TX.take j ++ [Ps.text L (x.kids.getD j 0)] := fun j hj => by
   rw [List.take_add_one, hTX, List.getElem?_map, List.getElem?_take, if_pos hj, List.getElem?_eq_getElem (by omega)];simp [List.getD_eq_getElem?_getD, List.getElem?_eq_getElem (show j < x.kids.length by omega)]
  have hbound : (Ps.t_func ++ Ps.joinC TX).length + 2 ≤ 100000000002 ∧ (Ps.t_func ++ Ps.joinC TX ++ [41]).length ≤ 100000000000 := by
   rw [HT.out] at hlen;simp only [List.length_append, List.length_cons, List.length_nil] at hlen ⊢;omega
  have HTJ := zh hTj;have HBD := zh hbound;clear hTX hTj hbound;have HLEN := zh hlen;have HLT := zh HO.out.lt;obtain ⟨SJ, hSJ⟩ : ∃ f : Nat → List UInt8, f = fun j => Ps.t_func ++ Ps.joinC (TX.take j) := ⟨_, rfl⟩
  obtain ⟨CJ, hCJ⟩ : ∃ f : Nat → List UInt8, f = fun j => SJ j ++ [44] := ⟨_, rfl⟩
  have hlj : ∀ j, (SJ j).length ≤ 100000000000 := fun j => by
   have h2 := joinC_take TX j;have h3 := HBD.out.1;rw [hSJ];rw [List.length_append] at h3;simp only [List.length_append];omega
  have hstep : ∀ j, j < m → ∀ w, (j = 0 → (Op.stringOp .add (str (SJ j)) (str (Ps.text L (x.kids.getD j 0)))).run Tryz.prog w = .ok (.string (str (SJ (j + 1)))) w) ∧ (0 < j → (Op.stringOp .add (str (SJ j)) ⟨#[44]⟩).run Tryz.prog w = .ok (.string (str (CJ j))) w ∧ (Op.stringOp .add (str (CJ j)) (str (Ps.text L (x.kids.getD j 0)))).run Tryz.prog w = .ok (.string (str (SJ (j + 1)))) w) := fun j hj w => by
   have h1 := hlj (j + 1);have h4 := hlj j;have h5 : (CJ j).length = (SJ j).length + 1 := by rw [hCJ]; simp
   refine ⟨fun h0 => add_str _ _ _ w ?_ (by omega), fun h0 => ⟨add_str _ [44] _ w (by rw [hCJ]) (by omega), add_str _ _ _ w ?_ (by omega)⟩⟩
   ·subst h0;rw [hSJ]
    dsimp only;rw [HTJ.out 0 hj]
    rfl
   ·have hne : TX.take j ≠ [] := by
     intro e;have := congrArg List.length e;rw [List.length_take, List.length_nil] at this;omega
    rw [hCJ, hSJ];dsimp only;rw [HTJ.out j hj, joinC_snoc _ _ hne];simp
  have HS0 : Hid (str (SJ 0) = ⟨#[102, 117, 110, 99, 40]⟩) := zh (by rw [hSJ]; rfl);have hSm : SJ m = Ps.t_func ++ Ps.joinC TX := by rw [hSJ]; dsimp only; rw [List.take_of_length_le (by omega)]
  obtain ⟨EJ, hEJ⟩ : ∃ l : List UInt8, l = SJ m ++ [41] := ⟨_, rfl⟩;obtain ⟨FJ, hFJ⟩ : ∃ l : List UInt8, l = EJ ++ [32] := ⟨_, rfl⟩;have HE1 : Hid (∀ w, (Op.stringOp .add (str (SJ m)) ⟨#[41]⟩).run Tryz.prog w = .ok (.string (str EJ)) w) := zh fun w => add_str _ [41] _ w hEJ.symm (by have := HBD.out.2; rw [← hSm, ← hEJ] at this; omega)
  have HE2 : Hid (EJ.length ≤ 100000000000) := zh (by have := HBD.out.2; rw [← hSm, ← hEJ] at this; omega);have HE3 : Hid (∀ w, (Op.stringOp .add (str EJ) ⟨#[32]⟩).run Tryz.prog w = .ok (.string (str FJ)) w) := zh fun w => add_str _ [32] _ w hFJ.symm (by have := HE2.out; rw [hFJ, List.length_append]; simp; omega)
  have HE4 : Hid (Ps.t_func ++ Ps.joinC TX ++ [41] = EJ) := zh (by rw [hEJ, hSm]);have HE5 : Hid (FJ = EJ ++ [32]) := zh hFJ;clear hSJ hCJ hEJ hFJ hlj hSm;have HST := zh hstep;clear hstep;have hm0 : IntKind.i64.wrap 0 = 0 := rfl;clear k1 k2 k3 k4 k5 k7 hx hlen;have HV := zh hv;clear hv hkv;have hb : ((x.kind == 6) = true) ∨ ((x.kind == 6) = false ∧ (x.kind == 8) = true) := by
   rcases k6 with h | h
   ·exact .inl (by simp [h])
   ·exact .inr ⟨by simp [h], by simp [h]⟩
  rcases hb with b6 | ⟨b6, b8⟩
  all_goals
   go_wp2_with fail
   have HQ := zh (blk_new w (.cells #[.int .i64 x.kind, .int .i64 x.pos, .int .i64 (m : Int), .string (str x.text), .slice ua x.kids.length uc] 41));have HN1 := zh (HA.out (.cells #[.int .i64 x.kind, .int .i64 x.pos, .int .i64 (m : Int), .string (str x.text), .slice ua x.kids.length uc] 41));have HB1 := zh (HBB.out (.cells #[.int .i64 x.kind, .int .i64 x.pos, .int .i64 (m : Int), .string (str x.text), .slice ua x.kids.length uc] 41));generalize (w.alloc (.cells #[.int .i64 x.kind, .int .i64 x.pos, .int .i64 (m : Int), .string (str x.text), .slice ua x.kids.length uc] 41)) = w1 at HQ HN1 HB1 ⊢
   go_loopg [7, 8] m (fun r s i wr => ∃ j : Nat, j + r = m ∧ s = .string (str (SJ j)) ∧ i = .int .i64 (j : Int) ∧ Hid (Below w1.heap.size w1 wr))
   case atStart => exact ⟨0, by omega, by rw [HS0.out], rfl, zh (Below.refl _ _)⟩
   case round =>
    obtain ⟨j, hj, rfl, rfl, HBR⟩ := hrel;have HQR := zh (blk_below HQ.out HBR.out (blk_lt HQ.out));have HNR := zh (HN1.out.further HBR.out);have q2 := blk_cell HQR.out 2;have q4 := blk_cell HQR.out 4;have ql := blk_lt HQR.out;simp only [List.getElem?_toArray, List.getElem?_cons_zero, List.getElem?_cons_succ] at q2 q4
    by_cases hjm : j < m
    ·have hji : (j : Int) < (m : Int) := by omega
     have hjk : (j : Int) < (x.kids.length : Int) := by omega
     have hj0 : (0 : Int) ≤ (j : Int) := by omega
     obtain ⟨g2, c2p, hg2⟩ := own_lit HKV.out (by omega)
     cases hg2
     have kc := kids_at (HNR.out.kids _ hmem) rfl (show j < x.kids.length by omega);have hlt := HLT.out _ (Ps.mem_getD (show j < x.kids.length by omega));have HS1 := zh (HST.out j hjm);obtain ⟨a, ha0⟩ : ∃ a, x.kids.getD j 0 = a := ⟨_, rfl⟩;rw [ha0] at HS1 hlt kc;clear ha0;have iw : IntKind.i64.wrap ((j : Int) + 1) = (j : Int) + 1 := IntWalk.i64_in _ (by omega);go_wp2_with fail
     refine (HIH.out _ hlt _ _ HNR.out (by omega)).mono ?_;rintro e w2 ⟨rfl, hb2⟩;have HB2 := zh (HBR.out.trans (hb2.mono HBR.out.size));clear hb2 kc q2 q4 ql;have hS2 := HS1.out
     by_cases h0 : j = 0
     ·subst h0;have s1 := fun w => (hS2 w).1 rfl
      clear hS2;go_wp2
      go_roundg (m - 1)
      case rel => exact ⟨1, by omega, rfl, rfl, HB2⟩
      case measure => omega
     ·have hz : (0 : Int) < (j : Int) := by omega
      have s1 := fun w => ((hS2 w).2 (by omega)).1
      have s2 := fun w => ((hS2 w).2 (by omega)).2
      clear hS2;go_wp2
      go_roundg (m - j - 1)
      case rel => exact ⟨j + 1, by omega, rfl, by simp, HB2⟩
      case measure => omega
    ·obtain rfl : j = m := by omega
     have hji : ¬ (j : Int) < (j : Int) := by omega
     have s1 := HE1.out
     by_cases hl : j < x.kids.length
     ·have hli : (j : Int) < (x.kids.length : Int) := by omega
      have hj0 : (0 : Int) ≤ (j : Int) := by omega
      obtain ⟨g2, c2p, hg2⟩ := own_lit HKV.out (by omega)
      cases hg2
      have kc := kids_at (HNR.out.kids _ hmem) rfl hl;have hlt := HLT.out _ (Ps.mem_getD hl);replace HT := zh (HT.out.trans (by rw [if_pos hl]));obtain ⟨a, ha0⟩ : ∃ a, x.kids.getD j 0 = a := ⟨_, rfl⟩;rw [ha0] at HT hlt kc;clear ha0;have hFA : (FJ ++ Ps.text L a) = Ps.text L k := by rw [HT.out, HE5.out, ← HE4.out]; simp
      have s2 := HE3.out;have s3 : ∀ w, (Op.stringOp .add (str FJ) (str (Ps.text L a))).run Tryz.prog w = .ok (.string (str (Ps.text L k))) w := fun w => add_str _ _ _ w hFA (by have := HLEN.out; omega)
      clear hFA;go_wp2_with fail
      refine (HIH.out _ hlt _ _ HNR.out (by omega)).mono ?_;rintro e w2 ⟨rfl, hb2⟩;have HB2 := zh (HBR.out.trans (hb2.mono HBR.out.size));clear hb2 kc q2 q4 ql;go_wp2
      go_returns
      exact ⟨rfl, HB1.out.trans (HB2.out.mono HB1.out.size)⟩
     ·have hli : ¬ (j : Int) < (x.kids.length : Int) := by omega
      replace HT := zh (HT.out.trans (by rw [if_neg hl]));go_wp2
      go_returns
      exact ⟨by rw [HT.out, ← HE4.out]; rfl, HB1.out.trans (HBR.out.mono HB1.out.size)⟩
 ·have b6 : (x.kind == 6) = false := by simpa using fun h => k6 (.inl h)
  have b8 : (x.kind == 8) = false := by simpa using fun h => k6 (.inr h)
  go_wp2
  go_returns
  exact ⟨by rw [HT.out, if_neg k6]; rfl, HBB.out _⟩
end
end Go.Proofs.YtjickecdkmljpaaGreatDoor
namespace Go.Proofs.YtjickecdkmljpaaGreatDoor
open Go.RowKit

theorem joinC_is (l : List (List UInt8)) : Lib.join l [44] = Ps.joinC l := by
 induction l with
 | nil => rfl
 | cons x r ih =>
  cases r with
  | nil => rw [Lib.join_one]; rfl
  | cons y r =>
   rw [Lib.join_cons] at ih ⊢
   show _ = x ++ 44 :: Ps.joinC (y :: r)
   rw [← ih];simp [Lib.joinTail]
theorem joinC_ge (l : List (List UInt8)) : l.length ≤ (Ps.joinC l).length + 1 := by
 induction l with
 | nil => simp
 | cons x r ih =>
  cases r with
  | nil => simp [Ps.joinC]
  | cons y r =>
   simp only [Ps.joinC, List.length_cons, List.length_append] at ih ⊢;omega
/-- A program's table of types, in block tp. -/
def TabB (w : World) (tp : Nat) (v m1 m2 m3 : Value) : Prop := w.heap[tp]? = some (.cells #[v, m1, m2, m3] 123 (0, 0))
/-- A row of texts of the call's own. -/
def TxtV (N : Nat) (w : World) (u : Value) (l : List (List UInt8)) : Prop := w.ownsRow N 9 1 u l.length (l.map fun x => Value.string (str x))
theorem str_info : (Tryz.prog.info? 9).map (fun i => (i.zero, i.size, i.bytes)) = some (some (.string ByteArray.empty), 1, 16) := by kernel_rfl
/-- One text more. -/
theorem apT {ops : Array Oper} {rest : List Oper} {o : Oper} {s0 x0 : Operand} {Z : Exit → Act → World → Prop} {a : Act} {N : Nat} {w : World} {u : Value} {l : List (List UInt8)} (x : List UInt8) (hl : l.length ≤ 1000000000000) (hN : N ≤ w.heap.size) (hv : TxtV N w u l)
  (h : ∀ g cap w8, TxtV N w8 (.slice (some ⟨g, 0, none⟩) (l.length + 1) cap) (l ++ [x]) → Below N w w8 → wpList Tryz.prog ops Z rest (a.put o.dst (.slice (some ⟨g, 0, none⟩) (l.length + 1) cap)) w8)
  (hgd : o.guard = none := by rfl) (ho : o.op = .call { callee := .builtin .append, args := #[s0, x0], argTypes := #[33, 33] } := by rfl) (hs : a.eval s0 = u := by rfl) (hx : a.eval x0 = .slice (some ⟨w.heap.size, 0, none⟩) 1 1 := by rfl) :
  wpList Tryz.prog ops Z (o :: rest) a (w.alloc (.cells #[.string (str x)] 9)) := by
 obtain ⟨i0, hi0, hz0, hz1, hz2⟩ := info_parts str_info;have hv2 : (w.alloc (.cells #[.string (str x)] 9)).ownsRow N 9 1 u l.length (l.map fun x => Value.string (str x)) := own_below hv ((Below.refl w.heap.size w).alloc (Nat.le_refl _) _) fun k hk => (World.ownsRow.lt hv k hk).2
 refine wpList_append_lies _ hgd s0 x0 33 ho N 9 i0 _ 1 16 Tryz.underlying33 hi0 hz0 hz1 hz2 rfl (by omega) u l.length (l.map fun x => Value.string (str x)) hs hv2 ⟨w.heap.size, 0, none⟩ 1 1 [.string (str x)] hx rfl (World.news_of_block (cs := #[.string (str x)]) (t := 9) (fr := (0, 0)) (heap_alloc_new _ _)) (by intro y hy; simp at hy; subst hy; rfl) (by omega) (by unfold maxLen; omega) (by omega) (by simp; omega) (w.heap.size + 1) (by simp) ?_;intro g cap w8 hown hgrow hat _;refine h g cap w8 ?_ (Below.grown ((Below.refl N w).alloc hN _) hgrow (by simp; omega) (fun k hk => (World.ownsRow.lt hv k hk).1));unfold TxtV;rw [List.length_append, List.map_append];exact hown
section
variable {L : List Ps.Nd} {D : List (Ps.Nd × Value)} {N : Nat}
set_option maxRecDepth 100000 in
set_option maxHeartbeats 4000000 in
theorem ttext_any (HW : Hid (Ps.Wf L)) (HS : Hid (∀ k, (Ps.text L k).length ≤ 100000000000)) (HL : Hid (L = D.map (·.1))) (tp : Nat) (m1 m2 m3 : Value) (k : Nat) : ∀ (w : World) (v : Value), NodesV N w v D → Hid (TabB w tp v m1 m2 m3) → k < D.length → Calls Tryz.prog 33 #[.pointer (some ⟨tp, 0, none⟩), .int .i64 (k : Int)] w fun e w' => e = .returned (.string (str (Ps.text L k))) ∧ Below w.heap.size w w' := by
 induction k using Nat.strongRecOn with
 | ind k ih =>
 intro w v hv HTB hk;obtain ⟨⟨x, u⟩, hx⟩ : ∃ x, D[k]? = some x := ⟨_, List.getElem?_eq_getElem hk⟩;have hLx : L[k]? = some x := by rw [HL.out, List.getElem?_map, hx]; rfl
 have HO := zh (HW.out k x hLx);have T := Ps.text_eq HW.out k;rw [Ps.getD_of hLx] at T;have HT := zh T;clear T;have hkl := row_max hv.row;obtain ⟨g, cap, rfl⟩ := own_lit hv.row (by omega);obtain ⟨c0, c1, c2, c3, c4⟩ := nodes_at hv rfl hx;have hmem : (x, u) ∈ D := List.mem_of_getElem? hx;have hkv : KidsV N w u x.kids := hv.kids _ hmem;obtain ⟨ua, uc, rfl⟩ := own_slice hkv rfl;dsimp only at c0 c1 c2 c3 c4;have hA : ∀ o, NodesV N (w.alloc o) (.slice (some ⟨g, 0, none⟩) D.length cap) D := fun o => hv.further ((Below.refl _ _).alloc (Nat.le_refl _) o)
 have HA := zh hA;have HIH := zh ih;have hlen := HS.out k;clear ih hA;have t0 := blk_cell HTB.out 0;have tl := blk_lt HTB.out;simp only [List.getElem?_toArray, List.getElem?_cons_zero] at t0;have HTA : Hid (∀ o, Hid (TabB (w.alloc o) tp (.slice (some ⟨g, 0, none⟩) D.length cap) m1 m2 m3)) := zh fun o => zh (blk_alloc HTB.out o)
 have hki : (k : Int) < (D.length : Int) := by omega
 have hk0 : (0 : Int) ≤ (k : Int) := by omega
 have HB : ∀ o, Below w.heap.size w (w.alloc o) := fun o => (Below.refl _ _).alloc (Nat.le_refl _) o
 have HBB := zh HB;clear HB
 go_enter Tryz.func33, Tryz.ntmps33
 by_cases k1 : x.kind = 1
 ·have b1 : (x.kind == 1) = true := by simp [k1]
  go_wp2
  go_returns
  exact ⟨by rw [HT.out, if_pos k1]; rfl, HBB.out _⟩
 have b1 : (x.kind == 1) = false := by simpa using k1
 replace HT := zh (HT.out.trans (if_neg k1))
 by_cases k2 : x.kind = 2
 ·have b2 : (x.kind == 2) = true := by simp [k2]
  go_wp2
  go_returns
  exact ⟨by rw [HT.out, if_pos k2]; rfl, HBB.out _⟩
 have b2 : (x.kind == 2) = false := by simpa using k2
 replace HT := zh (HT.out.trans (if_neg k2))
 by_cases k3 : x.kind = 3
 ·have b3 : (x.kind == 3) = true := by simp [k3]
  go_wp2
  go_returns
  exact ⟨by rw [HT.out, if_pos k3]; rfl, HBB.out _⟩
 have b3 : (x.kind == 3) = false := by simpa using k3
 replace HT := zh (HT.out.trans (if_neg k3))
 by_cases k4 : x.kind = 4
 ·have b4 : (x.kind == 4) = true := by simp [k4]
  have ha : ∀ w, (Op.stringOp .add ⟨#[42]⟩ (str x.text)).run Tryz.prog w = .ok (.string (str (42 :: x.text))) w := fun w => add_str [42] x.text _ w rfl (by rw [HT.out, if_pos k4] at hlen; omega)
  go_wp2
  go_returns
  exact ⟨by rw [HT.out, if_pos k4]; rfl, HBB.out _⟩
 have b4 : (x.kind == 4) = false := by simpa using k4
 replace HT := zh (HT.out.trans (if_neg k4))
 by_cases k5 : x.kind = 5
 ·have b5 : (x.kind == 5) = true := by simp [k5]
  have hne := HO.out.one (.inl k5);have hl0 : 0 < x.kids.length := List.length_pos_iff.2 hne;obtain ⟨g2, c2p, hg2⟩ := own_lit hkv (by omega)
  cases hg2
  have kc : ∀ o, (w.alloc o).cell? ⟨g2, 0, none⟩ = some (.int .i64 ((x.kids.getD 0 0 : Nat) : Int)) := fun o => kids_at ((HA.out o).kids _ hmem) rfl hl0
  have hlt := HO.out.lt _ (Ps.mem_getD hl0);have hli : (0 : Int) < (x.kids.length : Int) := by omega
  obtain ⟨a, ha0⟩ : ∃ a, x.kids.getD 0 0 = a := ⟨_, rfl⟩;rw [ha0] at HT hlt;simp only [ha0] at kc;clear ha0;replace HT := zh (HT.out.trans (if_pos k5));have ha : ∀ w, (Op.stringOp .add ⟨#[99, 104, 97, 110, 32]⟩ (str (Ps.text L a))).run Tryz.prog w = .ok (.string (str (Ps.t_chan ++ Ps.text L a))) w := fun w => add_str Ps.t_chan _ _ w rfl (by rw [HT.out] at hlen; omega)
  go_wp2_with fail
  refine (HIH.out _ hlt _ _ (HA.out _) (HTA.out _) (by omega)).mono ?_;rintro e w2 ⟨rfl, hb2⟩;have HB2 := zh hb2;clear hb2;go_wp2
  go_returns
  exact ⟨by rw [HT.out]; rfl, (HBB.out _).trans (HB2.out.mono (by simp))⟩
 have b5 : (x.kind == 5) = false := by simpa using k5
 replace HT := zh (HT.out.trans (if_neg k5))
 by_cases k7 : x.kind = 7
 ·have b7 : (x.kind == 7) = true := by simp [k7]
  have hne := HO.out.one (.inr (.inl k7));have hl0 : 0 < x.kids.length := List.length_pos_iff.2 hne;obtain ⟨g2, c2p, hg2⟩ := own_lit hkv (by omega)
  cases hg2
  have kc : ∀ o, (w.alloc o).cell? ⟨g2, 0, none⟩ = some (.int .i64 ((x.kids.getD 0 0 : Nat) : Int)) := fun o => kids_at ((HA.out o).kids _ hmem) rfl hl0
  have hlt := HO.out.lt _ (Ps.mem_getD hl0);have hli : (0 : Int) < (x.kids.length : Int) := by omega
  obtain ⟨a, ha0⟩ : ∃ a, x.kids.getD 0 0 = a := ⟨_, rfl⟩;rw [ha0] at HT hlt;simp only [ha0] at kc;clear ha0;replace HT := zh (HT.out.trans (if_pos k7));go_wp2_with fail
  refine (HIH.out _ hlt _ _ (HA.out _) (HTA.out _) (by omega)).mono ?_;rintro e w2 ⟨rfl, hb2⟩;have HB2 := zh hb2;clear hb2;go_wp2
  go_returns
  exact ⟨by rw [HT.out]; rfl, (HBB.out _).trans (HB2.out.mono (by simp))⟩
 have b7 : (x.kind == 7) = false := by simpa using k7
 replace HT := zh (HT.out.trans (if_neg k7))
 by_cases k6 : x.kind = 6 ∨ x.kind = 8
 ·obtain ⟨m, hm, hml⟩ := HO.out.num k6;replace HT := zh (HT.out.trans (if_pos k6))
  rw [hm, Int.toNat_natCast] at HT;have hkmax := row_max hkv;unfold maxLen at hkmax;have hcap : m ≤ uc := by
   rcases hkv.2 with ⟨h0, h1⟩ | ⟨g', cap', cur, h0, h1, h2, h3, _⟩
   ·simp only [Value.slice.injEq] at h0;omega
   ·simp only [Value.slice.injEq] at h0;omega
  have hcapI : (m : Int) ≤ (uc : Int) := by omega
  have HKV := zh hkv;obtain ⟨TX, hTX⟩ : ∃ T : List (List UInt8), T = (x.kids.take m).map fun j => Ps.text L j := ⟨_, rfl⟩
  rw [← hTX] at HT;have hTl : TX.length = m := by rw [hTX]; simp; omega
  have hTj : ∀ j, j < m → TX.take (j + 1) = TX.take j ++ [Ps.text L (x.kids.getD j 0)] := fun j hj => by
   rw [List.take_add_one, hTX, List.getElem?_map, List.getElem?_take, if_pos hj, List.getElem?_eq_getElem (by omega)];simp [List.getD_eq_getElem?_getD, List.getElem?_eq_getElem (show j < x.kids.length by omega)]
  have hbound : (Ps.t_func ++ Ps.joinC TX).length + 2 ≤ 100000000002 ∧ (Ps.t_func ++ Ps.joinC TX ++ [41]).length ≤ 100000000000 := by
   rw [HT.out] at hlen;simp only [List.length_append, List.length_cons, List.length_nil] at hlen ⊢;omega
  have HTJ := zh hTj;have HBD := zh hbound;clear hTX hTj hbound;have HLEN := zh hlen;have HLT := zh HO.out.lt;have hmb : m ≤ 100000000001 := by
   have h1 := joinC_ge TX;have h2 := HBD.out.2;simp only [List.length_append, List.length_cons] at h2;omega
  obtain ⟨JJ, hJJ⟩ : ∃ l, l = Ps.joinC TX := ⟨_, rfl⟩;have hlJ : (Ps.t_func ++ JJ ++ [41]).length ≤ 100000000000 := by have := HBD.out.2; rw [← hJJ] at this; exact this
  obtain ⟨FU, hFU⟩ : ∃ l : List UInt8, l = Ps.t_func ++ JJ := ⟨_, rfl⟩;obtain ⟨EJ, hEJ⟩ : ∃ l : List UInt8, l = FU ++ [41] := ⟨_, rfl⟩;have HE1 : Hid (∀ w, (Op.stringOp .add ⟨#[102, 117, 110, 99, 40]⟩ (str JJ)).run Tryz.prog w = .ok (.string (str FU)) w) := zh fun w => add_str Ps.t_func _ _ w hFU.symm (by rw [← hFU, List.length_append] at hlJ; omega)
  have HE2 : Hid (∀ w, (Op.stringOp .add (str FU) ⟨#[41]⟩).run Tryz.prog w = .ok (.string (str EJ)) w) := zh fun w => add_str _ [41] _ w hEJ.symm (by rw [← hFU, ← hEJ] at hlJ; omega)
  have HE4 : Hid (Ps.t_func ++ Ps.joinC TX ++ [41] = EJ) := zh (by rw [hEJ, hFU, hJJ]);have HJJ := zh hJJ;have HJL : Hid (JJ.length ≤ 100000000000) := zh (by rw [List.length_append, List.length_append] at hlJ; omega);clear hFU hEJ hJJ hlJ;clear k1 k2 k3 k4 k5 k7 hx hlen;have HV := zh hv;clear hv hkv;have hb : ((x.kind == 6) = true) ∨ ((x.kind == 6) = false ∧ (x.kind == 8) = true) := by
   rcases k6 with h | h
   ·exact .inl (by simp [h])
   ·exact .inr ⟨by simp [h], by simp [h]⟩
  have hm0 : (0 : Int) ≤ (m : Int) := by omega
  rcases hb with b6 | ⟨b6, b8⟩
  all_goals
   go_wp2_with fail
   have HQ := zh (blk_new w (.cells #[.int .i64 x.kind, .int .i64 x.pos, .int .i64 (m : Int), .string (str x.text), .slice ua x.kids.length uc] 41));have HN1 := zh (HA.out (.cells #[.int .i64 x.kind, .int .i64 x.pos, .int .i64 (m : Int), .string (str x.text), .slice ua x.kids.length uc] 41));have HB1 := zh (HBB.out (.cells #[.int .i64 x.kind, .int .i64 x.pos, .int .i64 (m : Int), .string (str x.text), .slice ua x.kids.length uc] 41));have HT1 := HTA.out (.cells #[.int .i64 x.kind, .int .i64 x.pos, .int .i64 (m : Int), .string (str x.text), .slice ua x.kids.length uc] 41);generalize (w.alloc (.cells #[.int .i64 x.kind, .int .i64 x.pos, .int .i64 (m : Int), .string (str x.text), .slice ua x.kids.length uc] 41)) = w1 at HQ HN1 HB1 HT1 ⊢;clear t0 tl
   go_loopg [6, 58] m (fun r u i wr => ∃ (j : Nat) (ub : Option Addr) (uk : Nat), j + r = m ∧ u = .slice ub j uk ∧ i = .int .i64 (j : Int) ∧ Hid (Below w1.heap.size w1 wr) ∧ Hid (TxtV w1.heap.size wr (.slice ub j uk) (TX.take j)))
   case atStart => exact ⟨0, none, 0, by omega, rfl, rfl, zh (Below.refl _ _), zh (World.ownsRow_nil _ _ _ _)⟩
   case round =>
    obtain ⟨j, ub, uk, hj, rfl, rfl, HBR, HLV⟩ := hrel;have HQR := zh (blk_below HQ.out HBR.out (blk_lt HQ.out));have HNR := zh (HN1.out.further HBR.out);have HTR : Hid (TabB wr tp (.slice (some ⟨g, 0, none⟩) D.length cap) m1 m2 m3) := zh (blk_below HT1.out HBR.out (blk_lt HT1.out));have q2 := blk_cell HQR.out 2;have q4 := blk_cell HQR.out 4;have ql := blk_lt HQR.out;simp only [List.getElem?_toArray, List.getElem?_cons_zero, List.getElem?_cons_succ] at q2 q4
    by_cases hjm : j < m
    ·have hji : (j : Int) < (m : Int) := by omega
     have hj0 : (0 : Int) ≤ (j : Int) := by omega
     obtain ⟨g2, c2p, hg2⟩ := own_lit HKV.out (by omega)
     cases hg2
     have kc := kids_at (HNR.out.kids _ hmem) rfl (show j < x.kids.length by omega);have hlt := HLT.out _ (Ps.mem_getD (show j < x.kids.length by omega));have HTJ1 := zh (HTJ.out j hjm);obtain ⟨a, ha0⟩ : ∃ a, x.kids.getD j 0 = a := ⟨_, rfl⟩;rw [ha0] at HTJ1 hlt kc;clear ha0;have iw : IntKind.i64.wrap ((j : Int) + 1) = (j : Int) + 1 := IntWalk.i64_in _ (by omega);go_wp2_with fail
     refine (HIH.out _ hlt _ _ HNR.out HTR (by omega)).mono ?_;rintro e w2 ⟨rfl, hb2⟩;have HB2 := zh (HBR.out.trans (hb2.mono HBR.out.size));have HL2 : Hid (TxtV w1.heap.size w2 (.slice ub j uk) (TX.take j)) := zh (own_below HLV.out hb2 fun k hk => (World.ownsRow.lt HLV.out k hk).2);clear hb2 kc q2 q4 ql;have hlj : (TX.take j).length = j := by rw [List.length_take]; omega
     go_wp2_with (at_builtin; refine apT (Ps.text L a) (by rw [hlj]; omega) HB2.out.size HL2.out (fun gg gcap w8 hv8 hb8 => ?_); rw [hlj] at hv8 ⊢; have HV8 := zh hv8; have HB8 := zh hb8; clear hv8 hb8)
     go_wp2
     go_roundg (m - j - 1)
     case rel => exact ⟨j + 1, some ⟨gg, 0, none⟩, gcap, by omega, rfl, by simp, zh (HB2.out.trans HB8.out), zh (by rw [HTJ1.out]; exact HV8.out)⟩
     case measure => omega
    ·obtain rfl : j = m := by omega
     have hji : ¬ (j : Int) < (j : Int) := by omega
     have HLV2 : Hid (TxtV w1.heap.size wr (.slice ub j uk) TX) := zh (by have := HLV.out; rwa [List.take_of_length_le (by omega)] at this);have HJN : Hid (Calls Tryz.prog 67 #[.slice ub j uk, .string ⟨#[44]⟩] wr fun e w' => e = .returned (.string (str JJ)) ∧ Below wr.heap.size wr w') := zh (by
      have hck : j ≤ uk := by
       rcases HLV2.out.2 with ⟨h0, h1⟩ | ⟨g', cap', cur, h0, h1, h2, h3, _⟩
       ·simp only [Value.slice.injEq] at h0;omega
       ·simp only [Value.slice.injEq] at h0;omega
      rcases Nat.eq_zero_or_pos j with h0 | h0
      ·have hT0 : TX = [] := List.length_eq_zero_iff.1 (by omega);rw [h0]
       refine (Tryz.strings_Join_none ub uk ⟨#[44]⟩ wr).mono ?_;rintro e w' ⟨rfl, rfl⟩;exact ⟨by rw [HJJ.out, hT0]; rfl, Below.refl _ _⟩
      ·have hrow := HLV2.out;obtain ⟨gg, gcap, hgg⟩ := own_lit hrow (by omega)
       rw [hTl] at hgg
       cases hgg
       have hrow2 : wr.ownsRow w1.heap.size 9 1 (.slice (some ⟨gg, 0, none⟩) j uk) j (TX.map fun x => Value.string (str x)) := by
        have h9 := hrow;unfold TxtV at h9
        rwa [hTl] at h9
       have hx : (TX.map str).length = j := by rw [List.length_map]; exact hTl
       have hjl : Lib.join ((TX.map str).map (·.data.toList)) [44] = JJ := by
        rw [HJJ.out, ← joinC_is, List.map_map]
        congr 1
        exact (List.map_congr_left fun y _ => rfl).trans (List.map_id _)
       have h := Tryz.strings_Join gg 0 uk (TX.map str) ⟨#[44]⟩ wr (fun i y hy => by
        have hi : i < TX.length := by have := (List.getElem?_eq_some_iff.1 hy).1; rwa [List.length_map] at this
        have hc := World.ownsRow.cellAt hrow2 i (by omega);rw [Nat.zero_add, hc];rw [List.getElem?_map] at hy ⊢;rw [List.getElem?_eq_getElem hi] at hy ⊢;simp only [Option.map_some, Option.some.injEq] at hy ⊢;rw [hy]) (World.ownsRow.lt hrow gg rfl).2 (by omega) (by omega) (by show (Lib.join ((TX.map str).map (·.data.toList)) [44]).length ≤ _; rw [hjl]; have := HJL.out; omega)
       rw [hx] at h;refine h.mono ?_;rintro e w' ⟨rfl, hb⟩;exact ⟨by show Ending.returned (.string ⟨(Lib.join ((TX.map str).map (·.data.toList)) [44]).toArray⟩) = _; rw [hjl]; rfl, hb⟩)
     go_wp2_with fail
     refine HJN.out.mono ?_;rintro e w2 ⟨rfl, hb2⟩;have HB2 := zh (HBR.out.trans (hb2.mono HBR.out.size));have s1 := HE1.out;have s2 := HE2.out;have HQ2 := zh (blk_below HQR.out hb2 (blk_lt HQR.out));have HN2 := zh (HNR.out.further hb2);have HT2 : Hid (TabB w2 tp (.slice (some ⟨g, 0, none⟩) D.length cap) m1 m2 m3) := zh (blk_below HTR.out hb2 (blk_lt HTR.out));clear hb2 q2 q4 ql;have q2 := blk_cell HQ2.out 2;have q4 := blk_cell HQ2.out 4;have ql := blk_lt HQ2.out;simp only [List.getElem?_toArray, List.getElem?_cons_zero, List.getElem?_cons_succ] at q2 q4
     by_cases hl : j < x.kids.length
     ·have hli : (j : Int) < (x.kids.length : Int) := by omega
      have hj0 : (0 : Int) ≤ (j : Int) := by omega
      obtain ⟨g2, c2p, hg2⟩ := own_lit HKV.out (by omega)
      cases hg2
      have kc := kids_at (HN2.out.kids _ hmem) rfl hl;have hlt := HLT.out _ (Ps.mem_getD hl);replace HT := zh (HT.out.trans (by rw [if_pos hl]));obtain ⟨a, ha0⟩ : ∃ a, x.kids.getD j 0 = a := ⟨_, rfl⟩;rw [ha0] at HT hlt kc;clear ha0;have hFA : EJ ++ (32 :: Ps.text L a) = Ps.text L k := by rw [HT.out, ← HE4.out]; simp
      have hle := HLEN.out;rw [← hFA, List.length_append, List.length_cons] at hle;have s3 : ∀ w, (Op.stringOp .add ⟨#[32]⟩ (str (Ps.text L a))).run Tryz.prog w = .ok (.string (str (32 :: Ps.text L a))) w := fun w => add_str [32] _ _ w rfl (by rw [List.length_cons]; omega)
      have s4 : ∀ w, (Op.stringOp .add (str EJ) (str (32 :: Ps.text L a))).run Tryz.prog w = .ok (.string (str (Ps.text L k))) w := fun w => add_str _ _ _ w hFA (by have := HLEN.out; omega)
      clear hFA hle;go_wp2_with fail
      refine (HIH.out _ hlt _ _ HN2.out HT2 (by omega)).mono ?_;rintro e w3 ⟨rfl, hb3⟩;have HB3 := zh (HB2.out.trans (hb3.mono HB2.out.size));clear hb3 kc q2 q4 ql;go_wp2
      go_returns
      exact ⟨rfl, HB1.out.trans (HB3.out.mono HB1.out.size)⟩
     ·have hli : ¬ (j : Int) < (x.kids.length : Int) := by omega
      replace HT := zh (HT.out.trans (by rw [if_neg hl]));go_wp2
      go_returns
      exact ⟨by rw [HT.out, ← HE4.out]; rfl, HB1.out.trans (HB2.out.mono HB1.out.size)⟩
 ·have b6 : (x.kind == 6) = false := by simpa using fun h => k6 (.inl h)
  have b8 : (x.kind == 8) = false := by simpa using fun h => k6 (.inr h)
  go_wp2
  go_returns
  exact ⟨by rw [HT.out, if_neg k6]; rfl, HBB.out _⟩
end
end Go.Proofs.YtjickecdkmljpaaGreatDoor
namespace Go.Proofs.YtjickecdkmljpaaGreatDoor
open Go.RowKit

theorem txt_at {N : Nat} {w : World} {g n cap : Nat} {l : List (List UInt8)} {u : Value} (h : TxtV N w u l) (hu : u = .slice (some ⟨g, 0, none⟩) n cap) {k : Nat} (hk : k < l.length) : w.cell? ⟨g, k, none⟩ = some (.string (str (l.getD k []))) := by
 have h2 : w.ownsRow N 9 1 u l.length (l.map fun x => Value.string (str x)) := h;subst hu;have hn : n = l.length := by
  rcases h2.2 with ⟨h0, _⟩ | ⟨g', cap', cur, hu, _⟩
  ·cases h0
  ·cases hu; rfl
 subst hn;have hc := World.ownsRow.cellAt h2 k (by omega);rw [hc, List.getElem?_map, List.getElem?_eq_getElem hk];simp [List.getD_eq_getElem?_getD, List.getElem?_eq_getElem hk]
theorem TxtV.max {N : Nat} {w : World} {l : List (List UInt8)} {u : Value} (h : TxtV N w u l) : l.length ≤ 9223372036854775807 := by
 have := row_max h;unfold maxLen at this;omega

set_option maxRecDepth 100000 in
set_option maxHeartbeats 2000000 in
theorem rsames_any {N N' : Nat} {w : World} {u v : Value} {l : List (List UInt8)} (h1 : TxtV N w u l) (h2 : TxtV N' w v l) : Calls Tryz.prog 19 #[u, v] w fun e w' => e = .returned (.bool true) ∧ ∃ n, w' = w.drewN n := by
 obtain ⟨a1, c1, rfl⟩ := own_slice h1 rfl;obtain ⟨a2, c2, rfl⟩ := own_slice h2 rfl;have hm := h1.max;have H1 := zh h1;have H2 := zh h2;clear h1 h2
 go_enter Tryz.func19, Tryz.ntmps19
 go_wp2
 go_loopw [5] (fun i wx => ∃ j : Nat, j ≤ l.length ∧ i = .int .i64 j ∧ Hid (∃ n, wx = w.drewN n)) (fun i _ => l.length - (intOf i).toNat)
 case atStart => exact ⟨0, by omega, rfl, zh ⟨0, rfl⟩⟩
 case round =>
  obtain ⟨j, hj, rfl, HX⟩ := hrel;obtain ⟨n, rfl⟩ := HX.out
  by_cases hlt : j < l.length
  ·obtain ⟨o, oc, ho⟩ := own_lit H1.out (by omega)
   cases ho
   obtain ⟨o', oc', ho'⟩ := own_lit H2.out (by omega)
   cases ho'
   have z := txt_at H1.out rfl hlt;have z' := txt_at H2.out rfl hlt;have bk2 : (0 : Int) ≤ (j : Int) := by omega
   have bk3 : (j : Int) < (l.length : Int) := by omega
   generalize l.getD j [] = x at *;go_wp2_with fail
   go_quiet (fail)
   go_wp2
   go_roundw
   case rel => exact ⟨j + 1, by omega, by go_num, zh ⟨n + nq, rfl⟩⟩
   case measure => simp [intOf]; omega
  ·go_wp2
   go_returns
   exact ⟨rfl, n, rfl⟩
/-- Does a text begin with another? -/
def begT (s t : List UInt8) : Bool := decide (t.length ≤ s.length) && (s.take t.length == t)
theorem take_str (s : List UInt8) (n : Nat) : ((str s).extract 0 n).toList = s.take n := by
 rw [by_toList];simp [by_, str, ByteArray.data_extract]
set_option maxRecDepth 100000 in
set_option maxHeartbeats 2000000 in
theorem rbegins_any (s t : List UInt8) (w : World) : Calls Tryz.prog 38 #[.string (str s), .string (str t)] w fun e w' => e = .returned (.bool (begT s t)) ∧ w' = w := by
 by_cases h : t.length ≤ s.length
 ·have HR : Hid (begT s t = (((str s).extract 0 (str t).size).toList == (str t).toList)) := zh (by
   unfold begT;rw [take_str, str_size, by_toList, by_str, decide_eq_true h, Bool.true_and])
  have hi : (t.length : Int) ≤ (s.length : Int) := by omega
  have hz : (str t).size ≤ (str s).size := by rw [str_size, str_size]; exact h
  go_enter Tryz.func38, Tryz.ntmps38
  go_wp2
  go_returns
  exact ⟨by rw [HR.out]; rfl, rfl⟩
 ·have HR : Hid (begT s t = false) := zh (by unfold begT; rw [decide_eq_false h, Bool.false_and]);have hz : ¬ (str t).size ≤ (str s).size := by rw [str_size, str_size]; exact h
  go_enter Tryz.func38, Tryz.ntmps38
  go_wp2
  go_returns
  exact ⟨by rw [HR.out]; rfl, rfl⟩
/-- Where the first node of a kind with a name stands; -1: there is none. -/
def declN (L : List Ps.Nd) (kind : Int) (name : List UInt8) : Int := match L.findIdx? (fun n => n.kind == kind && n.text == name) with | some k => (k : Int) | none => -1
theorem declN_hit {L : List Ps.Nd} {kind : Int} {name : List UInt8} {j : Nat} {x : Ps.Nd} (h : L[j]? = some x) (hx : (x.kind == kind && x.text == name) = true) (hn : ∀ (i : Nat) (y : Ps.Nd), i < j → L[i]? = some y → (y.kind == kind && y.text == name) = false) : declN L kind name = (j : Int) := by
 obtain ⟨hj, rfl⟩ := List.getElem?_eq_some_iff.1 h;unfold declN;rw [List.findIdx?_eq_some_iff_getElem.2 ⟨hj, hx, fun i hi => by simp [hn i _ hi (List.getElem?_eq_getElem (by omega))]⟩]
theorem declN_none {L : List Ps.Nd} {kind : Int} {name : List UInt8} (hn : ∀ (i : Nat) (y : Ps.Nd), L[i]? = some y → (y.kind == kind && y.text == name) = false) : declN L kind name = -1 := by
 unfold declN;rw [List.findIdx?_eq_none_iff.2 fun y hy => by
  obtain ⟨i, hi⟩ := List.getElem?_of_mem hy;exact hn i y hi]
set_option maxRecDepth 100000 in
set_option maxHeartbeats 2000000 in
theorem rdecl_any {L : List Ps.Nd} {D : List (Ps.Nd × Value)} {N : Nat} {w : World} {v : Value} (HL : Hid (L = D.map (·.1))) (hv : NodesV N w v D) (kind : Int) (name : List UInt8) : Calls Tryz.prog 18 #[v, .int .i64 kind, .string (str name)] w fun e w' => e = .returned (.int .i64 (declN L kind name)) ∧ w' = w := by
 have hm := row_max hv.row;unfold maxLen at hm;obtain ⟨ua, uc, rfl⟩ := own_slice hv.row rfl;have HV := zh hv;clear hv
 go_enter Tryz.func18, Tryz.ntmps18
 go_wp2
 go_loopw [7] (fun i wx => ∃ j : Nat, j ≤ D.length ∧ i = .int .i64 j ∧ Hid (wx = w) ∧ Hid (∀ (i : Nat) (y : Ps.Nd), i < j → L[i]? = some y → (y.kind == kind && y.text == name) = false)) (fun i _ => D.length - (intOf i).toNat)
 case atStart => exact ⟨0, by omega, rfl, zh rfl, zh fun i y hi => absurd hi (Nat.not_lt_zero _)⟩
 case round =>
  obtain ⟨j, hj, rfl, HW, HN⟩ := hrel;obtain rfl := HW.out
  by_cases hlt : j < D.length
  ·obtain ⟨⟨x, u⟩, hx⟩ : ∃ x, D[j]? = some x := ⟨_, List.getElem?_eq_getElem hlt⟩;have hLx : L[j]? = some x := by rw [HL.out, List.getElem?_map, hx]; rfl
   obtain ⟨g, cap, hg⟩ := own_lit HV.out.row (by omega)
   cases hg
   obtain ⟨c0, _, _, c3, _⟩ := nodes_at HV.out rfl hx;have bk2 : (0 : Int) ≤ (j : Int) := by omega
   have bk3 : (j : Int) < (D.length : Int) := by omega
   dsimp only at c0 c3;have HLX := zh hLx;clear hx hLx
   cases hk : (x.kind == kind) with
   | false =>
    go_wp2
    go_roundw
    case rel => exact ⟨j + 1, by omega, by go_num, zh (by simp), zh fun i y hi hy => by
     by_cases e : i < j
     ·exact HN.out i y e hy
     ·obtain rfl : i = j := by omega
      rw [HLX.out] at hy
      cases hy
      rw [hk, Bool.false_and]⟩
    case measure => simp [intOf]; omega
   | true =>
    cases ht : ((str x.text).toList == (str name).toList) with
    | false =>
     go_wp2
     go_roundw
     case rel => exact ⟨j + 1, by omega, by go_num, zh (by simp), zh fun i y hi hy => by
      by_cases e : i < j
      ·exact HN.out i y e hy
      ·obtain rfl : i = j := by omega
       rw [HLX.out] at hy
       cases hy
       rw [by_toList, by_toList, by_str, by_str] at ht;rw [ht, Bool.and_false]⟩
     case measure => simp [intOf]; omega
    | true =>
     have hd : declN L kind name = (j : Int) := declN_hit HLX.out (by rw [by_toList, by_toList, by_str, by_str] at ht; rw [hk, ht]; rfl) HN.out;have HD := zh hd;clear hd;go_wp2
     go_returns
     exact ⟨by rw [HD.out]; rfl, rfl⟩
  ·have hd : declN L kind name = -1 := declN_none fun i y hy => HN.out i y (by
    have := (List.getElem?_eq_some_iff.1 hy).1;rw [HL.out, List.length_map] at this
    omega) hy
   have HD := zh hd;clear hd;go_wp2
   go_returns
   exact ⟨by rw [HD.out]; rfl, rfl⟩
end Go.Proofs.YtjickecdkmljpaaGreatDoor
namespace Go.Proofs.YtjickecdkmljpaaGreatDoor
open Go.RowKit

def ltT (a b : List UInt8) : Bool := Op.bytesLess a b
/-- A text into its place. -/
def insT (s : List UInt8) : List (List UInt8) → List (List UInt8)
 | [] => [s]
 | x :: r => if ltT s x then s :: x :: r else x :: insT s r
theorem insT_any {s : List UInt8} {l : List (List UInt8)} (x : List UInt8) (h : l.any (ltT s) = true) : insT s (l ++ [x]) = insT s l ++ [x] := by
 induction l with
 | nil => cases h
 | cons y r ih =>
  show (if ltT s y then s :: y :: (r ++ [x]) else y :: insT s (r ++ [x])) = (if ltT s y then s :: y :: r else y :: insT s r) ++ [x]
  cases hy : ltT s y with
  | true => rfl
  | false =>
   rw [List.any_cons, hy, Bool.false_or] at h;rw [if_neg (by decide), if_neg (by decide), ih h]
   rfl
theorem insT_hit {s : List UInt8} {l : List (List UInt8)} {x : List UInt8} (h : l.any (ltT s) = false) (hx : ltT s x = true) : insT s (l ++ [x]) = l ++ [s] ++ [x] := by
 induction l with
 | nil => show (if ltT s x then s :: [x] else x :: [s]) = _; rw [hx]; rfl
 | cons y r ih =>
  rw [List.any_cons, Bool.or_eq_false_iff] at h
  show (if ltT s y then s :: y :: (r ++ [x]) else y :: insT s (r ++ [x])) = _
  rw [h.1, if_neg (by decide), ih h.2]
  rfl
theorem insT_none {s : List UInt8} {l : List (List UInt8)} (h : l.any (ltT s) = false) : insT s l = l ++ [s] := by
 induction l with
 | nil => rfl
 | cons y r ih =>
  rw [List.any_cons, Bool.or_eq_false_iff] at h
  show (if ltT s y then s :: y :: r else y :: insT s r) = _
  rw [h.1, if_neg (by decide), ih h.2]
  rfl
theorem insT_len (s : List UInt8) (l : List (List UInt8)) : (insT s l).length = l.length + 1 := by
 induction l with
 | nil => rfl
 | cons y r ih =>
  show (if ltT s y then s :: y :: r else y :: insT s r).length = _
  split
  ·rfl
  ·rw [List.length_cons, ih]; rfl
/-- What has been laid out of the first j. -/
def outJ (s : List UInt8) (l : List (List UInt8)) (j : Nat) : List (List UInt8) := if (l.take j).any (ltT s) then insT s (l.take j) else l.take j
theorem outJ_len (s : List UInt8) (l : List (List UInt8)) (j : Nat) : (outJ s l j).length ≤ l.length + 1 := by
 unfold outJ
 split
 ·rw [insT_len, List.length_take]; omega
 ·rw [List.length_take]; omega
theorem take_snoc {l : List (List UInt8)} {j : Nat} (h : j < l.length) : l.take (j + 1) = l.take j ++ [l.getD j []] := by
 rw [List.take_add_one, List.getElem?_eq_getElem h];simp [List.getD_eq_getElem?_getD, List.getElem?_eq_getElem h]
theorem any_snoc {s : List UInt8} {l : List (List UInt8)} {j : Nat} (h : j < l.length) : (l.take (j + 1)).any (ltT s) = ((l.take j).any (ltT s) || ltT s (l.getD j [])) := by
 rw [take_snoc h, List.any_append];simp
set_option maxRecDepth 100000 in
set_option maxHeartbeats 4000000 in
theorem rputS_any {N : Nat} {w : World} {u : Value} {s : List UInt8} {l : List (List UInt8)} (hv : TxtV N w u l) (hl : l.length ≤ 100000000000) : Calls Tryz.prog 37 #[u, .string (str s)] w fun e w' => ∃ v, e = .returned v ∧ TxtV w.heap.size w' v (insT s l) ∧ Below w.heap.size w w' := by
 obtain ⟨ua, uc, rfl⟩ := own_slice hv rfl;have HV := zh hv;clear hv
 go_enter Tryz.func37, Tryz.ntmps37
 go_wp2_with fail
 go_loopg [5, 6, 7] l.length (fun r o d i wr => ∃ (j : Nat) (ub : Option Addr) (uk : Nat), j + r = l.length ∧ o = .slice ub (outJ s l j).length uk ∧ d = .bool ((l.take j).any (ltT s)) ∧ i = .int .i64 (j : Int) ∧ Hid (Below w.heap.size w wr) ∧ Hid (TxtV w.heap.size wr (.slice ub (outJ s l j).length uk) (outJ s l j)))
 case atStart => exact ⟨0, none, 0, by omega, rfl, rfl, rfl, zh (Below.refl _ _), zh (World.ownsRow_nil _ _ _ _)⟩
 case round =>
  obtain ⟨j, ub, uk, hj, rfl, rfl, rfl, HB, HO⟩ := hrel;have HVR : Hid (TxtV N wr (.slice ua l.length uc) l) := zh (own_below HV.out HB.out fun k hk => (World.ownsRow.lt HV.out k hk).2);have holen := outJ_len s l j
  by_cases hjl : j < l.length
  ·have hji : (j : Int) < (l.length : Int) := by omega
   have hj0 : (0 : Int) ≤ (j : Int) := by omega
   obtain ⟨g, cap, hg⟩ := own_lit HVR.out (by omega)
   cases hg
   have c0 := txt_at HVR.out rfl hjl;have HCC : Hid (∀ w', Below w.heap.size w w' → w'.cell? ⟨g, j, none⟩ = some (.string (str (l.getD j [])))) := zh fun w' hb => txt_at (own_below HV.out hb fun k hk => (World.ownsRow.lt HV.out k hk).2) rfl hjl
   have iw : IntKind.i64.wrap ((j : Int) + 1) = (j : Int) + 1 := IntWalk.i64_in _ (by omega);have HT1 := zh (take_snoc hjl);have HA1 := zh (any_snoc (s := s) hjl);generalize l.getD j [] = x at *;obtain ⟨O, hO⟩ : ∃ O, O = outJ s l j := ⟨_, rfl⟩;rw [← hO] at HO holen ⊢
   cases hd : (l.take j).any (ltT s) with
   | true =>
    have HN : Hid (outJ s l (j + 1) = O ++ [x]) := zh (by rw [hO]; unfold outJ; rw [HA1.out, hd, Bool.true_or, if_pos rfl, if_pos rfl, HT1.out, insT_any _ hd]);have HD : Hid ((l.take (j + 1)).any (ltT s) = true) := zh (by rw [HA1.out, hd, Bool.true_or]);clear hO hd;go_wp2_with (at_builtin; refine apT x (by omega) HB.out.size HO.out (fun gg gcap w8 hv8 hb8 => ?_); have HV8 := zh hv8; have HB8 := zh hb8; clear hv8 hb8)
    go_wp2
    go_roundg (l.length - j - 1)
    case rel => exact ⟨j + 1, some ⟨gg, 0, none⟩, gcap, by omega, by rw [HN.out, List.length_append]; rfl, by rw [HD.out], by simp, zh (HB.out.trans HB8.out), zh (by have h := HV8.out; rw [HN.out, List.length_append]; exact h)⟩
    case measure => omega
   | false =>
    have HOT : Hid (O = l.take j) := zh (by rw [hO]; unfold outJ; rw [hd, if_neg (by decide)])
    cases hx : ltT s x with
    | true =>
     have hb : Op.bytesLess (str s).toList (str x).toList = true := by rw [by_toList, by_toList, by_str, by_str]; exact hx
     have HN : Hid (outJ s l (j + 1) = O ++ [s] ++ [x]) := zh (by unfold outJ; rw [HA1.out, hd, hx, Bool.false_or, if_pos rfl, HT1.out, insT_hit hd hx, HOT.out]);have HD : Hid ((l.take (j + 1)).any (ltT s) = true) := zh (by rw [HA1.out, hx, Bool.or_true]);have hol2 : (O ++ [s]).length ≤ 1000000000000 := by rw [List.length_append]; simp; omega
     have HOL := zh hol2;clear hO hd hx hol2;go_wp2_with (first | (at_builtin; refine apT s (by omega) HB.out.size HO.out (fun gg gcap w8 hv8 hb8 => ?_); have HV8 := zh hv8; have HB8 := zh (HB.out.trans hb8); have c8 := HCC.out _ HB8.out; clear hv8 hb8) | (at_builtin; refine apT x HOL.out HB8.out.size HV8.out (fun g9 gcap9 w9 hv9 hb9 => ?_); have HV9 := zh hv9; have HB9 := zh (HB8.out.trans hb9); clear hv9 hb9))
     go_wp2
     go_roundg (l.length - j - 1)
     case rel => exact ⟨j + 1, some ⟨g9, 0, none⟩, gcap9, by omega, by rw [HN.out, List.length_append]; simp, by rw [HD.out], by simp, zh HB9.out, zh (by have h := HV9.out; rw [HN.out, List.length_append]; exact h)⟩
     case measure => omega
    | false =>
     have hb : Op.bytesLess (str s).toList (str x).toList = false := by rw [by_toList, by_toList, by_str, by_str]; exact hx
     have HD : Hid ((l.take (j + 1)).any (ltT s) = false) := zh (by rw [HA1.out, hd, hx]; rfl);have HN : Hid (outJ s l (j + 1) = O ++ [x]) := zh (by unfold outJ; rw [HD.out, if_neg (by decide), HT1.out, HOT.out]);clear hO hd hx;go_wp2_with (at_builtin; refine apT x (by omega) HB.out.size HO.out (fun gg gcap w8 hv8 hb8 => ?_); have HV8 := zh hv8; have HB8 := zh hb8; clear hv8 hb8)
     go_wp2
     go_roundg (l.length - j - 1)
     case rel => exact ⟨j + 1, some ⟨gg, 0, none⟩, gcap, by omega, by rw [HN.out, List.length_append]; rfl, by rw [HD.out], by simp, zh (HB.out.trans HB8.out), zh (by have h := HV8.out; rw [HN.out, List.length_append]; exact h)⟩
     case measure => omega
  ·obtain rfl : j = l.length := by omega
   have hji : ¬ (l.length : Int) < (l.length : Int) := by omega
   have HTK : Hid (l.take l.length = l) := zh List.take_length;obtain ⟨O, hO⟩ : ∃ O, O = outJ s l l.length := ⟨_, rfl⟩;rw [← hO] at HO holen ⊢;rw [HTK.out]
   cases hd : l.any (ltT s) with
   | true =>
    have HN : Hid (insT s l = O) := zh (by rw [hO]; unfold outJ; rw [HTK.out, hd, if_pos rfl]);clear hO hd;go_wp2
    go_returns
    exact ⟨_, rfl, by rw [HN.out]; exact HO.out, HB.out⟩
   | false =>
    have HN : Hid (insT s l = O ++ [s]) := zh (by rw [hO]; unfold outJ; rw [HTK.out, hd, if_neg (by decide), insT_none hd]);clear hO hd;go_wp2_with (at_builtin; refine apT s (by omega) HB.out.size HO.out (fun gg gcap w8 hv8 hb8 => ?_); have HV8 := zh hv8; have HB8 := zh hb8; clear hv8 hb8)
    go_wp2
    go_returns
    exact ⟨_, rfl, by rw [HN.out]; exact HV8.out, HB.out.trans HB8.out⟩
end Go.Proofs.YtjickecdkmljpaaGreatDoor
namespace Go.Proofs.YtjickecdkmljpaaGreatDoor
open Go.RowKit

/-- The text of a method's signature, as a node of an interface tells it. -/
def sigT (L : List Ps.Nd) (i : Nat) : List UInt8 := (L.getD i Ps.noNd).text ++ 32 :: Ps.text L ((L.getD i Ps.noNd).kids.getD 0 0)
/-- What a node says of a type's methods. -/
def nodeM (L : List Ps.Nd) (typ : List UInt8) (n : Ps.Nd) : List (List UInt8) :=
 if n.kind = 14 then (if Ps.text L (n.kids.getD 0 0) = typ then [n.text ++ 32 :: Ps.text L (n.kids.getD 1 0)] else []) else if n.kind = 12 ∧ n.text = typ then n.kids.map (sigT L) else []
/-- A type's methods, as they stand. -/
def methL (L : List Ps.Nd) (typ : List UInt8) : List (List UInt8) := L.flatMap (nodeM L typ)
/-- In order. -/
def mF (l : List (List UInt8)) : List (List UInt8) := l.foldl (fun a s => insT s a) []
theorem mF_snoc (l : List (List UInt8)) (s : List UInt8) : mF (l ++ [s]) = insT s (mF l) := by unfold mF; rw [List.foldl_append]; rfl
theorem mF_len (l : List (List UInt8)) : (mF l).length = l.length := by
 have : ∀ (l acc : List (List UInt8)), (l.foldl (fun a s => insT s a) acc).length = acc.length + l.length := by
  intro l
  induction l with
  | nil => intro acc; rfl
  | cons x r ih => intro acc; rw [List.foldl_cons, ih, insT_len, List.length_cons]; omega
 have h := this l []
 simpa [mF] using h
theorem nodeM_len {L : List Ps.Nd} {typ : List UInt8} {n : Ps.Nd} {K : Nat} (hK : 1 ≤ K) (h : n.kids.length ≤ K) : (nodeM L typ n).length ≤ K := by
 unfold nodeM
 split
 ·split
  ·exact hK
  ·exact Nat.zero_le _
 ·split
  ·rw [List.length_map]; exact h
  ·exact Nat.zero_le _
theorem pre_len {L : List Ps.Nd} {typ : List UInt8} {K : Nat} (hK : 1 ≤ K) (h : ∀ n ∈ L, n.kids.length ≤ K) (k : Nat) : ((L.take k).flatMap (nodeM L typ)).length ≤ k * K := by
 have : ∀ l : List Ps.Nd, (∀ n ∈ l, n.kids.length ≤ K) → (l.flatMap (nodeM L typ)).length ≤ l.length * K := by
  intro l
  induction l with
  | nil => intro _; exact Nat.zero_le _
  | cons x r ih =>
   intro hl;have h1 := nodeM_len (L := L) (typ := typ) hK (hl x (List.mem_cons_self ..));have h2 := ih fun n hn => hl n (List.mem_cons_of_mem _ hn)
   rw [List.flatMap_cons, List.length_append, List.length_cons, Nat.succ_mul];omega
 have h1 := this (L.take k) fun n hn => h n (List.mem_of_mem_take hn)
 have h2 : (L.take k).length * K ≤ k * K := Nat.mul_le_mul_right _ (by rw [List.length_take]; exact Nat.min_le_left _ _);omega
theorem pre_step {L : List Ps.Nd} {typ : List UInt8} {k : Nat} {x : Ps.Nd} (h : L[k]? = some x) : (L.take (k + 1)).flatMap (nodeM L typ) = (L.take k).flatMap (nodeM L typ) ++ nodeM L typ x := by
 rw [List.take_add_one, h, List.flatMap_append];simp
theorem decl_pos {L : List Ps.Nd} {kind : Int} {name : List UInt8} {k : Nat} {x : Ps.Nd} (h : L[k]? = some x) (h1 : x.kind = kind) (h2 : x.text = name) : 0 ≤ declN L kind name := by
 unfold declN
 cases hq : L.findIdx? (fun n => n.kind == kind && n.text == name) with
 | some k => exact Int.natCast_nonneg k
 | none =>
  rw [List.findIdx?_eq_none_iff] at hq;have := hq x (List.mem_of_getElem? h);rw [h1, h2] at this;simp at this
theorem getD_cons2 {l r : List Nat} {a b : Nat} (h : l = a :: b :: r) : l.getD 0 0 = a ∧ l.getD 1 0 = b := by subst h; exact ⟨rfl, rfl⟩
section
variable {L : List Ps.Nd} {D : List (Ps.Nd × Value)} {N : Nat}
set_option maxRecDepth 100000 in
set_option maxHeartbeats 8000000 in
theorem rmethods_any {w : World} {v : Value} (HW : Hid (Ps.Wf L)) (HS : Hid (∀ k, (Ps.text L k).length ≤ 100000000000)) (HL : Hid (L = D.map (·.1))) (HF : Hid (∀ n ∈ L, n.text.length ≤ 100000000000 ∧ n.kids.length ≤ 1000000)) (hD : D.length ≤ 10000) (hv : NodesV N w v D) (typ : List UInt8) :
  Calls Tryz.prog 17 #[v, .string (str typ)] w fun e w' => ∃ u, e = .returned u ∧ TxtV w.heap.size w' u (mF (methL L typ)) ∧ Below w.heap.size w w' := by
 have HLL : Hid (L.length = D.length) := zh (by rw [HL.out, List.length_map]);obtain ⟨va, vc, rfl⟩ := own_slice hv.row rfl;have HND : Hid (∀ w', Below w.heap.size w w' → NodesV N w' (.slice va D.length vc) D) := zh fun w' hb => hv.further hb
 have HDC := zh (rdecl_any HL hv 12 typ);clear hv
 go_enter Tryz.func17, Tryz.ntmps17
 go_wp2_with fail
 refine HDC.out.mono ?_;rintro e w0 ⟨rfl, rfl⟩;obtain ⟨IV, hIV⟩ : ∃ z, z = declN L 12 typ := ⟨_, rfl⟩;rw [← hIV];have HIV := zh hIV;clear hIV HDC;obtain ⟨A, hA⟩ : ∃ f : Nat → List (List UInt8), f = fun k => mF ((L.take k).flatMap (nodeM L typ)) := ⟨_, rfl⟩
 have HLA : Hid (∀ k, k ≤ D.length → (A k).length ≤ 10000000000) := zh fun k hk => by
  rw [hA];dsimp only;rw [mF_len];have := pre_len (typ := typ) (K := 1000000) (by decide) (fun n hn => (HF.out n hn).2) k;omega
 have HAS : Hid (∀ k x, L[k]? = some x → A (k + 1) = mF ((L.take k).flatMap (nodeM L typ) ++ nodeM L typ x)) := zh fun k x hx => by rw [hA]; dsimp only; rw [pre_step hx]
 have HA := zh hA;have HA0 : Hid (A 0 = []) := zh (by rw [hA]; rfl);have HAE : Hid (A D.length = mF (methL L typ)) := zh (by rw [hA]; dsimp only; rw [← HLL.out, List.take_length]; rfl);clear hA;go_wp2_with fail
 go_loopg [5, 7] D.length (fun r o i wr => ∃ (k : Nat) (ub : Option Addr) (uk : Nat), k + r = D.length ∧ o = .slice ub (A k).length uk ∧ i = .int .i64 (k : Int) ∧ Hid (Below w0.heap.size w0 wr) ∧ Hid (TxtV w0.heap.size wr (.slice ub (A k).length uk) (A k)))
 case atStart => exact ⟨0, none, 0, by omega, by rw [HA0.out]; rfl, rfl, zh (Below.refl _ _), zh (by rw [HA0.out]; exact World.ownsRow_nil _ _ _ _)⟩
 case round =>
  obtain ⟨k, ub, uk, hk, rfl, rfl, HB, HO⟩ := hrel;generalize wr = wo at *;have hal := HLA.out k (by omega)
  by_cases hkD : k < D.length
  ·have hki : (k : Int) < (D.length : Int) := by omega
   have hk0 : (0 : Int) ≤ (k : Int) := by omega
   have iw : IntKind.i64.wrap ((k : Int) + 1) = (k : Int) + 1 := IntWalk.i64_in _ (by omega);obtain ⟨⟨x, u⟩, hx⟩ : ∃ x, D[k]? = some x := ⟨_, List.getElem?_eq_getElem hkD⟩;have hLx : L[k]? = some x := by rw [HL.out, List.getElem?_map, hx]; rfl
   have HX := zh (HW.out k x hLx);have HFX := zh (HF.out x (List.mem_of_getElem? hLx));have HLX := zh hLx;have HS1 := zh (HAS.out k x hLx);have HN0 := zh (HND.out _ HB.out);obtain ⟨g, cap, hg⟩ := own_lit HN0.out.row (by omega)
   cases hg
   obtain ⟨c0, c1, c2, c3, c4⟩ := nodes_at HN0.out rfl hx;have hmem : (x, u) ∈ D := List.mem_of_getElem? hx;have HKV : Hid (∀ w', Below w0.heap.size w0 w' → KidsV N w' u x.kids) := zh fun w' hb => (HND.out w' hb).kids _ hmem
   dsimp only at c0 c1 c2 c3 c4;obtain ⟨ua, uc, rfl⟩ := own_slice (HKV.out _ HB.out) rfl;clear hx hLx hmem;have HBA : Hid (∀ o, Below w0.heap.size w0 (wo.alloc o)) := zh fun o => HB.out.trans ((Below.refl _ _).alloc (by have := HB.out.size; omega) o)
   have HBk := zh (blk_new wo (.cells #[.int .i64 x.kind, .int .i64 x.pos, .int .i64 x.num, .string (str x.text), .slice ua x.kids.length uc] 41));have HB1 := zh (HBA.out (.cells #[.int .i64 x.kind, .int .i64 x.pos, .int .i64 x.num, .string (str x.text), .slice ua x.kids.length uc] 41));have HO1 : Hid (TxtV w0.heap.size (wo.alloc (.cells #[.int .i64 x.kind, .int .i64 x.pos, .int .i64 x.num, .string (str x.text), .slice ua x.kids.length uc] 41)) (.slice ub (A k).length uk) (A k)) := zh (World.ownsRow.alloc HO.out _);have hwl : wo.heap.size < (wo.alloc (.cells #[.int .i64 x.kind, .int .i64 x.pos, .int .i64 x.num, .string (str x.text), .slice ua x.kids.length uc] 41)).heap.size := by simp
   by_cases k14 : x.kind = 14
   ·have b14 : (x.kind == 14) = true := by simp [k14]
    have b12 : (x.kind == 12) = false := by simp [k14]
    obtain ⟨a, b, rest, hab, _⟩ := HX.out.self k14;have hab2 := getD_cons2 hab;have hl2 : 2 ≤ x.kids.length := by rw [hab]; simp
    have hl0 : (0 : Int) < (x.kids.length : Int) := by omega
    have hl1 : (1 : Int) < (x.kids.length : Int) := by omega
    obtain ⟨g2, c2p, hg2⟩ := own_lit (HKV.out _ HB.out) (by omega)
    cases hg2
    have HK0 : Hid (∀ w', Below w0.heap.size w0 w' → w'.cell? ⟨g2, 0, none⟩ = some (.int .i64 (a : Int)) ∧ w'.cell? ⟨g2, 1, none⟩ = some (.int .i64 (b : Int))) := zh fun w' hb => ⟨by rw [kids_at (HKV.out w' hb) rfl (show 0 < x.kids.length by omega), hab2.1], by rw [kids_at (HKV.out w' hb) rfl (show 1 < x.kids.length by omega), hab2.2]⟩
    have hka : a < k := HX.out.lt a (by rw [hab]; simp);have hkb : b < k := HX.out.lt b (by rw [hab]; simp);have HSA : Hid (nodeM L typ x = if Ps.text L a = typ then [x.text ++ 32 :: Ps.text L b] else []) := zh (by unfold nodeM; rw [if_pos k14, hab2.1, hab2.2]);clear hab hab2 k14;obtain ⟨e1, _⟩ := HK0.out _ HB1.out;go_wp2_with fail
    refine (rtext_any HW HS HL a _ _ (HND.out _ HB1.out) (by omega)).mono ?_;rintro e w2 ⟨rfl, hb2⟩;have HB2 := zh (HB1.out.trans (hb2.mono HB1.out.size));have HO2 : Hid (TxtV w0.heap.size w2 (.slice ub (A k).length uk) (A k)) := zh (own_below HO1.out hb2 fun k hk => (World.ownsRow.lt HO1.out k hk).2);have HBk2 := zh (blk_below HBk.out hb2 (blk_lt HBk.out));clear hb2 e1;obtain ⟨_, e2⟩ := HK0.out _ HB2.out;have q0 := blk_cell HBk2.out 0;have q3 := blk_cell HBk2.out 3;have q4 := blk_cell HBk2.out 4;have ql := blk_lt HBk2.out;simp only [List.getElem?_toArray, List.getElem?_cons_zero, List.getElem?_cons_succ] at q0 q3 q4
    cases ht : ((str (Ps.text L a)).toList == (str typ).toList) with
    | true =>
     have HT : Hid (A (k + 1) = insT (x.text ++ 32 :: Ps.text L b) (A k)) := zh (by
      rw [by_toList, by_toList, by_str, by_str] at ht;rw [HS1.out, HSA.out, if_pos (eq_of_beq ht), mF_snoc, HA.out])
     have hxt := HFX.out.1;have hst := HS.out b;have s1 : ∀ w, (Op.stringOp .add (str x.text) ⟨#[32]⟩).run Tryz.prog w = .ok (.string (str (x.text ++ [32]))) w := fun w => add_str _ [32] _ w rfl (by rw [List.length_append]; show x.text.length + 1 ≤ _; omega)
     have s2 : ∀ w, (Op.stringOp .add (str (x.text ++ [32])) (str (Ps.text L b))).run Tryz.prog w = .ok (.string (str (x.text ++ 32 :: Ps.text L b))) w := fun w => add_str _ _ _ w (List.append_assoc _ _ _) (by rw [List.length_append, List.length_cons]; omega)
     go_wp2_with fail
     refine (rtext_any HW HS HL b _ _ (HND.out _ HB2.out) (by omega)).mono ?_;rintro e w3 ⟨rfl, hb3⟩;have HB3 := zh (HB2.out.trans (hb3.mono HB2.out.size));have HO3 : Hid (TxtV w0.heap.size w3 (.slice ub (A k).length uk) (A k)) := zh (own_below HO2.out hb3 fun k hk => (World.ownsRow.lt HO2.out k hk).2);have HBk3 := zh (blk_below HBk2.out hb3 (blk_lt HBk2.out));clear hb3 q0 q3 q4 ql;have q0 := blk_cell HBk3.out 0;have q3 := blk_cell HBk3.out 3;have q4 := blk_cell HBk3.out 4;have ql := blk_lt HBk3.out;simp only [List.getElem?_toArray, List.getElem?_cons_zero, List.getElem?_cons_succ] at q0 q3 q4;go_wp2_with fail
     refine (rputS_any HO3.out (by omega)).mono ?_;rintro e w4 ⟨v4, rfl, hv4, hb4⟩;have HB4 := zh (HB3.out.trans (hb4.mono HB3.out.size));have HV4 : Hid (TxtV w0.heap.size w4 v4 (A (k + 1))) := zh (by rw [HT.out]; exact owns_base hv4 HB3.out.size);have HBk4 := zh (blk_below HBk3.out hb4 (blk_lt HBk3.out));clear hb4 hv4 q0 q3 q4 ql;have q0 := blk_cell HBk4.out 0;have q3 := blk_cell HBk4.out 3;have q4 := blk_cell HBk4.out 4;have ql := blk_lt HBk4.out;simp only [List.getElem?_toArray, List.getElem?_cons_zero, List.getElem?_cons_succ] at q0 q3 q4;obtain ⟨u4, c4p, rfl⟩ := own_slice HV4.out rfl;go_wp2
     go_roundg (D.length - k - 1)
     case rel => exact ⟨k + 1, u4, c4p, by omega, rfl, by simp, HB4, HV4⟩
     case measure => omega
    | false =>
     have HT : Hid (A (k + 1) = A k) := zh (by
      rw [by_toList, by_toList, by_str, by_str] at ht;rw [HS1.out, HSA.out, if_neg (by simpa using ht), List.append_nil, HA.out])
     have HV4 : Hid (TxtV w0.heap.size w2 (.slice ub (A (k + 1)).length uk) (A (k + 1))) := zh (by rw [HT.out]; exact HO2.out);go_wp2
     go_roundg (D.length - k - 1)
     case rel => exact ⟨k + 1, ub, uk, by omega, by rw [HT.out], by simp, HB2, HV4⟩
     case measure => omega
   have b14 : (x.kind == 14) = false := by simpa using k14
   by_cases k12 : x.kind = 12
   ·have b12 : (x.kind == 12) = true := by simp [k12]
    cases ht : ((str x.text).toList == (str typ).toList) with
    | true =>
     have hT2 : x.text = typ := by
      have h := ht;rw [by_toList, by_toList, by_str, by_str] at h;exact eq_of_beq h
     have hI : (0 : Int) ≤ IV := by rw [HIV.out]; exact decl_pos HLX.out k12 hT2
     obtain ⟨B, hB⟩ : ∃ f : Nat → List (List UInt8), f = fun i => mF ((L.take k).flatMap (nodeM L typ) ++ (x.kids.take i).map (sigT L)) := ⟨_, rfl⟩
     have HB0 : Hid (B 0 = A k) := zh (by rw [hB, HA.out]; simp);have HBE : Hid (B x.kids.length = A (k + 1)) := zh (by rw [HS1.out, hB]; dsimp only; rw [List.take_length]; unfold nodeM; rw [if_neg k14, if_pos ⟨k12, hT2⟩]);have HBS : Hid (∀ i, i < x.kids.length → B (i + 1) = insT (sigT L (x.kids.getD i 0)) (B i)) := zh fun i hi => by
      rw [hB];dsimp only;rw [List.take_add_one, List.getElem?_eq_getElem hi, List.map_append, ← List.append_assoc];simp only [Option.toList_some, List.map_cons, List.map_nil];rw [mF_snoc];simp [List.getD_eq_getElem?_getD, List.getElem?_eq_getElem hi]
     have HBL : Hid (∀ i, i ≤ x.kids.length → (B i).length ≤ 20000000000) := zh fun i hi => by
      rw [hB];dsimp only;rw [mF_len, List.length_append, List.length_map, List.length_take];have := pre_len (typ := typ) (K := 1000000) (by decide) (fun n hn => (HF.out n hn).2) k;have := HFX.out.2;omega
     have HMS : Hid (∀ j, j ∈ x.kids → (L.getD j Ps.noNd).kids ≠ []) := zh (HX.out.ms k12);have HLT := zh HX.out.lt;clear hB hT2 k12 k14;go_wp2_with fail
     generalize (wo.alloc (.cells #[.int .i64 x.kind, .int .i64 x.pos, .int .i64 x.num, .string (str x.text), .slice ua x.kids.length uc] 41)) = w1 at HBk HB1 HO1 hwl ⊢;clear c0 c1 c2 c3 c4;have HO1B : Hid (TxtV w0.heap.size w1 (.slice ub (B 0).length uk) (B 0)) := zh (by rw [HB0.out]; exact HO1.out)
     go_loopg [5, 11] x.kids.length (fun r o i wr => ∃ (j : Nat) (ub : Option Addr) (uk : Nat), j + r = x.kids.length ∧ o = .slice ub (B j).length uk ∧ i = .int .i64 (j : Int) ∧ Hid (Below w0.heap.size w0 wr) ∧ Hid (Below w1.heap.size w1 wr) ∧ Hid (TxtV w0.heap.size wr (.slice ub (B j).length uk) (B j)))
     case atStart => exact ⟨0, ub, uk, by omega, by rw [HB0.out], rfl, HB1, zh (Below.refl _ _), HO1B⟩
     case round =>
      obtain ⟨j, uc5, uk5, hj, rfl, rfl, HBj, HBw, HOj⟩ := hrel;generalize wr = wi at *;have HBki := zh (blk_below HBk.out HBw.out (blk_lt HBk.out));have hbl := HBL.out j (by omega);have q0 := blk_cell HBki.out 0;have q4 := blk_cell HBki.out 4;have ql := blk_lt HBki.out;simp only [List.getElem?_toArray, List.getElem?_cons_zero, List.getElem?_cons_succ] at q0 q4
      by_cases hjl : j < x.kids.length
      ·have hji : (j : Int) < (x.kids.length : Int) := by omega
       have hj0 : (0 : Int) ≤ (j : Int) := by omega
       have hfk := HFX.out.2;have iw2 : IntKind.i64.wrap ((j : Int) + 1) = (j : Int) + 1 := IntWalk.i64_in _ (by omega);obtain ⟨g2, c2p, hg2⟩ := own_lit (HKV.out _ HBj.out) (by omega)
       cases hg2
       have kc := kids_at (HKV.out _ HBj.out) rfl hjl;have hjk := HLT.out _ (Ps.mem_getD hjl);have hms := HMS.out _ (Ps.mem_getD hjl);have hbs := HBS.out j hjl;obtain ⟨a, ha0⟩ : ∃ a, x.kids.getD j 0 = a := ⟨_, rfl⟩;rw [ha0] at kc hjk hms hbs;clear ha0;obtain ⟨⟨y, uy⟩, hy⟩ : ∃ y, D[a]? = some y := ⟨_, List.getElem?_eq_getElem (by omega)⟩;have hLy : L[a]? = some y := by rw [HL.out, List.getElem?_map, hy]; rfl
       have hsig : sigT L a = y.text ++ 32 :: Ps.text L (y.kids.getD 0 0) := by unfold sigT; rw [Ps.getD_of hLy]
       rw [Ps.getD_of hLy] at hms;have HFY := zh (HF.out y (List.mem_of_getElem? hLy));have HNj := zh (HND.out _ HBj.out);obtain ⟨d0, d1, d2, d3, d4⟩ := nodes_at HNj.out rfl hy;have hmy : (y, uy) ∈ D := List.mem_of_getElem? hy;have HKY : Hid (∀ w', Below w0.heap.size w0 w' → KidsV N w' uy y.kids) := zh fun w' hb => (HND.out w' hb).kids _ hmy
       dsimp only at d0 d1 d2 d3 d4;have hyl : 0 < y.kids.length := List.length_pos_iff.2 hms;obtain ⟨g3, c3p, hg3⟩ := own_lit (HKY.out _ HBj.out) (by omega);subst hg3;have hc0 := (HW.out a y hLy).lt _ (Ps.mem_getD hyl);have hyi : (0 : Int) < (y.kids.length : Int) := by omega
       have HBA2 : Hid (∀ o, Below w0.heap.size w0 (wi.alloc o)) := zh fun o => HBj.out.trans ((Below.refl _ _).alloc (by have := HBj.out.size; omega) o)
       have kc3 : ∀ o, (wi.alloc o).cell? ⟨g3, 0, none⟩ = some (.int .i64 ((y.kids.getD 0 0 : Nat) : Int)) := fun o => kids_at (HKY.out _ (HBA2.out o)) rfl hyl
       obtain ⟨c, hcc⟩ : ∃ c, y.kids.getD 0 0 = c := ⟨_, rfl⟩;rw [hcc] at hsig hc0;simp only [hcc] at kc3;clear hcc hms hy hLy hmy;have hak : (a : Int) < (D.length : Int) := by omega
       have ha00 : (0 : Int) ≤ (a : Int) := by omega
       have HMk := zh (blk_new wi (.cells #[.int .i64 y.kind, .int .i64 y.pos, .int .i64 y.num, .string (str y.text), .slice (some ⟨g3, 0, none⟩) y.kids.length c3p] 41));have HMB := zh (HBA2.out (.cells #[.int .i64 y.kind, .int .i64 y.pos, .int .i64 y.num, .string (str y.text), .slice (some ⟨g3, 0, none⟩) y.kids.length c3p] 41));have HMO : Hid (TxtV w0.heap.size (wi.alloc (.cells #[.int .i64 y.kind, .int .i64 y.pos, .int .i64 y.num, .string (str y.text), .slice (some ⟨g3, 0, none⟩) y.kids.length c3p] 41)) (.slice uc5 (B j).length uk5) (B j)) := zh (World.ownsRow.alloc HOj.out _);have HMW : Hid (Below w1.heap.size w1 (wi.alloc (.cells #[.int .i64 y.kind, .int .i64 y.pos, .int .i64 y.num, .string (str y.text), .slice (some ⟨g3, 0, none⟩) y.kids.length c3p] 41))) := zh (HBw.out.trans ((Below.refl _ _).alloc (by have := HBw.out.size; omega) _));have hwl3 : wi.heap.size < (wi.alloc (.cells #[.int .i64 y.kind, .int .i64 y.pos, .int .i64 y.num, .string (str y.text), .slice (some ⟨g3, 0, none⟩) y.kids.length c3p] 41)).heap.size := by simp
       go_wp2_with fail
       refine (rtext_any HW HS HL c _ _ (HND.out _ HMB.out) (by omega)).mono ?_;rintro e w2 ⟨rfl, hb2⟩;have HB2 := zh (HMB.out.trans (hb2.mono HMB.out.size));have HO2 : Hid (TxtV w0.heap.size w2 (.slice uc5 (B j).length uk5) (B j)) := zh (own_below HMO.out hb2 fun k hk => (World.ownsRow.lt HMO.out k hk).2);have HMk2 := zh (blk_below HMk.out hb2 (blk_lt HMk.out));have HW2 := zh (HMW.out.trans (hb2.mono HMW.out.size));clear hb2 kc3 kc d0 d1 d2 d3 d4 q0 q4 ql;have q3 := blk_cell HMk2.out 3;have ql := blk_lt HMk2.out;simp only [List.getElem?_toArray, List.getElem?_cons_zero, List.getElem?_cons_succ] at q3;have hxt := HFY.out.1;have hst := HS.out c;have s1 : ∀ w, (Op.stringOp .add (str y.text) ⟨#[32]⟩).run Tryz.prog w = .ok (.string (str (y.text ++ [32]))) w := fun w => add_str _ [32] _ w rfl (by rw [List.length_append]; show y.text.length + 1 ≤ _; omega)
       have s2 : ∀ w, (Op.stringOp .add (str (y.text ++ [32])) (str (Ps.text L c))).run Tryz.prog w = .ok (.string (str (sigT L a))) w := fun w => add_str (y.text ++ [32]) (Ps.text L c) (sigT L a) w (by rw [hsig]; simp) (by rw [hsig, List.length_append, List.length_cons]; omega)
       clear hsig;go_wp2_with fail
       refine (rputS_any HO2.out (by omega)).mono ?_;rintro e w4 ⟨v4, rfl, hv4, hb4⟩;have HB4 := zh (HB2.out.trans (hb4.mono HB2.out.size));have HW4 := zh (HW2.out.trans (hb4.mono HW2.out.size));have HV4 : Hid (TxtV w0.heap.size w4 v4 (B (j + 1))) := zh (by rw [hbs]; exact owns_base hv4 HB2.out.size);clear hb4 hv4 q3 ql hbs;obtain ⟨u4, c4p, rfl⟩ := own_slice HV4.out rfl;go_wp2
       go_roundg (x.kids.length - j - 1)
       case rel => exact ⟨j + 1, u4, c4p, by omega, rfl, by simp, HB4, HW4, HV4⟩
       case measure => omega
      ·obtain rfl : j = x.kids.length := by omega
       have hji : ¬ (x.kids.length : Int) < (x.kids.length : Int) := by omega
       have HV4 : Hid (TxtV w0.heap.size wi (.slice uc5 (A (k + 1)).length uk5) (A (k + 1))) := zh (by rw [← HBE.out]; exact HOj.out);go_wp2
       go_roundg (D.length - k - 1)
       case rel => exact ⟨k + 1, uc5, uk5, by omega, by rw [HBE.out], by simp, HBj, HV4⟩
       case measure => omega
    | false =>
     have HT : Hid (A (k + 1) = A k) := zh (by
      rw [by_toList, by_toList, by_str, by_str] at ht;rw [HS1.out, HA.out];unfold nodeM;rw [if_neg k14, if_neg (fun h => by rw [h.2] at ht; simp at ht), List.append_nil])
     have HV4 : Hid (TxtV w0.heap.size (wo.alloc (.cells #[.int .i64 x.kind, .int .i64 x.pos, .int .i64 x.num, .string (str x.text), .slice ua x.kids.length uc] 41)) (.slice ub (A (k + 1)).length uk) (A (k + 1))) := zh (by rw [HT.out]; exact HO1.out);clear k12 k14
     by_cases hI : (0 : Int) ≤ IV
     all_goals
      go_wp2
      go_roundg (D.length - k - 1)
      case rel => exact ⟨k + 1, ub, uk, by omega, by rw [HT.out], by simp, HB1, HV4⟩
      case measure => omega
   ·have b12 : (x.kind == 12) = false := by simpa using k12
    have HT : Hid (A (k + 1) = A k) := zh (by
     rw [HS1.out, HA.out];unfold nodeM;rw [if_neg k14, if_neg (fun h => k12 h.1), List.append_nil])
    have HV4 : Hid (TxtV w0.heap.size (wo.alloc (.cells #[.int .i64 x.kind, .int .i64 x.pos, .int .i64 x.num, .string (str x.text), .slice ua x.kids.length uc] 41)) (.slice ub (A (k + 1)).length uk) (A (k + 1))) := zh (by rw [HT.out]; exact HO1.out);clear k12 k14;go_wp2
    go_roundg (D.length - k - 1)
    case rel => exact ⟨k + 1, ub, uk, by omega, by rw [HT.out], by simp, HB1, HV4⟩
    case measure => omega
  ·obtain rfl : k = D.length := by omega
   have hki : ¬ (D.length : Int) < (D.length : Int) := by omega
   go_wp2
   go_returns
   exact ⟨_, rfl, by rw [← HAE.out]; exact HO.out, HB.out⟩
end
end Go.Proofs.YtjickecdkmljpaaGreatDoor
namespace Go.Proofs.YtjickecdkmljpaaGreatDoor
open Go.RowKit

def nilT : List UInt8 := [110, 105, 108]
/-- Fits, where the two are not the same and the first one is not nil: what is asked. -/
def restF (L : List Ps.Nd) (fr ty : List UInt8) : Bool := (mF (methL L ty)).all fun a => (mF (methL L fr)).any fun b => b == a
/-- Does a value fit? -/
def fitsF (L : List Ps.Nd) (fr ty : List UInt8) : Bool :=
 if fr = ty then true
 else if fr = nilT then begT ty [42] || begT ty [99, 104, 97, 110, 32] || begT ty [102, 117, 110, 99, 40] || decide (0 ≤ declN L 12 ty)
 else if declN L 12 ty < 0 then false
 else if declN L 12 fr < 0 ∧ (begT fr [42] = false ∨ declN L 10 (fr.drop 1) < 0) then false
 else restF L fr ty
theorem extract_drop1 (s : List UInt8) : (str s).extract 1 (str s).size = str (s.drop 1) := by
 rw [str_size]
 apply ByteArray.ext
 have : List.take (s.length - 1) s.tail = s.tail := List.take_of_length_le (by simp);simp [str, ByteArray.data_extract, this]
theorem nil_eq {a : List UInt8} : ((str a).toList == [110, 105, 108]) = (a == nilT) := by rw [by_toList, by_str]; rfl
theorem txt_eq {a b : List UInt8} : ((str a).toList == (str b).toList) = (a == b) := by rw [by_toList, by_toList, by_str, by_str]
theorem mlen {L : List Ps.Nd} {D : List (Ps.Nd × Value)} {ty : List UInt8} (HF : Hid (∀ n ∈ L, n.text.length ≤ 100000000000 ∧ n.kids.length ≤ 1000000)) (HL : Hid (L = D.map (·.1))) (hD : D.length ≤ 10000) : (mF (methL L ty)).length ≤ 10000000000 := by
 rw [mF_len];have := pre_len (typ := ty) (K := 1000000) (by decide) (fun n hn => (HF.out n hn).2) L.length;rw [List.take_length] at this;have hl : L.length = D.length := by rw [HL.out, List.length_map]
 unfold methL;omega
section
variable {L : List Ps.Nd} {D : List (Ps.Nd × Value)} {N : Nat}
set_option maxRecDepth 100000 in
set_option maxHeartbeats 8000000 in
theorem rfits_any {w : World} {v : Value} (HW : Hid (Ps.Wf L)) (HS : Hid (∀ k, (Ps.text L k).length ≤ 100000000000)) (HL : Hid (L = D.map (·.1))) (HF : Hid (∀ n ∈ L, n.text.length ≤ 100000000000 ∧ n.kids.length ≤ 1000000)) (hD : D.length ≤ 10000) (hv : NodesV N w v D) (fr ty : List UInt8) :
  Calls Tryz.prog 20 #[v, .string (str fr), .string (str ty)] w fun e w' => e = .returned (.bool (fitsF L fr ty)) ∧ Below w.heap.size w w' := by
 cases hE : ((str fr).toList == (str ty).toList) with
 | true =>
  have HR : Hid (fitsF L fr ty = true) := zh (by rw [txt_eq, beq_iff_eq] at hE; unfold fitsF; rw [if_pos hE])
  go_enter Tryz.func20, Tryz.ntmps20
  go_wp2
  go_returns
  exact ⟨by rw [HR.out]; rfl, Below.refl _ _⟩
 | false =>
  have hne : ¬ fr = ty := by rw [txt_eq] at hE; simpa using hE
  have HDC := zh (rdecl_any HL hv 12 ty)
  cases hN : ((str fr).toList == [110, 105, 108]) with
  | true =>
   have hnl : fr = nilT := by rw [nil_eq, beq_iff_eq] at hN; exact hN
   have HR : Hid (fitsF L fr ty = (begT ty [42] || begT ty [99, 104, 97, 110, 32] || begT ty [102, 117, 110, 99, 40] || decide (0 ≤ declN L 12 ty))) := zh (by unfold fitsF; rw [if_neg hne, if_pos hnl]);clear hne hnl
   go_enter Tryz.func20, Tryz.ntmps20
   go_wp2_with fail
   refine HDC.out.mono ?_;rintro e w0 ⟨rfl, rfl⟩;go_wp2_with fail
   refine (rbegins_any ty [42] _).mono ?_;rintro e w1 ⟨rfl, rfl⟩;go_wp2_with fail
   refine (rbegins_any ty [99, 104, 97, 110, 32] _).mono ?_;rintro e w1 ⟨rfl, rfl⟩;go_wp2_with fail
   refine (rbegins_any ty [102, 117, 110, 99, 40] _).mono ?_;rintro e w1 ⟨rfl, rfl⟩;generalize begT ty [42] = b1 at *;generalize begT ty [99, 104, 97, 110, 32] = b2 at *;generalize begT ty [102, 117, 110, 99, 40] = b3 at *
   cases b1 <;> cases b2 <;> cases b3
   all_goals
    go_wp2_with fail
    go_returns
    exact ⟨by rw [HR.out]; rfl, Below.refl _ _⟩
  | false =>
   have hnl : ¬ fr = nilT := by rw [nil_eq] at hN; simpa using hN
   have HR : Hid (fitsF L fr ty = if declN L 12 ty < 0 then false else if declN L 12 fr < 0 ∧ (begT fr [42] = false ∨ declN L 10 (fr.drop 1) < 0) then false else restF L fr ty) := zh (by unfold fitsF; rw [if_neg hne, if_neg hnl]);clear hne hnl;have HDF := zh (rdecl_any HL hv 12 fr);have HDS := zh (rdecl_any HL hv 10 (fr.drop 1));generalize declN L 12 ty = I1 at *;generalize declN L 12 fr = I2 at *;generalize declN L 10 (fr.drop 1) = I3 at *
   by_cases h1 : I1 < 0
   ·have HR2 : Hid (fitsF L fr ty = false) := zh (by rw [HR.out, if_pos h1])
    go_enter Tryz.func20, Tryz.ntmps20
    go_wp2_with fail
    refine HDC.out.mono ?_;rintro e w0 ⟨rfl, rfl⟩;go_wp2
    go_returns
    exact ⟨by rw [HR2.out]; rfl, Below.refl _ _⟩
   ·have HC : (I2 < 0 ∧ (begT fr [42] = false ∨ I3 < 0)) ∨ (¬ (I2 < 0 ∧ (begT fr [42] = false ∨ I3 < 0)) ∧ Hid (fitsF L fr ty = restF L fr ty)) := by
     by_cases h : I2 < 0 ∧ (begT fr [42] = false ∨ I3 < 0)
     ·exact .inl h
     ·exact .inr ⟨h, zh (by rw [HR.out, if_neg h1, if_neg h])⟩
    have hl : begT fr [42] = true → 1 ≤ fr.length := by
     cases fr with
     | nil => simp [begT]
     | cons _ _ => simp
    generalize hb : begT fr [42] = b at *;have HL1 := zh hl;have HBG : Hid (∀ w, Calls Tryz.prog 38 #[.string (str fr), .string (str [42])] w fun e w' => e = .returned (.bool b) ∧ w' = w) := zh (by rw [← hb]; exact fun w => rbegins_any fr [42] w);clear hb hl;rcases HC with ⟨h2, h3⟩ | ⟨hN2, HR2⟩
    ·have HR2 : Hid (fitsF L fr ty = false) := zh (by rw [HR.out, if_neg h1, if_pos ⟨h2, h3⟩])
     cases b with
     | false =>
      go_enter Tryz.func20, Tryz.ntmps20
      go_wp2_with fail
      refine HDC.out.mono ?_;rintro e w0 ⟨rfl, rfl⟩;go_wp2_with fail
      refine HDF.out.mono ?_;rintro e w0 ⟨rfl, rfl⟩;go_wp2_with fail
      refine (HBG.out _).mono ?_;rintro e w1 ⟨rfl, rfl⟩;go_wp2
      go_returns
      exact ⟨by rw [HR2.out]; rfl, Below.refl _ _⟩
     | true =>
      have h4 : I3 < 0 := h3.resolve_left (by decide);have hl := HL1.out rfl;have hz1 : 1 ≤ (str fr).size := by rw [str_size]; exact hl
      have hz2 : (1 : Int) ≤ ((str fr).size : Int) := by omega
      have hz3 : (1 : Int) ≤ (fr.length : Int) := by omega
      have HX : Hid ((str fr).extract 1 (str fr).size = str (fr.drop 1)) := zh (extract_drop1 fr);clear h3
      go_enter Tryz.func20, Tryz.ntmps20
      go_wp2_with fail
      refine HDC.out.mono ?_;rintro e w0 ⟨rfl, rfl⟩;go_wp2_with fail
      refine HDF.out.mono ?_;rintro e w0 ⟨rfl, rfl⟩;go_wp2_with fail
      refine (HBG.out _).mono ?_;rintro e w1 ⟨rfl, rfl⟩;go_wp2_with fail
      rw [HX.out];refine HDS.out.mono ?_;rintro e w1 ⟨rfl, rfl⟩;go_wp2
      go_returns
      exact ⟨by rw [HR2.out]; rfl, Below.refl _ _⟩
    ·go_enter Tryz.func20, Tryz.ntmps20
     go_wp2_with fail
     refine HDC.out.mono ?_;rintro e w0 ⟨rfl, rfl⟩;go_wp2_with fail
     refine HDF.out.mono ?_;rintro e w1 ⟨rfl, rfl⟩
     go_upto_if 49 with fail
     have HV := zh hv;clear hv
     go_cut [11] (fun j wx => (∃ J : Int, j = .int .i64 J) ∧ wx = w1)
     case first =>
      by_cases h2 : I2 < 0
      ·have hb : b = true := by
        cases b with
        | true => rfl
        | false => exact absurd ⟨h2, .inl rfl⟩ hN2
       subst hb;have h4 : ¬ I3 < 0 := fun h => hN2 ⟨h2, .inr h⟩
       have hl := HL1.out rfl;have hz1 : 1 ≤ (str fr).size := by rw [str_size]; exact hl
       have hz2 : (1 : Int) ≤ ((str fr).size : Int) := by omega
       have hz3 : (1 : Int) ≤ (fr.length : Int) := by omega
       have HX : Hid ((str fr).extract 1 (str fr).size = str (fr.drop 1)) := zh (extract_drop1 fr);clear hN2;go_wp2_with fail
       refine (HBG.out _).mono ?_;rintro e w1 ⟨rfl, rfl⟩;go_wp2_with fail
       rw [HX.out];refine HDS.out.mono ?_;rintro e w1 ⟨rfl, rfl⟩;go_wp2_with fail
       go_meet
       exact ⟨⟨_, rfl⟩, rfl⟩
      ·clear hN2;go_wp2_with fail
       go_meet
       exact ⟨⟨_, rfl⟩, rfl⟩
     case rest =>
      obtain ⟨⟨J, rfl⟩, hwc⟩ := hcut;obtain rfl : w1 = wc := hwc.symm;clear hN2;go_wp2_with fail
      refine (rmethods_any HW HS HL HF hD HV.out fr).mono ?_;rintro e w2 ⟨u1, rfl, ho1, hb1⟩;have HB1 := zh hb1;obtain ⟨a1, c1, rfl⟩ := own_slice ho1 rfl;have hM1 := mlen (ty := fr) HF HL hD;generalize hm1 : mF (methL L fr) = l1 at *;have HO1 := zh ho1;clear hb1 ho1;go_wp2_with fail
      refine (rmethods_any HW HS HL HF hD (HV.out.further HB1.out) ty).mono ?_;rintro e w3 ⟨u2, rfl, ho2, hb2⟩;have HO3 : Hid (TxtV w1.heap.size w3 (.slice a1 l1.length c1) l1) := zh (own_below HO1.out hb2 fun k hk => (World.ownsRow.lt HO1.out k hk).2);have HB3 : Hid (Below w1.heap.size w1 w3) := zh (HB1.out.trans (hb2.mono HB1.out.size));obtain ⟨a2, c2, rfl⟩ := own_slice ho2 rfl;have hM2 := mlen (ty := ty) HF HL hD;generalize hm2 : mF (methL L ty) = l2 at *;have HO2 := zh ho2;have HR3 : Hid (fitsF L fr ty = l2.all fun a => l1.any fun b => b == a) := zh (by rw [HR2.out, ← hm1, ← hm2]; rfl);clear hb2 ho2 hm1 hm2;go_wp2_with fail
      go_loopg [15] l2.length (fun r i wr => ∃ k : Nat, k + r = l2.length ∧ i = .int .i64 (k : Int) ∧ Hid (∃ n, wr = w3.drewN n) ∧ Hid ((l2.take k).all (fun a => l1.any fun b => b == a) = true))
      case atStart => exact ⟨0, by omega, rfl, zh ⟨0, rfl⟩, zh rfl⟩
      case round =>
       obtain ⟨k, hk, rfl, HX, HA⟩ := hrel;obtain ⟨nn, rfl⟩ := HX.out
       by_cases hlt : k < l2.length
       ·obtain ⟨o2, oc2, ho2⟩ := own_lit HO2.out (by omega)
        cases ho2
        have z2 := txt_at HO2.out rfl hlt;have bk2 : (0 : Int) ≤ (k : Int) := by omega
        have bk3 : (k : Int) < (l2.length : Int) := by omega
        have iw : IntKind.i64.wrap ((k : Int) + 1) = (k : Int) + 1 := IntWalk.i64_in _ (by omega);have HT1 := zh (take_snoc hlt);generalize l2.getD k [] = x at *;go_wp2
        go_loopg [16, 17] l1.length (fun r f i wr => ∃ j : Nat, j + r = l1.length ∧ f = .bool ((l1.take j).any fun b => b == x) ∧ i = .int .i64 (j : Int) ∧ Hid (∃ n, wr = w3.drewN n))
        case atStart => exact ⟨0, by omega, rfl, rfl, zh ⟨nn, rfl⟩⟩
        case round =>
         obtain ⟨j, hj, rfl, rfl, HY⟩ := hrel;obtain ⟨n2, rfl⟩ := HY.out
         by_cases hjl : j < l1.length
         ·obtain ⟨o1, oc1, ho1⟩ := own_lit HO3.out (by omega)
          cases ho1
          have z1 := txt_at HO3.out rfl hjl;have bj2 : (0 : Int) ≤ (j : Int) := by omega
          have bj3 : (j : Int) < (l1.length : Int) := by omega
          have iv : IntKind.i64.wrap ((j : Int) + 1) = (j : Int) + 1 := IntWalk.i64_in _ (by omega);have HT2 : Hid ((l1.take (j + 1)).any (fun b => b == x) = ((l1.take j).any (fun b => b == x) || ((str (l1.getD j [])).toList == (str x).toList))) := zh (by rw [take_snoc hjl, List.any_append, txt_eq]; simp);generalize l1.getD j [] = y at *;generalize (l1.take j).any (fun b => b == x) = B at *
          cases B with
          | true =>
           go_wp2_with fail
           go_quiet (fail)
           go_wp2
           go_roundg (l1.length - j - 1)
           case rel => exact ⟨j + 1, by omega, by rw [HT2.out]; rfl, by simp, zh ⟨n2 + nq, rfl⟩⟩
           case measure => omega
          | false =>
           generalize hC : ((str y).toList == (str x).toList) = C at *
           cases C with
           | true =>
            go_wp2_with fail
            go_quiet (fail)
            go_wp2
            go_roundg (l1.length - j - 1)
            case rel => exact ⟨j + 1, by omega, by rw [HT2.out]; rfl, by simp, zh ⟨n2 + nq, rfl⟩⟩
            case measure => omega
           | false =>
            go_wp2_with fail
            go_quiet (fail)
            go_wp2
            go_roundg (l1.length - j - 1)
            case rel => exact ⟨j + 1, by omega, by rw [HT2.out]; rfl, by simp, zh ⟨n2 + nq, rfl⟩⟩
            case measure => omega
         ·obtain rfl : j = l1.length := by omega
          have hji : ¬ (l1.length : Int) < (l1.length : Int) := by omega
          rw [List.take_length];generalize hB : l1.any (fun b => b == x) = B at *;have HBX := zh hB;clear hB
          cases B with
          | true =>
           go_wp2
           go_roundg (l2.length - k - 1)
           case rel => exact ⟨k + 1, by omega, by simp, zh ⟨n2, rfl⟩, zh (by rw [HT1.out, List.all_append, HA.out]; simp [HBX.out])⟩
           case measure => omega
          | false =>
           have HF4 : Hid (fitsF L fr ty = false) := zh (by
            rw [HR3.out];have h1 : l2 = l2.take (k + 1) ++ l2.drop (k + 1) := (List.take_append_drop _ _).symm;rw [h1, HT1.out, List.all_append, List.all_append];simp [HBX.out])
           go_wp2
           go_returns
           exact ⟨by rw [HF4.out]; rfl, below_drewN HB3.out _⟩
       ·obtain rfl : k = l2.length := by omega
        have hki : ¬ (l2.length : Int) < (l2.length : Int) := by omega
        have HF4 : Hid (fitsF L fr ty = true) := zh (by rw [HR3.out]; have := HA.out; rw [List.take_length] at this; exact this);go_wp2
        go_returns
        exact ⟨by rw [HF4.out]; rfl, below_drewN HB3.out _⟩
end
end Go.Proofs.YtjickecdkmljpaaGreatDoor
