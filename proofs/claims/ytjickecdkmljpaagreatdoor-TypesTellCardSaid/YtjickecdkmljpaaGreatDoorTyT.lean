/-
  PROVED HERE: the law TypesTell walked: it returns true, if both parsers tell what the plain reader tells. No condition beyond the lemmas' own premises.
-/
import Derived.Test.YtjickecdkmljpaaGreatDoorPsTk
import Derived.Test.YtjickecdkmljpaaGreatDoorTyQ
import Derived.Test.YtjickecdkmljpaaGreatDoorPsScan
namespace Go.Proofs.YtjickecdkmljpaaGreatDoor
open Go.RowKit

theorem textOne_is {L : List Ps.Nd} {k : Nat} {x : Ps.Nd} (h : L[k]? = some x) : textOne L k = if x.kind ≤ 6 ∨ x.kind = 8 then Ps.text L k else [] := by
 unfold textOne;rw [Ps.getD_of h]
 by_cases e : x.kind ≤ 6 ∨ x.kind = 8
 ·rw [if_pos e, if_pos (by omega)]
 ·rw [if_neg e, if_neg (by omega)]
theorem textsOf_at {L : List Ps.Nd} {k : Nat} (h : k < L.length) : (textsOf L).getD k [] = textOne L k := by
 unfold textsOf;simp [List.getD_eq_getElem?_getD, h]
theorem beg_cons {c : UInt8} {r : List UInt8} : begT (c :: r) [42] = (c == 42) := by
 unfold begT;simp
theorem tabs_up {w w' : World} (h : Tabs w.heap.size w) (hb : Below w.heap.size w w') : Tabs w'.heap.size w' := fun w2 h2 => h w2 (hb.trans (h2.mono hb.size))
set_option maxRecDepth 100000 in
set_option maxHeartbeats 4000000 in
theorem tells_walk (HPa : Hid (ParseC 8)) (HPr : Hid (ParseC 9)) (w : World) (S : ByteArray) (fr ty : List UInt8) (hT : Tabs w.heap.size w) (hm : S.size ≤ maxLen) (hfr : fr.length ≤ maxLen) (hty : ty.length ≤ maxLen) :
  Calls Tryz.prog 6 #[.string S, .string (str fr), .string (str ty)] w (LawDone w) := by
 have HT := zh hT;have HG := zh (nodesOf_good S);obtain ⟨c, hc⟩ : ∃ c, (codeOf S).1 = c := ⟨_, rfl⟩;obtain ⟨p, hp⟩ : ∃ p, (codeOf S).2 = p := ⟨_, rfl⟩;have HA : Hid (∀ w', Below w.heap.size w w' → Calls Tryz.prog 13 #[.string S] w' fun e w2 => (∃ u, e = .returned (.tuple #[u, .agg #[.int .i64 c, .int .i64 (p : Int)]]) ∧ TxtV w'.heap.size w2 u (textsU S)) ∧ Below w'.heap.size w' w2) := zh fun w' hb => by
  rw [← hc, ← hp];exact tytexts_any HPa w' S (tabs_up HT.out hb) hm
 have HM : Hid (∀ w', Below w.heap.size w w' → Calls Tryz.prog 14 #[.string S, .string (str fr)] w' fun e w2 => (∃ u, e = .returned (.tuple #[u, .agg #[.int .i64 c, .int .i64 (p : Int)]]) ∧ TxtV w'.heap.size w2 u (methU S fr)) ∧ Below w'.heap.size w' w2) := zh fun w' hb => by
  rw [← hc, ← hp];exact tymeth_any HPa w' S (tabs_up HT.out hb) hm hfr
 have HFi : Hid (∀ w', Below w.heap.size w w' → Calls Tryz.prog 15 #[.string S, .string (str fr), .string (str ty)] w' fun e w2 => e = .returned (.tuple #[.bool (fitsU S fr ty), .agg #[.int .i64 c, .int .i64 (p : Int)]]) ∧ Below w'.heap.size w' w2) := zh fun w' hb => by
  rw [← hc, ← hp];exact tyfits_any HPa w' S (tabs_up HT.out hb) hm hfr hty
 have HP : Hid (∀ w', Below w.heap.size w w' → Calls Tryz.prog 9 #[.string S] w' fun e w2 => Below w'.heap.size w' w2 ∧ ∃ v D, e = .returned (.tuple #[v, .agg #[.int .i64 c, .int .i64 (p : Int)]]) ∧ NodesV w'.heap.size w2 v D ∧ nodesOf S = D.map (·.1)) := zh fun w' hb => by
  rw [← hc, ← hp];exact HPr.out w.heap.size w' S (HT.out.below hb (Nat.le_refl _)) hb.size hm
 have HCT : Hid (textsU S = if c = 0 then textsOf (nodesOf S) else []) := zh (by rw [← hc]; rfl);have HCM : Hid (methU S fr = if c = 0 then pM (nodesOf S) fr else []) := zh (by rw [← hc]; rfl);have HCF : Hid (fitsU S fr ty = if c = 0 then fitsF (nodesOf S) fr ty else false) := zh (by rw [← hc]; rfl);clear hc hp hT
 go_enter Tryz.func6, Tryz.ntmps6
 go_wp2_with fail
 refine (HA.out _ (Below.refl _ _)).mono ?_;rintro e w1 ⟨⟨u1, rfl, hu1⟩, hb1⟩;have HB1 := zh (hb1.alloc hb1.size (.cells #[.int .i64 c, .int .i64 (p : Int)] 25));have HU1 : Hid (TxtV w.heap.size (w1.alloc (.cells #[.int .i64 c, .int .i64 (p : Int)] 25)) u1 (textsU S)) := zh (World.ownsRow.alloc hu1 _);have HF1 := zh (blk_new w1 (.cells #[.int .i64 c, .int .i64 (p : Int)] 25));obtain ⟨q1, hq1⟩ : ∃ q, w1.heap.size = q := ⟨_, rfl⟩;rw [hq1] at HF1;clear hb1 hu1;go_wp2_with fail
 clear hq1;generalize (w1.alloc (.cells #[.int .i64 c, .int .i64 (p : Int)] 25)) = w2 at *;refine (HM.out _ HB1.out).mono ?_;rintro e w3 ⟨⟨u2, rfl, hu2⟩, hb3⟩;have HB3 := zh ((HB1.out.trans (hb3.mono HB1.out.size)).alloc (Nat.le_trans HB1.out.size hb3.size) (.cells #[.int .i64 c, .int .i64 (p : Int)] 25));have HU2 : Hid (TxtV w.heap.size (w3.alloc (.cells #[.int .i64 c, .int .i64 (p : Int)] 25)) u2 (methU S fr)) := zh (World.ownsRow.alloc (owns_base hu2 HB1.out.size) _);have HU1b : Hid (TxtV w.heap.size (w3.alloc (.cells #[.int .i64 c, .int .i64 (p : Int)] 25)) u1 (textsU S)) := zh (World.ownsRow.alloc (own_below HU1.out hb3 fun k hk => (World.ownsRow.lt HU1.out k hk).2) _);have HF1b := zh (blk_alloc (blk_below HF1.out hb3 (blk_lt HF1.out)) (.cells #[.int .i64 c, .int .i64 (p : Int)] 25));have HF2 := zh (blk_new w3 (.cells #[.int .i64 c, .int .i64 (p : Int)] 25));obtain ⟨q2, hq2⟩ : ∃ q, w3.heap.size = q := ⟨_, rfl⟩
 rw [hq2] at HF2;clear hb3 hu2 HU1 HF1;go_wp2_with fail
 clear hq2;generalize (w3.alloc (.cells #[.int .i64 c, .int .i64 (p : Int)] 25)) = w4 at *;refine (HFi.out _ HB3.out).mono ?_;rintro e w5 ⟨rfl, hb5⟩;have HB5 := zh ((HB3.out.trans (hb5.mono HB3.out.size)).alloc (Nat.le_trans HB3.out.size hb5.size) (.cells #[.int .i64 c, .int .i64 (p : Int)] 25));have HU2b : Hid (TxtV w.heap.size (w5.alloc (.cells #[.int .i64 c, .int .i64 (p : Int)] 25)) u2 (methU S fr)) := zh (World.ownsRow.alloc (own_below HU2.out hb5 fun k hk => (World.ownsRow.lt HU2.out k hk).2) _);have HU1 : Hid (TxtV w.heap.size (w5.alloc (.cells #[.int .i64 c, .int .i64 (p : Int)] 25)) u1 (textsU S)) := zh (World.ownsRow.alloc (own_below HU1b.out hb5 fun k hk => (World.ownsRow.lt HU1b.out k hk).2) _);have HF1 := zh (blk_alloc (blk_below HF1b.out hb5 (blk_lt HF1b.out)) (.cells #[.int .i64 c, .int .i64 (p : Int)] 25));have HF2b := zh (blk_alloc (blk_below HF2.out hb5 (blk_lt HF2.out)) (.cells #[.int .i64 c, .int .i64 (p : Int)] 25))
 have HF3 := zh (blk_new w5 (.cells #[.int .i64 c, .int .i64 (p : Int)] 25));obtain ⟨q3, hq3⟩ : ∃ q, w5.heap.size = q := ⟨_, rfl⟩;rw [hq3] at HF3;clear hb5 HU1b HF1b HU2 HF2;generalize fitsU S fr ty = FU at *;go_wp2_with fail
 clear hq3;generalize (w5.alloc (.cells #[.int .i64 c, .int .i64 (p : Int)] 25)) = w6 at *;refine (HP.out _ HB5.out).mono ?_;rintro e w7 ⟨hb7, v, D, rfl, hD, hL⟩;have HL := zh hL;have HB7 := zh ((HB5.out.trans (hb7.mono HB5.out.size)).alloc (Nat.le_trans HB5.out.size hb7.size) (.cells #[.int .i64 c, .int .i64 (p : Int)] 25));have HU1b : Hid (TxtV w.heap.size (w7.alloc (.cells #[.int .i64 c, .int .i64 (p : Int)] 25)) u1 (textsU S)) := zh (World.ownsRow.alloc (own_below HU1.out hb7 fun k hk => (World.ownsRow.lt HU1.out k hk).2) _);have HU2 : Hid (TxtV w.heap.size (w7.alloc (.cells #[.int .i64 c, .int .i64 (p : Int)] 25)) u2 (methU S fr)) := zh (World.ownsRow.alloc (own_below HU2b.out hb7 fun k hk => (World.ownsRow.lt HU2b.out k hk).2) _);have HF1b := zh (blk_alloc (blk_below HF1.out hb7 (blk_lt HF1.out)) (.cells #[.int .i64 c, .int .i64 (p : Int)] 25));have HF2 := zh (blk_alloc (blk_below HF2b.out hb7 (blk_lt HF2b.out)) (.cells #[.int .i64 c, .int .i64 (p : Int)] 25))
 have HF3b := zh (blk_alloc (blk_below HF3.out hb7 (blk_lt HF3.out)) (.cells #[.int .i64 c, .int .i64 (p : Int)] 25));have HF4 := zh (blk_new w7 (.cells #[.int .i64 c, .int .i64 (p : Int)] 25));have HD : Hid (NodesV w6.heap.size (w7.alloc (.cells #[.int .i64 c, .int .i64 (p : Int)] 25)) v D) := zh (hD.further ((Below.refl _ _).alloc (Nat.le_refl _) _));have HLn : Hid ((nodesOf S).length = D.length) := zh (by rw [HL.out, List.length_map]);obtain ⟨q4, hq4⟩ : ∃ q, w7.heap.size = q := ⟨_, rfl⟩;rw [hq4] at HF4;clear hb7 HU1 HF1 HU2b HF2b HF3 hD hL;obtain ⟨va, vc, rfl⟩ := own_slice HD.out.row rfl;obtain ⟨a1, c1, rfl⟩ := own_slice HU1b.out rfl;obtain ⟨a2, c2, rfl⟩ := own_slice HU2.out rfl
 go_upto_region 5 with fail
 clear hq4;generalize (w7.alloc (.cells #[.int .i64 c, .int .i64 (p : Int)] 25)) = w8 at *;have r0 := blk_cell HF1b.out 0;have r1 := blk_cell HF1b.out 1;have s0 := blk_cell HF2.out 0;have s1 := blk_cell HF2.out 1;have t0 := blk_cell HF3b.out 0;have t1 := blk_cell HF3b.out 1;have z0 := blk_cell HF4.out 0;have z1 := blk_cell HF4.out 1;simp only [List.getElem?_toArray, List.getElem?_cons_zero, List.getElem?_cons_succ] at r0 r1 s0 s1 t0 t1 z0 z1
 by_cases hc : c = 0
 ·have hcb : (c != 0) = false := by simpa using hc
  have e1 : (textsU S).length = D.length := by rw [HCT.out, if_pos hc, textsOf_len, HLn.out]
  have HT1 : Hid (TxtV w.heap.size w8 (.slice a1 D.length c1) (textsOf (nodesOf S))) := zh (by
   have h := HU1b.out;rw [e1, HCT.out, if_pos hc] at h;exact h)
  have HT2 : Hid (TxtV w.heap.size w8 (.slice a2 (pM (nodesOf S) fr).length c2) (pM (nodesOf S) fr)) := zh (by
   have h := HU2.out;rw [HCM.out, if_pos hc] at h;exact h)
  have e2 : (methU S fr).length = (pM (nodesOf S) fr).length := by rw [HCM.out, if_pos hc]
  have HFU : Hid (FU = fitsF (nodesOf S) fr ty) := zh (HCF.out.trans (if_pos hc));have hDl : D.length ≤ 10000 := by have := HG.out.len; rw [HLn.out] at this; omega
  rw [e1, e2];clear hc e1 e2 HU1b HU2 HCT HCM HCF;go_wp2_with fail
  clear r0 r1 s0 s1 t0 t1 z0 z1 hcb
  go_loopg [15] D.length (fun r i wr => ∃ k : Nat, k + r = D.length ∧ i = .int .i64 (k : Int) ∧ Hid (Below w8.heap.size w8 wr))
  case atStart => exact ⟨0, by omega, rfl, zh (Below.refl _ _)⟩
  case round =>
   obtain ⟨k, hk, rfl, HBr⟩ := hrel;generalize wr = wo at *
   by_cases hkD : k < D.length
   ·have hki : (k : Int) < (D.length : Int) := by omega
    have hk0 : (0 : Int) ≤ (k : Int) := by omega
    have iw : IntKind.i64.wrap ((k : Int) + 1) = (k : Int) + 1 := IntWalk.i64_in _ (by omega);obtain ⟨⟨x, u⟩, hx⟩ : ∃ x, D[k]? = some x := ⟨_, List.getElem?_eq_getElem hkD⟩;have hLx : (nodesOf S)[k]? = some x := by rw [HL.out, List.getElem?_map, hx]; rfl
    have HND := zh (HD.out.further HBr.out);have HTR : Hid (TxtV w.heap.size wo (.slice a1 D.length c1) (textsOf (nodesOf S))) := zh (own_below HT1.out HBr.out fun k hk => (World.ownsRow.lt HT1.out k hk).2);obtain ⟨g1, cap1, hg1⟩ := own_lit HND.out.row (by omega)
    cases hg1
    obtain ⟨c0, _, _, _, _⟩ := nodes_at HND.out rfl hx;dsimp only at c0;obtain ⟨g2, cap2, hg2⟩ := own_lit HTR.out (by rw [textsOf_len, HLn.out]; omega);rw [textsOf_len, HLn.out] at hg2
    cases hg2
    have HCE : Hid (∀ w', Below wo.heap.size wo w' → w'.cell? ⟨g2, k, none⟩ = some (.string (str (textOne (nodesOf S) k)))) := zh fun w' hb => by
     rw [txt_at (own_below HTR.out hb fun k hk => (World.ownsRow.lt HTR.out k hk).2) rfl (show k < (textsOf (nodesOf S)).length by rw [textsOf_len, HLn.out]; exact hkD), textsOf_at (by rw [HLn.out]; exact hkD)]
    have HTX := zh (textOne_is hLx);clear hx hLx
    by_cases hyes : x.kind ≤ 6 ∨ x.kind = 8
    ·have HTO : Hid (textOne (nodesOf S) k = Ps.text (nodesOf S) k) := zh (HTX.out.trans (if_pos hyes));have hb : decide (x.kind ≤ 6) = true ∨ (decide (x.kind ≤ 6) = false ∧ (x.kind == 8) = true) := by
      by_cases h : x.kind ≤ 6
      ·exact .inl (by simpa using h)
      ·exact .inr ⟨by simpa using h, by simpa using hyes.resolve_left h⟩
     clear hyes;rcases hb with b6 | ⟨b6, b8⟩
     all_goals
      go_wp2_with fail
      refine (rtext_any (zh HG.out.wf) (zh HG.out.txt) HL k _ _ HND.out hkD).mono ?_;rintro e w9 ⟨rfl, hb9⟩;have hce := HCE.out _ hb9;rw [HTO.out] at hce;have HB9 := zh (HBr.out.trans (hb9.mono HBr.out.size));clear hb9 c0;go_wp2
      go_roundg (D.length - k - 1)
      case rel => exact ⟨k + 1, by omega, by simp, HB9⟩
      case measure => omega
    ·have hce := HCE.out _ (Below.refl _ _);rw [HTX.out, if_neg hyes] at hce
     replace hce : wo.cell? ⟨g2, k, none⟩ = some (.string ⟨#[]⟩) := hce;have b6 : decide (x.kind ≤ 6) = false := by simpa using fun h => hyes (.inl h)
     have b8 : (x.kind == 8) = false := by simpa using fun h => hyes (.inr h)
     clear hyes;go_wp2
     go_roundg (D.length - k - 1)
     case rel => exact ⟨k + 1, by omega, by simp, HBr⟩
     case measure => omega
   ·obtain rfl : k = D.length := by omega
    have hki : ¬ (D.length : Int) < (D.length : Int) := by omega
    go_wp2_with fail
    refine (rmethods_any (zh HG.out.wf) (zh HG.out.txt) HL (zh HG.out.nd) hDl (HD.out.further HBr.out) fr).mono ?_;rintro e w10 ⟨u3, rfl, ho3, hb10⟩;have HB10 := zh (HBr.out.trans (hb10.mono HBr.out.size));obtain ⟨a3, c3, rfl⟩ := own_slice ho3 rfl;have HO3 := zh ho3;have HND := zh (HD.out.further HB10.out);have HDC := zh (rdecl_any HL HND.out 12 fr);have HNO := zh HG.out.noname;clear hb10 ho3;have HPM : Hid (pM (nodesOf S) fr = if (decide (0 ≤ declN (nodesOf S) 12 fr) || begT fr [42]) = true then mF (methL (nodesOf S) fr) else []) := zh rfl
    go_upto_region 20 with fail
    go_cut [119] (fun t wx => t = .bool (!(decide (0 ≤ declN (nodesOf S) 12 fr) || begT fr [42])) ∧ wx = w10)
    case first =>
     cases fr with
     | nil =>
      have hd : decide (0 ≤ declN (nodesOf S) 12 []) = false := by rw [HNO.out]; rfl
      clear HDC HPM;go_wp2_with fail
      go_meet
      exact ⟨by rw [hd]; rfl, rfl⟩
     | cons b r =>
      have hs : (str (b :: r)).size = r.length + 1 := by rw [str_size]; rfl
      have z1 : (((str (b :: r)).size : Int) == 0) = false := by rw [hs]; simp; omega
      have z2 : ((str (b :: r)).size == 0) = false := by rw [hs]; simp
      have z3 : (0 : Nat) < (str (b :: r)).size := by rw [hs]; omega
      have z4 : (0 : Int) < ((str (b :: r)).size : Int) := by rw [hs]; omega
      have hl0 : ¬ (((r.length : Nat) : Int) + 1 = 0) := by omega
      clear hs;have HBC : Hid (begT (b :: r) [42] = (b == 42)) := zh beg_cons;have HDC2 := HDC;generalize declN (nodesOf S) 12 (b :: r) = J at *;clear HPM HNO HO3 HFU HDC;go_wp2_with fail
      ·have h : ((str (b :: r))[0].toNat : Int) = 42 := by assumption
       have hb : b = 42 := by
        have h2 : b.toNat = 42 := by have : (b.toNat : Int) = 42 := h; omega
        exact UInt8.toNat_inj.1 h2
       go_meet
       exact ⟨by rw [HBC.out, hb]; simp, rfl⟩
      ·have h : ¬ ((str (b :: r))[0].toNat : Int) = 42 := by assumption
       have hb : (b == 42) = false := by
        cases e : b == 42 with
        | false => rfl
        | true => exact absurd (by rw [eq_of_beq e]; rfl) (show ¬ (b.toNat : Int) = 42 from h)
       refine HDC2.out.mono ?_;rintro e w11 ⟨rfl, h11⟩;obtain rfl : w10 = w11 := h11.symm;go_wp2_with fail
       go_meet
       exact ⟨by
        have h5 : (((str (b :: r))[0].toNat : Int) != 42) = true := by simpa using h
        rw [HBC.out, hb];simp;rw [h5, Bool.true_and]
        by_cases h9 : J < 0
        ·have h8 : ¬ 0 ≤ J := by omega
         simp [h9, h8]
        ·have h8 : 0 ≤ J := by omega
         simp [h9, h8], rfl⟩
    case rest =>
     obtain ⟨rfl, hwc⟩ := hcut;obtain rfl : w10 = wc := hwc.symm;clear HDC HNO
     cases hB : (decide (0 ≤ declN (nodesOf S) 12 fr) || begT fr [42]) with
     | true =>
      have HOM : Hid (TxtV wo.heap.size w10 (.slice a3 (mF (methL (nodesOf S) fr)).length c3) (pM (nodesOf S) fr)) := zh (by rw [HPM.out, hB, if_pos rfl]; exact HO3.out);clear hB HPM HO3;go_wp2_with fail
      refine (rsames_any (own_below HT2.out HB10.out fun k hk => (World.ownsRow.lt HT2.out k hk).2) HOM.out).mono ?_;rintro e w11 ⟨rfl, n11, rfl⟩;go_wp2_with fail
      refine (rfits_any (zh HG.out.wf) (zh HG.out.txt) HL (zh HG.out.nd) hDl (HND.out.further (below_drewN (Below.refl _ _) n11)) fr ty).mono ?_;rintro e w12 ⟨rfl, hb12⟩;have HBE := zh (HB7.out.trans ((HB10.out.trans (((below_drewN (Below.refl w10.heap.size w10) n11).trans (hb12.mono (by simp))).mono HB10.out.size)).mono HB7.out.size));have hfu := HFU.out;clear hb12;subst hfu;go_wp2
      go_returns
      exact ⟨rfl, HBE.out⟩
     | false =>
      have HOM : Hid (TxtV wo.heap.size w10 (.slice none 0 0) (pM (nodesOf S) fr)) := zh (by rw [HPM.out, hB, if_neg (by decide)]; exact World.ownsRow_nil _ _ _ _);clear hB HPM HO3;go_wp2_with fail
      refine (rsames_any (own_below HT2.out HB10.out fun k hk => (World.ownsRow.lt HT2.out k hk).2) HOM.out).mono ?_;rintro e w11 ⟨rfl, n11, rfl⟩;go_wp2_with fail
      refine (rfits_any (zh HG.out.wf) (zh HG.out.txt) HL (zh HG.out.nd) hDl (HND.out.further (below_drewN (Below.refl _ _) n11)) fr ty).mono ?_;rintro e w12 ⟨rfl, hb12⟩;have HBE := zh (HB7.out.trans ((HB10.out.trans (((below_drewN (Below.refl w10.heap.size w10) n11).trans (hb12.mono (by simp))).mono HB10.out.size)).mono HB7.out.size));have hfu := HFU.out;clear hb12;subst hfu;go_wp2
      go_returns
      exact ⟨rfl, HBE.out⟩
 ·have hcb : (c != 0) = true := by simpa using hc
  have e1 : (textsU S).length = 0 := by rw [HCT.out, if_neg hc]; rfl
  have e2 : (methU S fr).length = 0 := by rw [HCM.out, if_neg hc]; rfl
  have e3 : FU = false := HCF.out.trans (if_neg hc);subst e3;rw [e1, e2];clear hc e1 e2 HU1b HU2;go_wp2
  go_returns
  exact ⟨rfl, HB7.out⟩
end Go.Proofs.YtjickecdkmljpaaGreatDoor
