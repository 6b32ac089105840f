/-
  PROVED HERE: the reference's parser: the cases of a select. No condition beyond the lemmas' own premises. (Printed by psr2.py.)
-/
import Derived.Test.YtjickecdkmljpaaGreatDoorRsSx
namespace Go.Proofs.YtjickecdkmljpaaGreatDoor.R
open Go.RowKit

section
variable {N p : Nat} {w : World} {X : Ps.Src} {S : ByteArray} {s : Rs.St} {tv nv : Value} {D : List (Ps.Nd × Value)}
/-- Is the body of a case over? -/
def boT (X : Ps.Src) (s : Rs.St) : Bool := Rs.endsC X s || Rs.isWrong s
theorem boT_rb {X : Ps.Src} {s : Rs.St} (h : Rs.isK X s Ps.k_rb = true) : boT X s = true := by unfold boT Rs.endsC; rw [h, Bool.or_true, Bool.true_or]
set_option maxRecDepth 100000 in
set_option maxHeartbeats 16000000 in
theorem rpchoice_any (n : Nat) (hn : n ≤ 1000000) (HX : Hid (∀ m, m < n → Cn X S 205 (Rs.run X m (.expr 0)) [.int .i64 0])) (HST : Hid (∀ m, m < n → Cn X S 161 (Rs.run X m .stmt))) (at_ : Nat) (h : PSt N p w X S s tv nv D) (hne : Rs.choice X (Rs.run X n) at_ s ≠ .out) : Calls Tryz.prog 208 #[.pointer (some ⟨p, 0, none⟩), .int .i64 (at_ : Int)] w (Out N p X S w tv nv D oneV (Rs.choice X (Rs.run X n) at_ s)) := by
 skip
 have HG := x0 h hne (by unfold Rs.choice;exact rfl);clear h hne
 go_enter Tryz.func208, Tryz.ntmps208
 go_wp2_with fail
 replace HG := bn #[.int .i64 26, .int .i64 (at_ : Int), .int .i64 0, .string ⟨#[]⟩, .slice none 0 0] 41 HG;obtain ⟨w1,q1,e1,e2,l1,HG⟩ := HG;rw [e1,e2];clear e1 e2
 revert HG;refine enter_ Ps.k_lb fun w2 s2 HG => ?_
 replace HG := lpI (t := itT X) (lp := (fun m a s => Rs.run X m (.cases a) s)) (g := (itF X fun l s3 => Rs.put ⟨26, at_, 0, [], l⟩ s3)) (fun _ _ => rfl) (fun m a s h => if_pos h) HG
 go_wp2_with fail
 revert HG;refine isV Ps.k_rb fun y3 w3 HB3 HG => ?_
 go_wp2_with fail
 go_loopg [6] n (fun m e wr => ∃ (acc : List Nat) (sk : Rs.St) (ua : Option Addr) (uc : Nat), e = .bool (Rs.isK X sk Ps.k_rb) ∧ acc.length + m = n ∧ Hid (Sx N p X S w tv nv D (Rs.choice X (Rs.run X n) at_ s) wr sk [.kd (.slice ua acc.length uc) acc, .bx q1 #[.int .i64 26, .int .i64 (at_ : Int), .int .i64 0, .string ⟨#[]⟩, .slice ua acc.length uc] 41] ((Lp (itT X) (fun m a s => Rs.run X m (.cases a) s) m acc sk).bind (itF X fun l s3 => Rs.put ⟨26, at_, 0, [], l⟩ s3))))
 case atStart => exact ⟨[], _, none, 0, by rw [HB3.out], by simp, k0 HG⟩
 case round =>
  clear HG;obtain ⟨acc, sk, ua, uc, rfl, hacc, HG⟩ := hrel;generalize wr = wo at *;have hlen : ∀ a, (acc ++ [a]).length = acc.length + 1 := fun a => by simp
  obtain ⟨b1,b2,b3,b4,b5,b6⟩ := pc HG;cases hb : Rs.isK X sk Ps.k_rb <;> cases hw : Rs.isWrong sk
  rotate_left
  all_goals try
   replace HG := lpO (show itT X sk = true by simp [itT, hb, hw]) HG;rw [hw] at b4;clear hb hw
   go_wp2_with fail
   clear b1 b2 b3 b4 b5 b6
   revert HG;refine leave_ Ps.k_rb fun w4 s4 HG => ?_
   have c := ce1 HG
   go_wp2_with fail
   revert HG;refine pu fun b5 w5 s5 HG => ?_
   exact en
  replace HG := lpG (show itT X sk = false by simp [itT, hb, hw]) HG;obtain ⟨m, rfl⟩ := lpN (lp := (fun m a s => Rs.run X m (.cases a) s)) (fun _ _ => rfl) HG;have hmn : m < n := (by omega);replace HG := re (bind_assoc _ _ _) (lpS (lp := (fun m a s => Rs.run X m (.cases a) s)) (c := Rs.isK X sk Ps.k_rb || Rs.isWrong sk) rfl (by simp [hb, hw]) HG);rw [hw] at b4;clear hb hw
  go_wp2_with fail
  clear b1 b2 b3 b4 b5 b6
  obtain ⟨nk1, D1, HI, HC1⟩ := ph HG;replace HG := re (by unfold Rs.caseF;exact rfl) HI;clear HI
  revert HG;refine now_ fun w6 HG => ?_;generalize Rs.now X sk = t at HG ⊢
  replace HG := tbR t #[.int .i64 29, .int .i64 (t.pos : Int), .int .i64 0, .string ⟨#[]⟩, .slice none 0 0] 41 HG
  go_wp2_with fail
  replace HG := gn HG;obtain ⟨w7,e,HG⟩ := HG;rw [e];clear e
  replace HG := po (sw HG)
  revert HG;refine tookV Ps.k_dflt fun yd w8 HD HG => ?_
  go_upto_if 45 with fail
  go_cut [10, 11, 12, 13, 14, 15, 16] from 28 to 163 (fun _ _ _ _ _ _ _ wx => ∃ (kind : Int) (text : List UInt8) (ck : List Nat) (sc : Rs.St) (uk : Option Addr) (ukc : Nat), ck.length ≤ 1000 ∧ Hid (Sx N p X S wo tv nk1 D1 (Rs.caseF X (Rs.run X m) sk) wx sc [.kd (.slice uk ck.length ukc) ck, .bx (w6.heap.size + 1) #[.int .i64 kind, .int .i64 (t.pos : Int), .int .i64 0, .string (str text), .slice uk ck.length ukc] 41] ((Rs.bodyF X (Rs.run X m) sc).bind fun b s4 => Rs.put ⟨kind, t.pos, 0, text, ck ++ b⟩ s4)))
  case first =>
   cases yd with
   | true =>
    replace HG := k0 (c_1 (re (if_pos HD.out) HG))
    go_wp2
    go_meet
    case rel => exact ⟨29, [], [], _, _, _, by simp, HG⟩
   | false =>
    replace HG := c_0 (re (if_neg (by rw [HD.out]; decide)) HG)
    go_wp2_with fail
    revert HG;refine take_ Ps.k_case_ fun w9 s9 HG => ?_
    go_wp2_with fail
    revert HG;refine now_ fun w10 HG => ?_;generalize hn : Rs.now X s9 = t2 at HG ⊢
    have HNt2 := zh hn;clear hn
    go_wp2_with fail
    replace HG := bt t2 HG;obtain ⟨w11,q11,e1,e2,l11,HG⟩ := HG;rw [e1,e2];clear e1 e2
    revert HG;refine nextV Ps.k_def_ fun y12 w12 HB12 HG => ?_
    go_wp2_with fail
    revert HG;refine isV Ps.k_arr fun y13 w13 HB13 HG => ?_
    rcases nn HNt2 HB12 HG with ⟨k1,rfl,hlt2,HG⟩ | ⟨hk,HG⟩
    ·have cn := ce0 HG
     obtain ⟨b1,b2,b3,b4,b5,b6⟩ := pc HG;have f9 := iw2 hlt2 HG;replace HG := ia2 hlt2 HG
     have c0 := ce0 HG
     go_wp2_with fail
     replace HG := gn HG;obtain ⟨w14,e,HG⟩ := HG;rw [e];clear e
     clear b1 b2 b3 b4 b5 b6 f9 c0
     clear cn
     revert HG;refine take_ Ps.k_arr fun w15 s15 HG => ?_
     have cn := ce0 HG
     have d0 := ce1 HG
     replace HG := so1 0 (.int .i64 27) HG
     replace HG := so1 3 (.string (str t2.text)) HG
     go_wp2_with fail
     replace HG := gn HG;obtain ⟨w16,e,HG⟩ := HG;rw [e];clear e
     clear d0
     clear cn
     revert HG;refine c1 (HX.out m hmn) fun a17 w17 s17 HG => ?_
     replace HG := k0 (po HG)
     have c := ce1 HG
     go_wp2_with (at_builtin; revert HG;refine apL a17 (show ([] : List Nat).length ≤ 1000000 by simp) fun g18 g18c w18 HG => ?_;clear c;have c := ce1 HG)
     replace HG := so1 4 (.slice (some ⟨g18, 0, none⟩) 1 g18c) HG
     clear c
     go_wp2
     go_meet
     case rel => exact ⟨27, t2.text, [a17], _, _, _, by simp, HG⟩
    have cn := ce0 HG
    cases k1 : (t2.kind == 1) with
    | false =>
     cases y13
     ·replace HG := re (if_neg (by rw [HB13.out]; decide)) HG
      have d0 := ce1 HG
      replace HG := so1 0 (.int .i64 28) HG
      go_wp2_with fail
      replace HG := gn HG;obtain ⟨w19,e,HG⟩ := HG;rw [e];clear e
      clear d0
      clear cn
      revert HG;refine c1 (HX.out m hmn) fun a20 w20 s20 HG => ?_
      go_wp2_with fail
      revert HG;refine take_ Ps.k_arr fun w21 s21 HG => ?_
      go_wp2_with fail
      revert HG;refine c1 (HX.out m hmn) fun a22 w22 s22 HG => ?_
      replace HG := k0 (po HG)
      have c := ce1 HG
      go_wp2_with (at_builtin; revert HG;refine apL2 a20 a22 (show ([] : List Nat).length ≤ 1000000 by simp) fun g23 g23c w23 HG => ?_;clear c;have c := ce1 HG)
      replace HG := so1 4 (.slice (some ⟨g23, 0, none⟩) 2 g23c) HG
      clear c
      go_wp2
      go_meet
      case rel => exact ⟨28, [], [a20, a22], _, _, _, by simp, HG⟩
     replace HG := re (if_pos HB13.out) HG;have hlt := isK_lt HB13.out
     obtain ⟨b1,b2,b3,b4,b5,b6⟩ := pc HG;have f9 := iw1 hlt HG;have hbp := bp1 HG;replace HG := ia hlt HG
     have d0 := ce1 HG
     replace HG := so1 0 (.int .i64 27) HG
     go_wp2_with fail
     replace HG := gn HG;obtain ⟨w24,e,HG⟩ := HG;rw [e];clear e
     clear b1 b2 b3 b4 b5 b6 f9 hbp d0 cn
     revert HG;refine c1 (HX.out m hmn) fun a25 w25 s25 HG => ?_
     replace HG := k0 (po HG)
     have c := ce1 HG
     go_wp2_with (at_builtin; revert HG;refine apL a25 (show ([] : List Nat).length ≤ 1000000 by simp) fun g26 g26c w26 HG => ?_;clear c;have c := ce1 HG)
     replace HG := so1 4 (.slice (some ⟨g26, 0, none⟩) 1 g26c) HG
     clear c
     go_wp2
     go_meet
     case rel => exact ⟨27, [], [a25], _, _, _, by simp, HG⟩
    | true =>
     obtain rfl : y12 = false := by rcases hk with h | h; exact absurd (k1.symm.trans h) (by decide); exact h
     cases y13
     ·replace HG := re (if_neg (by rw [HB13.out]; decide)) HG
      have d0 := ce1 HG
      replace HG := so1 0 (.int .i64 28) HG
      go_wp2_with fail
      replace HG := gn HG;obtain ⟨w27,e,HG⟩ := HG;rw [e];clear e
      clear d0
      clear cn
      revert HG;refine c1 (HX.out m hmn) fun a28 w28 s28 HG => ?_
      go_wp2_with fail
      revert HG;refine take_ Ps.k_arr fun w29 s29 HG => ?_
      go_wp2_with fail
      revert HG;refine c1 (HX.out m hmn) fun a30 w30 s30 HG => ?_
      replace HG := k0 (po HG)
      have c := ce1 HG
      go_wp2_with (at_builtin; revert HG;refine apL2 a28 a30 (show ([] : List Nat).length ≤ 1000000 by simp) fun g31 g31c w31 HG => ?_;clear c;have c := ce1 HG)
      replace HG := so1 4 (.slice (some ⟨g31, 0, none⟩) 2 g31c) HG
      clear c
      go_wp2
      go_meet
      case rel => exact ⟨28, [], [a28, a30], _, _, _, by simp, HG⟩
     replace HG := re (if_pos HB13.out) HG;have hlt := isK_lt HB13.out
     obtain ⟨b1,b2,b3,b4,b5,b6⟩ := pc HG;have f9 := iw1 hlt HG;have hbp := bp1 HG;replace HG := ia hlt HG
     have d0 := ce1 HG
     replace HG := so1 0 (.int .i64 27) HG
     go_wp2_with fail
     replace HG := gn HG;obtain ⟨w32,e,HG⟩ := HG;rw [e];clear e
     clear b1 b2 b3 b4 b5 b6 f9 hbp d0 cn
     revert HG;refine c1 (HX.out m hmn) fun a33 w33 s33 HG => ?_
     replace HG := k0 (po HG)
     have c := ce1 HG
     go_wp2_with (at_builtin; revert HG;refine apL a33 (show ([] : List Nat).length ≤ 1000000 by simp) fun g34 g34c w34 HG => ?_;clear c;have c := ce1 HG)
     replace HG := so1 4 (.slice (some ⟨g34, 0, none⟩) 1 g34c) HG
     clear c
     go_wp2
     go_meet
     case rel => exact ⟨27, [], [a33], _, _, _, by simp, HG⟩
  case rest =>
   clear HG HD;obtain ⟨kind, text, ck, sc, uk, ukc, hck, HG⟩ := hcut
   obtain ⟨nk2, D2, HI, HC2⟩ := ph HG;replace HG := re (by unfold Rs.bodyF;exact rfl) HI;clear HI
   go_wp2_with fail
   replace HG := bn #[.int .i64 16, .int .i64 0, .int .i64 0, .string ⟨#[]⟩, .slice none 0 0] 41 HG;obtain ⟨w35,q35,e1,e2,l35,HG⟩ := HG;rw [e1,e2];clear e1 e2
   revert HG;refine take_ Ps.k_col fun w36 s36 HG => ?_
   generalize Rs.now X sc = t3 at HG ⊢
   have d0 := ce0 HG
   replace HG := so0 1 (.int .i64 (t3.pos : Int)) HG
   go_wp2_with fail
   replace HG := gn HG;obtain ⟨w37,e,HG⟩ := HG;rw [e];clear e
   clear d0
   replace HG := lpI (t := boT X) (lp := (fun m a s => Rs.run X m (.body a) s)) (g := (fun l s2 => Rs.put ⟨16, t3.pos, 0, [], l⟩ s2)) (fun _ _ => rfl) (fun m a s h => if_pos h) HG
   revert HG;refine endsV fun y38 w38 HB38 HG => ?_
   go_wp2_with fail
   go_loopg [18] m (fun j e wq => ∃ (acc2 : List Nat) (sq : Rs.St) (ub : Option Addr) (cb : Nat), e = .bool (Rs.endsC X sq) ∧ acc2.length + j = m ∧ Hid (Sx N p X S wc tv nk2 D2 (Rs.bodyF X (Rs.run X m) sc) wq sq [.kd (.slice ub acc2.length cb) acc2, .bx q35 #[.int .i64 16, .int .i64 (t3.pos : Int), .int .i64 0, .string ⟨#[]⟩, .slice ub acc2.length cb] 41] ((Lp (boT X) (fun m a s => Rs.run X m (.body a) s) j acc2 sq).bind (fun l s2 => Rs.put ⟨16, t3.pos, 0, [], l⟩ s2))))
   case atStart => exact ⟨[], _, none, 0, by rw [HB38.out], by simp, k0 HG⟩
   case round =>
    clear HG;obtain ⟨acc2, sq, ub, cb, rfl, hacc2, HG⟩ := hrel;generalize wr = wq at *;have hlen2 : ∀ a, (acc2 ++ [a]).length = acc2.length + 1 := fun a => by simp
    obtain ⟨b1,b2,b3,b4,b5,b6⟩ := pc HG;cases hb : Rs.endsC X sq <;> cases hw : Rs.isWrong sq
    rotate_left
    all_goals try
     replace HG := lpO (show boT X sq = true by simp [boT, hb, hw]) HG;rw [hw] at b4;clear hb hw
     have c := ce1 HG
     go_wp2_with fail
     clear c b1 b2 b3 b4 b5 b6
     revert HG;refine pu fun b39 w39 s39 HG => ?_
     replace HG := HC2 _ _ _ _ HG;clear HC2
     have c := ce1 HG
     go_wp2_with (at_builtin; revert HG;refine apL b39 (show ck.length ≤ 1000000 by omega) fun g40 g40c w40 HG => ?_;clear c;have c := ce1 HG)
     replace HG := so1 4 (.slice (some ⟨g40, 0, none⟩) (ck.length + 1) g40c) HG
     replace HG := gn HG;obtain ⟨w41,e,HG⟩ := HG;rw [e];clear e
     clear c
     revert HG;refine pu fun b42 w42 s42 HG => ?_
     replace HG := HC1 _ _ _ _ HG;clear HC1
     have c := ce1 HG
     go_wp2_with (at_builtin; revert HG;refine apL b42 (show acc.length ≤ 1000000 by omega) fun g43 g43c w43 HG => ?_;clear c;have c := ce1 HG)
     replace HG := so1 4 (.slice (some ⟨g43, 0, none⟩) (acc.length + 1) g43c) HG
     replace HG := gn HG;obtain ⟨w44,e,HG⟩ := HG;rw [e];clear e
     clear c
     replace HG := lpI (t := itT X) (lp := (fun m a s => Rs.run X m (.cases a) s)) (g := (itF X fun l s3 => Rs.put ⟨26, at_, 0, [], l⟩ s3)) (fun _ _ => rfl) (fun m a s h => if_pos h) HG
     revert HG;refine isV Ps.k_rb fun y45 w45 HB45 HG => ?_
     go_wp2
     go_roundg m
     case rel => exact ⟨acc ++ [b42], _, _, _, by rw [HB45.out], by rw [hlen]; omega, by rw [hlen]; exact HG⟩
     case measure => omega
    replace HG := lpG (show boT X sq = false by simp [boT, hb, hw]) HG;obtain ⟨j, rfl⟩ := lpN (lp := (fun m a s => Rs.run X m (.body a) s)) (fun _ _ => rfl) HG;have hjn : j < n := (by omega);replace HG := re (bind_assoc _ _ _) (lpS (lp := (fun m a s => Rs.run X m (.body a) s)) (c := Rs.endsC X sq || Rs.isWrong sq) rfl (by simp [hb, hw]) HG);rw [hw] at b4;clear hb hw
    go_wp2_with fail
    clear b1 b2 b3 b4 b5 b6
    revert HG;refine c1 (HST.out j hjn) fun a46 w46 s46 HG => ?_
    have c := ce1 HG
    go_wp2_with (at_builtin; revert HG;refine apL a46 (show acc2.length ≤ 1000000 by omega) fun g47 g47c w47 HG => ?_;clear c;have c := ce1 HG)
    replace HG := so1 4 (.slice (some ⟨g47, 0, none⟩) (acc2.length + 1) g47c) HG
    replace HG := gn HG;obtain ⟨w48,e,HG⟩ := HG;rw [e];clear e
    clear c
    replace HG := re (bind_ite _ _ _) HG
    revert HG;refine is_ Ps.k_rb (fun w49 KB HG => ?_) fun w50 KB HG => ?_
    ·replace HG := lpE (t := boT X) (lp := (fun m a s => Rs.run X m (.body a) s)) (m := j) (g := (fun l s2 => Rs.put ⟨16, t3.pos, 0, [], l⟩ s2)) (acc := acc2 ++ [a46]) (boT_rb KB.out) HG
     go_wp2_with fail
     revert HG;refine endsV fun y51 w51 HB51 HG => ?_
     go_wp2
     go_roundg j
     case rel => exact ⟨acc2 ++ [a46], _, _, _, by rw [HB51.out], by rw [hlen2]; omega, by rw [hlen2]; exact HG⟩
     case measure => omega
    replace HG := re (bind_assoc _ _ _) HG
    go_wp2_with fail
    revert HG;refine take_ Ps.k_semi fun w52 s52 HG => ?_
    replace HG := lpI (t := boT X) (lp := (fun m a s => Rs.run X m (.body a) s)) (g := (fun l s2 => Rs.put ⟨16, t3.pos, 0, [], l⟩ s2)) (fun _ _ => rfl) (fun m a s h => if_pos h) HG
    go_wp2_with fail
    revert HG;refine endsV fun y53 w53 HB53 HG => ?_
    go_wp2
    go_roundg j
    case rel => exact ⟨acc2 ++ [a46], _, _, _, by rw [HB53.out], by rw [hlen2]; omega, by rw [hlen2]; exact HG⟩
    case measure => omega
end
end Go.Proofs.YtjickecdkmljpaaGreatDoor.R
