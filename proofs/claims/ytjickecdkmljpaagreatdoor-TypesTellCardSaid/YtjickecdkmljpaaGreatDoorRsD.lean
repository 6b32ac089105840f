/-
  PROVED HERE: the reference's parser: blocks, branches, statements. the reference's parser: what stands ahead of an expression and behind it. the reference's parser: levels of signs, expressions. No condition beyond the lemmas' own premises.
-/
import Derived.Test.YtjickecdkmljpaaGreatDoorRsSx
import Derived.Test.YtjickecdkmljpaaGreatDoorRsC
namespace Go.Proofs.YtjickecdkmljpaaGreatDoor.R
open Go.RowKit

section
variable {N p : Nat} {w : World} {X : Ps.Src} {S : ByteArray} {s : Rs.St} {tv nv : Value} {D : List (Ps.Nd × Value)}
set_option maxRecDepth 100000 in
set_option maxHeartbeats 8000000 in
theorem rpblock_any (n : Nat) (hn : n ≤ 1000000) (HST : Hid (∀ m, m < n → Cn X S 161 (Rs.run X m .stmt))) : POk X S 110 oneV (Rs.blockF X (Rs.run X n)) := by
 intro N p w s tv nv D h hne
 have HG := x0 h hne (by unfold Rs.blockF;exact rfl);clear h hne
 go_enter Tryz.func110, Tryz.ntmps110
 go_wp2_with fail
 revert HG;refine now_ fun w1 HG => ?_;generalize Rs.now X s = t at HG ⊢
 replace HG := tbR t #[.int .i64 16, .int .i64 (t.pos : Int), .int .i64 0, .string ⟨#[]⟩, .slice none 0 0] 41 HG
 go_wp2_with fail
 replace HG := gn HG;obtain ⟨w2,e,HG⟩ := HG;rw [e];clear e
 replace HG := itB (po (sw HG))
 revert HG;refine enter_ Ps.k_lb fun w3 s3 HG => ?_
 replace HG := lpI (t := itT X) (lp := (fun m a s => Rs.run X m (.stmts a) s)) (fun _ _ => rfl) (fun m a s h => if_pos h) HG
 go_wp2_with fail
 revert HG;refine isV Ps.k_rb fun y4 w4 HB4 HG => ?_
 go_wp2_with fail
 go_loopg [5] n (fun m e wr => ∃ (acc : List Nat) (sk : Rs.St) (ua : Option Addr) (uc : Nat), e = .bool (Rs.isK X sk Ps.k_rb) ∧ acc.length + m = n ∧ Hid (Sx N p X S w tv nv D (Rs.blockF X (Rs.run X n) s) wr sk [.kd (.slice ua acc.length uc) acc, .bx (w1.heap.size + 1) #[.int .i64 16, .int .i64 (t.pos : Int), .int .i64 0, .string ⟨#[]⟩, .slice ua acc.length uc] 41] ((Lp (itT X) (fun m a s => Rs.run X m (.stmts a) s) m acc sk).bind (itF X (fun l s1 => Rs.put ⟨16, t.pos, 0, [], l⟩ s1)))))
 case atStart => exact ⟨[], _, none, 0, by rw [HB4.out], by simp, k0 HG⟩
 case round =>
  clear HG;obtain ⟨acc, sk, ua, uc, rfl, hacc, HG⟩ := hrel;have hlen : ∀ a, (acc ++ [a]).length = acc.length + 1 := fun a => by simp
  obtain ⟨b1,b2,b3,b4,b5,b6⟩ := pc HG;cases hb : Rs.isK X sk Ps.k_rb <;> cases hw : Rs.isWrong sk
  rotate_left
  all_goals try
   replace HG := lpO (show itT X sk = true by simp [itT, hb, hw]) HG;rw [hw] at b4;clear hb hw
   go_wp2_with fail
   clear b1 b2 b3 b4 b5 b6
   revert HG;refine leave_ Ps.k_rb fun w5 s5 HG => ?_
   have c := ce1 HG
   go_wp2_with fail
   revert HG;refine pu fun b6 w6 s6 HG => ?_
   exact en
  have hi := itG (one := fun m => Rs.run X m .stmt) (fun _ _ => rfl) (fun _ _ _ => rfl) (show itT X sk = false by simp [itT, hb, hw]) HG;clear HG;obtain ⟨m, rfl, HG⟩ := hi;have hmn : m < n := (by omega);rw [hw] at b4;clear hb hw
  go_wp2_with fail
  clear b1 b2 b3 b4 b5 b6
  revert HG;refine c1 (HST.out m hmn) fun a7 w7 s7 HG => ?_
  have c := ce1 HG
  go_wp2_with (at_builtin; revert HG;refine apL a7 (show acc.length ≤ 1000000 by omega) fun g8 g8c w8 HG => ?_;clear c;have c := ce1 HG)
  replace HG := so1 4 (.slice (some ⟨g8, 0, none⟩) (acc.length + 1) g8c) HG
  replace HG := gn HG;obtain ⟨w9,e,HG⟩ := HG;rw [e];clear e
  clear c
  revert HG;refine is_ Ps.k_rb (fun w10 KB HG => ?_) fun w11 KB HG => ?_
  ·replace HG := lpE (t := itT X) (lp := (fun m a s => Rs.run X m (.stmts a) s)) (m := m) (g := itF X (fun l s1 => Rs.put ⟨16, t.pos, 0, [], l⟩ s1)) (acc := acc ++ [a7]) (by simp [itT, KB.out]) HG
   go_wp2
   go_roundg m
   case rel => exact ⟨acc ++ [a7], _, _, _, by rw [KB.out], by rw [hlen]; omega, by rw [hlen]; exact HG⟩
   case measure => omega
  go_wp2_with fail
  revert HG;refine take_ Ps.k_semi fun w12 s12 HG => ?_
  replace HG := lpI (t := itT X) (lp := (fun m a s => Rs.run X m (.stmts a) s)) (fun _ _ => rfl) (fun m a s h => if_pos h) HG
  go_wp2_with fail
  revert HG;refine isV Ps.k_rb fun y13 w13 HB13 HG => ?_
  go_wp2
  go_roundg m
  case rel => exact ⟨acc ++ [a7], _, _, _, by rw [HB13.out], by rw [hlen]; omega, by rw [hlen]; exact HG⟩
  case measure => omega
set_option maxRecDepth 100000 in
set_option maxHeartbeats 2000000 in
theorem rpbranch_any (rec : Rs.Rec) (HE : Hid (Cn X S 205 (rec (.expr 0)) [.int .i64 0])) (HB : Hid (Cn X S 110 (rec .block))) (HBR : Hid (Cn X S 207 (rec .branch))) : POk X S 207 oneV (Rs.branchF X rec) := by
 intro N p w s tv nv D h hne
 have HG := x0 h hne (by unfold Rs.branchF;exact rfl);clear h hne
 go_enter Tryz.func207, Tryz.ntmps207
 go_wp2_with fail
 revert HG;refine take_ Ps.k_if_ fun w1 s1 HG => ?_
 generalize Rs.now X s = t at HG ⊢
 go_wp2_with fail
 revert HG;refine c1 HE.out fun a2 w2 s2 HG => ?_
 go_wp2_with fail
 revert HG;refine c1 HB.out fun a3 w3 s3 HG => ?_
 go_wp2_with fail
 replace HG := ro2 a2 a3 HG;obtain ⟨w4,q4,e1,e2,l4,HG⟩ := HG;rw [e1,e2];clear e1 e2
 revert HG;refine is_ Ps.k_else_ (fun w5 KB HG => ?_) fun w6 KB HG => ?_
 ·go_wp2_with fail
  revert HG;refine nextV Ps.k_if_ fun y7 w7 HB7 HG => ?_
  cases y7
  ·replace HG := re (if_neg (by rw [HB7.out]; decide)) HG
   go_wp2_with fail
   revert HG;refine take_ Ps.k_else_ fun w8 s8 HG => ?_
   go_wp2_with fail
   revert HG;refine c1 HB.out fun a9 w9 s9 HG => ?_
   go_wp2_with (at_builtin; revert HG;refine apL a9 (show [a2, a3].length ≤ 1000000 by simp) fun g10 g10c w10 HG => ?_)
   revert HG;refine wi fun b11 w11 s11 HG => ?_
   exact en
  replace HG := re (if_pos HB7.out) HG
  go_wp2_with fail
  revert HG;refine enter_ Ps.k_else_ fun w12 s12 HG => ?_
  go_wp2_with fail
  revert HG;refine c1 HBR.out fun a13 w13 s13 HG => ?_
  obtain ⟨d15,hd⟩ : ∃ d, IntKind.i64.wrap (s13.p.deep - 1) = d := ⟨_, rfl⟩
  obtain ⟨b1,b2,b3,b4,b5,b6⟩ := pc HG;replace HG := gz (dd hd HG);obtain ⟨w14,e,ez,HG⟩ := HG
  go_wp2_with (at_builtin; (try rw [e]);(try rw [ez]);revert HG;refine apL a13 (show [a2, a3].length ≤ 1000000 by simp) fun g14 g14c w14b HG => ?_;clear hd b1 b2 b3 b4 b5 b6 e ez)
  revert HG;refine wi fun b16 w16 s16 HG => ?_
  exact en
 go_wp2_with fail
 revert HG;refine nextV Ps.k_if_ fun y17 w17 HB17 HG => ?_
 go_wp2_with fail
 revert HG;refine wi fun b18 w18 s18 HG => ?_
 exact en
set_option maxRecDepth 100000 in
set_option maxHeartbeats 8000000 in
theorem rpstmt_any (rec : Rs.Rec) (HE : Hid (Cn X S 205 (rec (.expr 0)) [.int .i64 0])) (HB : Hid (Cn X S 110 (rec .block))) (HBR : Hid (Cn X S 207 (rec .branch))) (HCH : Hid (∀ at_ : Nat, Cn X S 208 (Rs.choice X rec at_) [.int .i64 (at_ : Int)])) : POk X S 161 oneV (Rs.stmtF X rec) := by
 intro N p w s tv nv D h hne
 have HG := x0 h hne (by unfold Rs.stmtF;exact rfl);clear h hne
 go_enter Tryz.func161, Tryz.ntmps161
 go_wp2_with fail
 revert HG;refine now_ fun w1 HG => ?_;generalize hn : Rs.now X s = t at HG ⊢
 have HNt := zh hn;clear hn
 replace HG := bR #[.int .i64 t.kind, .string (str t.text), .int .i64 t.num, .int .i64 (t.pos : Int)] 95 HG
 have ct := ce0 HG
 cases k4 : (t.kind == 4) with
 | true =>
  rcases wd [103, 111] HNt (zh k4) HG with ⟨ht0,hlt,HG⟩ | ⟨ht0,HG⟩
  ·obtain ⟨b1,b2,b3,b4,b5,b6⟩ := pc HG;have f9 := iw1 hlt HG;replace HG := ia hlt HG
   have c0 := ce0 HG
   go_wp2_with fail
   replace HG := gn HG;obtain ⟨w2,e,HG⟩ := HG;rw [e];clear e
   clear b1 b2 b3 b4 b5 b6 f9 c0
   revert HG;refine c1 HE.out fun a3 w3 s3 HG => ?_
   have c := ce0 HG
   go_wp2_with fail
   replace HG := ro1 a3 HG;obtain ⟨w4,q4,e1,e2,l4,HG⟩ := HG;rw [e1,e2];clear e1 e2
   revert HG;refine wi fun b5 w5 s5 HG => ?_
   exact en
  rcases wd [99, 108, 111, 115, 101] HNt (zh k4) HG with ⟨ht1,hlt,HG⟩ | ⟨ht1,HG⟩
  ·have hpa : ((str t.text).toList == [112, 97, 110, 105, 99]) = false := by rw [eq_of_beq ht1]; rfl
   have hpr : ((str t.text).toList == [112, 114, 105, 110, 116]) = false := by rw [eq_of_beq ht1]; rfl
   obtain ⟨b1,b2,b3,b4,b5,b6⟩ := pc HG;have f9 := iw1 hlt HG;replace HG := ia hlt HG
   have c0 := ce0 HG
   go_wp2_with fail
   replace HG := gn HG;obtain ⟨w6,e,HG⟩ := HG;rw [e];clear e
   clear b1 b2 b3 b4 b5 b6 f9 c0
   revert HG;refine enter_ Ps.k_lp fun w7 s7 HG => ?_
   go_wp2_with fail
   revert HG;refine c1 HE.out fun a8 w8 s8 HG => ?_
   go_wp2_with fail
   revert HG;refine leave_ Ps.k_rp fun w9 s9 HG => ?_
   have c := ce0 HG
   go_wp2_with fail
   replace HG := ro1 a8 HG;obtain ⟨w10,q10,e1,e2,l10,HG⟩ := HG;rw [e1,e2];clear e1 e2
   revert HG;refine wi fun b11 w11 s11 HG => ?_
   exact en
  rcases wd [112, 97, 110, 105, 99] HNt (zh k4) HG with ⟨ht2,hlt,HG⟩ | ⟨ht2,HG⟩
  ·have hpr : ((str t.text).toList == [112, 114, 105, 110, 116]) = false := by rw [eq_of_beq ht2]; rfl
   obtain ⟨b1,b2,b3,b4,b5,b6⟩ := pc HG;have f9 := iw1 hlt HG;replace HG := ia hlt HG
   have c0 := ce0 HG
   go_wp2_with fail
   replace HG := gn HG;obtain ⟨w12,e,HG⟩ := HG;rw [e];clear e
   clear b1 b2 b3 b4 b5 b6 f9 c0
   revert HG;refine enter_ Ps.k_lp fun w13 s13 HG => ?_
   go_wp2_with fail
   revert HG;refine c1 HE.out fun a14 w14 s14 HG => ?_
   go_wp2_with fail
   revert HG;refine leave_ Ps.k_rp fun w15 s15 HG => ?_
   have c := ce0 HG
   go_wp2_with fail
   replace HG := ro1 a14 HG;obtain ⟨w16,q16,e1,e2,l16,HG⟩ := HG;rw [e1,e2];clear e1 e2
   revert HG;refine wi fun b17 w17 s17 HG => ?_
   exact en
  rcases wd [112, 114, 105, 110, 116] HNt (zh k4) HG with ⟨ht3,hlt,HG⟩ | ⟨ht3,HG⟩
  ·obtain ⟨b1,b2,b3,b4,b5,b6⟩ := pc HG;have f9 := iw1 hlt HG;replace HG := ia hlt HG
   have c0 := ce0 HG
   go_wp2_with fail
   replace HG := gn HG;obtain ⟨w18,e,HG⟩ := HG;rw [e];clear e
   clear b1 b2 b3 b4 b5 b6 f9 c0
   revert HG;refine enter_ Ps.k_lp fun w19 s19 HG => ?_
   go_wp2_with fail
   revert HG;refine c1 HE.out fun a20 w20 s20 HG => ?_
   go_wp2_with fail
   revert HG;refine leave_ Ps.k_rp fun w21 s21 HG => ?_
   have c := ce0 HG
   go_wp2_with fail
   replace HG := ro1 a20 HG;obtain ⟨w22,q22,e1,e2,l22,HG⟩ := HG;rw [e1,e2];clear e1 e2
   revert HG;refine wi fun b23 w23 s23 HG => ?_
   exact en
  rcases wd [105, 102] HNt (zh k4) HG with ⟨ht4,hlt,HG⟩ | ⟨ht4,HG⟩
  ·go_wp2_with fail
   replace HG := gn HG;obtain ⟨w24,e,HG⟩ := HG;rw [e];clear e
   exact tl HBR.out HG
  rcases wd [102, 111, 114] HNt (zh k4) HG with ⟨ht5,hlt,HG⟩ | ⟨ht5,HG⟩
  ·obtain ⟨b1,b2,b3,b4,b5,b6⟩ := pc HG;have f9 := iw1 hlt HG;replace HG := ia hlt HG
   have c0 := ce0 HG
   go_wp2_with fail
   replace HG := gn HG;obtain ⟨w25,e,HG⟩ := HG;rw [e];clear e
   clear b1 b2 b3 b4 b5 b6 f9 c0
   revert HG;refine c1 HE.out fun a26 w26 s26 HG => ?_
   go_wp2_with fail
   revert HG;refine c1 HB.out fun a27 w27 s27 HG => ?_
   have c := ce0 HG
   go_wp2_with fail
   replace HG := ro2 a26 a27 HG;obtain ⟨w28,q28,e1,e2,l28,HG⟩ := HG;rw [e1,e2];clear e1 e2
   revert HG;refine wi fun b29 w29 s29 HG => ?_
   exact en
  rcases wd [114, 101, 116, 117, 114, 110] HNt (zh k4) HG with ⟨ht6,hlt,HG⟩ | ⟨ht6,HG⟩
  ·obtain ⟨b1,b2,b3,b4,b5,b6⟩ := pc HG;have f9 := iw1 hlt HG;replace HG := ia hlt HG
   have c0 := ce0 HG
   go_wp2_with fail
   replace HG := gn HG;obtain ⟨w30,e,HG⟩ := HG;rw [e];clear e
   clear b1 b2 b3 b4 b5 b6 f9 c0
   revert HG;refine isV Ps.k_semi fun y31 w31 HB31 HG => ?_
   go_wp2_with fail
   revert HG;refine isV Ps.k_rb fun y32 w32 HB32 HG => ?_
   by_cases hc : Rs.isK X (Rs.adv s) Ps.k_semi = true ∨ Rs.isK X (Rs.adv s) Ps.k_rb = true
   ·replace HG := re (if_pos hc) HG;have hb : (y31 || y32) = true := by rw [← HB31.out, ← HB32.out]; simpa using hc
    cases y31 <;> cases y32
    · cases hb
    all_goals
     have c := ce0 HG
     go_wp2_with fail
     replace HG := k0 HG
     revert HG;refine wi fun b33 w33 s33 HG => ?_
     exact en
   ·replace HG := re (if_neg hc) HG;rw [HB31.out, HB32.out] at hc
    cases y31
    ·cases y32
     ·go_wp2_with fail
      revert HG;refine c1 HE.out fun a34 w34 s34 HG => ?_
      have c := ce0 HG
      go_wp2_with fail
      replace HG := ro1 a34 HG;obtain ⟨w35,q35,e1,e2,l35,HG⟩ := HG;rw [e1,e2];clear e1 e2
      revert HG;refine wi fun b36 w36 s36 HG => ?_
      exact en
     exact absurd (.inr rfl) hc
    exact absurd (.inl rfl) hc
  rcases wd [98, 114, 101, 97, 107] HNt (zh k4) HG with ⟨ht7,hlt,HG⟩ | ⟨ht7,HG⟩
  ·obtain ⟨b1,b2,b3,b4,b5,b6⟩ := pc HG;have f9 := iw1 hlt HG;replace HG := ia hlt HG
   have c0 := ce0 HG
   go_wp2_with fail
   replace HG := gn HG;obtain ⟨w37,e,HG⟩ := HG;rw [e];clear e
   clear b1 b2 b3 b4 b5 b6 f9 c0
   replace HG := k0 HG
   revert HG;refine wi fun b38 w38 s38 HG => ?_
   exact en
  rcases wd [115, 101, 108, 101, 99, 116] HNt (zh k4) HG with ⟨ht8,hlt,HG⟩ | ⟨ht8,HG⟩
  ·obtain ⟨b1,b2,b3,b4,b5,b6⟩ := pc HG;have f9 := iw1 hlt HG;replace HG := ia hlt HG
   have c0 := ce0 HG
   go_wp2_with fail
   replace HG := gn HG;obtain ⟨w39,e,HG⟩ := HG;rw [e];clear e
   clear b1 b2 b3 b4 b5 b6 f9 c0
   exact tl (HCH.out _) HG
  go_wp2_with fail
  replace HG := gn HG;obtain ⟨w40,e,HG⟩ := HG;rw [e];clear e
  clear ct ht0 ht1 ht2 ht3 ht4 ht5 ht6 ht7 ht8
  revert HG;refine nextV Ps.k_def_ fun y41 w41 HB41 HG => ?_
  rcases nn HNt HB41 HG with ⟨k1,rfl,hlt2,HG⟩ | ⟨hk,HG⟩
  ·have ct := ce0 HG
   obtain ⟨b1,b2,b3,b4,b5,b6⟩ := pc HG;have f9 := iw2 hlt2 HG;replace HG := ia2 hlt2 HG
   have c0 := ce0 HG
   go_wp2_with fail
   replace HG := gn HG;obtain ⟨w42,e,HG⟩ := HG;rw [e];clear e
   clear b1 b2 b3 b4 b5 b6 f9 c0
   clear ct
   revert HG;refine c1 HE.out fun a43 w43 s43 HG => ?_
   have c := ce0 HG
   go_wp2_with fail
   replace HG := ro1 a43 HG;obtain ⟨w44,q44,e1,e2,l44,HG⟩ := HG;rw [e1,e2];clear e1 e2
   revert HG;refine pu fun b45 w45 s45 HG => ?_
   exact en
  have ct := ce0 HG
  cases k1 : (t.kind == 1) with
  | false =>
   go_wp2_with fail
   revert HG;refine c1 HE.out fun a46 w46 s46 HG => ?_
   go_wp2_with fail
   revert HG;refine took Ps.k_asg (fun w47 KB HG => ?_) fun w48 KB HG => ?_
   ·go_wp2_with fail
    revert HG;refine c1 HE.out fun a49 w49 s49 HG => ?_
    have c := ce0 HG
    go_wp2_with fail
    replace HG := ro2 a46 a49 HG;obtain ⟨w50,q50,e1,e2,l50,HG⟩ := HG;rw [e1,e2];clear e1 e2
    revert HG;refine wi fun b51 w51 s51 HG => ?_
    exact en
   go_wp2_with fail
   revert HG;refine took Ps.k_arr (fun w52 KB HG => ?_) fun w53 KB HG => ?_
   ·go_wp2_with fail
    revert HG;refine c1 HE.out fun a54 w54 s54 HG => ?_
    have c := ce0 HG
    go_wp2_with fail
    replace HG := ro2 a46 a54 HG;obtain ⟨w55,q55,e1,e2,l55,HG⟩ := HG;rw [e1,e2];clear e1 e2
    revert HG;refine wi fun b56 w56 s56 HG => ?_
    exact en
   have c := ce0 HG
   go_wp2_with fail
   replace HG := ro1 a46 HG;obtain ⟨w57,q57,e1,e2,l57,HG⟩ := HG;rw [e1,e2];clear e1 e2
   revert HG;refine wi fun b58 w58 s58 HG => ?_
   exact en
  | true =>
   obtain rfl : y41 = false := by rcases hk with h | h; exact absurd (k1.symm.trans h) (by decide); exact h
   go_wp2_with fail
   revert HG;refine c1 HE.out fun a59 w59 s59 HG => ?_
   go_wp2_with fail
   revert HG;refine took Ps.k_asg (fun w60 KB HG => ?_) fun w61 KB HG => ?_
   ·go_wp2_with fail
    revert HG;refine c1 HE.out fun a62 w62 s62 HG => ?_
    have c := ce0 HG
    go_wp2_with fail
    replace HG := ro2 a59 a62 HG;obtain ⟨w63,q63,e1,e2,l63,HG⟩ := HG;rw [e1,e2];clear e1 e2
    revert HG;refine wi fun b64 w64 s64 HG => ?_
    exact en
   go_wp2_with fail
   revert HG;refine took Ps.k_arr (fun w65 KB HG => ?_) fun w66 KB HG => ?_
   ·go_wp2_with fail
    revert HG;refine c1 HE.out fun a67 w67 s67 HG => ?_
    have c := ce0 HG
    go_wp2_with fail
    replace HG := ro2 a59 a67 HG;obtain ⟨w68,q68,e1,e2,l68,HG⟩ := HG;rw [e1,e2];clear e1 e2
    revert HG;refine wi fun b69 w69 s69 HG => ?_
    exact en
   have c := ce0 HG
   go_wp2_with fail
   replace HG := ro1 a59 HG;obtain ⟨w70,q70,e1,e2,l70,HG⟩ := HG;rw [e1,e2];clear e1 e2
   revert HG;refine wi fun b71 w71 s71 HG => ?_
   exact en
 | false =>
  replace HG := wn HNt (zh k4) (wn HNt (zh k4) (wn HNt (zh k4) (wn HNt (zh k4) (wn HNt (zh k4) (wn HNt (zh k4) (wn HNt (zh k4) (wn HNt (zh k4) (wn HNt (zh k4) HG))))))))
  go_wp2_with fail
  replace HG := gn HG;obtain ⟨w72,e,HG⟩ := HG;rw [e];clear e
  clear ct
  revert HG;refine nextV Ps.k_def_ fun y73 w73 HB73 HG => ?_
  rcases nn HNt HB73 HG with ⟨k1,rfl,hlt2,HG⟩ | ⟨hk,HG⟩
  ·have ct := ce0 HG
   obtain ⟨b1,b2,b3,b4,b5,b6⟩ := pc HG;have f9 := iw2 hlt2 HG;replace HG := ia2 hlt2 HG
   have c0 := ce0 HG
   go_wp2_with fail
   replace HG := gn HG;obtain ⟨w74,e,HG⟩ := HG;rw [e];clear e
   clear b1 b2 b3 b4 b5 b6 f9 c0
   clear ct
   revert HG;refine c1 HE.out fun a75 w75 s75 HG => ?_
   have c := ce0 HG
   go_wp2_with fail
   replace HG := ro1 a75 HG;obtain ⟨w76,q76,e1,e2,l76,HG⟩ := HG;rw [e1,e2];clear e1 e2
   revert HG;refine pu fun b77 w77 s77 HG => ?_
   exact en
  have ct := ce0 HG
  cases k1 : (t.kind == 1) with
  | false =>
   go_wp2_with fail
   revert HG;refine c1 HE.out fun a78 w78 s78 HG => ?_
   go_wp2_with fail
   revert HG;refine took Ps.k_asg (fun w79 KB HG => ?_) fun w80 KB HG => ?_
   ·go_wp2_with fail
    revert HG;refine c1 HE.out fun a81 w81 s81 HG => ?_
    have c := ce0 HG
    go_wp2_with fail
    replace HG := ro2 a78 a81 HG;obtain ⟨w82,q82,e1,e2,l82,HG⟩ := HG;rw [e1,e2];clear e1 e2
    revert HG;refine wi fun b83 w83 s83 HG => ?_
    exact en
   go_wp2_with fail
   revert HG;refine took Ps.k_arr (fun w84 KB HG => ?_) fun w85 KB HG => ?_
   ·go_wp2_with fail
    revert HG;refine c1 HE.out fun a86 w86 s86 HG => ?_
    have c := ce0 HG
    go_wp2_with fail
    replace HG := ro2 a78 a86 HG;obtain ⟨w87,q87,e1,e2,l87,HG⟩ := HG;rw [e1,e2];clear e1 e2
    revert HG;refine wi fun b88 w88 s88 HG => ?_
    exact en
   have c := ce0 HG
   go_wp2_with fail
   replace HG := ro1 a78 HG;obtain ⟨w89,q89,e1,e2,l89,HG⟩ := HG;rw [e1,e2];clear e1 e2
   revert HG;refine wi fun b90 w90 s90 HG => ?_
   exact en
  | true =>
   obtain rfl : y73 = false := by rcases hk with h | h; exact absurd (k1.symm.trans h) (by decide); exact h
   go_wp2_with fail
   revert HG;refine c1 HE.out fun a91 w91 s91 HG => ?_
   go_wp2_with fail
   revert HG;refine took Ps.k_asg (fun w92 KB HG => ?_) fun w93 KB HG => ?_
   ·go_wp2_with fail
    revert HG;refine c1 HE.out fun a94 w94 s94 HG => ?_
    have c := ce0 HG
    go_wp2_with fail
    replace HG := ro2 a91 a94 HG;obtain ⟨w95,q95,e1,e2,l95,HG⟩ := HG;rw [e1,e2];clear e1 e2
    revert HG;refine wi fun b96 w96 s96 HG => ?_
    exact en
   go_wp2_with fail
   revert HG;refine took Ps.k_arr (fun w97 KB HG => ?_) fun w98 KB HG => ?_
   ·go_wp2_with fail
    revert HG;refine c1 HE.out fun a99 w99 s99 HG => ?_
    have c := ce0 HG
    go_wp2_with fail
    replace HG := ro2 a91 a99 HG;obtain ⟨w100,q100,e1,e2,l100,HG⟩ := HG;rw [e1,e2];clear e1 e2
    revert HG;refine wi fun b101 w101 s101 HG => ?_
    exact en
   have c := ce0 HG
   go_wp2_with fail
   replace HG := ro1 a91 HG;obtain ⟨w102,q102,e1,e2,l102,HG⟩ := HG;rw [e1,e2];clear e1 e2
   revert HG;refine wi fun b103 w103 s103 HG => ?_
   exact en
end
end Go.Proofs.YtjickecdkmljpaaGreatDoor.R
namespace Go.Proofs.YtjickecdkmljpaaGreatDoor.R
open Go.RowKit

section
variable {N p : Nat} {w : World} {X : Ps.Src} {S : ByteArray} {s : Rs.St} {tv nv : Value} {D : List (Ps.Nd × Value)}
/-- The first part, and what stands behind it. -/
def partP (X : Ps.Src) (n : Nat) (s : Rs.St) : Rs.Res := (Rs.firstF X (Rs.run X n) s).bind fun e s1 => Rs.run X n (.part (e.getD 0 0)) s1
theorem runN {wk : World} {pl : Rs.Res} {L : List It} {m : Nat} {f : Ps.Fn} (h : Hid (Sx N p X S w tv nv D pl wk s L (Rs.run X m f s))) : ∃ k, m = k + 1 := by
  obtain ⟨_, _, h⟩ := h.out
  cases m with
  | zero => exact absurd h.eq h.ne
  | succ k => exact ⟨k, rfl⟩
set_option maxRecDepth 100000 in
set_option maxHeartbeats 8000000 in
theorem rpunary_any (n : Nat) (HF : Hid (Cn X S 261 (Rs.firstF X (Rs.run X n)))) (HU : Hid (Cn X S 243 (Rs.run X n .unary))) (HL : Hid (∀ m, m < n → Ln X S 2 (Rs.list X (Rs.run X m (.exprs []))))) (HT : Hid (∀ m, m < n → Cn X S 158 (Rs.run X m .typ))) : POk X S 243 oneV (Rs.unaryF X (Rs.run X n)) := by
 intro N p w s tv nv D h hne
 have HG := x0 h hne (by unfold Rs.unaryF;exact rfl);clear h hne
 go_enter Tryz.func243, Tryz.ntmps243
 go_wp2_with fail
 revert HG;refine now_ fun w1 HG => ?_;generalize hn : Rs.now X s = t at HG ⊢
 have HNt := zh hn;clear hn
 replace HG := bR #[.int .i64 t.kind, .string (str t.text), .int .i64 t.num, .int .i64 (t.pos : Int)] 95 HG
 have ct := ce0 HG
 cases k3 : (t.kind == 3) with
 | true =>
  rcases sg [33] HNt (zh k3) HG with ⟨ht0,hx,HG⟩ | ⟨ht0,HG⟩
  ·have HX := zh hx;clear hx
   go_wp2_with fail
   replace HG := gn HG;obtain ⟨w2,e,HG⟩ := HG;rw [e];clear e
   clear ct k3 ht0
   replace HG := re (by unfold Rs.prefixed;rw [HNt.out]) HG
   revert HG;refine enter_ _ (fun w3 s3 HG => ?_) ((congrArg by_ HX.out).trans (by_str _))
   replace HG := re (bind_ite _ _ _) HG;obtain ⟨b1,b2,b3,b4,b5,b6⟩ := pc HG;rcases wg HG with ⟨hw,HG⟩ | ⟨hw,HG⟩ <;> rw [hw] at b4 <;> clear hw
   ·clear b1 b2 b3 b5 b6;have b7 := b4;clear b4
    obtain ⟨d4,hd⟩ : ∃ d, IntKind.i64.wrap (s3.p.deep - 1) = d := ⟨_, rfl⟩
    obtain ⟨b1,b2,b3,b4,b5,b6⟩ := pc HG;replace HG := dd hd HG
    have c0 := ce0 HG
    go_wp2_with fail
    replace HG := gz HG;obtain ⟨w5,e,ez,HG⟩ := HG;rw [e,ez];clear e ez hd b1 b2 b3 b4 b5 b6 c0
    replace HG := ro0 HG;obtain ⟨w6,q6,e1,e2,l6,HG⟩ := HG;rw [e1,e2];clear e1 e2
    clear b7
    revert HG;refine wi fun b7 w7 s7 HG => ?_
    exact en
   go_wp2_with fail
   clear b1 b2 b3 b4 b5 b6
   revert HG;refine c1 HU.out fun a8 w8 s8 HG => ?_
   obtain ⟨d9,hd⟩ : ∃ d, IntKind.i64.wrap (s8.p.deep - 1) = d := ⟨_, rfl⟩
   obtain ⟨b1,b2,b3,b4,b5,b6⟩ := pc HG;replace HG := dd hd HG
   have c0 := ce0 HG
   go_wp2_with fail
   replace HG := gz HG;obtain ⟨w10,e,ez,HG⟩ := HG;rw [e,ez];clear e ez hd b1 b2 b3 b4 b5 b6 c0
   replace HG := ro1 a8 HG;obtain ⟨w11,q11,e1,e2,l11,HG⟩ := HG;rw [e1,e2];clear e1 e2
   revert HG;refine wi fun b12 w12 s12 HG => ?_
   exact en
  rcases sg [45] HNt (zh k3) HG with ⟨ht1,hx,HG⟩ | ⟨ht1,HG⟩
  ·have HX := zh hx;clear hx
   go_wp2_with fail
   replace HG := gn HG;obtain ⟨w13,e,HG⟩ := HG;rw [e];clear e
   clear ct k3 ht0 ht1
   replace HG := re (by unfold Rs.prefixed;rw [HNt.out]) HG
   revert HG;refine enter_ _ (fun w14 s14 HG => ?_) ((congrArg by_ HX.out).trans (by_str _))
   replace HG := re (bind_ite _ _ _) HG;obtain ⟨b1,b2,b3,b4,b5,b6⟩ := pc HG;rcases wg HG with ⟨hw,HG⟩ | ⟨hw,HG⟩ <;> rw [hw] at b4 <;> clear hw
   ·clear b1 b2 b3 b5 b6;have b7 := b4;clear b4
    obtain ⟨d15,hd⟩ : ∃ d, IntKind.i64.wrap (s14.p.deep - 1) = d := ⟨_, rfl⟩
    obtain ⟨b1,b2,b3,b4,b5,b6⟩ := pc HG;replace HG := dd hd HG
    have c0 := ce0 HG
    go_wp2_with fail
    replace HG := gz HG;obtain ⟨w16,e,ez,HG⟩ := HG;rw [e,ez];clear e ez hd b1 b2 b3 b4 b5 b6 c0
    replace HG := ro0 HG;obtain ⟨w17,q17,e1,e2,l17,HG⟩ := HG;rw [e1,e2];clear e1 e2
    clear b7
    revert HG;refine wi fun b18 w18 s18 HG => ?_
    exact en
   go_wp2_with fail
   clear b1 b2 b3 b4 b5 b6
   revert HG;refine c1 HU.out fun a19 w19 s19 HG => ?_
   obtain ⟨d20,hd⟩ : ∃ d, IntKind.i64.wrap (s19.p.deep - 1) = d := ⟨_, rfl⟩
   obtain ⟨b1,b2,b3,b4,b5,b6⟩ := pc HG;replace HG := dd hd HG
   have c0 := ce0 HG
   go_wp2_with fail
   replace HG := gz HG;obtain ⟨w21,e,ez,HG⟩ := HG;rw [e,ez];clear e ez hd b1 b2 b3 b4 b5 b6 c0
   replace HG := ro1 a19 HG;obtain ⟨w22,q22,e1,e2,l22,HG⟩ := HG;rw [e1,e2];clear e1 e2
   revert HG;refine wi fun b23 w23 s23 HG => ?_
   exact en
  rcases sg [60, 45] HNt (zh k3) HG with ⟨ht2,hx,HG⟩ | ⟨ht2,HG⟩
  ·have HX := zh hx;clear hx
   go_wp2_with fail
   replace HG := gn HG;obtain ⟨w24,e,HG⟩ := HG;rw [e];clear e
   clear ct k3 ht0 ht1 ht2
   replace HG := re (by unfold Rs.prefixed;rw [HNt.out]) HG
   revert HG;refine enter_ _ (fun w25 s25 HG => ?_) ((congrArg by_ HX.out).trans (by_str _))
   replace HG := re (bind_ite _ _ _) HG;obtain ⟨b1,b2,b3,b4,b5,b6⟩ := pc HG;rcases wg HG with ⟨hw,HG⟩ | ⟨hw,HG⟩ <;> rw [hw] at b4 <;> clear hw
   ·clear b1 b2 b3 b5 b6;have b7 := b4;clear b4
    obtain ⟨d26,hd⟩ : ∃ d, IntKind.i64.wrap (s25.p.deep - 1) = d := ⟨_, rfl⟩
    obtain ⟨b1,b2,b3,b4,b5,b6⟩ := pc HG;replace HG := dd hd HG
    have c0 := ce0 HG
    go_wp2_with fail
    replace HG := gz HG;obtain ⟨w27,e,ez,HG⟩ := HG;rw [e,ez];clear e ez hd b1 b2 b3 b4 b5 b6 c0
    replace HG := ro0 HG;obtain ⟨w28,q28,e1,e2,l28,HG⟩ := HG;rw [e1,e2];clear e1 e2
    clear b7
    revert HG;refine wi fun b29 w29 s29 HG => ?_
    exact en
   go_wp2_with fail
   clear b1 b2 b3 b4 b5 b6
   revert HG;refine c1 HU.out fun a30 w30 s30 HG => ?_
   obtain ⟨d31,hd⟩ : ∃ d, IntKind.i64.wrap (s30.p.deep - 1) = d := ⟨_, rfl⟩
   obtain ⟨b1,b2,b3,b4,b5,b6⟩ := pc HG;replace HG := dd hd HG
   have c0 := ce0 HG
   go_wp2_with fail
   replace HG := gz HG;obtain ⟨w32,e,ez,HG⟩ := HG;rw [e,ez];clear e ez hd b1 b2 b3 b4 b5 b6 c0
   replace HG := ro1 a30 HG;obtain ⟨w33,q33,e1,e2,l33,HG⟩ := HG;rw [e1,e2];clear e1 e2
   revert HG;refine wi fun b34 w34 s34 HG => ?_
   exact en
  go_wp2_with fail
  replace HG := gn HG;obtain ⟨w35,e,HG⟩ := HG;rw [e];clear e
  clear ct k3 ht0 ht1 ht2
  revert HG;refine c1 HF.out fun a36 w36 s36 HG => ?_
  go_wp2_with fail
  go_loopg [6] n (fun m e wr => ∃ (a : Nat) (sk : Rs.St) (tk : Lx.Tok), e = .int .i64 (a : Int) ∧ m ≤ n ∧ Hid (Sx N p X S w tv nv D (Rs.unaryF X (Rs.run X n) s) wr sk [.bx (w1.heap.size) #[.int .i64 tk.kind, .string (str tk.text), .int .i64 tk.num, .int .i64 (tk.pos : Int)] 95] (Rs.run X m (.part a) sk)))
  case atStart => exact ⟨_, _, t, rfl, Nat.le_refl _, HG⟩
  case round =>
   clear HG;obtain ⟨a, sk, tk, rfl, hm, HG⟩ := hrel;obtain ⟨m, rfl⟩ := runN HG;have hmn : m < n := by omega
   replace HG := re (r2 := _) (by unfold Rs.run Rs.bodyR Rs.partF;exact rfl) HG
   obtain ⟨b1,b2,b3,b4,b5,b6⟩ := pc HG;rcases wg HG with ⟨hw,HG⟩ | ⟨hw,HG⟩ <;> rw [hw] at b4 <;> clear hw
   ·exact en
   go_wp2_with fail
   clear b1 b2 b3 b4 b5 b6
   revert HG;refine now_ fun w37 HG => ?_;generalize Rs.now X sk = t2 at HG ⊢
   have d0 := ce0 HG
   replace HG := so0 0 (.int .i64 t2.kind) HG
   replace HG := so0 1 (.string (str t2.text)) HG
   replace HG := so0 2 (.int .i64 t2.num) HG
   replace HG := so0 3 (.int .i64 (t2.pos : Int)) HG
   go_wp2_with fail
   replace HG := gn HG;obtain ⟨w38,e,HG⟩ := HG;rw [e];clear e
   clear d0
   revert HG;refine is_ Ps.k_lp (fun w39 KB HG => ?_) fun w40 KB HG => ?_
   ·go_wp2_with fail
    revert HG;refine isV Ps.k_dot fun y41 w41 HB41 HG => ?_
    go_wp2_with fail
    replace HG := ro1 a HG;obtain ⟨w42,q42,e1,e2,l42,HG⟩ := HG;rw [e1,e2];clear e1 e2
    revert HG;refine cl_ (HL.out m hmn) fun l43 ua43 uc43 w43 s43 hl43 HG => ?_
    go_wp2_with (at_builtin; revert HG;refine apW hl43 fun ua44 uc44 w44 HG => ?_;have c := ce1 HG)
    clear c
    revert HG;refine wiK fun b45 w45 s45 HG => ?_
    go_wp2
    go_roundg m
    case rel => exact ⟨_, _, t2, rfl, by omega, HG⟩
    case measure => omega
   go_wp2_with fail
   revert HG;refine is_ Ps.k_dot (fun w46 KC HG => ?_) fun w47 KC HG => ?_
   ·have hlt := isK_lt KC.out
    obtain ⟨b1,b2,b3,b4,b5,b6⟩ := pc HG;have f9 := iw1 hlt HG;replace HG := ia hlt HG
    go_wp2_with fail
    replace HG := gn HG;obtain ⟨w48,e,HG⟩ := HG;rw [e];clear e
    clear b1 b2 b3 b4 b5 b6 f9
    revert HG;refine is_ Ps.k_lp (fun w49 KB HG => ?_) fun w50 KB HG => ?_
    ·go_wp2_with fail
     revert HG;refine enter_ Ps.k_lp fun w51 s51 HG => ?_
     go_wp2_with fail
     revert HG;refine c1 (HT.out m hmn) fun a52 w52 s52 HG => ?_
     go_wp2_with fail
     revert HG;refine leave_ Ps.k_rp fun w53 s53 HG => ?_
     have c := ce0 HG
     go_wp2_with fail
     replace HG := ro2 a a52 HG;obtain ⟨w54,q54,e1,e2,l54,HG⟩ := HG;rw [e1,e2];clear e1 e2
     revert HG;refine wiK fun b55 w55 s55 HG => ?_
     go_wp2
     go_roundg m
     case rel => exact ⟨_, _, t2, rfl, by omega, HG⟩
     case measure => omega
    go_wp2_with fail
    revert HG;refine name_ fun w56 s56 HG => ?_;generalize Rs.nameT X (Rs.adv sk) = nt at HG ⊢
    have c := ce0 HG
    go_wp2_with fail
    replace HG := ro1 a HG;obtain ⟨w57,q57,e1,e2,l57,HG⟩ := HG;rw [e1,e2];clear e1 e2
    revert HG;refine puK fun b58 w58 s58 HG => ?_
    go_wp2
    go_roundg m
    case rel => exact ⟨_, _, t2, rfl, by omega, HG⟩
    case measure => omega
   exact en
 | false =>
  replace HG := sn HNt (zh k3) (sn HNt (zh k3) (sn HNt (zh k3) HG))
  go_wp2_with fail
  replace HG := gn HG;obtain ⟨w59,e,HG⟩ := HG;rw [e];clear e
  clear ct k3
  revert HG;refine c1 HF.out fun a60 w60 s60 HG => ?_
  go_wp2_with fail
  go_loopg [6] n (fun m e wr => ∃ (a : Nat) (sk : Rs.St) (tk : Lx.Tok), e = .int .i64 (a : Int) ∧ m ≤ n ∧ Hid (Sx N p X S w tv nv D (Rs.unaryF X (Rs.run X n) s) wr sk [.bx (w1.heap.size) #[.int .i64 tk.kind, .string (str tk.text), .int .i64 tk.num, .int .i64 (tk.pos : Int)] 95] (Rs.run X m (.part a) sk)))
  case atStart => exact ⟨_, _, t, rfl, Nat.le_refl _, HG⟩
  case round =>
   clear HG;obtain ⟨a, sk, tk, rfl, hm, HG⟩ := hrel;obtain ⟨m, rfl⟩ := runN HG;have hmn : m < n := by omega
   replace HG := re (r2 := _) (by unfold Rs.run Rs.bodyR Rs.partF;exact rfl) HG
   obtain ⟨b1,b2,b3,b4,b5,b6⟩ := pc HG;rcases wg HG with ⟨hw,HG⟩ | ⟨hw,HG⟩ <;> rw [hw] at b4 <;> clear hw
   ·exact en
   go_wp2_with fail
   clear b1 b2 b3 b4 b5 b6
   revert HG;refine now_ fun w61 HG => ?_;generalize Rs.now X sk = t2 at HG ⊢
   have d0 := ce0 HG
   replace HG := so0 0 (.int .i64 t2.kind) HG
   replace HG := so0 1 (.string (str t2.text)) HG
   replace HG := so0 2 (.int .i64 t2.num) HG
   replace HG := so0 3 (.int .i64 (t2.pos : Int)) HG
   go_wp2_with fail
   replace HG := gn HG;obtain ⟨w62,e,HG⟩ := HG;rw [e];clear e
   clear d0
   revert HG;refine is_ Ps.k_lp (fun w63 KB HG => ?_) fun w64 KB HG => ?_
   ·go_wp2_with fail
    revert HG;refine isV Ps.k_dot fun y65 w65 HB65 HG => ?_
    go_wp2_with fail
    replace HG := ro1 a HG;obtain ⟨w66,q66,e1,e2,l66,HG⟩ := HG;rw [e1,e2];clear e1 e2
    revert HG;refine cl_ (HL.out m hmn) fun l67 ua67 uc67 w67 s67 hl67 HG => ?_
    go_wp2_with (at_builtin; revert HG;refine apW hl67 fun ua68 uc68 w68 HG => ?_;have c := ce1 HG)
    clear c
    revert HG;refine wiK fun b69 w69 s69 HG => ?_
    go_wp2
    go_roundg m
    case rel => exact ⟨_, _, t2, rfl, by omega, HG⟩
    case measure => omega
   go_wp2_with fail
   revert HG;refine is_ Ps.k_dot (fun w70 KC HG => ?_) fun w71 KC HG => ?_
   ·have hlt := isK_lt KC.out
    obtain ⟨b1,b2,b3,b4,b5,b6⟩ := pc HG;have f9 := iw1 hlt HG;replace HG := ia hlt HG
    go_wp2_with fail
    replace HG := gn HG;obtain ⟨w72,e,HG⟩ := HG;rw [e];clear e
    clear b1 b2 b3 b4 b5 b6 f9
    revert HG;refine is_ Ps.k_lp (fun w73 KB HG => ?_) fun w74 KB HG => ?_
    ·go_wp2_with fail
     revert HG;refine enter_ Ps.k_lp fun w75 s75 HG => ?_
     go_wp2_with fail
     revert HG;refine c1 (HT.out m hmn) fun a76 w76 s76 HG => ?_
     go_wp2_with fail
     revert HG;refine leave_ Ps.k_rp fun w77 s77 HG => ?_
     have c := ce0 HG
     go_wp2_with fail
     replace HG := ro2 a a76 HG;obtain ⟨w78,q78,e1,e2,l78,HG⟩ := HG;rw [e1,e2];clear e1 e2
     revert HG;refine wiK fun b79 w79 s79 HG => ?_
     go_wp2
     go_roundg m
     case rel => exact ⟨_, _, t2, rfl, by omega, HG⟩
     case measure => omega
    go_wp2_with fail
    revert HG;refine name_ fun w80 s80 HG => ?_;generalize Rs.nameT X (Rs.adv sk) = nt at HG ⊢
    have c := ce0 HG
    go_wp2_with fail
    replace HG := ro1 a HG;obtain ⟨w81,q81,e1,e2,l81,HG⟩ := HG;rw [e1,e2];clear e1 e2
    revert HG;refine puK fun b82 w82 s82 HG => ?_
    go_wp2
    go_roundg m
    case rel => exact ⟨_, _, t2, rfl, by omega, HG⟩
    case measure => omega
   exact en
end
end Go.Proofs.YtjickecdkmljpaaGreatDoor.R
namespace Go.Proofs.YtjickecdkmljpaaGreatDoor.R
open Go.RowKit

section
variable {N p : Nat} {w : World} {X : Ps.Src} {S : ByteArray} {s : Rs.St} {tv nv : Value} {D : List (Ps.Nd × Value)}
theorem lev_lt {X : Ps.Src} {s : Rs.St} (h : 0 < Rs.lev X s) : s.p.i < X.toks.length := by
 refine Classical.byContradiction fun hn => ?_
 unfold Rs.lev Rs.now Ps.now Ps.noTok at h
 rw [List.getD_eq_getElem?_getD, List.getElem?_eq_none (by omega)] at h
 simp at h
set_option maxRecDepth 100000 in
set_option maxHeartbeats 4000000 in
theorem level_any (x : ByteArray) (w : World) : Calls Tryz.prog 121 #[.string x] w fun e w' => e = .returned (.int .i64 (Ps.levT (by_ x) : Int)) ∧ w = w' := by
  cases hb1 : (x.toList == [124, 124]) with
  | true =>
    have HK : Hid (by_ x = [124, 124]) := Lib.hid ((by_toList x).symm.trans (eq_of_beq hb1))
    go_enter Tryz.func121, Tryz.ntmps121
    go_wp2
    go_returns
    exact ⟨by rw [HK.out]; rfl, rfl⟩
  | false =>
    cases hb2 : (x.toList == [38, 38]) with
    | true =>
      have HK : Hid (by_ x = [38, 38]) := Lib.hid ((by_toList x).symm.trans (eq_of_beq hb2))
      go_enter Tryz.func121, Tryz.ntmps121
      go_wp2
      go_returns
      exact ⟨by rw [HK.out]; rfl, rfl⟩
    | false =>
      cases hb3 : (x.toList == [61, 61]) with
      | true =>
        have HK : Hid (by_ x = [61, 61]) := Lib.hid ((by_toList x).symm.trans (eq_of_beq hb3))
        go_enter Tryz.func121, Tryz.ntmps121
        go_wp2
        go_returns
        exact ⟨by rw [HK.out]; rfl, rfl⟩
      | false =>
        cases hb4 : (x.toList == [33, 61]) with
        | true =>
          have HK : Hid (by_ x = [33, 61]) := Lib.hid ((by_toList x).symm.trans (eq_of_beq hb4))
          go_enter Tryz.func121, Tryz.ntmps121
          go_wp2
          go_returns
          exact ⟨by rw [HK.out]; rfl, rfl⟩
        | false =>
          cases hb5 : (x.toList == [60]) with
          | true =>
            have HK : Hid (by_ x = [60]) := Lib.hid ((by_toList x).symm.trans (eq_of_beq hb5))
            go_enter Tryz.func121, Tryz.ntmps121
            go_wp2
            go_returns
            exact ⟨by rw [HK.out]; rfl, rfl⟩
          | false =>
            cases hb6 : (x.toList == [60, 61]) with
            | true =>
              have HK : Hid (by_ x = [60, 61]) := Lib.hid ((by_toList x).symm.trans (eq_of_beq hb6))
              go_enter Tryz.func121, Tryz.ntmps121
              go_wp2
              go_returns
              exact ⟨by rw [HK.out]; rfl, rfl⟩
            | false =>
              cases hb7 : (x.toList == [62]) with
              | true =>
                have HK : Hid (by_ x = [62]) := Lib.hid ((by_toList x).symm.trans (eq_of_beq hb7))
                go_enter Tryz.func121, Tryz.ntmps121
                go_wp2
                go_returns
                exact ⟨by rw [HK.out]; rfl, rfl⟩
              | false =>
                cases hb8 : (x.toList == [62, 61]) with
                | true =>
                  have HK : Hid (by_ x = [62, 61]) := Lib.hid ((by_toList x).symm.trans (eq_of_beq hb8))
                  go_enter Tryz.func121, Tryz.ntmps121
                  go_wp2
                  go_returns
                  exact ⟨by rw [HK.out]; rfl, rfl⟩
                | false =>
                  cases hb9 : (x.toList == [43]) with
                  | true =>
                    have HK : Hid (by_ x = [43]) := Lib.hid ((by_toList x).symm.trans (eq_of_beq hb9))
                    go_enter Tryz.func121, Tryz.ntmps121
                    go_wp2
                    go_returns
                    exact ⟨by rw [HK.out]; rfl, rfl⟩
                  | false =>
                    cases hb10 : (x.toList == [45]) with
                    | true =>
                      have HK : Hid (by_ x = [45]) := Lib.hid ((by_toList x).symm.trans (eq_of_beq hb10))
                      go_enter Tryz.func121, Tryz.ntmps121
                      go_wp2
                      go_returns
                      exact ⟨by rw [HK.out]; rfl, rfl⟩
                    | false =>
                      cases hb11 : (x.toList == [42]) with
                      | true =>
                        have HK : Hid (by_ x = [42]) := Lib.hid ((by_toList x).symm.trans (eq_of_beq hb11))
                        go_enter Tryz.func121, Tryz.ntmps121
                        go_wp2
                        go_returns
                        exact ⟨by rw [HK.out]; rfl, rfl⟩
                      | false =>
                        cases hb12 : (x.toList == [47]) with
                        | true =>
                          have HK : Hid (by_ x = [47]) := Lib.hid ((by_toList x).symm.trans (eq_of_beq hb12))
                          go_enter Tryz.func121, Tryz.ntmps121
                          go_wp2
                          go_returns
                          exact ⟨by rw [HK.out]; rfl, rfl⟩
                        | false =>
                          cases hb13 : (x.toList == [37]) with
                          | true =>
                            have HK : Hid (by_ x = [37]) := Lib.hid ((by_toList x).symm.trans (eq_of_beq hb13))
                            go_enter Tryz.func121, Tryz.ntmps121
                            go_wp2
                            go_returns
                            exact ⟨by rw [HK.out]; rfl, rfl⟩
                          | false =>
                            have HK : Hid (Ps.levT (by_ x) = 0) := Lib.hid (by rw [← by_toList]; unfold Ps.levT Ps.opRows; simp only [List.getD_cons_zero, List.getD_cons_succ, List.any_cons, List.any_nil, hb1, hb2, hb3, hb4, hb5, hb6, hb7, hb8, hb9, hb10, hb11, hb12, hb13]; rfl)
                            go_enter Tryz.func121, Tryz.ntmps121
                            go_wp2
                            go_returns
                            exact ⟨by rw [HK.out]; rfl, rfl⟩
set_option maxRecDepth 100000 in
set_option maxHeartbeats 8000000 in
theorem rpexpr_any (n k : Nat) (HU : Hid (Cn X S 243 (Rs.run X n .unary))) (HX : Hid (∀ m, m < n → ∀ j : Nat, Cn X S 205 (Rs.run X m (.expr j)) [.int .i64 (j : Int)])) : NumOk X S 205 (k : Int) (Rs.run X (n + 1) (.expr k)) := by
 intro N p w s tv nv D h hne
 have HG := x0 (r := (Rs.run X n .unary s).bind fun e s1 => Rs.run X n (.climb k (e.getD 0 0)) s1) h hne rfl;clear h hne
 have kp0 : decide ((0 : Int) ≤ (k : Int)) = true := by simp
 go_enter Tryz.func205, Tryz.ntmps205
 go_wp2_with fail
 revert HG;refine c1 HU.out fun a1 w1 s1 HG => ?_
 go_wp2_with fail
 go_loopg [5] n (fun m e wr => ∃ (a : Nat) (sk : Rs.St), e = .int .i64 (a : Int) ∧ m ≤ n ∧ Hid (Sx N p X S w tv nv D (Rs.run X (n + 1) (.expr k) s) wr sk [] (Rs.run X m (.climb k a) sk)))
 case atStart => exact ⟨_, _, rfl, Nat.le_refl _, HG⟩
 case round =>
  clear HG;obtain ⟨a, sk, rfl, hm, HG⟩ := hrel;obtain ⟨m, rfl⟩ := runN HG;have hmn : m < n := by omega
  replace HG := re (r2 := _) (by unfold Rs.run Rs.bodyR Rs.climbF;exact rfl) HG
  obtain ⟨b1,b2,b3,b4,b5,b6⟩ := pc HG;rcases wg HG with ⟨hw,HG⟩ | ⟨hw,HG⟩ <;> rw [hw] at b4 <;> clear hw
  ·exact en
  go_wp2_with fail
  clear b1 b2 b3 b4 b5 b6
  revert HG;refine now_ fun w2 HG => ?_;generalize hn : Rs.now X sk = t at HG ⊢
  have HNt := zh hn;clear hn
  replace HG := bR #[.int .i64 t.kind, .string (str t.text), .int .i64 t.num, .int .i64 (t.pos : Int)] 95 HG
  have ct := ce0 HG
  cases k3 : (t.kind == 3) with
  | true =>
   have HLV : Hid (Ps.levT (by_ (str t.text)) = Rs.lev X sk) := zh (by unfold Rs.lev; rw [HNt.out, if_pos (by simpa using k3), by_str]; rfl)
   go_wp2_with fail
   replace HG := gn HG;obtain ⟨w3,e,HG⟩ := HG;rw [e];clear e
   clear ct k3
   refine (level_any (str t.text) _).mono ?_
   rintro e w9 ⟨rfl, rfl⟩
   rw [HLV.out];generalize hlv : Rs.lev X sk = lv at HG ⊢;by_cases hle : k < lv
   ·have hlt : sk.p.i < X.toks.length := lev_lt (by rw [hlv]; omega)
    have kle : decide (lv ≤ k) = false := by simp; omega
    replace HG := re (if_pos hle) HG
    obtain ⟨b1,b2,b3,b4,b5,b6⟩ := pc HG;have f9 := iw1 hlt HG;replace HG := ia hlt HG
    have c0 := ce0 HG
    go_wp2_with fail
    replace HG := gn HG;obtain ⟨w4,e,HG⟩ := HG;rw [e];clear e
    clear b1 b2 b3 b4 b5 b6 f9 c0
    clear kle
    revert HG;refine c1 (HX.out m hmn lv) fun a5 w5 s5 HG => ?_
    have c := ce0 HG
    go_wp2_with fail
    replace HG := ro2 a a5 HG;obtain ⟨w6,q6,e1,e2,l6,HG⟩ := HG;rw [e1,e2];clear e1 e2
    revert HG;refine puK fun b7 w7 s7 HG => ?_
    go_wp2
    go_roundg m
    case rel => exact ⟨_, _, rfl, by omega, po HG⟩
    case measure => omega
   have kle : decide (lv ≤ k) = true := by simp; omega
   replace HG := re (if_neg hle) HG
   exact en
  | false =>
   replace HG := re (if_neg (show ¬ k < Rs.lev X sk by unfold Rs.lev; rw [HNt.out, if_neg (by simpa using k3)]; omega)) HG
   exact en
end
end Go.Proofs.YtjickecdkmljpaaGreatDoor.R
