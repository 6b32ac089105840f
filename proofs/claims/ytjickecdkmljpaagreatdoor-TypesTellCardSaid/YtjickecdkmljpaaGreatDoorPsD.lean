/-
  PROVED HERE: the program's parser: names with their types, signatures, types. the program's parser: methods, types, declarations, the first part of an expression. the program's parser: parts of an expression. No condition beyond the lemmas' own premises.
-/
import Derived.Test.YtjickecdkmljpaaGreatDoorPsSx
namespace Go.Proofs.YtjickecdkmljpaaGreatDoor
open Go.RowKit

section
variable {N p : Nat} {w : World} {X : Ps.Src} {S : ByteArray} {s : Ps.St} {tv nv : Value} {D : List (Ps.Nd × Value)}
set_option maxRecDepth 100000 in
set_option maxHeartbeats 2000000 in
theorem spparam_any (rec : Ps.Rec) (HT : Hid (Cn X S 156 (rec .typ))) : POk X S 154 oneV (Ps.named X rec 7) := by
 intro N p w s tv nv D h hne
 have HG := x0 oneV h hne (by unfold Ps.named;exact rfl);clear h hne
 go_enter Tryz.func154, Tryz.ntmps154
 go_wp2_with fail
 revert HG;refine name_ fun w1 HG => ?_
 generalize Ps.now X s = t at HG ⊢
 go_wp2_with fail
 replace HG := bt t HG;obtain ⟨w2,q2,e1,e2,l2,HG⟩ := HG;rw [e1,e2];clear e1 e2
 go_wp2_with fail
 revert HG;refine hd fun w3 HG hS => ?_
 refine ta 0 ?_;refine ta 1 ?_;refine ta 2 ?_;refine ta 3 ?_;refine ta 4 ?_;refine ta 5 ?_
 refine rd1 6 fun K hK => ?_;go_simp
 revert HG;refine c1 HT.out fun a4 w4 s4 HG => ?_
 go_wp2_with fail
 refine hK.out _ _ (bk0 HG) fun hS => ?_;clear hK K
 refine rd1 7 fun K hK => ?_;go_simp
 replace HG := ro1 a4 HG;obtain ⟨w5,q5,e1,e2,l5,HG⟩ := HG;rw [e1,e2];clear e1 e2
 refine hK.out _ _ (bk1 HG) fun hS => ?_;clear hK K
 refine ta 8 ?_
 refine rd1 9 fun K hK => ?_;go_simp
 revert HG;refine pu fun b6 w6 s6 HG => ?_
 go_wp2_with fail
 refine hK.out _ _ (bk0 HG) fun hS => ?_;clear hK K
 refine ta 10 ?_
 refine dn ?_
 exact en
set_option maxRecDepth 100000 in
set_option maxHeartbeats 2000000 in
theorem spfield_any (rec : Ps.Rec) (HT : Hid (Cn X S 156 (rec .typ))) : POk X S 148 oneV (Ps.named X rec 9) := by
 intro N p w s tv nv D h hne
 have HG := x0 oneV h hne (by unfold Ps.named;exact rfl);clear h hne
 go_enter Tryz.func148, Tryz.ntmps148
 go_wp2_with fail
 revert HG;refine name_ fun w1 HG => ?_
 generalize Ps.now X s = t at HG ⊢
 go_wp2_with fail
 replace HG := bt t HG;obtain ⟨w2,q2,e1,e2,l2,HG⟩ := HG;rw [e1,e2];clear e1 e2
 go_wp2_with fail
 revert HG;refine hd fun w3 HG hS => ?_
 refine ta 0 ?_;refine ta 1 ?_;refine ta 2 ?_;refine ta 3 ?_;refine ta 4 ?_;refine ta 5 ?_
 refine rd1 6 fun K hK => ?_;go_simp
 revert HG;refine c1 HT.out fun a4 w4 s4 HG => ?_
 go_wp2_with fail
 refine hK.out _ _ (bk0 HG) fun hS => ?_;clear hK K
 refine rd1 7 fun K hK => ?_;go_simp
 replace HG := ro1 a4 HG;obtain ⟨w5,q5,e1,e2,l5,HG⟩ := HG;rw [e1,e2];clear e1 e2
 refine hK.out _ _ (bk1 HG) fun hS => ?_;clear hK K
 refine ta 8 ?_
 refine rd1 9 fun K hK => ?_;go_simp
 revert HG;refine pu fun b6 w6 s6 HG => ?_
 go_wp2_with fail
 refine hK.out _ _ (bk0 HG) fun hS => ?_;clear hK K
 refine ta 10 ?_
 refine dn ?_
 exact en
theorem pointer_cn : Cn X S 151 (Ps.pointer X) := ⟨sppointer_any, fun _s => Ps.pointer_one _, fun s => Ps.pointer_dp s⟩
set_option maxRecDepth 100000 in
set_option maxHeartbeats 2000000 in
theorem spsig_any (rec : Ps.Rec) (HT : Hid (Cn X S 156 (rec .typ))) (HL : Hid (Lo X S 154 (Ps.list X (rec (.params []))))) : POk X S 99 oneV (Ps.sig X rec) := by
 intro N p w s tv nv D h hne
 have HG := x0 oneV h hne (by unfold Ps.sig;exact rfl);clear h hne
 go_enter Tryz.func99, Tryz.ntmps99
 have hf3 := tok_fld3
 go_wp2_with fail
 revert HG;refine now_ fun w1 HG => ?_;generalize Ps.now X s = t at HG ⊢
 go_wp2_with fail
 replace HG := bn #[.int .i64 8, .int .i64 (t.pos : Int), .int .i64 0, .string ⟨#[]⟩, .slice none 0 0] 41 HG;obtain ⟨w2,q2,e1,e2,l2,HG⟩ := HG;rw [e1,e2];clear e1 e2
 go_wp2_with fail
 revert HG;refine cl_ HL.out fun l3 ua3 uc3 w3 s3 hl3 HG => ?_
 have d0 := ce1 HG
 replace HG := so1 4 (.slice ua3 l3.length uc3) HG
 replace HG := so1 2 (.int .i64 (l3.length : Int)) HG
 go_wp2_with fail
 replace HG := gn HG;obtain ⟨w4,e,HG⟩ := HG;rw [e];clear e
 clear d0
 revert HG;refine begins_ (fun w5 HG => ?_) fun w6 HG => ?_
 ·go_wp2_with fail
  revert HG;refine hdA fun w7 HG => ?_;refine tq 0 ?_;refine tq 2 ?_;refine ra2 1 3 (fun K hK => ?_) fun K hK => ?_
  ·have c := ce1 HG;go_simp;refine hK _ _ ?_;clear hK K c
   refine ra1 3 fun K hK => ?_
   go_simp
   revert HG;refine c1 HT.out fun a8 w8 s8 HG => ?_
   go_wp2_with fail
   refine ra1 4 fun K hK => ?_;go_simp;refine hK _ _ ?_;clear hK K
   refine ra1 5 fun K hK => ?_;revert HG;refine apS a8 (hl3) fun g9 g9c w9 HG => ?_;refine hK _ _ ?_;clear hK K;refine tq 6 ?_;refine ra1 7 fun K hK => ?_;have c := ce1 HG;go_simp;refine hK _ _ ?_;clear hK K c
   replace HG := so1 4 (.slice (some ⟨g9, 0, none⟩) (l3.length + 1) g9c) HG
   replace HG := gn HG;obtain ⟨w10,e,HG⟩ := HG;rw [e];clear e
   refine dA ?_
   have c := ce1 HG
   go_wp2_with fail
   revert HG;refine pu fun b11 w11 s11 HG => ?_
   exact en
  go_simp
  revert HG;refine c1 HT.out fun a12 w12 s12 HG => ?_
  go_wp2_with fail
  refine ra2 1 4 (fun K hK => ?_) fun K hK => ?_
  ·have c := ce1 HG;go_simp;refine hK _ _ ?_;clear hK K c
   refine ra1 4 fun K hK => ?_;go_simp;refine hK _ _ ?_;clear hK K
   refine ra1 5 fun K hK => ?_;revert HG;refine apS a12 (hl3) fun g13 g13c w13 HG => ?_;refine hK _ _ ?_;clear hK K;refine tq 6 ?_;refine ra1 7 fun K hK => ?_;have c := ce1 HG;go_simp;refine hK _ _ ?_;clear hK K c
   replace HG := so1 4 (.slice (some ⟨g13, 0, none⟩) (l3.length + 1) g13c) HG
   replace HG := gn HG;obtain ⟨w14,e,HG⟩ := HG;rw [e];clear e
   refine dA ?_
   have c := ce1 HG
   go_wp2_with fail
   revert HG;refine pu fun b15 w15 s15 HG => ?_
   exact en
  go_simp;refine hK _ _ ?_;clear hK K;refine ra1 1 fun K hK => ?_
  have c := ce2 (rR a12 HG);go_simp;refine hK _ _ ?_;clear hK K c
  refine ra1 5 fun K hK => ?_;revert HG;refine apS a12 (hl3) fun g16 g16c w16 HG => ?_;refine hK _ _ ?_;clear hK K;refine tq 6 ?_;refine ra1 7 fun K hK => ?_;have c := ce1 HG;go_simp;refine hK _ _ ?_;clear hK K c
  replace HG := so1 4 (.slice (some ⟨g16, 0, none⟩) (l3.length + 1) g16c) HG
  replace HG := gn HG;obtain ⟨w17,e,HG⟩ := HG;rw [e];clear e
  refine dA ?_
  have c := ce1 HG
  go_wp2_with fail
  revert HG;refine pu fun b18 w18 s18 HG => ?_
  exact en
 have c := ce1 HG
 go_wp2_with fail
 revert HG;refine pu fun b19 w19 s19 HG => ?_
 exact en
set_option maxRecDepth 100000 in
set_option maxHeartbeats 2000000 in
theorem sptyp_any (rec : Ps.Rec) (HT : Hid (Cn X S 156 (rec .typ))) (HL : Hid (Lo X S 156 (Ps.list X (rec (.typs []))))) : POk X S 156 oneV (Ps.typF X rec) := by
 intro N p w s tv nv D h hne
 have HG := x0 oneV h hne (by unfold Ps.typF;exact rfl);clear h hne
 go_enter Tryz.func156, Tryz.ntmps156
 go_wp2_with fail
 revert HG;refine now_ fun w1 HG => ?_;generalize hn : Ps.now X s = t at HG ⊢
 have HNt := zh hn;clear hn
 go_wp2_with fail
 replace HG := bt t HG;obtain ⟨w2,q2,e1,e2,l2,HG⟩ := HG;rw [e1,e2];clear e1 e2
 go_wp2_with fail
 revert HG;refine took Ps.k_int (fun w3 KB HG => ?_) fun w4 KB HG => ?_
 ·have c := ce0 HG
  replace HG := k0 HG
  go_wp2_with fail
  revert HG;refine pu fun b5 w5 s5 HG => ?_
  exact en
 go_wp2_with fail
 revert HG;refine took Ps.k_bool (fun w6 KB HG => ?_) fun w7 KB HG => ?_
 ·have c := ce0 HG
  replace HG := k0 HG
  go_wp2_with fail
  revert HG;refine pu fun b8 w8 s8 HG => ?_
  exact en
 go_wp2_with fail
 revert HG;refine is_ Ps.k_star (fun w9 KB HG => ?_) fun w10 KB HG => ?_
 ·go_wp2_with fail
  exact tl pointer_cn HG
 go_wp2_with fail
 revert HG;refine is_ Ps.k_chan (fun w11 KB HG => ?_) fun w12 KB HG => ?_
 ·go_wp2_with fail
  revert HG;refine enter_ Ps.k_chan fun w13 KB HG => ?_
  go_wp2_with fail
  revert HG;refine hd fun w14 HG hS => ?_
  refine ta 0 ?_
  refine ta 1 ?_
  refine ta 2 ?_
  refine rd2 3 6 (fun K hK => ?_) fun K hK => ?_
  ·go_simp
   revert HG;refine c1 HT.out fun a15 w15 s15 HG => ?_
   go_wp2_with fail
   refine hK.out _ _ (bk0 HG) fun hS => ?_;clear hK K
   refine rd2 4 6 (fun K hK => ?_) fun K hK => ?_
   ·go_simp
    replace HG := ro1 a15 HG;obtain ⟨w16,q16,e1,e2,l16,HG⟩ := HG;rw [e1,e2];clear e1 e2
    refine hK.out _ _ (bk1 HG) fun hS => ?_;clear hK K
    refine ta 5 ?_
    refine rd1 6 fun K hK => ?_
    go_simp
    replace HG := bn #[.int .i64 0, .int .i64 0, .int .i64 0, .string ⟨#[]⟩, .slice none 0 0] 41 HG;obtain ⟨w17,q17,e1,e2,l17,HG⟩ := HG;rw [e1,e2];clear e1 e2
    refine hK.out _ _ (bk2 HG) fun hS => ?_;clear hK K
    refine rd1 7 fun K hK => ?_
    have c := ce0 HG
    go_simp
    replace HG := so0 0 (.int .i64 5) HG
    replace HG := so0 1 (.int .i64 (t.pos : Int)) HG
    replace HG := so0 2 (.int .i64 0) HG
    replace HG := so0 3 (.string ⟨#[]⟩) HG
    replace HG := so0 4 (.slice (some ⟨q16, 0, none⟩) 1 1) HG
    clear c
    replace HG := gn HG;obtain ⟨w18,e,HG⟩ := HG;rw [e];clear e
    refine hK.out _ _ (bk2 HG) fun hS => ?_;clear hK K
    refine dn ?_
    obtain ⟨b1,b2,b3,b4,b5⟩ := pc HG;have hd := pdd HG;replace HG := dd HG
    have c0 := ce0 HG
    go_wp2_with fail
    replace HG := gn HG;obtain ⟨w19,e,HG⟩ := HG;rw [e];clear e
    clear b1 b2 b3 b4 b5 hd c0
    replace HG := sw HG
    revert HG;refine pu fun b20 w20 s20 HG => ?_
    exact en
   go_simp
   replace HG := bn #[.int .i64 0, .int .i64 0, .int .i64 0, .string ⟨#[]⟩, .slice none 0 0] 41 HG;obtain ⟨w21,q21,e1,e2,l21,HG⟩ := HG;rw [e1,e2];clear e1 e2
   refine hK.out _ _ (bk1 HG) fun hS => ?_;clear hK K
   refine rd1 4 fun K hK => ?_
   go_simp
   replace HG := ro1 a15 HG;obtain ⟨w22,q22,e1,e2,l22,HG⟩ := HG;rw [e1,e2];clear e1 e2
   refine hK.out _ _ (bk2 HG) fun hS => ?_;clear hK K
   refine ta 5 ?_
   refine rd1 7 fun K hK => ?_
   have c := ce1 HG
   go_simp
   replace HG := so1 0 (.int .i64 5) HG
   replace HG := so1 1 (.int .i64 (t.pos : Int)) HG
   replace HG := so1 2 (.int .i64 0) HG
   replace HG := so1 3 (.string ⟨#[]⟩) HG
   replace HG := so1 4 (.slice (some ⟨q22, 0, none⟩) 1 1) HG
   clear c
   replace HG := gn HG;obtain ⟨w23,e,HG⟩ := HG;rw [e];clear e
   refine hK.out _ _ (bk2 HG) fun hS => ?_;clear hK K
   refine dn ?_
   obtain ⟨b1,b2,b3,b4,b5⟩ := pc HG;have hd := pdd HG;replace HG := dd HG
   have c0 := ce1 HG
   go_wp2_with fail
   replace HG := gn HG;obtain ⟨w24,e,HG⟩ := HG;rw [e];clear e
   clear b1 b2 b3 b4 b5 hd c0
   revert HG;refine pu fun b25 w25 s25 HG => ?_
   exact en
  go_simp
  replace HG := bn #[.int .i64 0, .int .i64 0, .int .i64 0, .string ⟨#[]⟩, .slice none 0 0] 41 HG;obtain ⟨w26,q26,e1,e2,l26,HG⟩ := HG;rw [e1,e2];clear e1 e2
  refine hK.out _ _ (bk1 HG) fun hS => ?_;clear hK K
  refine rd1 3 fun K hK => ?_
  go_simp
  revert HG;refine c1 HT.out fun a27 w27 s27 HG => ?_
  go_wp2_with fail
  refine hK.out _ _ (bk1 HG) fun hS => ?_;clear hK K
  refine rd1 4 fun K hK => ?_
  go_simp
  replace HG := ro1 a27 HG;obtain ⟨w28,q28,e1,e2,l28,HG⟩ := HG;rw [e1,e2];clear e1 e2
  refine hK.out _ _ (bk2 HG) fun hS => ?_;clear hK K
  refine ta 5 ?_
  refine rd1 7 fun K hK => ?_
  have c := ce1 HG
  go_simp
  replace HG := so1 0 (.int .i64 5) HG
  replace HG := so1 1 (.int .i64 (t.pos : Int)) HG
  replace HG := so1 2 (.int .i64 0) HG
  replace HG := so1 3 (.string ⟨#[]⟩) HG
  replace HG := so1 4 (.slice (some ⟨q28, 0, none⟩) 1 1) HG
  clear c
  replace HG := gn HG;obtain ⟨w29,e,HG⟩ := HG;rw [e];clear e
  refine hK.out _ _ (bk2 HG) fun hS => ?_;clear hK K
  refine dn ?_
  obtain ⟨b1,b2,b3,b4,b5⟩ := pc HG;have hd := pdd HG;replace HG := dd HG
  have c0 := ce1 HG
  go_wp2_with fail
  replace HG := gn HG;obtain ⟨w30,e,HG⟩ := HG;rw [e];clear e
  clear b1 b2 b3 b4 b5 hd c0
  revert HG;refine pu fun b31 w31 s31 HG => ?_
  exact en
 go_wp2_with fail
 revert HG;refine is_ Ps.k_func (fun w32 KB HG => ?_) fun w33 KB HG => ?_
 ·go_wp2_with fail
  revert HG;refine enter_ Ps.k_func fun w34 KB HG => ?_
  have c := ce0 HG
  go_wp2_with fail
  clear c
  replace HG := bn #[.int .i64 6, .int .i64 (t.pos : Int), .int .i64 0, .string ⟨#[]⟩, .slice none 0 0] 41 HG;obtain ⟨w35,q35,e1,e2,l35,HG⟩ := HG;rw [e1,e2];clear e1 e2
  go_wp2_with fail
  revert HG;refine cl_ HL.out fun l36 ua36 uc36 w36 s36 hl36 HG => ?_
  have d0 := ce1 HG
  replace HG := so1 4 (.slice ua36 l36.length uc36) HG
  replace HG := so1 2 (.int .i64 (l36.length : Int)) HG
  go_wp2_with fail
  replace HG := gn HG;obtain ⟨w37,e,HG⟩ := HG;rw [e];clear e
  clear d0
  revert HG;refine begins_ (fun w38 HG => ?_) fun w39 HG => ?_
  ·go_wp2_with fail
   revert HG;refine hdA fun w40 HG => ?_;refine tq 0 ?_;refine tq 2 ?_;refine ra2 1 3 (fun K hK => ?_) fun K hK => ?_
   ·have c := ce1 HG;go_simp;refine hK _ _ ?_;clear hK K c
    refine ra1 3 fun K hK => ?_
    go_simp
    revert HG;refine c1 HT.out fun a41 w41 s41 HG => ?_
    go_wp2_with fail
    refine ra1 4 fun K hK => ?_;go_simp;refine hK _ _ ?_;clear hK K
    refine ra1 5 fun K hK => ?_;revert HG;refine apS a41 (hl36) fun g42 g42c w42 HG => ?_;refine hK _ _ ?_;clear hK K;refine tq 6 ?_;refine ra1 7 fun K hK => ?_;have c := ce1 HG;go_simp;refine hK _ _ ?_;clear hK K c
    replace HG := so1 4 (.slice (some ⟨g42, 0, none⟩) (l36.length + 1) g42c) HG
    replace HG := gn HG;obtain ⟨w43,e,HG⟩ := HG;rw [e];clear e
    refine dA ?_
    obtain ⟨b1,b2,b3,b4,b5⟩ := pc HG;have hd := pdd HG;replace HG := dd HG
    have c0 := ce1 HG
    go_wp2_with fail
    replace HG := gn HG;obtain ⟨w44,e,HG⟩ := HG;rw [e];clear e
    clear b1 b2 b3 b4 b5 hd c0
    revert HG;refine pu fun b45 w45 s45 HG => ?_
    exact en
   go_simp
   revert HG;refine c1 HT.out fun a46 w46 s46 HG => ?_
   go_wp2_with fail
   refine ra2 1 4 (fun K hK => ?_) fun K hK => ?_
   ·have c := ce1 HG;go_simp;refine hK _ _ ?_;clear hK K c
    refine ra1 4 fun K hK => ?_;go_simp;refine hK _ _ ?_;clear hK K
    refine ra1 5 fun K hK => ?_;revert HG;refine apS a46 (hl36) fun g47 g47c w47 HG => ?_;refine hK _ _ ?_;clear hK K;refine tq 6 ?_;refine ra1 7 fun K hK => ?_;have c := ce1 HG;go_simp;refine hK _ _ ?_;clear hK K c
    replace HG := so1 4 (.slice (some ⟨g47, 0, none⟩) (l36.length + 1) g47c) HG
    replace HG := gn HG;obtain ⟨w48,e,HG⟩ := HG;rw [e];clear e
    refine dA ?_
    obtain ⟨b1,b2,b3,b4,b5⟩ := pc HG;have hd := pdd HG;replace HG := dd HG
    have c0 := ce1 HG
    go_wp2_with fail
    replace HG := gn HG;obtain ⟨w49,e,HG⟩ := HG;rw [e];clear e
    clear b1 b2 b3 b4 b5 hd c0
    revert HG;refine pu fun b50 w50 s50 HG => ?_
    exact en
   go_simp;refine hK _ _ ?_;clear hK K;refine ra1 1 fun K hK => ?_
   have c := ce2 (rR a46 HG);go_simp;refine hK _ _ ?_;clear hK K c
   refine ra1 5 fun K hK => ?_;revert HG;refine apS a46 (hl36) fun g51 g51c w51 HG => ?_;refine hK _ _ ?_;clear hK K;refine tq 6 ?_;refine ra1 7 fun K hK => ?_;have c := ce1 HG;go_simp;refine hK _ _ ?_;clear hK K c
   replace HG := so1 4 (.slice (some ⟨g51, 0, none⟩) (l36.length + 1) g51c) HG
   replace HG := gn HG;obtain ⟨w52,e,HG⟩ := HG;rw [e];clear e
   refine dA ?_
   obtain ⟨b1,b2,b3,b4,b5⟩ := pc HG;have hd := pdd HG;replace HG := dd HG
   have c0 := ce1 HG
   go_wp2_with fail
   replace HG := gn HG;obtain ⟨w53,e,HG⟩ := HG;rw [e];clear e
   clear b1 b2 b3 b4 b5 hd c0
   revert HG;refine pu fun b54 w54 s54 HG => ?_
   exact en
  obtain ⟨b1,b2,b3,b4,b5⟩ := pc HG;have hd := pdd HG;replace HG := dd HG
  have c0 := ce1 HG
  go_wp2_with fail
  replace HG := gn HG;obtain ⟨w55,e,HG⟩ := HG;rw [e];clear e
  clear b1 b2 b3 b4 b5 hd c0
  revert HG;refine pu fun b56 w56 s56 HG => ?_
  exact en
 go_wp2_with fail
 revert HG;refine hd fun w57 HG hS => ?_
 refine ta 0 ?_;refine ta 1 ?_;refine ta 2 ?_;refine ta 3 ?_
 refine rd1 4 fun K hK => ?_;go_simp
 revert HG;refine name_ fun w58 HG => ?_;rw [HNt.out]
 have hf1 := tok_fld1
 go_wp2_with fail
 refine hK.out _ _ (bk0 HG) fun hS => ?_;clear hK K
 refine ta 5 ?_;refine ta 6 ?_
 refine rd1 7 fun K hK => ?_;go_simp
 replace HG := k0 HG
 revert HG;refine pu fun b59 w59 s59 HG => ?_
 go_wp2_with fail
 refine hK.out _ _ (bk0 HG) fun hS => ?_;clear hK K
 refine ta 8 ?_
 refine dn ?_
 exact en
end
end Go.Proofs.YtjickecdkmljpaaGreatDoor
namespace Go.Proofs.YtjickecdkmljpaaGreatDoor
open Go.RowKit

section
variable {N p : Nat} {w : World} {X : Ps.Src} {S : ByteArray} {s : Ps.St} {tv nv : Value} {D : List (Ps.Nd × Value)}
set_option maxRecDepth 100000 in
set_option maxHeartbeats 2000000 in
theorem spmade_any (rec : Ps.Rec) (HT : Hid (Cn X S 156 (rec .typ))) : AtOk X S 294 oneV (Ps.made X rec) := by
 intro at_ N p w s tv nv D h hne
 have HG := x0 oneV h hne (by unfold Ps.made;exact rfl);clear h hne
 go_enter Tryz.func294, Tryz.ntmps294
 go_wp2_with fail
 revert HG;refine enter_ Ps.k_lp fun w1 KB HG => ?_
 go_wp2_with fail
 revert HG;refine enter_ Ps.k_chan fun w2 KB HG => ?_
 go_wp2_with fail
 revert HG;refine c1 HT.out fun a3 w3 s3 HG => ?_
 replace HG := rbR a3 #[.int .i64 42, .int .i64 (at_ : Int), .int .i64 0, .string ⟨#[]⟩, .slice (some ⟨w3.heap.size, 0, none⟩) 1 1] 41 HG
 obtain ⟨b1,b2,b3,b4,b5⟩ := pc HG;have hd := pdd HG;replace HG := dd HG
 go_wp2_with fail
 replace HG := gn HG;obtain ⟨w4,e,HG⟩ := HG;rw [e];clear e
 clear b1 b2 b3 b4 b5 hd
 revert HG;refine took Ps.k_com (fun w5 KB HG => ?_) fun w6 KB HG => ?_
 ·have hf0 := tok_fld0
  have hf2 := tok_fld2
  go_wp2_with fail
  revert HG;refine now_ fun w7 HG => ?_;generalize hn : Ps.now X (Ps.adv (Ps.down s3)) = t at HG ⊢
  have HNt := zh hn;clear hn
  cases hb : Ps.isNum X (Ps.adv (Ps.down s3))
  ·have kk : (t.kind != 2) = true := by have h1 := hb; unfold Ps.isNum at h1; rw [HNt.out] at h1; simpa using h1
   replace HG := re (if_neg (by rw [hb]; decide)) HG;clear hb
   go_wp2_with fail
   exact fail_ HG
  have kk : (t.kind != 2) = false := by have h1 := hb; unfold Ps.isNum at h1; rw [HNt.out] at h1; simpa using h1
  have hlt := isNum_lt _ _ hb;replace HG := re (if_pos hb) HG;clear hb
  go_wp2_with fail
  revert HG;refine now_ fun w8 HG => ?_;rw [HNt.out]
  have d := ce0 HG
  replace HG := so0 2 (.int .i64 t.num) HG
  obtain ⟨b1,b2,b3,b4,b5⟩ := pc HG;have f9 := iw1 hlt HG;replace HG := ia hlt HG
  go_wp2_with fail
  replace HG := gn HG;obtain ⟨w9,e,HG⟩ := HG;rw [e];clear e
  clear b1 b2 b3 b4 b5 f9 d
  revert HG;refine leave_ Ps.k_rp fun w10 HG => ?_
  have c := ce0 HG
  go_wp2_with fail
  replace HG := sw HG
  revert HG;refine pu fun b11 w11 s11 HG => ?_
  exact en
 go_wp2_with fail
 revert HG;refine leave_ Ps.k_rp fun w12 HG => ?_
 have c := ce0 HG
 go_wp2_with fail
 replace HG := sw HG
 revert HG;refine pu fun b13 w13 s13 HG => ?_
 exact en
set_option maxRecDepth 100000 in
set_option maxHeartbeats 2000000 in
theorem spmethod_any (rec : Ps.Rec) (HS : Hid (Cn X S 99 (Ps.sig X rec))) (HB : Hid (Cn X S 100 (rec .block))) : AtOk X S 97 oneV (Ps.method X rec) := by
 intro at_ N p w s tv nv D h hne
 have HG := x0 oneV h hne (by unfold Ps.method;exact rfl);clear h hne
 go_enter Tryz.func97, Tryz.ntmps97
 go_wp2_with fail
 revert HG;refine enter_ Ps.k_lp fun w1 KB HG => ?_
 go_wp2_with fail
 revert HG;refine name_ fun w2 HG => ?_
 generalize Ps.now X (Ps.up (Ps.adv s)) = t at HG ⊢
 go_wp2_with fail
 replace HG := bt t HG;obtain ⟨w3,q3,e1,e2,l3,HG⟩ := HG;rw [e1,e2];clear e1 e2
 go_wp2_with fail
 revert HG;refine c1 pointer_cn fun a4 w4 s4 HG => ?_
 go_wp2_with fail
 revert HG;refine leave_ Ps.k_rp fun w5 HG => ?_
 have c := ce0 HG
 go_wp2_with fail
 replace HG := ro1 a4 HG;obtain ⟨w6,q6,e1,e2,l6,HG⟩ := HG;rw [e1,e2];clear e1 e2
 clear c
 have c := ce1 HG
 go_wp2_with fail
 clear c
 revert HG;refine puK fun b7 w7 s7 HG => ?_
 go_wp2_with fail
 revert HG;refine name_ fun w8 HG => ?_
 generalize Ps.now X s7 = t2 at HG ⊢
 go_wp2_with fail
 replace HG := bt t2 HG;obtain ⟨w9,q9,e1,e2,l9,HG⟩ := HG;rw [e1,e2];clear e1 e2
 go_wp2_with fail
 revert HG;refine c1 HS.out fun a10 w10 s10 HG => ?_
 go_wp2_with fail
 revert HG;refine hd fun w11 HG hS => ?_
 refine ta 0 ?_;refine ta 1 ?_;refine ta 2 ?_;refine ta 3 ?_;refine ta 4 ?_;refine ta 5 ?_;refine ta 6 ?_
 refine rd1 7 fun K hK => ?_;go_simp
 revert HG;refine c1 HB.out fun a12 w12 s12 HG => ?_
 go_wp2_with fail
 refine hK.out _ _ (bk0 HG) fun hS => ?_;clear hK K
 refine rd1 8 fun K hK => ?_;go_simp
 replace HG := ro3 b7 a10 a12 HG;obtain ⟨w13,q13,e1,e2,l13,HG⟩ := HG;rw [e1,e2];clear e1 e2
 refine hK.out _ _ (bk1 HG) fun hS => ?_;clear hK K
 refine ta 9 ?_
 refine rd1 10 fun K hK => ?_;go_simp
 revert HG;refine pu fun b14 w14 s14 HG => ?_
 go_wp2_with fail
 refine hK.out _ _ (bk0 HG) fun hS => ?_;clear hK K
 refine ta 11 ?_
 refine dn ?_
 exact en
set_option maxRecDepth 100000 in
set_option maxHeartbeats 2000000 in
theorem sptyped_any (rec : Ps.Rec) (HI : Hid (Io X S 148 (Ps.items X (rec (.fields []))))) (HM : Hid (MOk X S (Ps.items X (rec (.msigs []))) ∧ ∀ s, Ps.Dp (Ps.items X (rec (.msigs [])) s) s.deep)) : AtOk X S 95 oneV (Ps.typed X rec) := by
 intro at_ N p w s tv nv D h hne
 have HG := x0 oneV h hne (by unfold Ps.typed;exact rfl);clear h hne
 go_enter Tryz.func95, Tryz.ntmps95
 have hf1 := tok_fld1
 replace HG := bR #[.pointer (some ⟨p, 0, none⟩)] 61 HG
 have c := ce0 HG
 go_wp2_with fail
 revert HG;refine name_ fun w1 HG => ?_
 generalize Ps.now X s = t at HG ⊢
 clear c
 replace HG := bR #[.int .i64 0, .int .i64 (at_ : Int), .int .i64 0, .string (str t.text), .slice none 0 0] 41 HG
 have c := ce1 HG
 go_wp2_with fail
 clear c;revert HG;refine took Ps.k_struct (fun w2 KB HG => ?_) fun w3 KB HG => ?_
 ·have d := ce0 HG
  replace HG := so0 0 (.int .i64 10) HG
  have c := ce1 HG
  go_wp2_with fail
  replace HG := gn HG;obtain ⟨w4,e,HG⟩ := HG;rw [e];clear e
  clear c d
  revert HG;refine cl_ HI.out fun l5 ua5 uc5 w5 s5 hl5 HG => ?_
  have d0 := ce1 HG
  replace HG := so1 4 (.slice ua5 l5.length uc5) HG
  have c0 := ce1 HG
  have c1 := ce2 HG
  go_wp2_with fail
  replace HG := gn HG;obtain ⟨w6,e,HG⟩ := HG;rw [e];clear e
  clear d0 c0 c1
  revert HG;refine pu fun b7 w7 s7 HG => ?_
  exact en
 have c := ce1 HG
 go_wp2_with fail
 revert HG;refine take_ Ps.k_interface fun w8 KB HG => ?_
 clear c
 have d := ce0 HG
 replace HG := so0 0 (.int .i64 12) HG
 have c := ce1 HG
 go_wp2_with fail
 replace HG := gn HG;obtain ⟨w9,e,HG⟩ := HG;rw [e];clear e
 clear c d
 revert HG;refine clM HM.out.1 HM.out.2 fun l10 ua10 uc10 w10 s10 hl10 HG => ?_
 have d0 := ce1 HG
 replace HG := so1 4 (.slice ua10 l10.length uc10) HG
 have c0 := ce1 HG
 have c1 := ce2 HG
 go_wp2_with fail
 replace HG := gn HG;obtain ⟨w11,e,HG⟩ := HG;rw [e];clear e
 clear d0 c0 c1
 revert HG;refine pu fun b12 w12 s12 HG => ?_
 exact en
set_option maxRecDepth 100000 in
set_option maxHeartbeats 2000000 in
theorem spdecl_any (rec : Ps.Rec) (HS : Hid (Cn X S 99 (Ps.sig X rec))) (HB : Hid (Cn X S 100 (rec .block))) (HTY : Hid (∀ at_ : Nat, Cn X S 95 (Ps.typed X rec at_) [.int .i64 (at_ : Int)])) (HME : Hid (∀ at_ : Nat, Cn X S 97 (Ps.method X rec at_) [.int .i64 (at_ : Int)])) : POk X S 44 oneV (Ps.declF X rec) := by
 intro N p w s tv nv D h hne
 have HG := x0 oneV h hne (by unfold Ps.declF;exact rfl);clear h hne
 go_enter Tryz.func44, Tryz.ntmps44
 have hf3 := tok_fld3
 go_wp2_with fail
 revert HG;refine now_ fun w1 HG => ?_;generalize Ps.now X s = t at HG ⊢
 go_wp2_with fail
 revert HG;refine took Ps.k_type (fun w2 KB HG => ?_) fun w3 KB HG => ?_
 ·go_wp2_with fail
  exact tl (HTY.out _) HG
 go_wp2_with fail
 revert HG;refine take_ Ps.k_func fun w4 KB HG => ?_
 go_wp2_with fail
 revert HG;refine is_ Ps.k_lp (fun w5 KB HG => ?_) fun w6 KB HG => ?_
 ·go_wp2_with fail
  exact tl (HME.out _) HG
 go_wp2_with fail
 revert HG;refine name_ fun w7 HG => ?_
 generalize Ps.now X (Ps.adv s) = t2 at HG ⊢
 go_wp2_with fail
 replace HG := bt t2 HG;obtain ⟨w8,q8,e1,e2,l8,HG⟩ := HG;rw [e1,e2];clear e1 e2
 go_wp2_with fail
 revert HG;refine c1 HS.out fun a9 w9 s9 HG => ?_
 go_wp2_with fail
 revert HG;refine hd fun w10 HG hS => ?_
 refine ta 0 ?_;refine ta 1 ?_;refine ta 2 ?_;refine ta 3 ?_;refine ta 4 ?_;refine ta 5 ?_
 refine rd1 6 fun K hK => ?_;go_simp
 revert HG;refine c1 HB.out fun a11 w11 s11 HG => ?_
 go_wp2_with fail
 refine hK.out _ _ (bk0 HG) fun hS => ?_;clear hK K
 refine rd1 7 fun K hK => ?_;go_simp
 replace HG := ro2 a9 a11 HG;obtain ⟨w12,q12,e1,e2,l12,HG⟩ := HG;rw [e1,e2];clear e1 e2
 refine hK.out _ _ (bk1 HG) fun hS => ?_;clear hK K
 refine ta 8 ?_
 refine rd1 9 fun K hK => ?_;go_simp
 revert HG;refine pu fun b13 w13 s13 HG => ?_
 go_wp2_with fail
 refine hK.out _ _ (bk0 HG) fun hS => ?_;clear hK K
 refine ta 10 ?_
 refine dn ?_
 exact en
set_option maxRecDepth 100000 in
set_option maxHeartbeats 4000000 in
theorem spfirst_any (rec : Ps.Rec) (HS : Hid (Cn X S 99 (Ps.sig X rec))) (HB : Hid (Cn X S 100 (rec .block))) (HE : Hid (Cn X S 201 (rec (.expr 0)))) (HMK : Hid (∀ at_ : Nat, Cn X S 294 (Ps.made X rec at_) [.int .i64 (at_ : Int)])) : POk X S 285 oneV (Ps.firstF X rec) := by
 intro N p w s tv nv D h hne
 have HG := x0 oneV h hne (by unfold Ps.firstF;exact rfl);clear h hne
 go_enter Tryz.func285, Tryz.ntmps285
 go_wp2_with fail
 revert HG;refine now_ fun w1 HG => ?_;generalize hn : Ps.now X s = t at HG ⊢
 have HNt := zh hn;clear hn
 replace HG := bR #[.int .i64 t.kind, .string (str t.text), .int .i64 t.num, .int .i64 (t.pos : Int)] 95 HG
 have c := ce0 HG
 cases hb : Ps.isNum X s
 ·have kk : (t.kind == 2) = false := by have h1 := hb; unfold Ps.isNum at h1; rw [HNt.out] at h1; exact h1
  replace HG := re (if_neg (by rw [hb]; decide)) HG;clear hb
  go_wp2_with fail
  replace HG := gn HG;obtain ⟨w2,e,HG⟩ := HG;rw [e];clear e
  clear c kk
  go_wp2_with fail
  revert HG;refine took Ps.k_true_ (fun w3 KB HG => ?_) fun w4 KB HG => ?_
  ·have c := ce0 HG
   replace HG := k0 HG
   go_wp2_with fail
   revert HG;refine pu fun b5 w5 s5 HG => ?_
   exact en
  go_wp2_with fail
  revert HG;refine took Ps.k_false_ (fun w6 KB HG => ?_) fun w7 KB HG => ?_
  ·have c := ce0 HG
   replace HG := k0 HG
   go_wp2_with fail
   revert HG;refine wi fun b8 w8 s8 HG => ?_
   exact en
  go_wp2_with fail
  revert HG;refine took Ps.k_nil (fun w9 KB HG => ?_) fun w10 KB HG => ?_
  ·have c := ce0 HG
   replace HG := k0 HG
   go_wp2_with fail
   revert HG;refine wi fun b11 w11 s11 HG => ?_
   exact en
  go_wp2_with fail
  revert HG;refine took Ps.k_func (fun w12 KB HG => ?_) fun w13 KB HG => ?_
  ·go_wp2_with fail
   revert HG;refine c1 HS.out fun a14 w14 s14 HG => ?_
   go_wp2_with fail
   revert HG;refine hd fun w15 HG hS => ?_
   refine ta 0 ?_;refine ta 1 ?_;refine ta 2 ?_;refine ta 3 ?_;refine ta 4 ?_
   refine rd1 5 fun K hK => ?_;go_simp
   revert HG;refine c1 HB.out fun a16 w16 s16 HG => ?_
   go_wp2_with fail
   refine hK.out _ _ (bk0 HG) fun hS => ?_;clear hK K
   refine rd1 6 fun K hK => ?_;go_simp
   replace HG := ro2 a14 a16 HG;obtain ⟨w17,q17,e1,e2,l17,HG⟩ := HG;rw [e1,e2];clear e1 e2
   refine hK.out _ _ (bk1 HG) fun hS => ?_;clear hK K
   refine rd1 7 fun K hK => ?_;go_simp
   revert HG;refine wi fun b18 w18 s18 HG => ?_
   go_wp2_with fail
   refine hK.out _ _ (bk0 HG) fun hS => ?_;clear hK K
   refine ta 8 ?_
   refine dn ?_
   exact en
  go_wp2_with fail
  revert HG;refine took Ps.k_new (fun w19 KB HG => ?_) fun w20 KB HG => ?_
  ·go_wp2_with fail
   revert HG;refine enter_ Ps.k_lp fun w21 KB HG => ?_
   go_wp2_with fail
   revert HG;refine name_ fun w22 HG => ?_
   generalize Ps.now X (Ps.up (Ps.adv (Ps.adv s))) = t2 at HG ⊢
   go_wp2_with fail
   replace HG := bt t2 HG;obtain ⟨w23,q23,e1,e2,l23,HG⟩ := HG;rw [e1,e2];clear e1 e2
   go_wp2_with fail
   revert HG;refine leave_ Ps.k_rp fun w24 HG => ?_
   have d := ce1 HG
   have c := ce0 HG
   replace HG := k0 HG
   go_wp2_with fail
   revert HG;refine pu fun b25 w25 s25 HG => ?_
   exact en
  go_wp2_with fail
  revert HG;refine took Ps.k_make (fun w26 KB HG => ?_) fun w27 KB HG => ?_
  ·have c := ce0 HG
   go_wp2_with fail
   exact tl (HMK.out _) HG
  go_wp2_with fail
  revert HG;refine is_ Ps.k_lp (fun w28 KB HG => ?_) fun w29 KB HG => ?_
  ·go_wp2_with fail
   revert HG;refine enter_ Ps.k_lp fun w30 KB HG => ?_
   go_wp2_with fail
   revert HG;refine c1 HE.out fun a31 w31 s31 HG => ?_
   go_wp2_with fail
   revert HG;refine leave_ Ps.k_rp fun w32 HG => ?_
   exact en
  go_wp2_with fail
  revert HG;refine hd fun w33 HG hS => ?_
  refine ta 0 ?_;refine ta 1 ?_;refine ta 2 ?_;refine ta 3 ?_
  refine rd1 4 fun K hK => ?_;go_simp
  revert HG;refine name_ fun w34 HG => ?_;rw [HNt.out]
  have hf1 := tok_fld1
  go_wp2_with fail
  refine hK.out _ _ (bk0 HG) fun hS => ?_;clear hK K
  refine ta 5 ?_;refine ta 6 ?_
  refine rd1 7 fun K hK => ?_;go_simp
  replace HG := k0 HG
  revert HG;refine pu fun b35 w35 s35 HG => ?_
  go_wp2_with fail
  refine hK.out _ _ (bk0 HG) fun hS => ?_;clear hK K
  refine ta 8 ?_
  refine dn ?_
  exact en
 have kk : (t.kind == 2) = true := by have h1 := hb; unfold Ps.isNum at h1; rw [HNt.out] at h1; exact h1
 have hlt := isNum_lt _ _ hb;replace HG := re (if_pos hb) HG;clear hb
 obtain ⟨b1,b2,b3,b4,b5⟩ := pc HG;have f9 := iw1 hlt HG;replace HG := ia hlt HG
 have d := ce0 HG
 go_wp2_with fail
 replace HG := gn HG;obtain ⟨w36,e,HG⟩ := HG;rw [e];clear e
 clear b1 b2 b3 b4 b5 f9 c d
 replace HG := k0 HG
 revert HG;refine pu fun b37 w37 s37 HG => ?_
 exact en
end
end Go.Proofs.YtjickecdkmljpaaGreatDoor
namespace Go.Proofs.YtjickecdkmljpaaGreatDoor
open Go.RowKit

section
variable {N p : Nat} {w : World} {X : Ps.Src} {S : ByteArray} {s : Ps.St} {tv nv : Value} {D : List (Ps.Nd × Value)}
/-- What is read as a part of an expression: the first part, and what stands behind it. -/
def partP (X : Ps.Src) (n : Nat) (s : Ps.St) : Ps.Res := (Ps.firstF X (Ps.run X n) s).bind fun e s1 => Ps.run X n (.part (e.getD 0 0)) s1
/-- Behind an append of a whole row to the row. -/
theorem Kd.grown0 {wk : World} {nk : Value} {E : List (Ps.Nd × Value)} {u : Value} {l l2 : List Nat} {w8 : World} {g2 m cap2 : Nat} (h : Kd N w wk (D ++ E) u l) (hG : Go N p X S w tv nv D wk s nk E) (hown : w8.ownsRow N 3 1 (.slice (some ⟨g2, 0, none⟩) (l.length + m) cap2) (l.length + m) (kidVals l ++ kidVals l2)) (hm : l2.length = m) (hgrow : wk.grownBy w8 u.ownBlock)
    (hat : u.ownBlock = some g2 ∨ g2 = wk.heap.size) : Go N p X S w tv nv D w8 s nk E ∧ Kd N w w8 (D ++ E) (.slice (some ⟨g2, 0, none⟩) (l.length + m) cap2) (l ++ l2) ∧ (∀ k, k < wk.heap.size → u.ownBlock ≠ some k → w8.heap[k]? = wk.heap[k]?) := by
  have hk : ∀ k, k < wk.heap.size → u.ownBlock ≠ some k → w8.heap[k]? = wk.heap[k]? := fun k h1 h2 => hgrow.block k h1 (fun e => h2 e.symm)
  have hst := hG.st
  have hs := hG.size
  have hup : u.ownBlock ≠ some p := fun e => own_ne_blk h.row hst.blk (by decide) e
  have hb8 : Below N wk w8 := Below.grown (Below.refl N wk) hgrow hst.nN (fun k hk2 => (h.row.lt k hk2).1)
  have hG8 : Go N p X S w tv nv D w8 s nk E := by
    refine ⟨{ hst with
        blk := (hk p (blk_lt hst.blk) hup).trans hst.blk
        toks := own_keep hst.toks (fun k hk2 => hk k (hst.toks.lt k hk2).2 (fun e => own_ne_own hst.toks h.row (by decide) hk2 e))
        nodes := ⟨own_keep hst.nodes.row (fun k hk2 => hk k (hst.nodes.row.lt k hk2).2 (fun e => own_ne_own hst.nodes.row h.row (by decide) hk2 e)), fun x hx => own_keep (hst.nodes.kids x hx) (fun k hk2 => hk k ((hst.nodes.kids x hx).lt k hk2).2 (h.ap x hx k hk2))⟩ },
      ⟨hG.mv.below.trans hb8, fun k h1 h2 h3 => (hk k (by omega) (fun e => ?_)).trans (hG.mv.keep k h1 h2 h3), hG.mv.row⟩, hG.fr, hG.tl, hG.pl⟩
    have := h.lo k e
    omega
  refine ⟨hG8, ⟨?_, fun b hb => ?_, fun x hx b hb e => ?_⟩, hk⟩
  · have : kidVals (l ++ l2) = kidVals l ++ kidVals l2 := List.map_append
    show w8.ownsRow N 3 1 _ (l ++ l2).length (kidVals (l ++ l2))
    rw [this, List.length_append, hm]
    exact hown
  · obtain rfl : g2 = b := by simpa [Value.ownBlock] using hb
    rcases hat with e | e
    · exact h.lo _ e
    · omega
  · obtain rfl : g2 = b := by simpa [Value.ownBlock] using e
    rcases hat with e | e
    · exact h.ap x hx _ hb e
    · have := ((hst.nodes.kids x hx).lt _ hb).2
      omega
theorem runN {wk : World} {val : List Nat → Value} {pl : Ps.Res} {dz : Int} {ko : Option Nat} {L : List It} {m : Nat} {f : Ps.Fn} (h : Hid (Sx N p X S w tv nv D val pl dz ko wk s L (Ps.run X m f s))) : ∃ k, m = k + 1 := by
  obtain ⟨_, _, h⟩ := h.out
  cases m with
  | zero => exact absurd h.eq h.ne
  | succ k => exact ⟨k, rfl⟩
/-- A whole row is appended to a row. -/
theorem apW {ops : Array Oper} {rest : List Oper} {o : Oper} {s0 x0 : Operand} {Z : Exit → Act → World → Prop} {a : Act} {wk : World} {val : List Nat → Value} {pl r : Ps.Res} {dz : Int} {ko : Option Nat} {L : List It} {l : List Nat} {e q : Nat} {ua : Option Addr} {uc : Nat} (hl : l.length ≤ 1000000)
    (h : ∀ ub uc2 w8, Hid (Sx N p X S w tv nv D val pl dz ko w8 s (.kd (.slice ub (l.length + 1) uc2) (e :: l) :: L) r) → wpList Tryz.prog ops Z rest (a.put o.dst (.slice ub (l.length + 1) uc2)) w8)
    (hL : bxs L = L := by rfl) (hgd : o.guard = none := by rfl) (ho : o.op = .call { callee := .builtin .append, args := #[s0, x0], argTypes := #[39, 39] } := by rfl) (hs : a.eval s0 = .slice (some ⟨q, 0, none⟩) 1 1 := by rfl) (hx : a.eval x0 = .slice ua l.length uc := by rfl) :
    Hid (Sx N p X S w tv nv D val pl dz ko wk s (.kd (.slice ua l.length uc) l :: .kd (.slice (some ⟨q, 0, none⟩) 1 1) [e] :: L) r) → wpList Tryz.prog ops Z (o :: rest) a wk := by
  intro HG
  obtain ⟨i0, hi0, hz0, hz1, hz2⟩ := info_parts int_info
  cases l with
  | nil => exact wpList_append_none wk hgd s0 x0 39 3 ho i0 Tryz.underlying39 hi0 _ 1 1 (Nat.le_refl _) hs ua uc hx (h _ _ _ (po HG))
  | cons b0 l0 =>
    obtain ⟨nk, E, hG⟩ := HG.out
    have hk : Kd N w wk (D ++ E) (.slice ua (b0 :: l0).length uc) (b0 :: l0) := hG.its _ (List.mem_cons_self ..)
    have hA : Kd N w wk (D ++ E) (.slice (some ⟨q, 0, none⟩) 1 1) [e] := hG.its _ (List.mem_cons_of_mem _ (List.mem_cons_self ..))
    have hN := hG.go.st.nN
    obtain ⟨gg, gc, hgg⟩ := own_lit hk.row (by simp)
    cases hgg
    refine wpList_append_lies _ hgd s0 x0 39 ho N 3 i0 _ 1 8 Tryz.underlying39 hi0 hz0 hz1 hz2 rfl (by omega) _ [e].length (kidVals [e]) hs hA.row ⟨gg, 0, none⟩ (b0 :: l0).length uc (kidVals (b0 :: l0)) hx (by simp [kidVals]) hk.news (kidVals_one _) (by simp) (by unfold maxLen; simp at hl ⊢; omega) (by simp at hl ⊢; omega) (by omega) wk.heap.size rfl ?_
    intro g cap w8 hown hgrow hat _
    obtain ⟨a1, a2, a3⟩ := hA.grown0 (l2 := b0 :: l0) hG.go hown rfl hgrow hat
    have e1 : [e].length + (b0 :: l0).length = (b0 :: l0).length + 1 := by simp; omega
    rw [e1] at a2 ⊢
    refine h _ _ _ (zh ⟨nk, E, a1, List.forall_mem_cons.2 ⟨a2, fun y hy => ?_⟩, List.pairwise_cons.2 ⟨fun y _ => by cases y <;> trivial, (List.pairwise_cons.1 (List.pairwise_cons.1 hG.off).2).2⟩, hG.eq, hG.ne, hG.d0, hG.dp⟩)
    obtain ⟨_, q3, c, t, rfl⟩ := bxs_mem (hL ▸ hy)
    have h3 := hG.its _ (List.mem_cons_of_mem _ (List.mem_cons_of_mem _ hy))
    exact ⟨⟨(a3 q3 h3.1.lt (fun e => own_ne_blk hA.row h3.1.blk h3.2 e)).trans h3.1.blk, h3.1.lo, h3.1.ne⟩, h3.2⟩
set_option maxRecDepth 100000 in
set_option maxHeartbeats 2000000 in
theorem sppart_any (n : Nat) (HF : Hid (Cn X S 285 (Ps.firstF X (Ps.run X n)))) (HL : Hid (∀ m, m < n → Lo X S 201 (Ps.list X (Ps.run X m (.exprs []))))) (HT : Hid (∀ m, m < n → Cn X S 156 (Ps.run X m .typ))) : POk X S 274 oneV (partP X n) := by
 intro N p w s tv nv D h hne
 have HG := x0 oneV h hne (by unfold partP;exact rfl);clear h hne
 go_enter Tryz.func274, Tryz.ntmps274
 go_wp2_with fail
 revert HG;refine c1 HF.out fun a1 w1 s1 HG => ?_
 go_wp2_with fail
 go_loopg [3] n (fun m e wr => ∃ (a : Nat) (sk : Ps.St), e = .int .i64 (a : Int) ∧ m ≤ n ∧ Hid (Sx N p X S w tv nv D oneV (partP X n s) s.deep (some 0) wr sk [] (Ps.run X m (.part a) sk)))
 case atStart => exact ⟨_, _, rfl, Nat.le_refl _, HG⟩
 case round =>
  clear HG;obtain ⟨a, sk, rfl, hm, HG⟩ := hrel;obtain ⟨m, rfl⟩ := runN HG;have hmn : m < n := by omega
  replace HG := re (r2 := _) (by unfold Ps.run Ps.bodyR Ps.partF;exact rfl) HG
  have hf3 := tok_fld3
  go_wp2_with fail
  revert HG;refine now_ fun w2 HG => ?_;generalize Ps.now X sk = t at HG ⊢
  go_wp2_with fail
  revert HG;refine is_ Ps.k_lp (fun w3 KB HG => ?_) fun w4 KB HG => ?_
  ·go_wp2_with fail
   replace HG := ro1 a HG;obtain ⟨w5,q5,e1,e2,l5,HG⟩ := HG;rw [e1,e2];clear e1 e2
   go_wp2_with fail
   revert HG;refine cl_ (HL.out m hmn) fun l6 ua6 uc6 w6 s6 hl6 HG => ?_
   go_wp2_with (at_builtin; revert HG;refine apW hl6 fun ua7 uc7 w7 HG => ?_)
   revert HG;refine wiK fun b8 w8 s8 HG => ?_
   go_wp2
   go_roundg m
   case rel => exact ⟨_, _, rfl, by omega, HG⟩
   case measure => omega
  go_wp2_with fail
  revert HG;refine took Ps.k_dot (fun w9 KB HG => ?_) fun w10 KB HG => ?_
  ·go_wp2_with fail
   revert HG;refine is_ Ps.k_lp (fun w11 KB HG => ?_) fun w12 KB HG => ?_
   ·go_wp2_with fail
    revert HG;refine enter_ Ps.k_lp fun w13 KB HG => ?_
    go_wp2_with fail
    revert HG;refine c1 (HT.out m hmn) fun a14 w14 s14 HG => ?_
    go_wp2_with fail
    revert HG;refine leave_ Ps.k_rp fun w15 HG => ?_
    go_wp2_with fail
    replace HG := ro2 a a14 HG;obtain ⟨w16,q16,e1,e2,l16,HG⟩ := HG;rw [e1,e2];clear e1 e2
    revert HG;refine wiK fun b17 w17 s17 HG => ?_
    go_wp2
    go_roundg m
    case rel => exact ⟨_, _, rfl, by omega, HG⟩
    case measure => omega
   have hf1 := tok_fld1
   go_wp2_with fail
   revert HG;refine name_ fun w18 HG => ?_
   generalize Ps.now X (Ps.adv sk) = t2 at HG ⊢
   go_wp2_with fail
   replace HG := ro1 a HG;obtain ⟨w19,q19,e1,e2,l19,HG⟩ := HG;rw [e1,e2];clear e1 e2
   revert HG;refine puK fun b20 w20 s20 HG => ?_
   go_wp2
   go_roundg m
   case rel => exact ⟨_, _, rfl, by omega, HG⟩
   case measure => omega
  exact en
end
end Go.Proofs.YtjickecdkmljpaaGreatDoor
