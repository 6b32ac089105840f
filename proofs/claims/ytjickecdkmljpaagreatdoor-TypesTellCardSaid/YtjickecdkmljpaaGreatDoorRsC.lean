/-
  PROVED HERE: the reference's parser: names with their types, lists, signatures, types. the reference's parser: the first part of an expression. the reference's parser: what is declared. No condition beyond the lemmas' own premises.
-/
import Derived.Test.YtjickecdkmljpaaGreatDoorRsSx
namespace Go.Proofs.YtjickecdkmljpaaGreatDoor.R
open Go.RowKit

section
variable {N p : Nat} {w : World} {X : Ps.Src} {S : ByteArray} {s : Rs.St} {tv nv : Value} {D : List (Ps.Nd × Value)}
/-- The contract of 'param', of 'expr': a number besides. -/
def NumOk (X : Ps.Src) (S : ByteArray) (f : FuncId) (k : Int) (plain : Rs.St → Rs.Res) : Prop :=
  ∀ (N p : Nat) (w : World) (s : Rs.St) (tv nv : Value) (D : List (Ps.Nd × Value)), PSt N p w X S s tv nv D → plain s ≠ .out → Calls Tryz.prog f #[.pointer (some ⟨p, 0, none⟩), .int .i64 k] w (Out N p X S w tv nv D oneV (plain s))
set_option maxRecDepth 100000 in
set_option maxHeartbeats 2000000 in
theorem rppointer_any  : POk X S 109 oneV (Rs.pointer X) := by
 intro N p w s tv nv D h hne
 have HG := x0 h hne (by unfold Rs.pointer;exact rfl);clear h hne
 go_enter Tryz.func109, Tryz.ntmps109
 go_wp2_with fail
 revert HG;refine take_ Ps.k_star fun w1 s1 HG => ?_
 generalize Rs.now X s = t at HG ⊢
 go_wp2_with fail
 revert HG;refine name_ fun w2 s2 HG => ?_;generalize Rs.nameT X s1 = nt at HG ⊢
 go_wp2_with fail
 replace HG := k0 HG
 revert HG;refine pu fun b3 w3 s3 HG => ?_
 exact en
theorem pointer_cn : Cn X S 109 (Rs.pointer X) := ⟨rppointer_any, fun _s => Rs.pointer_one _⟩
set_option maxRecDepth 100000 in
set_option maxHeartbeats 2000000 in
theorem rpparam_any (rec : Rs.Rec) (HT : Hid (Cn X S 158 (rec .typ))) (kind : Int) : NumOk X S 106 kind (Rs.named X rec kind) := by
 intro N p w s tv nv D h hne
 have HG := x0 h hne (by unfold Rs.named;exact rfl);clear h hne
 go_enter Tryz.func106, Tryz.ntmps106
 go_wp2_with fail
 revert HG;refine now_ fun w1 HG => ?_;generalize Rs.now X s = t at HG ⊢
 go_wp2_with fail
 replace HG := bt t HG;obtain ⟨w2,q2,e1,e2,l2,HG⟩ := HG;rw [e1,e2];clear e1 e2
 go_wp2_with fail
 revert HG;refine name_ fun w3 s3 HG => ?_;generalize Rs.nameT X s = nt at HG ⊢
 go_wp2_with fail
 revert HG;refine c1 HT.out fun a4 w4 s4 HG => ?_
 have c := ce0 HG
 go_wp2_with fail
 replace HG := ro1 a4 HG;obtain ⟨w5,q5,e1,e2,l5,HG⟩ := HG;rw [e1,e2];clear e1 e2
 revert HG;refine pu fun b6 w6 s6 HG => ?_
 exact en
/-- Is a list over? -/
def liT (X : Ps.Src) (s : Rs.St) : Bool := Rs.isK X s Ps.k_rp || Rs.isWrong s
/-- The end of a list. -/
def liF (X : Ps.Src) (l : List Nat) (s : Rs.St) : Rs.Res := (Rs.leave X Ps.k_rp s).bind fun _ s3 => .ok l s3
set_option maxRecDepth 100000 in
set_option maxHeartbeats 8000000 in
theorem rplist_any (n : Nat) (hn : n ≤ 1000000) (what : Int) (lp : Nat → List Nat → Rs.St → Rs.Res) (one : Nat → Rs.St → Rs.Res) (h0 : ∀ a s, lp 0 a s = .out) (hs : ∀ m a s, lp (m + 1) a s = Rs.listL X (one m) (lp m) a s) (hok : ∀ m, m < n → (what = 0 ∧ Cn X S 158 (one m)) ∨ (what = 1 ∧ Cn X S 106 (one m) [.int .i64 7]) ∨ (what = 2 ∧ Cn X S 205 (one m) [.int .i64 0])) : Ln X S what (Rs.list X (lp n [])) := by
 intro N p w s tv nv D h hne
 have H0 := zh h0;have HSS := zh hs;have HOK := zh hok;clear h0 hs hok
 have HG := x0 h hne (by unfold Rs.list;exact rfl);clear h hne
 go_enter Tryz.func159, Tryz.ntmps159
 go_wp2_with fail
 revert HG;refine enter_ Ps.k_lp fun w1 s1 HG => ?_
 replace HG := lpI (t := liT X) (g := liF X) H0.out (fun m a s h => (HSS.out m a s).trans (if_pos h)) HG
 go_wp2_with fail
 revert HG;refine isV Ps.k_rp fun b2 w2 HB2 HG => ?_
 go_wp2_with fail
 go_loopg [5, 6] n (fun m u e wr => ∃ (acc : List Nat) (sk : Rs.St) (ua : Option Addr) (uc : Nat), u = .slice ua acc.length uc ∧ e = .bool (Rs.isK X sk Ps.k_rp) ∧ acc.length + m = n ∧ Hid (Sx N p X S w tv nv D (Rs.list X (lp n []) s) wr sk [.kd (.slice ua acc.length uc) acc] ((Lp (liT X) lp m acc sk).bind (liF X))))
 case atStart => exact ⟨[], _, none, 0, rfl, by rw [HB2.out], by simp, k0 HG⟩
 case round =>
  clear HG;obtain ⟨acc, sk, ua, uc, rfl, rfl, hacc, HG⟩ := hrel;have hlen : ∀ a, (acc ++ [a]).length = acc.length + 1 := fun a => by simp
  obtain ⟨b1,b2,b3,b4,b5,b6⟩ := pc HG;cases hb : Rs.isK X sk Ps.k_rp <;> cases hw : Rs.isWrong sk
  rotate_left
  all_goals try
   replace HG := lpO (show liT X sk = true by simp [liT, hb, hw]) HG;rw [hw] at b4;clear hb hw
   go_wp2_with fail
   clear b1 b2 b3 b4 b5 b6
   revert HG;refine leave_ Ps.k_rp fun w3 s3 HG => ?_
   go_wp2;go_returns;exact fnL (by omega) HG
  replace HG := lpG (show liT X sk = false by simp [liT, hb, hw]) HG;obtain ⟨m, rfl⟩ := lpN H0.out HG;have hmn : m < n := by omega
  replace HG := re (by rw [HSS.out, Rs.listL, if_neg (show ¬ (Rs.isK X sk Ps.k_rp || Rs.isWrong sk) = true by simp [hb, hw]), bind_assoc]) HG;rw [hw] at b4;clear hb hw
  rcases HOK.out m hmn with ⟨rfl,HC⟩ | ⟨rfl,HC⟩ | ⟨rfl,HC⟩
  all_goals
   go_wp2_with fail
   clear b1 b2 b3 b4 b5 b6
   revert HG;refine c1 HC fun a4 w4 s4 HG => ?_
   go_wp2_with (at_builtin; revert HG;refine apL a4 (show acc.length ≤ 1000000 by omega) fun g5 g5c w5 HG => ?_)
   replace HG := re (bind_ite _ _ _) HG
   revert HG;refine is_ Ps.k_rp (fun w6 KB HG => ?_) fun w7 KB HG => ?_
   ·replace HG := lpE (t := liT X) (lp := lp) (m := m) (g := liF X) (acc := acc ++ [a4]) (by simp [liT, KB.out]) HG
    go_wp2
    go_roundg m
    case rel => exact ⟨acc ++ [a4], _, _, _, by rw [hlen], by rw [KB.out], by rw [hlen]; omega, by rw [hlen]; exact HG⟩
    case measure => omega
   replace HG := re (bind_assoc _ _ _) HG
   go_wp2_with fail
   revert HG;refine take_ Ps.k_com fun w8 s8 HG => ?_
   go_wp2_with fail
   revert HG;refine isV Ps.k_rp fun b9 w9 HB9 HG => ?_
   cases b9
   ·replace HG := lpI (t := liT X) (g := liF X) H0.out (fun m a s h => (HSS.out m a s).trans (if_pos h)) (re (by rw [if_neg (by rw [HB9.out]; decide)]) HG)
    go_wp2
    go_roundg m
    case rel => exact ⟨acc ++ [a4], _, _, _, by rw [hlen], by rw [HB9.out], by rw [hlen]; omega, by rw [hlen]; exact HG⟩
    case measure => omega
   go_wp2_with fail
   revert HG;refine fail_ fun w10 HG => ?_
   replace HG := lpI (t := liT X) (g := liF X) H0.out (fun m a s h => (HSS.out m a s).trans (if_pos h)) (re (by rw [if_pos HB9.out]) HG)
   go_wp2
   go_roundg m
   case rel => exact ⟨acc ++ [a4], _, _, _, by rw [hlen], congrArg Value.bool (stop_isK X 3 s8 Ps.k_rp).symm, by rw [hlen]; omega, by rw [hlen]; exact HG⟩
   case measure => omega
set_option maxRecDepth 100000 in
set_option maxHeartbeats 2000000 in
theorem rpsig_any (rec : Rs.Rec) (HT : Hid (Cn X S 158 (rec .typ))) (HL : Hid (Ln X S 1 (Rs.list X (rec (.params []))))) : POk X S 107 oneV (Rs.sig X rec) := by
 intro N p w s tv nv D h hne
 have HG := x0 h hne (by unfold Rs.sig;exact rfl);clear h hne
 go_enter Tryz.func107, Tryz.ntmps107
 go_wp2_with fail
 revert HG;refine now_ fun w1 HG => ?_;generalize Rs.now X s = t at HG ⊢
 replace HG := tbR t #[.int .i64 8, .int .i64 (t.pos : Int), .int .i64 0, .string ⟨#[]⟩, .slice none 0 0] 41 HG
 go_wp2_with fail
 replace HG := gn HG;obtain ⟨w2,e,HG⟩ := HG;rw [e];clear e
 revert HG;refine cl_ HL.out fun l3 ua3 uc3 w3 s3 hl3 HG => ?_
 have d0 := ce1 HG
 replace HG := so1 4 (.slice ua3 l3.length uc3) HG
 replace HG := so1 2 (.int .i64 (l3.length : Int)) HG
 go_wp2_with fail
 replace HG := gn HG;obtain ⟨w4,e,HG⟩ := HG;rw [e];clear e
 clear d0
 revert HG;refine begins_ (fun w5 HG => ?_) fun w6 HG => ?_
 ·go_wp2_with fail
  revert HG;refine c1 HT.out fun a7 w7 s7 HG => ?_
  have c := ce1 HG
  go_wp2_with (at_builtin; revert HG;refine apL a7 (hl3) fun g8 g8c w8 HG => ?_;clear c;have c := ce1 HG)
  replace HG := so1 4 (.slice (some ⟨g8, 0, none⟩) (l3.length + 1) g8c) HG
  replace HG := gn HG;obtain ⟨w9,e,HG⟩ := HG;rw [e];clear e
  clear c
  revert HG;refine pu fun b10 w10 s10 HG => ?_
  exact en
 have c := ce1 HG
 go_wp2_with fail
 revert HG;refine pu fun b11 w11 s11 HG => ?_
 exact en
set_option maxRecDepth 100000 in
set_option maxHeartbeats 2000000 in
theorem rptyp_any (rec : Rs.Rec) (HT : Hid (Cn X S 158 (rec .typ))) (HL : Hid (Ln X S 0 (Rs.list X (rec (.typs []))))) : POk X S 158 oneV (Rs.typF X rec) := by
 intro N p w s tv nv D h hne
 have HG := x0 h hne (by unfold Rs.typF;exact rfl);clear h hne
 go_enter Tryz.func158, Tryz.ntmps158
 go_wp2_with fail
 revert HG;refine now_ fun w1 HG => ?_;generalize Rs.now X s = t at HG ⊢
 go_wp2_with fail
 replace HG := bt t HG;obtain ⟨w2,q2,e1,e2,l2,HG⟩ := HG;rw [e1,e2];clear e1 e2
 go_wp2_with fail
 revert HG;refine took Ps.k_int (fun w3 KB HG => ?_) fun w4 KB HG => ?_
 ·have c := ce0 HG
  go_wp2_with fail
  replace HG := k0 HG
  revert HG;refine pu fun b5 w5 s5 HG => ?_
  exact en
 go_wp2_with fail
 revert HG;refine took Ps.k_bool (fun w6 KB HG => ?_) fun w7 KB HG => ?_
 ·have c := ce0 HG
  go_wp2_with fail
  replace HG := k0 HG
  revert HG;refine pu fun b8 w8 s8 HG => ?_
  exact en
 go_wp2_with fail
 revert HG;refine is_ Ps.k_star (fun w9 KB HG => ?_) fun w10 KB HG => ?_
 ·go_wp2_with fail
  exact tl pointer_cn HG
 go_wp2_with fail
 revert HG;refine is_ Ps.k_chan (fun w11 KB HG => ?_) fun w12 KB HG => ?_
 ·go_wp2_with fail
  revert HG;refine enter_ Ps.k_chan fun w13 s13 HG => ?_
  go_wp2_with fail
  revert HG;refine c1 HT.out fun a14 w14 s14 HG => ?_
  obtain ⟨d15,hd⟩ : ∃ d, IntKind.i64.wrap (s14.p.deep - 1) = d := ⟨_, rfl⟩
  obtain ⟨b1,b2,b3,b4,b5,b6⟩ := pc HG;replace HG := dd hd HG
  have c0 := ce0 HG
  go_wp2_with fail
  replace HG := gz HG;obtain ⟨w16,e,ez,HG⟩ := HG;rw [e,ez];clear e ez hd b1 b2 b3 b4 b5 b6 c0
  replace HG := ro1 a14 HG;obtain ⟨w17,q17,e1,e2,l17,HG⟩ := HG;rw [e1,e2];clear e1 e2
  revert HG;refine pu fun b18 w18 s18 HG => ?_
  exact en
 go_wp2_with fail
 revert HG;refine is_ Ps.k_func (fun w19 KB HG => ?_) fun w20 KB HG => ?_
 ·go_wp2_with fail
  revert HG;refine enter_ Ps.k_func fun w21 s21 HG => ?_
  have c := ce0 HG
  go_wp2_with fail
  clear c
  replace HG := bn #[.int .i64 6, .int .i64 (t.pos : Int), .int .i64 0, .string ⟨#[]⟩, .slice none 0 0] 41 HG;obtain ⟨w22,q22,e1,e2,l22,HG⟩ := HG;rw [e1,e2];clear e1 e2
  revert HG;refine cl_ HL.out fun l23 ua23 uc23 w23 s23 hl23 HG => ?_
  have d0 := ce1 HG
  replace HG := so1 4 (.slice ua23 l23.length uc23) HG
  replace HG := so1 2 (.int .i64 (l23.length : Int)) HG
  go_wp2_with fail
  replace HG := gn HG;obtain ⟨w24,e,HG⟩ := HG;rw [e];clear e
  clear d0
  revert HG;refine begins_ (fun w25 HG => ?_) fun w26 HG => ?_
  ·go_wp2_with fail
   revert HG;refine c1 HT.out fun a27 w27 s27 HG => ?_
   have c := ce1 HG
   obtain ⟨d29,hd⟩ : ∃ d, IntKind.i64.wrap (s27.p.deep - 1) = d := ⟨_, rfl⟩
   go_wp2_with (at_builtin; revert HG;refine apL a27 (hl23) fun g28 g28c w28 HG => ?_;clear c;have c := ce1 HG;have hbp := bp1 HG;obtain ⟨b1,b2,b3,b4,b5,b6⟩ := pc HG)
   replace HG := so1 4 (.slice (some ⟨g28, 0, none⟩) (l23.length + 1) g28c) HG
   replace HG := dd hd HG
   replace HG := gn HG;obtain ⟨w30,e,HG⟩ := HG;rw [e];clear e
   clear c hbp hd b1 b2 b3 b4 b5 b6
   revert HG;refine pu fun b31 w31 s31 HG => ?_
   exact en
  obtain ⟨d32,hd⟩ : ∃ d, IntKind.i64.wrap (s23.p.deep - 1) = d := ⟨_, rfl⟩
  obtain ⟨b1,b2,b3,b4,b5,b6⟩ := pc HG;replace HG := dd hd HG
  have c := ce1 HG
  go_wp2_with fail
  replace HG := gn HG;obtain ⟨w33,e,HG⟩ := HG;rw [e];clear e
  clear hd b1 b2 b3 b4 b5 b6
  revert HG;refine pu fun b34 w34 s34 HG => ?_
  exact en
 go_wp2_with fail
 revert HG;refine name_ fun w35 s35 HG => ?_;generalize Rs.nameT X s = nt at HG ⊢
 have c := ce0 HG
 go_wp2_with fail
 replace HG := k0 HG
 revert HG;refine pu fun b36 w36 s36 HG => ?_
 exact en
end
end Go.Proofs.YtjickecdkmljpaaGreatDoor.R
namespace Go.Proofs.YtjickecdkmljpaaGreatDoor.R
open Go.RowKit

section
variable {N p : Nat} {w : World} {X : Ps.Src} {S : ByteArray} {s : Rs.St} {tv nv : Value} {D : List (Ps.Nd × Value)}
set_option maxRecDepth 100000 in
set_option maxHeartbeats 8000000 in
theorem rpfirst_any (rec : Rs.Rec) (HS : Hid (Cn X S 107 (Rs.sig X rec))) (HB : Hid (Cn X S 110 (rec .block))) (HE : Hid (Cn X S 205 (rec (.expr 0)) [.int .i64 0])) (HT : Hid (Cn X S 158 (rec .typ))) : POk X S 261 oneV (Rs.firstF X rec) := by
 intro N p w s tv nv D h hne
 have HG := x0 h hne (by unfold Rs.firstF;exact rfl);clear h hne
 go_enter Tryz.func261, Tryz.ntmps261
 go_wp2_with fail
 revert HG;refine now_ fun w1 HG => ?_;generalize hn : Rs.now X s = t at HG ⊢
 have HNt := zh hn;clear hn
 replace HG := bR #[.int .i64 t.kind, .string (str t.text), .int .i64 t.num, .int .i64 (t.pos : Int)] 95 HG
 have ct := ce0 HG
 rcases nm HNt HG with ⟨k2,hlt,HG⟩ | ⟨k2,HG⟩
 ·obtain ⟨b1,b2,b3,b4,b5,b6⟩ := pc HG;have f9 := iw1 hlt HG;replace HG := ia hlt HG
  have c0 := ce0 HG
  go_wp2_with fail
  replace HG := gn HG;obtain ⟨w2,e,HG⟩ := HG;rw [e];clear e
  clear b1 b2 b3 b4 b5 b6 f9 c0
  replace HG := k0 HG
  revert HG;refine pu fun b3 w3 s3 HG => ?_
  exact en
 cases k4 : (t.kind == 4) with
 | true =>
  rcases wd [116, 114, 117, 101] HNt (zh k4) HG with ⟨ht0,hlt,HG⟩ | ⟨ht0,HG⟩
  ·obtain ⟨b1,b2,b3,b4,b5,b6⟩ := pc HG;have f9 := iw1 hlt HG;have c0 := ce0 (ia hlt HG);have h0 := trR #[.int .i64 34, .int .i64 (t.pos : Int), .int .i64 0, .string ⟨#[]⟩, .slice none 0 0] hlt HG;have c1 := ce1 h0;have c2 := ce0 h0
   replace HG := trR #[.int .i64 34, .int .i64 (t.pos : Int), .int .i64 1, .string ⟨#[]⟩, .slice none 0 0] hlt HG;have c3 := ce0 HG;clear h0
   go_wp2_with fail
   replace HG := gn HG;obtain ⟨w4,e,HG⟩ := HG;rw [e];clear e
   clear b1 b2 b3 b4 b5 b6 f9 c0 c1 c2 c3
   replace HG := k0 HG
   revert HG;refine pu fun b5 w5 s5 HG => ?_
   exact en
  rcases wd [102, 97, 108, 115, 101] HNt (zh k4) HG with ⟨ht1,hlt,HG⟩ | ⟨ht1,HG⟩
  ·obtain ⟨b1,b2,b3,b4,b5,b6⟩ := pc HG;have f9 := iw1 hlt HG;have c0 := ce0 (ia hlt HG);have h0 := trR #[.int .i64 34, .int .i64 (t.pos : Int), .int .i64 0, .string ⟨#[]⟩, .slice none 0 0] hlt HG;have c1 := ce1 h0;have c2 := ce0 h0
   replace HG := h0;clear h0
   go_wp2_with fail
   replace HG := gn HG;obtain ⟨w6,e,HG⟩ := HG;rw [e];clear e
   clear b1 b2 b3 b4 b5 b6 f9 c0 c1 c2
   replace HG := k0 HG
   revert HG;refine pu fun b7 w7 s7 HG => ?_
   exact en
  rcases wd [110, 105, 108] HNt (zh k4) HG with ⟨ht2,hlt,HG⟩ | ⟨ht2,HG⟩
  ·obtain ⟨b1,b2,b3,b4,b5,b6⟩ := pc HG;have f9 := iw1 hlt HG;replace HG := ia hlt HG
   have c0 := ce0 HG
   go_wp2_with fail
   replace HG := gn HG;obtain ⟨w8,e,HG⟩ := HG;rw [e];clear e
   clear b1 b2 b3 b4 b5 b6 f9 c0
   replace HG := k0 HG
   revert HG;refine pu fun b9 w9 s9 HG => ?_
   exact en
  rcases wd [102, 117, 110, 99] HNt (zh k4) HG with ⟨ht3,hlt,HG⟩ | ⟨ht3,HG⟩
  ·obtain ⟨b1,b2,b3,b4,b5,b6⟩ := pc HG;have f9 := iw1 hlt HG;replace HG := ia hlt HG
   have c0 := ce0 HG
   go_wp2_with fail
   replace HG := gn HG;obtain ⟨w10,e,HG⟩ := HG;rw [e];clear e
   clear b1 b2 b3 b4 b5 b6 f9 c0
   revert HG;refine c1 HS.out fun a11 w11 s11 HG => ?_
   go_wp2_with fail
   revert HG;refine c1 HB.out fun a12 w12 s12 HG => ?_
   have c := ce0 HG
   go_wp2_with fail
   replace HG := ro2 a11 a12 HG;obtain ⟨w13,q13,e1,e2,l13,HG⟩ := HG;rw [e1,e2];clear e1 e2
   revert HG;refine wi fun b14 w14 s14 HG => ?_
   exact en
  rcases wd [110, 101, 119] HNt (zh k4) HG with ⟨ht4,hlt,HG⟩ | ⟨ht4,HG⟩
  ·obtain ⟨b1,b2,b3,b4,b5,b6⟩ := pc HG;have f9 := iw1 hlt HG;replace HG := ia hlt HG
   have c0 := ce0 HG
   go_wp2_with fail
   replace HG := gn HG;obtain ⟨w15,e,HG⟩ := HG;rw [e];clear e
   clear b1 b2 b3 b4 b5 b6 f9 c0
   revert HG;refine enter_ Ps.k_lp fun w16 s16 HG => ?_
   go_wp2_with fail
   revert HG;refine name_ fun w17 s17 HG => ?_;generalize Rs.nameT X s16 = nt at HG ⊢
   go_wp2_with fail
   revert HG;refine leave_ Ps.k_rp fun w18 s18 HG => ?_
   have c := ce0 HG
   go_wp2_with fail
   replace HG := k0 HG
   revert HG;refine pu fun b19 w19 s19 HG => ?_
   exact en
  rcases wd [109, 97, 107, 101] HNt (zh k4) HG with ⟨ht5,hlt,HG⟩ | ⟨ht5,HG⟩
  ·obtain ⟨b1,b2,b3,b4,b5,b6⟩ := pc HG;have f9 := iw1 hlt HG;replace HG := ia hlt HG
   have c0 := ce0 HG
   go_wp2_with fail
   replace HG := gn HG;obtain ⟨w20,e,HG⟩ := HG;rw [e];clear e
   clear b1 b2 b3 b4 b5 b6 f9 c0
   replace HG := re (by unfold Rs.made;exact rfl) HG
   revert HG;refine enter_ Ps.k_lp fun w21 s21 HG => ?_
   go_wp2_with fail
   revert HG;refine enter_ Ps.k_chan fun w22 s22 HG => ?_
   go_wp2_with fail
   revert HG;refine c1 HT.out fun a23 w23 s23 HG => ?_
   obtain ⟨d24,hd⟩ : ∃ d, IntKind.i64.wrap (s23.p.deep - 1) = d := ⟨_, rfl⟩
   obtain ⟨b1,b2,b3,b4,b5,b6⟩ := pc HG;replace HG := dd hd HG
   have c0 := ce0 HG
   go_wp2_with fail
   replace HG := gz HG;obtain ⟨w25,e,ez,HG⟩ := HG;rw [e,ez];clear e ez hd b1 b2 b3 b4 b5 b6 c0
   replace HG := rbR a23 #[.int .i64 42, .int .i64 (t.pos : Int), .int .i64 0, .string ⟨#[]⟩, .slice (some ⟨w25.heap.size, 0, none⟩) 1 1] 41 HG
   replace HG := gn HG;obtain ⟨w26,e,HG⟩ := HG;rw [e];clear e
   revert HG;refine took Ps.k_com (fun w27 KB HG => ?_) fun w28 KB HG => ?_
   ·go_wp2_with fail
    revert HG;refine now_ fun w29 HG => ?_;generalize hn : Rs.now X (Rs.adv (Rs.down s23)) = t2 at HG ⊢
    have HNt2 := zh hn;clear hn
    replace HG := bR #[.int .i64 t2.kind, .string (str t2.text), .int .i64 t2.num, .int .i64 (t2.pos : Int)] 95 HG
    have cm := ce0 HG
    rcases nm HNt2 HG with ⟨m2,hlt2,HG⟩ | ⟨m2,HG⟩
    ·have mk2 : (t2.kind != 2) = false := by rw [bne, m2]; rfl
     have d := ce1 HG
     replace HG := so1 2 (.int .i64 t2.num) HG
     obtain ⟨b1,b2,b3,b4,b5,b6⟩ := pc HG;have f9 := iw1 hlt2 HG;replace HG := ia hlt2 HG
     have c0 := ce0 HG
     go_wp2_with fail
     replace HG := gn HG;obtain ⟨w30,e,HG⟩ := HG;rw [e];clear e
     clear b1 b2 b3 b4 b5 b6 f9 c0
     clear cm d mk2;replace HG := po HG
     revert HG;refine leave_ Ps.k_rp fun w31 s31 HG => ?_
     have c := ce0 HG
     go_wp2_with fail
     replace HG := sw HG
     revert HG;refine pu fun b32 w32 s32 HG => ?_
     exact en
    have mk2 : (t2.kind != 2) = true := by rw [bne, m2]; rfl
    go_wp2_with fail
    replace HG := gn HG;obtain ⟨w33,e,HG⟩ := HG;rw [e];clear e
    clear cm mk2;replace HG := po HG
    revert HG;refine fail_ fun w34 HG => ?_
    go_wp2_with fail
    revert HG;refine leave_ Ps.k_rp fun w35 s35 HG => ?_
    have c := ce0 HG
    go_wp2_with fail
    replace HG := sw HG
    revert HG;refine pu fun b36 w36 s36 HG => ?_
    exact en
   go_wp2_with fail
   revert HG;refine leave_ Ps.k_rp fun w37 s37 HG => ?_
   have c := ce0 HG
   go_wp2_with fail
   replace HG := sw HG
   revert HG;refine pu fun b38 w38 s38 HG => ?_
   exact en
  go_wp2_with fail
  replace HG := gn HG;obtain ⟨w39,e,HG⟩ := HG;rw [e];clear e
  clear ct k2 k4 ht0 ht1 ht2 ht3 ht4 ht5
  revert HG;refine is_ Ps.k_lp (fun w40 KB HG => ?_) fun w41 KB HG => ?_
  ·go_wp2_with fail
   revert HG;refine enter_ Ps.k_lp fun w42 s42 HG => ?_
   go_wp2_with fail
   revert HG;refine c1 HE.out fun a43 w43 s43 HG => ?_
   go_wp2_with fail
   revert HG;refine leave_ Ps.k_rp fun w44 s44 HG => ?_
   exact en
  go_wp2_with fail
  revert HG;refine name_ fun w45 s45 HG => ?_;generalize Rs.nameT X s = nt at HG ⊢
  have c := ce0 HG
  go_wp2_with fail
  replace HG := k0 HG
  revert HG;refine pu fun b46 w46 s46 HG => ?_
  exact en
 | false =>
  replace HG := wn HNt (zh k4) (wn HNt (zh k4) (wn HNt (zh k4) (wn HNt (zh k4) (wn HNt (zh k4) (wn HNt (zh k4) HG)))))
  go_wp2_with fail
  replace HG := gn HG;obtain ⟨w47,e,HG⟩ := HG;rw [e];clear e
  clear ct k2 k4
  revert HG;refine is_ Ps.k_lp (fun w48 KB HG => ?_) fun w49 KB HG => ?_
  ·go_wp2_with fail
   revert HG;refine enter_ Ps.k_lp fun w50 s50 HG => ?_
   go_wp2_with fail
   revert HG;refine c1 HE.out fun a51 w51 s51 HG => ?_
   go_wp2_with fail
   revert HG;refine leave_ Ps.k_rp fun w52 s52 HG => ?_
   exact en
  go_wp2_with fail
  revert HG;refine name_ fun w53 s53 HG => ?_;generalize Rs.nameT X s = nt at HG ⊢
  have c := ce0 HG
  go_wp2_with fail
  replace HG := k0 HG
  revert HG;refine pu fun b54 w54 s54 HG => ?_
  exact en
end
end Go.Proofs.YtjickecdkmljpaaGreatDoor.R
namespace Go.Proofs.YtjickecdkmljpaaGreatDoor.R
open Go.RowKit

section
variable {N p : Nat} {w : World} {X : Ps.Src} {S : ByteArray} {s : Rs.St} {tv nv : Value} {D : List (Ps.Nd × Value)}
set_option maxRecDepth 100000 in
set_option maxHeartbeats 16000000 in
theorem rpdecl_any (n : Nat) (hn : n ≤ 1000000) (HP9 : Hid (∀ m, m < n → Cn X S 106 (Rs.named X (Rs.run X m) 9) [.int .i64 9])) (HS : Hid (∀ m, m < n → Cn X S 107 (Rs.sig X (Rs.run X m)))) (HS0 : Hid (Cn X S 107 (Rs.sig X (Rs.run X n)))) (HB : Hid (Cn X S 110 (Rs.run X n .block))) : POk X S 56 oneV (Rs.declF X (Rs.run X n)) := by
 intro N p w s tv nv D h hne
 have HG := x0 h hne (by unfold Rs.declF;exact rfl);clear h hne
 go_enter Tryz.func56, Tryz.ntmps56
 go_wp2_with fail
 revert HG;refine now_ fun w1 HG => ?_;generalize Rs.now X s = t at HG ⊢
 replace HG := tbR t #[.int .i64 0, .int .i64 (t.pos : Int), .int .i64 0, .string ⟨#[]⟩, .slice none 0 0] 41 HG
 go_wp2_with fail
 replace HG := gn HG;obtain ⟨w2,e,HG⟩ := HG;rw [e];clear e
 replace HG := po (sw HG)
 go_wp2_with fail
 revert HG;refine took Ps.k_type (fun w3 KT HG => ?_) fun w4 KT HG => ?_
 ·replace HG := re (by unfold Rs.typed;exact rfl) HG
  go_wp2_with fail
  revert HG;refine name_ fun w5 s5 HG => ?_;generalize Rs.nameT X (Rs.adv s) = nt at HG ⊢
  have d0 := ce0 HG
  replace HG := so0 3 (.string (str nt)) HG
  replace HG := so0 0 (.int .i64 10) HG
  go_wp2_with fail
  replace HG := gn HG;obtain ⟨w6,e,HG⟩ := HG;rw [e];clear e
  clear d0
  revert HG;refine took Ps.k_struct (fun w7 KB HG => ?_) fun w8 KB HG => ?_
  ·replace HG := itB HG
   go_wp2_with fail
   revert HG;refine enter_ Ps.k_lb fun w9 s9 HG => ?_
   replace HG := lpI (t := itT X) (lp := (fun m a s => Rs.run X m (.fields a) s)) (fun _ _ => rfl) (fun m a s h => if_pos h) HG
   go_wp2_with fail
   revert HG;refine isV Ps.k_rb fun y10 w10 HB10 HG => ?_
   go_wp2_with fail
   go_loopg [7] n (fun m e wr => ∃ (acc : List Nat) (sk : Rs.St) (ua : Option Addr) (uc : Nat), e = .bool (Rs.isK X sk Ps.k_rb) ∧ acc.length + m = n ∧ Hid (Sx N p X S w tv nv D (Rs.declF X (Rs.run X n) s) wr sk [.kd (.slice ua acc.length uc) acc, .bx (w1.heap.size + 1) #[.int .i64 10, .int .i64 (t.pos : Int), .int .i64 0, .string (str nt), .slice ua acc.length uc] 41] ((Lp (itT X) (fun m a s => Rs.run X m (.fields a) s) m acc sk).bind (itF X (fun l s2 => Rs.put ⟨10, t.pos, 0, nt, l⟩ s2)))))
   case atStart => exact ⟨[], _, none, 0, by rw [HB10.out], by simp, k0 HG⟩
   case round =>
    clear HG;obtain ⟨acc, sk, ua, uc, rfl, hacc, HG⟩ := hrel;have hlen : ∀ a, (acc ++ [a]).length = acc.length + 1 := fun a => by simp
    obtain ⟨b1,b2,b3,b4,b5,b6⟩ := pc HG;cases hb : Rs.isK X sk Ps.k_rb <;> cases hw : Rs.isWrong sk
    rotate_left
    all_goals try
     replace HG := lpO (show itT X sk = true by simp [itT, hb, hw]) HG;rw [hw] at b4;clear hb hw
     go_wp2_with fail
     clear b1 b2 b3 b4 b5 b6
     revert HG;refine leave_ Ps.k_rb fun w11 s11 HG => ?_
     have c := ce1 HG
     go_wp2_with fail
     revert HG;refine pu fun b12 w12 s12 HG => ?_
     exact en
    have hi := itG (one := fun m => Rs.named X (Rs.run X m) 9) (fun _ _ => rfl) (fun _ _ _ => rfl) (show itT X sk = false by simp [itT, hb, hw]) HG;clear HG;obtain ⟨m, rfl, HG⟩ := hi;have hmn : m < n := (by omega);rw [hw] at b4;clear hb hw
    have c0 := ce1 HG
    go_wp2_with fail
    clear b1 b2 b3 b4 b5 b6 c0
    revert HG;refine c1 (HP9.out m hmn) fun a13 w13 s13 HG => ?_
    have c := ce1 HG
    go_wp2_with (at_builtin; revert HG;refine apL a13 (show acc.length ≤ 1000000 by omega) fun g14 g14c w14 HG => ?_;clear c;have c := ce1 HG)
    replace HG := so1 4 (.slice (some ⟨g14, 0, none⟩) (acc.length + 1) g14c) HG
    replace HG := gn HG;obtain ⟨w15,e,HG⟩ := HG;rw [e];clear e
    clear c
    revert HG;refine is_ Ps.k_rb (fun w16 KB HG => ?_) fun w17 KB HG => ?_
    ·replace HG := lpE (t := itT X) (lp := (fun m a s => Rs.run X m (.fields a) s)) (m := m) (g := itF X (fun l s2 => Rs.put ⟨10, t.pos, 0, nt, l⟩ s2)) (acc := acc ++ [a13]) (by simp [itT, KB.out]) HG
     go_wp2
     go_roundg m
     case rel => exact ⟨acc ++ [a13], _, _, _, by rw [KB.out], by rw [hlen]; omega, by rw [hlen]; exact HG⟩
     case measure => omega
    go_wp2_with fail
    revert HG;refine take_ Ps.k_semi fun w18 s18 HG => ?_
    replace HG := lpI (t := itT X) (lp := (fun m a s => Rs.run X m (.fields a) s)) (fun _ _ => rfl) (fun m a s h => if_pos h) HG
    go_wp2_with fail
    revert HG;refine isV Ps.k_rb fun y19 w19 HB19 HG => ?_
    go_wp2
    go_roundg m
    case rel => exact ⟨acc ++ [a13], _, _, _, by rw [HB19.out], by rw [hlen]; omega, by rw [hlen]; exact HG⟩
    case measure => omega
  go_wp2_with fail
  revert HG;refine take_ Ps.k_interface fun w20 s20 HG => ?_
  replace HG := itB HG
  have d0 := ce0 HG
  replace HG := so0 0 (.int .i64 12) HG
  go_wp2_with fail
  replace HG := gn HG;obtain ⟨w21,e,HG⟩ := HG;rw [e];clear e
  clear d0
  revert HG;refine enter_ Ps.k_lb fun w22 s22 HG => ?_
  replace HG := lpI (t := itT X) (lp := (fun m a s => Rs.run X m (.msigs a) s)) (fun _ _ => rfl) (fun m a s h => if_pos h) HG
  go_wp2_with fail
  revert HG;refine isV Ps.k_rb fun y23 w23 HB23 HG => ?_
  go_wp2_with fail
  go_loopg [7] n (fun m e wr => ∃ (acc : List Nat) (sk : Rs.St) (ua : Option Addr) (uc : Nat), e = .bool (Rs.isK X sk Ps.k_rb) ∧ acc.length + m = n ∧ Hid (Sx N p X S w tv nv D (Rs.declF X (Rs.run X n) s) wr sk [.kd (.slice ua acc.length uc) acc, .bx (w1.heap.size + 1) #[.int .i64 12, .int .i64 (t.pos : Int), .int .i64 0, .string (str nt), .slice ua acc.length uc] 41] ((Lp (itT X) (fun m a s => Rs.run X m (.msigs a) s) m acc sk).bind (itF X (fun l s2 => Rs.put ⟨12, t.pos, 0, nt, l⟩ s2)))))
  case atStart => exact ⟨[], _, none, 0, by rw [HB23.out], by simp, k0 HG⟩
  case round =>
   clear HG;obtain ⟨acc, sk, ua, uc, rfl, hacc, HG⟩ := hrel;have hlen : ∀ a, (acc ++ [a]).length = acc.length + 1 := fun a => by simp
   obtain ⟨b1,b2,b3,b4,b5,b6⟩ := pc HG;cases hb : Rs.isK X sk Ps.k_rb <;> cases hw : Rs.isWrong sk
   rotate_left
   all_goals try
    replace HG := lpO (show itT X sk = true by simp [itT, hb, hw]) HG;rw [hw] at b4;clear hb hw
    go_wp2_with fail
    clear b1 b2 b3 b4 b5 b6
    revert HG;refine leave_ Ps.k_rb fun w24 s24 HG => ?_
    have c := ce1 HG
    go_wp2_with fail
    revert HG;refine pu fun b25 w25 s25 HG => ?_
    exact en
   have hi := itG (one := fun m => Rs.msig X (Rs.run X m)) (fun _ _ => rfl) (fun _ _ _ => rfl) (show itT X sk = false by simp [itT, hb, hw]) HG;clear HG;obtain ⟨m, rfl, HG⟩ := hi;have hmn : m < n := (by omega);rw [hw] at b4;clear hb hw
   have c0 := ce1 HG
   go_wp2_with fail
   clear b1 b2 b3 b4 b5 b6 c0
   obtain ⟨nk1, D1, HI, HC⟩ := ph HG;replace HG := re (by unfold Rs.msig;exact rfl) HI;clear HI
   revert HG;refine now_ fun w26 HG => ?_;generalize Rs.now X sk = t2 at HG ⊢
   go_wp2_with fail
   replace HG := bt t2 HG;obtain ⟨w27,q27,e1,e2,l27,HG⟩ := HG;rw [e1,e2];clear e1 e2
   go_wp2_with fail
   revert HG;refine name_ fun w28 s28 HG => ?_;generalize Rs.nameT X sk = nm at HG ⊢
   go_wp2_with fail
   revert HG;refine c1 (HS.out m hmn) fun a29 w29 s29 HG => ?_
   have c := ce0 HG
   go_wp2_with fail
   replace HG := ro1 a29 HG;obtain ⟨w30,q30,e1,e2,l30,HG⟩ := HG;rw [e1,e2];clear e1 e2
   clear c
   revert HG;refine pu fun b31 w31 s31 HG => ?_
   replace HG := HC _ _ _ _ HG;clear HC
   have c := ce1 HG
   go_wp2_with (at_builtin; revert HG;refine apL b31 (show acc.length ≤ 1000000 by omega) fun g32 g32c w32 HG => ?_;clear c;have c := ce1 HG)
   replace HG := so1 4 (.slice (some ⟨g32, 0, none⟩) (acc.length + 1) g32c) HG
   replace HG := gn HG;obtain ⟨w33,e,HG⟩ := HG;rw [e];clear e
   clear c
   revert HG;refine is_ Ps.k_rb (fun w34 KB HG => ?_) fun w35 KB HG => ?_
   ·replace HG := lpE (t := itT X) (lp := (fun m a s => Rs.run X m (.msigs a) s)) (m := m) (g := itF X (fun l s2 => Rs.put ⟨12, t.pos, 0, nt, l⟩ s2)) (acc := acc ++ [b31]) (by simp [itT, KB.out]) HG
    go_wp2
    go_roundg m
    case rel => exact ⟨acc ++ [b31], _, _, _, by rw [KB.out], by rw [hlen]; omega, by rw [hlen]; exact HG⟩
    case measure => omega
   go_wp2_with fail
   revert HG;refine take_ Ps.k_semi fun w36 s36 HG => ?_
   replace HG := lpI (t := itT X) (lp := (fun m a s => Rs.run X m (.msigs a) s)) (fun _ _ => rfl) (fun m a s h => if_pos h) HG
   go_wp2_with fail
   revert HG;refine isV Ps.k_rb fun y37 w37 HB37 HG => ?_
   go_wp2
   go_roundg m
   case rel => exact ⟨acc ++ [b31], _, _, _, by rw [HB37.out], by rw [hlen]; omega, by rw [hlen]; exact HG⟩
   case measure => omega
 go_wp2_with fail
 revert HG;refine take_ Ps.k_func fun w38 s38 HG => ?_
 go_wp2_with fail
 revert HG;refine is_ Ps.k_lp (fun w39 KM HG => ?_) fun w40 KM HG => ?_
 ·replace HG := re (by unfold Rs.method;exact rfl) HG
  have d0 := ce0 HG
  replace HG := so0 0 (.int .i64 13) HG
  replace HG := so0 0 (.int .i64 14) HG
  go_wp2_with fail
  replace HG := gn HG;obtain ⟨w41,e,HG⟩ := HG;rw [e];clear e
  clear d0
  revert HG;refine enter_ Ps.k_lp fun w42 s42 HG => ?_
  go_wp2_with fail
  revert HG;refine now_ fun w43 HG => ?_;generalize Rs.now X s42 = t2 at HG ⊢
  go_wp2_with fail
  replace HG := bt t2 HG;obtain ⟨w44,q44,e1,e2,l44,HG⟩ := HG;rw [e1,e2];clear e1 e2
  go_wp2_with fail
  revert HG;refine name_ fun w45 s45 HG => ?_;generalize Rs.nameT X s42 = nm at HG ⊢
  go_wp2_with fail
  revert HG;refine c1 pointer_cn fun a46 w46 s46 HG => ?_
  go_wp2_with fail
  revert HG;refine leave_ Ps.k_rp fun w47 s47 HG => ?_
  have c := ce0 HG
  go_wp2_with fail
  replace HG := ro1 a46 HG;obtain ⟨w48,q48,e1,e2,l48,HG⟩ := HG;rw [e1,e2];clear e1 e2
  clear c
  revert HG;refine puK fun b49 w49 s49 HG => ?_
  replace HG := k0 (po HG)
  have c := ce1 HG
  go_wp2_with (at_builtin; revert HG;refine apL b49 (show ([] : List Nat).length ≤ 1000000 by simp) fun g50 g50c w50 HG => ?_;clear c;have c := ce1 HG)
  replace HG := so1 4 (.slice (some ⟨g50, 0, none⟩) 1 g50c) HG
  replace HG := gn HG;obtain ⟨w51,e,HG⟩ := HG;rw [e];clear e
  clear c
  revert HG;refine name_ fun w52 s52 HG => ?_;generalize Rs.nameT X s49 = nt2 at HG ⊢
  have d0 := ce1 HG
  replace HG := so1 3 (.string (str nt2)) HG
  go_wp2_with fail
  replace HG := gn HG;obtain ⟨w53,e,HG⟩ := HG;rw [e];clear e
  clear d0
  revert HG;refine c1 HS0.out fun a54 w54 s54 HG => ?_
  go_wp2_with fail
  revert HG;refine c1 HB.out fun a55 w55 s55 HG => ?_
  have c := ce1 HG
  go_wp2_with (at_builtin; revert HG;refine apL2 a54 a55 (show ([b49] : List Nat).length ≤ 1000000 by simp) fun g56 g56c w56 HG => ?_;clear c;have c := ce1 HG)
  replace HG := so1 4 (.slice (some ⟨g56, 0, none⟩) 3 g56c) HG
  replace HG := gn HG;obtain ⟨w57,e,HG⟩ := HG;rw [e];clear e
  clear c
  revert HG;refine pu fun b58 w58 s58 HG => ?_
  exact en
 replace HG := k0 HG
 have d0 := ce1 HG
 replace HG := so1 0 (.int .i64 13) HG
 go_wp2_with fail
 replace HG := gn HG;obtain ⟨w59,e,HG⟩ := HG;rw [e];clear e
 clear d0
 revert HG;refine name_ fun w60 s60 HG => ?_;generalize Rs.nameT X s38 = nt2 at HG ⊢
 have d0 := ce1 HG
 replace HG := so1 3 (.string (str nt2)) HG
 go_wp2_with fail
 replace HG := gn HG;obtain ⟨w61,e,HG⟩ := HG;rw [e];clear e
 clear d0
 revert HG;refine c1 HS0.out fun a62 w62 s62 HG => ?_
 go_wp2_with fail
 revert HG;refine c1 HB.out fun a63 w63 s63 HG => ?_
 have c := ce1 HG
 go_wp2_with (at_builtin; revert HG;refine apL2 a62 a63 (show (([] : List Nat) : List Nat).length ≤ 1000000 by simp) fun g64 g64c w64 HG => ?_;clear c;have c := ce1 HG)
 replace HG := so1 4 (.slice (some ⟨g64, 0, none⟩) 2 g64c) HG
 replace HG := gn HG;obtain ⟨w65,e,HG⟩ := HG;rw [e];clear e
 clear c
 revert HG;refine pu fun b66 w66 s66 HG => ?_
 exact en
end
end Go.Proofs.YtjickecdkmljpaaGreatDoor.R
