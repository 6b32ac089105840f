/-
  PROVED HERE: the program's parser: blocks, what lies in brackets, the cases of a select. the program's parser: statements. the program's parser: branches, cases. No condition beyond the lemmas' own premises.
-/
import Derived.Test.YtjickecdkmljpaaGreatDoorPsSx
namespace Go.Proofs.YtjickecdkmljpaaGreatDoor
open Go.RowKit

section
variable {N p : Nat} {w : World} {X : Ps.Src} {S : ByteArray} {s : Ps.St} {tv nv : Value} {D : List (Ps.Nd × Value)}
/-- The cases of a 'select', over the loop that reads them. -/
def choiceP (X : Ps.Src) (loop : Ps.St → Ps.Res) (at_ : Nat) (s : Ps.St) : Ps.Res := (Ps.enter X Ps.k_lb s).bind fun _ s1 => (loop s1).bind fun l s2 => (Ps.leave X Ps.k_rb s2).bind fun _ s3 => Ps.put ⟨26, at_, 0, [], l⟩ s3
def choiceFin (X : Ps.Src) (at_ : Nat) (l : List Nat) (s2 : Ps.St) : Ps.Res := (Ps.leave X Ps.k_rb s2).bind fun _ s3 => Ps.put ⟨26, at_, 0, [], l⟩ s3
/-- The body of a case, over the loop that reads it. -/
def bodyP (X : Ps.Src) (loop : Ps.St → Ps.Res) (s : Ps.St) : Ps.Res := (Ps.take X Ps.k_col s).bind fun _ s1 => (loop s1).bind fun l s2 => Ps.put ⟨16, (Ps.now X s).pos, 0, [], l⟩ s2
def bodyFin (at_ : Nat) (l : List Nat) (s2 : Ps.St) : Ps.Res := Ps.put ⟨16, at_, 0, [], l⟩ s2
/-- Does the token end a case? -/
def endsB (X : Ps.Src) (s : Ps.St) : Bool := Ps.anyK X s [Ps.k_case_, Ps.k_dflt, Ps.k_rb]
theorem endsB_rb {X : Ps.Src} {s : Ps.St} (h : Ps.isK X s Ps.k_rb = true) : endsB X s = true := by simp [endsB, Ps.anyK, h]
theorem lpEnd {wk : World} {val : List Nat → Value} {pl : Ps.Res} {dz : Int} {ko : Option Nat} {L : List It} {c : Ps.St → Bool} {lp : Nat → List Nat → Ps.St → Ps.Res} {m : Nat} {acc : List Nat} {g : List Nat → Ps.St → Ps.Res} (hc : c s = true) (h : Hid (Sx N p X S w tv nv D val pl dz ko wk s L (g acc s))) : Hid (Sx N p X S w tv nv D val pl dz ko wk s L ((Lp c lp m acc s).bind g)) := re (by rw [lpR, if_pos hc]) h
set_option maxRecDepth 100000 in
set_option maxHeartbeats 2000000 in
theorem spblock_any (rec : Ps.Rec) (HL : Hid (Io X S 157 (Ps.items X (rec (.stmts []))))) : POk X S 100 oneV (Ps.blockF X rec) := by
 intro N p w s tv nv D h hne
 have HG := x0 oneV h hne (by unfold Ps.blockF;exact rfl);clear h hne
 go_enter Tryz.func100, Tryz.ntmps100
 have hf3 := tok_fld3
 go_wp2_with fail
 revert HG;refine now_ fun w1 HG => ?_;generalize Ps.now X s = t at HG ⊢
 go_wp2_with fail
 replace HG := bn #[.int .i64 16, .int .i64 (t.pos : Int), .int .i64 0, .string ⟨#[]⟩, .slice none 0 0] 41 HG;obtain ⟨w2,q2,e1,e2,l2,HG⟩ := HG;rw [e1,e2];clear e1 e2
 go_wp2_with fail
 revert HG;refine cl_ HL.out fun l3 ua3 uc3 w3 s3 hl3 HG => ?_
 have d0 := ce1 HG
 replace HG := so1 4 (.slice ua3 l3.length uc3) HG
 have c0 := ce1 HG
 go_wp2_with fail
 replace HG := gn HG;obtain ⟨w4,e,HG⟩ := HG;rw [e];clear e
 clear d0 c0
 revert HG;refine pu fun b5 w5 s5 HG => ?_
 exact en
set_option maxRecDepth 100000 in
set_option maxHeartbeats 2000000 in
theorem spbracketed_cn (rec : Ps.Rec) (HKP : Hid (Ps.Keep rec)) (HE : Hid (Cn X S 201 (rec (.expr 0)))) (kind : Int) (at_ : Nat) : Cn X S 202 (Ps.bracketed X rec kind at_) [.int .i64 kind, .int .i64 (at_ : Int)] := by
 refine ⟨fun N p w s tv nv D h hne => ?_, fun s => Ps.bracketed_one _ _ _, fun s => Ps.bracketed_dp HKP.out _ _ s⟩
 have HG := x0 oneV h hne (by unfold Ps.bracketed;exact rfl);clear h hne
 go_enter Tryz.func202, Tryz.ntmps202
 go_wp2_with fail
 revert HG;refine enter_ Ps.k_lp fun w1 KB HG => ?_
 go_wp2_with fail
 revert HG;refine c1 HE.out fun a2 w2 s2 HG => ?_
 go_wp2_with fail
 revert HG;refine leave_ Ps.k_rp fun w3 HG => ?_
 go_wp2_with fail
 replace HG := ro1 a2 HG;obtain ⟨w4,q4,e1,e2,l4,HG⟩ := HG;rw [e1,e2];clear e1 e2
 revert HG;refine wi fun b5 w5 s5 HG => ?_
 exact en
set_option maxRecDepth 100000 in
set_option maxHeartbeats 2000000 in
theorem spchoice_any (n : Nat) (hn : n ≤ 1000000) (lp : Nat → List Nat → Ps.St → Ps.Res) (one : Nat → Ps.St → Ps.Res) (h0 : ∀ a s, lp 0 a s = .out) (hs : ∀ m a s, lp (m + 1) a s = if Ps.isK X s Ps.k_rb = true then .ok a s else (one m s).bind fun k s1 => lp m (a ++ k) s1) (hok : ∀ m, m < n → Cn X S 242 (one m)) (at_ : Nat) (h : PSt N p w X S s tv nv D) (hne : choiceP X (lp n []) at_ s ≠ .out) : Calls Tryz.prog 204 #[.pointer (some ⟨p, 0, none⟩), .int .i64 (at_ : Int)] w (Out N p X S w tv nv D oneV (choiceP X (lp n []) at_ s)) := by
 have H0 := zh h0;have HSS := zh hs;have HOK := zh hok;clear h0 hs hok
 have HG := x0 oneV h hne (by unfold choiceP;exact rfl);clear h hne
 go_enter Tryz.func204, Tryz.ntmps204
 go_wp2_with fail
 replace HG := bn #[.int .i64 26, .int .i64 (at_ : Int), .int .i64 0, .string ⟨#[]⟩, .slice none 0 0] 41 HG;obtain ⟨w1,q1,e1,e2,l1,HG⟩ := HG;rw [e1,e2];clear e1 e2
 revert HG;refine enter_ Ps.k_lb fun w2 KB HG => ?_
 replace HG := lpT (c := fun s => Ps.isK X s Ps.k_rb) (g := choiceFin X at_) H0.out HSS.out HG
 go_wp2_with fail
 go_loopg [10] n (fun m _ wr => ∃ (acc : List Nat) (sk : Ps.St) (ua : Option Addr) (uc : Nat), acc.length + m = n ∧ Hid (Sx N p X S w tv nv D oneV (choiceP X (lp n []) at_ s) s.deep (some 1) wr sk [.kd (.slice ua acc.length uc) acc, .bx q1 #[.int .i64 26, .int .i64 (at_ : Int), .int .i64 0, .string ⟨#[]⟩, .slice ua acc.length uc] 41] ((Lp (fun s => Ps.isK X s Ps.k_rb) lp m acc sk).bind (choiceFin X at_))))
 case atStart => exact ⟨[], _, none, 0, by simp, k0 HG⟩
 case round =>
  clear HG;obtain ⟨acc, sk, ua, uc, hacc, HG⟩ := hrel;replace HG := re lpR HG
  go_wp2_with fail
  revert HG;refine is_ Ps.k_rb (fun w3 KB HG => ?_) fun w4 KB HG => ?_
  ·go_wp2_with fail
   revert HG;refine leave_ Ps.k_rb fun w5 HG => ?_
   have c := ce1 HG
   go_wp2_with fail
   revert HG;refine pu fun b6 w6 s6 HG => ?_
   exact en
  obtain ⟨m, rfl⟩ := lpN H0.out HG;have hmn : m < n := by omega
  replace HG := re (by rw [HSS.out, if_neg (by rw [KB.out]; decide), Ps.bind_assoc]) HG
  go_wp2_with fail
  revert HG;refine hdA fun w7 HG => ?_;refine tq 0 ?_;refine tq 2 ?_;refine ra2 1 3 (fun K hK => ?_) fun K hK => ?_
  ·have c := ce1 HG;go_simp;refine hK _ _ ?_;clear hK K c
   refine ra1 3 fun K hK => ?_
   go_simp
   revert HG;refine c1 (HOK.out m hmn) fun a8 w8 s8 HG => ?_
   go_wp2_with fail
   refine ra1 4 fun K hK => ?_;go_simp;refine hK _ _ ?_;clear hK K
   refine ra1 5 fun K hK => ?_;revert HG;refine apS a8 (show acc.length ≤ 1000000 by omega) fun g9 g9c w9 HG => ?_;refine hK _ _ ?_;clear hK K;refine tq 6 ?_;refine ra1 7 fun K hK => ?_;have c := ce1 HG;go_simp;refine hK _ _ ?_;clear hK K c
   replace HG := so1 4 (.slice (some ⟨g9, 0, none⟩) (acc.length + 1) g9c) HG
   replace HG := gn HG;obtain ⟨w10,e,HG⟩ := HG;rw [e];clear e
   refine dA ?_
   replace HG := lpT (c := fun s => Ps.isK X s Ps.k_rb) H0.out HSS.out HG;have hlen : (acc ++ [a8]).length = acc.length + 1 := by simp
   go_wp2
   go_roundg m
   case rel => exact ⟨acc ++ [a8], _, _, _, by omega, by rw [hlen]; exact HG⟩
   case measure => omega
  go_simp
  revert HG;refine c1 (HOK.out m hmn) fun a11 w11 s11 HG => ?_
  go_wp2_with fail
  refine ra2 1 4 (fun K hK => ?_) fun K hK => ?_
  ·have c := ce1 HG;go_simp;refine hK _ _ ?_;clear hK K c
   refine ra1 4 fun K hK => ?_;go_simp;refine hK _ _ ?_;clear hK K
   refine ra1 5 fun K hK => ?_;revert HG;refine apS a11 (show acc.length ≤ 1000000 by omega) fun g12 g12c w12 HG => ?_;refine hK _ _ ?_;clear hK K;refine tq 6 ?_;refine ra1 7 fun K hK => ?_;have c := ce1 HG;go_simp;refine hK _ _ ?_;clear hK K c
   replace HG := so1 4 (.slice (some ⟨g12, 0, none⟩) (acc.length + 1) g12c) HG
   replace HG := gn HG;obtain ⟨w13,e,HG⟩ := HG;rw [e];clear e
   refine dA ?_
   replace HG := lpT (c := fun s => Ps.isK X s Ps.k_rb) H0.out HSS.out HG;have hlen : (acc ++ [a11]).length = acc.length + 1 := by simp
   go_wp2
   go_roundg m
   case rel => exact ⟨acc ++ [a11], _, _, _, by omega, by rw [hlen]; exact HG⟩
   case measure => omega
  go_simp;refine hK _ _ ?_;clear hK K;refine ra1 1 fun K hK => ?_
  have c := ce2 (rR a11 HG);go_simp;refine hK _ _ ?_;clear hK K c
  refine ra1 5 fun K hK => ?_;revert HG;refine apS a11 (show acc.length ≤ 1000000 by omega) fun g14 g14c w14 HG => ?_;refine hK _ _ ?_;clear hK K;refine tq 6 ?_;refine ra1 7 fun K hK => ?_;have c := ce1 HG;go_simp;refine hK _ _ ?_;clear hK K c
  replace HG := so1 4 (.slice (some ⟨g14, 0, none⟩) (acc.length + 1) g14c) HG
  replace HG := gn HG;obtain ⟨w15,e,HG⟩ := HG;rw [e];clear e
  refine dA ?_
  replace HG := lpT (c := fun s => Ps.isK X s Ps.k_rb) H0.out HSS.out HG;have hlen : (acc ++ [a11]).length = acc.length + 1 := by simp
  go_wp2
  go_roundg m
  case rel => exact ⟨acc ++ [a11], _, _, _, by omega, by rw [hlen]; exact HG⟩
  case measure => omega
set_option maxRecDepth 100000 in
set_option maxHeartbeats 2000000 in
theorem spbody_any (n : Nat) (hn : n ≤ 1000000) (lp : Nat → List Nat → Ps.St → Ps.Res) (one : Nat → Ps.St → Ps.Res) (h0 : ∀ a s, lp 0 a s = .out) (hs : ∀ m a s, lp (m + 1) a s = if endsB X s = true then .ok a s else (one m s).bind fun k s1 => if Ps.isK X s1 Ps.k_rb = true then .ok (a ++ k) s1 else (Ps.take X Ps.k_semi s1).bind fun _ s2 => lp m (a ++ k) s2) (hok : ∀ m, m < n → Cn X S 157 (one m)) (h : PSt N p w X S s tv nv D) (hne : bodyP X (lp n []) s ≠ .out) : Calls Tryz.prog 260 #[.pointer (some ⟨p, 0, none⟩)] w (Out N p X S w tv nv D oneV (bodyP X (lp n []) s)) := by
 have H0 := zh h0;have HSS := zh hs;have HOK := zh hok;clear h0 hs hok
 have HG := x0 oneV h hne (by unfold bodyP;exact rfl);clear h hne
 go_enter Tryz.func260, Tryz.ntmps260
 go_wp2_with fail
 revert HG;refine take_ Ps.k_col fun w1 KB HG => ?_
 generalize Ps.now X s = t at HG ⊢
 go_wp2_with fail
 replace HG := bn #[.int .i64 16, .int .i64 (t.pos : Int), .int .i64 0, .string ⟨#[]⟩, .slice none 0 0] 41 HG;obtain ⟨w2,q2,e1,e2,l2,HG⟩ := HG;rw [e1,e2];clear e1 e2
 replace HG := lpT (c := endsB X) (g := bodyFin t.pos) H0.out HSS.out HG
 go_loopg [10] n (fun m _ wr => ∃ (acc : List Nat) (sk : Ps.St) (ua : Option Addr) (uc : Nat), acc.length + m = n ∧ Hid (Sx N p X S w tv nv D oneV (bodyP X (lp n []) s) s.deep (some 0) wr sk [.kd (.slice ua acc.length uc) acc, .bx q2 #[.int .i64 16, .int .i64 (t.pos : Int), .int .i64 0, .string ⟨#[]⟩, .slice ua acc.length uc] 41] ((Lp (endsB X) lp m acc sk).bind (bodyFin t.pos))))
 case atStart => exact ⟨[], _, none, 0, by simp, k0 HG⟩
 case round =>
  clear HG;obtain ⟨acc, sk, ua, uc, hacc, HG⟩ := hrel;replace HG := re lpR HG
  go_wp2_with fail
  revert HG;refine any_ [b_case, b_dflt, b_rb] (fun w3 KB HG => ?_) (fun w4 KB HG => ?_) Iff.rfl
  ·have c := ce1 HG
   go_wp2_with fail
   revert HG;refine pu fun b5 w5 s5 HG => ?_
   exact en
  obtain ⟨m, rfl⟩ := lpN H0.out HG;have hmn : m < n := by omega
  replace HG := re (by rw [HSS.out, if_neg KB.out, Ps.bind_assoc]) HG
  go_wp2_with fail
  revert HG;refine hdA fun w6 HG => ?_;refine tq 0 ?_;refine tq 2 ?_;refine ra2 1 3 (fun K hK => ?_) fun K hK => ?_
  ·have c := ce1 HG;go_simp;refine hK _ _ ?_;clear hK K c
   refine ra1 3 fun K hK => ?_
   go_simp
   revert HG;refine c1 (HOK.out m hmn) fun a7 w7 s7 HG => ?_
   go_wp2_with fail
   refine ra1 4 fun K hK => ?_;go_simp;refine hK _ _ ?_;clear hK K
   refine ra1 5 fun K hK => ?_;revert HG;refine apS a7 (show acc.length ≤ 1000000 by omega) fun g8 g8c w8 HG => ?_;refine hK _ _ ?_;clear hK K;refine tq 6 ?_;refine ra1 7 fun K hK => ?_;have c := ce1 HG;go_simp;refine hK _ _ ?_;clear hK K c
   replace HG := so1 4 (.slice (some ⟨g8, 0, none⟩) (acc.length + 1) g8c) HG
   replace HG := gn HG;obtain ⟨w9,e,HG⟩ := HG;rw [e];clear e
   refine dA ?_
   have hlen : (acc ++ [a7]).length = acc.length + 1 := (by simp);replace HG := re (bind_ite _ _ _) HG
   go_wp2_with fail
   revert HG;refine is_ Ps.k_rb (fun w10 KB HG => ?_) fun w11 KB HG => ?_
   ·replace HG := lpEnd (c := endsB X) (lp := lp) (m := m) (g := bodyFin t.pos) (acc := acc ++ [a7]) (endsB_rb KB.out) HG
    go_wp2
    go_roundg m
    case rel => exact ⟨acc ++ [a7], _, _, _, by omega, by rw [hlen]; exact HG⟩
    case measure => omega
   replace HG := re (Ps.bind_assoc _ _ _) HG
   go_wp2_with fail
   revert HG;refine take_ Ps.k_semi fun w12 KB HG => ?_
   replace HG := lpT (c := endsB X) (g := bodyFin t.pos) H0.out HSS.out HG
   go_wp2
   go_roundg m
   case rel => exact ⟨acc ++ [a7], _, _, _, by omega, by rw [hlen]; exact HG⟩
   case measure => omega
  go_simp
  revert HG;refine c1 (HOK.out m hmn) fun a13 w13 s13 HG => ?_
  go_wp2_with fail
  refine ra2 1 4 (fun K hK => ?_) fun K hK => ?_
  ·have c := ce1 HG;go_simp;refine hK _ _ ?_;clear hK K c
   refine ra1 4 fun K hK => ?_;go_simp;refine hK _ _ ?_;clear hK K
   refine ra1 5 fun K hK => ?_;revert HG;refine apS a13 (show acc.length ≤ 1000000 by omega) fun g14 g14c w14 HG => ?_;refine hK _ _ ?_;clear hK K;refine tq 6 ?_;refine ra1 7 fun K hK => ?_;have c := ce1 HG;go_simp;refine hK _ _ ?_;clear hK K c
   replace HG := so1 4 (.slice (some ⟨g14, 0, none⟩) (acc.length + 1) g14c) HG
   replace HG := gn HG;obtain ⟨w15,e,HG⟩ := HG;rw [e];clear e
   refine dA ?_
   have hlen : (acc ++ [a13]).length = acc.length + 1 := (by simp);replace HG := re (bind_ite _ _ _) HG
   go_wp2_with fail
   revert HG;refine is_ Ps.k_rb (fun w16 KB HG => ?_) fun w17 KB HG => ?_
   ·replace HG := lpEnd (c := endsB X) (lp := lp) (m := m) (g := bodyFin t.pos) (acc := acc ++ [a13]) (endsB_rb KB.out) HG
    go_wp2
    go_roundg m
    case rel => exact ⟨acc ++ [a13], _, _, _, by omega, by rw [hlen]; exact HG⟩
    case measure => omega
   replace HG := re (Ps.bind_assoc _ _ _) HG
   go_wp2_with fail
   revert HG;refine take_ Ps.k_semi fun w18 KB HG => ?_
   replace HG := lpT (c := endsB X) (g := bodyFin t.pos) H0.out HSS.out HG
   go_wp2
   go_roundg m
   case rel => exact ⟨acc ++ [a13], _, _, _, by omega, by rw [hlen]; exact HG⟩
   case measure => omega
  go_simp;refine hK _ _ ?_;clear hK K;refine ra1 1 fun K hK => ?_
  have c := ce2 (rR a13 HG);go_simp;refine hK _ _ ?_;clear hK K c
  refine ra1 5 fun K hK => ?_;revert HG;refine apS a13 (show acc.length ≤ 1000000 by omega) fun g19 g19c w19 HG => ?_;refine hK _ _ ?_;clear hK K;refine tq 6 ?_;refine ra1 7 fun K hK => ?_;have c := ce1 HG;go_simp;refine hK _ _ ?_;clear hK K c
  replace HG := so1 4 (.slice (some ⟨g19, 0, none⟩) (acc.length + 1) g19c) HG
  replace HG := gn HG;obtain ⟨w20,e,HG⟩ := HG;rw [e];clear e
  refine dA ?_
  have hlen : (acc ++ [a13]).length = acc.length + 1 := (by simp);replace HG := re (bind_ite _ _ _) HG
  go_wp2_with fail
  revert HG;refine is_ Ps.k_rb (fun w21 KB HG => ?_) fun w22 KB HG => ?_
  ·replace HG := lpEnd (c := endsB X) (lp := lp) (m := m) (g := bodyFin t.pos) (acc := acc ++ [a13]) (endsB_rb KB.out) HG
   go_wp2
   go_roundg m
   case rel => exact ⟨acc ++ [a13], _, _, _, by omega, by rw [hlen]; exact HG⟩
   case measure => omega
  replace HG := re (Ps.bind_assoc _ _ _) HG
  go_wp2_with fail
  revert HG;refine take_ Ps.k_semi fun w23 KB HG => ?_
  replace HG := lpT (c := endsB X) (g := bodyFin t.pos) H0.out HSS.out HG
  go_wp2
  go_roundg m
  case rel => exact ⟨acc ++ [a13], _, _, _, by omega, by rw [hlen]; exact HG⟩
  case measure => omega
end
end Go.Proofs.YtjickecdkmljpaaGreatDoor
namespace Go.Proofs.YtjickecdkmljpaaGreatDoor
open Go.RowKit

section
variable {N p : Nat} {w : World} {X : Ps.Src} {S : ByteArray} {s : Ps.St} {tv nv : Value} {D : List (Ps.Nd × Value)}
set_option maxRecDepth 100000 in
set_option maxHeartbeats 2000000 in
theorem spstmt_any (rec : Ps.Rec) (HKP : Hid (Ps.Keep rec)) (HE : Hid (Cn X S 201 (rec (.expr 0)))) (HB : Hid (Cn X S 100 (rec .block))) (HBR : Hid (Cn X S 203 (rec .branch))) (HCH : Hid (∀ at_ : Nat, Cn X S 204 (Ps.choice X rec at_) [.int .i64 (at_ : Int)])) : POk X S 157 oneV (Ps.stmtF X rec) := by
 intro N p w s tv nv D h hne
 have HG := x0 oneV h hne (by unfold Ps.stmtF;exact rfl);clear h hne
 go_enter Tryz.func157, Tryz.ntmps157
 go_wp2_with fail
 revert HG;refine now_ fun w1 HG => ?_;generalize hn : Ps.now X s = t at HG ⊢
 have HNt := zh hn;clear hn
 go_wp2_with fail
 replace HG := bt t HG;obtain ⟨w2,q2,e1,e2,l2,HG⟩ := HG;rw [e1,e2];clear e1 e2
 go_wp2_with fail
 revert HG;refine took Ps.k_go_ (fun w3 KB HG => ?_) fun w4 KB HG => ?_
 ·go_wp2_with fail
  revert HG;refine hd fun w5 HG hS => ?_
  refine ta 0 ?_;refine ta 1 ?_;refine ta 2 ?_;refine ta 3 ?_
  refine rd1 4 fun K hK => ?_;go_simp
  revert HG;refine c1 HE.out fun a6 w6 s6 HG => ?_
  go_wp2_with fail
  refine hK.out _ _ (bk0 HG) fun hS => ?_;clear hK K
  refine rd1 5 fun K hK => ?_;go_simp
  replace HG := ro1 a6 HG;obtain ⟨w7,q7,e1,e2,l7,HG⟩ := HG;rw [e1,e2];clear e1 e2
  refine hK.out _ _ (bk1 HG) fun hS => ?_;clear hK K
  refine rd1 6 fun K hK => ?_;go_simp
  revert HG;refine wi fun b8 w8 s8 HG => ?_
  go_wp2_with fail
  refine hK.out _ _ (bk0 HG) fun hS => ?_;clear hK K
  refine ta 7 ?_
  refine dn ?_
  exact en
 go_wp2_with fail
 revert HG;refine took Ps.k_close (fun w9 KB HG => ?_) fun w10 KB HG => ?_
 ·have c := ce0 HG
  go_wp2_with fail
  exact tl (spbracketed_cn rec HKP HE _ _) HG
 go_wp2_with fail
 revert HG;refine took Ps.k_panic (fun w11 KB HG => ?_) fun w12 KB HG => ?_
 ·have c := ce0 HG
  go_wp2_with fail
  exact tl (spbracketed_cn rec HKP HE _ _) HG
 go_wp2_with fail
 revert HG;refine took Ps.k_print (fun w13 KB HG => ?_) fun w14 KB HG => ?_
 ·have c := ce0 HG
  go_wp2_with fail
  exact tl (spbracketed_cn rec HKP HE _ _) HG
 go_wp2_with fail
 revert HG;refine is_ Ps.k_if_ (fun w15 KB HG => ?_) fun w16 KB HG => ?_
 ·go_wp2_with fail
  exact tl HBR.out HG
 go_wp2_with fail
 revert HG;refine took Ps.k_for_ (fun w17 KB HG => ?_) fun w18 KB HG => ?_
 ·go_wp2_with fail
  revert HG;refine c1 HE.out fun a19 w19 s19 HG => ?_
  go_wp2_with fail
  revert HG;refine hd fun w20 HG hS => ?_
  refine ta 0 ?_;refine ta 1 ?_;refine ta 2 ?_;refine ta 3 ?_;refine ta 4 ?_
  refine rd1 5 fun K hK => ?_;go_simp
  revert HG;refine c1 HB.out fun a21 w21 s21 HG => ?_
  go_wp2_with fail
  refine hK.out _ _ (bk0 HG) fun hS => ?_;clear hK K
  refine rd1 6 fun K hK => ?_;go_simp
  replace HG := ro2 a19 a21 HG;obtain ⟨w22,q22,e1,e2,l22,HG⟩ := HG;rw [e1,e2];clear e1 e2
  refine hK.out _ _ (bk1 HG) fun hS => ?_;clear hK K
  refine rd1 7 fun K hK => ?_;go_simp
  revert HG;refine wi fun b23 w23 s23 HG => ?_
  go_wp2_with fail
  refine hK.out _ _ (bk0 HG) fun hS => ?_;clear hK K
  refine ta 8 ?_
  refine dn ?_
  exact en
 go_wp2_with fail
 revert HG;refine took Ps.k_ret (fun w24 KB HG => ?_) fun w25 KB HG => ?_
 ·go_wp2_with fail
  revert HG;refine any_ [b_semi, b_rb] (fun w26 KB HG => ?_) (fun w27 KB HG => ?_) any2
  ·have c := ce0 HG
   replace HG := k0 HG
   go_wp2_with fail
   revert HG;refine wi fun b28 w28 s28 HG => ?_
   exact en
  go_wp2_with fail
  revert HG;refine hd fun w29 HG hS => ?_
  refine ta 0 ?_;refine ta 1 ?_;refine ta 2 ?_;refine ta 3 ?_
  refine rd1 4 fun K hK => ?_;go_simp
  revert HG;refine c1 HE.out fun a30 w30 s30 HG => ?_
  go_wp2_with fail
  refine hK.out _ _ (bk0 HG) fun hS => ?_;clear hK K
  refine rd1 5 fun K hK => ?_;go_simp
  replace HG := ro1 a30 HG;obtain ⟨w31,q31,e1,e2,l31,HG⟩ := HG;rw [e1,e2];clear e1 e2
  refine hK.out _ _ (bk1 HG) fun hS => ?_;clear hK K
  refine rd1 6 fun K hK => ?_;go_simp
  revert HG;refine wi fun b32 w32 s32 HG => ?_
  go_wp2_with fail
  refine hK.out _ _ (bk0 HG) fun hS => ?_;clear hK K
  refine ta 7 ?_
  refine dn ?_
  exact en
 go_wp2_with fail
 revert HG;refine took Ps.k_brk (fun w33 KB HG => ?_) fun w34 KB HG => ?_
 ·have c := ce0 HG
  replace HG := k0 HG
  go_wp2_with fail
  revert HG;refine wi fun b35 w35 s35 HG => ?_
  exact en
 go_wp2_with fail
 revert HG;refine took Ps.k_select (fun w36 KB HG => ?_) fun w37 KB HG => ?_
 ·have c := ce0 HG
  go_wp2_with fail
  exact tl (HCH.out _) HG
 go_upto_region 23 with fail
 replace HG := gn HG;obtain ⟨w38,e,HG⟩ := HG;rw [e];clear e
 go_cut [118] (fun c wx => c = .bool (Ps.isName X s && Ps.nextK X s Ps.k_def_) ∧ wx = w38.drew)
 case first =>
  have bx := (ce0 HG).1
  have hkn : Ps.isName X s = (t.kind == 1) := by unfold Ps.isName; rw [HNt.out]
  cases kk : (t.kind == 1) with
  | false =>
   refine wp_region_held_drew (S := fun v => v.cell? ⟨q2, 0, none⟩ = some (.int .i64 t.kind)) (by kernel_rfl) (bx 0) fun hHeld => ?_
   refine tk 0 ?_;refine tk 1 ?_;refine tk 2 ?_;refine tk 3 ?_;refine tku 4 ?_;refine tku 5 ?_;refine tku 6 ?_;refine tku 7 ?_;refine tku 8 ?_;refine tku 9 ?_;refine tku 10 ?_;refine tku 11 ?_;refine tku 12 ?_;refine tku 13 ?_;refine tku 14 ?_;refine tk 15 ?_;refine tk 16 ?_;refine tku 17 ?_;refine tku 18 ?_;refine tku 19 ?_;refine tku 20 ?_;refine tku 21 ?_;refine tku 22 ?_;refine tku 23 ?_;refine tku 24 ?_;refine tku 25 ?_;refine tku 26 ?_;refine tku 27 ?_;refine tku 28 ?_;refine tku 29 ?_;refine tk 30 ?_
   refine dn ?_;go_wp2_with fail;go_meet;exact ⟨by rw [hkn, kk]; rfl, rfl⟩
  | true =>
   by_cases hj : s.i + 1 < X.toks.length
   ·obtain ⟨g,gc,tx,f1,f2,f3,f4,f5,f6,f7,f8⟩ := nx1 [58, 61] HG hj;cases hq : Ps.nextK X s [58, 61] <;> rw [hq] at f8
    all_goals
     refine wp_region_held_drew (S := fun v => v.cell? ⟨q2, 0, none⟩ = some (.int .i64 t.kind) ∧ v.cell? ⟨p, 1, none⟩ = some (.slice (some ⟨g, 0, none⟩) X.toks.length gc) ∧ v.cell? ⟨p, 2, none⟩ = some (.int .i64 (s.i : Int)) ∧ v.cell? ⟨g, (s.i + 1) * 4 + 1, none⟩ = some (.string (str tx))) (by kernel_rfl) ⟨(bx 0), f5, f6, f7⟩ fun hHeld => ?_
     refine tk 0 ?_;refine tk 1 ?_;refine tk 2 ?_;refine tk 3 ?_;refine tk 4 ?_;refine tk 5 ?_;refine tk 6 ?_;refine tk 7 ?_;refine tk 8 ?_;refine tk 9 ?_;refine tk 10 ?_;refine tk 11 ?_;refine tk 12 ?_;refine tk 13 ?_;refine tk 14 ?_;refine tk 15 ?_;refine tk 16 ?_;refine tk 17 ?_;refine tk 18 ?_;refine tk 19 ?_;refine tk 20 ?_;refine tk 21 ?_;refine tk 22 ?_;refine tk 23 ?_;refine tk 24 ?_;refine tk 25 ?_;refine tk 26 ?_;refine tk 27 ?_;refine tk 28 ?_;refine tk 29 ?_;refine tk 30 ?_
     refine dn ?_;go_wp2_with fail;go_meet;exact ⟨congrArg Value.bool (by rw [hkn, kk, show Ps.nextK X s Ps.k_def_ = _ from hq] <;> rfl), rfl⟩
   obtain ⟨ua,uc,f1,f4,f5,f6,hq⟩ := nx0 [58, 61] HG hj
   refine wp_region_held_drew (S := fun v => v.cell? ⟨q2, 0, none⟩ = some (.int .i64 t.kind) ∧ v.cell? ⟨p, 1, none⟩ = some (.slice ua X.toks.length uc) ∧ v.cell? ⟨p, 2, none⟩ = some (.int .i64 (s.i : Int))) (by kernel_rfl) ⟨(bx 0), f5, f6⟩ fun hHeld => ?_
   refine tk 0 ?_;refine tk 1 ?_;refine tk 2 ?_;refine tk 3 ?_;refine tk 4 ?_;refine tk 5 ?_;refine tk 6 ?_;refine tk 7 ?_;refine tk 8 ?_;refine tk 9 ?_;refine tk 10 ?_;refine tk 11 ?_;refine tk 12 ?_;refine tk 13 ?_;refine tk 14 ?_;refine tk 15 ?_;refine tk 16 ?_;refine tku 17 ?_;refine tku 18 ?_;refine tku 19 ?_;refine tku 20 ?_;refine tku 21 ?_;refine tku 22 ?_;refine tku 23 ?_;refine tku 24 ?_;refine tku 25 ?_;refine tku 26 ?_;refine tku 27 ?_;refine tku 28 ?_;refine tku 29 ?_;refine tk 30 ?_
   refine dn ?_;go_wp2_with fail;go_meet;exact ⟨congrArg Value.bool (by rw [hkn, kk, show Ps.nextK X s Ps.k_def_ = _ from hq] <;> rfl), rfl⟩
 case rest =>
  obtain ⟨rfl, rfl⟩ := hcut;replace HG := dw HG
  replace HG := gn HG;obtain ⟨w39,e,HG⟩ := HG;rw [e];clear e
  cases hb : (Ps.isName X s && Ps.nextK X s Ps.k_def_) with
  | true =>
   have HQ : Hid (Ps.nextK X s Ps.k_def_ = true) := zh (by revert hb; simp);replace HG := re (if_pos (by simpa using hb)) HG;clear hb
   obtain ⟨b1,b2,b3,b4,b5⟩ := pc HG;have f9 := iw2 HQ HG
   go_wp2_with fail
   replace HG := ia2 (nextK_lt HQ) HG
   replace HG := gn HG;obtain ⟨w40,e,HG⟩ := HG;rw [e];clear e
   clear b1 b2 b3 b4 b5 f9
   go_wp2_with fail
   revert HG;refine hd fun w41 HG hS => ?_
   refine ta 0 ?_;refine ta 1 ?_;refine ta 2 ?_;refine ta 3 ?_;refine ta 4 ?_;refine ta 5 ?_
   refine rd1 6 fun K hK => ?_;go_simp
   revert HG;refine c1 HE.out fun a42 w42 s42 HG => ?_
   go_wp2_with fail
   refine hK.out _ _ (bk0 HG) fun hS => ?_;clear hK K
   refine rd1 7 fun K hK => ?_;go_simp
   replace HG := ro1 a42 HG;obtain ⟨w43,q43,e1,e2,l43,HG⟩ := HG;rw [e1,e2];clear e1 e2
   refine hK.out _ _ (bk1 HG) fun hS => ?_;clear hK K
   refine ta 8 ?_
   refine rd1 9 fun K hK => ?_;go_simp
   revert HG;refine pu fun b44 w44 s44 HG => ?_
   go_wp2_with fail
   refine hK.out _ _ (bk0 HG) fun hS => ?_;clear hK K
   refine ta 10 ?_
   refine dn ?_
   exact en
  | false =>
   replace HG := re (if_neg (by simpa using hb)) HG;clear hb
   go_wp2_with fail
   revert HG;refine c1 HE.out fun a45 w45 s45 HG => ?_
   go_wp2_with fail
   revert HG;refine took Ps.k_asg (fun w46 KB HG => ?_) fun w47 KB HG => ?_
   ·go_wp2_with fail
    revert HG;refine hd fun w48 HG hS => ?_
    refine ta 0 ?_;refine ta 1 ?_;refine ta 2 ?_;refine ta 3 ?_;refine ta 4 ?_
    refine rd1 5 fun K hK => ?_;go_simp
    revert HG;refine c1 HE.out fun a49 w49 s49 HG => ?_
    go_wp2_with fail
    refine hK.out _ _ (bk0 HG) fun hS => ?_;clear hK K
    refine rd1 6 fun K hK => ?_;go_simp
    replace HG := ro2 a45 a49 HG;obtain ⟨w50,q50,e1,e2,l50,HG⟩ := HG;rw [e1,e2];clear e1 e2
    refine hK.out _ _ (bk1 HG) fun hS => ?_;clear hK K
    refine rd1 7 fun K hK => ?_;go_simp
    revert HG;refine wi fun b51 w51 s51 HG => ?_
    go_wp2_with fail
    refine hK.out _ _ (bk0 HG) fun hS => ?_;clear hK K
    refine ta 8 ?_
    refine dn ?_
    exact en
   go_wp2_with fail
   revert HG;refine took Ps.k_arr (fun w52 KB HG => ?_) fun w53 KB HG => ?_
   ·go_wp2_with fail
    revert HG;refine hd fun w54 HG hS => ?_
    refine ta 0 ?_;refine ta 1 ?_;refine ta 2 ?_;refine ta 3 ?_;refine ta 4 ?_
    refine rd1 5 fun K hK => ?_;go_simp
    revert HG;refine c1 HE.out fun a55 w55 s55 HG => ?_
    go_wp2_with fail
    refine hK.out _ _ (bk0 HG) fun hS => ?_;clear hK K
    refine rd1 6 fun K hK => ?_;go_simp
    replace HG := ro2 a45 a55 HG;obtain ⟨w56,q56,e1,e2,l56,HG⟩ := HG;rw [e1,e2];clear e1 e2
    refine hK.out _ _ (bk1 HG) fun hS => ?_;clear hK K
    refine rd1 7 fun K hK => ?_;go_simp
    revert HG;refine wi fun b57 w57 s57 HG => ?_
    go_wp2_with fail
    refine hK.out _ _ (bk0 HG) fun hS => ?_;clear hK K
    refine ta 8 ?_
    refine dn ?_
    exact en
   have c := ce0 HG
   go_wp2_with fail
   replace HG := ro1 a45 HG;obtain ⟨w58,q58,e1,e2,l58,HG⟩ := HG;rw [e1,e2];clear e1 e2
   revert HG;refine wi fun b59 w59 s59 HG => ?_
   exact en
end
end Go.Proofs.YtjickecdkmljpaaGreatDoor
namespace Go.Proofs.YtjickecdkmljpaaGreatDoor
open Go.RowKit

section
variable {N p : Nat} {w : World} {X : Ps.Src} {S : ByteArray} {s : Ps.St} {tv nv : Value} {D : List (Ps.Nd × Value)}
theorem tkn {wk : World} {val : List Nat → Value} {pl : Ps.Res} {dz : Int} {ko : Option Nat} {L : List It} {x : List UInt8} (g : Ps.St → Ps.Res) (hb : Ps.isK X s x = true) (h : Hid (Sx N p X S w tv nv D val pl dz ko wk s L (g (Ps.adv s)))) : Hid (Sx N p X S w tv nv D val pl dz ko wk s L ((Ps.take X x s).bind fun _ s5 => g s5)) := re (by unfold Ps.take; rw [if_pos hb]; rfl) h
set_option maxRecDepth 100000 in
set_option maxHeartbeats 2000000 in
theorem spbranch_any (rec : Ps.Rec) (HE : Hid (Cn X S 201 (rec (.expr 0)))) (HB : Hid (Cn X S 100 (rec .block))) (HBR : Hid (Cn X S 203 (rec .branch))) : POk X S 203 oneV (Ps.branchF X rec) := by
 intro N p w s tv nv D h hne
 have HG := x0 oneV h hne (by unfold Ps.branchF;exact rfl);clear h hne
 go_enter Tryz.func203, Tryz.ntmps203
 go_wp2_with fail
 revert HG;refine take_ Ps.k_if_ fun w1 KB HG => ?_
 generalize Ps.now X s = t at HG ⊢
 go_wp2_with fail
 revert HG;refine c1 HE.out fun a2 w2 s2 HG => ?_
 go_wp2_with fail
 revert HG;refine c1 HB.out fun a3 w3 s3 HG => ?_
 replace HG := rR2 a2 a3 HG
 go_wp2_with fail
 replace HG := gn HG;obtain ⟨w4,e,HG⟩ := HG;rw [e];clear e
 revert HG;refine is_ Ps.k_else_ (fun w5 KB HG => ?_) fun w6 KB HG => ?_
 ·go_upto_region 5 with fail
  replace HG := gn HG;obtain ⟨w7,e,HG⟩ := HG;rw [e];clear e
  go_cut [41] (fun c wx => c = .bool (Ps.nextK X s3 Ps.k_if_) ∧ wx = w7.drew)
  case first =>
   by_cases hj : s3.i + 1 < X.toks.length
   ·obtain ⟨g,gc,tx,f1,f2,f3,f4,f5,f6,f7,f8⟩ := nx1 [105, 102] HG hj;cases hq : Ps.nextK X s3 [105, 102] <;> rw [hq] at f8
    all_goals
     refine wp_region_held_drew (S := fun v => v.cell? ⟨p, 1, none⟩ = some (.slice (some ⟨g, 0, none⟩) X.toks.length gc) ∧ v.cell? ⟨p, 2, none⟩ = some (.int .i64 (s3.i : Int)) ∧ v.cell? ⟨g, (s3.i + 1) * 4 + 1, none⟩ = some (.string (str tx))) (by kernel_rfl) ⟨f5, f6, f7⟩ fun hHeld => ?_
     refine tk 0 ?_;refine tk 1 ?_;refine tk 2 ?_;refine tk 3 ?_;refine tk 4 ?_;refine tk 5 ?_;refine tk 6 ?_;refine tk 7 ?_;refine tk 8 ?_;refine tk 9 ?_;refine tk 10 ?_;refine tk 11 ?_;refine tk 12 ?_;refine tk 13 ?_;refine tk 14 ?_;refine tk 15 ?_;refine tk 16 ?_;refine tk 17 ?_;refine tk 18 ?_;refine tk 19 ?_;refine tk 20 ?_;refine tk 21 ?_;refine tk 22 ?_;refine tk 23 ?_;refine tk 24 ?_;refine tk 25 ?_
     refine dn ?_;go_wp2_with fail;go_meet;exact ⟨congrArg Value.bool (by rw [show Ps.nextK X s3 Ps.k_if_ = _ from hq] <;> rfl), rfl⟩
   obtain ⟨ua,uc,f1,f4,f5,f6,hq⟩ := nx0 [105, 102] HG hj
   refine wp_region_held_drew (S := fun v => v.cell? ⟨p, 1, none⟩ = some (.slice ua X.toks.length uc) ∧ v.cell? ⟨p, 2, none⟩ = some (.int .i64 (s3.i : Int))) (by kernel_rfl) ⟨f5, f6⟩ fun hHeld => ?_
   refine tk 0 ?_;refine tk 1 ?_;refine tk 2 ?_;refine tk 3 ?_;refine tk 4 ?_;refine tk 5 ?_;refine tk 6 ?_;refine tk 7 ?_;refine tk 8 ?_;refine tk 9 ?_;refine tk 10 ?_;refine tk 11 ?_;refine tku 12 ?_;refine tku 13 ?_;refine tku 14 ?_;refine tku 15 ?_;refine tku 16 ?_;refine tku 17 ?_;refine tku 18 ?_;refine tku 19 ?_;refine tku 20 ?_;refine tku 21 ?_;refine tku 22 ?_;refine tku 23 ?_;refine tku 24 ?_;refine tk 25 ?_
   refine dn ?_;go_wp2_with fail;go_meet;exact ⟨congrArg Value.bool (by rw [show Ps.nextK X s3 Ps.k_if_ = _ from hq] <;> rfl), rfl⟩
  case rest =>
   obtain ⟨rfl, rfl⟩ := hcut;replace HG := dw HG
   replace HG := gn HG;obtain ⟨w8,e,HG⟩ := HG;rw [e];clear e
   cases hb : (Ps.nextK X s3 Ps.k_if_) with
   | true =>
    have HQ : Hid (Ps.nextK X s3 Ps.k_if_ = true) := zh (by revert hb; simp);replace HG := re (if_pos (by simpa using hb)) HG;clear hb
    go_wp2_with fail
    revert HG;refine enter_ Ps.k_else_ fun w9 KB HG => ?_
    go_wp2_with fail
    revert HG;refine c1 HBR.out fun a10 w10 s10 HG => ?_
    go_wp2_with (at_builtin; revert HG;refine apL a10 (show [a2, a3].length ≤ 1000000 by simp) fun g11 g11c w11 HG => ?_;obtain ⟨b1,b2,b3,b4,b5⟩ := pc HG;have hd := pdd HG;replace HG := dd HG)
    replace HG := gn HG;obtain ⟨w12,e,HG⟩ := HG;rw [e];clear e
    clear b1 b2 b3 b4 b5 hd
    revert HG;refine wi fun b13 w13 s13 HG => ?_
    exact en
   | false =>
    replace HG := re (if_neg (by simpa using hb)) HG;clear hb
    go_wp2_with fail
    replace HG := tkn (fun s5 => (rec .block s5).bind fun e s6 => Ps.with_ 22 t.pos ([a2] ++ [a3] ++ e) s6) KB.out HG;revert HG;refine take_ Ps.k_else_ fun w14 KB2 HG => ?_
    go_wp2_with fail
    revert HG;refine c1 HB.out fun a15 w15 s15 HG => ?_
    go_wp2_with (at_builtin; revert HG;refine apL a15 (show [a2, a3].length ≤ 1000000 by simp) fun g16 g16c w16 HG => ?_)
    revert HG;refine wi fun b17 w17 s17 HG => ?_
    exact en
 go_wp2_with fail
 revert HG;refine wi fun b18 w18 s18 HG => ?_
 exact en
set_option maxRecDepth 100000 in
set_option maxHeartbeats 4000000 in
theorem spone_any (rec : Ps.Rec) (HE : Hid (Cn X S 201 (rec (.expr 0)))) (HBO : Hid (Cn X S 260 (Ps.bodyF X rec))) : POk X S 242 oneV (Ps.caseF X rec) := by
 intro N p w s tv nv D h hne
 have HG := x0 oneV h hne (by unfold Ps.caseF;exact rfl);clear h hne
 go_enter Tryz.func242, Tryz.ntmps242
 go_wp2_with fail
 revert HG;refine now_ fun w1 HG => ?_;generalize Ps.now X s = t at HG ⊢
 go_wp2_with fail
 replace HG := bt t HG;obtain ⟨w2,q2,e1,e2,l2,HG⟩ := HG;rw [e1,e2];clear e1 e2
 go_wp2_with fail
 revert HG;refine took Ps.k_dflt (fun w3 KB HG => ?_) fun w4 KB HG => ?_
 ·go_wp2_with fail
  revert HG;refine hd fun w5 HG hS => ?_
  refine ta 0 ?_;refine ta 1 ?_;refine ta 2 ?_;refine ta 3 ?_
  refine rd1 4 fun K hK => ?_;go_simp
  revert HG;refine c1 HBO.out fun a6 w6 s6 HG => ?_
  go_wp2_with fail
  refine hK.out _ _ (bk0 HG) fun hS => ?_;clear hK K
  refine rd1 5 fun K hK => ?_;go_simp
  replace HG := ro1 a6 HG;obtain ⟨w7,q7,e1,e2,l7,HG⟩ := HG;rw [e1,e2];clear e1 e2
  refine hK.out _ _ (bk1 HG) fun hS => ?_;clear hK K
  refine rd1 6 fun K hK => ?_;go_simp
  revert HG;refine wi fun b8 w8 s8 HG => ?_
  go_wp2_with fail
  refine hK.out _ _ (bk0 HG) fun hS => ?_;clear hK K
  refine ta 7 ?_
  refine dn ?_
  exact en
 go_wp2_with fail
 revert HG;refine take_ Ps.k_case_ fun w9 KB HG => ?_
 go_wp2_with fail
 revert HG;refine now_ fun w10 HG => ?_;generalize hn : Ps.now X (Ps.adv s) = t2 at HG ⊢
 have HNt2 := zh hn;clear hn
 go_wp2_with fail
 replace HG := bt t2 HG;obtain ⟨w11,q11,e1,e2,l11,HG⟩ := HG;rw [e1,e2];clear e1 e2
 go_upto_region 6 with fail
 replace HG := gn HG;obtain ⟨w12,e,HG⟩ := HG;rw [e];clear e
 go_cut [53] (fun c wx => c = .bool (Ps.isName X (Ps.adv s) && Ps.nextK X (Ps.adv s) Ps.k_def_) ∧ wx = w12.drew)
 case first =>
  have bx := (ce0 HG).1
  have hkn : Ps.isName X (Ps.adv s) = (t2.kind == 1) := by unfold Ps.isName; rw [HNt2.out]
  cases kk : (t2.kind == 1) with
  | false =>
   refine wp_region_held_drew (S := fun v => v.cell? ⟨q11, 0, none⟩ = some (.int .i64 t2.kind)) (by kernel_rfl) (bx 0) fun hHeld => ?_
   refine tk 0 ?_;refine tk 1 ?_;refine tk 2 ?_;refine tk 3 ?_;refine tku 4 ?_;refine tku 5 ?_;refine tku 6 ?_;refine tku 7 ?_;refine tku 8 ?_;refine tku 9 ?_;refine tku 10 ?_;refine tku 11 ?_;refine tku 12 ?_;refine tku 13 ?_;refine tku 14 ?_;refine tk 15 ?_;refine tk 16 ?_;refine tku 17 ?_;refine tku 18 ?_;refine tku 19 ?_;refine tku 20 ?_;refine tku 21 ?_;refine tku 22 ?_;refine tku 23 ?_;refine tku 24 ?_;refine tku 25 ?_;refine tku 26 ?_;refine tku 27 ?_;refine tku 28 ?_;refine tku 29 ?_;refine tk 30 ?_
   refine dn ?_;go_wp2_with fail;go_meet;exact ⟨by rw [hkn, kk]; rfl, rfl⟩
  | true =>
   by_cases hj : (Ps.adv s).i + 1 < X.toks.length
   ·obtain ⟨g,gc,tx,f1,f2,f3,f4,f5,f6,f7,f8⟩ := nx1 [58, 61] HG hj;cases hq : Ps.nextK X (Ps.adv s) [58, 61] <;> rw [hq] at f8
    all_goals
     refine wp_region_held_drew (S := fun v => v.cell? ⟨q11, 0, none⟩ = some (.int .i64 t2.kind) ∧ v.cell? ⟨p, 1, none⟩ = some (.slice (some ⟨g, 0, none⟩) X.toks.length gc) ∧ v.cell? ⟨p, 2, none⟩ = some (.int .i64 ((Ps.adv s).i : Int)) ∧ v.cell? ⟨g, ((Ps.adv s).i + 1) * 4 + 1, none⟩ = some (.string (str tx))) (by kernel_rfl) ⟨(bx 0), f5, f6, f7⟩ fun hHeld => ?_
     refine tk 0 ?_;refine tk 1 ?_;refine tk 2 ?_;refine tk 3 ?_;refine tk 4 ?_;refine tk 5 ?_;refine tk 6 ?_;refine tk 7 ?_;refine tk 8 ?_;refine tk 9 ?_;refine tk 10 ?_;refine tk 11 ?_;refine tk 12 ?_;refine tk 13 ?_;refine tk 14 ?_;refine tk 15 ?_;refine tk 16 ?_;refine tk 17 ?_;refine tk 18 ?_;refine tk 19 ?_;refine tk 20 ?_;refine tk 21 ?_;refine tk 22 ?_;refine tk 23 ?_;refine tk 24 ?_;refine tk 25 ?_;refine tk 26 ?_;refine tk 27 ?_;refine tk 28 ?_;refine tk 29 ?_;refine tk 30 ?_
     refine dn ?_;go_wp2_with fail;go_meet;exact ⟨congrArg Value.bool (by rw [hkn, kk, show Ps.nextK X (Ps.adv s) Ps.k_def_ = _ from hq] <;> rfl), rfl⟩
   obtain ⟨ua,uc,f1,f4,f5,f6,hq⟩ := nx0 [58, 61] HG hj
   refine wp_region_held_drew (S := fun v => v.cell? ⟨q11, 0, none⟩ = some (.int .i64 t2.kind) ∧ v.cell? ⟨p, 1, none⟩ = some (.slice ua X.toks.length uc) ∧ v.cell? ⟨p, 2, none⟩ = some (.int .i64 ((Ps.adv s).i : Int))) (by kernel_rfl) ⟨(bx 0), f5, f6⟩ fun hHeld => ?_
   refine tk 0 ?_;refine tk 1 ?_;refine tk 2 ?_;refine tk 3 ?_;refine tk 4 ?_;refine tk 5 ?_;refine tk 6 ?_;refine tk 7 ?_;refine tk 8 ?_;refine tk 9 ?_;refine tk 10 ?_;refine tk 11 ?_;refine tk 12 ?_;refine tk 13 ?_;refine tk 14 ?_;refine tk 15 ?_;refine tk 16 ?_;refine tku 17 ?_;refine tku 18 ?_;refine tku 19 ?_;refine tku 20 ?_;refine tku 21 ?_;refine tku 22 ?_;refine tku 23 ?_;refine tku 24 ?_;refine tku 25 ?_;refine tku 26 ?_;refine tku 27 ?_;refine tku 28 ?_;refine tku 29 ?_;refine tk 30 ?_
   refine dn ?_;go_wp2_with fail;go_meet;exact ⟨congrArg Value.bool (by rw [hkn, kk, show Ps.nextK X (Ps.adv s) Ps.k_def_ = _ from hq] <;> rfl), rfl⟩
 case rest =>
  obtain ⟨rfl, rfl⟩ := hcut;replace HG := dw HG
  replace HG := gn HG;obtain ⟨w13,e,HG⟩ := HG;rw [e];clear e
  cases hb : (Ps.isName X (Ps.adv s) && Ps.nextK X (Ps.adv s) Ps.k_def_) with
  | true =>
   have HQ : Hid (Ps.nextK X (Ps.adv s) Ps.k_def_ = true) := zh (by revert hb; simp);replace HG := re (if_pos (by simpa using hb)) HG;clear hb
   obtain ⟨b1,b2,b3,b4,b5⟩ := pc HG;have f9 := iw2 HQ HG
   go_wp2_with fail
   replace HG := ia2 (nextK_lt HQ) HG
   replace HG := gn HG;obtain ⟨w14,e,HG⟩ := HG;rw [e];clear e
   clear b1 b2 b3 b4 b5 f9
   go_wp2_with fail
   revert HG;refine take_ Ps.k_arr fun w15 KB HG => ?_
   go_wp2_with fail
   revert HG;refine c1 HE.out fun a16 w16 s16 HG => ?_
   go_wp2_with fail
   revert HG;refine hd fun w17 HG hS => ?_
   refine ta 0 ?_;refine ta 1 ?_;refine ta 2 ?_;refine ta 3 ?_;refine ta 4 ?_;refine ta 5 ?_;refine ta 6 ?_
   refine rd1 7 fun K hK => ?_;go_simp
   revert HG;refine c1 HBO.out fun a18 w18 s18 HG => ?_
   go_wp2_with fail
   refine hK.out _ _ (bk0 HG) fun hS => ?_;clear hK K
   refine rd1 8 fun K hK => ?_;go_simp
   replace HG := ro2 a16 a18 HG;obtain ⟨w19,q19,e1,e2,l19,HG⟩ := HG;rw [e1,e2];clear e1 e2
   refine hK.out _ _ (bk1 HG) fun hS => ?_;clear hK K
   refine ta 9 ?_
   refine rd1 10 fun K hK => ?_;go_simp
   revert HG;refine pu fun b20 w20 s20 HG => ?_
   go_wp2_with fail
   refine hK.out _ _ (bk0 HG) fun hS => ?_;clear hK K
   refine ta 11 ?_
   refine dn ?_
   exact en
  | false =>
   replace HG := re (if_neg (by simpa using hb)) HG;clear hb
   go_wp2_with fail
   revert HG;refine took Ps.k_arr (fun w21 KB HG => ?_) fun w22 KB HG => ?_
   ·have d0 := ce0 HG
    replace HG := so0 1 (.string ⟨#[]⟩) HG
    go_wp2_with fail
    replace HG := gn HG;obtain ⟨w23,e,HG⟩ := HG;rw [e];clear e
    clear d0
    revert HG;refine c1 HE.out fun a24 w24 s24 HG => ?_
    go_wp2_with fail
    revert HG;refine hd fun w25 HG hS => ?_
    refine ta 0 ?_;refine ta 1 ?_;refine ta 2 ?_;refine ta 3 ?_;refine ta 4 ?_;refine ta 5 ?_;refine ta 6 ?_
    refine rd1 7 fun K hK => ?_;go_simp
    revert HG;refine c1 HBO.out fun a26 w26 s26 HG => ?_
    go_wp2_with fail
    refine hK.out _ _ (bk0 HG) fun hS => ?_;clear hK K
    refine rd1 8 fun K hK => ?_;go_simp
    replace HG := ro2 a24 a26 HG;obtain ⟨w27,q27,e1,e2,l27,HG⟩ := HG;rw [e1,e2];clear e1 e2
    refine hK.out _ _ (bk1 HG) fun hS => ?_;clear hK K
    refine ta 9 ?_
    refine rd1 10 fun K hK => ?_;go_simp
    revert HG;refine pu fun b28 w28 s28 HG => ?_
    go_wp2_with fail
    refine hK.out _ _ (bk0 HG) fun hS => ?_;clear hK K
    refine ta 11 ?_
    refine dn ?_
    exact en
   go_wp2_with fail
   revert HG;refine c1 HE.out fun a29 w29 s29 HG => ?_
   go_wp2_with fail
   revert HG;refine take_ Ps.k_arr fun w30 KB HG => ?_
   go_wp2_with fail
   revert HG;refine c1 HE.out fun a31 w31 s31 HG => ?_
   go_wp2_with fail
   revert HG;refine hd fun w32 HG hS => ?_
   refine ta 0 ?_;refine ta 1 ?_;refine ta 2 ?_;refine ta 3 ?_;refine ta 4 ?_;refine ta 5 ?_
   refine rd1 6 fun K hK => ?_;go_simp
   revert HG;refine c1 HBO.out fun a33 w33 s33 HG => ?_
   go_wp2_with fail
   refine hK.out _ _ (bk0 HG) fun hS => ?_;clear hK K
   refine rd1 7 fun K hK => ?_;go_simp
   replace HG := ro3 a29 a31 a33 HG;obtain ⟨w34,q34,e1,e2,l34,HG⟩ := HG;rw [e1,e2];clear e1 e2
   refine hK.out _ _ (bk1 HG) fun hS => ?_;clear hK K
   refine rd1 8 fun K hK => ?_;go_simp
   revert HG;refine wi fun b35 w35 s35 HG => ?_
   go_wp2_with fail
   refine hK.out _ _ (bk0 HG) fun hS => ?_;clear hK K
   refine ta 9 ?_
   refine dn ?_
   exact en
end
end Go.Proofs.YtjickecdkmljpaaGreatDoor
