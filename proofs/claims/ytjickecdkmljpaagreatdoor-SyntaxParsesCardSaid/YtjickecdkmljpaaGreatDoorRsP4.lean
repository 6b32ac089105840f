/-
  PROVED HERE: the reference's parser: names with types, pointers, lists. No condition beyond the lemmas' own premises. (Printed by psr.py.)
-/
import Derived.Test.YtjickecdkmljpaaGreatDoorPsTk
import Derived.Test.YtjickecdkmljpaaGreatDoorRsP3
import Derived.Test.YtjickecdkmljpaaGreatDoorRsA
namespace Go.Proofs.YtjickecdkmljpaaGreatDoor.R
open Go.RowKit

section
variable {N p : Nat} {w : World} {X : Ps.Src} {S : ByteArray} {s : Rs.St} {tv nv : Value} {D : List (Ps.Nd × Value)}
/-- What a loop still has to do: nothing where its test says so. -/
def LoopT (t : Rs.St → Bool) (lp : Nat → List Nat → Rs.St → Rs.Res) (m : Nat) (acc : List Nat) (s : Rs.St) : Rs.Res := if t s = true then .ok acc s else lp m acc s
theorem loop_is {t : Rs.St → Bool} {lp : Nat → List Nat → Rs.St → Rs.Res} {m : Nat} {acc : List Nat} {s : Rs.St} {P : Rs.Res} {F : List Nat → Rs.St → Rs.Res} (h0 : ∀ a s, lp 0 a s = .out) (hx : ∀ m a s, t s = true → lp (m + 1) a s = .ok a s) (hp : P = (lp m acc s).bind F) (hne : P ≠ .out) : P = (LoopT t lp m acc s).bind F := by
 unfold LoopT
 by_cases h : t s = true
 ·rw [if_pos h]
  cases m with
  | zero => exact absurd (by rw [hp, h0]; rfl) hne
  | succ m => rw [hp, hx m acc s h]
 ·rw [if_neg h];exact hp
theorem stop_isK (X : Ps.Src) (c : Int) (s : Rs.St) (k : List UInt8) : Rs.isK X (Rs.stop X c s) k = false := by
 show Ps.isK X (Rs.stop X c s).p k = false
 unfold Rs.stop Ps.isK Ps.now;dsimp only;rw [List.getD_eq_getElem?_getD, List.getElem?_eq_none (Nat.le_refl _)];simp [Ps.noTok]
/-- The contract of 'param', of 'expr': a number besides. -/
def NumOk (X : Ps.Src) (S : ByteArray) (f : FuncId) (k : Int) (plain : Rs.St → Rs.Res) : Prop :=
 ∀ (N p : Nat) (w : World) (s : Rs.St) (tv nv : Value) (D : List (Ps.Nd × Value)), PSt N p w X S s tv nv D → plain s ≠ .out → Calls Tryz.prog f #[.pointer (some ⟨p, 0, none⟩), .int .i64 k] w (Out N p X S w tv nv D oneV (plain s))
/-- The contract of 'list'. -/
def LsOk (X : Ps.Src) (S : ByteArray) (k : Int) (plain : Rs.St → Rs.Res) : Prop :=
 ∀ (N p : Nat) (w : World) (s : Rs.St) (tv nv : Value) (D : List (Ps.Nd × Value)), PSt N p w X S s tv nv D → plain s ≠ .out → Calls Tryz.prog 159 #[.pointer (some ⟨p, 0, none⟩), .int .i64 k] w (OutL N p X S w tv nv D (plain s))
/-- The end of a list. -/
def FinR (X : Ps.Src) (x : List UInt8) (l : List Nat) (s : Rs.St) : Rs.Res := .ok l (Rs.leaveS X x s)
set_option maxRecDepth 100000 in
set_option maxHeartbeats 1000000 in
theorem rppointer_any  : POk X S 109 oneV (Rs.pointer X) := by
 intro N p w s tv nv D h hne;have HG := zh (Go.start h);have HNE := zh hne;obtain ⟨t, hnow⟩ : ∃ t, Rs.now X s = t := ⟨_, rfl⟩;have HNOWt := zh hnow;clear hnow;clear h hne
 go_enter Tryz.func109, Tryz.ntmps109
 go_wp2_with fail
 refine (rptake_any HG.out.st ⟨#[42]⟩).mono ?_;rintro e w1 hq;obtain ⟨v, s1, n1, E1, hr, rfl, h1, h2, h3⟩ := hq.parts ((fun e => by cases e));replace hr : Rs.Res.ok [(Rs.now X s).pos] (Rs.takeS X Ps.k_star s) = .ok v s1 := hr
 cases hr
 replace HG := zh (HG.out.then h1 h2 h3);clear hq h1 h2 h3;unfold oneV;rw [HNOWt.out];go_wp2_with fail
 refine (rpname_any HG.out.st).mono ?_;rintro e w2 hq;obtain ⟨v, s2, n2, E2, hr, rfl, h1, h2, h3⟩ := hq.parts ((fun e => by cases e));replace hr : Rs.Res.ok [] (Rs.nameS X (Rs.takeS X Ps.k_star s)) = .ok v s2 := hr
 cases hr
 replace HG := zh (HG.out.then h1 h2 h3);clear hq h1 h2 h3;generalize hnt : Rs.nameT X (Rs.takeS X Ps.k_star s) = nt at *;have HNTnt := zh hnt;clear hnt;go_wp2_with fail
 have HPL : Hid (Rs.pointer X s = Rs.put ⟨4, t.pos, 0, nt, []⟩ (Rs.nameS X (Rs.takeS X Ps.k_star s))) := zh (by simp [Rs.pointer, HNOWt.out, HNTnt.out, Rs.take, Rs.enter, Rs.leave, Rs.name, Rs.with_, Rs.bind_ok, Rs.Res.bind]);have hne2 := HNE.out;rw [HPL.out] at hne2;have hf := put_few hne2;have HPI := zh (put_is hne2);clear hne2;refine (rpput_any HG.out.st ⟨4, t.pos, 0, nt, []⟩ (.slice none 0 0) (kids_nil _ _) hf).mono ?_;rintro e w3 ⟨rfl, n3, h1, h2⟩;have HE : Hid (Out N p X S w tv nv D oneV (Rs.pointer X s) (.returned (.int .i64 ((Rs.nameS X (Rs.takeS X Ps.k_star s)).p.nodes.length : Int))) w3) := zh ((HG.out.put_ h1 h2 (nil_fresh _)).out (by rw [HPL.out, HPI.out]) rfl);clear h1 h2;go_wp2
 go_returns
 exact HE.out
set_option maxRecDepth 100000 in
set_option maxHeartbeats 1000000 in
theorem rpparam_any (rec : Rs.Rec) (HO : Hid (Rs.Ones rec)) (HT : Hid (POk X S 158 oneV (rec .typ))) (kind : Int) : NumOk X S 106 kind (Rs.named X rec kind) := by
 intro N p w s tv nv D h hne;have HG := zh (Go.start h);have HNE := zh hne;clear h hne
 go_enter Tryz.func106, Tryz.ntmps106
 go_wp2_with fail
 refine (rpnow_any HG.out.st).mono ?_;rintro e w1 ⟨rfl, hb⟩;replace HG := zh (HG.out.new hb);clear hb;generalize hnow : Rs.now X s = t at *;have HNOWt := zh hnow;clear hnow;unfold tokVal tokCells;go_wp2_with fail
 have HBt := zh (Bx.new HG.out #[.int .i64 t.kind, .string (str t.text), .int .i64 t.num, .int .i64 (t.pos : Int)] 95);replace HG := zh (HG.out.alloc (.cells #[.int .i64 t.kind, .string (str t.text), .int .i64 t.num, .int .i64 (t.pos : Int)] 95));generalize hw2 : (w1.alloc (.cells #[.int .i64 t.kind, .string (str t.text), .int .i64 t.num, .int .i64 (t.pos : Int)] 95)) = w2 at *;have hql := HBt.out.lt;clear hw2;go_wp2_with fail
 refine (rpname_any HG.out.st).mono ?_;rintro e w3 hq;obtain ⟨v, s3, n3, E3, hr, rfl, h1, h2, h3⟩ := hq.parts ((fun e => by cases e));replace hr : Rs.Res.ok [] (Rs.nameS X s) = .ok v s3 := hr
 cases hr
 replace HBt := zh (HBt.out.mv HG.out.pl h2);replace HG := zh (HG.out.then h1 h2 h3);clear hq h1 h2 h3;generalize hnt : Rs.nameT X s = nt at *;have HNTnt := zh hnt;clear hnt;go_wp2_with fail
 refine (HT.out _ _ _ _ _ _ _ HG.out.st (fun e => HNE.out (by simp [Rs.named, HNOWt.out, HNTnt.out, e, Rs.take, Rs.enter, Rs.leave, Rs.name, Rs.with_, Rs.bind_ok, Rs.Res.bind]))).mono ?_;rintro e w4 hq;obtain ⟨v, s4, n4, E4, hr, rfl, h1, h2, h3⟩ := hq.parts (fun e => HNE.out (by simp [Rs.named, HNOWt.out, HNTnt.out, e, Rs.take, Rs.enter, Rs.leave, Rs.name, Rs.with_, Rs.bind_ok, Rs.Res.bind]));obtain ⟨a4, rfl⟩ := HO.out .typ rfl _ _ _ hr;have HR4 := zh hr;clear hr;replace HBt := zh (HBt.out.mv HG.out.pl h2);replace HG := zh (HG.out.then h1 h2 h3);clear hq h1 h2 h3;unfold oneV;have cHBt3 : w4.cell? ⟨w1.heap.size, 3, none⟩ = some (.int .i64 (t.pos : Int)) := HBt.out.cell 3;have lHBt := HBt.out.lt;go_wp2_with fail
 clear cHBt3 lHBt;have HK : Hid (Kd N w (w4.alloc (.cells #[.int .i64 (a4 : Int)] 3)) _ (.slice (some ⟨w4.heap.size, 0, none⟩) 1 1) [a4]) := zh (Kd.new HG.out [a4] (by simp));replace HG := zh (HG.out.alloc (.cells #[.int .i64 (a4 : Int)] 3));replace HBt := zh (HBt.out.alloc (.cells #[.int .i64 (a4 : Int)] 3));generalize hw5 : (w4.alloc (.cells #[.int .i64 (a4 : Int)] 3)) = w5 at *;have hkl5 : w4.heap.size < w5.heap.size := by rw [← hw5]; simp
 clear hw5;go_wp2_with fail
 have HPL : Hid (Rs.named X rec kind s = Rs.put ⟨kind, t.pos, 0, nt, [a4]⟩ s4) := zh (by simp [Rs.named, HNOWt.out, HNTnt.out, HR4.out, Rs.take, Rs.enter, Rs.leave, Rs.name, Rs.with_, Rs.bind_ok, Rs.Res.bind]);have hne2 := HNE.out;rw [HPL.out] at hne2;have hf := put_few hne2;have HPI := zh (put_is hne2);clear hne2;refine (rpput_any HG.out.st ⟨kind, t.pos, 0, nt, [a4]⟩ (.slice (some ⟨w4.heap.size, 0, none⟩) 1 1) HK.out.row hf).mono ?_;rintro e w6 ⟨rfl, n6, h1, h2⟩;have HE : Hid (Out N p X S w tv nv D oneV (Rs.named X rec kind s) (.returned (.int .i64 (s4.p.nodes.length : Int))) w6) := zh ((HG.out.put_ h1 h2 HK.out.lo).out (by rw [HPL.out, HPI.out]) rfl);replace HBt := zh (HBt.out.mv HG.out.pl h2);clear h1 h2;go_wp2
 go_returns
 exact HE.out
set_option maxRecDepth 100000 in
set_option maxHeartbeats 1000000 in
theorem rplist0_any (n : Nat) (hn : n ≤ 1000000) (HT : Hid (∀ m, m < n → POk X S 158 oneV (Rs.run X m .typ))) : LsOk X S 0 (Rs.list X (Rs.run X n (.typs []))) := by
 intro N p w s tv nv D h hne;have HG := zh (Go.start h);have HNE := zh hne;clear h hne
 go_enter Tryz.func159, Tryz.ntmps159
 go_wp2_with fail
 refine (rpenter_any HG.out.st ⟨#[40]⟩).mono ?_;rintro e w1 hq;obtain ⟨v, s1, n1, E1, hr, rfl, h1, h2, h3⟩ := hq.parts ((fun e => by cases e));replace hr : Rs.Res.ok [(Rs.now X s).pos] (Rs.enterS X Ps.k_lp s) = .ok v s1 := hr
 cases hr
 replace HG := zh (HG.out.then h1 h2 h3);clear hq h1 h2 h3;unfold oneV;have HPL : Hid (Rs.list X (Rs.run X n (.typs [])) s = (Rs.run X n (.typs []) (Rs.enterS X Ps.k_lp s)).bind (FinR X Ps.k_rp)) := zh (by unfold Rs.list Rs.enter; rfl);obtain ⟨sk0, hsk⟩ : ∃ s0, s0 = (Rs.enterS X Ps.k_lp s) := ⟨_, rfl⟩;rw [← hsk] at HG HPL;clear hsk;have HLT : Hid (Rs.list X (Rs.run X n (.typs [])) s = (LoopT (fun s => Rs.isK X s Ps.k_rp || Rs.isWrong s) (fun m a s => Rs.run X m (.typs a) s) n [] sk0).bind (FinR X Ps.k_rp)) := zh (loop_is (lp := fun m a s => Rs.run X m (.typs a) s) (fun _ _ => rfl) (fun m a s h => if_pos h) HPL.out HNE.out);clear HPL;obtain ⟨e0, he0⟩ : ∃ e, Rs.isK X sk0 Ps.k_rp = e := ⟨_, rfl⟩;have HE0 := zh he0;clear he0;go_wp2_with fail
 refine (rpis_is HG.out.st ⟨#[41]⟩ e0 HE0).mono ?_;rintro e w2 ⟨rfl, hb⟩;replace HG := zh (HG.out.new hb);clear hb;go_wp2_with fail
 go_loopg [5, 6] n (fun m u e wr => ∃ (acc : List Nat) (sk : Rs.St) (nk : Value) (E : List (Ps.Nd × Value)) (ua : Option Addr) (uc : Nat), u = .slice ua acc.length uc ∧ e = .bool (Rs.isK X sk Ps.k_rp) ∧ Hid (Go N p X S w tv nv D wr sk nk E) ∧ Hid (Kd N w wr (D ++ E) (.slice ua acc.length uc) acc) ∧ acc.length + m = n ∧ Hid (Rs.list X (Rs.run X n (.typs [])) s = (LoopT (fun s => Rs.isK X s Ps.k_rp || Rs.isWrong s) (fun m a s => Rs.run X m (.typs a) s) m acc sk).bind (FinR X Ps.k_rp)))
 case atStart => exact ⟨[], sk0, n1, _, none, 0, rfl, by rw [HE0.out], HG, zh (Kd.nil _ _ _ _), by simp, HLT⟩
 case round =>
  clear HG HLT HE0;obtain ⟨acc, sk, nk, E, ua, uc, rfl, rfl, HG, HK, hacc, HPR⟩ := hrel;obtain ⟨wb, hwb⟩ : ∃ b, Rs.isWrong sk = b := ⟨_, rfl⟩;have KW := zh hwb
  cases hb : Rs.isK X sk Ps.k_rp with
  | true =>
   have HM : Hid (Rs.list X (Rs.run X n (.typs [])) s = FinR X Ps.k_rp acc sk) := zh (HPR.out.trans (congrArg (fun r => Rs.Res.bind r (FinR X Ps.k_rp)) (if_pos (show (Rs.isK X sk Ps.k_rp || Rs.isWrong sk) = true by rw [hb]; rfl))));clear hb HPR hwb;have c7 : wr.cell? ⟨p, 7, none⟩ = some (.bool wb) := by rw [← KW.out]; exact HG.out.st.c7
   have l7 := HG.out.st.lt;go_wp2_with fail
   clear c7 l7;refine (rpleave_any HG.out.st ⟨#[41]⟩).mono ?_;rintro e w3 hq;obtain ⟨v, s3, n3, E3, hr, rfl, h1, h2, h3⟩ := hq.parts ((fun e => by cases e));replace hr : Rs.Res.ok [] (Rs.leaveS X Ps.k_rp sk) = .ok v s3 := hr
   cases hr
   replace HK := zh (Kd.mv HK.out HG.out h2 h3);replace HG := zh (HG.out.then h1 h2 h3);clear hq h1 h2 h3;unfold unitV;have HE : Hid (OutL N p X S w tv nv D (Rs.list X (Rs.run X n (.typs [])) s) (.returned (.slice ua acc.length uc)) w3) := zh (HG.out.outL HK.out (by omega) (HM.out.trans rfl));go_wp2
   go_returns
   exact HE.out
  | false =>
   cases wb with
   | true =>
    have HM : Hid (Rs.list X (Rs.run X n (.typs [])) s = FinR X Ps.k_rp acc sk) := zh (HPR.out.trans (congrArg (fun r => Rs.Res.bind r (FinR X Ps.k_rp)) (if_pos (show (Rs.isK X sk Ps.k_rp || Rs.isWrong sk) = true by rw [hb, hwb]; rfl))));clear hb HPR hwb;have c7 : wr.cell? ⟨p, 7, none⟩ = some (.bool true) := by rw [← KW.out]; exact HG.out.st.c7
    have l7 := HG.out.st.lt;go_wp2_with fail
    clear c7 l7;refine (rpleave_any HG.out.st ⟨#[41]⟩).mono ?_;rintro e w4 hq;obtain ⟨v, s4, n4, E4, hr, rfl, h1, h2, h3⟩ := hq.parts ((fun e => by cases e));replace hr : Rs.Res.ok [] (Rs.leaveS X Ps.k_rp sk) = .ok v s4 := hr
    cases hr
    replace HK := zh (Kd.mv HK.out HG.out h2 h3);replace HG := zh (HG.out.then h1 h2 h3);clear hq h1 h2 h3;unfold unitV;have HE : Hid (OutL N p X S w tv nv D (Rs.list X (Rs.run X n (.typs [])) s) (.returned (.slice ua acc.length uc)) w4) := zh (HG.out.outL HK.out (by omega) (HM.out.trans rfl));go_wp2
    go_returns
    exact HE.out
   | false =>
    have HP1 : Rs.list X (Rs.run X n (.typs [])) s = (Rs.run X gk (.typs acc) sk).bind (FinR X Ps.k_rp) := HPR.out.trans (congrArg (fun r => Rs.Res.bind r (FinR X Ps.k_rp)) (if_neg (show ¬ (Rs.isK X sk Ps.k_rp || Rs.isWrong sk) = true by rw [hb, hwb]; simp)));obtain ⟨m, rfl⟩ : ∃ m, gk = m + 1 := by
     cases gk with
     | zero => exact absurd (HP1.trans rfl) HNE.out
     | succ m => exact ⟨m, rfl⟩
    have HM : Hid (Rs.list X (Rs.run X n (.typs [])) s = ((Rs.run X m .typ sk).bind fun k s1 => if Rs.isK X s1 Ps.k_rp then .ok (acc ++ k) s1 else Rs.run X m (.typs (acc ++ k)) (if Rs.isK X (Rs.takeS X Ps.k_com s1) Ps.k_rp then Rs.stop X 3 (Rs.takeS X Ps.k_com s1) else Rs.takeS X Ps.k_com s1)).bind (FinR X Ps.k_rp)) := zh (HP1.trans (congrArg (fun r => Rs.Res.bind r (FinR X Ps.k_rp)) (if_neg (by rw [hb, hwb]; simp))));have hmn : m < n := by omega
    clear hb hwb HP1 HPR;have c7 : wr.cell? ⟨p, 7, none⟩ = some (.bool false) := by rw [← KW.out]; exact HG.out.st.c7
    have l7 := HG.out.st.lt;go_wp2_with fail
    clear c7 l7;refine (HT.out m hmn _ _ _ _ _ _ _ HG.out.st (fun e => HNE.out (by rw [HM.out, e]; rfl))).mono ?_;rintro e w5 hq;obtain ⟨v, s5, n5, E5, hr, rfl, h1, h2, h3⟩ := hq.parts (fun e => HNE.out (by rw [HM.out, e]; rfl));obtain ⟨a5, rfl⟩ := Rs.run_ones X m .typ rfl _ _ _ hr;have HR5 := zh hr;clear hr;replace HK := zh (Kd.mv HK.out HG.out h2 h3);replace HG := zh (HG.out.then h1 h2 h3);clear hq h1 h2 h3;unfold oneV;replace HM : Hid (Rs.list X (Rs.run X n (.typs [])) s = (if Rs.isK X s5 Ps.k_rp then Rs.Res.ok (acc ++ [a5]) s5 else Rs.run X m (.typs (acc ++ [a5])) (if Rs.isK X (Rs.takeS X Ps.k_com s5) Ps.k_rp then Rs.stop X 3 (Rs.takeS X Ps.k_com s5) else Rs.takeS X Ps.k_com s5)).bind (FinR X Ps.k_rp)) := zh (by rw [HM.out, HR5.out]; rfl);obtain ⟨i0, hi0, hz0, hz1, hz2⟩ := info_parts int_info;have HKA := zh (HK.out.alloc (.cells #[.int .i64 (a5 : Int)] 3)).row;have hN3 := HG.out.st.nN
    have hLB := show acc.length ≤ 1000000 by omega
    go_wp2_with (at_builtin; refine wpList_append_lies _ rfl _ _ _ rfl N 3 i0 _ 1 8 Tryz.underlying39 hi0 hz0 hz1 hz2 rfl (by omega) (.slice ua acc.length uc) acc.length (kidVals acc) rfl HKA.out ⟨w5.heap.size, 0, none⟩ 1 1 [.int .i64 (a5 : Int)] rfl rfl (World.news_of_block (cs := #[.int .i64 (a5 : Int)]) (t := 3) (fr := (0, 0)) (heap_alloc_new _ _)) (by intro x hx; simp at hx; subst hx; rfl) (by omega) (by unfold maxLen; omega) (by omega) (by simp; omega) (w5.heap.size + 1) (by simp) ?_; intro g6 cap6 w6 hown hgrow hat hlt; obtain ⟨hg8, hk8, hk9⟩ := Kd.grown HK.out (l2 := [a5]) HG.out hown rfl hgrow hat; replace HG := zh hg8; replace HK := zh hk8; clear hg8 hk8 hk9 hown hgrow hat hlt HKA hi0 hz0 hz1 hz2 hN3 hLB)
    have hlen : (acc ++ [a5]).length = acc.length + 1 := by simp
    cases hb : Rs.isK X s5 Ps.k_rp with
    | true =>
     have HM2 : Hid (Rs.list X (Rs.run X n (.typs [])) s = (LoopT (fun s => Rs.isK X s Ps.k_rp || Rs.isWrong s) (fun m a s => Rs.run X m (.typs a) s) m (acc ++ [a5]) s5).bind (FinR X Ps.k_rp)) := zh (HM.out.trans (congrArg (fun r => Rs.Res.bind r (FinR X Ps.k_rp)) ((if_pos hb).trans (if_pos (show (Rs.isK X s5 Ps.k_rp || Rs.isWrong s5) = true by rw [hb]; rfl)).symm)));have KB := zh hb;refine (rpis_is HG.out.st ⟨#[41]⟩ true KB).mono ?_;rintro e w7 ⟨rfl, hb⟩;replace HK := zh (HK.out.below hb);replace HG := zh (HG.out.new hb);clear hb;go_wp2
     go_roundg m
     case rel => exact ⟨acc ++ [a5], s5, n5, _, _, _, by rw [hlen], by rw [KB.out], HG, by rw [hlen]; exact HK, by rw [hlen]; omega, HM2⟩
     case measure => omega
    | false =>
     have KB := zh hb;rw [hb] at HM;clear hb;refine (rpis_is HG.out.st ⟨#[41]⟩ false KB).mono ?_;rintro e w8 ⟨rfl, hb⟩;replace HK := zh (HK.out.below hb);replace HG := zh (HG.out.new hb);clear hb;go_wp2_with fail
     refine (rptake_any HG.out.st ⟨#[44]⟩).mono ?_;rintro e w9 hq;obtain ⟨v, s9, n9, E9, hr, rfl, h1, h2, h3⟩ := hq.parts ((fun e => by cases e));replace hr : Rs.Res.ok [(Rs.now X s5).pos] (Rs.takeS X Ps.k_com s5) = .ok v s9 := hr
     cases hr
     replace HK := zh (Kd.mv HK.out HG.out h2 h3);replace HG := zh (HG.out.then h1 h2 h3);clear hq h1 h2 h3;unfold oneV
     skip
     cases hb : Rs.isK X (Rs.takeS X Ps.k_com s5) Ps.k_rp with
     | true =>
      have KC := zh hb;have HM1 : Rs.list X (Rs.run X n (.typs [])) s = (Rs.run X m (.typs (acc ++ [a5])) (Rs.stop X 3 (Rs.takeS X Ps.k_com s5))).bind (FinR X Ps.k_rp) := by rw [HM.out, hb]; rfl
      have HM2 := zh (loop_is (t := fun s => Rs.isK X s Ps.k_rp || Rs.isWrong s) (lp := fun m a s => Rs.run X m (.typs a) s) (fun _ _ => rfl) (fun m a s h => if_pos h) HM1 HNE.out);clear hb HM1;go_wp2_with fail
      refine (rpis_is HG.out.st ⟨#[41]⟩ true KC).mono ?_;rintro e w10 ⟨rfl, hb⟩;replace HK := zh (HK.out.below hb);replace HG := zh (HG.out.new hb);clear hb;go_wp2_with fail
      refine (rpfail_any HG.out.st 3).mono ?_;rintro e w11 hq;obtain ⟨v, s11, n11, E11, hr, rfl, h1, h2, h3⟩ := hq.parts ((fun e => by cases e));replace hr : Rs.Res.ok [] (Rs.stop X 3 (Rs.takeS X Ps.k_com s5)) = .ok v s11 := hr
      cases hr
      replace HK := zh (Kd.mv HK.out HG.out h2 h3);replace HG := zh (HG.out.then h1 h2 h3);clear hq h1 h2 h3;unfold unitV;go_wp2
      go_roundg m
      case rel => exact ⟨acc ++ [a5], (Rs.stop X 3 (Rs.takeS X Ps.k_com s5)), n11, _, _, _, by rw [hlen], by rw [stop_isK], HG, by rw [hlen]; exact HK, by rw [hlen]; omega, HM2⟩
      case measure => omega
     | false =>
      have KC := zh hb;have HM1 : Rs.list X (Rs.run X n (.typs [])) s = (Rs.run X m (.typs (acc ++ [a5])) (Rs.takeS X Ps.k_com s5)).bind (FinR X Ps.k_rp) := by rw [HM.out, hb]; rfl
      have HM2 := zh (loop_is (t := fun s => Rs.isK X s Ps.k_rp || Rs.isWrong s) (lp := fun m a s => Rs.run X m (.typs a) s) (fun _ _ => rfl) (fun m a s h => if_pos h) HM1 HNE.out);clear hb HM1;go_wp2_with fail
      refine (rpis_is HG.out.st ⟨#[41]⟩ false KC).mono ?_;rintro e w12 ⟨rfl, hb⟩;replace HK := zh (HK.out.below hb);replace HG := zh (HG.out.new hb);clear hb;go_wp2
      go_roundg m
      case rel => exact ⟨acc ++ [a5], (Rs.takeS X Ps.k_com s5), n9, _, _, _, by rw [hlen], by rw [KC.out], HG, by rw [hlen]; exact HK, by rw [hlen]; omega, HM2⟩
      case measure => omega
set_option maxRecDepth 100000 in
set_option maxHeartbeats 1000000 in
theorem rplist1_any (n : Nat) (hn : n ≤ 1000000) (HP : Hid (∀ m, m < n → NumOk X S 106 7 (Rs.named X (Rs.run X m) 7))) : LsOk X S 1 (Rs.list X (Rs.run X n (.params []))) := by
 intro N p w s tv nv D h hne;have HG := zh (Go.start h);have HNE := zh hne;clear h hne
 go_enter Tryz.func159, Tryz.ntmps159
 go_wp2_with fail
 refine (rpenter_any HG.out.st ⟨#[40]⟩).mono ?_;rintro e w1 hq;obtain ⟨v, s1, n1, E1, hr, rfl, h1, h2, h3⟩ := hq.parts ((fun e => by cases e));replace hr : Rs.Res.ok [(Rs.now X s).pos] (Rs.enterS X Ps.k_lp s) = .ok v s1 := hr
 cases hr
 replace HG := zh (HG.out.then h1 h2 h3);clear hq h1 h2 h3;unfold oneV;have HPL : Hid (Rs.list X (Rs.run X n (.params [])) s = (Rs.run X n (.params []) (Rs.enterS X Ps.k_lp s)).bind (FinR X Ps.k_rp)) := zh (by unfold Rs.list Rs.enter; rfl);obtain ⟨sk0, hsk⟩ : ∃ s0, s0 = (Rs.enterS X Ps.k_lp s) := ⟨_, rfl⟩;rw [← hsk] at HG HPL;clear hsk;have HLT : Hid (Rs.list X (Rs.run X n (.params [])) s = (LoopT (fun s => Rs.isK X s Ps.k_rp || Rs.isWrong s) (fun m a s => Rs.run X m (.params a) s) n [] sk0).bind (FinR X Ps.k_rp)) := zh (loop_is (lp := fun m a s => Rs.run X m (.params a) s) (fun _ _ => rfl) (fun m a s h => if_pos h) HPL.out HNE.out);clear HPL;obtain ⟨e0, he0⟩ : ∃ e, Rs.isK X sk0 Ps.k_rp = e := ⟨_, rfl⟩;have HE0 := zh he0;clear he0;go_wp2_with fail
 refine (rpis_is HG.out.st ⟨#[41]⟩ e0 HE0).mono ?_;rintro e w2 ⟨rfl, hb⟩;replace HG := zh (HG.out.new hb);clear hb;go_wp2_with fail
 go_loopg [5, 6] n (fun m u e wr => ∃ (acc : List Nat) (sk : Rs.St) (nk : Value) (E : List (Ps.Nd × Value)) (ua : Option Addr) (uc : Nat), u = .slice ua acc.length uc ∧ e = .bool (Rs.isK X sk Ps.k_rp) ∧ Hid (Go N p X S w tv nv D wr sk nk E) ∧ Hid (Kd N w wr (D ++ E) (.slice ua acc.length uc) acc) ∧ acc.length + m = n ∧ Hid (Rs.list X (Rs.run X n (.params [])) s = (LoopT (fun s => Rs.isK X s Ps.k_rp || Rs.isWrong s) (fun m a s => Rs.run X m (.params a) s) m acc sk).bind (FinR X Ps.k_rp)))
 case atStart => exact ⟨[], sk0, n1, _, none, 0, rfl, by rw [HE0.out], HG, zh (Kd.nil _ _ _ _), by simp, HLT⟩
 case round =>
  clear HG HLT HE0;obtain ⟨acc, sk, nk, E, ua, uc, rfl, rfl, HG, HK, hacc, HPR⟩ := hrel;obtain ⟨wb, hwb⟩ : ∃ b, Rs.isWrong sk = b := ⟨_, rfl⟩;have KW := zh hwb
  cases hb : Rs.isK X sk Ps.k_rp with
  | true =>
   have HM : Hid (Rs.list X (Rs.run X n (.params [])) s = FinR X Ps.k_rp acc sk) := zh (HPR.out.trans (congrArg (fun r => Rs.Res.bind r (FinR X Ps.k_rp)) (if_pos (show (Rs.isK X sk Ps.k_rp || Rs.isWrong sk) = true by rw [hb]; rfl))));clear hb HPR hwb;have c7 : wr.cell? ⟨p, 7, none⟩ = some (.bool wb) := by rw [← KW.out]; exact HG.out.st.c7
   have l7 := HG.out.st.lt;go_wp2_with fail
   clear c7 l7;refine (rpleave_any HG.out.st ⟨#[41]⟩).mono ?_;rintro e w3 hq;obtain ⟨v, s3, n3, E3, hr, rfl, h1, h2, h3⟩ := hq.parts ((fun e => by cases e));replace hr : Rs.Res.ok [] (Rs.leaveS X Ps.k_rp sk) = .ok v s3 := hr
   cases hr
   replace HK := zh (Kd.mv HK.out HG.out h2 h3);replace HG := zh (HG.out.then h1 h2 h3);clear hq h1 h2 h3;unfold unitV;have HE : Hid (OutL N p X S w tv nv D (Rs.list X (Rs.run X n (.params [])) s) (.returned (.slice ua acc.length uc)) w3) := zh (HG.out.outL HK.out (by omega) (HM.out.trans rfl));go_wp2
   go_returns
   exact HE.out
  | false =>
   cases wb with
   | true =>
    have HM : Hid (Rs.list X (Rs.run X n (.params [])) s = FinR X Ps.k_rp acc sk) := zh (HPR.out.trans (congrArg (fun r => Rs.Res.bind r (FinR X Ps.k_rp)) (if_pos (show (Rs.isK X sk Ps.k_rp || Rs.isWrong sk) = true by rw [hb, hwb]; rfl))));clear hb HPR hwb;have c7 : wr.cell? ⟨p, 7, none⟩ = some (.bool true) := by rw [← KW.out]; exact HG.out.st.c7
    have l7 := HG.out.st.lt;go_wp2_with fail
    clear c7 l7;refine (rpleave_any HG.out.st ⟨#[41]⟩).mono ?_;rintro e w4 hq;obtain ⟨v, s4, n4, E4, hr, rfl, h1, h2, h3⟩ := hq.parts ((fun e => by cases e));replace hr : Rs.Res.ok [] (Rs.leaveS X Ps.k_rp sk) = .ok v s4 := hr
    cases hr
    replace HK := zh (Kd.mv HK.out HG.out h2 h3);replace HG := zh (HG.out.then h1 h2 h3);clear hq h1 h2 h3;unfold unitV;have HE : Hid (OutL N p X S w tv nv D (Rs.list X (Rs.run X n (.params [])) s) (.returned (.slice ua acc.length uc)) w4) := zh (HG.out.outL HK.out (by omega) (HM.out.trans rfl));go_wp2
    go_returns
    exact HE.out
   | false =>
    have HP1 : Rs.list X (Rs.run X n (.params [])) s = (Rs.run X gk (.params acc) sk).bind (FinR X Ps.k_rp) := HPR.out.trans (congrArg (fun r => Rs.Res.bind r (FinR X Ps.k_rp)) (if_neg (show ¬ (Rs.isK X sk Ps.k_rp || Rs.isWrong sk) = true by rw [hb, hwb]; simp)));obtain ⟨m, rfl⟩ : ∃ m, gk = m + 1 := by
     cases gk with
     | zero => exact absurd (HP1.trans rfl) HNE.out
     | succ m => exact ⟨m, rfl⟩
    have HM : Hid (Rs.list X (Rs.run X n (.params [])) s = ((Rs.named X (Rs.run X m) 7 sk).bind fun k s1 => if Rs.isK X s1 Ps.k_rp then .ok (acc ++ k) s1 else Rs.run X m (.params (acc ++ k)) (if Rs.isK X (Rs.takeS X Ps.k_com s1) Ps.k_rp then Rs.stop X 3 (Rs.takeS X Ps.k_com s1) else Rs.takeS X Ps.k_com s1)).bind (FinR X Ps.k_rp)) := zh (HP1.trans (congrArg (fun r => Rs.Res.bind r (FinR X Ps.k_rp)) (if_neg (by rw [hb, hwb]; simp))));have hmn : m < n := by omega
    clear hb hwb HP1 HPR;have c7 : wr.cell? ⟨p, 7, none⟩ = some (.bool false) := by rw [← KW.out]; exact HG.out.st.c7
    have l7 := HG.out.st.lt;go_wp2_with fail
    clear c7 l7;refine (HP.out m hmn _ _ _ _ _ _ _ HG.out.st (fun e => HNE.out (by rw [HM.out, e]; rfl))).mono ?_;rintro e w5 hq;obtain ⟨v, s5, n5, E5, hr, rfl, h1, h2, h3⟩ := hq.parts (fun e => HNE.out (by rw [HM.out, e]; rfl));obtain ⟨a5, rfl⟩ := Rs.named_one 7 _ _ _ hr;have HR5 := zh hr;clear hr;replace HK := zh (Kd.mv HK.out HG.out h2 h3);replace HG := zh (HG.out.then h1 h2 h3);clear hq h1 h2 h3;unfold oneV;replace HM : Hid (Rs.list X (Rs.run X n (.params [])) s = (if Rs.isK X s5 Ps.k_rp then Rs.Res.ok (acc ++ [a5]) s5 else Rs.run X m (.params (acc ++ [a5])) (if Rs.isK X (Rs.takeS X Ps.k_com s5) Ps.k_rp then Rs.stop X 3 (Rs.takeS X Ps.k_com s5) else Rs.takeS X Ps.k_com s5)).bind (FinR X Ps.k_rp)) := zh (by rw [HM.out, HR5.out]; rfl);obtain ⟨i0, hi0, hz0, hz1, hz2⟩ := info_parts int_info;have HKA := zh (HK.out.alloc (.cells #[.int .i64 (a5 : Int)] 3)).row;have hN3 := HG.out.st.nN;have hLB := show acc.length ≤ 1000000 by omega
    go_wp2_with (at_builtin; refine wpList_append_lies _ rfl _ _ _ rfl N 3 i0 _ 1 8 Tryz.underlying39 hi0 hz0 hz1 hz2 rfl (by omega) (.slice ua acc.length uc) acc.length (kidVals acc) rfl HKA.out ⟨w5.heap.size, 0, none⟩ 1 1 [.int .i64 (a5 : Int)] rfl rfl (World.news_of_block (cs := #[.int .i64 (a5 : Int)]) (t := 3) (fr := (0, 0)) (heap_alloc_new _ _)) (by intro x hx; simp at hx; subst hx; rfl) (by omega) (by unfold maxLen; omega) (by omega) (by simp; omega) (w5.heap.size + 1) (by simp) ?_; intro g6 cap6 w6 hown hgrow hat hlt; obtain ⟨hg8, hk8, hk9⟩ := Kd.grown HK.out (l2 := [a5]) HG.out hown rfl hgrow hat; replace HG := zh hg8; replace HK := zh hk8; clear hg8 hk8 hk9 hown hgrow hat hlt HKA hi0 hz0 hz1 hz2 hN3 hLB)
    have hlen : (acc ++ [a5]).length = acc.length + 1 := by simp
    cases hb : Rs.isK X s5 Ps.k_rp with
    | true =>
     have HM2 : Hid (Rs.list X (Rs.run X n (.params [])) s = (LoopT (fun s => Rs.isK X s Ps.k_rp || Rs.isWrong s) (fun m a s => Rs.run X m (.params a) s) m (acc ++ [a5]) s5).bind (FinR X Ps.k_rp)) := zh (HM.out.trans (congrArg (fun r => Rs.Res.bind r (FinR X Ps.k_rp)) ((if_pos hb).trans (if_pos (show (Rs.isK X s5 Ps.k_rp || Rs.isWrong s5) = true by rw [hb]; rfl)).symm)));have KB := zh hb;refine (rpis_is HG.out.st ⟨#[41]⟩ true KB).mono ?_;rintro e w7 ⟨rfl, hb⟩;replace HK := zh (HK.out.below hb);replace HG := zh (HG.out.new hb);clear hb;go_wp2
     go_roundg m
     case rel => exact ⟨acc ++ [a5], s5, n5, _, _, _, by rw [hlen], by rw [KB.out], HG, by rw [hlen]; exact HK, by rw [hlen]; omega, HM2⟩
     case measure => omega
    | false =>
     have KB := zh hb;rw [hb] at HM;clear hb;refine (rpis_is HG.out.st ⟨#[41]⟩ false KB).mono ?_;rintro e w8 ⟨rfl, hb⟩;replace HK := zh (HK.out.below hb);replace HG := zh (HG.out.new hb);clear hb;go_wp2_with fail
     refine (rptake_any HG.out.st ⟨#[44]⟩).mono ?_;rintro e w9 hq;obtain ⟨v, s9, n9, E9, hr, rfl, h1, h2, h3⟩ := hq.parts ((fun e => by cases e));replace hr : Rs.Res.ok [(Rs.now X s5).pos] (Rs.takeS X Ps.k_com s5) = .ok v s9 := hr
     cases hr
     replace HK := zh (Kd.mv HK.out HG.out h2 h3);replace HG := zh (HG.out.then h1 h2 h3);clear hq h1 h2 h3;unfold oneV
     skip
     cases hb : Rs.isK X (Rs.takeS X Ps.k_com s5) Ps.k_rp with
     | true =>
      have KC := zh hb;have HM1 : Rs.list X (Rs.run X n (.params [])) s = (Rs.run X m (.params (acc ++ [a5])) (Rs.stop X 3 (Rs.takeS X Ps.k_com s5))).bind (FinR X Ps.k_rp) := by rw [HM.out, hb]; rfl
      have HM2 := zh (loop_is (t := fun s => Rs.isK X s Ps.k_rp || Rs.isWrong s) (lp := fun m a s => Rs.run X m (.params a) s) (fun _ _ => rfl) (fun m a s h => if_pos h) HM1 HNE.out);clear hb HM1;go_wp2_with fail
      refine (rpis_is HG.out.st ⟨#[41]⟩ true KC).mono ?_;rintro e w10 ⟨rfl, hb⟩;replace HK := zh (HK.out.below hb);replace HG := zh (HG.out.new hb);clear hb;go_wp2_with fail
      refine (rpfail_any HG.out.st 3).mono ?_;rintro e w11 hq;obtain ⟨v, s11, n11, E11, hr, rfl, h1, h2, h3⟩ := hq.parts ((fun e => by cases e));replace hr : Rs.Res.ok [] (Rs.stop X 3 (Rs.takeS X Ps.k_com s5)) = .ok v s11 := hr
      cases hr
      replace HK := zh (Kd.mv HK.out HG.out h2 h3);replace HG := zh (HG.out.then h1 h2 h3);clear hq h1 h2 h3;unfold unitV;go_wp2
      go_roundg m
      case rel => exact ⟨acc ++ [a5], (Rs.stop X 3 (Rs.takeS X Ps.k_com s5)), n11, _, _, _, by rw [hlen], by rw [stop_isK], HG, by rw [hlen]; exact HK, by rw [hlen]; omega, HM2⟩
      case measure => omega
     | false =>
      have KC := zh hb;have HM1 : Rs.list X (Rs.run X n (.params [])) s = (Rs.run X m (.params (acc ++ [a5])) (Rs.takeS X Ps.k_com s5)).bind (FinR X Ps.k_rp) := by rw [HM.out, hb]; rfl
      have HM2 := zh (loop_is (t := fun s => Rs.isK X s Ps.k_rp || Rs.isWrong s) (lp := fun m a s => Rs.run X m (.params a) s) (fun _ _ => rfl) (fun m a s h => if_pos h) HM1 HNE.out);clear hb HM1;go_wp2_with fail
      refine (rpis_is HG.out.st ⟨#[41]⟩ false KC).mono ?_;rintro e w12 ⟨rfl, hb⟩;replace HK := zh (HK.out.below hb);replace HG := zh (HG.out.new hb);clear hb;go_wp2
      go_roundg m
      case rel => exact ⟨acc ++ [a5], (Rs.takeS X Ps.k_com s5), n9, _, _, _, by rw [hlen], by rw [KC.out], HG, by rw [hlen]; exact HK, by rw [hlen]; omega, HM2⟩
      case measure => omega
set_option maxRecDepth 100000 in
set_option maxHeartbeats 1000000 in
theorem rplist2_any (n : Nat) (hn : n ≤ 1000000) (HX : Hid (∀ m, m < n → NumOk X S 205 0 (Rs.run X m (.expr 0)))) : LsOk X S 2 (Rs.list X (Rs.run X n (.exprs []))) := by
 intro N p w s tv nv D h hne;have HG := zh (Go.start h);have HNE := zh hne;clear h hne
 go_enter Tryz.func159, Tryz.ntmps159
 go_wp2_with fail
 refine (rpenter_any HG.out.st ⟨#[40]⟩).mono ?_;rintro e w1 hq;obtain ⟨v, s1, n1, E1, hr, rfl, h1, h2, h3⟩ := hq.parts ((fun e => by cases e));replace hr : Rs.Res.ok [(Rs.now X s).pos] (Rs.enterS X Ps.k_lp s) = .ok v s1 := hr
 cases hr
 replace HG := zh (HG.out.then h1 h2 h3);clear hq h1 h2 h3;unfold oneV;have HPL : Hid (Rs.list X (Rs.run X n (.exprs [])) s = (Rs.run X n (.exprs []) (Rs.enterS X Ps.k_lp s)).bind (FinR X Ps.k_rp)) := zh (by unfold Rs.list Rs.enter; rfl);obtain ⟨sk0, hsk⟩ : ∃ s0, s0 = (Rs.enterS X Ps.k_lp s) := ⟨_, rfl⟩;rw [← hsk] at HG HPL;clear hsk;have HLT : Hid (Rs.list X (Rs.run X n (.exprs [])) s = (LoopT (fun s => Rs.isK X s Ps.k_rp || Rs.isWrong s) (fun m a s => Rs.run X m (.exprs a) s) n [] sk0).bind (FinR X Ps.k_rp)) := zh (loop_is (lp := fun m a s => Rs.run X m (.exprs a) s) (fun _ _ => rfl) (fun m a s h => if_pos h) HPL.out HNE.out);clear HPL;obtain ⟨e0, he0⟩ : ∃ e, Rs.isK X sk0 Ps.k_rp = e := ⟨_, rfl⟩;have HE0 := zh he0;clear he0;go_wp2_with fail
 refine (rpis_is HG.out.st ⟨#[41]⟩ e0 HE0).mono ?_;rintro e w2 ⟨rfl, hb⟩;replace HG := zh (HG.out.new hb);clear hb;go_wp2_with fail
 go_loopg [5, 6] n (fun m u e wr => ∃ (acc : List Nat) (sk : Rs.St) (nk : Value) (E : List (Ps.Nd × Value)) (ua : Option Addr) (uc : Nat), u = .slice ua acc.length uc ∧ e = .bool (Rs.isK X sk Ps.k_rp) ∧ Hid (Go N p X S w tv nv D wr sk nk E) ∧ Hid (Kd N w wr (D ++ E) (.slice ua acc.length uc) acc) ∧ acc.length + m = n ∧ Hid (Rs.list X (Rs.run X n (.exprs [])) s = (LoopT (fun s => Rs.isK X s Ps.k_rp || Rs.isWrong s) (fun m a s => Rs.run X m (.exprs a) s) m acc sk).bind (FinR X Ps.k_rp)))
 case atStart => exact ⟨[], sk0, n1, _, none, 0, rfl, by rw [HE0.out], HG, zh (Kd.nil _ _ _ _), by simp, HLT⟩
 case round =>
  clear HG HLT HE0;obtain ⟨acc, sk, nk, E, ua, uc, rfl, rfl, HG, HK, hacc, HPR⟩ := hrel;obtain ⟨wb, hwb⟩ : ∃ b, Rs.isWrong sk = b := ⟨_, rfl⟩;have KW := zh hwb
  cases hb : Rs.isK X sk Ps.k_rp with
  | true =>
   have HM : Hid (Rs.list X (Rs.run X n (.exprs [])) s = FinR X Ps.k_rp acc sk) := zh (HPR.out.trans (congrArg (fun r => Rs.Res.bind r (FinR X Ps.k_rp)) (if_pos (show (Rs.isK X sk Ps.k_rp || Rs.isWrong sk) = true by rw [hb]; rfl))));clear hb HPR hwb;have c7 : wr.cell? ⟨p, 7, none⟩ = some (.bool wb) := by rw [← KW.out]; exact HG.out.st.c7
   have l7 := HG.out.st.lt;go_wp2_with fail
   clear c7 l7;refine (rpleave_any HG.out.st ⟨#[41]⟩).mono ?_;rintro e w3 hq;obtain ⟨v, s3, n3, E3, hr, rfl, h1, h2, h3⟩ := hq.parts ((fun e => by cases e));replace hr : Rs.Res.ok [] (Rs.leaveS X Ps.k_rp sk) = .ok v s3 := hr
   cases hr
   replace HK := zh (Kd.mv HK.out HG.out h2 h3);replace HG := zh (HG.out.then h1 h2 h3);clear hq h1 h2 h3;unfold unitV;have HE : Hid (OutL N p X S w tv nv D (Rs.list X (Rs.run X n (.exprs [])) s) (.returned (.slice ua acc.length uc)) w3) := zh (HG.out.outL HK.out (by omega) (HM.out.trans rfl));go_wp2
   go_returns
   exact HE.out
  | false =>
   cases wb with
   | true =>
    have HM : Hid (Rs.list X (Rs.run X n (.exprs [])) s = FinR X Ps.k_rp acc sk) := zh (HPR.out.trans (congrArg (fun r => Rs.Res.bind r (FinR X Ps.k_rp)) (if_pos (show (Rs.isK X sk Ps.k_rp || Rs.isWrong sk) = true by rw [hb, hwb]; rfl))));clear hb HPR hwb;have c7 : wr.cell? ⟨p, 7, none⟩ = some (.bool true) := by rw [← KW.out]; exact HG.out.st.c7
    have l7 := HG.out.st.lt;go_wp2_with fail
    clear c7 l7;refine (rpleave_any HG.out.st ⟨#[41]⟩).mono ?_;rintro e w4 hq;obtain ⟨v, s4, n4, E4, hr, rfl, h1, h2, h3⟩ := hq.parts ((fun e => by cases e));replace hr : Rs.Res.ok [] (Rs.leaveS X Ps.k_rp sk) = .ok v s4 := hr
    cases hr
    replace HK := zh (Kd.mv HK.out HG.out h2 h3);replace HG := zh (HG.out.then h1 h2 h3);clear hq h1 h2 h3;unfold unitV;have HE : Hid (OutL N p X S w tv nv D (Rs.list X (Rs.run X n (.exprs [])) s) (.returned (.slice ua acc.length uc)) w4) := zh (HG.out.outL HK.out (by omega) (HM.out.trans rfl));go_wp2
    go_returns
    exact HE.out
   | false =>
    have HP1 : Rs.list X (Rs.run X n (.exprs [])) s = (Rs.run X gk (.exprs acc) sk).bind (FinR X Ps.k_rp) := HPR.out.trans (congrArg (fun r => Rs.Res.bind r (FinR X Ps.k_rp)) (if_neg (show ¬ (Rs.isK X sk Ps.k_rp || Rs.isWrong sk) = true by rw [hb, hwb]; simp)));obtain ⟨m, rfl⟩ : ∃ m, gk = m + 1 := by
     cases gk with
     | zero => exact absurd (HP1.trans rfl) HNE.out
     | succ m => exact ⟨m, rfl⟩
    have HM : Hid (Rs.list X (Rs.run X n (.exprs [])) s = ((Rs.run X m (.expr 0) sk).bind fun k s1 => if Rs.isK X s1 Ps.k_rp then .ok (acc ++ k) s1 else Rs.run X m (.exprs (acc ++ k)) (if Rs.isK X (Rs.takeS X Ps.k_com s1) Ps.k_rp then Rs.stop X 3 (Rs.takeS X Ps.k_com s1) else Rs.takeS X Ps.k_com s1)).bind (FinR X Ps.k_rp)) := zh (HP1.trans (congrArg (fun r => Rs.Res.bind r (FinR X Ps.k_rp)) (if_neg (by rw [hb, hwb]; simp))));have hmn : m < n := by omega
    clear hb hwb HP1 HPR;have c7 : wr.cell? ⟨p, 7, none⟩ = some (.bool false) := by rw [← KW.out]; exact HG.out.st.c7
    have l7 := HG.out.st.lt;go_wp2_with fail
    clear c7 l7;refine (HX.out m hmn _ _ _ _ _ _ _ HG.out.st (fun e => HNE.out (by rw [HM.out, e]; rfl))).mono ?_;rintro e w5 hq;obtain ⟨v, s5, n5, E5, hr, rfl, h1, h2, h3⟩ := hq.parts (fun e => HNE.out (by rw [HM.out, e]; rfl));obtain ⟨a5, rfl⟩ := Rs.run_ones X m (.expr 0) rfl _ _ _ hr;have HR5 := zh hr;clear hr;replace HK := zh (Kd.mv HK.out HG.out h2 h3);replace HG := zh (HG.out.then h1 h2 h3);clear hq h1 h2 h3;unfold oneV;replace HM : Hid (Rs.list X (Rs.run X n (.exprs [])) s = (if Rs.isK X s5 Ps.k_rp then Rs.Res.ok (acc ++ [a5]) s5 else Rs.run X m (.exprs (acc ++ [a5])) (if Rs.isK X (Rs.takeS X Ps.k_com s5) Ps.k_rp then Rs.stop X 3 (Rs.takeS X Ps.k_com s5) else Rs.takeS X Ps.k_com s5)).bind (FinR X Ps.k_rp)) := zh (by rw [HM.out, HR5.out]; rfl);obtain ⟨i0, hi0, hz0, hz1, hz2⟩ := info_parts int_info;have HKA := zh (HK.out.alloc (.cells #[.int .i64 (a5 : Int)] 3)).row;have hN3 := HG.out.st.nN
    have hLB := show acc.length ≤ 1000000 by omega
    go_wp2_with (at_builtin; refine wpList_append_lies _ rfl _ _ _ rfl N 3 i0 _ 1 8 Tryz.underlying39 hi0 hz0 hz1 hz2 rfl (by omega) (.slice ua acc.length uc) acc.length (kidVals acc) rfl HKA.out ⟨w5.heap.size, 0, none⟩ 1 1 [.int .i64 (a5 : Int)] rfl rfl (World.news_of_block (cs := #[.int .i64 (a5 : Int)]) (t := 3) (fr := (0, 0)) (heap_alloc_new _ _)) (by intro x hx; simp at hx; subst hx; rfl) (by omega) (by unfold maxLen; omega) (by omega) (by simp; omega) (w5.heap.size + 1) (by simp) ?_; intro g6 cap6 w6 hown hgrow hat hlt; obtain ⟨hg8, hk8, hk9⟩ := Kd.grown HK.out (l2 := [a5]) HG.out hown rfl hgrow hat; replace HG := zh hg8; replace HK := zh hk8; clear hg8 hk8 hk9 hown hgrow hat hlt HKA hi0 hz0 hz1 hz2 hN3 hLB)
    have hlen : (acc ++ [a5]).length = acc.length + 1 := by simp
    cases hb : Rs.isK X s5 Ps.k_rp with
    | true =>
     have HM2 : Hid (Rs.list X (Rs.run X n (.exprs [])) s = (LoopT (fun s => Rs.isK X s Ps.k_rp || Rs.isWrong s) (fun m a s => Rs.run X m (.exprs a) s) m (acc ++ [a5]) s5).bind (FinR X Ps.k_rp)) := zh (HM.out.trans (congrArg (fun r => Rs.Res.bind r (FinR X Ps.k_rp)) ((if_pos hb).trans (if_pos (show (Rs.isK X s5 Ps.k_rp || Rs.isWrong s5) = true by rw [hb]; rfl)).symm)));have KB := zh hb;refine (rpis_is HG.out.st ⟨#[41]⟩ true KB).mono ?_;rintro e w7 ⟨rfl, hb⟩;replace HK := zh (HK.out.below hb);replace HG := zh (HG.out.new hb);clear hb;go_wp2
     go_roundg m
     case rel => exact ⟨acc ++ [a5], s5, n5, _, _, _, by rw [hlen], by rw [KB.out], HG, by rw [hlen]; exact HK, by rw [hlen]; omega, HM2⟩
     case measure => omega
    | false =>
     have KB := zh hb;rw [hb] at HM;clear hb;refine (rpis_is HG.out.st ⟨#[41]⟩ false KB).mono ?_;rintro e w8 ⟨rfl, hb⟩;replace HK := zh (HK.out.below hb);replace HG := zh (HG.out.new hb);clear hb;go_wp2_with fail
     refine (rptake_any HG.out.st ⟨#[44]⟩).mono ?_;rintro e w9 hq;obtain ⟨v, s9, n9, E9, hr, rfl, h1, h2, h3⟩ := hq.parts ((fun e => by cases e));replace hr : Rs.Res.ok [(Rs.now X s5).pos] (Rs.takeS X Ps.k_com s5) = .ok v s9 := hr
     cases hr
     replace HK := zh (Kd.mv HK.out HG.out h2 h3);replace HG := zh (HG.out.then h1 h2 h3);clear hq h1 h2 h3;unfold oneV
     skip
     cases hb : Rs.isK X (Rs.takeS X Ps.k_com s5) Ps.k_rp with
     | true =>
      have KC := zh hb;have HM1 : Rs.list X (Rs.run X n (.exprs [])) s = (Rs.run X m (.exprs (acc ++ [a5])) (Rs.stop X 3 (Rs.takeS X Ps.k_com s5))).bind (FinR X Ps.k_rp) := by rw [HM.out, hb]; rfl
      have HM2 := zh (loop_is (t := fun s => Rs.isK X s Ps.k_rp || Rs.isWrong s) (lp := fun m a s => Rs.run X m (.exprs a) s) (fun _ _ => rfl) (fun m a s h => if_pos h) HM1 HNE.out);clear hb HM1;go_wp2_with fail
      refine (rpis_is HG.out.st ⟨#[41]⟩ true KC).mono ?_;rintro e w10 ⟨rfl, hb⟩;replace HK := zh (HK.out.below hb);replace HG := zh (HG.out.new hb);clear hb;go_wp2_with fail
      refine (rpfail_any HG.out.st 3).mono ?_;rintro e w11 hq;obtain ⟨v, s11, n11, E11, hr, rfl, h1, h2, h3⟩ := hq.parts ((fun e => by cases e));replace hr : Rs.Res.ok [] (Rs.stop X 3 (Rs.takeS X Ps.k_com s5)) = .ok v s11 := hr
      cases hr
      replace HK := zh (Kd.mv HK.out HG.out h2 h3);replace HG := zh (HG.out.then h1 h2 h3);clear hq h1 h2 h3;unfold unitV;go_wp2
      go_roundg m
      case rel => exact ⟨acc ++ [a5], (Rs.stop X 3 (Rs.takeS X Ps.k_com s5)), n11, _, _, _, by rw [hlen], by rw [stop_isK], HG, by rw [hlen]; exact HK, by rw [hlen]; omega, HM2⟩
      case measure => omega
     | false =>
      have KC := zh hb;have HM1 : Rs.list X (Rs.run X n (.exprs [])) s = (Rs.run X m (.exprs (acc ++ [a5])) (Rs.takeS X Ps.k_com s5)).bind (FinR X Ps.k_rp) := by rw [HM.out, hb]; rfl
      have HM2 := zh (loop_is (t := fun s => Rs.isK X s Ps.k_rp || Rs.isWrong s) (lp := fun m a s => Rs.run X m (.exprs a) s) (fun _ _ => rfl) (fun m a s h => if_pos h) HM1 HNE.out);clear hb HM1;go_wp2_with fail
      refine (rpis_is HG.out.st ⟨#[41]⟩ false KC).mono ?_;rintro e w12 ⟨rfl, hb⟩;replace HK := zh (HK.out.below hb);replace HG := zh (HG.out.new hb);clear hb;go_wp2
      go_roundg m
      case rel => exact ⟨acc ++ [a5], (Rs.takeS X Ps.k_com s5), n9, _, _, _, by rw [hlen], by rw [KC.out], HG, by rw [hlen]; exact HK, by rw [hlen]; omega, HM2⟩
      case measure => omega
end
end Go.Proofs.YtjickecdkmljpaaGreatDoor.R
