/-
  PROVED HERE: the reference's parser: blocks. the reference's parser: branches. No condition beyond the lemmas' own premises.
-/
import Derived.Test.YtjickecdkmljpaaGreatDoorPsTk
import Derived.Test.YtjickecdkmljpaaGreatDoorRsP5
namespace Go.Proofs.YtjickecdkmljpaaGreatDoor.R
open Go.RowKit

section
variable {N p : Nat} {w : World} {X : Ps.Src} {S : ByteArray} {s : Rs.St} {tv nv : Value} {D : List (Ps.Nd × Value)}
/-- The end of a block. -/
def blockFin (X : Ps.Src) (at_ : Nat) (l : List Nat) (s : Rs.St) : Rs.Res := Rs.put ⟨16, at_, 0, [], l⟩ (Rs.leaveS X Ps.k_rb s)
theorem res_assoc (r : Rs.Res) (f g : List Nat → Rs.St → Rs.Res) : (r.bind f).bind g = r.bind fun v s => (f v s).bind g := by cases r <;> rfl
set_option maxRecDepth 100000 in
set_option maxHeartbeats 1000000 in
theorem rpblock_any (n : Nat) (hn : n ≤ 1000000) (HST : Hid (∀ m, m < n → POk X S 161 oneV (Rs.run X m .stmt))) : POk X S 110 oneV (Rs.blockF X (Rs.run X n)) := by
 intro N p w s tv nv D h hne;have HG := zh (Go.start h);have HNE := zh hne;clear h hne
 go_enter Tryz.func110, Tryz.ntmps110
 go_wp2_with fail
 refine (rpnow_any HG.out.st).mono ?_;rintro e w1 ⟨rfl, hb⟩;replace HG := zh (HG.out.new hb);clear hb;generalize hnow : Rs.now X s = t at *;have HNOWt := zh hnow;clear hnow;unfold tokVal tokCells;have HBt := zh (Bx.new HG.out #[.int .i64 t.kind, .string (str t.text), .int .i64 t.num, .int .i64 (t.pos : Int)] 95);replace HG := zh (HG.out.alloc (.cells #[.int .i64 t.kind, .string (str t.text), .int .i64 t.num, .int .i64 (t.pos : Int)] 95));have hq : (w1.alloc (.cells #[.int .i64 t.kind, .string (str t.text), .int .i64 t.num, .int .i64 (t.pos : Int)] 95)).heap.size = w1.heap.size + 1 := by simp
 have hdHBtHB : w1.heap.size ≠ w1.heap.size + 1 := by rw [← hq]; exact Nat.ne_of_lt HBt.out.lt
 have HB := Bx.new HG.out #[.int .i64 16, .int .i64 (t.pos : Int), .int .i64 0, .string ⟨#[]⟩, .slice none 0 0] 41;rw [hq] at HB;replace HB := zh HB;clear hq;replace HG := zh (HG.out.alloc (.cells #[.int .i64 16, .int .i64 (t.pos : Int), .int .i64 0, .string ⟨#[]⟩, .slice none 0 0] 41));replace HBt := zh (HBt.out.alloc (.cells #[.int .i64 16, .int .i64 (t.pos : Int), .int .i64 0, .string ⟨#[]⟩, .slice none 0 0] 41));go_wp2_with fail
 generalize ((w1.alloc (.cells #[.int .i64 t.kind, .string (str t.text), .int .i64 t.num, .int .i64 (t.pos : Int)] 95)).alloc (.cells #[.int .i64 16, .int .i64 (t.pos : Int), .int .i64 0, .string ⟨#[]⟩, .slice none 0 0] 41)) = w2 at *;go_wp2_with fail
 refine (rpenter_any HG.out.st ⟨#[123]⟩).mono ?_;rintro e w3 hq;obtain ⟨v, s3, n3, E3, hr, rfl, h1, h2, h3⟩ := hq.parts ((fun e => by cases e));replace hr : Rs.Res.ok [(Rs.now X s).pos] (Rs.enterS X Ps.k_lb s) = .ok v s3 := hr
 cases hr
 replace HBt := zh (HBt.out.mv HG.out.pl h2);replace HB := zh (HB.out.mv HG.out.pl h2);replace HG := zh (HG.out.then h1 h2 h3);clear hq h1 h2 h3;unfold oneV;have HPL : Hid (Rs.blockF X (Rs.run X n) s = (Rs.run X n (.stmts []) (Rs.enterS X Ps.k_lb s)).bind (blockFin X t.pos)) := zh (by unfold Rs.blockF; rw [HNOWt.out]; exact res_assoc (Rs.run X n (.stmts []) (Rs.enterS X Ps.k_lb s)) (fun l s2 => (Rs.leave X Ps.k_rb s2).bind fun _ s3 => .ok l s3) (fun l s1 => Rs.put ⟨16, t.pos, 0, [], l⟩ s1));obtain ⟨sk0, hsk⟩ : ∃ s0, s0 = (Rs.enterS X Ps.k_lb s) := ⟨_, rfl⟩;rw [← hsk] at HG HPL;clear hsk;have HLT : Hid (Rs.blockF X (Rs.run X n) s = (LoopT (fun s => Rs.isK X s Ps.k_rb || Rs.isWrong s) (fun m a s => Rs.run X m (.stmts a) s) n [] sk0).bind (blockFin X t.pos)) := zh (loop_is (lp := fun m a s => Rs.run X m (.stmts a) s) (fun _ _ => rfl) (fun m a s h => if_pos h) HPL.out HNE.out);clear HPL;obtain ⟨e0, he0⟩ : ∃ e, Rs.isK X sk0 Ps.k_rb = e := ⟨_, rfl⟩
 have HE0 := zh he0;clear he0;go_wp2_with fail
 refine (rpis_is HG.out.st ⟨#[125]⟩ e0 HE0).mono ?_;rintro e w4 ⟨rfl, hb⟩;replace HBt := zh (HBt.out.below hb);replace HB := zh (HB.out.below hb);replace HG := zh (HG.out.new hb);clear hb;go_wp2_with fail
 go_loopg [5] n (fun m e wr => ∃ (acc : List Nat) (sk : Rs.St) (nk : Value) (E : List (Ps.Nd × Value)) (ua : Option Addr) (uc : Nat), e = .bool (Rs.isK X sk Ps.k_rb) ∧ Hid (Go N p X S w tv nv D wr sk nk E) ∧ Hid (Kd N w wr (D ++ E) (.slice ua acc.length uc) acc) ∧ Hid (Bx w wr nk (w1.heap.size + 1) #[.int .i64 16, .int .i64 (t.pos : Int), .int .i64 0, .string ⟨#[]⟩, .slice ua acc.length uc] 41) ∧ acc.length + m = n ∧ Hid (Rs.blockF X (Rs.run X n) s = (LoopT (fun s => Rs.isK X s Ps.k_rb || Rs.isWrong s) (fun m a s => Rs.run X m (.stmts a) s) m acc sk).bind (blockFin X t.pos)) ∧ Hid (Bx w wr nk (w1.heap.size) #[.int .i64 t.kind, .string (str t.text), .int .i64 t.num, .int .i64 (t.pos : Int)] 95))
 case atStart => exact ⟨[], sk0, n3, _, none, 0, by rw [HE0.out], HG, zh (Kd.nil _ _ _ _), HB, by simp, HLT, HBt⟩
 case round =>
  clear HG HB HLT HE0 HBt;obtain ⟨acc, sk, nk, E, ua, uc, rfl, HG, HK, HB, hacc, HPR, HBt⟩ := hrel;obtain ⟨wb, hwb⟩ : ∃ b, Rs.isWrong sk = b := ⟨_, rfl⟩;have KW := zh hwb
  cases hb : Rs.isK X sk Ps.k_rb with
  | true =>
   have HM : Hid (Rs.blockF X (Rs.run X n) s = (blockFin X t.pos) acc sk) := zh (HPR.out.trans (congrArg (fun r => Rs.Res.bind r (blockFin X t.pos)) (if_pos (show (Rs.isK X sk Ps.k_rb || Rs.isWrong sk) = true by rw [hb]; rfl))));clear hb HPR hwb;have c7 : wr.cell? ⟨p, 7, none⟩ = some (.bool wb) := by rw [← KW.out]; exact HG.out.st.c7
   have l7 := HG.out.st.lt;go_wp2_with fail
   clear c7 l7;refine (rpleave_any HG.out.st ⟨#[125]⟩).mono ?_;rintro e w5 hq;obtain ⟨v, s5, n5, E5, hr, rfl, h1, h2, h3⟩ := hq.parts ((fun e => by cases e));replace hr : Rs.Res.ok [] (Rs.leaveS X Ps.k_rb sk) = .ok v s5 := hr
   cases hr
   replace HK := zh (Kd.mv HK.out HG.out h2 h3);replace HBt := zh (HBt.out.mv HG.out.pl h2);replace HB := zh (HB.out.mv HG.out.pl h2);replace HG := zh (HG.out.then h1 h2 h3);clear hq h1 h2 h3;unfold unitV;have cHB0 : w5.cell? ⟨w1.heap.size + 1, 0, none⟩ = some (.int .i64 16) := HB.out.cell 0;have cHB1 : w5.cell? ⟨w1.heap.size + 1, 1, none⟩ = some (.int .i64 (t.pos : Int)) := HB.out.cell 1;have cHB2 : w5.cell? ⟨w1.heap.size + 1, 2, none⟩ = some (.int .i64 0) := HB.out.cell 2;have cHB3 : w5.cell? ⟨w1.heap.size + 1, 3, none⟩ = some (.string ⟨#[]⟩) := HB.out.cell 3;have cHB4 : w5.cell? ⟨w1.heap.size + 1, 4, none⟩ = some (.slice ua acc.length uc) := HB.out.cell 4;have lHB := HB.out.lt;go_wp2_with fail
   have HPL : Hid (Rs.blockF X (Rs.run X n) s = Rs.put ⟨16, t.pos, 0, [], acc⟩ (Rs.leaveS X Ps.k_rb sk)) := zh (by simp [blockFin, HM.out, Rs.take, Rs.enter, Rs.leave, Rs.name, Rs.with_, Rs.bind_ok, Rs.Res.bind]);have hne2 := HNE.out;rw [HPL.out] at hne2;have hf := put_few hne2;have HPI := zh (put_is hne2);clear hne2;refine (rpput_any HG.out.st ⟨16, t.pos, 0, [], acc⟩ (.slice ua acc.length uc) HK.out.row hf).mono ?_;rintro e w6 ⟨rfl, n6, h1, h2⟩;have HE : Hid (Out N p X S w tv nv D oneV (Rs.blockF X (Rs.run X n) s) (.returned (.int .i64 ((Rs.leaveS X Ps.k_rb sk).p.nodes.length : Int))) w6) := zh ((HG.out.put_ h1 h2 HK.out.lo).out (by rw [HPL.out, HPI.out]) rfl);replace HBt := zh (HBt.out.mv HG.out.pl h2);replace HB := zh (HB.out.mv HG.out.pl h2);clear h1 h2;go_wp2
   go_returns
   exact HE.out
  | false =>
   cases wb with
   | true =>
    have HM : Hid (Rs.blockF X (Rs.run X n) s = (blockFin X t.pos) acc sk) := zh (HPR.out.trans (congrArg (fun r => Rs.Res.bind r (blockFin X t.pos)) (if_pos (show (Rs.isK X sk Ps.k_rb || Rs.isWrong sk) = true by rw [hb, hwb]; rfl))));clear hb HPR hwb;have c7 : wr.cell? ⟨p, 7, none⟩ = some (.bool true) := by rw [← KW.out]; exact HG.out.st.c7
    have l7 := HG.out.st.lt;go_wp2_with fail
    clear c7 l7;refine (rpleave_any HG.out.st ⟨#[125]⟩).mono ?_;rintro e w7 hq;obtain ⟨v, s7, n7, E7, hr, rfl, h1, h2, h3⟩ := hq.parts ((fun e => by cases e));replace hr : Rs.Res.ok [] (Rs.leaveS X Ps.k_rb sk) = .ok v s7 := hr
    cases hr
    replace HK := zh (Kd.mv HK.out HG.out h2 h3);replace HBt := zh (HBt.out.mv HG.out.pl h2);replace HB := zh (HB.out.mv HG.out.pl h2);replace HG := zh (HG.out.then h1 h2 h3);clear hq h1 h2 h3;unfold unitV;have cHB0 : w7.cell? ⟨w1.heap.size + 1, 0, none⟩ = some (.int .i64 16) := HB.out.cell 0;have cHB1 : w7.cell? ⟨w1.heap.size + 1, 1, none⟩ = some (.int .i64 (t.pos : Int)) := HB.out.cell 1;have cHB2 : w7.cell? ⟨w1.heap.size + 1, 2, none⟩ = some (.int .i64 0) := HB.out.cell 2;have cHB3 : w7.cell? ⟨w1.heap.size + 1, 3, none⟩ = some (.string ⟨#[]⟩) := HB.out.cell 3;have cHB4 : w7.cell? ⟨w1.heap.size + 1, 4, none⟩ = some (.slice ua acc.length uc) := HB.out.cell 4;have lHB := HB.out.lt;go_wp2_with fail
    have HPL : Hid (Rs.blockF X (Rs.run X n) s = Rs.put ⟨16, t.pos, 0, [], acc⟩ (Rs.leaveS X Ps.k_rb sk)) := zh (by simp [blockFin, HM.out, Rs.take, Rs.enter, Rs.leave, Rs.name, Rs.with_, Rs.bind_ok, Rs.Res.bind]);have hne2 := HNE.out;rw [HPL.out] at hne2;have hf := put_few hne2;have HPI := zh (put_is hne2);clear hne2;refine (rpput_any HG.out.st ⟨16, t.pos, 0, [], acc⟩ (.slice ua acc.length uc) HK.out.row hf).mono ?_;rintro e w8 ⟨rfl, n8, h1, h2⟩;have HE : Hid (Out N p X S w tv nv D oneV (Rs.blockF X (Rs.run X n) s) (.returned (.int .i64 ((Rs.leaveS X Ps.k_rb sk).p.nodes.length : Int))) w8) := zh ((HG.out.put_ h1 h2 HK.out.lo).out (by rw [HPL.out, HPI.out]) rfl);replace HBt := zh (HBt.out.mv HG.out.pl h2);replace HB := zh (HB.out.mv HG.out.pl h2);clear h1 h2;go_wp2
    go_returns
    exact HE.out
   | false =>
    have HP1 : Rs.blockF X (Rs.run X n) s = (Rs.run X gk (.stmts acc) sk).bind (blockFin X t.pos) := HPR.out.trans (congrArg (fun r => Rs.Res.bind r (blockFin X t.pos)) (if_neg (show ¬ (Rs.isK X sk Ps.k_rb || Rs.isWrong sk) = true by rw [hb, hwb]; simp)));obtain ⟨m, rfl⟩ : ∃ m, gk = m + 1 := by
     cases gk with
     | zero => exact absurd (HP1.trans rfl) HNE.out
     | succ m => exact ⟨m, rfl⟩
    have HM : Hid (Rs.blockF X (Rs.run X n) s = ((Rs.run X m .stmt sk).bind fun k s1 => if Rs.isK X s1 Ps.k_rb then .ok (acc ++ k) s1 else Rs.run X m (.stmts (acc ++ k)) (Rs.takeS X Ps.k_semi s1)).bind (blockFin X t.pos)) := zh (HP1.trans (congrArg (fun r => Rs.Res.bind r (blockFin X t.pos)) (if_neg (by rw [hb, hwb]; simp))));have hmn : m < n := by omega
    clear hb hwb HP1 HPR;have c7 : wr.cell? ⟨p, 7, none⟩ = some (.bool false) := by rw [← KW.out]; exact HG.out.st.c7
    have l7 := HG.out.st.lt;go_wp2_with fail
    clear c7 l7;refine (HST.out m hmn _ _ _ _ _ _ _ HG.out.st (fun e => HNE.out (by rw [HM.out, e]; rfl))).mono ?_;rintro e w9 hq;obtain ⟨v, s9, n9, E9, hr, rfl, h1, h2, h3⟩ := hq.parts (fun e => HNE.out (by rw [HM.out, e]; rfl));obtain ⟨a9, rfl⟩ := Rs.run_ones X m .stmt rfl _ _ _ hr;have HR9 := zh hr;clear hr;replace HK := zh (Kd.mv HK.out HG.out h2 h3);replace HBt := zh (HBt.out.mv HG.out.pl h2);replace HB := zh (HB.out.mv HG.out.pl h2);replace HG := zh (HG.out.then h1 h2 h3);clear hq h1 h2 h3;unfold oneV;replace HM : Hid (Rs.blockF X (Rs.run X n) s = (if Rs.isK X s9 Ps.k_rb then Rs.Res.ok (acc ++ [a9]) s9 else Rs.run X m (.stmts (acc ++ [a9])) (Rs.takeS X Ps.k_semi s9)).bind (blockFin X t.pos)) := zh (by rw [HM.out, HR9.out]; rfl);have cHB4 : w9.cell? ⟨w1.heap.size + 1, 4, none⟩ = some (.slice ua acc.length uc) := HB.out.cell 4;have fHB4 := HB.out.free 4;have lHB := HB.out.lt;obtain ⟨i0, hi0, hz0, hz1, hz2⟩ := info_parts int_info
    have HKA := zh (HK.out.alloc (.cells #[.int .i64 (a9 : Int)] 3)).row;have hN3 := HG.out.st.nN;have hLB := show acc.length ≤ 1000000 by omega
    go_wp2_with (at_builtin; refine wpList_append_lies _ rfl _ _ _ rfl N 3 i0 _ 1 8 Tryz.underlying39 hi0 hz0 hz1 hz2 rfl (by omega) (.slice ua acc.length uc) acc.length (kidVals acc) rfl HKA.out ⟨w9.heap.size, 0, none⟩ 1 1 [.int .i64 (a9 : Int)] rfl rfl (World.news_of_block (cs := #[.int .i64 (a9 : Int)]) (t := 3) (fr := (0, 0)) (heap_alloc_new _ _)) (by intro x hx; simp at hx; subst hx; rfl) (by omega) (by unfold maxLen; omega) (by omega) (by simp; omega) (w9.heap.size + 1) (by simp) ?_; intro g10 cap10 w10 hown hgrow hat hlt; obtain ⟨hg8, hk8, hk9⟩ := Kd.grown HK.out (l2 := [a9]) HG.out hown rfl hgrow hat; replace HBt := zh (Bx.same HBt.out (hk9 _ HBt.out.lt (fun e => own_ne_blk HK.out.row HBt.out.blk (by decide) e))); replace HB := zh (Bx.same HB.out (hk9 _ HB.out.lt (fun e => own_ne_blk HK.out.row HB.out.blk (by decide) e))); replace HG := zh hg8; replace HK := zh hk8; clear hg8 hk8 hk9 hown hgrow hat hlt HKA hi0 hz0 hz1 hz2 hN3 hLB; clear cHB4 fHB4 lHB; have cHB4 : w10.cell? ⟨w1.heap.size + 1, 4, none⟩ = some (.slice ua acc.length uc) := HB.out.cell 4; have fHB4 := HB.out.free 4; have lHB := HB.out.lt)
    clear cHB4 fHB4 lHB;replace HK := zh (HK.out.set HB.out.blk (by decide) 4 (.slice (some ⟨g10, 0, none⟩) (acc.length + 1) cap10));replace HBt := zh (HBt.out.far hdHBtHB 4 (.slice (some ⟨g10, 0, none⟩) (acc.length + 1) cap10));replace HG := zh (Bx.go HB.out HG.out (by decide) 4 (.slice (some ⟨g10, 0, none⟩) (acc.length + 1) cap10));replace HB : Hid (Bx w (w10.setCell ⟨w1.heap.size + 1, 4, none⟩ (.slice (some ⟨g10, 0, none⟩) (acc.length + 1) cap10)) n9 (w1.heap.size + 1) #[.int .i64 16, .int .i64 (t.pos : Int), .int .i64 0, .string ⟨#[]⟩, .slice (some ⟨g10, 0, none⟩) (acc.length + 1) cap10] 41) := zh (HB.out.set 4 (.slice (some ⟨g10, 0, none⟩) (acc.length + 1) cap10));generalize (w10.setCell ⟨w1.heap.size + 1, 4, none⟩ (.slice (some ⟨g10, 0, none⟩) (acc.length + 1) cap10)) = w11 at *;have hlen : (acc ++ [a9]).length = acc.length + 1 := by simp
    cases hb : Rs.isK X s9 Ps.k_rb with
    | true =>
     have HM2 : Hid (Rs.blockF X (Rs.run X n) s = (LoopT (fun s => Rs.isK X s Ps.k_rb || Rs.isWrong s) (fun m a s => Rs.run X m (.stmts a) s) m (acc ++ [a9]) s9).bind (blockFin X t.pos)) := zh (HM.out.trans (congrArg (fun r => Rs.Res.bind r (blockFin X t.pos)) ((if_pos hb).trans (if_pos (show (Rs.isK X s9 Ps.k_rb || Rs.isWrong s9) = true by rw [hb]; rfl)).symm)));have KB := zh hb;refine (rpis_is HG.out.st ⟨#[125]⟩ true KB).mono ?_;rintro e w12 ⟨rfl, hb⟩;replace HBt := zh (HBt.out.below hb);replace HB := zh (HB.out.below hb);replace HK := zh (HK.out.below hb);replace HG := zh (HG.out.new hb);clear hb;go_wp2
     go_roundg m
     case rel => exact ⟨acc ++ [a9], s9, n9, _, _, _, by rw [KB.out], HG, by rw [hlen]; exact HK, by rw [hlen]; exact HB, by rw [hlen]; omega, HM2, HBt⟩
     case measure => omega
    | false =>
     have KB := zh hb;have HM1 : Rs.blockF X (Rs.run X n) s = (Rs.run X m (.stmts (acc ++ [a9])) (Rs.takeS X Ps.k_semi s9)).bind (blockFin X t.pos) := HM.out.trans (congrArg (fun r => Rs.Res.bind r (blockFin X t.pos)) (if_neg (by rw [hb]; simp)));have HM2 := zh (loop_is (t := fun s => Rs.isK X s Ps.k_rb || Rs.isWrong s) (lp := fun m a s => Rs.run X m (.stmts a) s) (fun _ _ => rfl) (fun m a s h => if_pos h) HM1 HNE.out);clear hb HM1;refine (rpis_is HG.out.st ⟨#[125]⟩ false KB).mono ?_;rintro e w13 ⟨rfl, hb⟩;replace HBt := zh (HBt.out.below hb);replace HB := zh (HB.out.below hb);replace HK := zh (HK.out.below hb);replace HG := zh (HG.out.new hb);clear hb;go_wp2_with fail
     refine (rptake_any HG.out.st ⟨#[59]⟩).mono ?_;rintro e w14 hq;obtain ⟨v, s14, n14, E14, hr, rfl, h1, h2, h3⟩ := hq.parts ((fun e => by cases e));replace hr : Rs.Res.ok [(Rs.now X s9).pos] (Rs.takeS X Ps.k_semi s9) = .ok v s14 := hr
     cases hr
     replace HK := zh (Kd.mv HK.out HG.out h2 h3);replace HBt := zh (HBt.out.mv HG.out.pl h2);replace HB := zh (HB.out.mv HG.out.pl h2);replace HG := zh (HG.out.then h1 h2 h3);clear hq h1 h2 h3;unfold oneV;obtain ⟨e2, he2⟩ : ∃ e, Rs.isK X (Rs.takeS X Ps.k_semi s9) Ps.k_rb = e := ⟨_, rfl⟩;have KC := zh he2;clear he2;go_wp2_with fail
     refine (rpis_is HG.out.st ⟨#[125]⟩ e2 KC).mono ?_;rintro e w15 ⟨rfl, hb⟩;replace HBt := zh (HBt.out.below hb);replace HB := zh (HB.out.below hb);replace HK := zh (HK.out.below hb);replace HG := zh (HG.out.new hb);clear hb;go_wp2
     go_roundg m
     case rel => exact ⟨acc ++ [a9], (Rs.takeS X Ps.k_semi s9), n14, _, _, _, by rw [KC.out], HG, by rw [hlen]; exact HK, by rw [hlen]; exact HB, by rw [hlen]; omega, HM2, HBt⟩
     case measure => omega
end
end Go.Proofs.YtjickecdkmljpaaGreatDoor.R
namespace Go.Proofs.YtjickecdkmljpaaGreatDoor.R
open Go.RowKit

section
variable {N p : Nat} {w : World} {X : Ps.Src} {S : ByteArray} {s : Rs.St} {tv nv : Value} {D : List (Ps.Nd × Value)}
set_option maxRecDepth 100000 in
set_option maxHeartbeats 1000000 in
theorem rpbranch_any (rec : Rs.Rec) (HO : Hid (Rs.Ones rec)) (HX : Hid (NumOk X S 205 0 (rec (.expr 0)))) (HBL : Hid (POk X S 110 oneV (rec .block))) (HBR : Hid (POk X S 207 oneV (rec .branch))) : POk X S 207 oneV (Rs.branchF X rec) := by
 intro N p w s tv nv D h hne;have HG := zh (Go.start h);have HNE := zh hne;obtain ⟨t, hnow⟩ : ∃ t, Rs.now X s = t := ⟨_, rfl⟩;have HNOWt := zh hnow;clear hnow;clear h hne
 go_enter Tryz.func207, Tryz.ntmps207
 go_wp2_with fail
 refine (rptake_any HG.out.st ⟨#[105, 102]⟩).mono ?_;rintro e w1 hq;obtain ⟨v, s1, n1, E1, hr, rfl, h1, h2, h3⟩ := hq.parts ((fun e => by cases e));replace hr : Rs.Res.ok [(Rs.now X s).pos] (Rs.takeS X Ps.k_if_ s) = .ok v s1 := hr
 cases hr
 replace HG := zh (HG.out.then h1 h2 h3);clear hq h1 h2 h3;unfold oneV;rw [HNOWt.out];go_wp2_with fail
 refine (HX.out _ _ _ _ _ _ _ HG.out.st (fun e => HNE.out (by simp [Rs.branchF, HNOWt.out, e, Rs.take, Rs.enter, Rs.leave, Rs.name, Rs.with_, Rs.bind_ok, Rs.Res.bind]))).mono ?_;rintro e w2 hq;obtain ⟨v, s2, n2, E2, hr, rfl, h1, h2, h3⟩ := hq.parts (fun e => HNE.out (by simp [Rs.branchF, HNOWt.out, e, Rs.take, Rs.enter, Rs.leave, Rs.name, Rs.with_, Rs.bind_ok, Rs.Res.bind]));obtain ⟨a2, rfl⟩ := HO.out (.expr 0) rfl _ _ _ hr;have HR2 := zh hr;clear hr;replace HG := zh (HG.out.then h1 h2 h3);clear hq h1 h2 h3;unfold oneV;go_wp2_with fail
 refine (HBL.out _ _ _ _ _ _ _ HG.out.st (fun e => HNE.out (by simp [Rs.branchF, HNOWt.out, HR2.out, e, Rs.take, Rs.enter, Rs.leave, Rs.name, Rs.with_, Rs.bind_ok, Rs.Res.bind]))).mono ?_;rintro e w3 hq;obtain ⟨v, s3, n3, E3, hr, rfl, h1, h2, h3⟩ := hq.parts (fun e => HNE.out (by simp [Rs.branchF, HNOWt.out, HR2.out, e, Rs.take, Rs.enter, Rs.leave, Rs.name, Rs.with_, Rs.bind_ok, Rs.Res.bind]));obtain ⟨a3, rfl⟩ := HO.out .block rfl _ _ _ hr;have HR3 := zh hr;clear hr;replace HG := zh (HG.out.then h1 h2 h3);clear hq h1 h2 h3;unfold oneV;go_wp2_with fail
 have HK : Hid (Kd N w (w3.alloc (.cells #[.int .i64 (a2 : Int), .int .i64 (a3 : Int)] 3)) _ (.slice (some ⟨w3.heap.size, 0, none⟩) 2 2) [a2, a3]) := zh (Kd.new HG.out [a2, a3] (by simp));replace HG := zh (HG.out.alloc (.cells #[.int .i64 (a2 : Int), .int .i64 (a3 : Int)] 3));generalize hw4 : (w3.alloc (.cells #[.int .i64 (a2 : Int), .int .i64 (a3 : Int)] 3)) = w4 at *;have hkl4 : w3.heap.size < w4.heap.size := by rw [← hw4]; simp
 clear hw4
 cases hb : Rs.isK X s3 Ps.k_else_ with
 | true =>
  have KB := zh hb;clear hb;refine (rpis_is HG.out.st ⟨#[101, 108, 115, 101]⟩ true KB).mono ?_;rintro e w5 ⟨rfl, hb⟩;replace HK := zh (HK.out.below hb);replace HG := zh (HG.out.new hb);clear hb
  cases hb : Rs.nextK X s3 Ps.k_if_ with
  | true =>
   have KN := zh hb;clear hb;go_wp2_with fail
   refine (rpnext_any HG.out.st ⟨#[105, 102]⟩ true KN).mono ?_;rintro e w6 ⟨rfl, hb⟩;replace HK := zh (HK.out.below hb);replace HG := zh (HG.out.new hb);clear hb;go_wp2_with fail
   refine (rpenter_any HG.out.st ⟨#[101, 108, 115, 101]⟩).mono ?_;rintro e w7 hq;obtain ⟨v, s7, n7, E7, hr, rfl, h1, h2, h3⟩ := hq.parts ((fun e => by cases e));replace hr : Rs.Res.ok [(Rs.now X s3).pos] (Rs.enterS X Ps.k_else_ s3) = .ok v s7 := hr
   cases hr
   replace HK := zh (Kd.mv HK.out HG.out h2 h3);replace HG := zh (HG.out.then h1 h2 h3);clear hq h1 h2 h3;unfold oneV;go_wp2_with fail
   refine (HBR.out _ _ _ _ _ _ _ HG.out.st (fun e => HNE.out (by simp [Rs.branchF, HNOWt.out, HR2.out, HR3.out, KB.out, KN.out, e, Rs.take, Rs.enter, Rs.leave, Rs.name, Rs.with_, Rs.bind_ok, Rs.Res.bind]))).mono ?_;rintro e w8 hq;obtain ⟨v, s8, n8, E8, hr, rfl, h1, h2, h3⟩ := hq.parts (fun e => HNE.out (by simp [Rs.branchF, HNOWt.out, HR2.out, HR3.out, KB.out, KN.out, e, Rs.take, Rs.enter, Rs.leave, Rs.name, Rs.with_, Rs.bind_ok, Rs.Res.bind]));obtain ⟨a8, rfl⟩ := HO.out .branch rfl _ _ _ hr;have HR8 := zh hr;clear hr;replace HK := zh (Kd.mv HK.out HG.out h2 h3);replace HG := zh (HG.out.then h1 h2 h3);clear hq h1 h2 h3;unfold oneV;obtain ⟨d9, hd⟩ : ∃ d, IntKind.i64.wrap (s8.p.deep - 1) = d := ⟨_, rfl⟩;have dc := HG.out.st.c3;have df := HG.out.st.free 3;have dl := HG.out.st.lt;replace HK := zh (HK.out.set HG.out.st.blk (by decide) 3 (.int .i64 d9));replace HG : Hid (Go N p X S w tv nv D (w8.setCell ⟨p, 3, none⟩ (.int .i64 d9)) (Rs.down s8) n8 _) := zh (by rw [← hd]; exact HG.out.deep _)
   have hsz : (w8.setCell ⟨p, 3, none⟩ (.int .i64 d9)).heap.size = w8.heap.size := by simp
   obtain ⟨i0, hi0, hz0, hz1, hz2⟩ := info_parts int_info;have HKA := zh (HK.out.alloc (.cells #[.int .i64 (a8 : Int)] 3)).row;have hN3 := HG.out.st.nN;have hLB := show [a2, a3].length ≤ 1000000 by simp
   go_wp2_with (at_builtin; generalize (w8.setCell ⟨p, 3, none⟩ (.int .i64 d9)) = w10 at *; rw [← hsz]; refine wpList_append_lies _ rfl _ _ _ rfl N 3 i0 _ 1 8 Tryz.underlying39 hi0 hz0 hz1 hz2 rfl (by omega) (.slice (some ⟨w3.heap.size, 0, none⟩) 2 2) [a2, a3].length (kidVals [a2, a3]) rfl HKA.out ⟨w10.heap.size, 0, none⟩ 1 1 [.int .i64 (a8 : Int)] rfl rfl (World.news_of_block (cs := #[.int .i64 (a8 : Int)]) (t := 3) (fr := (0, 0)) (heap_alloc_new _ _)) (by intro x hx; simp at hx; subst hx; rfl) (by omega) (by unfold maxLen; omega) (by omega) (by simp; omega) (w10.heap.size + 1) (by simp) ?_; intro g11 cap11 w11 hown hgrow hat hlt; obtain ⟨hg8, hk8, hk9⟩ := Kd.grown HK.out (l2 := [a8]) HG.out hown rfl hgrow hat; replace HG := zh hg8; replace HK := zh hk8; clear hg8 hk8 hk9 hown hgrow hat hlt HKA hi0 hz0 hz1 hz2 hN3 hLB)
   clear dc df dl hd hsz;have HPL : Hid (Rs.branchF X rec s = Rs.put ⟨22, t.pos, 0, [], ([a2, a3] ++ [a8])⟩ (Rs.down s8)) := zh (by simp [Rs.branchF, HNOWt.out, HR2.out, HR3.out, KB.out, KN.out, HR8.out, Rs.take, Rs.enter, Rs.leave, Rs.name, Rs.with_, Rs.bind_ok, Rs.Res.bind]);have hne2 := HNE.out;rw [HPL.out] at hne2;have hf := put_few hne2;have HPI := zh (put_is hne2);clear hne2;refine (rpwith_any HG.out.st 22 t.pos ([a2, a3] ++ [a8]) (.slice (some ⟨g11, 0, none⟩) ([a2, a3].length + 1) cap11) HK.out.row hf).mono ?_;rintro e w12 ⟨rfl, n12, h1, h2⟩;have HE : Hid (Out N p X S w tv nv D oneV (Rs.branchF X rec s) (.returned (.int .i64 ((Rs.down s8).p.nodes.length : Int))) w12) := zh ((HG.out.put_ h1 h2 HK.out.lo).out (by rw [HPL.out, HPI.out]) rfl);clear h1 h2;go_wp2
   go_returns
   exact HE.out
  | false =>
   have KN := zh hb;clear hb;go_wp2_with fail
   refine (rpnext_any HG.out.st ⟨#[105, 102]⟩ false KN).mono ?_;rintro e w13 ⟨rfl, hb⟩;replace HK := zh (HK.out.below hb);replace HG := zh (HG.out.new hb);clear hb;go_wp2_with fail
   refine (rptake_any HG.out.st ⟨#[101, 108, 115, 101]⟩).mono ?_;rintro e w14 hq;obtain ⟨v, s14, n14, E14, hr, rfl, h1, h2, h3⟩ := hq.parts ((fun e => by cases e));replace hr : Rs.Res.ok [(Rs.now X s3).pos] (Rs.takeS X Ps.k_else_ s3) = .ok v s14 := hr
   cases hr
   replace HK := zh (Kd.mv HK.out HG.out h2 h3);replace HG := zh (HG.out.then h1 h2 h3);clear hq h1 h2 h3;unfold oneV;go_wp2_with fail
   refine (HBL.out _ _ _ _ _ _ _ HG.out.st (fun e => HNE.out (by simp [Rs.branchF, HNOWt.out, HR2.out, HR3.out, KB.out, KN.out, e, Rs.take, Rs.enter, Rs.leave, Rs.name, Rs.with_, Rs.bind_ok, Rs.Res.bind]))).mono ?_;rintro e w15 hq;obtain ⟨v, s15, n15, E15, hr, rfl, h1, h2, h3⟩ := hq.parts (fun e => HNE.out (by simp [Rs.branchF, HNOWt.out, HR2.out, HR3.out, KB.out, KN.out, e, Rs.take, Rs.enter, Rs.leave, Rs.name, Rs.with_, Rs.bind_ok, Rs.Res.bind]));obtain ⟨a15, rfl⟩ := HO.out .block rfl _ _ _ hr;have HR15 := zh hr;clear hr;replace HK := zh (Kd.mv HK.out HG.out h2 h3);replace HG := zh (HG.out.then h1 h2 h3);clear hq h1 h2 h3;unfold oneV;obtain ⟨i0, hi0, hz0, hz1, hz2⟩ := info_parts int_info;have HKA := zh (HK.out.alloc (.cells #[.int .i64 (a15 : Int)] 3)).row;have hN3 := HG.out.st.nN;have hLB := show [a2, a3].length ≤ 1000000 by simp
   go_wp2_with (at_builtin; refine wpList_append_lies _ rfl _ _ _ rfl N 3 i0 _ 1 8 Tryz.underlying39 hi0 hz0 hz1 hz2 rfl (by omega) (.slice (some ⟨w3.heap.size, 0, none⟩) 2 2) [a2, a3].length (kidVals [a2, a3]) rfl HKA.out ⟨w15.heap.size, 0, none⟩ 1 1 [.int .i64 (a15 : Int)] rfl rfl (World.news_of_block (cs := #[.int .i64 (a15 : Int)]) (t := 3) (fr := (0, 0)) (heap_alloc_new _ _)) (by intro x hx; simp at hx; subst hx; rfl) (by omega) (by unfold maxLen; omega) (by omega) (by simp; omega) (w15.heap.size + 1) (by simp) ?_; intro g16 cap16 w16 hown hgrow hat hlt; obtain ⟨hg8, hk8, hk9⟩ := Kd.grown HK.out (l2 := [a15]) HG.out hown rfl hgrow hat; replace HG := zh hg8; replace HK := zh hk8; clear hg8 hk8 hk9 hown hgrow hat hlt HKA hi0 hz0 hz1 hz2 hN3 hLB)
   have HPL : Hid (Rs.branchF X rec s = Rs.put ⟨22, t.pos, 0, [], ([a2, a3] ++ [a15])⟩ s15) := zh (by simp [Rs.branchF, HNOWt.out, HR2.out, HR3.out, KB.out, KN.out, HR15.out, Rs.take, Rs.enter, Rs.leave, Rs.name, Rs.with_, Rs.bind_ok, Rs.Res.bind]);have hne2 := HNE.out;rw [HPL.out] at hne2;have hf := put_few hne2;have HPI := zh (put_is hne2);clear hne2;refine (rpwith_any HG.out.st 22 t.pos ([a2, a3] ++ [a15]) (.slice (some ⟨g16, 0, none⟩) ([a2, a3].length + 1) cap16) HK.out.row hf).mono ?_;rintro e w17 ⟨rfl, n17, h1, h2⟩;have HE : Hid (Out N p X S w tv nv D oneV (Rs.branchF X rec s) (.returned (.int .i64 (s15.p.nodes.length : Int))) w17) := zh ((HG.out.put_ h1 h2 HK.out.lo).out (by rw [HPL.out, HPI.out]) rfl);clear h1 h2;go_wp2
   go_returns
   exact HE.out
 | false =>
  have KB := zh hb;clear hb;refine (rpis_is HG.out.st ⟨#[101, 108, 115, 101]⟩ false KB).mono ?_;rintro e w18 ⟨rfl, hb⟩;replace HK := zh (HK.out.below hb);replace HG := zh (HG.out.new hb);clear hb
  cases hb : Rs.nextK X s3 Ps.k_if_ with
  | true =>
   have KN := zh hb;clear hb;go_wp2_with fail
   refine (rpnext_any HG.out.st ⟨#[105, 102]⟩ true KN).mono ?_;rintro e w19 ⟨rfl, hb⟩;replace HK := zh (HK.out.below hb);replace HG := zh (HG.out.new hb);clear hb;go_wp2_with fail
   have HPL : Hid (Rs.branchF X rec s = Rs.put ⟨22, t.pos, 0, [], [a2, a3]⟩ s3) := zh (by simp [Rs.branchF, HNOWt.out, HR2.out, HR3.out, KB.out, KN.out, Rs.take, Rs.enter, Rs.leave, Rs.name, Rs.with_, Rs.bind_ok, Rs.Res.bind]);have hne2 := HNE.out;rw [HPL.out] at hne2;have hf := put_few hne2;have HPI := zh (put_is hne2);clear hne2;refine (rpwith_any HG.out.st 22 t.pos [a2, a3] (.slice (some ⟨w3.heap.size, 0, none⟩) 2 2) HK.out.row hf).mono ?_;rintro e w20 ⟨rfl, n20, h1, h2⟩;have HE : Hid (Out N p X S w tv nv D oneV (Rs.branchF X rec s) (.returned (.int .i64 (s3.p.nodes.length : Int))) w20) := zh ((HG.out.put_ h1 h2 HK.out.lo).out (by rw [HPL.out, HPI.out]) rfl);clear h1 h2;go_wp2
   go_returns
   exact HE.out
  | false =>
   have KN := zh hb;clear hb;go_wp2_with fail
   refine (rpnext_any HG.out.st ⟨#[105, 102]⟩ false KN).mono ?_;rintro e w21 ⟨rfl, hb⟩;replace HK := zh (HK.out.below hb);replace HG := zh (HG.out.new hb);clear hb;go_wp2_with fail
   have HPL : Hid (Rs.branchF X rec s = Rs.put ⟨22, t.pos, 0, [], [a2, a3]⟩ s3) := zh (by simp [Rs.branchF, HNOWt.out, HR2.out, HR3.out, KB.out, KN.out, Rs.take, Rs.enter, Rs.leave, Rs.name, Rs.with_, Rs.bind_ok, Rs.Res.bind]);have hne2 := HNE.out;rw [HPL.out] at hne2;have hf := put_few hne2;have HPI := zh (put_is hne2);clear hne2;refine (rpwith_any HG.out.st 22 t.pos [a2, a3] (.slice (some ⟨w3.heap.size, 0, none⟩) 2 2) HK.out.row hf).mono ?_;rintro e w22 ⟨rfl, n22, h1, h2⟩;have HE : Hid (Out N p X S w tv nv D oneV (Rs.branchF X rec s) (.returned (.int .i64 (s3.p.nodes.length : Int))) w22) := zh ((HG.out.put_ h1 h2 HK.out.lo).out (by rw [HPL.out, HPI.out]) rfl);clear h1 h2;go_wp2
   go_returns
   exact HE.out
end
end Go.Proofs.YtjickecdkmljpaaGreatDoor.R
