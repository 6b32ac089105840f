/-
  PROVED HERE: the program's parser: programs. No condition beyond the lemmas' own premises. (Printed by psw.py.)
-/
import Derived.Test.YtjickecdkmljpaaGreatDoorPsTk
import Derived.Test.YtjickecdkmljpaaGreatDoorPsF
namespace Go.Proofs.YtjickecdkmljpaaGreatDoor
open Go.RowKit

section
variable {N p : Nat} {w : World} {X : Ps.Src} {S : ByteArray} {s : Ps.St} {tv nv : Value} {D : List (Ps.Nd × Value)}
def programP (X : Ps.Src) (n : Nat) (s : Ps.St) : Ps.Res := (Ps.run X n (.decls []) s).bind fun l s1 => Ps.put ⟨15, (Ps.now X s).pos, 0, [], l⟩ s1
def progFin (at_ : Nat) (l : List Nat) (s1 : Ps.St) : Ps.Res := Ps.put ⟨15, at_, 0, [], l⟩ s1
set_option maxRecDepth 100000 in
set_option maxHeartbeats 1000000 in
theorem spprogram_any (n : Nat) (hn : n ≤ 1000000) (HDC : Hid (∀ m, m < n → POk X S 44 oneV (Ps.declF X (Ps.run X m)))) : POk X S 26 unitV (programP X n) := by
 intro N p w s tv nv D h hne;have HG := zh (Go.start h);have HNE := zh hne;obtain ⟨ta, tc, hta⟩ := own_slice h.toks rfl;have HTA := zh hta;clear hta;clear h hne
 go_enter Tryz.func26, Tryz.ntmps26
 go_wp2_with fail
 refine (spnow_any HG.out.st).mono ?_;rintro e w1 ⟨rfl, hb⟩;replace HG := zh (HG.out.new hb);clear hb;unfold tokVal tokCells;have hf3 := tok_fld3;generalize hnow : Ps.now X s = t at *;have HNOWt := zh hnow;clear hnow;go_wp2_with fail
 have HB := zh (Bx.new HG.out #[.int .i64 15, .int .i64 (t.pos : Int), .int .i64 0, .string ⟨#[]⟩, .slice none 0 0] 41);replace HG := zh (HG.out.alloc (.cells #[.int .i64 15, .int .i64 (t.pos : Int), .int .i64 0, .string ⟨#[]⟩, .slice none 0 0] 41));generalize hw2 : (w1.alloc (.cells #[.int .i64 15, .int .i64 (t.pos : Int), .int .i64 0, .string ⟨#[]⟩, .slice none 0 0] 41)) = w2 at *;have hql := HB.out.lt;clear hw2;have HPR : Hid (programP X n s = (Ps.run X n (.decls []) s).bind (progFin t.pos)) := zh (by unfold programP; rw [HNOWt.out]; rfl)
 go_loopg [7] n (fun m _ wr => ∃ (acc : List Nat) (sk : Ps.St) (nk : Value) (E : List (Ps.Nd × Value)) (ua : Option Addr) (uc : Nat), Hid (Go N p X S w tv nv D wr sk nk E) ∧ Hid (Kd N w wr (D ++ E) (.slice ua acc.length uc) acc) ∧ Hid (Bx w wr nk (w1.heap.size) #[.int .i64 15, .int .i64 (t.pos : Int), .int .i64 0, .string ⟨#[]⟩, .slice ua acc.length uc] 41) ∧ acc.length + m = n ∧ Hid (programP X n s = (Ps.run X m (.decls acc) sk).bind (progFin t.pos)))
 case atStart => exact ⟨[], s, nv, [], none, 0, HG, zh (Kd.nil _ _ _ _), HB, by simp, HPR⟩
 case round =>
  clear HG HB HPR;obtain ⟨acc, sk, nk, E, ua, uc, HG, HK, HB, hacc, HPR⟩ := hrel;obtain ⟨m, rfl⟩ : ∃ m, gk = m + 1 := by
   cases gk with
   | zero => exact absurd HPR.out HNE.out
   | succ m => exact ⟨m, rfl⟩
  have hmn : m < n := by omega
  by_cases hlt : sk.i < X.toks.length
  ·have HM : Hid (programP X n s = ((Ps.declF X (Ps.run X m) sk).bind fun k s1 => if s1.i < X.toks.length then (Ps.take X Ps.k_semi s1).bind fun _ s2 => Ps.run X m (.decls (acc ++ k)) s2 else Ps.run X m (.decls (acc ++ k)) s1).bind (progFin t.pos)) := zh (HPR.out.trans (congrArg (fun r => Ps.Res.bind r (progFin t.pos)) (if_pos hlt)));go_wp2_with fail
   have wj : decide ((sk.i : Int) < (X.toks.length : Int)) = true := by simp; omega
   refine wp_region_held_drew (S := fun w' => w'.cell? ⟨p, 2, none⟩ = some (.int .i64 (sk.i : Int)) ∧ w'.cell? ⟨p, 1, none⟩ = some (.slice ta X.toks.length tc)) (by kernel_rfl) ⟨HG.out.drew1.st.c2, by rw [← HTA.out]; exact HG.out.drew1.st.c1⟩ (fun hHeld => ?_);replace HB := zh (HB.out.drew);replace HK := zh (HK.out.drew);replace HG := zh (HG.out.drew1);generalize wr.drew = w3 at *;refine tk 0 ?_;refine tk 1 ?_;refine tk 2 ?_;refine tk 3 ?_;refine tk 4 ?_;refine tk 5 ?_;refine tk 6 ?_;refine tk 7 ?_;refine tk 8 ?_;refine tk 9 ?_;refine wpAnyH_done (by kernel_rfl) ?_ _;clear wj;clear hlt HPR;go_wp2_with fail
   refine wp_region_any (by kernel_rfl) ?_
   change wpAny _ _ _ _ _ _ _ (World.drew _)
   replace HB := zh (HB.out.drew);replace HK := zh (HK.out.drew);replace HG := zh (HG.out.drew1);generalize w3.drew = w4 at *;refine wpAny_take (i := 0) (v := ?_) rfl (by kernel_rfl) (by kernel_rfl) (by kernel_rfl) (fun _ _ _ h => h) (Or.inl ⟨by rfl, ?_⟩) ?_;rotate_left
   ·intro w; first | (go_simp; done) | (go_simp; with_reducible rfl)
   refine wpAny_take (i := 2) (v := ?_) rfl (by kernel_rfl) (by kernel_rfl) (by kernel_rfl) (fun _ _ _ h => h) (Or.inl ⟨by rfl, ?_⟩) ?_;rotate_left
   ·intro w; first | (go_simp; done) | (go_simp; with_reducible rfl)
   refine wpAny_ready (rs := [1, 3]) (by kernel_rfl) (by simp) ?_;refine AllReady.cons rfl (fun K hK => ?_) (AllReady.cons rfl (fun K hK => ?_) AllReady.nil)
   ·skip
    have cHB4 : (w4).cell? ⟨w1.heap.size, 4, none⟩ = some (.slice ua acc.length uc) := HB.out.cell 4
    go_simp
    refine hK _ _ ?_;clear hK K;clear cHB4;refine wpAny_ready (rs := [3]) (by kernel_rfl) (by simp) ?_;refine AllReady.cons rfl (fun K hK => ?_) AllReady.nil
    go_simp
    refine (HDC.out m hmn _ _ _ _ _ _ _ HG.out.st (fun e => HNE.out (by rw [HM.out, e]; rfl))).mono ?_;rintro e w5 hq;rcases hq.parts (fun e => HNE.out (by rw [HM.out, e]; rfl)) with ⟨c, q, hr, rfl, hb⟩ | ⟨v, s5, n5, E5, hr, rfl, h1, h2, h3⟩
    ·skip
     have HE : Hid (Out N p X S w tv nv D unitV (programP X n s) (thrownS c q) w5) := zh (HG.out.bad hb (by simp [HM.out, hr, Ps.Res.bind]));clear hq hr hb;unfold thrownS;go_wp2
     exact ⟨rfl, HE.out⟩
    obtain ⟨a5, rfl⟩ := Ps.declF_one _ _ _ hr;have HR5 := zh hr;replace HK := zh (HK.out.mv HG.out h2 h3);replace HB := zh (HB.out.mv HG.out.pl h2);replace HG := zh (HG.out.then h1 h2 h3);clear hq hr h1 h2 h3;unfold oneV;go_wp2_with fail
    refine wpAny_ready (rs := [4]) (by kernel_rfl) (by simp) ?_;refine AllReady.cons rfl (fun K hK => ?_) AllReady.nil
    go_simp
    refine hK _ _ ?_;clear hK K;refine wpAny_ready (rs := [5]) (by kernel_rfl) (by simp) ?_;refine AllReady.cons rfl (fun K hK => ?_) AllReady.nil;obtain ⟨i0, hi0, hz0, hz1, hz2⟩ := info_parts int_info;have HKA := zh (HK.out.alloc (.cells #[.int .i64 (a5 : Int)] 3)).row;have hN3 := HG.out.st.nN;have hLB := show acc.length ≤ 1000000 by omega
    refine step_append_lies _ (by rfl) _ _ _ (by rfl) N 3 i0 _ 1 8 Tryz.underlying39 hi0 hz0 hz1 hz2 rfl (by omega) (.slice ua acc.length uc) acc.length (kidVals acc) (by rfl) HKA.out ⟨w5.heap.size, 0, none⟩ 1 1 [.int .i64 (a5 : Int)] (by rfl) (by rfl) (World.news_of_block (cs := #[.int .i64 (a5 : Int)]) (t := 3) (fr := (0, 0)) (heap_alloc_new _ _)) (by intro x hx; simp at hx; subst hx; rfl) (by omega) (by unfold maxLen; omega) (by omega) (by simp; omega) (w5.heap.size + 1) (by simp) ?_;intro g6 cap6 w6 hown hgrow hat hlt;obtain ⟨hg8, hk8, hk9⟩ := HK.out.grown (l2 := [a5]) HG.out hown rfl hgrow hat;replace HB := zh (Bx.same HB.out (hk9 _ HB.out.lt (fun e => own_ne_blk HK.out.row HB.out.blk (by decide) e)));replace HG := zh hg8;replace HK := zh hk8;clear hg8 hk8 hk9 hown hgrow hat hlt HKA hi0 hz0 hz1 hz2 hN3 hLB;refine hK _ _ ?_;clear hK K;refine wpAny_take (i := 6) (v := ?_) rfl (by kernel_rfl) (by kernel_rfl) (by kernel_rfl) (fun _ _ _ h => h) (Or.inl ⟨by rfl, ?_⟩) ?_
    rotate_left
    ·intro w; first | (go_simp; done) | (go_simp; with_reducible rfl)
    refine wpAny_ready (rs := [7]) (by kernel_rfl) (by simp) ?_;refine AllReady.cons rfl (fun K hK => ?_) AllReady.nil;have cHB4 : w6.cell? ⟨w1.heap.size, 4, none⟩ = some (.slice ua acc.length uc) := HB.out.cell 4;have fHB4 := HB.out.free 4;have lHB := HB.out.lt
    go_simp
    refine hK _ _ ?_;clear hK K;clear cHB4 fHB4 lHB;replace HK := zh (HK.out.set HB.out.blk (by decide) 4 (.slice (some ⟨g6, 0, none⟩) (acc.length + 1) cap6));replace HG := zh (HB.out.go HG.out (by decide) 4 (.slice (some ⟨g6, 0, none⟩) (acc.length + 1) cap6));replace HB : Hid (Bx w (w6.setCell ⟨w1.heap.size, 4, none⟩ (.slice (some ⟨g6, 0, none⟩) (acc.length + 1) cap6)) n5 (w1.heap.size) #[.int .i64 15, .int .i64 (t.pos : Int), .int .i64 0, .string ⟨#[]⟩, .slice (some ⟨g6, 0, none⟩) (acc.length + 1) cap6] 41) := zh (HB.out.set 4 (.slice (some ⟨g6, 0, none⟩) (acc.length + 1) cap6));generalize (w6.setCell ⟨w1.heap.size, 4, none⟩ (.slice (some ⟨g6, 0, none⟩) (acc.length + 1) cap6)) = w7 at *;refine wpAny_done (by kernel_rfl) ?_ _;have hlen : (acc ++ [a5]).length = acc.length + 1 := by simp
    replace HM : Hid (programP X n s = (if s5.i < X.toks.length then (Ps.take X Ps.k_semi s5).bind fun _ s2 => Ps.run X m (.decls (acc ++ [a5])) s2 else Ps.run X m (.decls (acc ++ [a5])) s5).bind (progFin t.pos)) := zh (by rw [HM.out, HR5.out]; rfl);go_wp2_with fail
    by_cases hlt : s5.i < X.toks.length
    ·replace HM : Hid (programP X n s = ((Ps.take X Ps.k_semi s5).bind fun _ s2 => Ps.run X m (.decls (acc ++ [a5])) s2).bind (progFin t.pos)) := zh (by rw [HM.out, if_pos hlt]);have wj : decide ((s5.i : Int) < (X.toks.length : Int)) = true := by simp; omega
     refine wp_region_held_drew (S := fun w' => w'.cell? ⟨p, 2, none⟩ = some (.int .i64 (s5.i : Int)) ∧ w'.cell? ⟨p, 1, none⟩ = some (.slice ta X.toks.length tc)) (by kernel_rfl) ⟨HG.out.drew1.st.c2, by rw [← HTA.out]; exact HG.out.drew1.st.c1⟩ (fun hHeld => ?_);replace HB := zh (HB.out.drew);replace HK := zh (HK.out.drew);replace HG := zh (HG.out.drew1);generalize w7.drew = w8 at *;refine tk 0 ?_;refine tk 1 ?_;refine tk 2 ?_;refine tk 3 ?_;refine tk 4 ?_;refine tk 5 ?_;refine tk 6 ?_;refine tk 7 ?_;refine tk 8 ?_;refine tk 9 ?_;refine wpAnyH_done (by kernel_rfl) ?_ _;clear wj;clear hlt;go_wp2_with fail
     refine (sptake_any HG.out.st ⟨#[59]⟩).mono ?_;rintro e w9 hq;rcases hq.parts (take_ne _ _ _) with ⟨c, q, hr, rfl, hb⟩ | ⟨v, s9, n9, E9, hr, rfl, h1, h2, h3⟩
     ·replace hr : Ps.take X Ps.k_semi s5 = _ := hr;have HE : Hid (Out N p X S w tv nv D unitV (programP X n s) (thrownS c q) w9) := zh (HG.out.bad hb (by simp [HM.out, hr, Ps.Res.bind]))
      clear hq hr hb;unfold thrownS;go_wp2
      exact ⟨rfl, HE.out⟩
     replace hr : Ps.take X Ps.k_semi s5 = _ := hr;obtain rfl := (take_ok hr).1;have HR9 := zh hr;replace HK := zh (HK.out.mv HG.out h2 h3);replace HB := zh (HB.out.mv HG.out.pl h2);replace HG := zh (HG.out.then h1 h2 h3);clear hq hr h1 h2 h3;unfold oneV;have HM2 : Hid (programP X n s = (Ps.run X m (.decls (acc ++ [a5])) s9).bind (progFin t.pos)) := zh (by rw [HM.out, HR9.out]; rfl);go_wp2
     go_roundg m
     case rel => exact ⟨acc ++ [a5], s9, n9, _, _, _, HG, by rw [hlen]; exact HK, by rw [hlen]; exact HB, by omega, HM2⟩
     case measure => omega
    ·have HM2 : Hid (programP X n s = (Ps.run X m (.decls (acc ++ [a5])) s5).bind (progFin t.pos)) := zh (by rw [HM.out, if_neg hlt]);have wj : decide ((s5.i : Int) < (X.toks.length : Int)) = false := by simp; omega
     refine wp_region_held_drew (S := fun w' => w'.cell? ⟨p, 2, none⟩ = some (.int .i64 (s5.i : Int)) ∧ w'.cell? ⟨p, 1, none⟩ = some (.slice ta X.toks.length tc)) (by kernel_rfl) ⟨HG.out.drew1.st.c2, by rw [← HTA.out]; exact HG.out.drew1.st.c1⟩ (fun hHeld => ?_);replace HB := zh (HB.out.drew);replace HK := zh (HK.out.drew);replace HG := zh (HG.out.drew1);generalize w7.drew = w10 at *;refine tk 0 ?_;refine tk 1 ?_;refine tk 2 ?_;refine tk 3 ?_;refine tk 4 ?_;refine tk 5 ?_;refine tk 6 ?_;refine tk 7 ?_;refine tk 8 ?_;refine tk 9 ?_;refine wpAnyH_done (by kernel_rfl) ?_ _;clear wj;clear hlt;go_wp2
     go_roundg m
     case rel => exact ⟨acc ++ [a5], s5, n5, _, _, _, HG, by rw [hlen]; exact HK, by rw [hlen]; exact HB, by omega, HM2⟩
     case measure => omega
   ·skip
    go_simp
    refine (HDC.out m hmn _ _ _ _ _ _ _ HG.out.st (fun e => HNE.out (by rw [HM.out, e]; rfl))).mono ?_;rintro e w5 hq;rcases hq.parts (fun e => HNE.out (by rw [HM.out, e]; rfl)) with ⟨c, q, hr, rfl, hb⟩ | ⟨v, s5, n5, E5, hr, rfl, h1, h2, h3⟩
    ·skip
     have HE : Hid (Out N p X S w tv nv D unitV (programP X n s) (thrownS c q) w5) := zh (HG.out.bad hb (by simp [HM.out, hr, Ps.Res.bind]));clear hq hr hb;unfold thrownS;go_wp2
     exact ⟨rfl, HE.out⟩
    obtain ⟨a5, rfl⟩ := Ps.declF_one _ _ _ hr;have HR5 := zh hr;replace HK := zh (HK.out.mv HG.out h2 h3);replace HB := zh (HB.out.mv HG.out.pl h2);replace HG := zh (HG.out.then h1 h2 h3);clear hq hr h1 h2 h3;unfold oneV;go_wp2_with fail
    refine wpAny_ready (rs := [1, 4]) (by kernel_rfl) (by simp) ?_;refine AllReady.cons rfl (fun K hK => ?_) (AllReady.cons rfl (fun K hK => ?_) AllReady.nil)
    ·skip
     have cHB4 : (w5).cell? ⟨w1.heap.size, 4, none⟩ = some (.slice ua acc.length uc) := HB.out.cell 4
     go_simp
     refine hK _ _ ?_;clear hK K;clear cHB4;refine wpAny_ready (rs := [4]) (by kernel_rfl) (by simp) ?_;refine AllReady.cons rfl (fun K hK => ?_) AllReady.nil
     go_simp
     refine hK _ _ ?_;clear hK K;refine wpAny_ready (rs := [5]) (by kernel_rfl) (by simp) ?_;refine AllReady.cons rfl (fun K hK => ?_) AllReady.nil;obtain ⟨i0, hi0, hz0, hz1, hz2⟩ := info_parts int_info;have HKA := zh (HK.out.alloc (.cells #[.int .i64 (a5 : Int)] 3)).row;have hN3 := HG.out.st.nN;have hLB := show acc.length ≤ 1000000 by omega
     refine step_append_lies _ (by rfl) _ _ _ (by rfl) N 3 i0 _ 1 8 Tryz.underlying39 hi0 hz0 hz1 hz2 rfl (by omega) (.slice ua acc.length uc) acc.length (kidVals acc) (by rfl) HKA.out ⟨w5.heap.size, 0, none⟩ 1 1 [.int .i64 (a5 : Int)] (by rfl) (by rfl) (World.news_of_block (cs := #[.int .i64 (a5 : Int)]) (t := 3) (fr := (0, 0)) (heap_alloc_new _ _)) (by intro x hx; simp at hx; subst hx; rfl) (by omega) (by unfold maxLen; omega) (by omega) (by simp; omega) (w5.heap.size + 1) (by simp) ?_;intro g6 cap6 w6 hown hgrow hat hlt;obtain ⟨hg8, hk8, hk9⟩ := HK.out.grown (l2 := [a5]) HG.out hown rfl hgrow hat;replace HB := zh (Bx.same HB.out (hk9 _ HB.out.lt (fun e => own_ne_blk HK.out.row HB.out.blk (by decide) e)));replace HG := zh hg8;replace HK := zh hk8;clear hg8 hk8 hk9 hown hgrow hat hlt HKA hi0 hz0 hz1 hz2 hN3 hLB;refine hK _ _ ?_;clear hK K;refine wpAny_take (i := 6) (v := ?_) rfl (by kernel_rfl) (by kernel_rfl) (by kernel_rfl) (fun _ _ _ h => h) (Or.inl ⟨by rfl, ?_⟩) ?_
     rotate_left
     ·intro w; first | (go_simp; done) | (go_simp; with_reducible rfl)
     refine wpAny_ready (rs := [7]) (by kernel_rfl) (by simp) ?_;refine AllReady.cons rfl (fun K hK => ?_) AllReady.nil;have cHB4 : w6.cell? ⟨w1.heap.size, 4, none⟩ = some (.slice ua acc.length uc) := HB.out.cell 4;have fHB4 := HB.out.free 4;have lHB := HB.out.lt
     go_simp
     refine hK _ _ ?_;clear hK K;clear cHB4 fHB4 lHB;replace HK := zh (HK.out.set HB.out.blk (by decide) 4 (.slice (some ⟨g6, 0, none⟩) (acc.length + 1) cap6));replace HG := zh (HB.out.go HG.out (by decide) 4 (.slice (some ⟨g6, 0, none⟩) (acc.length + 1) cap6));replace HB : Hid (Bx w (w6.setCell ⟨w1.heap.size, 4, none⟩ (.slice (some ⟨g6, 0, none⟩) (acc.length + 1) cap6)) n5 (w1.heap.size) #[.int .i64 15, .int .i64 (t.pos : Int), .int .i64 0, .string ⟨#[]⟩, .slice (some ⟨g6, 0, none⟩) (acc.length + 1) cap6] 41) := zh (HB.out.set 4 (.slice (some ⟨g6, 0, none⟩) (acc.length + 1) cap6));generalize (w6.setCell ⟨w1.heap.size, 4, none⟩ (.slice (some ⟨g6, 0, none⟩) (acc.length + 1) cap6)) = w7 at *;refine wpAny_done (by kernel_rfl) ?_ _;have hlen : (acc ++ [a5]).length = acc.length + 1 := by simp
     replace HM : Hid (programP X n s = (if s5.i < X.toks.length then (Ps.take X Ps.k_semi s5).bind fun _ s2 => Ps.run X m (.decls (acc ++ [a5])) s2 else Ps.run X m (.decls (acc ++ [a5])) s5).bind (progFin t.pos)) := zh (by rw [HM.out, HR5.out]; rfl);go_wp2_with fail
     by_cases hlt : s5.i < X.toks.length
     ·replace HM : Hid (programP X n s = ((Ps.take X Ps.k_semi s5).bind fun _ s2 => Ps.run X m (.decls (acc ++ [a5])) s2).bind (progFin t.pos)) := zh (by rw [HM.out, if_pos hlt]);have wj : decide ((s5.i : Int) < (X.toks.length : Int)) = true := by simp; omega
      refine wp_region_held_drew (S := fun w' => w'.cell? ⟨p, 2, none⟩ = some (.int .i64 (s5.i : Int)) ∧ w'.cell? ⟨p, 1, none⟩ = some (.slice ta X.toks.length tc)) (by kernel_rfl) ⟨HG.out.drew1.st.c2, by rw [← HTA.out]; exact HG.out.drew1.st.c1⟩ (fun hHeld => ?_);replace HB := zh (HB.out.drew);replace HK := zh (HK.out.drew);replace HG := zh (HG.out.drew1);generalize w7.drew = w8 at *;refine tk 0 ?_;refine tk 1 ?_;refine tk 2 ?_;refine tk 3 ?_;refine tk 4 ?_;refine tk 5 ?_;refine tk 6 ?_;refine tk 7 ?_;refine tk 8 ?_;refine tk 9 ?_;refine wpAnyH_done (by kernel_rfl) ?_ _;clear wj;clear hlt;go_wp2_with fail
      refine (sptake_any HG.out.st ⟨#[59]⟩).mono ?_;rintro e w9 hq;rcases hq.parts (take_ne _ _ _) with ⟨c, q, hr, rfl, hb⟩ | ⟨v, s9, n9, E9, hr, rfl, h1, h2, h3⟩
      ·replace hr : Ps.take X Ps.k_semi s5 = _ := hr;have HE : Hid (Out N p X S w tv nv D unitV (programP X n s) (thrownS c q) w9) := zh (HG.out.bad hb (by simp [HM.out, hr, Ps.Res.bind]))
       clear hq hr hb;unfold thrownS;go_wp2
       exact ⟨rfl, HE.out⟩
      replace hr : Ps.take X Ps.k_semi s5 = _ := hr;obtain rfl := (take_ok hr).1;have HR9 := zh hr;replace HK := zh (HK.out.mv HG.out h2 h3);replace HB := zh (HB.out.mv HG.out.pl h2);replace HG := zh (HG.out.then h1 h2 h3);clear hq hr h1 h2 h3;unfold oneV;have HM2 : Hid (programP X n s = (Ps.run X m (.decls (acc ++ [a5])) s9).bind (progFin t.pos)) := zh (by rw [HM.out, HR9.out]; rfl);go_wp2
      go_roundg m
      case rel => exact ⟨acc ++ [a5], s9, n9, _, _, _, HG, by rw [hlen]; exact HK, by rw [hlen]; exact HB, by omega, HM2⟩
      case measure => omega
     ·have HM2 : Hid (programP X n s = (Ps.run X m (.decls (acc ++ [a5])) s5).bind (progFin t.pos)) := zh (by rw [HM.out, if_neg hlt]);have wj : decide ((s5.i : Int) < (X.toks.length : Int)) = false := by simp; omega
      refine wp_region_held_drew (S := fun w' => w'.cell? ⟨p, 2, none⟩ = some (.int .i64 (s5.i : Int)) ∧ w'.cell? ⟨p, 1, none⟩ = some (.slice ta X.toks.length tc)) (by kernel_rfl) ⟨HG.out.drew1.st.c2, by rw [← HTA.out]; exact HG.out.drew1.st.c1⟩ (fun hHeld => ?_);replace HB := zh (HB.out.drew);replace HK := zh (HK.out.drew);replace HG := zh (HG.out.drew1);generalize w7.drew = w10 at *;refine tk 0 ?_;refine tk 1 ?_;refine tk 2 ?_;refine tk 3 ?_;refine tk 4 ?_;refine tk 5 ?_;refine tk 6 ?_;refine tk 7 ?_;refine tk 8 ?_;refine tk 9 ?_;refine wpAnyH_done (by kernel_rfl) ?_ _;clear wj;clear hlt;go_wp2
      go_roundg m
      case rel => exact ⟨acc ++ [a5], s5, n5, _, _, _, HG, by rw [hlen]; exact HK, by rw [hlen]; exact HB, by omega, HM2⟩
      case measure => omega
    ·skip
     go_simp
     refine hK _ _ ?_;clear hK K;refine wpAny_ready (rs := [1]) (by kernel_rfl) (by simp) ?_;refine AllReady.cons rfl (fun K hK => ?_) AllReady.nil;have cHB4 : (w5.alloc (.cells #[.int .i64 (a5 : Int)] 3)).cell? ⟨w1.heap.size, 4, none⟩ = some (.slice ua acc.length uc) := (HB.out.alloc _).cell 4
     go_simp
     refine hK _ _ ?_;clear hK K;clear cHB4;refine wpAny_ready (rs := [5]) (by kernel_rfl) (by simp) ?_;refine AllReady.cons rfl (fun K hK => ?_) AllReady.nil;obtain ⟨i0, hi0, hz0, hz1, hz2⟩ := info_parts int_info;have HKA := zh (HK.out.alloc (.cells #[.int .i64 (a5 : Int)] 3)).row;have hN3 := HG.out.st.nN;have hLB := show acc.length ≤ 1000000 by omega
     refine step_append_lies _ (by rfl) _ _ _ (by rfl) N 3 i0 _ 1 8 Tryz.underlying39 hi0 hz0 hz1 hz2 rfl (by omega) (.slice ua acc.length uc) acc.length (kidVals acc) (by rfl) HKA.out ⟨w5.heap.size, 0, none⟩ 1 1 [.int .i64 (a5 : Int)] (by rfl) (by rfl) (World.news_of_block (cs := #[.int .i64 (a5 : Int)]) (t := 3) (fr := (0, 0)) (heap_alloc_new _ _)) (by intro x hx; simp at hx; subst hx; rfl) (by omega) (by unfold maxLen; omega) (by omega) (by simp; omega) (w5.heap.size + 1) (by simp) ?_;intro g6 cap6 w6 hown hgrow hat hlt;obtain ⟨hg8, hk8, hk9⟩ := HK.out.grown (l2 := [a5]) HG.out hown rfl hgrow hat;replace HB := zh (Bx.same HB.out (hk9 _ HB.out.lt (fun e => own_ne_blk HK.out.row HB.out.blk (by decide) e)));replace HG := zh hg8;replace HK := zh hk8;clear hg8 hk8 hk9 hown hgrow hat hlt HKA hi0 hz0 hz1 hz2 hN3 hLB;refine hK _ _ ?_;clear hK K;refine wpAny_take (i := 6) (v := ?_) rfl (by kernel_rfl) (by kernel_rfl) (by kernel_rfl) (fun _ _ _ h => h) (Or.inl ⟨by rfl, ?_⟩) ?_
     rotate_left
     ·intro w; first | (go_simp; done) | (go_simp; with_reducible rfl)
     refine wpAny_ready (rs := [7]) (by kernel_rfl) (by simp) ?_;refine AllReady.cons rfl (fun K hK => ?_) AllReady.nil;have cHB4 : w6.cell? ⟨w1.heap.size, 4, none⟩ = some (.slice ua acc.length uc) := HB.out.cell 4;have fHB4 := HB.out.free 4;have lHB := HB.out.lt
     go_simp
     refine hK _ _ ?_;clear hK K;clear cHB4 fHB4 lHB;replace HK := zh (HK.out.set HB.out.blk (by decide) 4 (.slice (some ⟨g6, 0, none⟩) (acc.length + 1) cap6));replace HG := zh (HB.out.go HG.out (by decide) 4 (.slice (some ⟨g6, 0, none⟩) (acc.length + 1) cap6));replace HB : Hid (Bx w (w6.setCell ⟨w1.heap.size, 4, none⟩ (.slice (some ⟨g6, 0, none⟩) (acc.length + 1) cap6)) n5 (w1.heap.size) #[.int .i64 15, .int .i64 (t.pos : Int), .int .i64 0, .string ⟨#[]⟩, .slice (some ⟨g6, 0, none⟩) (acc.length + 1) cap6] 41) := zh (HB.out.set 4 (.slice (some ⟨g6, 0, none⟩) (acc.length + 1) cap6));generalize (w6.setCell ⟨w1.heap.size, 4, none⟩ (.slice (some ⟨g6, 0, none⟩) (acc.length + 1) cap6)) = w7 at *;refine wpAny_done (by kernel_rfl) ?_ _;have hlen : (acc ++ [a5]).length = acc.length + 1 := by simp
     replace HM : Hid (programP X n s = (if s5.i < X.toks.length then (Ps.take X Ps.k_semi s5).bind fun _ s2 => Ps.run X m (.decls (acc ++ [a5])) s2 else Ps.run X m (.decls (acc ++ [a5])) s5).bind (progFin t.pos)) := zh (by rw [HM.out, HR5.out]; rfl);go_wp2_with fail
     by_cases hlt : s5.i < X.toks.length
     ·replace HM : Hid (programP X n s = ((Ps.take X Ps.k_semi s5).bind fun _ s2 => Ps.run X m (.decls (acc ++ [a5])) s2).bind (progFin t.pos)) := zh (by rw [HM.out, if_pos hlt]);have wj : decide ((s5.i : Int) < (X.toks.length : Int)) = true := by simp; omega
      refine wp_region_held_drew (S := fun w' => w'.cell? ⟨p, 2, none⟩ = some (.int .i64 (s5.i : Int)) ∧ w'.cell? ⟨p, 1, none⟩ = some (.slice ta X.toks.length tc)) (by kernel_rfl) ⟨HG.out.drew1.st.c2, by rw [← HTA.out]; exact HG.out.drew1.st.c1⟩ (fun hHeld => ?_);replace HB := zh (HB.out.drew);replace HK := zh (HK.out.drew);replace HG := zh (HG.out.drew1);generalize w7.drew = w8 at *;refine tk 0 ?_;refine tk 1 ?_;refine tk 2 ?_;refine tk 3 ?_;refine tk 4 ?_;refine tk 5 ?_;refine tk 6 ?_;refine tk 7 ?_;refine tk 8 ?_;refine tk 9 ?_;refine wpAnyH_done (by kernel_rfl) ?_ _;clear wj;clear hlt;go_wp2_with fail
      refine (sptake_any HG.out.st ⟨#[59]⟩).mono ?_;rintro e w9 hq;rcases hq.parts (take_ne _ _ _) with ⟨c, q, hr, rfl, hb⟩ | ⟨v, s9, n9, E9, hr, rfl, h1, h2, h3⟩
      ·replace hr : Ps.take X Ps.k_semi s5 = _ := hr;have HE : Hid (Out N p X S w tv nv D unitV (programP X n s) (thrownS c q) w9) := zh (HG.out.bad hb (by simp [HM.out, hr, Ps.Res.bind]))
       clear hq hr hb;unfold thrownS;go_wp2
       exact ⟨rfl, HE.out⟩
      replace hr : Ps.take X Ps.k_semi s5 = _ := hr;obtain rfl := (take_ok hr).1;have HR9 := zh hr;replace HK := zh (HK.out.mv HG.out h2 h3);replace HB := zh (HB.out.mv HG.out.pl h2);replace HG := zh (HG.out.then h1 h2 h3);clear hq hr h1 h2 h3;unfold oneV;have HM2 : Hid (programP X n s = (Ps.run X m (.decls (acc ++ [a5])) s9).bind (progFin t.pos)) := zh (by rw [HM.out, HR9.out]; rfl);go_wp2
      go_roundg m
      case rel => exact ⟨acc ++ [a5], s9, n9, _, _, _, HG, by rw [hlen]; exact HK, by rw [hlen]; exact HB, by omega, HM2⟩
      case measure => omega
     ·have HM2 : Hid (programP X n s = (Ps.run X m (.decls (acc ++ [a5])) s5).bind (progFin t.pos)) := zh (by rw [HM.out, if_neg hlt]);have wj : decide ((s5.i : Int) < (X.toks.length : Int)) = false := by simp; omega
      refine wp_region_held_drew (S := fun w' => w'.cell? ⟨p, 2, none⟩ = some (.int .i64 (s5.i : Int)) ∧ w'.cell? ⟨p, 1, none⟩ = some (.slice ta X.toks.length tc)) (by kernel_rfl) ⟨HG.out.drew1.st.c2, by rw [← HTA.out]; exact HG.out.drew1.st.c1⟩ (fun hHeld => ?_);replace HB := zh (HB.out.drew);replace HK := zh (HK.out.drew);replace HG := zh (HG.out.drew1);generalize w7.drew = w10 at *;refine tk 0 ?_;refine tk 1 ?_;refine tk 2 ?_;refine tk 3 ?_;refine tk 4 ?_;refine tk 5 ?_;refine tk 6 ?_;refine tk 7 ?_;refine tk 8 ?_;refine tk 9 ?_;refine wpAnyH_done (by kernel_rfl) ?_ _;clear wj;clear hlt;go_wp2
      go_roundg m
      case rel => exact ⟨acc ++ [a5], s5, n5, _, _, _, HG, by rw [hlen]; exact HK, by rw [hlen]; exact HB, by omega, HM2⟩
      case measure => omega
  ·have HM : Hid (programP X n s = progFin t.pos acc sk) := zh (HPR.out.trans (congrArg (fun r => Ps.Res.bind r (progFin t.pos)) (if_neg hlt)));go_wp2_with fail
   have wj : decide ((sk.i : Int) < (X.toks.length : Int)) = false := by simp; omega
   refine wp_region_held_drew (S := fun w' => w'.cell? ⟨p, 2, none⟩ = some (.int .i64 (sk.i : Int)) ∧ w'.cell? ⟨p, 1, none⟩ = some (.slice ta X.toks.length tc)) (by kernel_rfl) ⟨HG.out.drew1.st.c2, by rw [← HTA.out]; exact HG.out.drew1.st.c1⟩ (fun hHeld => ?_);replace HB := zh (HB.out.drew);replace HK := zh (HK.out.drew);replace HG := zh (HG.out.drew1);generalize wr.drew = w5 at *;refine tk 0 ?_;refine tk 1 ?_;refine tk 2 ?_;refine tk 3 ?_;refine tk 4 ?_;refine tk 5 ?_;refine tk 6 ?_;refine tk 7 ?_;refine tk 8 ?_;refine tk 9 ?_;refine wpAnyH_done (by kernel_rfl) ?_ _;clear wj;clear hlt HPR;have cHB0 : w5.cell? ⟨w1.heap.size, 0, none⟩ = some (.int .i64 15) := HB.out.cell 0;have cHB1 : w5.cell? ⟨w1.heap.size, 1, none⟩ = some (.int .i64 (t.pos : Int)) := HB.out.cell 1;have cHB2 : w5.cell? ⟨w1.heap.size, 2, none⟩ = some (.int .i64 0) := HB.out.cell 2;have cHB3 : w5.cell? ⟨w1.heap.size, 3, none⟩ = some (.string ⟨#[]⟩) := HB.out.cell 3
   have cHB4 : w5.cell? ⟨w1.heap.size, 4, none⟩ = some (.slice ua acc.length uc) := HB.out.cell 4;have lHB := HB.out.lt;go_wp2_with fail
   have HPL : Hid (programP X n s = Ps.put ⟨15, t.pos, 0, [], acc⟩ sk) := zh (by simp [progFin, HM.out]);have hne2 := HNE.out;rw [HPL.out] at hne2;have hf := put_few hne2;have HPI := zh (put_is hne2);clear hne2;refine (spput_any HG.out.st ⟨15, t.pos, 0, [], acc⟩ (.slice ua acc.length uc) HK.out.row hf).mono ?_;rintro e w6 ⟨rfl, n6, h1, h2⟩;have HE : Hid (Out N p X S w tv nv D unitV (programP X n s) (.returned (.tuple #[])) w6) := zh ((HG.out.put h1 h2 HK.out.lo).out (by rw [HPL.out, HPI.out]) rfl);replace HB := zh (HB.out.mv HG.out.pl h2);clear h1 h2;go_wp2
   go_returns
   exact HE.out
end
end Go.Proofs.YtjickecdkmljpaaGreatDoor
