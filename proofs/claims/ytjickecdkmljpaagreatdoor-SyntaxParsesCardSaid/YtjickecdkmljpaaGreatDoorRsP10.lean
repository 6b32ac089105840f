/-
  PROVED HERE: the reference's parser: levels of signs, expressions. No condition beyond the lemmas' own premises. (Printed by psr.py.)
-/
import Derived.Test.YtjickecdkmljpaaGreatDoorPsTk
import Derived.Test.YtjickecdkmljpaaGreatDoorRsP9
namespace Go.Proofs.YtjickecdkmljpaaGreatDoor.R
open Go.RowKit

section
variable {N p : Nat} {w : World} {X : Ps.Src} {S : ByteArray} {s : Rs.St} {tv nv : Value} {D : List (Ps.Nd × Value)}
theorem lev_lt {X : Ps.Src} {s : Rs.St} (h : 0 < Rs.lev X s) : s.p.i < X.toks.length := by
 refine Classical.byContradiction fun hn => ?_
 unfold Rs.lev Rs.now Ps.now Ps.noTok at h;rw [List.getD_eq_getElem?_getD, List.getElem?_eq_none (by omega)] at h;simp at h
set_option maxRecDepth 100000 in
set_option maxHeartbeats 4000000 in
theorem level_any (x : ByteArray) (w : World) : Calls Tryz.prog 121 #[.string x] w fun e w' => e = .returned (.int .i64 (Ps.levT (by_ x) : Int)) ∧ w = w' := by
 cases hb1 : (x.toList == [124, 124]) with
 | true =>
  have HK : Hid (by_ x = [124, 124]) := zh ((by_toList x).symm.trans (eq_of_beq hb1))
  go_enter Tryz.func121, Tryz.ntmps121
  go_wp2
  go_returns
  exact ⟨by rw [HK.out]; rfl, rfl⟩
 | false =>
  cases hb2 : (x.toList == [38, 38]) with
  | true =>
   have HK : Hid (by_ x = [38, 38]) := zh ((by_toList x).symm.trans (eq_of_beq hb2))
   go_enter Tryz.func121, Tryz.ntmps121
   go_wp2
   go_returns
   exact ⟨by rw [HK.out]; rfl, rfl⟩
  | false =>
   cases hb3 : (x.toList == [61, 61]) with
   | true =>
    have HK : Hid (by_ x = [61, 61]) := zh ((by_toList x).symm.trans (eq_of_beq hb3))
    go_enter Tryz.func121, Tryz.ntmps121
    go_wp2
    go_returns
    exact ⟨by rw [HK.out]; rfl, rfl⟩
   | false =>
    cases hb4 : (x.toList == [33, 61]) with
    | true =>
     have HK : Hid (by_ x = [33, 61]) := zh ((by_toList x).symm.trans (eq_of_beq hb4))
     go_enter Tryz.func121, Tryz.ntmps121
     go_wp2
     go_returns
     exact ⟨by rw [HK.out]; rfl, rfl⟩
    | false =>
     cases hb5 : (x.toList == [60]) with
     | true =>
      have HK : Hid (by_ x = [60]) := zh ((by_toList x).symm.trans (eq_of_beq hb5))
      go_enter Tryz.func121, Tryz.ntmps121
      go_wp2
      go_returns
      exact ⟨by rw [HK.out]; rfl, rfl⟩
     | false =>
      cases hb6 : (x.toList == [60, 61]) with
      | true =>
       have HK : Hid (by_ x = [60, 61]) := zh ((by_toList x).symm.trans (eq_of_beq hb6))
       go_enter Tryz.func121, Tryz.ntmps121
       go_wp2
       go_returns
       exact ⟨by rw [HK.out]; rfl, rfl⟩
      | false =>
       cases hb7 : (x.toList == [62]) with
       | true =>
        have HK : Hid (by_ x = [62]) := zh ((by_toList x).symm.trans (eq_of_beq hb7))
        go_enter Tryz.func121, Tryz.ntmps121
        go_wp2
        go_returns
        exact ⟨by rw [HK.out]; rfl, rfl⟩
       | false =>
        cases hb8 : (x.toList == [62, 61]) with
        | true =>
         have HK : Hid (by_ x = [62, 61]) := zh ((by_toList x).symm.trans (eq_of_beq hb8))
         go_enter Tryz.func121, Tryz.ntmps121
         go_wp2
         go_returns
         exact ⟨by rw [HK.out]; rfl, rfl⟩
        | false =>
         cases hb9 : (x.toList == [43]) with
         | true =>
          have HK : Hid (by_ x = [43]) := zh ((by_toList x).symm.trans (eq_of_beq hb9))
          go_enter Tryz.func121, Tryz.ntmps121
          go_wp2
          go_returns
          exact ⟨by rw [HK.out]; rfl, rfl⟩
         | false =>
          cases hb10 : (x.toList == [45]) with
          | true =>
           have HK : Hid (by_ x = [45]) := zh ((by_toList x).symm.trans (eq_of_beq hb10))
           go_enter Tryz.func121, Tryz.ntmps121
           go_wp2
           go_returns
           exact ⟨by rw [HK.out]; rfl, rfl⟩
          | false =>
           cases hb11 : (x.toList == [42]) with
           | true =>
            have HK : Hid (by_ x = [42]) := zh ((by_toList x).symm.trans (eq_of_beq hb11))
            go_enter Tryz.func121, Tryz.ntmps121
            go_wp2
            go_returns
            exact ⟨by rw [HK.out]; rfl, rfl⟩
           | false =>
            cases hb12 : (x.toList == [47]) with
            | true =>
             have HK : Hid (by_ x = [47]) := zh ((by_toList x).symm.trans (eq_of_beq hb12))
             go_enter Tryz.func121, Tryz.ntmps121
             go_wp2
             go_returns
             exact ⟨by rw [HK.out]; rfl, rfl⟩
            | false =>
             cases hb13 : (x.toList == [37]) with
             | true =>
              have HK : Hid (by_ x = [37]) := zh ((by_toList x).symm.trans (eq_of_beq hb13))
              go_enter Tryz.func121, Tryz.ntmps121
              go_wp2
              go_returns
              exact ⟨by rw [HK.out]; rfl, rfl⟩
             | false =>
              have HK : Hid (Ps.levT (by_ x) = 0) := zh (by rw [← by_toList]; unfold Ps.levT Ps.opRows; simp only [List.getD_cons_zero, List.getD_cons_succ, List.any_cons, List.any_nil, hb1, hb2, hb3, hb4, hb5, hb6, hb7, hb8, hb9, hb10, hb11, hb12, hb13]; rfl)
              go_enter Tryz.func121, Tryz.ntmps121
              go_wp2
              go_returns
              exact ⟨by rw [HK.out]; rfl, rfl⟩
set_option maxRecDepth 100000 in
set_option maxHeartbeats 1000000 in
theorem rpexpr_any (n k : Nat) (HU : Hid (POk X S 243 oneV (Rs.run X n .unary))) (HX : Hid (∀ m, m < n → ∀ j : Nat, NumOk X S 205 (j : Int) (Rs.run X m (.expr j)))) : NumOk X S 205 (k : Int) (Rs.run X (n + 1) (.expr k)) := by
 intro N p w s tv nv D h hne;have HG := zh (Go.start h);have HNE := zh hne;have HPE : Hid (Rs.run X (n + 1) (.expr k) s = (Rs.run X n .unary s).bind fun e s1 => Rs.run X n (.climb k (e.getD 0 0)) s1) := zh rfl;clear h hne
 go_enter Tryz.func205, Tryz.ntmps205
 have kp0 : decide ((0 : Int) ≤ (k : Int)) = true := by simp
 go_wp2_with fail
 refine (HU.out _ _ _ _ _ _ _ HG.out.st (fun e => HNE.out (by simp [HPE.out, e, Rs.take, Rs.enter, Rs.leave, Rs.name, Rs.with_, Rs.bind_ok, Rs.Res.bind]))).mono ?_;rintro e w1 hq;obtain ⟨v, s1, n1, E1, hr, rfl, h1, h2, h3⟩ := hq.parts (fun e => HNE.out (by simp [HPE.out, e, Rs.take, Rs.enter, Rs.leave, Rs.name, Rs.with_, Rs.bind_ok, Rs.Res.bind]));obtain ⟨a1, rfl⟩ := Rs.run_ones X n .unary rfl _ _ _ hr;have HR1 := zh hr;clear hr;replace HG := zh (HG.out.then h1 h2 h3);clear hq h1 h2 h3;unfold oneV;have HPR : Hid (Rs.run X (n + 1) (.expr k) s = Rs.run X n (.climb k a1) s1) := zh (by rw [HPE.out, HR1.out]; rfl);go_wp2_with fail
 go_loopg [5] n (fun m e wr => ∃ (a : Nat) (sk : Rs.St) (nk : Value) (E : List (Ps.Nd × Value)), e = .int .i64 (a : Int) ∧ Hid (Go N p X S w tv nv D wr sk nk E) ∧ m ≤ n ∧ Hid (Rs.run X (n + 1) (.expr k) s = Rs.run X m (.climb k a) sk))
 case atStart => exact ⟨a1, s1, n1, _, rfl, HG, Nat.le_refl _, HPR⟩
 case round =>
  clear HG HPR HR1 HPE;obtain ⟨a, sk, nk, E, rfl, HG, hm, HPR⟩ := hrel;obtain ⟨m, rfl⟩ : ∃ m, gk = m + 1 := by
   cases gk with
   | zero => exact absurd HPR.out HNE.out
   | succ m => exact ⟨m, rfl⟩
  have hmn : m < n := by omega
  obtain ⟨wb, hwb⟩ : ∃ b, Rs.isWrong sk = b := ⟨_, rfl⟩;have KW := zh hwb
  cases wb with
  | true =>
   have HM : Hid (Rs.run X (n + 1) (.expr k) s = .ok [a] sk) := zh (HPR.out.trans (if_pos hwb));clear hwb HPR;have c7 : wr.cell? ⟨p, 7, none⟩ = some (.bool true) := by rw [← KW.out]; exact HG.out.st.c7
   have l7 := HG.out.st.lt;have HE : Hid (Out N p X S w tv nv D oneV (Rs.run X (n + 1) (.expr k) s) (.returned (.int .i64 (a : Int))) wr) := zh (HG.out.out (v := [a]) HM.out rfl);go_wp2
   go_returns
   exact HE.out
  | false =>
   have HP1 : Hid (Rs.run X (n + 1) (.expr k) s = if k < Rs.lev X sk then (Rs.run X m (.expr (Rs.lev X sk)) (Rs.adv sk)).bind fun b s1 => (Rs.put ⟨46, (Rs.now X sk).pos, 0, (Rs.now X sk).text, a :: b⟩ s1).bind fun e s2 => Rs.run X m (.climb k (e.getD 0 0)) s2 else .ok [a] sk) := zh (HPR.out.trans (if_neg (by rw [hwb]; simp)));clear hwb HPR;have c7 : wr.cell? ⟨p, 7, none⟩ = some (.bool false) := by rw [← KW.out]; exact HG.out.st.c7
   have l7 := HG.out.st.lt;go_wp2_with fail
   clear c7 l7;refine (rpnow_any HG.out.st).mono ?_;rintro e w2 ⟨rfl, hb⟩;replace HG := zh (HG.out.new hb);clear hb;generalize hnow : Rs.now X sk = t at *;have HNOWt := zh hnow;clear hnow;unfold tokVal tokCells;have HBt := zh (Bx.new HG.out #[.int .i64 t.kind, .string (str t.text), .int .i64 t.num, .int .i64 (t.pos : Int)] 95);replace HG := zh (HG.out.alloc (.cells #[.int .i64 t.kind, .string (str t.text), .int .i64 t.num, .int .i64 (t.pos : Int)] 95))
   by_cases hk3 : t.kind = 3
   ·have k3 : (t.kind == 3) = true := by simp [hk3]
    have HLV : Hid (Ps.levT (by_ (str t.text)) = Rs.lev X sk) := zh (by unfold Rs.lev; rw [HNOWt.out, if_pos hk3, by_str]; rfl);clear hk3;go_wp2_with fail
    clear k3;generalize (w2.alloc (.cells #[.int .i64 t.kind, .string (str t.text), .int .i64 t.num, .int .i64 (t.pos : Int)] 95)) = w3 at *;refine (level_any (str t.text) _).mono ?_;rintro e w9 ⟨rfl, rfl⟩;rw [HLV.out];obtain ⟨lv, hlv⟩ : ∃ l, Rs.lev X sk = l := ⟨_, rfl⟩;rw [hlv];have HL := zh hlv;clear hlv
    by_cases hle : k < lv
    ·have HM : Hid (Rs.run X (n + 1) (.expr k) s = (Rs.run X m (.expr lv) (Rs.adv sk)).bind fun b s1 => (Rs.put ⟨46, t.pos, 0, t.text, a :: b⟩ s1).bind fun e s2 => Rs.run X m (.climb k (e.getD 0 0)) s2) := zh (by rw [HP1.out, HL.out, if_pos hle]);have hlt : sk.p.i < X.toks.length := lev_lt (by rw [HL.out]; omega)
     have kle : decide (lv ≤ k) = false := by simp; omega
     clear hle;have ii0 : sk.p.i + 1 ≤ X.toks.length := by omega
     have ii1 := HG.out.st.src.few;have dc := HG.out.st.c2;have df := HG.out.st.free 2;have dl := HG.out.st.lt;have iw : IntKind.i64.wrap ((sk.p.i : Int) + 1) = (sk.p.i : Int) + 1 := IntWalk.i64_in _ (by omega);replace HBt := zh (HBt.out.farP HG.out.pl 2 (.int .i64 ((sk.p.i : Int) + 1)));replace HG : Hid (Go N p X S w tv nv D (w3.setCell ⟨p, 2, none⟩ (.int .i64 ((sk.p.i : Int) + 1))) (Rs.adv sk) nk _) := zh (HG.out.adv ii0);go_wp2_with fail
     clear dc df dl ii0 ii1 iw kle;generalize (w3.setCell ⟨p, 2, none⟩ (.int .i64 ((sk.p.i : Int) + 1))) = w4 at *;refine (HX.out m hmn lv _ _ _ _ _ _ _ HG.out.st (fun e => HNE.out (by simp [HM.out, HNOWt.out, e, Rs.take, Rs.enter, Rs.leave, Rs.name, Rs.with_, Rs.bind_ok, Rs.Res.bind]))).mono ?_;rintro e w5 hq;obtain ⟨v, s5, n5, E5, hr, rfl, h1, h2, h3⟩ := hq.parts (fun e => HNE.out (by simp [HM.out, HNOWt.out, e, Rs.take, Rs.enter, Rs.leave, Rs.name, Rs.with_, Rs.bind_ok, Rs.Res.bind]));obtain ⟨a5, rfl⟩ := Rs.run_ones X m (.expr lv) rfl _ _ _ hr;have HR5 := zh hr;clear hr;replace HBt := zh (HBt.out.mv HG.out.pl h2);replace HG := zh (HG.out.then h1 h2 h3);clear hq h1 h2 h3;unfold oneV;have cHBt1 : w5.cell? ⟨w2.heap.size, 1, none⟩ = some (.string (str t.text)) := HBt.out.cell 1;have cHBt3 : w5.cell? ⟨w2.heap.size, 3, none⟩ = some (.int .i64 (t.pos : Int)) := HBt.out.cell 3;have lHBt := HBt.out.lt
     go_wp2_with fail
     clear cHBt1 cHBt3 lHBt;have HA : Hid (Kd N w (w5.alloc (.cells #[.int .i64 (a : Int), .int .i64 (a5 : Int)] 3)) _ (.slice (some ⟨w5.heap.size, 0, none⟩) 2 2) [a, a5]) := zh (Kd.new HG.out [a, a5] (by simp));replace HG := zh (HG.out.alloc (.cells #[.int .i64 (a : Int), .int .i64 (a5 : Int)] 3));replace HBt := zh (HBt.out.alloc (.cells #[.int .i64 (a : Int), .int .i64 (a5 : Int)] 3));generalize hw6 : (w5.alloc (.cells #[.int .i64 (a : Int), .int .i64 (a5 : Int)] 3)) = w6 at *;have hkl6 : w5.heap.size < w6.heap.size := by rw [← hw6]; simp
     clear hw6;go_wp2_with fail
     have hpn : Rs.put ⟨46, t.pos, 0, t.text, [a, a5]⟩ s5 ≠ .out := fun e => HNE.out (by simp [HM.out, HNOWt.out, HR5.out, e, Rs.take, Rs.enter, Rs.leave, Rs.name, Rs.with_, Rs.bind_ok, Rs.Res.bind])
     have hf := put_few hpn;have HP7 := zh (put_is hpn);clear hpn;refine (rpput_any HG.out.st ⟨46, t.pos, 0, t.text, [a, a5]⟩ (.slice (some ⟨w5.heap.size, 0, none⟩) 2 2) HA.out.row hf).mono ?_;rintro e w7 ⟨rfl, n7, h1, h2⟩;replace HBt := zh (HBt.out.mv HG.out.pl h2);replace HG := zh (HG.out.put_ h1 h2 HA.out.lo);clear h1 h2 hf;have HM2 : Hid (Rs.run X (n + 1) (.expr k) s = Rs.run X m (.climb k s5.p.nodes.length) (putSt ⟨46, t.pos, 0, t.text, [a, a5]⟩ s5)) := zh (by simp [HM.out, HNOWt.out, HR5.out, HP7.out, Rs.take, Rs.enter, Rs.leave, Rs.name, Rs.with_, Rs.bind_ok, Rs.Res.bind]);go_wp2
     go_roundg m
     case rel => exact ⟨_, _, _, _, rfl, HG, by omega, HM2⟩
     case measure => omega
    ·have HM : Hid (Rs.run X (n + 1) (.expr k) s = .ok [a] sk) := zh (by rw [HP1.out, HL.out, if_neg hle]);have kle : decide (lv ≤ k) = true := by simp; omega
     clear hle;have HE : Hid (Out N p X S w tv nv D oneV (Rs.run X (n + 1) (.expr k) s) (.returned (.int .i64 (a : Int))) w3) := zh (HG.out.out (v := [a]) HM.out rfl);go_wp2
     go_returns
     exact HE.out
   ·have k3 : (t.kind == 3) = false := by simpa using hk3
    have HM : Hid (Rs.run X (n + 1) (.expr k) s = .ok [a] sk) := zh (by rw [HP1.out, if_neg]; unfold Rs.lev; rw [HNOWt.out, if_neg hk3]; omega);clear hk3;have HE : Hid (Out N p X S w tv nv D oneV (Rs.run X (n + 1) (.expr k) s) (.returned (.int .i64 (a : Int))) (w2.alloc (.cells #[.int .i64 t.kind, .string (str t.text), .int .i64 t.num, .int .i64 (t.pos : Int)] 95))) := zh (HG.out.out (v := [a]) HM.out rfl);go_wp2
    go_returns
    exact HE.out
end
end Go.Proofs.YtjickecdkmljpaaGreatDoor.R
