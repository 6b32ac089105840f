/-
  PROVED HERE: the reference's Parse makes of a text what the program's makes of it. No condition beyond the lemmas' own premises.
-/
import Derived.Test.YtjickecdkmljpaaGreatDoorPsTk
import Derived.Test.YtjickecdkmljpaaGreatDoorRsQ8
import Derived.Test.YtjickecdkmljpaaGreatDoorRsA
import Derived.Test.YtjickecdkmljpaaGreatDoorPsParse
namespace Go.Proofs.YtjickecdkmljpaaGreatDoor.R
open Go.RowKit

theorem two_lay {fb : Nat} {f0 f1 : Value} {w : World} (hfb : w.heap[fb]? = some (.cells #[f0, f1] 25 (0, 0))) (c a : Value) :
  ((w.setCell ⟨fb, 0, none⟩ c).setCell ⟨fb, 1, none⟩ a).heap[fb]? = some (.cells #[c, a] 25 (0, 0)) ∧ (∀ B, B ≤ fb → Below B w ((w.setCell ⟨fb, 0, none⟩ c).setCell ⟨fb, 1, none⟩ a)) ∧
  ∀ N e z n x xs, 25 ≠ e → w.ownsRow N e z x n xs → ((w.setCell ⟨fb, 0, none⟩ c).setCell ⟨fb, 1, none⟩ a).ownsRow N e z x n xs :=
 ⟨blk_set (blk_set hfb 0 c) 1 a, fun B h2 => ((Below.refl B w).setCell (p := ⟨fb, 0, none⟩) h2 _).setCell (p := ⟨fb, 1, none⟩) h2 _, fun _N _e _z _n _x _xs h2 h => own_set (own_set h hfb h2.symm) (blk_set hfb 0 c) h2.symm⟩
set_option maxRecDepth 100000 in
set_option maxHeartbeats 1000000 in
theorem rparse_any (hR : Hid (∀ (B : Nat) (w : World) (S : ByteArray), Tabs B w → B ≤ w.heap.size → Calls Tryz.prog 28 #[.string S] w (PScanPost S w))) (HPP : Hid (∀ X S, POk X S 29 unitV (programP X (Ps.fuel + 4)))) (B : Nat) (w : World) (S : ByteArray) (hT : Tabs B w) (hB : B ≤ w.heap.size) : Calls Tryz.prog 9 #[.string S] w (ParsePost S w) := by
 have HT := zh hT;clear hT
 go_enter Tryz.func9, Tryz.ntmps9
 go_wp2_with fail
 obtain ⟨w0, hw0⟩ : ∃ w0 : World, w0 = (w.alloc (.cells #[.int .i64 0, .int .i64 0] 25)) := ⟨_, rfl⟩;have hz0 : w0.heap.size = w.heap.size + 1 := by rw [hw0]; simp
 have HF0 : Hid (w0.heap[w.heap.size]? = some (.cells #[.int .i64 0, .int .i64 0] 25 (0, 0))) := zh (by rw [hw0]; exact blk_new _ _);have HB0 : Hid (Below w.heap.size w w0) := zh (by rw [hw0]; exact ((Below.refl _ _).alloc (Nat.le_refl _) _));rw [← hw0];clear hw0;refine (hR.out B w0 S (HT.out.below HB0.out hB) (by omega)).mono ?_;rintro e w1 ⟨hb1, hs1⟩;have HF1 := zh (blk_below HF0.out hb1 (by omega));have HB1 := zh (HB0.out.trans (hb1.mono (by omega)));have hz1 := hb1.size;clear hb1
 cases hsc : Lx.scan (by_ S) with
 | error x =>
  obtain ⟨c, q⟩ := x;rw [hsc] at hs1;dsimp only at hs1;subst hs1;have hc := scan_code hsc;have HR : Hid (parseR S = .error (c, q)) := zh (by unfold parseR; rw [hsc]);clear hsc;have hcb : (c != 0) = true := by simpa using hc
  have HF2 := zh (blk_alloc HF1.out (.cells #[.int .i64 c, .int .i64 (q : Int)] 25));have HG2 := zh (blk_new w1 (.cells #[.int .i64 c, .int .i64 (q : Int)] 25));have HB2 := zh (HB1.out.alloc (by omega) (.cells #[.int .i64 c, .int .i64 (q : Int)] 25));have hqw : w.heap.size ≠ w1.heap.size := by omega
  go_wp2_with fail
  clear hcb hc;generalize (w1.alloc (.cells #[.int .i64 c, .int .i64 (q : Int)] 25)) = w2 at *;have f0f := blk_free HF2.out 0;have f1f := blk_free HF2.out 1;have f0 := blk_cell HF2.out 0;have f1 := blk_cell HF2.out 1;have g0 := blk_cell HG2.out 0;have g1 := blk_cell HG2.out 1;have hfl := blk_lt HF2.out;have hgl := blk_lt HG2.out;simp only [List.getElem?_toArray, List.getElem?_cons_zero, List.getElem?_cons_succ] at f0 f1 g0 g1;have HL := zh (two_lay HF2.out (.int .i64 c) (.int .i64 (q : Int)))
  go_region
  all_goals
   have HE := zh (parse_bad HR.out ((HB2.out.trans (HL.out.2.1 w.heap.size (Nat.le_refl _)))).drew);have k1 := blk_cell HL.out.1 0;have k2 := blk_cell HL.out.1 1;have k3 := blk_cell (blk_below HL.out.1 ((Below.refl _ _).drew) (blk_lt HL.out.1)) 0;have k4 := blk_cell (blk_below HL.out.1 ((Below.refl _ _).drew) (blk_lt HL.out.1)) 1;have hx2 := blk_lt HL.out.1;simp only [List.getElem?_toArray, List.getElem?_cons_zero, List.getElem?_cons_succ] at k1 k2 k3 k4;clear f0 f1 g0 g1 f0f f1f;generalize ((w2.setCell ⟨w.heap.size, 0, none⟩ (.int .i64 c)).setCell ⟨w.heap.size, 1, none⟩ (.int .i64 (q : Int))) = w5 at *;go_wp2
   (try simp only [Exit.inBlock, Exit.then])
   refine bodyPost_ret (by simp [results, Tryz.results9, go_sem, k3, k4]; try rfl) rfl ?_;exact HE.out
 | ok l =>
  rw [hsc] at hs1;obtain ⟨v, rfl, hv, hl⟩ := hs1;have HSC := zh hsc;have hsm := scan_small hsc;have HWF := zh (Rs.scan_wf hsc);have HV := zh hv;clear hsc hv;obtain ⟨va, vc, hva⟩ := own_slice HV.out rfl;subst hva;have HF2 := zh (blk_alloc HF1.out (.cells #[.int .i64 0, .int .i64 0] 25));have HB2 := zh (HB1.out.alloc (by omega) (.cells #[.int .i64 0, .int .i64 0] 25));have hb2 : Below w1.heap.size w1 (w1.alloc (.cells #[.int .i64 0, .int .i64 0] 25)) := (Below.refl _ _).alloc (Nat.le_refl _) _;have HV2 := zh (show ToksV w0.heap.size (w1.alloc (.cells #[.int .i64 0, .int .i64 0] 25)) (.slice va l.length vc) l from own_below HV.out hb2 (fun k hk => (World.ownsRow.lt HV.out k hk).2));clear hb2;have hz2 : (w1.alloc (.cells #[.int .i64 0, .int .i64 0] 25)).heap.size = w1.heap.size + 1 := by simp
  go_wp2_with fail
  generalize (w1.alloc (.cells #[.int .i64 0, .int .i64 0] 25)) = w2 at *;have hsim := Rs.program_sim (X := ⟨l, S.size⟩) hl HWF.out;have hpn : Ps.program ⟨l, S.size⟩ Ps.fuel ≠ .out := Ps.program_nt (X := ⟨l, S.size⟩) hl;have hb3 : Below w2.heap.size w2 (w2.alloc (.cells #[.string S, .slice va l.length vc, .int .i64 0, .int .i64 0, .slice none 0 0, .int .i64 0, .int .i64 0, .bool false] 67)) := (Below.refl _ _).alloc (Nat.le_refl _) _;have HP : Hid (PSt w0.heap.size (w1.heap.size + 1) (w2.alloc (.cells #[.string S, .slice va l.length vc, .int .i64 0, .int .i64 0, .slice none 0 0, .int .i64 0, .int .i64 0, .bool false] 67)) ⟨l, S.size⟩ S Rs.start (.slice va l.length vc) (.slice none 0 0) []) := zh
   {blk := by rw [← hz2]; exact blk_new _ _
    toks := own_below HV2.out hb3 (fun k hk => (World.ownsRow.lt HV2.out k hk).2)
    nodes := ⟨World.ownsRow_nil _ _ _ _, fun x hx => by cases hx⟩
    eq := rfl
    src := ⟨rfl, by rw [by_size] at hsm; exact hsm, hl⟩
    i := Nat.zero_le _
    many := Nat.zero_le _
    hN := by omega }
  have HF3 := zh (blk_below HF2.out hb3 (by omega));have HB3 := zh (HB2.out.trans (hb3.mono (by omega)));clear hb3;generalize (w2.alloc (.cells #[.string S, .slice va l.length vc, .int .i64 0, .int .i64 0, .slice none 0 0, .int .i64 0, .int .i64 0, .bool false] 67)) = w3 at *;have hne : programP ⟨l, S.size⟩ (Ps.fuel + 4) Rs.start ≠ .out := by
   intro e;have e2 : Rs.program ⟨l, S.size⟩ (Ps.fuel + 4) = .out := e
   cases hq : Ps.program ⟨l, S.size⟩ Ps.fuel with
   | out => exact hpn hq
   | bad c q =>
    rw [hq] at hsim;obtain ⟨v, s, h1, _⟩ := hsim;rw [e2] at h1
    cases h1
   | ok v s =>
    rw [hq] at hsim;have h1 : Rs.program ⟨l, S.size⟩ (Ps.fuel + 4) = .ok v (Rs.em s) := hsim;rw [e2] at h1
    cases h1
  refine (HPP.out ⟨l, S.size⟩ S w0.heap.size (w1.heap.size + 1) w3 Rs.start _ _ [] HP.out hne).mono ?_;rintro e w4 hq;obtain ⟨v, s', nv', E, hr, rfl, h1, h2, h3⟩ := hq.parts hne;have hr2 : Rs.program ⟨l, S.size⟩ (Ps.fuel + 4) = .ok v s' := hr;rw [List.nil_append] at h1;have HP4 := zh h1;have HF4 := zh (blk_below HF3.out h2.below (by omega));have HB4 := zh (HB3.out.trans (h2.below.mono (by omega)));unfold unitV;have d7 := HP4.out.c7;have d5 := HP4.out.c5;have d6 := HP4.out.c6;have d4 := HP4.out.c4;have hpl := HP4.out.lt;have f0f := blk_free HF4.out 0;have f1f := blk_free HF4.out 1;have f0 := blk_cell HF4.out 0;have f1 := blk_cell HF4.out 1;have hfl := blk_lt HF4.out;simp only [List.getElem?_toArray, List.getElem?_cons_zero, List.getElem?_cons_succ] at f0 f1;obtain ⟨na, nc, hna⟩ := own_slice HP4.out.nodes.row rfl;subst hna;clear hq hr h1 h2 h3 hne
  cases hq : Ps.program ⟨l, S.size⟩ Ps.fuel with
  | out => exact absurd hq hpn
  | bad c q =>
   rw [hq] at hsim;obtain ⟨v2, s2, g1, g2⟩ := hsim;rw [hr2] at g1
   cases g1
   have hw := g2.w;have HR : Hid (parseR S = .error (c, q)) := zh (parseR_bad HSC.out hq);rw [show Rs.isWrong s' = true from g2.wrong] at d7;rw [show wc s' = c by unfold wc; rw [hw]; rfl] at d5;rw [show wp s' = q by unfold wp; rw [hw]; rfl] at d6;clear hq hr2 g2 hw hpn hsm hl;have HL := zh (two_lay HF4.out (.int .i64 c) (.int .i64 (q : Int)));go_wp2_with fail
   go_region
   all_goals
    have HE := zh (parse_bad HR.out ((HB4.out.trans (HL.out.2.1 w.heap.size (Nat.le_refl _)))).drew);have k1 := blk_cell HL.out.1 0;have k2 := blk_cell HL.out.1 1;have k3 := blk_cell (blk_below HL.out.1 ((Below.refl _ _).drew) (blk_lt HL.out.1)) 0;have k4 := blk_cell (blk_below HL.out.1 ((Below.refl _ _).drew) (blk_lt HL.out.1)) 1;have hx2 := blk_lt HL.out.1;simp only [List.getElem?_toArray, List.getElem?_cons_zero, List.getElem?_cons_succ] at k1 k2 k3 k4;clear f0 f1 f0f f1f d4 d5 d6 d7;generalize ((w4.setCell ⟨w.heap.size, 0, none⟩ (.int .i64 c)).setCell ⟨w.heap.size, 1, none⟩ (.int .i64 (q : Int))) = w5 at *;go_wp2
    (try simp only [Exit.inBlock, Exit.then])
    refine bodyPost_ret (by simp [results, Tryz.results9, go_sem, k3, k4]; try rfl) rfl ?_;exact HE.out
  | ok v2 s2 =>
   rw [hq] at hsim;have g1 : Rs.program ⟨l, S.size⟩ (Ps.fuel + 4) = .ok v2 (Rs.em s2) := hsim;rw [hr2] at g1
   cases g1
   have hEs : s2.nodes.length = E.length := by rw [show s2.nodes = E.map (·.1) from HP4.out.eq, List.length_map]
   rw [show Rs.isWrong (Rs.em s2) = false from rfl] at d7;have HRR := zh hq;clear hq hr2 hpn
   by_cases hf : 1200 < E.length
   ·have hgt : decide ((1200 : Int) < (E.length : Int)) = true := by simp; omega
    have HR : Hid (parseR S = .error (5, S.size)) := zh (parseR_full HSC.out HRR.out (by omega));clear hf;go_wp2
    have HL := zh (two_lay HF4.out (.int .i64 5) (.int .i64 (S.size : Int)));have HE := zh (parse_bad HR.out (HB4.out.trans (HL.out.2.1 w.heap.size (Nat.le_refl _))));have k1 := blk_cell HL.out.1 0;have k2 := blk_cell HL.out.1 1;have hx2 := blk_lt HL.out.1;simp only [List.getElem?_toArray, List.getElem?_cons_zero, List.getElem?_cons_succ] at k1 k2;clear f0 f1 f0f f1f d4 d5 d6 d7;generalize ((w4.setCell ⟨w.heap.size, 0, none⟩ (.int .i64 5)).setCell ⟨w.heap.size, 1, none⟩ (.int .i64 (S.size : Int))) = w5 at *
    (try simp only [Exit.inBlock, Exit.then])
    refine bodyPost_ret (by simp [results, Tryz.results9, go_sem, k1, k2]; try rfl) rfl ?_;exact HE.out
   ·have hgt : decide ((1200 : Int) < (E.length : Int)) = false := by simp; omega
    have HR : Hid (parseR S = .ok (E.map (·.1))) := zh (by rw [← show s2.nodes = E.map (·.1) from HP4.out.eq]; exact parseR_ok HSC.out HRR.out (by omega));have HFL := zh (show E.length ≤ 1200 by omega);clear hf;go_wp2
    have HL := zh (two_lay HF4.out (.int .i64 0) (.int .i64 0));have HV : Hid (NodesV w.heap.size ((w4.setCell ⟨w.heap.size, 0, none⟩ (.int .i64 0)).setCell ⟨w.heap.size, 1, none⟩ (.int .i64 0)) (.slice na E.length nc) E) := zh (by
     refine ⟨?_, fun x hx => ?_⟩
     ·exact owns_base (HL.out.2.2 _ _ _ _ _ _ (by decide) HP4.out.nodes.row) (by omega)
     ·exact owns_base (HL.out.2.2 _ _ _ _ _ _ (by decide) (HP4.out.nodes.kids x hx)) (by omega))
    have HE := zh (parse_ok HR.out (HB4.out.trans (HL.out.2.1 w.heap.size (Nat.le_refl _))) HV.out HFL.out);have k1 := blk_cell HL.out.1 0;have k2 := blk_cell HL.out.1 1;have hx2 := blk_lt HL.out.1;simp only [List.getElem?_toArray, List.getElem?_cons_zero, List.getElem?_cons_succ] at k1 k2;clear f0 f1 f0f f1f d4 d5 d6 d7;generalize ((w4.setCell ⟨w.heap.size, 0, none⟩ (.int .i64 0)).setCell ⟨w.heap.size, 1, none⟩ (.int .i64 0)) = w5 at *
    (try simp only [Exit.inBlock, Exit.then])
    refine bodyPost_ret (by simp [results, Tryz.results9, go_sem, k1, k2]; try rfl) rfl ?_;exact HE.out
end Go.Proofs.YtjickecdkmljpaaGreatDoor.R
