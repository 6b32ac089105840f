/-
  PROVED HERE: the reference's parser: the token behind, what ends a case, what begins a type. No condition beyond the lemmas' own premises. (Printed by psr.py.)
-/
import Derived.Test.YtjickecdkmljpaaGreatDoorPsTk
import Derived.Test.YtjickecdkmljpaaGreatDoorRsB
namespace Go.Proofs.YtjickecdkmljpaaGreatDoor.R
open Go.RowKit

section
variable {N p : Nat} {w : World} {X : Ps.Src} {S : ByteArray} {s : Rs.St} {tv nv : Value} {D : List (Ps.Nd × Value)}
set_option maxRecDepth 100000 in
set_option maxHeartbeats 2000000 in
theorem rpnext_any (h : PSt N p w X S s tv nv D) (Y : ByteArray) (b : Bool) (hb : Hid (Rs.nextK X s (by_ Y) = b)) : Calls Tryz.prog 209 #[.pointer (some ⟨p, 0, none⟩), .string Y] w fun e w' => e = .returned (.bool b) ∧ Below w.heap.size w w' := by
 have HG := zh (Go.start h);clear h
 go_enter Tryz.func209, Tryz.ntmps209
 go_wp2_with fail
 obtain ⟨j, hj⟩ : ∃ j, j = s.p.i + 1 := ⟨_, rfl⟩;have jf := HG.out.st.src.few;have ji := HG.out.st.i;have wrj : IntKind.i64.wrap ((s.p.i : Int) + 1) = (j : Int) := by rw [hj]; exact IntWalk.i64_in _ (by omega)
 have dl := HG.out.st.lt
 by_cases hjn : j < X.toks.length
 ·obtain ⟨g, gc, hg⟩ := own_lit HG.out.st.toks (by omega);have HTA := zh hg
  clear hg;subst hj;have hjn2 : s.p.i + 1 < X.toks.length := hjn;have wj0 : (0 : Int) ≤ (s.p.i : Int) + 1 := by omega
  have wj1 : (s.p.i : Int) + 1 < (X.toks.length : Int) := by omega
  have wj3 : decide ((s.p.i : Int) + 1 < (X.toks.length : Int)) = true := by simp; omega
  have ht : ((str (X.toks.getD (s.p.i + 1) (Ps.noTok X)).text).toList == Y.toList) = b := by
   rw [← hb.out, by_toList, by_toList, by_str];unfold Rs.nextK Ps.nextK;simp [hjn2]
  have htk := HG.out.drew1.st.toks;rw [HTA.out] at htk;refine wp_region_held_drew (S := fun w' => w'.cell? ⟨p, 2, none⟩ = some (.int .i64 (s.p.i : Int)) ∧ w'.cell? ⟨p, 1, none⟩ = some (.slice (some ⟨g, 0, none⟩) X.toks.length gc) ∧ w'.cell? ⟨g, (s.p.i + 1) * 4 + 1, none⟩ = some (.string (str (X.toks.getD (s.p.i + 1) (Ps.noTok X)).text))) (by kernel_rfl) ⟨HG.out.drew1.st.c2, by rw [← HTA.out]; exact HG.out.drew1.st.c1, (toks_get htk hjn2 (Ps.noTok X)).2.1⟩ (fun hHeld => ?_);have HBW := zh ((Below.refl w.heap.size w).drew);clear htk HG;generalize w.drew = w2 at *;generalize (X.toks.getD (s.p.i + 1) (Ps.noTok X)).text = tx at *;refine tk 0 ?_;refine tk 1 ?_;refine tk 2 ?_;refine tk 3 ?_;refine tk 4 ?_;refine tk 5 ?_;refine tk 6 ?_;refine tk 7 ?_;refine tk 8 ?_;refine tk 9 ?_;refine tk 10 ?_;refine tk 11 ?_;refine tk 12 ?_;refine tk 13 ?_;refine tk 14 ?_;refine tk 15 ?_;refine tk 16 ?_;refine tk 17 ?_
  refine tk 18 ?_;refine tk 19 ?_;refine tk 20 ?_;refine tk 21 ?_;refine tk 22 ?_;refine tk 23 ?_;refine tk 24 ?_;refine tk 25 ?_;refine tk 26 ?_;refine tk 27 ?_;refine wpAnyH_done (by kernel_rfl) ?_ _;go_wp2
  go_returns
  exact ⟨by first | rfl | (rw [ht]), HBW.out⟩
 ·obtain rfl : false = b := by rw [← hb.out]; unfold Rs.nextK Ps.nextK; rw [← hj]; simp [hjn]
  obtain ⟨ta, tc, hta⟩ := own_slice HG.out.st.toks rfl;have HTA := zh hta;clear hta;have wj3 : decide ((s.p.i : Int) + 1 < (X.toks.length : Int)) = false := by simp; omega
  refine wp_region_held_drew (S := fun w' => w'.cell? ⟨p, 2, none⟩ = some (.int .i64 (s.p.i : Int)) ∧ w'.cell? ⟨p, 1, none⟩ = some (.slice ta X.toks.length tc)) (by kernel_rfl) ⟨HG.out.drew1.st.c2, by rw [← HTA.out]; exact HG.out.drew1.st.c1⟩ (fun hHeld => ?_);have HBW := zh ((Below.refl w.heap.size w).drew);clear HG;generalize w.drew = w2 at *;refine tk 0 ?_;refine tk 1 ?_;refine tk 2 ?_;refine tk 3 ?_;refine tk 4 ?_;refine tk 5 ?_;refine tk 6 ?_;refine tk 7 ?_;refine tk 8 ?_;refine tk 9 ?_;refine tk 10 ?_;refine tk 11 ?_;refine tku 12 ?_;refine tku 13 ?_;refine tku 14 ?_;refine tku 15 ?_;refine tku 16 ?_;refine tku 17 ?_;refine tku 18 ?_;refine tku 19 ?_;refine tku 20 ?_;refine tku 21 ?_;refine tku 22 ?_;refine tku 23 ?_;refine tku 24 ?_;refine tku 25 ?_;refine tk 26 ?_;refine tk 27 ?_;refine wpAnyH_done (by kernel_rfl) ?_ _;go_wp2
  go_returns
  exact ⟨rfl, HBW.out⟩
set_option maxRecDepth 100000 in
set_option maxHeartbeats 1000000 in
theorem rpends_any (h : PSt N p w X S s tv nv D) (b : Bool) (hb : Hid (Rs.endsC X s = b)) : Calls Tryz.prog 244 #[.pointer (some ⟨p, 0, none⟩)] w fun e w' => e = .returned (.bool b) ∧ Below w.heap.size w w' := by
 have HS := zh h;clear h;obtain ⟨a1, h1⟩ : ∃ a, Rs.isK X s Ps.k_case_ = a := ⟨_, rfl⟩;obtain ⟨a2, h2⟩ : ∃ a, Rs.isK X s Ps.k_dflt = a := ⟨_, rfl⟩;obtain ⟨a3, h3⟩ : ∃ a, Rs.isK X s Ps.k_rb = a := ⟨_, rfl⟩;have HB : Hid (b = (a1 || a2 || a3)) := zh (by rw [← hb.out]; unfold Rs.endsC; rw [h1, h2, h3]);have K1 := zh h1;have K2 := zh h2;have K3 := zh h3;clear h1 h2 h3
 go_enter Tryz.func244, Tryz.ntmps244
 go_wp2_with fail
 refine (rpis_is HS.out ⟨#[99, 97, 115, 101]⟩ a1 K1).mono ?_;rintro e w1 ⟨rfl, hb1⟩;have HB1 := zh hb1;have HS1 := zh (HS.out.below hb1);clear hb1;go_wp2_with fail
 refine (rpis_is HS1.out ⟨#[100, 101, 102, 97, 117, 108, 116]⟩ a2 K2).mono ?_;rintro e w2 ⟨rfl, hb1⟩;have HB2 := zh (HB1.out.trans (hb1.mono HB1.out.size));have HS2 := zh (HS1.out.below hb1);clear hb1;go_wp2_with fail
 refine (rpis_is HS2.out ⟨#[125]⟩ a3 K3).mono ?_;rintro e w3 ⟨rfl, hb1⟩;have HB3 := zh (HB2.out.trans (hb1.mono HB2.out.size));clear hb1 K1 K2 K3
 cases a1 with
 | true =>
  go_wp2
  go_returns
  exact ⟨by rw [HB.out]; rfl, HB3.out⟩
 | false =>
  cases a2 with
  | true =>
   go_wp2
   go_returns
   exact ⟨by rw [HB.out]; rfl, HB3.out⟩
  | false =>
   go_wp2
   go_returns
   exact ⟨by rw [HB.out]; cases a3 <;> rfl, HB3.out⟩
set_option maxRecDepth 100000 in
set_option maxHeartbeats 1000000 in
theorem rpbegins_any (h : PSt N p w X S s tv nv D) (b : Bool) (hb : Hid (Rs.begins X s = b)) : Calls Tryz.prog 160 #[.pointer (some ⟨p, 0, none⟩)] w fun e w' => e = .returned (.bool b) ∧ Below w.heap.size w w' := by
 have HS := zh h;clear h;obtain ⟨t, hnow⟩ : ∃ t, Rs.now X s = t := ⟨_, rfl⟩;obtain ⟨c, hc⟩ : ∃ c, Rs.typeWords.contains t.text = c := ⟨_, rfl⟩;have HB : Hid (b = ((c && t.kind != 1) || t.kind == 1)) := zh (by rw [← hb.out]; unfold Rs.begins; rw [hnow, hc]);have HC : Hid (hasB Rs.typeWords (str t.text) = c) := zh (by unfold hasB; rw [by_str]; exact hc);have HNOW := zh hnow;clear hnow hc
 go_enter Tryz.func160, Tryz.ntmps160
 go_wp2_with fail
 refine (rpnow_any HS.out).mono ?_;rintro e w1 ⟨rfl, hb1⟩;rw [HNOW.out];unfold tokVal tokCells;have HB1 := zh hb1;have hz1 := hb1.size;clear hb1;have e1 : (w1.alloc (.cells #[.int .i64 t.kind, .string (str t.text), .int .i64 t.num, .int .i64 (t.pos : Int)] 95)).cell? ⟨w1.heap.size, 1, none⟩ = some (.string (str t.text)) := blk_cell (blk_new _ _) 1;have e0 : (w1.alloc (.cells #[.int .i64 t.kind, .string (str t.text), .int .i64 t.num, .int .i64 (t.pos : Int)] 95)).cell? ⟨w1.heap.size, 0, none⟩ = some (.int .i64 t.kind) := blk_cell (blk_new _ _) 0;have HQ : Hid (StrsAt ((w1.alloc (.cells #[.int .i64 t.kind, .string (str t.text), .int .i64 t.num, .int .i64 (t.pos : Int)] 95)).alloc (.cells #[.string ⟨#[105, 110, 116]⟩, .string ⟨#[98, 111, 111, 108]⟩, .string ⟨#[99, 104, 97, 110]⟩, .string ⟨#[102, 117, 110, 99]⟩, .string ⟨#[42]⟩] 9)) (w1.heap.size + 1) Rs.typeWords) := zh (blk_new_at (by simp))
 have HE : Hid (Below w.heap.size w ((w1.alloc (.cells #[.int .i64 t.kind, .string (str t.text), .int .i64 t.num, .int .i64 (t.pos : Int)] 95)).alloc (.cells #[.string ⟨#[105, 110, 116]⟩, .string ⟨#[98, 111, 111, 108]⟩, .string ⟨#[99, 104, 97, 110]⟩, .string ⟨#[102, 117, 110, 99]⟩, .string ⟨#[42]⟩] 9))) := zh ((HB1.out.alloc hz1 _).alloc (by simp; omega) _);go_wp2_with fail
 refine (has_any Rs.typeWords (w1.heap.size + 1) (str t.text) _ HQ.out (by decide)).mono ?_;rintro e w2 ⟨rfl, rfl⟩;rw [HC.out]
 by_cases hk : t.kind = 1
 ·have kn : (t.kind != 1) = false := by simp [hk]
  have ke : (t.kind == 1) = true := by simp [hk]
  have HK := zh (And.intro kn ke);clear hk
  cases c with
  | true =>
   go_wp2
   go_returns
   exact ⟨ret_bool (by rw [HB.out, HK.out.1, HK.out.2]; rfl), HE.out⟩
  | false =>
   go_wp2
   go_returns
   exact ⟨ret_bool (by rw [HB.out, HK.out.1, HK.out.2]; rfl), HE.out⟩
 ·have kn : (t.kind != 1) = true := by simpa using hk
  have ke : (t.kind == 1) = false := by simpa using hk
  have HK := zh (And.intro kn ke);clear hk
  cases c with
  | true =>
   go_wp2
   go_returns
   exact ⟨ret_bool (by rw [HB.out, HK.out.1, HK.out.2]; rfl), HE.out⟩
  | false =>
   go_wp2
   go_returns
   exact ⟨ret_bool (by rw [HB.out, HK.out.1, HK.out.2]; rfl), HE.out⟩
end
end Go.Proofs.YtjickecdkmljpaaGreatDoor.R
