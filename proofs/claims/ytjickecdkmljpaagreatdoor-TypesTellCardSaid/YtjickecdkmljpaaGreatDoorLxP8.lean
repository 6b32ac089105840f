/-
  PROVED HERE: the program's scanner goes on by one step: signs, and whatever may not stand; and so each step. No condition beyond the lemmas' own premises.
-/
import Derived.Test.YtjickecdkmljpaaGreatDoorPsTk
import Derived.Test.YtjickecdkmljpaaGreatDoorLxB
namespace Go.Proofs.YtjickecdkmljpaaGreatDoor
open Go.RowKit

/-- What is known where no word, no number begins: the rune is no sign below nought, no blank, no letter, no digit. -/
structure Odd (p i : Nat) (w : World) (r n : Int) : Prop where
 rune : Calls Tryz.prog 83 #[.pointer (some ⟨p, 0, none⟩), .int .i64 (i : Int)] w fun e w' => e = .returned (.tuple #[.int .i32 r, .int .i64 n]) ∧ Below w.heap.size w w'
 dig : ∀ w, Calls Tryz.prog 86 #[.int .i32 r] w fun e w' => e = .returned (.bool false) ∧ w = w'
 let_ : ∀ w, Calls Tryz.prog 89 #[.int .i32 r] w fun e w' => e = .returned (.bool false) ∧ w = w'
 r0 : 0 ≤ r
 b0 : (r == 10) = false
 b1 : (r == 32) = false
 b2 : (r == 9) = false
 b3 : (r == 13) = false
theorem sign_pre (X : ByteArray) (s : List UInt8) (b : Bool) (w : World) (h : Hid (List.isPrefixOf s (by_ X) = b)) : Calls Tryz.prog 68 #[.string X, .string (str s)] w fun e w' => e = .returned (.bool b) ∧ w' = w := pre_is X (str s) b w (zh (by rw [by_str]; exact h.out))

set_option maxRecDepth 100000 in
set_option maxHeartbeats 2000000 in
theorem next_sign (B N p i : Nat) (S : ByteArray) (line : Bool) (acc : List Lx.Tok) (w : World) (c : UInt8) (r n : Int) (h : AtStep B N p i S line acc w c) (ho : Odd p i w r n) (hb : Lx.blank c = false) (hlt : Lx.letter c = false) (hdg : Lx.digit c = false) (hpre : List.isPrefixOf [47, 47] ((by_ S).drop i) = false) : Calls Tryz.prog 42 #[.pointer (some ⟨p, 0, none⟩)] w (NextPost N p S i line acc w) := by
 obtain ⟨v, hp, hv⟩ := h.st.at_;have c1 := blk_cell hp 1;simp only [List.getElem?_toArray, List.getElem?_cons_zero, List.getElem?_cons_succ] at c1;have hpl := h.st.lt;have hi := h.hi;have hS := h.hS;have hN := h.hN;have hBp := h.hBp;have HSN : Hid (Lx.firstSign ((by_ S).drop i) = none → Lx.stepAt (by_ S) i = .bad 2 i) := zh (fun hx => step_sign (x := none) (by rw [h.hc]; exact hb) hpre (by rw [h.hc]; exact hlt) (by rw [h.hc]; exact hdg) hx);have HSS : Hid (∀ g, Lx.firstSign ((by_ S).drop i) = some g → Lx.stepAt (by_ S) i = .tok ⟨3, g, 0, i⟩ (i + g.length)) := zh (fun g hx => step_sign (x := some g) (by rw [h.hc]; exact hb) hpre (by rw [h.hc]; exact hlt) (by rw [h.hc]; exact hdg) hx);have HP := zh hp;have HA := zh h;have HO := zh ho;have HPre := zh (pre_cut S ⟨#[47, 47]⟩ i hpre);have r0 := ho.r0;have b0 := ho.b0;have b1 := ho.b1;have b2 := ho.b2;have b3 := ho.b3;clear hp hv h hb hpre hlt hdg ho
 go_enter Tryz.func42, Tryz.ntmps42
 go_wp2_with fail
 refine HO.out.rune.mono ?_;rintro e w1 ⟨rfl, hb1⟩;have hp1 := HP.out.below hb1;have d0 := blk_cell hp1 0;have d1 := blk_cell hp1 1;simp only [List.getElem?_toArray, List.getElem?_cons_zero, List.getElem?_cons_succ] at d0 d1;have HB1 := zh hb1;have hs1 := hb1.size;clear hb1 hp1;go_wp2_with fail
 go_quiet ((go_at_call 68; exact Calls.quiet_of_same (pre_is _ _ _ _ HPre)))
 have HB2 : Hid (Below w.heap.size w (w1.drewN nq)) := zh (HB1.out.trans ⟨rfl, rfl, rfl, Nat.le_refl _, fun _ _ => rfl⟩);clear HB1 d0 d1;generalize w1.drewN nq = w2 at *;go_wp2_with fail
 refine (HO.out.dig w2).mono ?_;rintro e w3 ⟨rfl, rfl⟩;go_wp2_with fail
 refine (HO.out.let_ w2).mono ?_;rintro e w3 ⟨rfl, rfl⟩;have hs2 := HB2.out.size;go_wp2_with fail
 refine (psigns_any B w2 (HA.out.hT.below HB2.out hBp)).mono ?_;rintro e w3 ⟨rfl, hq3, hb3⟩;have HQ := zh hq3;have HB3 := zh (HB2.out.trans (hb3.mono hs2));have hq3l := blk_lt hq3;clear hq3 hb3;go_wp2_with fail
 go_loopw [20] (fun m wr => ∃ k : Nat, k ≤ 25 ∧ m = .int .i64 k ∧ Hid (∀ x ∈ Lx.signs.take k, x.isPrefixOf ((by_ S).drop i) = false) ∧ Hid (Below w3.heap.size w3 wr)) (fun m _ => 25 - (intOf m).toNat)
 case atStart => exact ⟨0, by omega, rfl, zh (by simp), zh (Below.refl _ _)⟩
 case round =>
  obtain ⟨k, hk, rfl, HNO, HBR⟩ := hrel;have hbr := HBR.out;have hpw := (HP.out.below (HB3.out)).below hbr;have e0 := blk_cell hpw 0;have e1 := blk_cell hpw 1;simp only [List.getElem?_toArray, List.getElem?_cons_zero, List.getElem?_cons_succ] at e0 e1;have hplw := blk_lt hpw;have HSW := zh ((HA.out.st.below HB3.out).below hbr);have HBW := zh (HB3.out.trans (hbr.mono HB3.out.size));have hsw := hbr.size
  by_cases h25 : k < 25
  ·have hsc := (HQ.out.below hbr hq3l).cell (k := k) (show k < Lx.signs.length from h25);have HF : Hid (List.isPrefixOf (Lx.signs.getD k []) ((by_ S).drop i) = true → Lx.firstSign ((by_ S).drop i) = some (Lx.signs.getD k [])) := zh (fun h => find_at (p := fun g => g.isPrefixOf ((by_ S).drop i)) (show k < Lx.signs.length from h25) HNO.out h)
   have HNN : Hid (List.isPrefixOf (Lx.signs.getD k []) ((by_ S).drop i) = false → ∀ x ∈ Lx.signs.take (k + 1), x.isPrefixOf ((by_ S).drop i) = false) := zh (fun h x hx => by
    rw [List.take_succ_eq_append_getElem (show k < Lx.signs.length from h25), List.mem_append, List.mem_singleton] at hx;rcases hx with hx | hx
    ·exact HNO.out x hx
    ·have e : Lx.signs.getD k [] = Lx.signs[k]'(show k < Lx.signs.length from h25) := by simp [List.getElem?_eq_getElem (show k < Lx.signs.length from h25)]
     rw [hx, ← e];exact h)
   obtain ⟨y1, y2⟩ := signs_ne k h25;have Y1 := zh y1;clear HNO y1 hbr hpw;generalize Lx.signs.getD k [] = y at *
   cases hf : List.isPrefixOf y ((by_ S).drop i) with
   | true =>
    have HPY : Hid (List.isPrefixOf y (by_ (S.extract i S.size)) = true) := zh (by rw [extract_drop, by_str]; exact hf);have hpx := List.isPrefixOf_iff_prefix.1 hf;have hle := hpx.length_le;rw [List.length_drop, by_size] at hle;have hyl := List.length_pos_iff.2 Y1.out;have HYC : Hid (Lx.cut (by_ S) i (i + y.length) = y) := zh (by unfold Lx.cut; rw [show i + y.length - i = y.length by omega]; exact (List.prefix_iff_eq_take.1 hpx).symm);have HG : Hid (Lx.go (by_ S) i line acc = Lx.go (by_ S) (i + y.length) true (acc ++ [⟨3, y, 0, i⟩])) := zh (Lx.go_tok HA.out.lt HA.out.ne (HSS.out y (HF.out hf)) (by omega));have hys := str_size y;clear hf HF HNN hpx;have hys2 : (str y).size ≤ 2 := by omega
    have HYS := zh hys;clear hys;go_wp2_with fail
    go_quiet ((go_at_call 68; exact Calls.quiet_of_same (sign_pre _ _ _ _ HPY)))
    have HS5 : Hid (ScSt N p (wr.drewN nq) S i line acc) := zh (HSW.out.below ⟨rfl, rfl, rfl, Nat.le_refl _, fun _ _ => rfl⟩);have HB5 : Hid (Below w.heap.size w (wr.drewN nq)) := zh (HBW.out.trans ⟨rfl, rfl, rfl, Nat.le_refl _, fun _ _ => rfl⟩);have f1 : (wr.drewN nq).cell? ⟨p, 1, none⟩ = some (.int .i64 (i : Int)) := e1;clear HSW HBW HBR e0 e1 hsc;generalize wr.drewN nq = w5 at *;go_wp2_with fail
    rw [show ((i : Int) + ((str y).size : Int)) = ((i + y.length : Nat) : Int) by rw [HYS.out]; omega];refine (put_tok N p i (i + y.length) 3 S line acc w5 HS5.out hN (by omega) (by omega) hS (by decide) (by have := HA.out.hl; omega)).mono ?_;rintro e w7 ⟨rfl, hs7, hb7⟩;rw [HYC.out] at hs7;have HE : Hid (NextPost N p S i line acc w (.returned (.bool true)) w7) := zh (next_more ((HB5.out.mono (by omega)).trans hb7) HG.out (by omega) (by omega) (by simp) (fun _ => by simp) hs7);clear hb7 hs7;go_wp2
    go_returns
    exact HE.out
   | false =>
    have HPY : Hid (List.isPrefixOf y (by_ (S.extract i S.size)) = false) := zh (by rw [extract_drop, by_str]; exact hf);have HNX := zh (HNN.out hf);clear hf HF HNN;go_wp2_with fail
    go_quiet ((go_at_call 68; exact Calls.quiet_of_same (sign_pre _ _ _ _ HPY)))
    have HB5 : Hid (Below w3.heap.size w3 (wr.drewN nq)) := zh (HBR.out.trans ⟨rfl, rfl, rfl, Nat.le_refl _, fun _ _ => rfl⟩);go_wp2
    go_roundw
    case rel => exact ⟨k + 1, by omega, by go_num, HNX, HB5⟩
    case measure => simp [intOf]; omega
  ·obtain rfl : k = 25 := by omega
   have HG : Hid (Lx.go (by_ S) i line acc = .error (2, i)) := zh (Lx.go_bad HA.out.lt HA.out.ne (HSN.out (find_none (p := fun g => g.isPrefixOf ((by_ S).drop i)) (by have h := HNO.out; rwa [show Lx.signs.take 25 = Lx.signs from rfl] at h))));have HE : Hid (NextPost N p S i line acc w (thrownF 2 i) wr) := zh (next_err (HBW.out.mono (by omega)) HG.out);clear HNO hbr hpw;go_wp2_with fail
   refine (fail_any p 2 (i : Int) _).mono ?_;rintro e w7 ⟨rfl, rfl⟩;go_wp2
   exact ⟨rfl, HE.out⟩

set_option maxRecDepth 100000 in
theorem pdigit_high (r : Int) (h : 128 ≤ r) (w : World) : Calls Tryz.prog 86 #[.int .i32 r] w fun e w' => e = .returned (.bool false) ∧ w = w' := by
 go_enter Tryz.func86, Tryz.ntmps86
 go_wp2
 go_returns
 exact ⟨ret_bool (by simp; omega), rfl⟩
set_option maxRecDepth 100000 in
theorem pletter_high (r : Int) (h : 128 ≤ r) (w : World) : Calls Tryz.prog 89 #[.int .i32 r] w fun e w' => e = .returned (.bool false) ∧ w = w' := by
 have h95 : (r == 95) = false := by rw [beq_eq_false_iff_ne]; omega
 go_enter Tryz.func89, Tryz.ntmps89
 go_wp2
 go_returns
 exact ⟨ret_bool (by simp; omega), rfl⟩
theorem signs_low : ∀ x ∈ Lx.signs, x ≠ [] ∧ (x.getD 0 0).toNat < 128 := by decide +kernel
theorem pre_head {x l : List UInt8} (h : x.isPrefixOf l = true) (hx : x ≠ []) : l.getD 0 0 = x.getD 0 0 := by
 obtain ⟨r, rfl⟩ := List.isPrefixOf_iff_prefix.1 h
 cases x with
 | nil => exact absurd rfl hx
 | cons a x => rfl
theorem high_pre {x l : List UInt8} (hx : x ≠ []) (h1 : (x.getD 0 0).toNat < 128) (h2 : 128 ≤ (l.getD 0 0).toNat) : x.isPrefixOf l = false := by
 cases h : x.isPrefixOf l with
 | false => rfl
 | true => rw [pre_head h hx] at h2; omega
theorem high_not {c : UInt8} (h : 128 ≤ c.toNat) : Lx.blank c = false ∧ Lx.letter c = false ∧ Lx.digit c = false := by
 refine ⟨?_, ?_, ?_⟩
 ·rw [blank_eq];simp
  omega
 ·rw [letter_iff, decide_eq_false_iff_not]; omega
 ·rw [digit_iff, decide_eq_false_iff_not]; omega
set_option maxRecDepth 100000 in
set_option maxHeartbeats 1000000 in
theorem next_high (B N p i : Nat) (S : ByteArray) (line : Bool) (acc : List Lx.Tok) (w : World) (c : UInt8) (h : AtStep B N p i S line acc w c) (hc : 128 ≤ c.toNat) : Calls Tryz.prog 42 #[.pointer (some ⟨p, 0, none⟩)] w (NextPost N p S i line acc w) := by
 obtain ⟨n1, n2, n3⟩ := high_not hc;have hd0 : ((by_ S).drop i).getD 0 0 = c := by rw [drop_head]; exact h.hc
 have hpre : List.isPrefixOf [47, 47] ((by_ S).drop i) = false := high_pre (by simp) (by decide) (by rw [hd0]; exact hc);obtain ⟨v, hp, hv⟩ := h.st.at_
 by_cases hbad : Lx.dec ((by_ S).drop i) = (65533, 1)
 ·have hf : Lx.firstSign ((by_ S).drop i) = none := find_none (p := fun g => g.isPrefixOf ((by_ S).drop i)) (fun x hx => high_pre (signs_low x hx).1 (signs_low x hx).2 (by rw [hd0]; exact hc));have HG : Hid (Lx.go (by_ S) i line acc = .error (2, i)) := zh (Lx.go_bad h.lt h.ne (step_sign (x := none) (by rw [h.hc]; exact n1) hpre (by rw [h.hc]; exact n2) (by rw [h.hc]; exact n3) hf))
  have c1 := blk_cell hp 1;simp only [List.getElem?_toArray, List.getElem?_cons_zero, List.getElem?_cons_succ] at c1;have hR := (rune_any B p i i S line v w hp h.hi h.hS h.hT).mono (R' := fun e w' => e = thrownF 2 i ∧ Below w.heap.size w w') (fun e w' hq => by
   obtain ⟨hb, ⟨_, he⟩ | ⟨h1, _⟩⟩ := hq
   ·exact ⟨he, hb⟩
   ·exact absurd hbad h1)
  have HR := zh hR;have hN := h.hN;have hpl := h.st.lt;clear h hp hv hbad hf hpre hd0 n1 n2 n3 hR
  go_enter Tryz.func42, Tryz.ntmps42
  go_wp2_with fail
  refine HR.out.mono ?_;rintro e w1 ⟨rfl, hb1⟩;have HE : Hid (NextPost N p S i line acc w (thrownF 2 i) w1) := zh (next_err (hb1.mono (by omega)) HG.out);clear hb1;unfold thrownF;go_wp2
  exact ⟨rfl, HE.out⟩
 ·have hne : (by_ S).drop i ≠ [] := by intro h0; have := List.drop_eq_nil_iff.1 h0; have := h.lt; omega
  have hge := (dec_head hne).2 (by rw [hd0]; exact hc);refine next_sign B N p i S line acc w c ((Lx.dec ((by_ S).drop i)).1 : Int) ((Lx.dec ((by_ S).drop i)).2 : Int) h ⟨?_, fun w => pdigit_high _ (by omega) w, fun w => pletter_high _ (by omega) w, by omega, ?_, ?_, ?_, ?_⟩ n1 n2 n3 hpre
  ·exact (rune_any B p i i S line v w hp h.hi h.hS h.hT).mono (fun e w' hq => by
    obtain ⟨hb, ⟨h1, _⟩ | ⟨_, he⟩⟩ := hq
    ·exact absurd h1 hbad
    ·exact ⟨he, hb⟩)
  all_goals
   rw [beq_eq_false_iff_ne];omega
/-- EACH STEP. -/
theorem next_any (B N p i : Nat) (S : ByteArray) (line : Bool) (acc : List Lx.Tok) (w : World) (h : ScSt N p w S i line acc) (hN : N ≤ p) (hn : line = true → acc ≠ []) (hl : acc.length ≤ 12000) (hi : i ≤ S.size) (hS : S.size ≤ 6000) (hT : Tabs B w) (hB : B ≤ w.heap.size) : Calls Tryz.prog 42 #[.pointer (some ⟨p, 0, none⟩)] w (NextPost N p S i line acc w) := by
 by_cases he : i = S.size
 ·subst he;exact next_end N p S line acc w h hN hn hl
 ·have hi' : i < S.size := by omega
  by_cases h10 : (by_ S).getD i 0 = 10
  ·exact next_feed B N p i S line acc w h hN hn hl hi' hS hT h10
  ·have ha : AtStep B N p i S line acc w ((by_ S).getD i 0) := ⟨h, hN, hn, hl, hi', hS, hT, hB, rfl, u8_ne h10⟩;generalize (by_ S).getD i 0 = c at *
   by_cases hc : 128 ≤ c.toNat
   ·exact next_high B N p i S line acc w c ha hc
   ·cases hb : Lx.blank c with
    | true => exact next_blank B N p i S line acc w c ha hb
    | false =>
     cases hp : List.isPrefixOf [47, 47] ((by_ S).drop i) with
     | true => exact next_note B N p i S line acc w c ha hb (by omega) hp
     | false =>
      cases hlt : Lx.letter c with
      | true => exact next_letter B N p i S line acc w c ha hb hp hlt
      | false =>
       cases hd : Lx.digit c with
       | true => exact next_digit B N p i S line acc w c ha hb hp hd
       | false =>
        obtain ⟨b1, b2, b3⟩ := blank_not hb;obtain ⟨v, hv, _⟩ := h.at_;refine next_sign B N p i S line acc w c (c.toNat : Int) 1 ha ⟨rune_ascii B p i i S line v w c hv hi' hS hT ha.hc (by omega), fun w => pdigit_is c false w (zh hd), fun w => pletter_is c false w (zh hlt), by omega, ha.h10, b1, b2, b3⟩ hb hlt hd hp
end Go.Proofs.YtjickecdkmljpaaGreatDoor
