/-
  PROVED HERE: the program's scanner goes on by one step: numbers, words. No condition beyond the lemmas' own premises.
-/
import Derived.Test.YtjickecdkmljpaaDoorLxP6
namespace Go.Proofs.YtjickecdkmljpaaDoor
open Go.RowKit

theorem step_word {s : List UInt8} {i : Nat} (h1 : Lx.blank (s.getD i 0) = false) (h2 : List.isPrefixOf [47, 47] (s.drop i) = false) (h3 : Lx.letter (s.getD i 0) = true) : Lx.stepAt s i = .tok ⟨if Lx.words.contains (Lx.cut s i (Lx.spanEnd Lx.wordC s i)) then 4 else 1, Lx.cut s i (Lx.spanEnd Lx.wordC s i), 0, i⟩ (Lx.spanEnd Lx.wordC s i) := by
  unfold Lx.stepAt
  rw [if_neg (by rw [h1]; simp), if_neg (by rw [h2]; simp), if_pos h3]
theorem step_num {s : List UInt8} {i : Nat} (h1 : Lx.blank (s.getD i 0) = false) (h2 : List.isPrefixOf [47, 47] (s.drop i) = false) (h3 : Lx.letter (s.getD i 0) = false) (h4 : Lx.digit (s.getD i 0) = true) : Lx.stepAt s i = if 9 < (Lx.cut s i (Lx.spanEnd Lx.digit s i)).length ∨ (1 < (Lx.cut s i (Lx.spanEnd Lx.digit s i)).length ∧ s.getD i 0 = 48) then .bad 3 i else .tok ⟨2, Lx.cut s i (Lx.spanEnd Lx.digit s i), Lx.numVal (Lx.cut s i (Lx.spanEnd Lx.digit s i)), i⟩ (Lx.spanEnd Lx.digit s i) := by
  unfold Lx.stepAt
  rw [if_neg (by rw [h1]; simp), if_neg (by rw [h2]; simp), if_neg (by rw [h3]; simp), if_pos h4]
theorem step_sign {s : List UInt8} {i : Nat} {x : Option (List UInt8)} (h1 : Lx.blank (s.getD i 0) = false) (h2 : List.isPrefixOf [47, 47] (s.drop i) = false) (h3 : Lx.letter (s.getD i 0) = false) (h4 : Lx.digit (s.getD i 0) = false) (h5 : Lx.firstSign (s.drop i) = x) : Lx.stepAt s i = match x with | none => .bad 2 i | some g => .tok ⟨3, g, 0, i⟩ (i + g.length) := by
  unfold Lx.stepAt
  rw [if_neg (by rw [h1]; simp), if_neg (by rw [h2]; simp), if_neg (by rw [h3]; simp), if_neg (by rw [h4]; simp)]
  split <;> rename_i h6 <;> rw [h6] at h5 <;> subst h5 <;> rfl
theorem find_none {l : List (List UInt8)} {p : List UInt8 → Bool} (h : ∀ x ∈ l, p x = false) : l.find? p = none := by
  rw [List.find?_eq_none]
  intro x hx
  rw [h x hx]
  simp
theorem find_at {l : List (List UInt8)} {p : List UInt8 → Bool} {n : Nat} (hn : n < l.length) (h : ∀ x ∈ l.take n, p x = false) (hp : p (l.getD n []) = true) : l.find? p = some (l.getD n []) := by
  have e : l = l.take n ++ l.getD n [] :: l.drop (n + 1) := by
    have h1 : l.getD n [] = l[n] := by simp [List.getElem?_eq_getElem hn]
    rw [h1, ← List.drop_eq_getElem_cons hn, List.take_append_drop]
  have h2 : (l.take n ++ l.getD n [] :: l.drop (n + 1)).find? p = some (l.getD n []) := by
    rw [List.find?_append, find_none h, Option.none_or, List.find?_cons, hp]
  rw [← e] at h2
  exact h2
theorem signs_ne : ∀ n, n < 25 → Lx.signs.getD n [] ≠ [] ∧ (Lx.signs.getD n []).length ≤ 2 := by decide +kernel

theorem pdigit_is (c : UInt8) (b : Bool) (w : World) (h : Hid (Lx.digit c = b)) : Calls Tryd.prog 21 #[.int .i32 (c.toNat : Int)] w fun e w' => e = .returned (.bool b) ∧ w = w' := by
  have := pdigit_any c w
  rw [h.out] at this
  exact this
theorem pletter_is (c : UInt8) (b : Bool) (w : World) (h : Hid (Lx.letter c = b)) : Calls Tryd.prog 24 #[.int .i32 (c.toNat : Int)] w fun e w' => e = .returned (.bool b) ∧ w = w' := by
  have := pletter_any c w
  rw [h.out] at this
  exact this
theorem reserved_is (B : Nat) (x : ByteArray) (b : Bool) (w : World) (hT : Tabs B w) (h : Hid (hasB Lx.words x = b)) : Calls Tryd.prog 26 #[.string x] w fun e w' => e = .returned (.bool b) ∧ Below w.heap.size w w' := by
  have := reserved_any B x w hT
  rw [h.out] at this
  exact this
theorem letter_digit (c : UInt8) (h : Lx.digit c = true) : Lx.letter c = false := by
  rw [letter_iff, decide_eq_false_iff_not]
  rw [digit_iff, decide_eq_true_eq] at h
  omega
theorem digit_letter (c : UInt8) (h : Lx.letter c = true) : Lx.digit c = false := by
  cases hd : Lx.digit c with
  | false => rfl
  | true => rw [letter_digit c hd] at h; cases h
theorem letter_low (c : UInt8) (h : Lx.letter c = true) : c.toNat < 128 := by
  rw [letter_iff, decide_eq_true_eq] at h
  omega
theorem digit_low (c : UInt8) (h : Lx.digit c = true) : c.toNat < 128 := by
  rw [digit_iff, decide_eq_true_eq] at h
  omega
theorem cut_len (S : ByteArray) (k j : Nat) (hk : k ≤ j) (hj : j ≤ S.size) : (Lx.cut (by_ S) k j).length = j - k := by rw [← by_extract, by_size, cut_size S k j hk hj]

set_option maxRecDepth 100000 in
set_option maxHeartbeats 1000000 in
theorem next_digit (B N p i : Nat) (S : ByteArray) (line : Bool) (acc : List Lx.Tok) (w : World) (c : UInt8) (h : AtStep B N p i S line acc w c) (hb : Lx.blank c = false) (hpre : List.isPrefixOf [47, 47] ((by_ S).drop i) = false) (hdg : Lx.digit c = true) : Calls Tryd.prog 8 #[.pointer (some ⟨p, 0, none⟩)] w (NextPost N p S i line acc w) := by
  obtain ⟨v, hp, hv⟩ := h.st.at_
  have c1 := blk_cell hp 1
  simp only [List.getElem?_toArray, List.getElem?_cons_zero, List.getElem?_cons_succ] at c1
  have hpl := h.st.lt
  have hi := h.hi
  have hS := h.hS
  have h10 := h.h10
  have hN := h.hN
  have hBp := h.hBp
  have hc128 := digit_low c hdg
  have hst := step_num (s := by_ S) (i := i) (by rw [h.hc]; exact hb) hpre (by rw [h.hc]; exact letter_digit c hdg) (by rw [h.hc]; exact hdg)
  have hjg := Lx.spanEnd_gt (p := Lx.digit) h.lt (by rw [h.hc]; exact hdg)
  have hjl := Lx.spanEnd_le (p := Lx.digit) (s := by_ S) (i := i) (Nat.le_of_lt h.lt)
  rw [by_size] at hjl
  rw [cut_len S i _ (by omega) hjl] at hst
  have HALL := Lib.hid (span_all Lx.digit (by_ S) i (Nat.le_of_lt h.lt))
  have HST := Lib.hid hst
  have HP := Lib.hid hp
  have HA := Lib.hid h
  have HPre := Lib.hid (pre_cut S ⟨#[47, 47]⟩ i hpre)
  have HD := Lib.hid hdg
  obtain ⟨b1, b2, b3⟩ := blank_not hb
  clear hp hv h hb hpre hst hdg
  go_enter Tryd.func8, Tryd.ntmps8
  go_wp2_with fail
  refine (rune_ascii B p i i S line v w c HP.out hi hS HA.out.hT HA.out.hc hc128).mono ?_
  rintro e w1 ⟨rfl, hb1⟩
  have hp1 := HP.out.below hb1
  have d0 := blk_cell hp1 0
  have d1 := blk_cell hp1 1
  simp only [List.getElem?_toArray, List.getElem?_cons_zero, List.getElem?_cons_succ] at d0 d1
  have HB1 := Lib.hid hb1
  have hs1 := hb1.size
  clear hb1 hp1
  go_wp2_with fail
  go_quiet ((go_at_call 19; exact Calls.quiet_of_same (pre_is _ _ _ _ HPre)))
  have HB2 : Hid (Below w.heap.size w (w1.drewN nq)) := Lib.hid (HB1.out.trans ⟨rfl, rfl, rfl, Nat.le_refl _, fun _ _ => rfl⟩)
  clear HB1 d0 d1
  generalize w1.drewN nq = w2 at *
  go_wp2_with fail
  refine (pdigit_is c true w2 HD).mono ?_
  rintro e w3 ⟨rfl, rfl⟩
  go_wp2_with fail
  refine (while_digit p i S line v w2 (HP.out.below HB2.out) (by omega) hS).mono ?_
  rintro e w3 ⟨rfl, rfl⟩
  have hs2 := HB2.out.size
  generalize Lx.spanEnd Lx.digit (by_ S) i = j at *
  go_wp2_with fail
  by_cases hbad : 9 < j - i ∨ (1 < j - i ∧ (by_ S).getD i 0 = 48)
  · refine (put_bad N p i j S line acc w2 (HA.out.st.below HB2.out) hN hjg hjl hS hbad).mono ?_
    rintro e w5 ⟨rfl, hb5⟩
    have HE : Hid (NextPost N p S i line acc w (thrownF 3 i) w5) := Lib.hid (next_err ((HB2.out.mono (by omega)).trans hb5) (Lx.go_bad HA.out.lt HA.out.ne (by rw [HST.out, if_pos hbad])))
    clear hb5 hbad
    go_wp2
    exact ⟨rfl, HE.out⟩
  · refine (put_num N p i j S line acc w2 (HA.out.st.below HB2.out) hN hjg hjl hS hbad HALL.out (by have := HA.out.hl; omega)).mono ?_
    rintro e w5 ⟨rfl, hs5, hb5⟩
    have HE : Hid (NextPost N p S i line acc w (.returned (.bool true)) w5) := Lib.hid (next_more ((HB2.out.mono (by omega)).trans hb5) (Lx.go_tok HA.out.lt HA.out.ne (by rw [HST.out, if_neg hbad]) hjg) hjg hjl (by simp) (fun _ => by simp) hs5)
    clear hb5 hbad hs5
    go_wp2
    go_returns
    exact HE.out

set_option maxRecDepth 100000 in
set_option maxHeartbeats 1000000 in
theorem next_letter (B N p i : Nat) (S : ByteArray) (line : Bool) (acc : List Lx.Tok) (w : World) (c : UInt8) (h : AtStep B N p i S line acc w c) (hb : Lx.blank c = false) (hpre : List.isPrefixOf [47, 47] ((by_ S).drop i) = false) (hlt : Lx.letter c = true) : Calls Tryd.prog 8 #[.pointer (some ⟨p, 0, none⟩)] w (NextPost N p S i line acc w) := by
  obtain ⟨v, hp, hv⟩ := h.st.at_
  have c1 := blk_cell hp 1
  simp only [List.getElem?_toArray, List.getElem?_cons_zero, List.getElem?_cons_succ] at c1
  have hpl := h.st.lt
  have hi := h.hi
  have hS := h.hS
  have h10 := h.h10
  have hN := h.hN
  have hBp := h.hBp
  have hc128 := letter_low c hlt
  have hst := step_word (s := by_ S) (i := i) (by rw [h.hc]; exact hb) hpre (by rw [h.hc]; exact hlt)
  have hjg := Lx.spanEnd_gt (p := Lx.wordC) h.lt (by rw [h.hc]; unfold Lx.wordC; rw [hlt]; rfl)
  have hjl := Lx.spanEnd_le (p := Lx.wordC) (s := by_ S) (i := i) (Nat.le_of_lt h.lt)
  rw [by_size] at hjl
  have HST := Lib.hid hst
  have HP := Lib.hid hp
  have HA := Lib.hid h
  have HPre := Lib.hid (pre_cut S ⟨#[47, 47]⟩ i hpre)
  have HD := Lib.hid (digit_letter c hlt)
  have HL := Lib.hid hlt
  obtain ⟨b1, b2, b3⟩ := blank_not hb
  clear hp hv h hb hpre hst hlt
  go_enter Tryd.func8, Tryd.ntmps8
  go_wp2_with fail
  refine (rune_ascii B p i i S line v w c HP.out hi hS HA.out.hT HA.out.hc hc128).mono ?_
  rintro e w1 ⟨rfl, hb1⟩
  have hp1 := HP.out.below hb1
  have d0 := blk_cell hp1 0
  have d1 := blk_cell hp1 1
  simp only [List.getElem?_toArray, List.getElem?_cons_zero, List.getElem?_cons_succ] at d0 d1
  have HB1 := Lib.hid hb1
  have hs1 := hb1.size
  clear hb1 hp1
  go_wp2_with fail
  go_quiet ((go_at_call 19; exact Calls.quiet_of_same (pre_is _ _ _ _ HPre)))
  have HB2 : Hid (Below w.heap.size w (w1.drewN nq)) := Lib.hid (HB1.out.trans ⟨rfl, rfl, rfl, Nat.le_refl _, fun _ _ => rfl⟩)
  clear HB1 d0 d1
  generalize w1.drewN nq = w2 at *
  go_wp2_with fail
  refine (pdigit_is c false w2 HD).mono ?_
  rintro e w3 ⟨rfl, rfl⟩
  go_wp2_with fail
  refine (pletter_is c true w2 HL).mono ?_
  rintro e w3 ⟨rfl, rfl⟩
  go_wp2_with fail
  refine (while_word p i S line v w2 (HP.out.below HB2.out) (by omega) hS).mono ?_
  rintro e w3 ⟨rfl, rfl⟩
  have hs2 := HB2.out.size
  generalize Lx.spanEnd Lx.wordC (by_ S) i = j at *
  have hp2 := HP.out.below HB2.out
  have d0 := blk_cell hp2 0
  have d1 := blk_cell hp2 1
  have hpl2 := blk_lt hp2
  simp only [List.getElem?_toArray, List.getElem?_cons_zero, List.getElem?_cons_succ] at d0 d1
  have HT2 := Lib.hid (HA.out.hT.below HB2.out hBp)
  have HXC := Lib.hid (by_extract S i j)
  clear hp2
  have hB2 : B ≤ w2.heap.size := by omega
  have bi0 : (0 : Int) ≤ (i : Int) := by omega
  have bi1 : (i : Int) ≤ (j : Int) := by omega
  have bi2 : (j : Int) ≤ (S.size : Int) := by omega
  cases hw : hasB Lx.words (S.extract i j) with
  | false =>
    have HW := Lib.hid hw
    have HG : Hid (Lx.go (by_ S) i line acc = Lx.go (by_ S) j true (acc ++ [⟨1, Lx.cut (by_ S) i j, 0, i⟩])) := Lib.hid (Lx.go_tok HA.out.lt HA.out.ne (by
      rw [HST.out, ← HXC.out]
      unfold hasB at hw
      rw [hw]
      rfl) hjg)
    clear hw
    go_wp2_with fail
    go_region_held3 (fun w' => w'.cell? ⟨p, 0, none⟩ = some (.string S) ∧ w'.cell? ⟨p, 1, none⟩ = some (.int .i64 (i : Int))) ((refine ⟨?_, ?_⟩ <;> assumption))
      ((go_at_call 26; refine (reserved_is B _ false _ (HT2.out.below ((Below.refl _ _).drew) hB2) HW).mono ?_; rintro e w5 ⟨rfl, hb5⟩; have hb6 : Below w2.heap.size w2 w5 := ((Below.refl w2.heap.size w2).drew).trans hb5; have y0 := (hb6.cell (p := ⟨p, 0, none⟩) hpl2).trans d0; have y1 := (hb6.cell (p := ⟨p, 1, none⟩) hpl2).trans d1))
    have HS5 := Lib.hid ((HA.out.st.below HB2.out).below hb6)
    have HB6 := Lib.hid (hb6.mono (B' := N) (by omega))
    clear hb5 hb6 d0 d1 y0 y1
    go_wp2_with fail
    refine (put_tok N p i j 1 S line acc w5 HS5.out hN (Nat.le_of_lt hjg) hjl hS (by decide) (by have := HA.out.hl; omega)).mono ?_
    rintro e w7 ⟨rfl, hs7, hb7⟩
    have HE : Hid (NextPost N p S i line acc w (.returned (.bool true)) w7) := Lib.hid (next_more (((HB2.out.mono (by omega)).trans HB6.out).trans hb7) HG.out hjg hjl (by simp) (fun _ => by simp) hs7)
    clear hb7 hs7
    go_wp2
    go_returns
    exact HE.out
  | true =>
    have HW := Lib.hid hw
    have HG : Hid (Lx.go (by_ S) i line acc = Lx.go (by_ S) j true (acc ++ [⟨4, Lx.cut (by_ S) i j, 0, i⟩])) := Lib.hid (Lx.go_tok HA.out.lt HA.out.ne (by
      rw [HST.out, ← HXC.out]
      unfold hasB at hw
      rw [hw]
      rfl) hjg)
    clear hw
    go_wp2_with fail
    go_region_held3 (fun w' => w'.cell? ⟨p, 0, none⟩ = some (.string S) ∧ w'.cell? ⟨p, 1, none⟩ = some (.int .i64 (i : Int))) ((refine ⟨?_, ?_⟩ <;> assumption))
      ((go_at_call 26; refine (reserved_is B _ true _ (HT2.out.below ((Below.refl _ _).drew) hB2) HW).mono ?_; rintro e w5 ⟨rfl, hb5⟩; have hb6 : Below w2.heap.size w2 w5 := ((Below.refl w2.heap.size w2).drew).trans hb5; have y0 := (hb6.cell (p := ⟨p, 0, none⟩) hpl2).trans d0; have y1 := (hb6.cell (p := ⟨p, 1, none⟩) hpl2).trans d1))
    have HS5 := Lib.hid ((HA.out.st.below HB2.out).below hb6)
    have HB6 := Lib.hid (hb6.mono (B' := N) (by omega))
    clear hb5 hb6 d0 d1 y0 y1
    go_wp2_with fail
    refine (put_tok N p i j 4 S line acc w5 HS5.out hN (Nat.le_of_lt hjg) hjl hS (by decide) (by have := HA.out.hl; omega)).mono ?_
    rintro e w7 ⟨rfl, hs7, hb7⟩
    have HE : Hid (NextPost N p S i line acc w (.returned (.bool true)) w7) := Lib.hid (next_more (((HB2.out.mono (by omega)).trans HB6.out).trans hb7) HG.out hjg hjl (by simp) (fun _ => by simp) hs7)
    clear hb7 hs7
    go_wp2
    go_returns
    exact HE.out
end Go.Proofs.YtjickecdkmljpaaDoor
