/-
  PROVED HERE: the program's scanner: letters, digits, what ends a line, words, signs. No condition beyond the lemmas' own premises.
-/
import Derived.Test.YtjickecdkmljpaaDoorLxP1
namespace Go.Proofs.YtjickecdkmljpaaDoor
open Go.RowKit

set_option maxRecDepth 100000 in
theorem pletter_any (c : UInt8) (w : World) : Calls Tryd.prog 24 #[.int .i32 (c.toNat : Int)] w fun e w' => e = .returned (.bool (Lx.letter c)) ∧ w = w' := by
  go_enter Tryd.func24, Tryd.ntmps24
  go_wp2
  all_goals
    go_returns
    refine ⟨ret_bool ?_, rfl⟩
    rw [letter_iff, Bool.eq_iff_iff]
    simp
    omega
set_option maxRecDepth 100000 in
theorem pdigit_any (c : UInt8) (w : World) : Calls Tryd.prog 21 #[.int .i32 (c.toNat : Int)] w fun e w' => e = .returned (.bool (Lx.digit c)) ∧ w = w' := by
  go_enter Tryd.func21, Tryd.ntmps21
  go_wp2
  all_goals
    go_returns
    refine ⟨ret_bool ?_, rfl⟩
    rw [digit_iff, Bool.eq_iff_iff]
    simp
    omega
set_option maxRecDepth 100000 in
theorem pword_any (c : UInt8) (w : World) : Calls Tryd.prog 25 #[.int .i32 (c.toNat : Int)] w fun e w' => e = .returned (.bool (Lx.wordC c)) ∧ w = w' := by
  go_enter Tryd.func25, Tryd.ntmps25
  go_wp2_with fail
  refine (pletter_any c w).mono ?_
  rintro e w' ⟨rfl, rfl⟩
  cases hl : Lx.letter c with
  | true =>
    have HW : Hid (Lx.wordC c = true) := Lib.hid (by unfold Lx.wordC; rw [hl]; rfl)
    clear hl
    go_wp2
    go_returns
    exact ⟨ret_bool HW.out.symm, rfl⟩
  | false =>
    have HW : Hid (Lx.wordC c = Lx.digit c) := Lib.hid (by unfold Lx.wordC; rw [hl]; rfl)
    clear hl
    go_wp2_with fail
    refine (pdigit_any c w).mono ?_
    rintro e w' ⟨rfl, rfl⟩
    go_wp2
    go_returns
    exact ⟨ret_bool HW.out.symm, rfl⟩

/-- Among strings: the shelf's word and ours. -/
theorem contains_has (L : List (List UInt8)) (x : ByteArray) : Lib.containsS (L.map str) x = hasB L x := by
  unfold hasB
  rw [Bool.eq_iff_iff, Lib.containsS_iff, List.contains_iff_mem, List.mem_map]
  constructor
  · rintro ⟨l, hl, rfl⟩
    exact hl
  · intro h
    exact ⟨_, h, str_by x⟩
theorem StrsAt.shelf {w : World} {q : Nat} {L : List (List UInt8)} (h : StrsAt w q L) : ∀ j, j < (L.map str).length → w.cell? ⟨q, 0 + j, none⟩ = some (.string ((L.map str).getD j ByteArray.empty)) := by
  intro j hj
  rw [List.length_map] at hj
  rw [Nat.zero_add, h.cell hj]
  simp [List.getElem?_eq_getElem hj]

set_option maxRecDepth 100000 in
theorem ends_any (t : Lx.Tok) (w : World) : Calls Tryd.prog 30 #[.agg #[.int .i64 t.kind, .string (str t.text), .int .i64 t.num, .int .i64 (t.pos : Int)]] w fun e w' => e = .returned (.bool (Lx.ends t)) ∧ Below w.heap.size w w' := by
  obtain ⟨kind, text, num, pos⟩ := t
  dsimp only
  by_cases h1 : kind = 1
  · subst h1
    go_enter Tryd.func30, Tryd.ntmps30
    go_wp2
    go_returns
    exact ⟨ret_bool (by simp [Lx.ends]), by go_grown⟩
  · by_cases h2 : kind = 2
    · subst h2
      go_enter Tryd.func30, Tryd.ntmps30
      go_wp2
      go_returns
      exact ⟨ret_bool (by simp [Lx.ends]), by go_grown⟩
    · have g1 : (kind == 1) = false := by simpa using h1
      have g2 : (kind == 2) = false := by simpa using h2
      by_cases h3 : kind = 3
      · subst h3
        clear g1 g2
        go_enter Tryd.func30, Tryd.ntmps30
        go_wp2
        all_goals
          go_returns
          refine ⟨ret_bool ?_, by go_grown⟩
          simp_all [Lx.ends, by_toList, by_str]
      · have g3 : (kind == 3) = false := by simpa using h3
        have HE : Hid (Lx.ends ⟨kind, text, num, pos⟩ = hasB Lx.enders (str text)) := Lib.hid (by unfold Lx.ends hasB; simp [h1, h2, h3, by_str])
        clear h1 h2 h3
        go_enter Tryd.func30, Tryd.ntmps30
        go_wp2_with fail
        have hq : StrsAt ((w.alloc (.cells #[.int .i64 kind, .string (str text), .int .i64 num, .int .i64 (pos : Int)] 29)).alloc (.cells (Lx.enders.map fun l => Value.string (str l)).toArray 9)) (w.heap.size + 1) Lx.enders := by
          have := blk_new (w.alloc (.cells #[.int .i64 kind, .string (str text), .int .i64 num, .int .i64 (pos : Int)] 29)) (.cells (Lx.enders.map fun l => Value.string (str l)).toArray 9)
          rw [show (w.alloc (.cells #[.int .i64 kind, .string (str text), .int .i64 num, .int .i64 (pos : Int)] 29)).heap.size = w.heap.size + 1 by simp] at this
          exact this
        refine (Tryd.slices_Contains_string (w.heap.size + 1) 0 7 7 (Lx.enders.map str) (str text) _ (by decide) (by omega) hq.shelf).mono ?_
        rintro e w' ⟨rfl, rfl⟩
        rw [show List.take 7 (List.map str Lx.enders) = Lx.enders.map str from rfl, contains_has]
        go_wp2
        go_returns
        exact ⟨ret_bool HE.out.symm, by go_grown⟩

def wordText : List UInt8 := [102, 117, 110, 99, 32, 116, 121, 112, 101, 32, 115, 116, 114, 117, 99, 116, 32, 105, 110, 116, 101, 114, 102, 97, 99, 101, 32, 105, 102, 32, 101, 108, 115, 101, 32, 102, 111, 114, 32, 114, 101, 116, 117, 114, 110, 32, 98, 114, 101, 97, 107, 32, 115, 101, 108, 101, 99, 116, 32, 99, 97, 115, 101, 32, 100, 101, 102, 97, 117, 108, 116, 32, 103, 111, 32, 99, 108, 111, 115, 101, 32, 112, 97, 110, 105, 99, 32, 112, 114, 105, 110, 116, 32, 110, 101, 119, 32, 109, 97, 107, 101, 32, 99, 104, 97, 110, 32, 105, 110, 116, 32, 98, 111, 111, 108, 32, 110, 105, 108, 32, 116, 114, 117, 101, 32, 102, 97, 108, 115, 101]
def signText : List UInt8 := [60, 45, 32, 61, 61, 32, 33, 61, 32, 60, 61, 32, 62, 61, 32, 38, 38, 32, 124, 124, 32, 58, 61, 32, 40, 32, 41, 32, 123, 32, 125, 32, 46, 32, 44, 32, 59, 32, 58, 32, 42, 32, 43, 32, 45, 32, 47, 32, 37, 32, 60, 32, 62, 32, 61, 32, 33]
theorem words_fields : Lib.fields wordText = Lx.words := by decide +kernel
theorem signs_fields : Lib.fields signText = Lx.signs := by decide +kernel
theorem ascii_words : ∀ b ∈ wordText, b.toNat < 128 := by decide +kernel
theorem ascii_signs : ∀ b ∈ signText, b.toNat < 128 := by decide +kernel
theorem len_words : (str wordText).size < 4294967281 := by rw [str_size]; decide +kernel
theorem len_signs : (str signText).size < 4294967281 := by rw [str_size]; decide +kernel
set_option maxRecDepth 100000 in
theorem fields_words (w : World) (hT : Lib.TabIs Tryd.prog w "strings.asciiSpace" .u8 Lib.asciiSpaceTab) : Calls Tryd.prog 34 #[.string (str wordText)] w fun e w' => e = .returned (.slice (some ⟨w.heap.size, 0, none⟩) 24 24) ∧ StrsAt w' w.heap.size Lx.words ∧ Below w.heap.size w w' := by
  refine (Tryd.strings_Fields (str wordText) w len_words (fun j b h => ascii_words b (List.mem_of_getElem? h)) hT).mono ?_
  rintro e w' ⟨rfl, rfl⟩
  rw [show (str wordText).data.toList = wordText from rfl, words_fields]
  exact ⟨rfl, blk_new _ _, by go_grown⟩
set_option maxRecDepth 100000 in
theorem fields_signs (w : World) (hT : Lib.TabIs Tryd.prog w "strings.asciiSpace" .u8 Lib.asciiSpaceTab) : Calls Tryd.prog 34 #[.string (str signText)] w fun e w' => e = .returned (.slice (some ⟨w.heap.size, 0, none⟩) 25 25) ∧ StrsAt w' w.heap.size Lx.signs ∧ Below w.heap.size w w' := by
  refine (Tryd.strings_Fields (str signText) w len_signs (fun j b h => ascii_signs b (List.mem_of_getElem? h)) hT).mono ?_
  rintro e w' ⟨rfl, rfl⟩
  rw [show (str signText).data.toList = signText from rfl, signs_fields]
  exact ⟨rfl, blk_new _ _, by go_grown⟩
set_option maxRecDepth 100000 in
theorem psigns_any (B : Nat) (w : World) (hT : Tabs B w) : Calls Tryd.prog 27 #[] w fun e w' => e = .returned (.slice (some ⟨w.heap.size, 0, none⟩) 25 25) ∧ StrsAt w' w.heap.size Lx.signs ∧ Below w.heap.size w w' := by
  have HT := Lib.hid (hT _ (Below.refl _ _)).2
  clear hT
  go_enter Tryd.func27, Tryd.ntmps27
  go_wp2_with fail
  refine (fields_signs w HT.out).mono ?_
  rintro e w' ⟨rfl, h1, h2⟩
  have H1 := Lib.hid h1
  have H2 := Lib.hid h2
  clear h1 h2
  go_wp2
  go_returns
  exact ⟨rfl, H1.out, H2.out⟩
set_option maxRecDepth 100000 in
theorem reserved_any (B : Nat) (x : ByteArray) (w : World) (hT : Tabs B w) : Calls Tryd.prog 26 #[.string x] w fun e w' => e = .returned (.bool (hasB Lx.words x)) ∧ Below w.heap.size w w' := by
  have HT := Lib.hid (hT _ (Below.refl _ _)).2
  clear hT
  go_enter Tryd.func26, Tryd.ntmps26
  go_wp2_with fail
  refine (fields_words w HT.out).mono ?_
  rintro e w' ⟨rfl, h1, h2⟩
  have H1 := Lib.hid h1
  have H2 := Lib.hid h2
  clear h1 h2
  go_wp2_with fail
  refine (Tryd.slices_Contains_string w.heap.size 0 24 24 (Lx.words.map str) x _ (by decide) (by omega) H1.out.shelf).mono ?_
  rintro e w5 ⟨rfl, rfl⟩
  rw [show List.take 24 (List.map str Lx.words) = Lx.words.map str from rfl, contains_has]
  go_wp2
  go_returns
  exact ⟨rfl, H2.out⟩
end Go.Proofs.YtjickecdkmljpaaDoor
