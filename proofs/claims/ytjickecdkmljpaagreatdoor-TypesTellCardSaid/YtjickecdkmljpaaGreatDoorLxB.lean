/-
  PROVED HERE: the program's scanner goes on by one step: the end, a line feed, blanks, notes. the program's scanner goes on by one step: numbers, words. No condition beyond the lemmas' own premises.
-/
import Derived.Test.YtjickecdkmljpaaGreatDoorPsTk
import Derived.Test.YtjickecdkmljpaaGreatDoorLxP5
namespace Go.Proofs.YtjickecdkmljpaaGreatDoor
open Go.RowKit

/-- How the scanner throws. -/
def thrownF (c : Int) (j : Nat) : Ending := .panicked [{ v := .iface 89 (.agg #[.int .i64 c, .int .i64 (j : Int)]), recovered := false }]
/-- What one step leaves. -/
def NextPost (N p : Nat) (S : ByteArray) (i : Nat) (line : Bool) (acc : List Lx.Tok) (w : World) (e : Ending) (w' : World) : Prop :=
 Below N w w' ∧ ((∃ c j, Lx.go (by_ S) i line acc = .error (c, j) ∧ e = thrownF c j)
  ∨ (∃ l i', Lx.go (by_ S) i line acc = .ok l ∧ l.length ≤ acc.length + 1 ∧ e = .returned (.bool false) ∧ ScSt N p w' S i' false l)
  ∨ (∃ i' line' acc', Lx.go (by_ S) i line acc = Lx.go (by_ S) i' line' acc' ∧ i < i' ∧ i' ≤ S.size ∧ acc'.length ≤ acc.length + 1 ∧ (line' = true → acc' ≠ []) ∧ e = .returned (.bool true) ∧ ScSt N p w' S i' line' acc'))
theorem next_err {N p i : Nat} {S : ByteArray} {line : Bool} {acc : List Lx.Tok} {w w' : World} {c : Int} {j : Nat} (hb : Below N w w') (h : Lx.go (by_ S) i line acc = .error (c, j)) : NextPost N p S i line acc w (thrownF c j) w' := ⟨hb, .inl ⟨c, j, h, rfl⟩⟩
theorem next_done {N p i i' : Nat} {S : ByteArray} {line : Bool} {acc l : List Lx.Tok} {w w' : World} (hb : Below N w w') (h : Lx.go (by_ S) i line acc = .ok l) (hl : l.length ≤ acc.length + 1) (hs : ScSt N p w' S i' false l) : NextPost N p S i line acc w (.returned (.bool false)) w' := ⟨hb, .inr (.inl ⟨l, i', h, hl, rfl, hs⟩)⟩
theorem next_more {N p i i' : Nat} {S : ByteArray} {line line' : Bool} {acc acc' : List Lx.Tok} {w w' : World} (hb : Below N w w') (h : Lx.go (by_ S) i line acc = Lx.go (by_ S) i' line' acc') (h1 : i < i') (h2 : i' ≤ S.size) (hl : acc'.length ≤ acc.length + 1) (hn : line' = true → acc' ≠ []) (hs : ScSt N p w' S i' line' acc') : NextPost N p S i line acc w (.returned (.bool true)) w' := ⟨hb, .inr (.inr ⟨i', line', acc', h, h1, h2, hl, hn, rfl, hs⟩)⟩

theorem ScSt.below {N p i : Nat} {w w' : World} {S : ByteArray} {line : Bool} {acc : List Lx.Tok} (h : ScSt N p w S i line acc) (hb : Below w.heap.size w w') : ScSt N p w' S i line acc := by
 obtain ⟨v, h1, h2⟩ := h.at_;exact ⟨v, h1.below hb, own_below h2 hb (fun k hk => (h2.lt k hk).2)⟩
theorem ScSt.lt {N p i : Nat} {w : World} {S : ByteArray} {line : Bool} {acc : List Lx.Tok} (h : ScSt N p w S i line acc) : p < w.heap.size := by
 obtain ⟨v, h1, h2⟩ := h.at_;exact blk_lt h1
/-- The place is written anew. -/
theorem ScSt.move {N p i j : Nat} {w : World} {S : ByteArray} {line : Bool} {acc : List Lx.Tok} (h : ScSt N p w S i line acc) : ScSt N p (w.setCell ⟨p, 1, none⟩ (.int .i64 (j : Int))) S j line acc := by
 obtain ⟨v, h1, h2⟩ := h.at_;exact ⟨v, blk_set h1 1 _, own_set h2 h1 (by decide)⟩
theorem close_len (acc : List Lx.Tok) (line : Bool) (i : Nat) : (Lx.close acc line i).length ≤ acc.length + 1 := by
 unfold Lx.close
 repeat' split
 all_goals simp
theorem last_split {α : Type} {l : List α} (h : l ≠ []) : ∃ ini t, l = ini ++ [t] := ⟨l.dropLast, l.getLast h, (List.dropLast_concat_getLast h).symm⟩
theorem end_any (N p i : Nat) (S : ByteArray) (line : Bool) (acc : List Lx.Tok) (w : World) (h : ScSt N p w S i line acc) (hN : N ≤ p) (hn : line = true → acc ≠ []) (hl : acc.length ≤ 12000) : Calls Tryz.prog 84 #[.pointer (some ⟨p, 0, none⟩)] w (EndPost N p S i line acc w) := by
 cases line with
 | false => exact end_false N p i S acc w h hN
 | true =>
  obtain ⟨ini, t, rfl⟩ := last_split (hn rfl);exact end_true N p i S ini t w h hN (by simp at hl; omega)
/-- The rune at a byte below 128. -/
theorem rune_ascii (B p i j : Nat) (S : ByteArray) (line : Bool) (v : Value) (w : World) (c : UInt8) (hp : ScAt p w S i line v) (hj : j < S.size) (hS : S.size ≤ 6000) (hT : Tabs B w) (hc : (by_ S).getD j 0 = c) (h : c.toNat < 128) :
  Calls Tryz.prog 83 #[.pointer (some ⟨p, 0, none⟩), .int .i64 (j : Int)] w fun e w' => e = .returned (.tuple #[.int .i32 (c.toNat : Int), .int .i64 1]) ∧ Below w.heap.size w w' := by
 have hne : (by_ S).drop j ≠ [] := by intro h; have := List.drop_eq_nil_iff.1 h; rw [by_size] at this; omega
 have hd := (dec_head hne).1 (by rw [drop_head, hc]; exact h);rw [drop_head, hc] at hd;refine (rune_any B p i j S line v w hp hj hS hT).mono ?_;rintro e w' ⟨hb, ⟨h1, _⟩ | ⟨h1, rfl⟩⟩
 ·rw [hd] at h1; injection h1 with h1 h2; omega
 ·rw [hd]; exact ⟨rfl, hb⟩

set_option maxRecDepth 100000 in
set_option maxHeartbeats 1000000 in
theorem next_end (N p : Nat) (S : ByteArray) (line : Bool) (acc : List Lx.Tok) (w : World) (h : ScSt N p w S S.size line acc) (hN : N ≤ p) (hn : line = true → acc ≠ []) (hl : acc.length ≤ 12000) : Calls Tryz.prog 42 #[.pointer (some ⟨p, 0, none⟩)] w (NextPost N p S S.size line acc w) := by
 obtain ⟨v, hp, hv⟩ := h.at_;have c1 := blk_cell hp 1;simp only [List.getElem?_toArray, List.getElem?_cons_zero, List.getElem?_cons_succ] at c1;have HP := zh hp;have HS := zh h;have HN := zh hn;clear hp hv h hn
 go_enter Tryz.func42, Tryz.ntmps42
 go_wp2_with fail
 refine (rune_end p S.size S line v w HP.out).mono ?_;rintro e w' ⟨rfl, rfl⟩;go_wp2_with fail
 refine (end_any N p S.size S line acc _ HS.out hN HN.out hl).mono ?_;rintro e w5 ⟨rfl, hs5, hb5⟩;have HE : Hid (NextPost N p S S.size line acc w (.returned (.bool false)) w5) := zh (next_done hb5 (Lx.go_end (by rw [by_size]; omega)) (close_len _ _ _) hs5);clear hs5 hb5;go_wp2
 go_returns
 exact HE.out

set_option maxRecDepth 100000 in
set_option maxHeartbeats 1000000 in
theorem next_feed (B N p i : Nat) (S : ByteArray) (line : Bool) (acc : List Lx.Tok) (w : World) (h : ScSt N p w S i line acc) (hN : N ≤ p) (hn : line = true → acc ≠ []) (hl : acc.length ≤ 12000) (hi : i < S.size) (hS : S.size ≤ 6000) (hT : Tabs B w) (hc : (by_ S).getD i 0 = 10) : Calls Tryz.prog 42 #[.pointer (some ⟨p, 0, none⟩)] w (NextPost N p S i line acc w) := by
 obtain ⟨v, hp, hv⟩ := h.at_;have c1 := blk_cell hp 1;simp only [List.getElem?_toArray, List.getElem?_cons_zero, List.getElem?_cons_succ] at c1;have hpl := h.lt;have HP := zh hp;have HS := zh h;have HN := zh hn;have HT := zh hT;have HC := zh hc;clear hp hv h hn hT hc
 go_enter Tryz.func42, Tryz.ntmps42
 go_wp2_with fail
 refine (rune_ascii B p i i S line v w 10 HP.out hi hS HT.out HC.out (by decide)).mono ?_;rintro e w1 ⟨rfl, hb1⟩;have HS1 := zh (HS.out.below hb1);have HB1 := zh hb1;rw [show (((10 : UInt8).toNat : Nat) : Int) = 10 from rfl];clear hb1;go_wp2_with fail
 refine (end_any N p i S line acc _ HS1.out hN HN.out hl).mono ?_;rintro e w5 ⟨rfl, hs5, hb5⟩;obtain ⟨v5, hp5, _⟩ := hs5.at_;have d1 := blk_cell hp5 1;have d1f := blk_free hp5 1;have hl5 := hs5.lt;simp only [List.getElem?_toArray, List.getElem?_cons_zero, List.getElem?_cons_succ] at d1;have HS5 := zh hs5;have HB5 := zh ((HB1.out.mono (by omega)).trans hb5);clear hs5 hb5 hp5;go_wp2
 go_returns
 exact next_more (HB5.out.setCell (p := ⟨p, 1, none⟩) hN _) (Lx.go_feed (by rw [by_size]; exact hi) HC.out) (Nat.lt_succ_self i) (by omega) (close_len _ _ _) (fun h => by cases h) (HS5.out.move (j := i + 1))
/-- The shelf's HasPrefix, decided. -/
theorem pre_is (X g : ByteArray) (b : Bool) (w : World) (h : Hid (List.isPrefixOf (by_ g) (by_ X) = b)) : Calls Tryz.prog 68 #[.string X, .string g] w fun e w' => e = .returned (.bool b) ∧ w' = w := by
 have := Tryz.strings_HasPrefix X g w;rw [show Lib.hasPrefix X.data.toList g.data.toList = b from h.out] at this;exact this
theorem pre_cut (S g : ByteArray) (i : Nat) {b : Bool} (h : List.isPrefixOf (by_ g) ((by_ S).drop i) = b) : List.isPrefixOf (by_ g) (by_ (S.extract i S.size)) = b := by
 rw [extract_drop, by_str];exact h
theorem u8_beq (c d : UInt8) : ((c.toNat : Int) == (d.toNat : Int)) = (c == d) := by
 rw [Bool.eq_iff_iff, beq_iff_eq, beq_iff_eq, ← UInt8.toNat_inj];omega
theorem u8_ne {c : UInt8} (h : ¬ c = 10) : ((c.toNat : Int) == 10) = false := by
 have := u8_beq c 10;rw [show (((10 : UInt8).toNat : Nat) : Int) = 10 from rfl] at this;rw [this]
 simpa using h
theorem blank_eq (c : UInt8) : Lx.blank c = (((c.toNat : Int) == 32) || ((c.toNat : Int) == 9) || ((c.toNat : Int) == 13)) := by
 unfold Lx.blank;rw [← u8_beq, ← u8_beq, ← u8_beq]
 rfl
theorem blank_not {c : UInt8} (h : Lx.blank c = false) : ((c.toNat : Int) == 32) = false ∧ ((c.toNat : Int) == 9) = false ∧ ((c.toNat : Int) == 13) = false := by
 rw [blank_eq] at h;simp only [Bool.or_eq_false_iff] at h;exact ⟨h.1.1, h.1.2, h.2⟩
theorem blank_yes {c : UInt8} (h : Lx.blank c = true) : ((c.toNat : Int) == 32) = true ∨ (((c.toNat : Int) == 32) = false ∧ ((c.toNat : Int) == 9) = true) ∨ (((c.toNat : Int) == 32) = false ∧ ((c.toNat : Int) == 9) = false ∧ ((c.toNat : Int) == 13) = true) := by
 rw [blank_eq] at h
 cases h1 : ((c.toNat : Int) == 32) <;> cases h2 : ((c.toNat : Int) == 9) <;> cases h3 : ((c.toNat : Int) == 13) <;> simp_all
/-- What is known where a step begins. -/
structure AtStep (B N p i : Nat) (S : ByteArray) (line : Bool) (acc : List Lx.Tok) (w : World) (c : UInt8) : Prop where
 st : ScSt N p w S i line acc
 hN : N ≤ p
 hn : line = true → acc ≠ []
 hl : acc.length ≤ 12000
 hi : i < S.size
 hS : S.size ≤ 6000
 hT : Tabs B w
 hBp : B ≤ w.heap.size
 hc : (by_ S).getD i 0 = c
 h10 : ((c.toNat : Int) == 10) = false
theorem AtStep.ne {B N p i : Nat} {S : ByteArray} {line : Bool} {acc : List Lx.Tok} {w : World} {c : UInt8} (h : AtStep B N p i S line acc w c) : (by_ S).getD i 0 ≠ 10 := by
 intro h1;have := h.h10;rw [← h.hc, h1] at this;exact absurd this (by decide)
theorem AtStep.lt {B N p i : Nat} {S : ByteArray} {line : Bool} {acc : List Lx.Tok} {w : World} {c : UInt8} (h : AtStep B N p i S line acc w c) : i < (by_ S).length := by rw [by_size]; exact h.hi

set_option maxRecDepth 100000 in
set_option maxHeartbeats 1000000 in
theorem next_blank (B N p i : Nat) (S : ByteArray) (line : Bool) (acc : List Lx.Tok) (w : World) (c : UInt8) (h : AtStep B N p i S line acc w c) (hb : Lx.blank c = true) : Calls Tryz.prog 42 #[.pointer (some ⟨p, 0, none⟩)] w (NextPost N p S i line acc w) := by
 obtain ⟨v, hp, hv⟩ := h.st.at_;have c1 := blk_cell hp 1;simp only [List.getElem?_toArray, List.getElem?_cons_zero, List.getElem?_cons_succ] at c1;have hpl := h.st.lt;have hi := h.hi;have hS := h.hS;have h10 := h.h10;have hN := h.hN;have HG : Hid (Lx.go (by_ S) i line acc = Lx.go (by_ S) (i + 1) line acc) := zh (Lx.go_skip h.lt h.ne (by unfold Lx.stepAt; rw [h.hc, hb]; rfl) (by omega));have HP := zh hp;have HA := zh h;have hc128 : c.toNat < 128 := by
  rw [blank_eq] at hb;simp at hb;omega
 have hcases := blank_yes hb;clear hp hv h hb;rcases hcases with b1 | ⟨b1, b2⟩ | ⟨b1, b2, b3⟩
 all_goals
  go_enter Tryz.func42, Tryz.ntmps42
  go_wp2_with fail
  refine (rune_ascii B p i i S line v w c HP.out hi hS HA.out.hT HA.out.hc hc128).mono ?_;rintro e w1 ⟨rfl, hb1⟩;have hs1 := HA.out.st.below hb1;obtain ⟨v5, hp5, _⟩ := hs1.at_;have d1 := blk_cell hp5 1;have d1f := blk_free hp5 1;have hl5 := hs1.lt;simp only [List.getElem?_toArray, List.getElem?_cons_zero, List.getElem?_cons_succ] at d1;have HS1 := zh hs1;have HB1 := zh hb1;clear hb1 hs1 hp5;go_wp2
  go_returns
  exact next_more ((HB1.out.mono (by omega)).setCell (p := ⟨p, 1, none⟩) hN _) HG.out (Nat.lt_succ_self i) (by omega) (by omega) HA.out.hn (HS1.out.move (j := i + 1))

set_option maxRecDepth 100000 in
set_option maxHeartbeats 1000000 in
theorem next_note (B N p i : Nat) (S : ByteArray) (line : Bool) (acc : List Lx.Tok) (w : World) (c : UInt8) (h : AtStep B N p i S line acc w c) (hb : Lx.blank c = false) (hc128 : c.toNat < 128) (hpre : List.isPrefixOf [47, 47] ((by_ S).drop i) = true) : Calls Tryz.prog 42 #[.pointer (some ⟨p, 0, none⟩)] w (NextPost N p S i line acc w) := by
 obtain ⟨v, hp, hv⟩ := h.st.at_;have c1 := blk_cell hp 1;simp only [List.getElem?_toArray, List.getElem?_cons_zero, List.getElem?_cons_succ] at c1;have hpl := h.st.lt;have hi := h.hi;have hS := h.hS;have h10 := h.h10;have hN := h.hN;have hBp := h.hBp;have HST : Hid (∀ x, Lx.noteEnd (by_ S) i = x → Lx.stepAt (by_ S) i = match x with | .error j => .bad 2 j | .ok j => .skip j) := zh (fun x hx => by unfold Lx.stepAt; rw [h.hc, hb, hpre, hx]; rfl);have HP := zh hp;have HA := zh h;have HPre := zh (pre_cut S ⟨#[47, 47]⟩ i hpre);obtain ⟨b1, b2, b3⟩ := blank_not hb;clear hp hv h hb hpre
 go_enter Tryz.func42, Tryz.ntmps42
 go_wp2_with fail
 refine (rune_ascii B p i i S line v w c HP.out hi hS HA.out.hT HA.out.hc hc128).mono ?_;rintro e w1 ⟨rfl, hb1⟩;have hp1 := HP.out.below hb1;have d0 := blk_cell hp1 0;have d1 := blk_cell hp1 1;simp only [List.getElem?_toArray, List.getElem?_cons_zero, List.getElem?_cons_succ] at d0 d1;have HB1 := zh hb1;have hs1 := hb1.size;clear hb1 hp1;go_wp2_with fail
 go_quiet ((go_at_call 68; exact Calls.quiet_of_same (pre_is _ _ _ _ HPre)))
 have HB2 : Hid (Below w.heap.size w (w1.drewN nq)) := zh (HB1.out.trans ⟨rfl, rfl, rfl, Nat.le_refl _, fun _ _ => rfl⟩);clear HB1 d0 d1;generalize w1.drewN nq = w2 at *;go_wp2_with fail
 refine (note_any B p i S line v w2 (HP.out.below HB2.out) (by omega) hS (HA.out.hT.below HB2.out hBp) (by have := HB2.out.size; omega)).mono ?_;rintro e w5 ⟨hb5, ⟨j, hj, rfl⟩ | ⟨j, hj, hjS, rfl⟩⟩
 ·have HB5 := zh ((HB2.out.mono (by omega)).trans (hb5.mono (B' := N) (by have := HB2.out.size; omega)));have HE : Hid (NextPost N p S i line acc w (thrownF 2 j) w5) := zh (next_err HB5.out (Lx.go_bad HA.out.lt HA.out.ne (HST.out _ hj)))
  clear hb5 hj;go_wp2
  exact ⟨rfl, HE.out⟩
 ·have hs5 := (HA.out.st.below HB2.out).below hb5;have HB5 := zh ((HB2.out.mono (by omega)).trans (hb5.mono (B' := N) (by have := HB2.out.size; omega)))
  have hgt := Lx.noteEnd_gt hj HA.out.lt HA.out.ne;have HG : Hid (Lx.go (by_ S) i line acc = Lx.go (by_ S) j line acc) := zh (Lx.go_skip HA.out.lt HA.out.ne (HST.out _ hj) hgt);obtain ⟨v5, hp5, _⟩ := hs5.at_;have e1 := blk_cell hp5 1;have e1f := blk_free hp5 1;have hl5 := hs5.lt;simp only [List.getElem?_toArray, List.getElem?_cons_zero, List.getElem?_cons_succ] at e1;have HS5 := zh hs5;clear hb5 hj hs5 hp5;go_wp2
  go_returns
  exact next_more (HB5.out.setCell (p := ⟨p, 1, none⟩) hN _) HG.out hgt hjS (by omega) HA.out.hn (HS5.out.move (j := j))
end Go.Proofs.YtjickecdkmljpaaGreatDoor
namespace Go.Proofs.YtjickecdkmljpaaGreatDoor
open Go.RowKit

theorem step_word {s : List UInt8} {i : Nat} (h1 : Lx.blank (s.getD i 0) = false) (h2 : List.isPrefixOf [47, 47] (s.drop i) = false) (h3 : Lx.letter (s.getD i 0) = true) : Lx.stepAt s i = .tok ⟨if Lx.words.contains (Lx.cut s i (Lx.spanEnd Lx.wordC s i)) then 4 else 1, Lx.cut s i (Lx.spanEnd Lx.wordC s i), 0, i⟩ (Lx.spanEnd Lx.wordC s i) := by
 unfold Lx.stepAt;rw [if_neg (by rw [h1]; simp), if_neg (by rw [h2]; simp), if_pos h3]
theorem step_num {s : List UInt8} {i : Nat} (h1 : Lx.blank (s.getD i 0) = false) (h2 : List.isPrefixOf [47, 47] (s.drop i) = false) (h3 : Lx.letter (s.getD i 0) = false) (h4 : Lx.digit (s.getD i 0) = true) : Lx.stepAt s i = if 9 < (Lx.cut s i (Lx.spanEnd Lx.digit s i)).length ∨ (1 < (Lx.cut s i (Lx.spanEnd Lx.digit s i)).length ∧ s.getD i 0 = 48) then .bad 3 i else .tok ⟨2, Lx.cut s i (Lx.spanEnd Lx.digit s i), Lx.numVal (Lx.cut s i (Lx.spanEnd Lx.digit s i)), i⟩ (Lx.spanEnd Lx.digit s i) := by
 unfold Lx.stepAt;rw [if_neg (by rw [h1]; simp), if_neg (by rw [h2]; simp), if_neg (by rw [h3]; simp), if_pos h4]
theorem step_sign {s : List UInt8} {i : Nat} {x : Option (List UInt8)} (h1 : Lx.blank (s.getD i 0) = false) (h2 : List.isPrefixOf [47, 47] (s.drop i) = false) (h3 : Lx.letter (s.getD i 0) = false) (h4 : Lx.digit (s.getD i 0) = false) (h5 : Lx.firstSign (s.drop i) = x) : Lx.stepAt s i = match x with | none => .bad 2 i | some g => .tok ⟨3, g, 0, i⟩ (i + g.length) := by
 unfold Lx.stepAt;rw [if_neg (by rw [h1]; simp), if_neg (by rw [h2]; simp), if_neg (by rw [h3]; simp), if_neg (by rw [h4]; simp)]
 split <;> rename_i h6 <;> rw [h6] at h5 <;> subst h5 <;> rfl
theorem find_none {l : List (List UInt8)} {p : List UInt8 → Bool} (h : ∀ x ∈ l, p x = false) : l.find? p = none := by
 rw [List.find?_eq_none];intro x hx;rw [h x hx];simp
theorem find_at {l : List (List UInt8)} {p : List UInt8 → Bool} {n : Nat} (hn : n < l.length) (h : ∀ x ∈ l.take n, p x = false) (hp : p (l.getD n []) = true) : l.find? p = some (l.getD n []) := by
 have e : l = l.take n ++ l.getD n [] :: l.drop (n + 1) := by
  have h1 : l.getD n [] = l[n] := by simp [List.getElem?_eq_getElem hn]
  rw [h1, ← List.drop_eq_getElem_cons hn, List.take_append_drop]
 have h2 : (l.take n ++ l.getD n [] :: l.drop (n + 1)).find? p = some (l.getD n []) := by
  rw [List.find?_append, find_none h, Option.none_or, List.find?_cons, hp]
 rw [← e] at h2;exact h2
theorem signs_ne : ∀ n, n < 25 → Lx.signs.getD n [] ≠ [] ∧ (Lx.signs.getD n []).length ≤ 2 := by decide +kernel

theorem pdigit_is (c : UInt8) (b : Bool) (w : World) (h : Hid (Lx.digit c = b)) : Calls Tryz.prog 86 #[.int .i32 (c.toNat : Int)] w fun e w' => e = .returned (.bool b) ∧ w = w' := by
 have := pdigit_any c w;rw [h.out] at this;exact this
theorem pletter_is (c : UInt8) (b : Bool) (w : World) (h : Hid (Lx.letter c = b)) : Calls Tryz.prog 89 #[.int .i32 (c.toNat : Int)] w fun e w' => e = .returned (.bool b) ∧ w = w' := by
 have := pletter_any c w;rw [h.out] at this;exact this
theorem reserved_is (B : Nat) (x : ByteArray) (b : Bool) (w : World) (hT : Tabs B w) (h : Hid (hasB Lx.words x = b)) : Calls Tryz.prog 91 #[.string x] w fun e w' => e = .returned (.bool b) ∧ Below w.heap.size w w' := by
 have := reserved_any B x w hT;rw [h.out] at this;exact this
theorem letter_digit (c : UInt8) (h : Lx.digit c = true) : Lx.letter c = false := by
 rw [letter_iff, decide_eq_false_iff_not];rw [digit_iff, decide_eq_true_eq] at h;omega
theorem digit_letter (c : UInt8) (h : Lx.letter c = true) : Lx.digit c = false := by
 cases hd : Lx.digit c with
 | false => rfl
 | true => rw [letter_digit c hd] at h; cases h
theorem letter_low (c : UInt8) (h : Lx.letter c = true) : c.toNat < 128 := by
 rw [letter_iff, decide_eq_true_eq] at h;omega
theorem digit_low (c : UInt8) (h : Lx.digit c = true) : c.toNat < 128 := by
 rw [digit_iff, decide_eq_true_eq] at h;omega
theorem cut_len (S : ByteArray) (k j : Nat) (hk : k ≤ j) (hj : j ≤ S.size) : (Lx.cut (by_ S) k j).length = j - k := by rw [← by_extract, by_size, cut_size S k j hk hj]

set_option maxRecDepth 100000 in
set_option maxHeartbeats 1000000 in
theorem next_digit (B N p i : Nat) (S : ByteArray) (line : Bool) (acc : List Lx.Tok) (w : World) (c : UInt8) (h : AtStep B N p i S line acc w c) (hb : Lx.blank c = false) (hpre : List.isPrefixOf [47, 47] ((by_ S).drop i) = false) (hdg : Lx.digit c = true) : Calls Tryz.prog 42 #[.pointer (some ⟨p, 0, none⟩)] w (NextPost N p S i line acc w) := by
 obtain ⟨v, hp, hv⟩ := h.st.at_;have c1 := blk_cell hp 1;simp only [List.getElem?_toArray, List.getElem?_cons_zero, List.getElem?_cons_succ] at c1;have hpl := h.st.lt;have hi := h.hi;have hS := h.hS;have h10 := h.h10;have hN := h.hN;have hBp := h.hBp;have hc128 := digit_low c hdg;have hst := step_num (s := by_ S) (i := i) (by rw [h.hc]; exact hb) hpre (by rw [h.hc]; exact letter_digit c hdg) (by rw [h.hc]; exact hdg);have hjg := Lx.spanEnd_gt (p := Lx.digit) h.lt (by rw [h.hc]; exact hdg);have hjl := Lx.spanEnd_le (p := Lx.digit) (s := by_ S) (i := i) (Nat.le_of_lt h.lt);rw [by_size] at hjl;rw [cut_len S i _ (by omega) hjl] at hst;have HALL := zh (span_all Lx.digit (by_ S) i (Nat.le_of_lt h.lt));have HST := zh hst;have HP := zh hp;have HA := zh h;have HPre := zh (pre_cut S ⟨#[47, 47]⟩ i hpre);have HD := zh hdg;obtain ⟨b1, b2, b3⟩ := blank_not hb;clear hp hv h hb hpre hst hdg
 go_enter Tryz.func42, Tryz.ntmps42
 go_wp2_with fail
 refine (rune_ascii B p i i S line v w c HP.out hi hS HA.out.hT HA.out.hc hc128).mono ?_;rintro e w1 ⟨rfl, hb1⟩;have hp1 := HP.out.below hb1;have d0 := blk_cell hp1 0;have d1 := blk_cell hp1 1;simp only [List.getElem?_toArray, List.getElem?_cons_zero, List.getElem?_cons_succ] at d0 d1;have HB1 := zh hb1;have hs1 := hb1.size;clear hb1 hp1;go_wp2_with fail
 go_quiet ((go_at_call 68; exact Calls.quiet_of_same (pre_is _ _ _ _ HPre)))
 have HB2 : Hid (Below w.heap.size w (w1.drewN nq)) := zh (HB1.out.trans ⟨rfl, rfl, rfl, Nat.le_refl _, fun _ _ => rfl⟩);clear HB1 d0 d1;generalize w1.drewN nq = w2 at *;go_wp2_with fail
 refine (pdigit_is c true w2 HD).mono ?_;rintro e w3 ⟨rfl, rfl⟩;go_wp2_with fail
 refine (while_digit p i S line v w2 (HP.out.below HB2.out) (by omega) hS).mono ?_;rintro e w3 ⟨rfl, rfl⟩;have hs2 := HB2.out.size;generalize Lx.spanEnd Lx.digit (by_ S) i = j at *;go_wp2_with fail
 by_cases hbad : 9 < j - i ∨ (1 < j - i ∧ (by_ S).getD i 0 = 48)
 ·refine (put_bad N p i j S line acc w2 (HA.out.st.below HB2.out) hN hjg hjl hS hbad).mono ?_;rintro e w5 ⟨rfl, hb5⟩
  have HE : Hid (NextPost N p S i line acc w (thrownF 3 i) w5) := zh (next_err ((HB2.out.mono (by omega)).trans hb5) (Lx.go_bad HA.out.lt HA.out.ne (by rw [HST.out, if_pos hbad])));clear hb5 hbad;go_wp2
  exact ⟨rfl, HE.out⟩
 ·refine (put_num N p i j S line acc w2 (HA.out.st.below HB2.out) hN hjg hjl hS hbad HALL.out (by have := HA.out.hl; omega)).mono ?_;rintro e w5 ⟨rfl, hs5, hb5⟩
  have HE : Hid (NextPost N p S i line acc w (.returned (.bool true)) w5) := zh (next_more ((HB2.out.mono (by omega)).trans hb5) (Lx.go_tok HA.out.lt HA.out.ne (by rw [HST.out, if_neg hbad]) hjg) hjg hjl (by simp) (fun _ => by simp) hs5);clear hb5 hbad hs5;go_wp2
  go_returns
  exact HE.out

set_option maxRecDepth 100000 in
set_option maxHeartbeats 1000000 in
theorem next_letter (B N p i : Nat) (S : ByteArray) (line : Bool) (acc : List Lx.Tok) (w : World) (c : UInt8) (h : AtStep B N p i S line acc w c) (hb : Lx.blank c = false) (hpre : List.isPrefixOf [47, 47] ((by_ S).drop i) = false) (hlt : Lx.letter c = true) : Calls Tryz.prog 42 #[.pointer (some ⟨p, 0, none⟩)] w (NextPost N p S i line acc w) := by
 obtain ⟨v, hp, hv⟩ := h.st.at_;have c1 := blk_cell hp 1;simp only [List.getElem?_toArray, List.getElem?_cons_zero, List.getElem?_cons_succ] at c1;have hpl := h.st.lt;have hi := h.hi;have hS := h.hS;have h10 := h.h10;have hN := h.hN;have hBp := h.hBp;have hc128 := letter_low c hlt;have hst := step_word (s := by_ S) (i := i) (by rw [h.hc]; exact hb) hpre (by rw [h.hc]; exact hlt);have hjg := Lx.spanEnd_gt (p := Lx.wordC) h.lt (by rw [h.hc]; unfold Lx.wordC; rw [hlt]; rfl);have hjl := Lx.spanEnd_le (p := Lx.wordC) (s := by_ S) (i := i) (Nat.le_of_lt h.lt);rw [by_size] at hjl;have HST := zh hst;have HP := zh hp;have HA := zh h;have HPre := zh (pre_cut S ⟨#[47, 47]⟩ i hpre);have HD := zh (digit_letter c hlt);have HL := zh hlt;obtain ⟨b1, b2, b3⟩ := blank_not hb;clear hp hv h hb hpre hst hlt
 go_enter Tryz.func42, Tryz.ntmps42
 go_wp2_with fail
 refine (rune_ascii B p i i S line v w c HP.out hi hS HA.out.hT HA.out.hc hc128).mono ?_;rintro e w1 ⟨rfl, hb1⟩;have hp1 := HP.out.below hb1;have d0 := blk_cell hp1 0;have d1 := blk_cell hp1 1;simp only [List.getElem?_toArray, List.getElem?_cons_zero, List.getElem?_cons_succ] at d0 d1;have HB1 := zh hb1;have hs1 := hb1.size;clear hb1 hp1;go_wp2_with fail
 go_quiet ((go_at_call 68; exact Calls.quiet_of_same (pre_is _ _ _ _ HPre)))
 have HB2 : Hid (Below w.heap.size w (w1.drewN nq)) := zh (HB1.out.trans ⟨rfl, rfl, rfl, Nat.le_refl _, fun _ _ => rfl⟩);clear HB1 d0 d1;generalize w1.drewN nq = w2 at *;go_wp2_with fail
 refine (pdigit_is c false w2 HD).mono ?_;rintro e w3 ⟨rfl, rfl⟩;go_wp2_with fail
 refine (pletter_is c true w2 HL).mono ?_;rintro e w3 ⟨rfl, rfl⟩;go_wp2_with fail
 refine (while_word p i S line v w2 (HP.out.below HB2.out) (by omega) hS).mono ?_;rintro e w3 ⟨rfl, rfl⟩;have hs2 := HB2.out.size;generalize Lx.spanEnd Lx.wordC (by_ S) i = j at *;have hp2 := HP.out.below HB2.out;have d0 := blk_cell hp2 0;have d1 := blk_cell hp2 1;have hpl2 := blk_lt hp2;simp only [List.getElem?_toArray, List.getElem?_cons_zero, List.getElem?_cons_succ] at d0 d1;have HT2 := zh (HA.out.hT.below HB2.out hBp);have HXC := zh (by_extract S i j);clear hp2;have hB2 : B ≤ w2.heap.size := by omega
 have bi0 : (0 : Int) ≤ (i : Int) := by omega
 have bi1 : (i : Int) ≤ (j : Int) := by omega
 have bi2 : (j : Int) ≤ (S.size : Int) := by omega
 cases hw : hasB Lx.words (S.extract i j) with
 | false =>
  have HW := zh hw;have HG : Hid (Lx.go (by_ S) i line acc = Lx.go (by_ S) j true (acc ++ [⟨1, Lx.cut (by_ S) i j, 0, i⟩])) := zh (Lx.go_tok HA.out.lt HA.out.ne (by
   rw [HST.out, ← HXC.out];unfold hasB at hw;rw [hw]
   rfl) hjg)
  clear hw;go_wp2_with fail
  go_region_held3 (fun w' => w'.cell? ⟨p, 0, none⟩ = some (.string S) ∧ w'.cell? ⟨p, 1, none⟩ = some (.int .i64 (i : Int))) ((refine ⟨?_, ?_⟩ <;> assumption))
   ((go_at_call 91; refine (reserved_is B _ false _ (HT2.out.below ((Below.refl _ _).drew) hB2) HW).mono ?_; rintro e w5 ⟨rfl, hb5⟩; have hb6 : Below w2.heap.size w2 w5 := ((Below.refl w2.heap.size w2).drew).trans hb5; have y0 := (hb6.cell (p := ⟨p, 0, none⟩) hpl2).trans d0; have y1 := (hb6.cell (p := ⟨p, 1, none⟩) hpl2).trans d1))
  have HS5 := zh ((HA.out.st.below HB2.out).below hb6);have HB6 := zh (hb6.mono (B' := N) (by omega));clear hb5 hb6 d0 d1 y0 y1;go_wp2_with fail
  refine (put_tok N p i j 1 S line acc w5 HS5.out hN (Nat.le_of_lt hjg) hjl hS (by decide) (by have := HA.out.hl; omega)).mono ?_;rintro e w7 ⟨rfl, hs7, hb7⟩;have HE : Hid (NextPost N p S i line acc w (.returned (.bool true)) w7) := zh (next_more (((HB2.out.mono (by omega)).trans HB6.out).trans hb7) HG.out hjg hjl (by simp) (fun _ => by simp) hs7);clear hb7 hs7;go_wp2
  go_returns
  exact HE.out
 | true =>
  have HW := zh hw;have HG : Hid (Lx.go (by_ S) i line acc = Lx.go (by_ S) j true (acc ++ [⟨4, Lx.cut (by_ S) i j, 0, i⟩])) := zh (Lx.go_tok HA.out.lt HA.out.ne (by
   rw [HST.out, ← HXC.out];unfold hasB at hw;rw [hw]
   rfl) hjg)
  clear hw;go_wp2_with fail
  go_region_held3 (fun w' => w'.cell? ⟨p, 0, none⟩ = some (.string S) ∧ w'.cell? ⟨p, 1, none⟩ = some (.int .i64 (i : Int))) ((refine ⟨?_, ?_⟩ <;> assumption))
   ((go_at_call 91; refine (reserved_is B _ true _ (HT2.out.below ((Below.refl _ _).drew) hB2) HW).mono ?_; rintro e w5 ⟨rfl, hb5⟩; have hb6 : Below w2.heap.size w2 w5 := ((Below.refl w2.heap.size w2).drew).trans hb5; have y0 := (hb6.cell (p := ⟨p, 0, none⟩) hpl2).trans d0; have y1 := (hb6.cell (p := ⟨p, 1, none⟩) hpl2).trans d1))
  have HS5 := zh ((HA.out.st.below HB2.out).below hb6);have HB6 := zh (hb6.mono (B' := N) (by omega));clear hb5 hb6 d0 d1 y0 y1;go_wp2_with fail
  refine (put_tok N p i j 4 S line acc w5 HS5.out hN (Nat.le_of_lt hjg) hjl hS (by decide) (by have := HA.out.hl; omega)).mono ?_;rintro e w7 ⟨rfl, hs7, hb7⟩;have HE : Hid (NextPost N p S i line acc w (.returned (.bool true)) w7) := zh (next_more (((HB2.out.mono (by omega)).trans HB6.out).trans hb7) HG.out hjg hjl (by simp) (fun _ => by simp) hs7);clear hb7 hs7;go_wp2
  go_returns
  exact HE.out
end Go.Proofs.YtjickecdkmljpaaGreatDoor
