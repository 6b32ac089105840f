/-
  PROVED HERE, WITHOUT ANY PROGRAM IN SIGHT: how a text is cut into tokens (chapter 1, A1 to A3). No condition beyond the lemmas' own premises.
-/
import Derived.Shelf.Unicode.DecodeSlow
namespace Go.Proofs.YtjickecdkmljpaaGreatDoor.Lx

/-- The rune at the head of bytes, and how many bytes it takes. -/
def dec (l : List UInt8) : Nat × Nat := Lib.decodeGo ⟨l.toArray⟩

structure Tok where
 kind : Int
 text : List UInt8
 num : Int
 pos : Nat

def letter (c : UInt8) : Bool := c == 95 || (97 ≤ c && c ≤ 122) || (65 ≤ c && c ≤ 90)
def digit (c : UInt8) : Bool := 48 ≤ c && c ≤ 57
def wordC (c : UInt8) : Bool := letter c || digit c
def blank (c : UInt8) : Bool := c == 32 || c == 9 || c == 13
def words : List (List UInt8) := [[102, 117, 110, 99], [116, 121, 112, 101], [115, 116, 114, 117, 99, 116], [105, 110, 116, 101, 114, 102, 97, 99, 101], [105, 102], [101, 108, 115, 101], [102, 111, 114], [114, 101, 116, 117, 114, 110], [98, 114, 101, 97, 107], [115, 101, 108, 101, 99, 116], [99, 97, 115, 101], [100, 101, 102, 97, 117, 108, 116], [103, 111], [99, 108, 111, 115, 101], [112, 97, 110, 105, 99], [112, 114, 105, 110, 116], [110, 101, 119], [109, 97, 107, 101], [99, 104, 97, 110], [105, 110, 116], [98, 111, 111, 108], [110, 105, 108], [116, 114, 117, 101], [102, 97, 108, 115, 101]]
def signs : List (List UInt8) := [[60, 45], [61, 61], [33, 61], [60, 61], [62, 61], [38, 38], [124, 124], [58, 61], [40], [41], [123], [125], [46], [44], [59], [58], [42], [43], [45], [47], [37], [60], [62], [61], [33]]
def enders : List (List UInt8) := [[114, 101, 116, 117, 114, 110], [98, 114, 101, 97, 107], [105, 110, 116], [98, 111, 111, 108], [110, 105, 108], [116, 114, 117, 101], [102, 97, 108, 115, 101]]

/-- Does a line that ends with a token get a semicolon? -/
def ends (t : Tok) : Bool :=
 if t.kind = 1 ∨ t.kind = 2 then true else if t.kind = 3 then t.text == [41] || t.text == [125] else enders.contains t.text
def semi (i : Nat) : Tok := ⟨3, [59], 0, i⟩
def close (acc : List Tok) (line : Bool) (i : Nat) : List Tok :=
 if line then match acc.getLast? with
  | some t => if ends t then acc ++ [semi i] else acc
  | none => acc
 else acc

/-- Where letters end. -/
def spanEnd (p : UInt8 → Bool) (s : List UInt8) (i : Nat) : Nat := if i < s.length ∧ p (s.getD i 0) = true then spanEnd p s (i + 1) else i
termination_by s.length - i
decreasing_by omega

/-- Where a note ends; or where bytes begin no rune. -/
def noteEnd (s : List UInt8) (i : Nat) : Except Nat Nat :=
 if i < s.length ∧ s.getD i 0 ≠ 10 then
  if dec (s.drop i) = (65533, 1) then .error i else noteEnd s (i + max 1 (dec (s.drop i)).2)
 else .ok i
termination_by s.length - i
decreasing_by omega

def numVal (l : List UInt8) : Int := l.foldl (fun a c => 10 * a + ((c.toNat : Int) - 48)) 0
def cut (s : List UInt8) (i j : Nat) : List UInt8 := (s.drop i).take (j - i)
def firstSign (l : List UInt8) : Option (List UInt8) := signs.find? fun g => g.isPrefixOf l

inductive Step where
 | skip (to : Nat)
 | tok (t : Tok) (to : Nat)
 | bad (code : Int) (pos : Nat)

/-- What stands at a place that is no line feed. -/
def stepAt (s : List UInt8) (i : Nat) : Step :=
 if blank (s.getD i 0) then .skip (i + 1)
 else if [47, 47].isPrefixOf (s.drop i) then match noteEnd s i with
  | .error j => .bad 2 j
  | .ok j => .skip j
 else if letter (s.getD i 0) then .tok ⟨if words.contains (cut s i (spanEnd wordC s i)) then 4 else 1, cut s i (spanEnd wordC s i), 0, i⟩ (spanEnd wordC s i)
 else if digit (s.getD i 0) then
  if 9 < (cut s i (spanEnd digit s i)).length ∨ (1 < (cut s i (spanEnd digit s i)).length ∧ s.getD i 0 = 48) then .bad 3 i
  else .tok ⟨2, cut s i (spanEnd digit s i), numVal (cut s i (spanEnd digit s i)), i⟩ (spanEnd digit s i)
 else match firstSign (s.drop i) with
  | none => .bad 2 i
  | some g => .tok ⟨3, g, 0, i⟩ (i + g.length)

/-- The tokens from a place on. -/
def go (s : List UInt8) (i : Nat) (line : Bool) (acc : List Tok) : Except (Int × Nat) (List Tok) :=
 if i < s.length then
  if s.getD i 0 = 10 then go s (i + 1) false (close acc line i)
  else match stepAt s i with
   | .bad c j => .error (c, j)
   | .skip to => go s (max (i + 1) to) line acc
   | .tok t to => go s (max (i + 1) to) true (acc ++ [t])
 else .ok (close acc line i)
termination_by s.length - i
decreasing_by all_goals omega

def scan (s : List UInt8) : Except (Int × Nat) (List Tok) := if 6000 < s.length then .error (1, 0) else go s 0 false []

theorem go_end {s : List UInt8} {i : Nat} {line : Bool} {acc : List Tok} (h : ¬ i < s.length) : go s i line acc = .ok (close acc line i) := by rw [go, if_neg h]
theorem go_feed {s : List UInt8} {i : Nat} {line : Bool} {acc : List Tok} (h : i < s.length) (h2 : s.getD i 0 = 10) : go s i line acc = go s (i + 1) false (close acc line i) := by rw [go, if_pos h, if_pos h2]
theorem go_skip {s : List UInt8} {i to : Nat} {line : Bool} {acc : List Tok} (h : i < s.length) (h2 : s.getD i 0 ≠ 10) (h3 : stepAt s i = .skip to) (h4 : i < to) : go s i line acc = go s to line acc := by
 rw [go, if_pos h, if_neg h2, h3];dsimp only;rw [show max (i + 1) to = to by omega]
theorem go_tok {s : List UInt8} {i to : Nat} {line : Bool} {acc : List Tok} {t : Tok} (h : i < s.length) (h2 : s.getD i 0 ≠ 10) (h3 : stepAt s i = .tok t to) (h4 : i < to) : go s i line acc = go s to true (acc ++ [t]) := by
 rw [go, if_pos h, if_neg h2, h3];dsimp only;rw [show max (i + 1) to = to by omega]
theorem go_bad {s : List UInt8} {i j : Nat} {line : Bool} {acc : List Tok} {c : Int} (h : i < s.length) (h2 : s.getD i 0 ≠ 10) (h3 : stepAt s i = .bad c j) : go s i line acc = .error (c, j) := by
 rw [go, if_pos h, if_neg h2, h3]

theorem spanEnd_more {p : UInt8 → Bool} {s : List UInt8} {i : Nat} (h : i < s.length) (h2 : p (s.getD i 0) = true) : spanEnd p s i = spanEnd p s (i + 1) := by rw [spanEnd, if_pos ⟨h, h2⟩]
theorem spanEnd_end {p : UInt8 → Bool} {s : List UInt8} {i : Nat} (h : ¬ (i < s.length ∧ p (s.getD i 0) = true)) : spanEnd p s i = i := by rw [spanEnd, if_neg h]
theorem spanEnd_ge (p : UInt8 → Bool) (s : List UInt8) (i : Nat) : i ≤ spanEnd p s i := by
 rw [spanEnd]
 split
 ·have := spanEnd_ge p s (i + 1);omega
 ·exact Nat.le_refl _
termination_by s.length - i
decreasing_by omega
theorem spanEnd_le {p : UInt8 → Bool} {s : List UInt8} {i : Nat} (h : i ≤ s.length) : spanEnd p s i ≤ s.length := by
 rw [spanEnd]
 split
 ·exact spanEnd_le (by omega)
 ·exact h
termination_by s.length - i
decreasing_by omega
theorem spanEnd_gt {p : UInt8 → Bool} {s : List UInt8} {i : Nat} (h : i < s.length) (h2 : p (s.getD i 0) = true) : i < spanEnd p s i := by
 rw [spanEnd_more h h2];exact spanEnd_ge p s (i + 1)
theorem noteEnd_more {s : List UInt8} {i : Nat} (h : i < s.length) (h2 : s.getD i 0 ≠ 10) (h3 : dec (s.drop i) ≠ (65533, 1)) : noteEnd s i = noteEnd s (i + max 1 (dec (s.drop i)).2) := by rw [noteEnd, if_pos ⟨h, h2⟩, if_neg h3]
theorem noteEnd_bad {s : List UInt8} {i : Nat} (h : i < s.length) (h2 : s.getD i 0 ≠ 10) (h3 : dec (s.drop i) = (65533, 1)) : noteEnd s i = .error i := by rw [noteEnd, if_pos ⟨h, h2⟩, if_pos h3]
theorem noteEnd_end {s : List UInt8} {i : Nat} (h : ¬ (i < s.length ∧ s.getD i 0 ≠ 10)) : noteEnd s i = .ok i := by rw [noteEnd, if_neg h]
theorem noteEnd_ge {s : List UInt8} {i j : Nat} (h : noteEnd s i = .ok j) : i ≤ j := by
 rw [noteEnd] at h
 split at h
 ·split at h
  ·cases h
  ·have := noteEnd_ge h;omega
 ·cases h; exact Nat.le_refl _
termination_by s.length - i
decreasing_by omega
theorem noteEnd_gt {s : List UInt8} {i j : Nat} (h : noteEnd s i = .ok j) (hi : i < s.length) (h2 : s.getD i 0 ≠ 10) : i < j := by
 by_cases h3 : dec (s.drop i) = (65533, 1)
 ·rw [noteEnd_bad hi h2 h3] at h
  cases h
 ·rw [noteEnd_more hi h2 h3] at h;have := noteEnd_ge h
  omega
theorem decN_bd (n b0 b1 b2 b3 : Nat) (hn : 0 < n) (h0 : b0 < 256) : 1 ≤ (Lib.decodeN n b0 b1 b2 b3).2 ∧ (Lib.decodeN n b0 b1 b2 b3).2 ≤ n ∧ (Lib.decodeN n b0 b1 b2 b3).1 ≤ 1114111 := by
 unfold Lib.decodeN
 repeat' split
 all_goals (simp; try omega)
theorem dec_bd {l : List UInt8} (h : l ≠ []) : 1 ≤ (dec l).2 ∧ (dec l).2 ≤ l.length ∧ (dec l).1 ≤ 1114111 := by
 have hl : 0 < l.length := List.length_pos_iff.2 h;have hs : (⟨l.toArray⟩ : ByteArray).size = l.length := by show l.toArray.size = _; simp
 unfold dec Lib.decodeGo;rw [if_neg (by rw [hs]; omega), Lib.decode_at, Nat.sub_zero, hs];exact decN_bd _ _ _ _ _ hl (UInt8.toNat_lt _)
end Go.Proofs.YtjickecdkmljpaaGreatDoor.Lx
