/-
  PROVED HERE, WITHOUT ANY PROGRAM IN SIGHT: each token of a text stands where it is told to stand, and between tokens are blanks, line feeds and notes alone. No condition beyond the lemmas' own premises.
-/
import Derived.Test.YtjickecdkmljpaaDoorLx
namespace Go.Proofs.YtjickecdkmljpaaDoor.Lx

/-- Do two strokes stand at a place, ahead of an end? -/
def pairAt (s : List UInt8) (e k : Nat) : Bool := decide (k + 1 < e) && (s.getD k 0 == 47 && s.getD (k + 1) 0 == 47)
/-- Is it a note behind a place? -/
def noteNext (s : List UInt8) (e k : Nat) (note : Bool) : Bool := (note || pairAt s e k) && s.getD k 0 != 10
/-- From a place up to an end: blanks, line feeds and notes alone? -/
def gapFrom (s : List UInt8) (e k : Nat) (note : Bool) : Bool :=
  if k < e then (noteNext s e k note || (blank (s.getD k 0) || s.getD k 0 == 10)) && gapFrom s e (k + 1) (noteNext s e k note)
  else true
termination_by e - k
decreasing_by omega
theorem gap_end {s : List UInt8} {e k : Nat} {note : Bool} (h : ¬ k < e) : gapFrom s e k note = true := by rw [gapFrom, if_neg h]
theorem gap_step {s : List UInt8} {e k : Nat} {note : Bool} (h : k < e) : gapFrom s e k note = ((noteNext s e k note || (blank (s.getD k 0) || s.getD k 0 == 10)) && gapFrom s e (k + 1) (noteNext s e k note)) := by rw [gapFrom, if_pos h]

/-- Where a token that is looked for at a place ends. -/
def tokTo (s : List UInt8) (t : Tok) : Option Nat :=
  if t.pos + t.text.length ≤ s.length ∧ cut s t.pos (t.pos + t.text.length) = t.text then some (t.pos + t.text.length)
  else if t.text ≠ [59] ∨ (t.pos < s.length ∧ s.getD t.pos 0 ≠ 10) then none else some t.pos
/-- Tokens, one behind the other, from a place on: where the last one ends. -/
def upto (s : List UInt8) : List Tok → Nat → Option Nat
  | [], a => some a
  | t :: l, a => if (a ≤ t.pos ∧ t.pos ≤ s.length) ∧ gapFrom s t.pos a false = true then (tokTo s t).bind (upto s l) else none
/-- The rest of tokens is as the law asks. -/
def Rest (s : List UInt8) (l : List Tok) (a : Nat) : Prop := ∃ b, upto s l a = some b ∧ b ≤ s.length ∧ gapFrom s s.length b false = true
theorem upto_snoc {s : List UInt8} {l : List Tok} {t : Tok} {a b : Nat} (h : upto s l a = some b) (h1 : b ≤ t.pos) (h2 : t.pos ≤ s.length) (h3 : gapFrom s t.pos b false = true) : upto s (l ++ [t]) a = tokTo s t := by
  induction l generalizing a with
  | nil =>
    simp only [upto, Option.some.injEq] at h
    subst h
    simp only [List.nil_append, upto]
    rw [if_pos ⟨⟨h1, h2⟩, h3⟩]
    cases tokTo s t <;> rfl
  | cons x l ih =>
    simp only [List.cons_append, upto] at h ⊢
    split at h
    · rename_i hc
      rw [if_pos hc]
      cases hx : tokTo s x with
      | none => rw [hx] at h; cases h
      | some c => rw [hx] at h; exact ih h
    · cases h
theorem Rest.cons {s : List UInt8} {t : Tok} {l : List Tok} {a : Nat} (h : Rest s (t :: l) a) : a ≤ t.pos ∧ t.pos ≤ s.length ∧ gapFrom s t.pos a false = true ∧ ∃ c, tokTo s t = some c ∧ Rest s l c := by
  obtain ⟨b, h1, h2, h3⟩ := h
  simp only [upto] at h1
  split at h1
  · rename_i hc
    cases hx : tokTo s t with
    | none => rw [hx] at h1; cases h1
    | some c => rw [hx] at h1; exact ⟨hc.1.1, hc.1.2, hc.2, c, rfl, b, h1, h2, h3⟩
  · cases h1
theorem Rest.nil {s : List UInt8} {a : Nat} (h : Rest s [] a) : a ≤ s.length ∧ gapFrom s s.length a false = true := by
  obtain ⟨b, h1, h2, h3⟩ := h
  simp only [upto, Option.some.injEq] at h1
  subst h1
  exact ⟨h2, h3⟩

/-- Between two places stand blanks, line feeds and notes alone, whatever follows. -/
def Segs (s : List UInt8) (a i : Nat) : Prop := a ≤ i ∧ i ≤ s.length ∧ ∀ e, i ≤ e → e ≤ s.length → gapFrom s e a false = gapFrom s e i false
theorem Segs.refl {s : List UInt8} {i : Nat} (h : i ≤ s.length) : Segs s i i := ⟨Nat.le_refl _, h, fun _ _ _ => rfl⟩
theorem Segs.trans {s : List UInt8} {a b c : Nat} (h : Segs s a b) (h2 : Segs s b c) : Segs s a c := ⟨Nat.le_trans h.1 h2.1, h2.2.1, fun e h3 h4 => (h.2.2 e (Nat.le_trans h2.1 h3) h4).trans (h2.2.2 e h3 h4)⟩
theorem Segs.gap {s : List UInt8} {a i : Nat} (h : Segs s a i) : gapFrom s i a false = true := by
  rw [h.2.2 i (Nat.le_refl _) h.2.1, gap_end (by omega)]
theorem blank_seg {s : List UInt8} {i : Nat} (h : i < s.length) (hb : blank (s.getD i 0) = true) : Segs s i (i + 1) := by
  refine ⟨by omega, by omega, fun e h1 h2 => ?_⟩
  rw [gap_step (by omega), hb]
  have hn : noteNext s e i false = false := by
    have : (s.getD i 0 == 47) = false := by
      unfold blank at hb
      rw [Bool.eq_false_iff]
      intro h1
      rw [beq_iff_eq] at h1
      rw [h1] at hb
      exact absurd hb (by decide)
    unfold noteNext pairAt
    rw [this]
    simp
  rw [hn]
  simp
theorem feed_seg {s : List UInt8} {i : Nat} (h : i < s.length) (hb : s.getD i 0 = 10) : Segs s i (i + 1) := by
  refine ⟨by omega, by omega, fun e h1 h2 => ?_⟩
  rw [gap_step (by omega)]
  have hn : noteNext s e i false = false := by unfold noteNext; rw [hb]; simp
  rw [hn, hb]
  simp
theorem note_more {s : List UInt8} {e k : Nat} (h : k < e) (h2 : s.getD k 0 ≠ 10) : gapFrom s e k true = gapFrom s e (k + 1) true := by
  rw [gap_step h]
  have hn : noteNext s e k true = true := by unfold noteNext; simpa using h2
  rw [hn]
  simp
theorem note_run {s : List UInt8} {e n : Nat} : ∀ {k : Nat}, k + n ≤ e → (∀ m, m < n → s.getD (k + m) 0 ≠ 10) → gapFrom s e k true = gapFrom s e (k + n) true := by
  induction n with
  | zero => intro k _ _; rfl
  | succ n ih =>
    intro k h1 h2
    rw [note_more (k := k) (by omega) (h2 0 (by omega)), ih (by omega) (fun m hm => by have := h2 (m + 1) (by omega); rwa [show k + (m + 1) = k + 1 + m by omega] at this), show k + 1 + n = k + (n + 1) by omega]

theorem decN_cont (n b0 b1 b2 b3 : Nat) : (Lib.decodeN n b0 b1 b2 b3).2 ≤ 4 ∧ (2 ≤ (Lib.decodeN n b0 b1 b2 b3).2 → 128 ≤ b1) ∧ (3 ≤ (Lib.decodeN n b0 b1 b2 b3).2 → 128 ≤ b2) ∧ (4 ≤ (Lib.decodeN n b0 b1 b2 b3).2 → 128 ≤ b3) := by
  unfold Lib.decodeN
  repeat' split
  all_goals (simp; try omega)
theorem get_str (l : List UInt8) (m : Nat) : (⟨l.toArray⟩ : ByteArray).get! m = l.getD m 0 := by
  show l.toArray[m]! = _
  by_cases h : m < l.length
  · simp [h]
  · rw [List.getD_eq_getElem?_getD, List.getElem?_eq_none (Nat.le_of_not_lt h), getElem!_neg _ _ (by simpa using h)]
    rfl
theorem dec_cont {l : List UInt8} (h : l ≠ []) : ∀ m, 1 ≤ m → m < (dec l).2 → l.getD m 0 ≠ 10 := by
  have hl : 0 < l.length := List.length_pos_iff.2 h
  have hs : (⟨l.toArray⟩ : ByteArray).size = l.length := by show l.toArray.size = _; simp
  intro m h1 h2 h3
  have e : dec l = Lib.decodeN ((⟨l.toArray⟩ : ByteArray).size - 0) (l.getD 0 0).toNat (l.getD 1 0).toNat (l.getD 2 0).toNat (l.getD 3 0).toNat := by
    unfold dec Lib.decodeGo
    rw [if_neg (by rw [hs]; omega), Lib.decode_at, get_str, get_str, get_str, get_str]
  rw [e] at h2
  obtain ⟨c0, c1, c2, c3⟩ := decN_cont ((⟨l.toArray⟩ : ByteArray).size - 0) (l.getD 0 0).toNat (l.getD 1 0).toNat (l.getD 2 0).toNat (l.getD 3 0).toNat
  have h10 : (l.getD m 0).toNat = 10 := by rw [h3]; rfl
  have hm : m = 1 ∨ m = 2 ∨ m = 3 := by omega
  rcases hm with rfl | rfl | rfl
  · have := c1 (by omega); omega
  · have := c2 (by omega); omega
  · have := c3 (by omega); omega
theorem noteEnd_run {s : List UInt8} {k j : Nat} (h : noteEnd s k = .ok j) (hk : k ≤ s.length) : k ≤ j ∧ j ≤ s.length ∧ (j < s.length → s.getD j 0 = 10) ∧ ∀ m, k ≤ m → m < j → s.getD m 0 ≠ 10 := by
  by_cases hc : k < s.length ∧ s.getD k 0 ≠ 10
  · have hne : s.drop k ≠ [] := by intro h0; have := List.drop_eq_nil_iff.1 h0; omega
    obtain ⟨d1, d2, d3⟩ := dec_bd hne
    rw [List.length_drop] at d2
    by_cases h3 : dec (s.drop k) = (65533, 1)
    · rw [noteEnd_bad hc.1 hc.2 h3] at h
      cases h
    · rw [noteEnd_more hc.1 hc.2 h3, show max 1 (dec (s.drop k)).2 = (dec (s.drop k)).2 by omega] at h
      obtain ⟨r1, r2, r3, r4⟩ := noteEnd_run h (by omega)
      refine ⟨by omega, r2, r3, fun m h4 h5 => ?_⟩
      by_cases h6 : k + (dec (s.drop k)).2 ≤ m
      · exact r4 m h6 h5
      · by_cases h7 : m = k
        · rw [h7]; exact hc.2
        · have := dec_cont hne (m - k) (by omega) (by omega)
          simpa [show k + (m - k) = m by omega] using this
  · rw [noteEnd_end hc] at h
    cases h
    exact ⟨Nat.le_refl _, hk, fun h1 => Classical.byContradiction fun h2 => hc ⟨h1, h2⟩, fun m h1 h2 => by omega⟩
termination_by s.length - k
decreasing_by omega
theorem pre_pair {s : List UInt8} {i : Nat} (h : List.isPrefixOf [47, 47] (s.drop i) = true) : i + 1 < s.length ∧ s.getD i 0 = 47 ∧ s.getD (i + 1) 0 = 47 := by
  obtain ⟨r, hr⟩ := List.isPrefixOf_iff_prefix.1 h
  have hl : (s.drop i).length = r.length + 2 := by rw [← hr]; simp
  rw [List.length_drop] at hl
  have h0 : (s.drop i).getD 0 0 = 47 := by rw [← hr]; rfl
  have h1 : (s.drop i).getD 1 0 = 47 := by rw [← hr]; rfl
  refine ⟨by omega, by simpa using h0, by simpa using h1⟩
theorem note_seg {s : List UInt8} {i j : Nat} (hp : List.isPrefixOf [47, 47] (s.drop i) = true) (h : noteEnd s i = .ok j) : Segs s i j := by
  obtain ⟨p1, p2, p3⟩ := pre_pair hp
  obtain ⟨r1, r2, r3, r4⟩ := noteEnd_run h (by omega)
  have hj : i + 2 ≤ j := by
    refine Classical.byContradiction fun hn => ?_
    have h1 : j = i ∨ j = i + 1 := by omega
    rcases h1 with h1 | h1
    · have := r3 (by omega); rw [h1, p2] at this; exact absurd this (by decide)
    · have := r3 (by omega); rw [h1, p3] at this; exact absurd this (by decide)
  refine ⟨by omega, r2, fun e h1 h2 => ?_⟩
  have hn : noteNext s e i false = true := by
    unfold noteNext pairAt
    rw [p2, p3, decide_eq_true (by omega)]
    decide
  rw [gap_step (by omega), hn, Bool.true_or, Bool.true_and, note_run (n := j - (i + 1)) (by omega) (fun m hm => r4 _ (by omega) (by omega)), show i + 1 + (j - (i + 1)) = j by omega]
  by_cases he : j < e
  · have h10 := r3 (by omega)
    have n1 : noteNext s e j true = false := by unfold noteNext; rw [h10]; simp
    have n2 : noteNext s e j false = false := by unfold noteNext; rw [h10]; simp
    rw [gap_step he, gap_step he, n1, n2]
  · rw [gap_end he, gap_end he]

theorem upto_close {s : List UInt8} {acc : List Tok} {line : Bool} {a i : Nat} (h : upto s acc 0 = some a) (hg : Segs s a i) (hi : i < s.length → s.getD i 0 = 10) : ∃ b, upto s (close acc line i) 0 = some b ∧ Segs s b i := by
  have hsemi : upto s (acc ++ [semi i]) 0 = some i := by
    rw [upto_snoc h (t := semi i) hg.1 hg.2.1 hg.gap]
    unfold tokTo semi
    dsimp only
    rw [if_neg, if_neg]
    · intro h1
      rcases h1 with h1 | ⟨h1, h2⟩
      · exact h1 rfl
      · exact h2 (hi h1)
    · rintro ⟨h1, h2⟩
      have hlt : i < s.length := by simp at h1; omega
      have h3 : (cut s i (i + 1)).getD 0 0 = 59 := by have := congrArg (fun l : List UInt8 => l.getD 0 0) h2; exact this
      unfold cut at h3
      rw [show i + 1 - i = 1 by omega] at h3
      have h4 : (List.take 1 (s.drop i)).getD 0 0 = s.getD i 0 := by simp [List.getD_eq_getElem?_getD]
      rw [h4, hi hlt] at h3
      exact absurd h3 (by decide)
  unfold close
  split
  · split
    · split
      · exact ⟨i, hsemi, Segs.refl hg.2.1⟩
      · exact ⟨a, h, hg⟩
    · exact ⟨a, h, hg⟩
  · exact ⟨a, h, hg⟩
theorem tokTo_cut {s : List UInt8} {t : Tok} {to : Nat} (h : t.text = cut s t.pos to) (h1 : t.pos ≤ to) (h2 : to ≤ s.length) : tokTo s t = some to := by
  have hl : t.text.length = to - t.pos := by rw [h]; unfold cut; rw [List.length_take, List.length_drop]; omega
  unfold tokTo
  rw [if_pos ⟨by omega, by rw [hl, show t.pos + (to - t.pos) = to by omega]; exact h.symm⟩, hl, show t.pos + (to - t.pos) = to by omega]
theorem prefix_cut {s g : List UInt8} {i : Nat} (h : g.isPrefixOf (s.drop i) = true) : g = cut s i (i + g.length) ∧ i + g.length ≤ s.length ∨ g = [] := by
  by_cases hg : g = []
  · exact .inr hg
  · have h1 := List.isPrefixOf_iff_prefix.1 h
    have h2 := h1.length_le
    rw [List.length_drop] at h2
    have := List.length_pos_iff.2 hg
    exact .inl ⟨by unfold cut; rw [show i + g.length - i = g.length by omega]; exact List.prefix_iff_eq_take.1 h1, by omega⟩
theorem step_tok {s : List UInt8} {i to : Nat} {t : Tok} (hi : i < s.length) (h : stepAt s i = .tok t to) : t.pos = i ∧ t.text = cut s i to ∧ i < to ∧ to ≤ s.length := by
  unfold stepAt at h
  split at h
  · cases h
  split at h
  · split at h <;> cases h
  split at h
  · rename_i hl
    cases h
    exact ⟨rfl, rfl, spanEnd_gt hi (by unfold wordC; rw [hl]; rfl), spanEnd_le (by omega)⟩
  split at h
  · rename_i hd
    split at h
    · cases h
    · cases h
      exact ⟨rfl, rfl, spanEnd_gt hi hd, spanEnd_le (by omega)⟩
  split at h
  · cases h
  · rename_i g hg
    cases h
    have h1 := List.find?_some hg
    have h2 := List.mem_of_find?_eq_some hg
    have h3 : g ≠ [] := by intro h0; rw [h0] at h2; revert h2; decide
    have h4 := List.length_pos_iff.2 h3
    rcases prefix_cut h1 with ⟨h5, h6⟩ | h5
    · exact ⟨rfl, h5, by omega, h6⟩
    · exact absurd h5 h3
theorem step_skip {s : List UInt8} {i to : Nat} (hi : i < s.length) (h2 : s.getD i 0 ≠ 10) (h : stepAt s i = .skip to) : Segs s i to ∧ i < to := by
  unfold stepAt at h
  split at h
  · rename_i hb
    cases h
    exact ⟨blank_seg hi hb, by omega⟩
  split at h
  · rename_i hp
    split at h
    · cases h
    · rename_i j hj
      cases h
      exact ⟨note_seg hp hj, noteEnd_gt hj hi h2⟩
  split at h
  · cases h
  split at h
  · split at h <;> cases h
  split at h <;> cases h
theorem go_places {s : List UInt8} {i : Nat} {line : Bool} {acc l : List Tok} {a : Nat} (h : upto s acc 0 = some a) (hg : Segs s a i) (hgo : go s i line acc = .ok l) : Rest s l 0 := by
  by_cases hi : i < s.length
  · by_cases hn : s.getD i 0 = 10
    · rw [go_feed hi hn] at hgo
      obtain ⟨b, h1, h2⟩ := upto_close (line := line) h hg (fun _ => hn)
      exact go_places h1 (h2.trans (feed_seg hi hn)) hgo
    · cases hs : stepAt s i with
      | bad c j => rw [go_bad hi hn hs] at hgo; cases hgo
      | skip to =>
        obtain ⟨g1, g2⟩ := step_skip hi hn hs
        rw [go_skip hi hn hs g2] at hgo
        exact go_places h (hg.trans g1) hgo
      | tok t to =>
        obtain ⟨g1, g2, g3, g4⟩ := step_tok hi hs
        rw [go_tok hi hn hs g3] at hgo
        refine go_places (a := to) ?_ (Segs.refl g4) hgo
        subst g1
        rw [upto_snoc h hg.1 hg.2.1 hg.gap]
        exact tokTo_cut g2 (by omega) g4
  · rw [go_end hi] at hgo
    cases hgo
    obtain ⟨b, h1, h2⟩ := upto_close (line := line) h hg (fun h => absurd h hi)
    have h3 := h2.2.1
    have h4 : i = s.length := by omega
    subst h4
    exact ⟨b, h1, h2.1, h2.gap⟩
termination_by s.length - i
decreasing_by all_goals omega
theorem scan_places {s : List UInt8} {l : List Tok} (h : scan s = .ok l) : Rest s l 0 := by
  unfold scan at h
  split at h
  · cases h
  · exact go_places (acc := []) (a := 0) rfl (Segs.refl (by omega)) h
end Go.Proofs.YtjickecdkmljpaaDoor.Lx
