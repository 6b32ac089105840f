/-
  PROVED HERE: the law LexPlaces walked: it returns true. No condition beyond the lemmas' own premises.
-/
import Derived.Test.YtjickecdkmljpaaDoorLxScan
import Derived.Test.YtjickecdkmljpaaDoorLxGap
namespace Go.Proofs.YtjickecdkmljpaaDoor
open Go.RowKit

/-! ### Plain facts -/
theorem note_ascii {s : List UInt8} {i : Nat} (h : i < s.length) (h1 : s.getD i 0 ≠ 10) (h2 : (s.getD i 0).toNat < 128) : Lx.noteEnd s i = Lx.noteEnd s (i + 1) := by
  have hne : s.drop i ≠ [] := by intro h0; have := List.drop_eq_nil_iff.1 h0; omega
  have hd := (dec_head hne).1 (by rw [drop_head]; exact h2)
  rw [drop_head] at hd
  rw [Lx.noteEnd_more h h1 (by rw [hd]; intro h3; injection h3 with h3; omega), hd]
  rfl
def sample : List UInt8 := [97, 32, 47, 47, 32, 98, 10, 49, 50]
theorem sample_scan : Lx.scan sample = .ok [⟨1, [97], 0, 0⟩, ⟨3, [59], 0, 6⟩, ⟨2, [49, 50], 12, 7⟩, ⟨3, [59], 0, 9⟩] := by
  have a1 : Lx.spanEnd Lx.wordC sample 0 = 1 := by rw [Lx.spanEnd_more (by decide) (by decide), Lx.spanEnd_end (by decide)]
  have a2 : Lx.noteEnd sample 2 = .ok 6 := by
    rw [note_ascii (by decide) (by decide) (by decide), note_ascii (by decide) (by decide) (by decide), note_ascii (by decide) (by decide) (by decide), note_ascii (by decide) (by decide) (by decide), Lx.noteEnd_end (by decide)]
  have a3 : Lx.spanEnd Lx.digit sample 7 = 9 := by rw [Lx.spanEnd_more (by decide) (by decide), Lx.spanEnd_more (by decide) (by decide), Lx.spanEnd_end (by decide)]
  have e0 : Lx.scan sample = Lx.go sample 0 false [] := rfl
  have b0 : Lx.stepAt sample 0 = .tok ⟨1, [97], 0, 0⟩ 1 := by rw [step_word (by decide) (by decide) (by decide), a1]; rfl
  have b1 : Lx.stepAt sample 1 = .skip 2 := rfl
  have b2 : Lx.stepAt sample 2 = .skip 6 := by
    unfold Lx.stepAt
    rw [if_neg (by decide), if_pos (by decide), a2]
  have b7 : Lx.stepAt sample 7 = .tok ⟨2, [49, 50], 12, 7⟩ 9 := by rw [step_num (by decide) (by decide) (by decide) (by decide), a3]; rfl
  rw [e0, Lx.go_tok (by decide) (by decide) b0 (by decide), Lx.go_skip (by decide) (by decide) b1 (by decide), Lx.go_skip (by decide) (by decide) b2 (by decide), Lx.go_feed (by decide) (by decide), Lx.go_tok (by decide) (by decide) b7 (by decide), Lx.go_end (by decide)]
  rfl
theorem step_code {s : List UInt8} {i j : Nat} {c : Int} (h : Lx.stepAt s i = .bad c j) : c ≠ 0 := by
  unfold Lx.stepAt at h
  repeat' split at h
  all_goals first | cases h | skip
  all_goals first | decide | skip
theorem go_code {s : List UInt8} {i : Nat} {line : Bool} {acc : List Lx.Tok} {c : Int} {p : Nat} (h : Lx.go s i line acc = .error (c, p)) : c ≠ 0 := by
  rw [Lx.go] at h
  split at h
  · split at h
    · exact go_code h
    · split at h
      · rename_i hs
        cases h
        exact step_code hs
      · exact go_code h
      · exact go_code h
  · cases h
termination_by s.length - i
decreasing_by all_goals omega
theorem scan_code {s : List UInt8} {c : Int} {p : Nat} (h : Lx.scan s = .error (c, p)) : c ≠ 0 := by
  unfold Lx.scan at h
  split at h
  · cases h; decide
  · exact go_code h
theorem scan_small {s : List UInt8} {l : List Lx.Tok} (h : Lx.scan s = .ok l) : s.length ≤ 6000 := by
  unfold Lx.scan at h
  split at h
  · cases h
  · omega
theorem tok_cases {s : List UInt8} {t : Lx.Tok} {c : Nat} (h : Lx.tokTo s t = some c) :
    (t.pos + t.text.length ≤ s.length ∧ Lx.cut s t.pos (t.pos + t.text.length) = t.text ∧ c = t.pos + t.text.length) ∨ (t.text = [59] ∧ c = t.pos ∧ (s.length ≤ t.pos ∨ (t.pos < s.length ∧ s.getD t.pos 0 = 10))) := by
  unfold Lx.tokTo at h
  split at h
  · rename_i hc
    cases h
    exact .inl ⟨hc.1, hc.2, rfl⟩
  · split at h
    · cases h
    · rename_i hc
      cases h
      refine .inr ⟨Classical.byContradiction fun h1 => hc (.inl h1), rfl, ?_⟩
      by_cases h2 : t.pos < s.length
      · exact .inr ⟨h2, Classical.byContradiction fun h3 => hc (.inr ⟨h2, h3⟩)⟩
      · exact .inl (by omega)
theorem get_is (S : ByteArray) (m : Nat) (h : m < S.size) : S[m] = (by_ S).getD m 0 := by simp [by_, h, ByteArray.getElem_eq_getElem_data]
theorem u8_test (c : UInt8) (n : Nat) (hn : n < 256) : ((c.toNat : Int) == (n : Int)) = (c == UInt8.ofNat n) := by
  rw [Bool.eq_iff_iff, beq_iff_eq, beq_iff_eq, ← UInt8.toNat_inj, UInt8.toNat_ofNat']
  have : n % 2 ^ 8 = n := Nat.mod_eq_of_lt hn
  omega

theorem blank_yes2 {c : UInt8} (h : Lx.blank c = true) : ((c.toNat : Int) != 32) = false ∨ (((c.toNat : Int) != 32) = true ∧ ((c.toNat : Int) != 9) = false) ∨ (((c.toNat : Int) != 32) = true ∧ ((c.toNat : Int) != 9) = true ∧ ((c.toNat : Int) != 13) = false) := by
  rcases blank_yes h with h1 | ⟨h1, h2⟩ | ⟨h1, h2, h3⟩
  · exact .inl (by simpa using h1)
  · exact .inr (.inl ⟨by simpa using h1, by simpa using h2⟩)
  · exact .inr (.inr ⟨by simpa using h1, by simpa using h2, by simpa using h3⟩)
theorem bool_cases (A C N p b bl : Bool) (hAN : A = true → N = false) (ha : (((b || (p && (A && C))) && !N) || (bl || N)) = true) :
    (p = true ∧ A = true ∧ C = true ∧ N = false ∧ ((b || (p && (A && C))) && !N) = true) ∨
    ((p = false ∨ (p = true ∧ A = false) ∨ (p = true ∧ A = true ∧ C = false)) ∧ ((N = true ∧ ((b || (p && (A && C))) && !N) = false) ∨ (N = false ∧ b = true ∧ ((b || (p && (A && C))) && !N) = true) ∨ (N = false ∧ b = false ∧ ((b || (p && (A && C))) && !N) = false ∧ bl = true))) := by
  revert hAN ha
  cases A <;> cases C <;> cases N <;> cases p <;> cases b <;> cases bl <;> simp
/-- How one letter between tokens is passed, in the walk's own words. -/
theorem gap_cases {S : ByteArray} {T m : Nat} {b : Bool} (h : Lx.gapFrom (by_ S) T m b = true) (hm : m < T) (hT : T ≤ S.size) (h1 : m < S.size) :
    ∃ b', Lx.gapFrom (by_ S) T (m + 1) b' = true ∧
      ((∃ h2 : m + 1 < S.size, m + 1 < T ∧ ((S[m].toNat : Int) == 47) = true ∧ ((S[m + 1].toNat : Int) == 47) = true ∧ ((S[m].toNat : Int) == 10) = false ∧ b' = true) ∨
       ((T ≤ m + 1 ∨ (∃ _ : m + 1 < S.size, m + 1 < T ∧ ((S[m].toNat : Int) == 47) = false) ∨ (∃ h2 : m + 1 < S.size, m + 1 < T ∧ ((S[m].toNat : Int) == 47) = true ∧ ((S[m + 1].toNat : Int) == 47) = false)) ∧
        ((((S[m].toNat : Int) == 10) = true ∧ ((S[m].toNat : Int) != 32) = true ∧ ((S[m].toNat : Int) != 9) = true ∧ ((S[m].toNat : Int) != 13) = true ∧ ((S[m].toNat : Int) != 10) = false ∧ b' = false) ∨
         (((S[m].toNat : Int) == 10) = false ∧ b = true ∧ b' = true) ∨
         (((S[m].toNat : Int) == 10) = false ∧ b = false ∧ b' = false ∧ Lx.blank S[m] = true)))) := by
  rw [Lx.gap_step hm, Bool.and_eq_true] at h
  obtain ⟨ha, hb⟩ := h
  have e1 := get_is S m h1
  have t47 : ((S[m].toNat : Int) == 47) = ((by_ S).getD m 0 == 47) := by rw [e1]; exact u8_test _ 47 (by decide)
  have t10 : ((S[m].toNat : Int) == 10) = ((by_ S).getD m 0 == 10) := by rw [e1]; exact u8_test _ 10 (by decide)
  have u47 : ∀ h2 : m + 1 < S.size, ((S[m + 1].toNat : Int) == 47) = ((by_ S).getD (m + 1) 0 == 47) := fun h2 => by rw [get_is S (m + 1) h2]; exact u8_test _ 47 (by decide)
  have n10 : (((S[m].toNat : Int) == 10) = true) → ((S[m].toNat : Int) != 32) = true ∧ ((S[m].toNat : Int) != 9) = true ∧ ((S[m].toNat : Int) != 13) = true ∧ ((S[m].toNat : Int) != 10) = false := fun h => by
    rw [beq_iff_eq] at h
    rw [h]
    decide
  refine ⟨_, hb, ?_⟩
  rw [e1] at *
  have hk := bool_cases ((by_ S).getD m 0 == 47) ((by_ S).getD (m + 1) 0 == 47) ((by_ S).getD m 0 == 10) (decide (m + 1 < T)) b (Lx.blank ((by_ S).getD m 0)) (fun h => by rw [beq_iff_eq] at h; rw [h]; decide) ha
  rcases hk with ⟨k1, k2, k3, k4, k5⟩ | ⟨k1, k2⟩
  · have hp : m + 1 < T := of_decide_eq_true k1
    have h2 : m + 1 < S.size := by omega
    exact .inl ⟨h2, hp, t47.trans k2, (u47 h2).trans k3, t10.trans k4, k5⟩
  · refine .inr ⟨?_, ?_⟩
    · rcases k1 with k1 | ⟨k1, k3⟩ | ⟨k1, k3, k4⟩
      · exact .inl (by have := of_decide_eq_false k1; omega)
      · have hp : m + 1 < T := of_decide_eq_true k1
        exact .inr (.inl ⟨by omega, hp, t47.trans k3⟩)
      · have hp : m + 1 < T := of_decide_eq_true k1
        have h2 : m + 1 < S.size := by omega
        exact .inr (.inr ⟨h2, hp, t47.trans k3, (u47 h2).trans k4⟩)
    · rcases k2 with ⟨k2, k3⟩ | ⟨k2, k3, k4⟩ | ⟨k2, k3, k4, k5⟩
      · obtain ⟨q1, q2, q3, q4⟩ := n10 (t10.trans k2)
        exact .inl ⟨t10.trans k2, q1, q2, q3, q4, k3⟩
      · exact .inr (.inl ⟨t10.trans k2, k3, k4⟩)
      · exact .inr (.inr ⟨t10.trans k2, k3, k4, k5⟩)
/-- A token that is looked for in the text, in the walk's own words. -/
theorem tokY {S : ByteArray} {t : Lx.Tok} {T c : Nat} {Y : ByteArray} (h : Lx.tokTo (by_ S) t = some c) (hT : t.pos = T) (hY : str t.text = Y) (hTS : T ≤ S.size) :
    (T + Y.size ≤ S.size ∧ ((S.extract T (T + Y.size)).toList == Y.toList) = true ∧ c = T + Y.size) ∨ (Y = ⟨#[59]⟩ ∧ c = T ∧ (T = S.size ∨ ∃ h : T < S.size, ((S[T].toNat : Int) == 10) = true ∧ ((S.extract T (T + 1)).toList == [59]) = false)) := by
  subst hT
  have hl : Y.size = t.text.length := by rw [← hY, str_size]
  rcases tok_cases h with ⟨h1, h2, h3⟩ | ⟨h1, h2, h3⟩
  · rw [by_size, ← hl] at h1
    rw [← hl] at h2 h3
    refine .inl ⟨h1, ?_, h3⟩
    rw [beq_iff_eq, by_toList, by_toList, by_extract, h2, ← hY, by_str]
  · refine .inr ⟨by rw [← hY, h1]; rfl, h2, ?_⟩
    rcases h3 with h3 | ⟨h3, h4⟩
    · rw [by_size] at h3
      exact .inl (by omega)
    · rw [by_size] at h3
      refine .inr ⟨h3, ?_, ?_⟩
      · rw [get_is S _ h3, h4]; decide
      · rw [beq_eq_false_iff_ne, by_toList, by_extract]
        intro h5
        have h6 : (Lx.cut (by_ S) t.pos (t.pos + 1)).getD 0 0 = 59 := by rw [h5]; rfl
        unfold Lx.cut at h6
        rw [show t.pos + 1 - t.pos = 1 by omega] at h6
        have h7 : (List.take 1 ((by_ S).drop t.pos)).getD 0 0 = (by_ S).getD t.pos 0 := by simp [List.getD_eq_getElem?_getD]
        rw [h7, h4] at h6
        exact absurd h6 (by decide)
set_option maxRecDepth 100000 in
set_option maxHeartbeats 8000000 in
theorem places_walk (w : World) (S : ByteArray) (hT : Tabs w.heap.size w) (hm : S.size ≤ maxLen) : Calls Tryd.prog 4 #[.string S] w (LawPost w) := by
  have HT := Lib.hid hT
  clear hT
  go_enter Tryd.func4, Tryd.ntmps4
  go_wp2_with fail
  refine (pscan_any w.heap.size w ⟨#[97, 32, 47, 47, 32, 98, 10, 49, 50]⟩ HT.out (Nat.le_refl _) (by decide)).mono ?_
  rintro e w1 ⟨hb1, hs1⟩
  rw [show by_ ⟨#[97, 32, 47, 47, 32, 98, 10, 49, 50]⟩ = sample from rfl, sample_scan] at hs1
  obtain ⟨v, rfl, hv, _⟩ := hs1
  obtain ⟨g, gc, rfl⟩ := own_lit hv (by decide)
  obtain ⟨_, x1, _, _⟩ := toks_at hv (k := 1) (by decide)
  obtain ⟨_, _, x2, _⟩ := toks_at hv (k := 2) (by decide)
  have hgl := (World.ownsRow.lt hv g rfl).2
  have x1' : w1.cell? ⟨g, 5, none⟩ = some (.string ⟨#[59]⟩) := x1
  have x2' : w1.cell? ⟨g, 10, none⟩ = some (.int .i64 12) := x2
  have hz1 := hb1.size
  have HB1 := Lib.hid hb1
  clear hb1 x1 x2 hv
  go_wp2_with fail
  refine (pscan_any w.heap.size _ S (HT.out.below (HB1.out.trans ((Below.refl _ _).alloc hz1 _)) (Nat.le_refl _)) (by simp; omega) hm).mono ?_
  rintro e w2 ⟨hb2, hs2⟩
  have c0 := (hb2.cell (p := ⟨w1.heap.size, 0, none⟩) (by simp)).trans (World.cell?_alloc_new _ _ _ _)
  have c1 := (hb2.cell (p := ⟨w1.heap.size, 1, none⟩) (by simp)).trans (World.cell?_alloc_new _ _ _ _)
  have k0 := blk_below (blk_new w1 (.cells #[.int .i64 0, .int .i64 0] 25)) hb2 (by simp)
  have f0 := blk_free k0 0
  have f1 := blk_free k0 1
  have hz2 := hb2.size
  rw [World.size_alloc] at hz2
  have hlt2 : w1.heap.size < w2.heap.size := by omega
  simp only [List.getElem?_toArray, List.getElem?_cons_zero, List.getElem?_cons_succ] at c0 c1
  have HB2 : Hid (Below w.heap.size w w2) := Lib.hid (HB1.out.trans (((Below.refl _ _).alloc hz1 _).trans (hb2.mono (by simp; omega))))
  have K0 := Lib.hid k0
  clear hb2 k0 x1' x2' hgl
  cases hsc : Lx.scan (by_ S) with
  | error x =>
    obtain ⟨c, p⟩ := x
    rw [hsc] at hs2
    dsimp only at hs2
    subst hs2
    have hcb : (c != 0) = true := by rw [bne_iff_ne]; exact scan_code hsc
    clear hsc
    go_wp2
    go_returns
    exact ⟨rfl, (HB2.out.setCell (p := ⟨w1.heap.size, 0, none⟩) hz1 _).setCell (p := ⟨w1.heap.size, 1, none⟩) hz1 _⟩
  | ok l =>
    rw [hsc] at hs2
    obtain ⟨v, rfl, hv, hl⟩ := hs2
    obtain ⟨va, vc, rfl⟩ := own_slice hv rfl
    have hS := scan_small hsc
    rw [by_size] at hS
    have HR := Lib.hid (Lx.scan_places hsc)
    have HV : Hid (ToksV (w1.alloc (.cells #[.int .i64 0, .int .i64 0] 25)).heap.size ((w2.setCell ⟨w1.heap.size, 0, none⟩ (.int .i64 0)).setCell ⟨w1.heap.size, 1, none⟩ (.int .i64 0)) (.slice va l.length vc) l) := Lib.hid (own_set (own_set hv K0.out (by decide)) (blk_set K0.out 0 _) (by decide))
    have HB3 : Hid (Below w.heap.size w ((w2.setCell ⟨w1.heap.size, 0, none⟩ (.int .i64 0)).setCell ⟨w1.heap.size, 1, none⟩ (.int .i64 0))) := Lib.hid ((HB2.out.setCell (p := ⟨w1.heap.size, 0, none⟩) hz1 _).setCell (p := ⟨w1.heap.size, 1, none⟩) hz1 _)
    clear hsc hv
    go_wp2
    clear c0 c1 f0 f1
    generalize ((w2.setCell ⟨w1.heap.size, 0, none⟩ (.int .i64 0)).setCell ⟨w1.heap.size, 1, none⟩ (.int .i64 0)) = w3 at *
    go_loopw [5, 6] (fun a i wr => ∃ (k q : Nat), a = .int .i64 q ∧ i = .int .i64 k ∧ q ≤ S.size ∧ k ≤ l.length + 1 ∧ Hid (k ≤ l.length → Lx.Rest (by_ S) (l.drop k) q) ∧ Hid (∃ n, wr = w3.drewN n)) (fun _ i _ => l.length + 2 - (intOf i).toNat)
    case atStart => exact ⟨0, 0, rfl, rfl, by omega, by omega, Lib.hid (fun _ => HR.out), Lib.hid ⟨0, rfl⟩⟩
    case round =>
      clear HR
      obtain ⟨k, q, rfl, rfl, hq, hk, HR, HW⟩ := hrel
      obtain ⟨n, rfl⟩ := HW.out
      by_cases hk1 : k < l.length
      · obtain ⟨g2, gc2, hg2⟩ := own_lit HV.out (by omega)
        cases hg2
        obtain ⟨x0, x1, x2, x3⟩ := toks_at HV.out hk1
        have hgl := (HV.out.lt g2 rfl).2
        have hd : l.drop k = l.getD k ⟨0, [], 0, 0⟩ :: l.drop (k + 1) := by
          have h1 : l.getD k ⟨0, [], 0, 0⟩ = l[k] := by simp [List.getElem?_eq_getElem hk1]
          rw [h1, ← List.drop_eq_getElem_cons hk1]
        have hr := HR.out (by omega)
        rw [hd] at hr
        obtain ⟨r1, r2, r3, c, r4, r5⟩ := hr.cons
        clear hr hd HR
        generalize l.getD k ⟨0, [], 0, 0⟩ = t at *
        have HGAP := Lib.hid r3
        have HRN := Lib.hid r5
        rw [by_size] at r2
        have hTS : t.pos ≤ S.size := r2
        have hqT : q ≤ t.pos := r1
        obtain ⟨T, hT⟩ : ∃ T, t.pos = T := ⟨_, rfl⟩
        obtain ⟨Y, hY⟩ : ∃ Y, str t.text = Y := ⟨_, rfl⟩
        rw [hT] at hTS hqT HGAP x3
        rw [hY] at x1
        have HTK := Lib.hid (tokY r4 hT hY hTS)
        have y0 : decide (k ≤ l.length) = true := by simp; omega
        have y1 : decide (T < q) = false := by simp; omega
        have y2 : decide (S.size < T) = false := by simp; omega
        clear r1 r2 r3 r4 r5 x0 x2 hT hY
        go_wp2_with fail
        go_loopg [8, 9] (T - q) (fun u nb m wr => ∃ (b : Bool) (m' : Nat), nb = .bool b ∧ m = .int .i64 m' ∧ m' ≤ T ∧ T - m' ≤ u ∧ wr = w3.drewN n ∧ Hid (Lx.gapFrom (by_ S) T m' b = true))
        case atStart => exact ⟨false, q, rfl, rfl, hqT, Nat.le_refl _, rfl, HGAP⟩
        case round =>
          obtain ⟨b, m, rfl, rfl, hmT, hum, rfl, HG⟩ := hrel
          by_cases hmt : m < T
          · have hms : m < S.size := by omega
            obtain ⟨b', hg', hcase⟩ := gap_cases HG.out hmt hTS hms
            have HGN := Lib.hid hg'
            clear hg' HG
            rcases hcase with ⟨h2, h3, t1, t2, t3, rfl⟩ | ⟨hpair, hrest⟩
            · go_wp2
              go_roundg (T - (m + 1))
              case rel => exact ⟨true, m + 1, rfl, by go_num, by omega, Nat.le_refl _, rfl, HGN⟩
              case measure => omega
            · rcases hrest with ⟨t1, t2, t3, t4, t7, rfl⟩ | ⟨t1, rfl, rfl⟩ | ⟨t1, rfl, rfl, hbl⟩
              · rcases hpair with h3 | ⟨_, h3, t5⟩ | ⟨h2, h3, t5, t6⟩
                all_goals
                  go_wp2
                  go_roundg (T - (m + 1))
                  case rel => exact ⟨false, m + 1, rfl, by go_num, by omega, Nat.le_refl _, rfl, HGN⟩
                  case measure => omega
              · rcases hpair with h3 | ⟨_, h3, t5⟩ | ⟨h2, h3, t5, t6⟩
                all_goals
                  go_wp2
                  go_roundg (T - (m + 1))
                  case rel => exact ⟨true, m + 1, rfl, by go_num, by omega, Nat.le_refl _, rfl, HGN⟩
                  case measure => omega
              · rcases blank_yes2 hbl with q1 | ⟨q1, q2⟩ | ⟨q1, q2, q3⟩
                all_goals
                  clear hbl
                  rcases hpair with h3 | ⟨_, h3, t5⟩ | ⟨h2, h3, t5, t6⟩
                  all_goals
                    go_wp2
                    go_roundg (T - (m + 1))
                    case rel => exact ⟨false, m + 1, rfl, by go_num, by omega, Nat.le_refl _, rfl, HGN⟩
                    case measure => omega
          · obtain rfl : T = m := by omega
            clear HG
            rcases HTK.out with ⟨z1, z2, z3⟩ | ⟨z1, z2, z3⟩
            · have HRN2 : Hid (Lx.Rest (by_ S) (l.drop (k + 1)) (T + Y.size)) := Lib.hid (by rw [← z3]; exact HRN.out)
              clear z3 HTK HRN
              have wr1 : IntKind.i64.wrap ((T : Int) + (Y.size : Int)) = (T : Int) + (Y.size : Int) := IntWalk.i64_in _ (by omega)
              have wr2 : (0 : Int) ≤ (T : Int) + (Y.size : Int) := by omega
              have wr3 : ((T : Int) + (Y.size : Int)).toNat = T + Y.size := by omega
              have wr4 : decide ((T : Int) + (Y.size : Int) ≤ (S.size : Int)) = true := by simp; omega
              go_wp2_with fail
              go_quiet (fail)
              clear wr1 wr2 wr3
              go_wp2
              go_roundw
              case rel => exact ⟨k + 1, T + Y.size, by go_num, by go_num, z1, by omega, Lib.hid (fun _ => HRN2.out), Lib.hid ⟨n + nq, rfl⟩⟩
              case measure => simp [intOf]; omega
            · subst z1
              have HRN2 : Hid (Lx.Rest (by_ S) (l.drop (k + 1)) T) := Lib.hid (by rw [← z2]; exact HRN.out)
              clear z2 HTK HRN
              rcases z3 with rfl | ⟨z4, z5, z6⟩
              · have wr1 : IntKind.i64.wrap ((S.size : Int) + 1) = (S.size : Int) + 1 := IntWalk.i64_in _ (by omega)
                have wr4 : decide ((S.size : Int) + 1 ≤ (S.size : Int)) = false := by simp; omega
                go_wp2_with fail
                go_quiet (fail)
                clear wr1
                go_wp2
                go_roundw
                case rel => exact ⟨k + 1, S.size, rfl, by go_num, by omega, by omega, Lib.hid (fun _ => HRN2.out), Lib.hid ⟨n + nq, rfl⟩⟩
                case measure => simp [intOf]; omega
              · have wr1 : IntKind.i64.wrap ((T : Int) + 1) = (T : Int) + 1 := IntWalk.i64_in _ (by omega)
                have wr2 : (0 : Int) ≤ (T : Int) + 1 := by omega
                have wr3 : ((T : Int) + 1).toNat = T + 1 := by omega
                have wr4 : decide ((T : Int) + 1 ≤ (S.size : Int)) = true := by simp; omega
                go_wp2_with fail
                go_quiet (fail)
                clear wr1 wr2 wr3
                go_wp2
                go_roundw
                case rel => exact ⟨k + 1, T, rfl, by go_num, hTS, by omega, Lib.hid (fun _ => HRN2.out), Lib.hid ⟨n + nq, rfl⟩⟩
                case measure => simp [intOf]; omega
      · by_cases hk2 : k = l.length
        · subst hk2
          have hr := HR.out (Nat.le_refl _)
          rw [List.drop_length] at hr
          obtain ⟨r1, r2⟩ := hr.nil
          rw [by_size] at r2
          have HGAP := Lib.hid r2
          have hTS : S.size ≤ S.size := Nat.le_refl _
          have hqT : q ≤ S.size := hq
          have y1 : decide (S.size < q) = false := by simp; omega
          clear hr r1 r2 HR
          go_wp2_with fail
          go_loopg [8, 9] (S.size - q) (fun u nb m wr => ∃ (b : Bool) (m' : Nat), nb = .bool b ∧ m = .int .i64 m' ∧ m' ≤ S.size ∧ S.size - m' ≤ u ∧ wr = w3.drewN n ∧ Hid (Lx.gapFrom (by_ S) S.size m' b = true))
          case atStart => exact ⟨false, q, rfl, rfl, hqT, Nat.le_refl _, rfl, HGAP⟩
          case round =>
            obtain ⟨b, m, rfl, rfl, hmT, hum, rfl, HG⟩ := hrel
            by_cases hmt : m < S.size
            · have hms : m < S.size := by omega
              obtain ⟨b', hg', hcase⟩ := gap_cases HG.out hmt hTS hms
              have HGN := Lib.hid hg'
              clear hg' HG
              rcases hcase with ⟨h2, h3, t1, t2, t3, rfl⟩ | ⟨hpair, hrest⟩
              · go_wp2
                go_roundg (S.size - (m + 1))
                case rel => exact ⟨true, m + 1, rfl, by go_num, by omega, Nat.le_refl _, rfl, HGN⟩
                case measure => omega
              · rcases hrest with ⟨t1, t2, t3, t4, t7, rfl⟩ | ⟨t1, rfl, rfl⟩ | ⟨t1, rfl, rfl, hbl⟩
                · rcases hpair with h3 | ⟨_, h3, t5⟩ | ⟨h2, h3, t5, t6⟩
                  all_goals
                    go_wp2
                    go_roundg (S.size - (m + 1))
                    case rel => exact ⟨false, m + 1, rfl, by go_num, by omega, Nat.le_refl _, rfl, HGN⟩
                    case measure => omega
                · rcases hpair with h3 | ⟨_, h3, t5⟩ | ⟨h2, h3, t5, t6⟩
                  all_goals
                    go_wp2
                    go_roundg (S.size - (m + 1))
                    case rel => exact ⟨true, m + 1, rfl, by go_num, by omega, Nat.le_refl _, rfl, HGN⟩
                    case measure => omega
                · rcases blank_yes2 hbl with q1 | ⟨q1, q2⟩ | ⟨q1, q2, q3⟩
                  all_goals
                    clear hbl
                    rcases hpair with h3 | ⟨_, h3, t5⟩ | ⟨h2, h3, t5, t6⟩
                    all_goals
                      go_wp2
                      go_roundg (S.size - (m + 1))
                      case rel => exact ⟨false, m + 1, rfl, by go_num, by omega, Nat.le_refl _, rfl, HGN⟩
                      case measure => omega
            · obtain rfl : m = S.size := by omega
              clear HG
              go_wp2
              go_roundw
              case rel => exact ⟨l.length + 1, S.size, rfl, by go_num, Nat.le_refl _, Nat.le_refl _, Lib.hid (fun h => by omega), HW⟩
              case measure => simp [intOf] <;> omega
        · have hk3 : k = l.length + 1 := by omega
          subst hk3
          go_wp2
          go_returns
          exact ⟨rfl, HB3.out.trans ⟨rfl, rfl, rfl, Nat.le_refl _, fun _ _ => rfl⟩⟩
end Go.Proofs.YtjickecdkmljpaaDoor
