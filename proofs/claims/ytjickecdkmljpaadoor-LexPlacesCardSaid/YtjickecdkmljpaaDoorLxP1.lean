/-
  PROVED HERE: the program's scanner: the rune at a place, where a note ends, small predicates. No condition beyond the lemmas' own premises.
-/
import Derived.Test.YtjickecdkmljpaaDoorLxMem
import Derived.Deep.RegionWith
import Derived.Deep.RegionHeld3
import Derived.Deep.DeepCutAuto
import Derived.Deep.RegionLaw
import Derived.Deep.LoopGhost
import Derived.Deep.AppendLies
namespace Go.Proofs.YtjickecdkmljpaaDoor
open Go.RowKit

set_option maxRecDepth 100000 in
theorem fail_any (p : Nat) (c at_ : Int) (w : World) : Calls Tryd.prog 28 #[.pointer (some ⟨p, 0, none⟩), .int .i64 c, .int .i64 at_] w fun e w' => e = .panicked [{ v := .iface 32 (.agg #[.int .i64 c, .int .i64 at_]), recovered := false }] ∧ w = w' := by
  go_enter Tryd.func28, Tryd.ntmps28
  go_wp2
  exact ⟨rfl, rfl, rfl⟩

/-- Go's own tables, as long as below B nothing turns. -/
def Tabs (B : Nat) (w : World) : Prop := ∀ w', Below B w w' → Lib.Utf8Tabs 0 1 w' ∧ Lib.TabIs Tryd.prog w' "strings.asciiSpace" .u8 Lib.asciiSpaceTab
theorem Tabs.below {B N : Nat} {w w' : World} (h : Tabs B w) (hb : Below N w w') (hN : B ≤ N) : Tabs B w' := fun w2 h2 => h w2 ((hb.mono hN).trans h2)
/-- The scanner, in block p. -/
def ScAt (p : Nat) (w : World) (S : ByteArray) (i : Nat) (line : Bool) (v : Value) : Prop := w.heap[p]? = some (.cells #[.string S, .int .i64 (i : Int), .bool line, v] 35 (0, 0))
theorem extract_drop (S : ByteArray) (j : Nat) : S.extract j S.size = str ((by_ S).drop j) := by
  apply by_inj
  rw [by_extract, by_str]
  unfold Lx.cut
  rw [List.take_of_length_le (by rw [List.length_drop, by_size]; omega)]

set_option maxRecDepth 100000 in
theorem rune_end (p i : Nat) (S : ByteArray) (line : Bool) (v : Value) (w : World) (hp : ScAt p w S i line v) : Calls Tryd.prog 17 #[.pointer (some ⟨p, 0, none⟩), .int .i64 (S.size : Int)] w fun e w' => e = .returned (.tuple #[.int .i32 (-1), .int .i64 0]) ∧ w = w' := by
  have c0 := blk_cell hp 0
  simp only [List.getElem?_toArray, List.getElem?_cons_zero] at c0
  clear hp
  go_enter Tryd.func17, Tryd.ntmps17
  go_wp2
  exact bodyPost_ret (v := .tuple #[.int .i32 (-1), .int .i64 0]) (by simp [results, Tryd.results17, go_sem]) rfl ⟨rfl, rfl⟩
set_option maxRecDepth 100000 in
theorem rune_any (B p i j : Nat) (S : ByteArray) (line : Bool) (v : Value) (w : World) (hp : ScAt p w S i line v) (hj : j < S.size) (_hS : S.size ≤ 6000) (hT : Tabs B w) :
    Calls Tryd.prog 17 #[.pointer (some ⟨p, 0, none⟩), .int .i64 (j : Int)] w fun e w' => Below w.heap.size w w' ∧ ((Lx.dec ((by_ S).drop j) = (65533, 1) ∧ e = .panicked [{ v := .iface 32 (.agg #[.int .i64 2, .int .i64 (j : Int)]), recovered := false }]) ∨ (Lx.dec ((by_ S).drop j) ≠ (65533, 1) ∧ e = .returned (.tuple #[.int .i32 ((Lx.dec ((by_ S).drop j)).1 : Int), .int .i64 ((Lx.dec ((by_ S).drop j)).2 : Int)]))) := by
  have c0 := blk_cell hp 0
  simp only [List.getElem?_toArray, List.getElem?_cons_zero] at c0
  have HTW := Lib.hid (hT _ (Below.refl _ _)).1
  have hje : ((j : Int) == (S.size : Int)) = false := by simp; omega
  have HEX := Lib.hid (extract_drop S j)
  have hne : (by_ S).drop j ≠ [] := by intro h; have := List.drop_eq_nil_iff.1 h; rw [by_size] at this; omega
  obtain ⟨d1, d2, d3⟩ := Lx.dec_bd hne
  clear hp hT hne
  go_enter Tryd.func17, Tryd.ntmps17
  go_wp2_with fail
  rw [HEX.out]
  refine (Tryd.utf8_DecodeRuneInString (str ((by_ S).drop j)) _ HTW.out).mono ?_
  rintro e w6 ⟨rfl, hb6⟩
  have hdd : Lib.decodeGo (str ((by_ S).drop j)) = Lx.dec ((by_ S).drop j) := rfl
  rw [hdd]
  have HB := Lib.hid hb6
  clear hdd hb6
  obtain ⟨r, hr⟩ : ∃ r, (Lx.dec ((by_ S).drop j)).1 = r := ⟨_, rfl⟩
  obtain ⟨n, hn⟩ : ∃ n, (Lx.dec ((by_ S).drop j)).2 = n := ⟨_, rfl⟩
  have HD : Hid (Lx.dec ((by_ S).drop j) = (r, n)) := Lib.hid (by rw [← hr, ← hn])
  rw [hr, hn]
  rw [hr] at d3
  rw [hn] at d1 d2
  clear hr hn
  by_cases h1 : r = 65533
  · subst h1
    by_cases h2 : n = 1
    · subst h2
      go_wp2_with fail
      refine (fail_any p 2 (j : Int) _).mono ?_
      rintro e w7 ⟨rfl, rfl⟩
      go_wp2
      exact ⟨rfl, HB.out, Or.inl ⟨HD.out, rfl⟩⟩
    · have g1 : ((n : Int) == 1) = false := by simp; omega
      have HN := Lib.hid h2
      clear h2
      go_wp2
      exact bodyPost_ret (v := .tuple #[.int .i32 65533, .int .i64 (n : Int)]) (by simp [results, Tryd.results17, go_sem]) rfl ⟨HB.out, Or.inr ⟨by rw [HD.out]; intro h; injection h with _ h; exact HN.out h, by rw [HD.out]; rfl⟩⟩
  · have g1 : ((r : Int) == 65533) = false := by simp; omega
    have HN := Lib.hid h1
    clear h1
    go_wp2
    exact bodyPost_ret (v := .tuple #[.int .i32 (r : Int), .int .i64 (n : Int)]) (by simp [results, Tryd.results17, go_sem]) rfl ⟨HB.out, Or.inr ⟨by rw [HD.out]; intro h; injection h with h _; exact HN.out h, by rw [HD.out]⟩⟩

/-- A rune is a line feed just where the byte is one. -/
theorem decN_low (n b0 b1 b2 b3 : Nat) : (Lib.decodeN n b0 b1 b2 b3).1 < 128 ↔ b0 < 128 := by
  unfold Lib.decodeN
  repeat' split
  all_goals (simp; try omega)
theorem decN_ascii (n b0 b1 b2 b3 : Nat) (h : b0 < 128) : Lib.decodeN n b0 b1 b2 b3 = (b0, 1) := by
  unfold Lib.decodeN
  rw [if_pos h]
theorem dec_head {l : List UInt8} (h : l ≠ []) : ((l.getD 0 0).toNat < 128 → Lx.dec l = ((l.getD 0 0).toNat, 1)) ∧ (128 ≤ (l.getD 0 0).toNat → 128 ≤ (Lx.dec l).1) := by
  have hl : 0 < l.length := List.length_pos_iff.2 h
  have hs : (⟨l.toArray⟩ : ByteArray).size = l.length := by show l.toArray.size = _; simp
  have hg : (⟨l.toArray⟩ : ByteArray).get! 0 = l.getD 0 0 := by
    cases l with
    | nil => exact absurd rfl h
    | cons x r => rfl
  unfold Lx.dec Lib.decodeGo
  rw [if_neg (by rw [hs]; omega), Lib.decode_at, hg]
  refine ⟨fun h1 => decN_ascii _ _ _ _ _ h1, fun h1 => ?_⟩
  have := decN_low ((⟨l.toArray⟩ : ByteArray).size - 0) (l.getD 0 0).toNat ((⟨l.toArray⟩ : ByteArray).get! (0 + 1)).toNat ((⟨l.toArray⟩ : ByteArray).get! (0 + 2)).toNat ((⟨l.toArray⟩ : ByteArray).get! (0 + 3)).toNat
  omega
theorem drop_head (s : List UInt8) (j : Nat) : (s.drop j).getD 0 0 = s.getD j 0 := by simp
theorem ScAt.below {p i : Nat} {w w' : World} {S : ByteArray} {line : Bool} {v : Value} (h : ScAt p w S i line v) (hb : Below w.heap.size w w') : ScAt p w' S i line v := blk_below h hb (blk_lt h)
/-- What a note's end is told as. -/
def NotePost (S : ByteArray) (i : Nat) (w : World) (e : Ending) (w' : World) : Prop :=
  Below w.heap.size w w' ∧ ((∃ j, Lx.noteEnd (by_ S) i = .error j ∧ e = .panicked [{ v := .iface 32 (.agg #[.int .i64 2, .int .i64 (j : Int)]), recovered := false }]) ∨ (∃ j, Lx.noteEnd (by_ S) i = .ok j ∧ j ≤ S.size ∧ e = .returned (.int .i64 (j : Int))))
set_option maxRecDepth 100000 in
set_option maxHeartbeats 1000000 in
theorem note_any (B p i : Nat) (S : ByteArray) (line : Bool) (v : Value) (w : World) (hp : ScAt p w S i line v) (hi : i ≤ S.size) (hS : S.size ≤ 6000) (hT : Tabs B w) (hB : B ≤ w.heap.size) : Calls Tryd.prog 20 #[.pointer (some ⟨p, 0, none⟩)] w (NotePost S i w) := by
  have c1 := blk_cell hp 1
  simp only [List.getElem?_toArray, List.getElem?_cons_zero, List.getElem?_cons_succ] at c1
  have HP := Lib.hid hp
  have HT := Lib.hid hT
  have hpl := blk_lt hp
  clear hp hT
  go_enter Tryd.func20, Tryd.ntmps20
  go_wp2_with fail
  go_loopw [3] (fun x wr => ∃ j : Nat, j ≤ S.size ∧ x = .int .i64 j ∧ Hid (Lx.noteEnd (by_ S) i = Lx.noteEnd (by_ S) j) ∧ Hid (Below w.heap.size w wr)) (fun x _ => S.size - (intOf x).toNat)
  case atStart => exact ⟨i, hi, rfl, Lib.hid rfl, Lib.hid (Below.refl _ _)⟩
  case round =>
    obtain ⟨j, hj, rfl, HJ, HB⟩ := hrel
    have HPW := Lib.hid (HP.out.below HB.out)
    by_cases hje : j < S.size
    · have hne : (by_ S).drop j ≠ [] := by intro h; have := List.drop_eq_nil_iff.1 h; rw [by_size] at this; omega
      obtain ⟨d1, d2, d3⟩ := Lx.dec_bd hne
      obtain ⟨q1, q2⟩ := dec_head hne
      rw [drop_head] at q1 q2
      rw [List.length_drop, by_size] at d2
      have Q1 := Lib.hid q1
      have Q2 := Lib.hid q2
      clear q1 q2 hne
      go_wp2_with fail
      refine (rune_any B p i j S line v wr HPW.out hje hS (HT.out.below HB.out hB)).mono ?_
      rintro e w5 ⟨hb5, ⟨hd, rfl⟩ | ⟨hd, rfl⟩⟩
      · have hnl : (by_ S).getD j 0 ≠ 10 := by
          intro h
          have := Q1.out (by rw [h]; decide)
          rw [hd, h] at this
          cases this
        have HE : Hid (NotePost S i w (.panicked [{ v := .iface 32 (.agg #[.int .i64 2, .int .i64 (j : Int)]), recovered := false }]) w5) := Lib.hid ⟨HB.out.trans (hb5.mono HB.out.size), Or.inl ⟨j, by rw [HJ.out, Lx.noteEnd_bad (by rw [by_size]; exact hje) hnl hd], rfl⟩⟩
        clear hd hb5 hnl
        go_wp2
        exact ⟨rfl, HE.out⟩
      · have HB5 := Lib.hid (HB.out.trans (hb5.mono HB.out.size))
        have HD := Lib.hid hd
        clear hb5 hd
        by_cases hnl : (by_ S).getD j 0 = 10
        · have hq := Q1.out (by rw [hnl]; decide)
          rw [hq, hnl]
          have HE : Hid (NotePost S i w (.returned (.int .i64 (j : Int))) w5) := Lib.hid ⟨HB5.out, Or.inr ⟨j, by rw [HJ.out, Lx.noteEnd_end (by rw [hnl]; simp)], hj, rfl⟩⟩
          have h10 : (((10 : UInt8).toNat : Nat) : Int) = 10 := rfl
          rw [show ((10 : UInt8).toNat, 1).1 = 10 from rfl]
          clear hq hnl h10 HJ HD Q1 Q2 d1 d2 d3
          go_wp2
          go_returns
          exact HE.out
        · have hr10 : (Lx.dec ((by_ S).drop j)).1 ≠ 10 := by
            intro h
            by_cases hlow : ((by_ S).getD j 0).toNat < 128
            · have := Q1.out hlow
              rw [this] at h
              exact hnl (UInt8.toNat_inj.1 h)
            · have := Q2.out (by omega)
              omega
          have HJN : Hid (Lx.noteEnd (by_ S) i = Lx.noteEnd (by_ S) (j + (Lx.dec ((by_ S).drop j)).2)) := Lib.hid (by
            rw [HJ.out, Lx.noteEnd_more (by rw [by_size]; exact hje) hnl HD.out, show max 1 (Lx.dec ((by_ S).drop j)).2 = (Lx.dec ((by_ S).drop j)).2 by omega])
          clear HJ hnl HD Q1 Q2
          generalize (Lx.dec ((by_ S).drop j)).1 = r at *
          generalize (Lx.dec ((by_ S).drop j)).2 = n at *
          have g1 : ((r : Int) == 10) = false := by simp; omega
          clear hr10
          go_wp2
          go_roundw
          case rel => exact ⟨j + n, by omega, by go_num, HJN, HB5⟩
          case measure => simp [intOf]; omega
    · obtain rfl : j = S.size := by omega
      have HE : Hid (NotePost S i w (.returned (.int .i64 (S.size : Int))) wr) := Lib.hid ⟨HB.out, Or.inr ⟨S.size, by rw [HJ.out, Lx.noteEnd_end (by rw [by_size]; omega)], Nat.le_refl _, rfl⟩⟩
      clear HJ
      go_wp2_with fail
      refine (rune_end p i S line v wr HPW.out).mono ?_
      rintro e w5 ⟨rfl, rfl⟩
      go_wp2
      go_returns
      exact HE.out
end Go.Proofs.YtjickecdkmljpaaDoor
