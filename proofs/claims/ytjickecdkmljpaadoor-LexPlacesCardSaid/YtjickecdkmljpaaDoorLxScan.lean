/-
  PROVED HERE: the law LexScans walked: it returns true, if the reference's Scan answers as the program's. No condition beyond the lemmas' own premises.
-/
import Derived.Test.YtjickecdkmljpaaDoorLxP9
namespace Go.Proofs.YtjickecdkmljpaaDoor
open Go.RowKit

/-- The cells of a token in a row. -/
theorem toks_at {N : Nat} {w : World} {g n cap : Nat} {l : List Lx.Tok} (h : ToksV N w (.slice (some ⟨g, 0, none⟩) n cap) l) {k : Nat} (hk : k < l.length) :
    w.cell? ⟨g, k * 4, none⟩ = some (.int .i64 (l.getD k ⟨0, [], 0, 0⟩).kind) ∧ w.cell? ⟨g, k * 4 + 1, none⟩ = some (.string (str (l.getD k ⟨0, [], 0, 0⟩).text)) ∧ w.cell? ⟨g, k * 4 + 2, none⟩ = some (.int .i64 (l.getD k ⟨0, [], 0, 0⟩).num) ∧ w.cell? ⟨g, k * 4 + 3, none⟩ = some (.int .i64 ((l.getD k ⟨0, [], 0, 0⟩).pos : Int)) := by
  have hr : w.ownsRow N 29 4 (.slice (some ⟨g, 0, none⟩) n cap) l.length (l.flatMap tokCells) := h
  have hn : n = l.length := by
    rcases hr.2 with ⟨h0, _⟩ | ⟨g', cap', cur, hu, _⟩
    · cases h0
    · cases hu; rfl
  subst hn
  have hsplit : l = l.take k ++ (l.getD k ⟨0, [], 0, 0⟩ :: l.drop (k + 1)) := by
    have h1 : l.getD k ⟨0, [], 0, 0⟩ = l[k] := by simp [List.getElem?_eq_getElem hk]
    rw [h1, ← List.drop_eq_getElem_cons hk, List.take_append_drop]
  have hl : ((l.take k).flatMap tokCells).length = k * 4 := toks_len _ _ (by rw [List.length_take]; omega)
  have key : ∀ j, j < 4 → w.cell? ⟨g, k * 4 + j, none⟩ = (tokCells (l.getD k ⟨0, [], 0, 0⟩))[j]? := by
    intro j hj
    have hc := hr.cellAt (k * 4 + j) (by omega)
    have hL : (l.flatMap tokCells)[k * 4 + j]? = (tokCells (l.getD k ⟨0, [], 0, 0⟩))[j]? := by
      have e : l.flatMap tokCells = (l.take k).flatMap tokCells ++ (tokCells (l.getD k ⟨0, [], 0, 0⟩) ++ (l.drop (k + 1)).flatMap tokCells) := by
        conv => lhs; rw [hsplit]
        rw [List.flatMap_append, List.flatMap_cons]
      rw [e, List.getElem?_append_right (by omega), hl, Nat.add_sub_cancel_left, List.getElem?_append_left (by simp [tokCells]; omega)]
    exact hc.trans hL
  exact ⟨key 0 (by omega), key 1 (by omega), key 2 (by omega), key 3 (by omega)⟩
/-- What a law leaves. -/
def LawPost (w : World) (e : Ending) (w' : World) : Prop := e = .returned (.bool true) ∧ Below w.heap.size w w'

set_option maxRecDepth 100000 in
set_option maxHeartbeats 1000000 in
theorem scans_walk (hR : Hid (∀ (B : Nat) (w : World) (S : ByteArray), Tabs B w → B ≤ w.heap.size → Calls Tryd.prog 6 #[.string S] w (PScanPost S w))) (w : World) (S : ByteArray) (hT : Tabs w.heap.size w) (hm : S.size ≤ maxLen) : Calls Tryd.prog 3 #[.string S] w (LawPost w) := by
  have HT := Lib.hid hT
  clear hT
  go_enter Tryd.func3, Tryd.ntmps3
  go_wp2_with fail
  refine (pscan_any w.heap.size w S HT.out (Nat.le_refl _) hm).mono ?_
  rintro e w1 ⟨hb1, hs1⟩
  have HB1 := Lib.hid hb1
  have hz1 := hb1.size
  clear hb1
  cases hsc : Lx.scan (by_ S) with
  | error x =>
    obtain ⟨c, p⟩ := x
    rw [hsc] at hs1
    dsimp only at hs1
    subst hs1
    have HSC := Lib.hid hsc
    clear hsc
    go_wp2_with fail
    refine (hR.out w.heap.size _ S (HT.out.below (HB1.out.trans ((Below.refl _ _).alloc hz1 _)) (Nat.le_refl _)) (by simp; omega)).mono ?_
    rintro e w2 ⟨hb2, hs2⟩
    rw [HSC.out] at hs2
    dsimp only at hs2
    subst hs2
    have hz2 := hb2.size
    have HB2 := Lib.hid hb2
    have d0 := (hb2.cell (p := ⟨w1.heap.size, 0, none⟩) (by simp)).trans (World.cell?_alloc_new _ _ _ _)
    have d1 := (hb2.cell (p := ⟨w1.heap.size, 1, none⟩) (by simp)).trans (World.cell?_alloc_new _ _ _ _)
    simp only [List.getElem?_toArray, List.getElem?_cons_zero, List.getElem?_cons_succ] at d0 d1
    rw [World.size_alloc] at hz2
    have hlt2 : w1.heap.size < w2.heap.size := by omega
    clear hb2
    have HE : Hid (Below w.heap.size w (w2.alloc (.cells #[.int .i64 c, .int .i64 (p : Int)] 25))) := Lib.hid ((HB1.out.trans (((Below.refl _ _).alloc hz1 _).trans (HB2.out.mono (by simp; omega)))).alloc (by omega) _)
    go_wp2
    go_loop [7] (fun i => i = .int .i64 0) (fun _ => 0)
    case atStart => rfl
    case round =>
      subst hrel
      go_wp2
      go_returns
      exact ⟨rfl, HE.out⟩
  | ok l =>
    rw [hsc] at hs1
    obtain ⟨v, rfl, hv, hl⟩ := hs1
    obtain ⟨va, vc, rfl⟩ := own_slice hv rfl
    have HSC := Lib.hid hsc
    have HV := Lib.hid hv
    clear hsc hv
    go_wp2_with fail
    refine (hR.out w.heap.size _ S (HT.out.below (HB1.out.trans ((Below.refl _ _).alloc hz1 _)) (Nat.le_refl _)) (by simp; omega)).mono ?_
    rintro e w2 ⟨hb2, hs2⟩
    rw [HSC.out] at hs2
    obtain ⟨u, rfl, hu, _⟩ := hs2
    obtain ⟨ua, uc, rfl⟩ := own_slice hu rfl
    have hz2 := hb2.size
    have HB2 := Lib.hid hb2
    have d0 := (hb2.cell (p := ⟨w1.heap.size, 0, none⟩) (by simp)).trans (World.cell?_alloc_new _ _ _ _)
    have d1 := (hb2.cell (p := ⟨w1.heap.size, 1, none⟩) (by simp)).trans (World.cell?_alloc_new _ _ _ _)
    simp only [List.getElem?_toArray, List.getElem?_cons_zero, List.getElem?_cons_succ] at d0 d1
    have HV2 : Hid (ToksV w.heap.size w2 (.slice va l.length vc) l) := Lib.hid (own_below (HV.out.alloc _) hb2 (fun k hk => by have := (HV.out.lt k hk).2; simp; omega))
    have HU2 := Lib.hid hu
    rw [World.size_alloc] at hz2
    have hlt2 : w1.heap.size < w2.heap.size := by omega
    clear hb2 hu HV
    have HE : Hid (Below w.heap.size w (w2.alloc (.cells #[.int .i64 0, .int .i64 0] 25))) := Lib.hid ((HB1.out.trans (((Below.refl _ _).alloc hz1 _).trans (HB2.out.mono (by simp; omega)))).alloc (by omega) _)
    have HV3 : Hid (ToksV w.heap.size (w2.alloc (.cells #[.int .i64 0, .int .i64 0] 25)) (.slice va l.length vc) l) := Lib.hid (HV2.out.alloc _)
    have HU3 := Lib.hid (HU2.out.alloc (.cells #[.int .i64 0, .int .i64 0] 25))
    go_wp2
    clear d0 d1
    generalize (w2.alloc (.cells #[.int .i64 0, .int .i64 0] 25)) = w3 at *
    go_loopw [7] (fun i wr => ∃ k : Nat, k ≤ l.length ∧ i = .int .i64 k ∧ Hid (∃ n, wr = w3.drewN n)) (fun i _ => l.length - (intOf i).toNat)
    case atStart => exact ⟨0, by omega, rfl, Lib.hid ⟨0, rfl⟩⟩
    case round =>
      obtain ⟨k, hk, rfl, HW⟩ := hrel
      obtain ⟨n, rfl⟩ := HW.out
      by_cases hlt : k < l.length
      · obtain ⟨g, gc, hg⟩ := own_lit HV3.out (by omega)
        cases hg
        obtain ⟨g', gc', hg'⟩ := own_lit HU3.out (by omega)
        cases hg'
        obtain ⟨x0, x1, x2, x3⟩ := toks_at HV3.out hlt
        obtain ⟨y0, y1, y2, y3⟩ := toks_at HU3.out hlt
        have hgl := (HV3.out.lt g rfl).2
        have hgl' := (HU3.out.lt g' rfl).2
        have bk0 : (0 : Int) ≤ (k : Int) := by omega
        have bk1 : (k : Int) < (l.length : Int) := by omega
        clear hk
        generalize l.getD k ⟨0, [], 0, 0⟩ = t at *
        go_wp2_with fail
        go_quiet (fail)
        go_wp2
        go_roundw
        case rel => exact ⟨k + 1, by omega, by go_num, Lib.hid ⟨n + nq, rfl⟩⟩
        case measure => simp [intOf]; omega
      · go_wp2
        go_returns
        exact ⟨rfl, HE.out.trans ⟨rfl, rfl, rfl, Nat.le_refl _, fun _ _ => rfl⟩⟩
end Go.Proofs.YtjickecdkmljpaaDoor
