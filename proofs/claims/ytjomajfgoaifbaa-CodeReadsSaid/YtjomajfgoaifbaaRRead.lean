/-
  PROVED HERE: what the reference's Read makes of bytes: the code that they tell, or what is wrong. No condition beyond the lemmas' own premises.
-/
import Derived.Test.YtjomajfgoaifbaaRReadM
import Derived.Test.YtjomajfgoaifbaaRCheck2
namespace Go.Proofs.Ytjomajfgoaifbaa
open Go.RowKit

theorem lay3 {cb : Nat} {v0 v1 v2 u0 u1 u2 : Value} {w : World} (hcb : w.heap[cb]? = some (.cells #[v0, v1, v2] 30 (0, 0))) :
    (((w.setCell ⟨cb, 0, none⟩ u0).setCell ⟨cb, 1, none⟩ u1).setCell ⟨cb, 2, none⟩ u2).heap[cb]? = some (.cells #[u0, u1, u2] 30 (0, 0)) ∧
    ∀ B, B ≤ cb → Below B w (((w.setCell ⟨cb, 0, none⟩ u0).setCell ⟨cb, 1, none⟩ u1).setCell ⟨cb, 2, none⟩ u2) :=
  ⟨blk_set (blk_set (blk_set hcb 0 u0) 1 u1) 2 u2, fun B h1 => (((Below.refl B w).setCell (p := ⟨cb, 0, none⟩) h1 _).setCell (p := ⟨cb, 1, none⟩) h1 _).setCell (p := ⟨cb, 2, none⟩) h1 _⟩
set_option maxRecDepth 100000 in
theorem rr_end {w wx : World} {b : List UInt8} {vo vf vk ve : Value} {T : Array Value} (hcb : wx.heap[w.heap.size]? = some (.cells #[vo, vf, vk] 30 (0, 0))) (hp : CdPost b w (.returned (.tuple #[.agg #[vo, vf, vk], ve])) wx)
    (h2 : T[2]? = some (.pointer (some ⟨w.heap.size, 0, none⟩))) (h3 : T[3]? = some ve) : bodyPost Try.prog Try.f11 (CdPost b w) .ret { tmps := T, defers := [] } wx := by
  have k0 := blk_cell hcb 0
  have k1 := blk_cell hcb 1
  have k2 := blk_cell hcb 2
  have hl1 := blk_lt hcb
  simp only [List.getElem?_toArray, List.getElem?_cons_zero, List.getElem?_cons_succ] at k0 k1 k2
  exact bodyPost_ret (v := .tuple #[.agg #[vo, vf, vk], ve]) (by simp [results, Try.results11, go_sem, k0, k1, k2, h2, h3]) rfl hp

set_option maxRecDepth 100000 in
set_option maxHeartbeats 4000000 in
theorem rread_any (w : World) (v : Value) (b : List UInt8) (hv : BytesV w.heap.size w v b) : Calls Try.prog 11 #[v] w (CdPost b w) := by
  have HS := Lib.hid (rrst_start w v b hv)
  have Hv := Lib.hid hv
  obtain ⟨va, vb, vo, vc, rfl, hv1, hv2, hv3, hv4⟩ := hv
  clear hv1 hv2 hv3 hv4
  obtain ⟨i68, hi68, hz68, hs68, hb68⟩ := info_parts rd_info68
  obtain ⟨i61, hi61, hz61, hs61, hb61⟩ := info_parts rd_info61
  obtain ⟨i24, hi24, hz24, hs24, hb24⟩ := info_parts rd_info24
  obtain ⟨i3, hi3, hz3, hs3, hb3⟩ := info_parts rd_info3
  go_enter Try.func11, Try.ntmps11
  go_wp2_with fail
  generalize (((w.alloc (.cells #[.slice none 0 0, .slice none 0 0, .slice none 0 0] 30)).alloc (.cells #[.slice va b.length vc, .int .i64 0, .int .i64 0] 79)).alloc (.cells #[.slice none 0 0, .slice none 0 0, .slice none 0 0] 30)) = w1 at *
  obtain ⟨n1, x1, e1, I1, hc⟩ := rcount_p (Lib.hid HS.out.rd) (by omega)
  refine hc.mono ?_
  rintro e w2 ⟨O1, rfl, R1⟩
  have HS2 := Lib.hid (HS.out.but O1.out.but R1.out)
  clear O1 R1 HS hc
  go_wp2_with fail
  obtain ⟨n2, x2, e2, I2, hc⟩ := rcount_p (Lib.hid HS2.out.rd) (by omega)
  refine hc.mono ?_
  rintro e w3 ⟨O1, rfl, R1⟩
  have HS3 := Lib.hid (HS2.out.but O1.out.but R1.out)
  clear O1 R1 HS2 hc
  go_wp2_with fail
  obtain ⟨n3, x3, e3, I3, hc⟩ := rcount_p (Lib.hid HS3.out.rd) (by omega)
  refine hc.mono ?_
  rintro e w4 ⟨O1, rfl, R1⟩
  have HS4 := Lib.hid (HS3.out.but O1.out.but R1.out)
  have HL := Lib.hid (heads_told e1 e2 e3)
  clear O1 R1 HS3 hc e1 e2 e3
  go_wp2
  go_loopw [9] (fun i wr => ∃ (k : Nat) (os : List Cd.GOp) (x : Except Int (List UInt8)), k ≤ 10000 ∧ os.length = k ∧ i = .int .i64 k ∧ Hid (RepL b Rd.opP n1 k os x fun os r => RepL b Rd.fnP n2 0 [] (.ok r) fun fs r => RepL b Rd.listP n3 0 [] (.ok r) fun ks r => Told b os fs ks r) ∧ Hid (RRSt w wr b x ⟨os, [], []⟩)) (fun i _ => n1.toNat - (intOf i).toNat)
  case atStart => exact ⟨0, [], x3, by omega, rfl, rfl, HL, HS4⟩
  case round =>
    clear HS4 HL
    obtain ⟨k, os, x, hk, hko, rfl, HX, HR⟩ := hrel
    subst hko
    obtain ⟨ra, rn, rcap, ri, hblk⟩ := HR.out.rd.blk
    have d2 := blk_cell hblk 2
    simp only [List.getElem?_toArray, List.getElem?_cons_zero, List.getElem?_cons_succ] at d2
    clear hblk
    go_upto_region 7 with fail
    go_cut [42] (fun c wx => ∃ B : Bool, c = .bool B ∧ (B = true ↔ ((os.length : Int) < n1 ∧ errX x = 0)) ∧ wx = wr)
    case first =>
      by_cases h1 : (os.length : Int) < n1
      · by_cases h2 : errX x = 0
        · have h3 : (errX x == 0) = true := by simpa using h2
          go_wp2_with fail
          go_meet
          exact ⟨true, rfl, ⟨fun _ => ⟨h1, h2⟩, fun _ => rfl⟩, rfl⟩
        · have h3 : (errX x == 0) = false := by simpa using h2
          go_wp2_with fail
          go_meet
          exact ⟨false, rfl, ⟨fun h => Bool.noConfusion h, fun h => absurd h.2 h2⟩, rfl⟩
      · go_wp2_with fail
        go_meet
        exact ⟨false, rfl, ⟨fun h => Bool.noConfusion h, fun h => by have := h.1; omega⟩, rfl⟩
    case rest =>
      obtain ⟨B, rfl, hB, hw⟩ := hcut
      obtain rfl : wr = wc := hw.symm
      cases B with
      | true =>
        have hgo := hB.1 rfl
        clear hB
        obtain ⟨r, rfl⟩ := HR.out.rd.ok hgo.2
        have hn1 := I1.out
        have hk1 := HX.out.bd hgo.1
        obtain ⟨v0, v1, v2, hcb, q1, q2, q3⟩ := HR.out.code
        have Hcb := Lib.hid hcb
        have Q1 := Lib.hid q1
        have Q2 := Lib.hid q2
        have Q3 := Lib.hid q3
        clear hcb q1 q2 q3 d2
        go_wp2_with fail
        obtain ⟨d, y1, e1, J1, hc⟩ := rnum_p (Lib.hid HR.out.rd) (by omega)
        refine hc.mono ?_
        rintro e w5 ⟨O1, rfl, R1⟩
        clear hc
        go_wp2_with fail
        obtain ⟨a, y2, e2, J2, hc⟩ := rnum_p R1 (by omega)
        refine hc.mono ?_
        rintro e w6 ⟨O2, rfl, R2⟩
        clear hc
        go_wp2_with fail
        obtain ⟨bb, y3, e3, J3, hc⟩ := rnum_p R2 (by omega)
        refine hc.mono ?_
        rintro e w7 ⟨O3, rfl, R3⟩
        have hN := Lib.hid (HX.out.op hgo.1 e1 e2 e3)
        clear hc e1 e2 e3
        have B7 := Lib.hid (((O1.out.trans O2.out).trans O3.out).but.alloc (Nat.le_of_lt R3.out.lt) (.cells #[.int .i64 d, .int .i64 a, .int .i64 bb] 68))
        have R7 := Lib.hid (R3.out.alloc (by omega) (.cells #[.int .i64 d, .int .i64 a, .int .i64 bb] 68))
        have S7 := Lib.hid (HR.out.but B7.out R7.out)
        obtain ⟨_, _, _, _, hp79⟩ := HR.out.rd.blk
        obtain ⟨P0, P1, P2, P3⟩ := parts_but2 Hcb.out Q1.out Q2.out Q3.out B7.out hp79
        obtain ⟨T0, _, _, _⟩ := parts_but2 Hcb.out Q1.out Q2.out Q3.out ((O1.out.trans O2.out).trans O3.out).but hp79
        have c0 := blk_cell T0.out 0
        simp only [List.getElem?_toArray, List.getElem?_cons_zero] at c0
        have hl7 := R3.out.lt
        have hlc := blk_lt T0.out
        have hp1 : w.heap.size ≤ (w7.alloc (.cells #[.int .i64 d, .int .i64 a, .int .i64 bb] 68)).heap.size := by simp; omega
        clear hp79 R1 R2 O1 O2 O3
        go_wp2_with (at_builtin; refine wpList_append_own _ rfl _ _ 26 rfl w.heap.size 68 i68 _ 3 24 Try.underlying26 hi68 hz68 hs68 hb68 rfl (by decide) _ _ _ rfl P1.out.1 ⟨w7.heap.size, 0, none⟩ 1 1 [.int .i64 d, .int .i64 a, .int .i64 bb] rfl rfl (World.news_of_block (cs := #[.int .i64 d, .int .i64 a, .int .i64 bb]) (t := 68) (fr := (0, 0)) (heap_alloc_new _ _)) (by simp [Value.oneCell']) ?c3 ?c4 hp1 ?_; rotate_right; intro v' w10 hown' hgrow hnil; obtain ⟨g10, cap10, rfl⟩ := own_lit hown' (by omega); have hb10 := blk_grown P0.out hgrow (fun e0 => own_ne_blk P1.out.1 P0.out (by decide) e0.symm); have j1 := blk_cell hb10 0; have j2 := blk_free hb10 0; have hl10 := blk_lt hb10; simp only [List.getElem?_toArray, List.getElem?_cons_zero] at j1; have HG := Lib.hid hgrow; have HO10 := Lib.hid hown'; clear hb10 hgrow hown' hnil c0)
        case c3 => unfold maxLen; omega
        case c4 => omega
        have hNC := Lib.hid (CodeSt.push_op (o := ⟨d, a, bb⟩) (C := ⟨os, [], []⟩) P0.out P1.out P2.out P3.out ⟨J1.out, J2.out, J3.out⟩ HO10.out HG.out)
        have hR10 := Lib.hid (rrst_push (i := 0) S7.out P1.out.1 (Nat.le_refl _) (by decide) (by decide) HG.out hNC.out)
        clear hNC
        go_roundw
        case rel => exact ⟨os.length + 1, os ++ [⟨d, a, bb⟩], y3, by omega, by simp, by go_num, hN, hR10⟩
        case measure => simp [intOf]; omega
      | false =>
        have hgo : ¬ ((os.length : Int) < n1 ∧ errX x = 0) := fun h => Bool.noConfusion (hB.2 h)
        clear hB
        have HL2 := Lib.hid (Lk.rep (HX.out.done hgo))
        obtain ⟨wo, rfl⟩ : ∃ wo : World, wo = wr := ⟨_, rfl⟩
        clear HX d2 hgo I1
        go_wp2
        go_loopw [13] (fun i wr => ∃ (k : Nat) (fs : List Cd.GFn) (x : Except Int (List UInt8)), k ≤ 10000 ∧ fs.length = k ∧ i = .int .i64 k ∧ Hid (RepL b Rd.fnP n2 k fs x fun fs r => RepL b Rd.listP n3 0 [] (.ok r) fun ks r => Told b os fs ks r) ∧ Hid (RRSt w wr b x ⟨os, fs, []⟩)) (fun i _ => n2.toNat - (intOf i).toNat)
        case atStart => exact ⟨0, [], x, by omega, rfl, rfl, HL2, HR⟩
        case round =>
          clear HR HL2
          obtain ⟨k, fs, x, hk, hko, rfl, HX, HR⟩ := hrel
          subst hko
          obtain ⟨ra, rn, rcap, ri, hblk⟩ := HR.out.rd.blk
          have d2 := blk_cell hblk 2
          simp only [List.getElem?_toArray, List.getElem?_cons_zero, List.getElem?_cons_succ] at d2
          clear hblk
          go_upto_region 14 with fail
          go_cut [69] (fun c wx => ∃ B : Bool, c = .bool B ∧ (B = true ↔ ((fs.length : Int) < n2 ∧ errX x = 0)) ∧ wx = wr)
          case first =>
            by_cases h1 : (fs.length : Int) < n2
            · by_cases h2 : errX x = 0
              · have h3 : (errX x == 0) = true := by simpa using h2
                go_wp2_with fail
                go_meet
                exact ⟨true, rfl, ⟨fun _ => ⟨h1, h2⟩, fun _ => rfl⟩, rfl⟩
              · have h3 : (errX x == 0) = false := by simpa using h2
                go_wp2_with fail
                go_meet
                exact ⟨false, rfl, ⟨fun h => Bool.noConfusion h, fun h => absurd h.2 h2⟩, rfl⟩
            · go_wp2_with fail
              go_meet
              exact ⟨false, rfl, ⟨fun h => Bool.noConfusion h, fun h => by have := h.1; omega⟩, rfl⟩
          case rest =>
            obtain ⟨B, rfl, hB, hw⟩ := hcut
            obtain rfl : wr = wc := hw.symm
            cases B with
            | true =>
              have hgo := hB.1 rfl
              clear hB
              obtain ⟨wq, rfl⟩ : ∃ wq : World, wq = wr := ⟨_, rfl⟩
              obtain ⟨r, rfl⟩ := HR.out.rd.ok hgo.2
              have hn1 := I2.out
              have hk1 := HX.out.bd hgo.1
              obtain ⟨v0, v1, v2, hcb, q1, q2, q3⟩ := HR.out.code
              have Hcb := Lib.hid hcb
              have hwc := blk_lt hcb
              have Q1 := Lib.hid q1
              have Q2 := Lib.hid q2
              have Q3 := Lib.hid q3
              clear hcb q1 q2 q3 d2
              have K0 := Lib.hid ((KSt.refl HR.out.rd).alloc (.cells #[.int .i64 0, .int .i64 0, .int .i64 0, .slice none 0 0] 61))
              have X0 := Lib.hid (blk_new wq (.cells #[.int .i64 0, .int .i64 0, .int .i64 0, .slice none 0 0] 61))
              go_wp2_with fail
              obtain ⟨d, y1, e1, J1, hc⟩ := rnum_p (Lib.hid K0.out.rd) (by omega)
              refine hc.mono ?_
              rintro e w5 ⟨O1, rfl, R1⟩
              have K1 := Lib.hid (K0.out.call O1.out R1.out)
              have hx1 := (O1.out.kept wq.heap.size (by omega)).trans X0.out
              have c1 := blk_cell hx1 0
              have f1 := blk_free hx1 0
              have g1 := blk_lt hx1
              simp only [List.getElem?_toArray, List.getElem?_cons_zero] at c1
              have X1 := Lib.hid ((blk_set hx1 0 (.int .i64 d)))
              have K2 := Lib.hid (K1.out.put (q := wq.heap.size) (i := 0) (Nat.le_refl _) (by omega) (.int .i64 d))
              clear hc O1 R1 K0 X0 hx1 K1
              go_wp2_with fail
              obtain ⟨a, y2, e2, J2, hc⟩ := rnum_p (Lib.hid K2.out.rd) (by omega)
              refine hc.mono ?_
              rintro e w6 ⟨O1, rfl, R1⟩
              have K3 := Lib.hid (K2.out.call O1.out R1.out)
              have hx2 := (O1.out.kept wq.heap.size (by omega)).trans X1.out
              have c2 := blk_cell hx2 1
              have f2 := blk_free hx2 1
              have g2 := blk_lt hx2
              simp only [List.setIfInBounds_toArray, List.set_cons_zero, List.getElem?_toArray, List.getElem?_cons_zero, List.getElem?_cons_succ] at c2
              have X2 := Lib.hid ((blk_set hx2 1 (.int .i64 a)))
              have K4 := Lib.hid (K3.out.put (q := wq.heap.size) (i := 1) (Nat.le_refl _) (by omega) (.int .i64 a))
              clear hc O1 R1 K2 X1 hx2 K3 c1 f1 g1
              go_wp2_with fail
              obtain ⟨s, y3, e3, J3, hc⟩ := rnum_p (Lib.hid K4.out.rd) (by omega)
              refine hc.mono ?_
              rintro e w7 ⟨O1, rfl, R1⟩
              have K5 := Lib.hid (K4.out.call O1.out R1.out)
              have hx3 := (O1.out.kept wq.heap.size (by omega)).trans X2.out
              have c3 := blk_cell hx3 2
              have f3 := blk_free hx3 2
              have g3 := blk_lt hx3
              simp only [List.setIfInBounds_toArray, List.set_cons_zero, List.set_cons_succ, List.getElem?_toArray, List.getElem?_cons_zero, List.getElem?_cons_succ] at c3
              have X3 := Lib.hid ((blk_set hx3 2 (.int .i64 s)))
              have K6 := Lib.hid (K5.out.put (q := wq.heap.size) (i := 2) (Nat.le_refl _) (by omega) (.int .i64 s))
              clear hc O1 R1 K4 X2 hx3 K5 c2 f2 g2
              go_wp2_with fail
              obtain ⟨m, y4, e4, J4, hc⟩ := rcount_p (Lib.hid K6.out.rd) (by omega)
              refine hc.mono ?_
              rintro e w8 ⟨O1, rfl, R1⟩
              have K7 := Lib.hid (K6.out.call O1.out R1.out)
              have hx4 : w8.heap[wq.heap.size]? = some (.cells #[.int .i64 d, .int .i64 a, .int .i64 s, .slice none 0 0] 61 (0, 0)) := (O1.out.kept wq.heap.size (by omega)).trans X3.out
              have X4 := Lib.hid hx4
              have HLf := Lib.hid (HX.out.fn hgo.1 e1 e2 e3 e4)
              clear hc O1 R1 K6 X3 hx4 c3 f3 g3 e1 e2 e3 e4
              go_wp2_with fail
              go_loopw [16] (fun i wx => ∃ (j : Nat) (l : List Int) (y : Except Int (List UInt8)) (u : Value), j ≤ 10000 ∧ l.length = j ∧ i = .int .i64 j ∧ Hid (RepL b Rd.num m j l y fun l r' => RepL b Rd.fnP n2 (fs.length + 1) (fs ++ [⟨d, a, s, l⟩]) (.ok r') fun fs r => RepL b Rd.listP n3 0 [] (.ok r) fun ks r => Told b os fs ks r) ∧ Hid (KSt w.heap.size wq wx b y) ∧ Hid (wx.heap[wq.heap.size]? = some (.cells #[.int .i64 d, .int .i64 a, .int .i64 s, u] 61 (0, 0))) ∧ Hid (wx.ownsRow wq.heap.size 3 1 u l.length (l.map (Value.int .i64))) ∧ Hid (∀ x ∈ l, I64 x)) (fun i _ => m.toNat - (intOf i).toNat)
              case atStart => exact ⟨0, [], y4, _, by omega, rfl, rfl, HLf, K7, X4, Lib.hid (World.ownsRow_nil _ _ _ _), Lib.hid (fun x h => by simp at h)⟩
              case round =>
                clear K7 X4 HLf
                obtain ⟨j, l, y, u, hj, hjl, rfl, HY, HK, HB, HO, HI⟩ := hrel
                subst hjl
                obtain ⟨ra, rn, rcap, ri, hblk⟩ := HK.out.rd.blk
                have d2 := blk_cell hblk 2
                simp only [List.getElem?_toArray, List.getElem?_cons_zero, List.getElem?_cons_succ] at d2
                clear hblk
                go_upto_region 22 with fail
                go_cut [92] (fun c wz => ∃ B : Bool, c = .bool B ∧ (B = true ↔ ((l.length : Int) < m ∧ errX y = 0)) ∧ wz = wr)
                case first =>
                  by_cases h1 : (l.length : Int) < m
                  · by_cases h2 : errX y = 0
                    · have h3 : (errX y == 0) = true := by simpa using h2
                      go_wp2_with fail
                      go_meet
                      exact ⟨true, rfl, ⟨fun _ => ⟨h1, h2⟩, fun _ => rfl⟩, rfl⟩
                    · have h3 : (errX y == 0) = false := by simpa using h2
                      go_wp2_with fail
                      go_meet
                      exact ⟨false, rfl, ⟨fun h => Bool.noConfusion h, fun h => absurd h.2 h2⟩, rfl⟩
                  · go_wp2_with fail
                    go_meet
                    exact ⟨false, rfl, ⟨fun h => Bool.noConfusion h, fun h => by have := h.1; omega⟩, rfl⟩
                case rest =>
                  obtain ⟨B, rfl, hB, hw⟩ := hcut
                  obtain rfl : wr = wc := hw.symm
                  cases B with
                  | true =>
                    have hgo := hB.1 rfl
                    clear hB
                    obtain ⟨r, rfl⟩ := HK.out.rd.ok hgo.2
                    have hm1 := J4.out
                    have hk2 := HY.out.bd hgo.1
                    obtain ⟨_, _, _, _, hp79⟩ := HK.out.rd.blk
                    have Hp79 := Lib.hid hp79
                    clear d2 hp79
                    go_wp2_with fail
                    obtain ⟨xx, y1, e1, JX, hc⟩ := rnum_p (Lib.hid HK.out.rd) (by omega)
                    refine hc.mono ?_
                    rintro e w9 ⟨O1, rfl, R1⟩
                    have HK1 := Lib.hid (HK.out.call O1.out R1.out)
                    have HB1 := Lib.hid ((O1.out.kept wq.heap.size (by omega)).trans HB.out)
                    have HO1 := Lib.hid (own_but HO.out O1.out.but Hp79.out (by decide))
                    obtain ⟨ua, uc, rfl⟩ := own_slice HO1.out rfl
                    have HL1 := HY.out.num hgo.1
                    rw [e1] at HL1
                    have HLN := Lib.hid HL1
                    have c3 := blk_cell HB1.out 3
                    have hq9 := blk_lt HB1.out
                    have hs9 : wq.heap.size ≤ w9.heap.size := by omega
                    have hp1 : wq.heap.size ≤ (w9.alloc (.cells #[.int .i64 xx] 3)).heap.size := by simp; omega
                    simp only [List.getElem?_toArray, List.getElem?_cons_zero, List.getElem?_cons_succ] at c3
                    clear hc e1 O1 R1 HL1
                    go_wp2_with (at_builtin; refine wpList_append_own _ rfl _ _ 24 rfl wq.heap.size 3 i3 (.int .i64 0) 1 8 Try.underlying24 hi3 hz3 hs3 hb3 rfl (by decide) _ _ _ rfl (HO1.out.alloc _) ⟨w9.heap.size, 0, none⟩ 1 1 [.int .i64 xx] rfl rfl ?c1 (rd_int_one _) ?c3 ?c4 hp1 ?_; rotate_right; intro v' w10 hown' hgrow hnil; obtain ⟨g10, cap10, rfl⟩ := own_lit hown' (by omega); have hb10 := blk_grown (blk_alloc HB1.out _) hgrow (fun e0 => own_ne_blk HO1.out HB1.out (by decide) e0.symm); have j1 := blk_cell hb10 3; have j2 := blk_free hb10 3; have hl10 := blk_lt hb10; simp only [List.getElem?_toArray, List.getElem?_cons_zero, List.getElem?_cons_succ] at j1; have HG := Lib.hid hgrow; have HO10 := Lib.hid hown'; have HB10 := Lib.hid hb10; clear hb10 hgrow hown' hnil c3)
                    case c1 => exact cell_one_new _ _ _
                    case c3 => unfold maxLen; omega
                    case c4 => omega
                    have HK2 := Lib.hid ((HK1.out.grown (by omega) HO1.out (Nat.le_refl _) HG.out).put (q := wq.heap.size) (i := 3) (Nat.le_refl _) (by omega) (.slice (some ⟨g10, 0, none⟩) (l.length + 1) cap10))
                    have HB2 := Lib.hid (blk_set HB10.out 3 (.slice (some ⟨g10, 0, none⟩) (l.length + 1) cap10))
                    have HO2 := Lib.hid (own_set (i := 3) (u := .slice (some ⟨g10, 0, none⟩) (l.length + 1) cap10) HO10.out HB10.out (by decide))
                    have HI2 : Hid (∀ x ∈ l ++ [xx], I64 x) := Lib.hid (fun z hz => (List.mem_append.1 hz).elim (HI.out z) (fun h => by rw [List.mem_singleton.1 h]; exact JX.out))
                    clear HB10 HG HO10 HK HB HO HI HY HK1 HB1 HO1
                    go_roundw
                    case rel => exact ⟨l.length + 1, l ++ [xx], y1, _, by omega, by simp, by go_num, HLN, HK2, HB2, Lib.hid (by simpa using HO2.out), HI2⟩
                    case measure => simp [intOf]; omega
                  | false =>
                    have hgo' : ¬ ((l.length : Int) < m ∧ errX y = 0) := fun h => Bool.noConfusion (hB.2 h)
                    clear hB d2
                    have HLF := Lib.hid (Lk.rep (HY.out.done hgo'))
                    clear HY hgo' J4
                    obtain ⟨ua, uc, rfl⟩ := own_slice HO.out rfl
                    obtain ⟨_, _, _, _, hp79⟩ := HR.out.rd.blk
                    have B5 := Lib.hid (HK.out.but.alloc (Nat.le_of_lt HK.out.rd.lt) (.cells #[.int .i64 d, .int .i64 a, .int .i64 s, .slice ua l.length uc] 61))
                    have R5 := Lib.hid (HK.out.rd.alloc (by omega) (.cells #[.int .i64 d, .int .i64 a, .int .i64 s, .slice ua l.length uc] 61))
                    have S5 := Lib.hid (HR.out.but B5.out R5.out)
                    obtain ⟨P0, P1, P2, P3⟩ := parts_but2 Hcb.out Q1.out Q2.out Q3.out B5.out hp79
                    obtain ⟨T0, _, _, _⟩ := parts_but2 Hcb.out Q1.out Q2.out Q3.out HK.out.but hp79
                    have HU := Lib.hid ((Own3.mk (own_lower HO.out (Nat.zero_le _)) HI.out hj).alloc (.cells #[.int .i64 d, .int .i64 a, .int .i64 s, .slice ua l.length uc] 61))
                    obtain ⟨z, hz, hown, hxz⟩ := P2.out
                    have hzl : z.length = fs.length := by
                      have h1 := congrArg List.length hz
                      rw [List.length_map] at h1
                      exact h1
                    have HZ := Lib.hid hz
                    have HOW := Lib.hid hown
                    have HXZ := Lib.hid hxz
                    have hzn : z.length ≤ 10000 := by omega
                    have b0 := blk_cell HB.out 0
                    have b1 := blk_cell HB.out 1
                    have b2 := blk_cell HB.out 2
                    have b3 := blk_cell HB.out 3
                    have c1 := blk_cell T0.out 1
                    have hlq := blk_lt HB.out
                    have hlc := blk_lt T0.out
                    simp only [List.getElem?_toArray, List.getElem?_cons_zero, List.getElem?_cons_succ] at b0 b1 b2 b3 c1
                    have hp1 : w.heap.size ≤ (wr.alloc (.cells #[.int .i64 d, .int .i64 a, .int .i64 s, .slice ua l.length uc] 61)).heap.size := by simp; omega
                    have hnews : Hid (∀ j x, [Value.int .i64 d, .int .i64 a, .int .i64 s, .slice ua l.length uc][j]? = some x → (wr.alloc (.cells #[.int .i64 d, .int .i64 a, .int .i64 s, .slice ua l.length uc] 61)).cell? ((⟨wr.heap.size, 0, none⟩ : Addr).add j) = some x) := Lib.hid (World.news_of_block (cs := #[.int .i64 d, .int .i64 a, .int .i64 s, .slice ua l.length uc]) (t := 61) (fr := (0, 0)) (heap_alloc_new _ _))
                    clear hp79 hz hown hxz hzl HB HO HK HI
                    go_wp2_with (at_builtin; refine wpList_append_own _ rfl _ _ 27 rfl w.heap.size 61 i61 (.agg #[.int .i64 0, .int .i64 0, .int .i64 0, .slice none 0 0]) 4 48 Try.underlying27 hi61 hz61 hs61 hb61 rfl (by decide) _ _ _ rfl HOW.out ⟨wr.heap.size, 0, none⟩ 1 1 [.int .i64 d, .int .i64 a, .int .i64 s, .slice ua l.length uc] rfl rfl hnews.out (one4 _ _ _ _ _ _) ?c3 ?c4 hp1 ?_; rotate_right; intro v' w10 hown' hgrow hnil; obtain ⟨g10, cap10, rfl⟩ := own_lit hown' (by omega); have hb10 := blk_grown P0.out hgrow (fun e0 => own_ne_blk HOW.out P0.out (by decide) e0.symm); have j1 := blk_cell hb10 1; have j2 := blk_free hb10 1; have hl10 := blk_lt hb10; simp only [List.getElem?_toArray, List.getElem?_cons_zero, List.getElem?_cons_succ] at j1; have HG := Lib.hid hgrow; have HO10 := Lib.hid hown'; clear hb10 hgrow hown' hnil c1 b0 b1 b2 b3)
                    case c3 => unfold maxLen; omega
                    case c4 => omega
                    have hNC := Lib.hid (CodeSt.push_fn (f := ⟨d, a, s, l⟩) (C := ⟨os, fs, []⟩) P0.out P1.out HZ.out HOW.out HXZ.out P3.out ⟨J1.out, J2.out, J3.out⟩ HU.out HO10.out HG.out)
                    have hR10 := Lib.hid (rrst_push (i := 1) S5.out HOW.out (Nat.le_refl _) (by decide) (by decide) HG.out hNC.out)
                    clear hNC
                    go_roundw
                    case rel => exact ⟨fs.length + 1, fs ++ [⟨d, a, s, l⟩], y, by omega, by simp, by go_num, HLF, hR10⟩
                    case measure => simp [intOf]; omega
            | false =>
              have hgo : ¬ ((fs.length : Int) < n2 ∧ errX x = 0) := fun h => Bool.noConfusion (hB.2 h)
              clear hB
              have HL3 := Lib.hid (Lk.rep (HX.out.done hgo))
              obtain ⟨wo2, rfl⟩ : ∃ wo2 : World, wo2 = wr := ⟨_, rfl⟩
              clear HX d2 hgo I2
              go_wp2_with fail
              go_loopw [18] (fun i wr => ∃ (k : Nat) (ks : List (List Int)) (x : Except Int (List UInt8)), k ≤ 10000 ∧ ks.length = k ∧ i = .int .i64 k ∧ Hid (RepL b Rd.listP n3 k ks x fun ks r => Told b os fs ks r) ∧ Hid (RRSt w wr b x ⟨os, fs, ks⟩)) (fun i _ => n3.toNat - (intOf i).toNat)
              case atStart => exact ⟨0, [], x, by omega, rfl, rfl, HL3, HR⟩
              case round =>
                clear HR HL3
                obtain ⟨k, ks, x, hk, hko, rfl, HX, HR⟩ := hrel
                subst hko
                obtain ⟨ra, rn, rcap, ri, hblk⟩ := HR.out.rd.blk
                have d2 := blk_cell hblk 2
                simp only [List.getElem?_toArray, List.getElem?_cons_zero, List.getElem?_cons_succ] at d2
                clear hblk
                go_upto_region 28 with fail
                go_cut [118] (fun c wz => ∃ B : Bool, c = .bool B ∧ (B = true ↔ ((ks.length : Int) < n3 ∧ errX x = 0)) ∧ wz = wr)
                case first =>
                  by_cases h1 : (ks.length : Int) < n3
                  · by_cases h2 : errX x = 0
                    · have h3 : (errX x == 0) = true := by simpa using h2
                      go_wp2_with fail
                      go_meet
                      exact ⟨true, rfl, ⟨fun _ => ⟨h1, h2⟩, fun _ => rfl⟩, rfl⟩
                    · have h3 : (errX x == 0) = false := by simpa using h2
                      go_wp2_with fail
                      go_meet
                      exact ⟨false, rfl, ⟨fun h => Bool.noConfusion h, fun h => absurd h.2 h2⟩, rfl⟩
                  · go_wp2_with fail
                    go_meet
                    exact ⟨false, rfl, ⟨fun h => Bool.noConfusion h, fun h => by have := h.1; omega⟩, rfl⟩
                case rest =>
                  obtain ⟨B, rfl, hB, hw⟩ := hcut
                  obtain rfl : wr = wc := hw.symm
                  cases B with
                  | true =>
                    have hgo := hB.1 rfl
                    clear hB
                    obtain ⟨wq, rfl⟩ : ∃ wq : World, wq = wr := ⟨_, rfl⟩
                    obtain ⟨r, rfl⟩ := HR.out.rd.ok hgo.2
                    have hn1 := I3.out
                    have hk1 := HX.out.bd hgo.1
                    obtain ⟨v0, v1, v2, hcb, q1, q2, q3⟩ := HR.out.code
                    have Hcb := Lib.hid hcb
                    have hwc := blk_lt hcb
                    have Q1 := Lib.hid q1
                    have Q2 := Lib.hid q2
                    have Q3 := Lib.hid q3
                    clear hcb q1 q2 q3 d2
                    have K0 := Lib.hid (KSt.refl HR.out.rd)
                    go_wp2_with fail
                    obtain ⟨m, y4, e4, J4, hc⟩ := rcount_p (Lib.hid K0.out.rd) (by omega)
                    refine hc.mono ?_
                    rintro e w8 ⟨O1, rfl, R1⟩
                    have K7 := Lib.hid (K0.out.call O1.out R1.out)
                    have HLf := Lib.hid (HX.out.list hgo.1 e4)
                    clear hc O1 R1 K0 e4
                    go_wp2_with fail
                    go_loopw [20, 21] (fun u i wx => ∃ (j : Nat) (l : List Int) (y : Except Int (List UInt8)), j ≤ 10000 ∧ l.length = j ∧ i = .int .i64 j ∧ Hid (RepL b Rd.num m j l y fun l r' => RepL b Rd.listP n3 (ks.length + 1) (ks ++ [l]) (.ok r') fun ks r => Told b os fs ks r) ∧ Hid (KSt w.heap.size wq wx b y) ∧ Hid (wx.ownsRow wq.heap.size 3 1 u l.length (l.map (Value.int .i64))) ∧ Hid (∀ x ∈ l, I64 x)) (fun _ i _ => m.toNat - (intOf i).toNat)
                    case atStart => exact ⟨0, [], y4, by omega, rfl, rfl, HLf, K7, Lib.hid (World.ownsRow_nil _ _ _ _), Lib.hid (fun x h => by simp at h)⟩
                    case round =>
                      clear K7 HLf
                      obtain ⟨j, l, y, hj, hjl, rfl, HY, HK, HO, HI⟩ := hrel
                      subst hjl
                      obtain ⟨ra, rn, rcap, ri, hblk⟩ := HK.out.rd.blk
                      have d2 := blk_cell hblk 2
                      simp only [List.getElem?_toArray, List.getElem?_cons_zero, List.getElem?_cons_succ] at d2
                      clear hblk
                      go_upto_region 33 with fail
                      go_cut [132] (fun c wz => ∃ B : Bool, c = .bool B ∧ (B = true ↔ ((l.length : Int) < m ∧ errX y = 0)) ∧ wz = wr)
                      case first =>
                        by_cases h1 : (l.length : Int) < m
                        · by_cases h2 : errX y = 0
                          · have h3 : (errX y == 0) = true := by simpa using h2
                            go_wp2_with fail
                            go_meet
                            exact ⟨true, rfl, ⟨fun _ => ⟨h1, h2⟩, fun _ => rfl⟩, rfl⟩
                          · have h3 : (errX y == 0) = false := by simpa using h2
                            go_wp2_with fail
                            go_meet
                            exact ⟨false, rfl, ⟨fun h => Bool.noConfusion h, fun h => absurd h.2 h2⟩, rfl⟩
                        · go_wp2_with fail
                          go_meet
                          exact ⟨false, rfl, ⟨fun h => Bool.noConfusion h, fun h => by have := h.1; omega⟩, rfl⟩
                      case rest =>
                        obtain ⟨B, rfl, hB, hw⟩ := hcut
                        obtain rfl : wr = wc := hw.symm
                        cases B with
                        | true =>
                          have hgo := hB.1 rfl
                          clear hB
                          obtain ⟨r, rfl⟩ := HK.out.rd.ok hgo.2
                          have hm1 := J4.out
                          have hk2 := HY.out.bd hgo.1
                          obtain ⟨_, _, _, _, hp79⟩ := HK.out.rd.blk
                          have Hp79 := Lib.hid hp79
                          clear d2 hp79
                          go_wp2_with fail
                          obtain ⟨xx, y1, e1, JX, hc⟩ := rnum_p (Lib.hid HK.out.rd) (by omega)
                          refine hc.mono ?_
                          rintro e w9 ⟨O1, rfl, R1⟩
                          have HK1 := Lib.hid (HK.out.call O1.out R1.out)
                          have HO1 := Lib.hid (own_but HO.out O1.out.but Hp79.out (by decide))
                          have HL1 := HY.out.num hgo.1
                          rw [e1] at HL1
                          have HLN := Lib.hid HL1
                          have hs9 : wq.heap.size ≤ w9.heap.size := HK1.out.but.low.size
                          have hp1 : wq.heap.size ≤ (w9.alloc (.cells #[.int .i64 xx] 3)).heap.size := by simp; omega
                          clear hc e1 O1 R1 HL1
                          go_wp2_with (at_builtin; refine wpList_append_own _ rfl _ _ 24 rfl wq.heap.size 3 i3 (.int .i64 0) 1 8 Try.underlying24 hi3 hz3 hs3 hb3 rfl (by decide) _ _ _ rfl (HO1.out.alloc _) ⟨w9.heap.size, 0, none⟩ 1 1 [.int .i64 xx] rfl rfl ?c1 (rd_int_one _) ?c3 ?c4 hp1 ?_; rotate_right; intro v' w10 hown' hgrow hnil; have HG := Lib.hid hgrow; have HO10 := Lib.hid hown'; clear hgrow hown' hnil)
                          case c1 => exact cell_one_new _ _ _
                          case c3 => unfold maxLen; omega
                          case c4 => omega
                          have HK2 := Lib.hid (HK1.out.grown (by omega) HO1.out (Nat.le_refl _) HG.out)
                          have HI2 : Hid (∀ x ∈ l ++ [xx], I64 x) := Lib.hid (fun z hz => (List.mem_append.1 hz).elim (HI.out z) (fun h => by rw [List.mem_singleton.1 h]; exact JX.out))
                          clear HG HK HO HI HY HK1 HO1
                          go_roundw
                          case rel => exact ⟨l.length + 1, l ++ [xx], y1, by omega, by simp, by go_num, HLN, HK2, Lib.hid (by simpa using HO10.out), HI2⟩
                          case measure => simp [intOf]; omega
                        | false =>
                          have hgo' : ¬ ((l.length : Int) < m ∧ errX y = 0) := fun h => Bool.noConfusion (hB.2 h)
                          clear hB d2
                          have HLF := Lib.hid (Lk.rep (HY.out.done hgo'))
                          clear HY hgo' J4
                          obtain ⟨ua, uc, rfl⟩ := own_slice HO.out rfl
                          obtain ⟨_, _, _, _, hp79⟩ := HR.out.rd.blk
                          have B5 := Lib.hid (HK.out.but.alloc (Nat.le_of_lt HK.out.rd.lt) (.cells #[.slice ua l.length uc] 24))
                          have R5 := Lib.hid (HK.out.rd.alloc (by omega) (.cells #[.slice ua l.length uc] 24))
                          have S5 := Lib.hid (HR.out.but B5.out R5.out)
                          obtain ⟨P0, P1, P2, P3⟩ := parts_but2 Hcb.out Q1.out Q2.out Q3.out B5.out hp79
                          obtain ⟨T0, _, _, _⟩ := parts_but2 Hcb.out Q1.out Q2.out Q3.out HK.out.but hp79
                          have HU := Lib.hid ((Own3.mk (own_lower HO.out (Nat.zero_le _)) HI.out hj).alloc (.cells #[.slice ua l.length uc] 24))
                          obtain ⟨z, hz, hown, hxz⟩ := P3.out
                          have hzl : z.length = ks.length := by
                            have h1 := congrArg List.length hz
                            rw [List.length_map] at h1
                            exact h1
                          have HZ := Lib.hid hz
                          have HOW := Lib.hid hown
                          have HXZ := Lib.hid hxz
                          have hzn : z.length ≤ 10000 := by omega
                          have c1 := blk_cell T0.out 2
                          have hlc := blk_lt T0.out
                          simp only [List.getElem?_toArray, List.getElem?_cons_zero, List.getElem?_cons_succ] at c1
                          have hp1 : w.heap.size ≤ (wr.alloc (.cells #[.slice ua l.length uc] 24)).heap.size := by simp; omega
                          clear hp79 hz hown hxz hzl HO HK HI
                          go_wp2_with (at_builtin; refine wpList_append_own _ rfl _ _ 28 rfl w.heap.size 24 i24 _ 1 24 Try.underlying28 hi24 hz24 hs24 hb24 rfl (by decide) _ _ _ rfl HOW.out ⟨wr.heap.size, 0, none⟩ 1 1 [.slice ua l.length uc] rfl rfl (World.news_of_block (cs := #[.slice ua l.length uc]) (t := 24) (fr := (0, 0)) (heap_alloc_new _ _)) (one_slice _ _ _) ?c3 ?c4 hp1 ?_; rotate_right; intro v' w10 hown' hgrow hnil; obtain ⟨g10, cap10, rfl⟩ := own_lit hown' (by omega); have hb10 := blk_grown P0.out hgrow (fun e0 => own_ne_blk HOW.out P0.out (by decide) e0.symm); have j1 := blk_cell hb10 2; have j2 := blk_free hb10 2; have hl10 := blk_lt hb10; simp only [List.getElem?_toArray, List.getElem?_cons_zero, List.getElem?_cons_succ] at j1; have HG := Lib.hid hgrow; have HO10 := Lib.hid hown'; clear hb10 hgrow hown' hnil c1)
                          case c3 => unfold maxLen; omega
                          case c4 => omega
                          have hNC := Lib.hid (CodeSt.push_kind (l := l) (C := ⟨os, fs, ks⟩) P0.out P1.out P2.out HZ.out HOW.out HXZ.out HU.out HO10.out HG.out)
                          have hR10 := Lib.hid (rrst_push (i := 2) S5.out HOW.out (Nat.le_refl _) (by decide) (by decide) HG.out hNC.out)
                          clear hNC
                          go_roundw
                          case rel => exact ⟨ks.length + 1, ks ++ [l], y, by omega, by simp, by go_num, HLF, hR10⟩
                          case measure => simp [intOf]; omega
                  | false =>
                    have hgo : ¬ ((ks.length : Int) < n3 ∧ errX x = 0) := fun h => Bool.noConfusion (hB.2 h)
                    clear hB
                    have HD := Lib.hid (HX.out.done hgo)
                    clear HX hgo I3
                    obtain ⟨v0, v1, v2, hcb, q1, q2, q3⟩ := HR.out.code
                    obtain ⟨x0, x1', x2', hres⟩ := HR.out.res
                    have hbel := Lib.hid HR.out.bel
                    have hlc := blk_lt hcb
                    have hlr := blk_lt hres
                    have fr0 := blk_free hres 0
                    have fr1 := blk_free hres 1
                    have fr2 := blk_free hres 2
                    have rr0 := blk_cell hres 0
                    have rr1 := blk_cell hres 1
                    have rr2 := blk_cell hres 2
                    simp only [List.getElem?_toArray, List.getElem?_cons_zero, List.getElem?_cons_succ] at rr0 rr1 rr2
                    have Hcb := Lib.hid hcb
                    have Hres := Lib.hid hres
                    cases x with
                    | error c =>
                      clear hcb q1 q2 q3 hres
                      have hne : c ≠ 0 := by
                        obtain ⟨_, _, _, _, h, _⟩ := HR.out.rd
                        exact h
                      have hcn : (c != 0) = true := by simpa using hne
                      have HC : Hid (Rd.codeP b = .error c) := Lib.hid HD.out
                      clear hne HD
                      simp only [errX] at d2
                      go_wp2_with fail
                      go_region
                      all_goals
                        go_wp2_with fail
                        exact rr_end (lay3 (w := wr.drew) Hres.out).1 (CdPost.fail HC.out ((hbel.out.drew).trans ((lay3 (w := wr.drew) Hres.out).2 w.heap.size (Nat.le_refl _)))) rfl rfl
                    | ok r =>
                      obtain ⟨hcp, ho, hf, hks⟩ : Told b os fs ks r := HD.out
                      obtain ⟨vr, i, hrb, _, hi, hr⟩ : ∃ (v : Value) (i : Nat), wr.heap[w.heap.size + 1]? = some (.cells #[v, .int .i64 i, .int .i64 0] 79 (0, 0)) ∧ BytesV w.heap.size wr v b ∧ i ≤ b.length ∧ r = b.drop i := HR.out.rd
                      have HCP := Lib.hid hcp
                      have HRB := Lib.hid hrb
                      have e1 := blk_cell hrb 1
                      have c0 := blk_cell hcb 0
                      have c1 := blk_cell hcb 1
                      have c2 := blk_cell hcb 2
                      have f0 := blk_free hcb 0
                      have f1 := blk_free hcb 1
                      have f2 := blk_free hcb 2
                      have hle := blk_lt hrb
                      have hvb : b.length ≤ 9223372036854775807 := by
                        obtain ⟨_, _, _, _, _, _, h, _⟩ := Hv.out
                        omega
                      simp only [List.getElem?_toArray, List.getElem?_cons_zero, List.getElem?_cons_succ] at e1 c0 c1 c2
                      simp only [errX] at d2
                      have QQ := Lib.hid (show RowO w.heap.size wr v0 os ∧ RowF w.heap.size wr v1 fs ∧ RowK w.heap.size wr v2 ks from ⟨q1, q2, q3⟩)
                      obtain ⟨a0, cap0, rfl⟩ := own_slice q1.1 rfl
                      obtain ⟨z1, hz1, hr1, _⟩ := q2
                      obtain ⟨a1, cap1, rfl⟩ := own_slice hr1 (show z1.length = fs.length by have := congrArg List.length hz1; simpa using this)
                      obtain ⟨z2, hz2, hr2, _⟩ := q3
                      obtain ⟨a2, cap2, rfl⟩ := own_slice hr2 (show z2.length = ks.length by have := congrArg List.length hz2; simpa using this)
                      clear hcb q1 hz1 hr1 hz2 hr2 hcp hrb hres HD
                      by_cases hlt : i < b.length
                      · have HF := Lib.hid (read_rest HCP.out (by rw [hr]; intro h; have := List.drop_eq_nil_iff.1 h; omega))
                        clear hr
                        go_wp2
                        exact rr_end (lay3 Hres.out).1 (CdPost.none HF.out (hbel.out.trans ((lay3 Hres.out).2 w.heap.size (Nat.le_refl _)))) rfl rfl
                      · have hnil : r = [] := by rw [hr]; exact List.drop_eq_nil_iff.2 (by omega)
                        have hCV := Lib.hid (show CodeV wr.heap.size wr _ _ _ ⟨os, fs, ks⟩ from ⟨QQ.out.1.ops ho, QQ.out.2.1.fns hf, QQ.out.2.2.kinds hks⟩)
                        subst hnil
                        clear hr
                        go_wp2_with fail
                        refine (rcheck_any wr.heap.size _ _ _ _ ⟨os, fs, ks⟩ hCV.out (Nat.le_refl _)).mono ?_
                        rintro e w5 ⟨rfl, hb5⟩
                        obtain ⟨P0, P1, P2, P3⟩ := parts_but2 Hcb.out QQ.out.1 QQ.out.2.1 QQ.out.2.2 (But.of (p := w.heap.size + 1) hb5 (by omega)) HRB.out
                        have hres5 := blk_below Hres.out hb5 hlr
                        have k0 := blk_cell P0.out 0
                        have k1 := blk_cell P0.out 1
                        have k2 := blk_cell P0.out 2
                        have g0 := blk_free hres5 0
                        have g1 := blk_free hres5 1
                        have g2 := blk_free hres5 2
                        have s0 := blk_cell hres5 0
                        have s1 := blk_cell hres5 1
                        have s2 := blk_cell hres5 2
                        have hl5 := blk_lt P0.out
                        have hlr5 := blk_lt hres5
                        simp only [List.getElem?_toArray, List.getElem?_cons_zero, List.getElem?_cons_succ] at k0 k1 k2 s0 s1 s2
                        have Hres5 := Lib.hid hres5
                        have hbel5 := Lib.hid (hbel.out.trans (hb5.mono (by omega)))
                        clear hb5 hres5 c0 c1 c2 f0 f1 f2 e1 d2 rr0 rr1 rr2 fr0 fr1 fr2
                        by_cases hz : Cd.check ⟨os, fs, ks⟩ = 0
                        · have HF := Lib.hid (read_good HCP.out hz)
                          rw [hz]
                          clear hz
                          go_wp2
                          have hr5 := parts_set (i := 0) (x := .slice a0 os.length cap0) ⟨P1.out, P2.out, P3.out⟩ Hres5.out (by decide) (by decide) (by decide) (by decide)
                          have hb51 := blk_set Hres5.out 0 (.slice a0 os.length cap0)
                          have hr6 := parts_set (i := 1) (x := .slice a1 fs.length cap1) hr5 hb51 (by decide) (by decide) (by decide) (by decide)
                          have hb52 := blk_set hb51 1 (.slice a1 fs.length cap1)
                          have hr7 := parts_set (i := 2) (x := .slice a2 ks.length cap2) hr6 hb52 (by decide) (by decide) (by decide) (by decide)
                          exact rr_end (lay3 Hres5.out).1 (CdPost.some HF.out hr7 ho hf hks (hbel5.out.trans ((lay3 Hres5.out).2 w.heap.size (Nat.le_refl _)))) rfl rfl
                        · have hzb : (Cd.check ⟨os, fs, ks⟩ != 0) = true := by simpa using hz
                          have HF := Lib.hid (read_bad HCP.out hz)
                          clear hz
                          generalize Cd.check ⟨os, fs, ks⟩ = cc at *
                          go_wp2
                          exact rr_end (lay3 Hres5.out).1 (CdPost.none HF.out (hbel5.out.trans ((lay3 Hres5.out).2 w.heap.size (Nat.le_refl _)))) rfl rfl
end Go.Proofs.Ytjomajfgoaifbaa
