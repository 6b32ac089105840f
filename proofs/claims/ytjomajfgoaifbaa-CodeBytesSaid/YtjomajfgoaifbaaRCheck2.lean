/-
  PROVED HERE: the reference's Check answers as chapter 16 says. No condition beyond the lemmas' own premises.
-/
import Derived.Test.YtjomajfgoaifbaaRCheck
namespace Go.Proofs.Ytjomajfgoaifbaa
open Go.RowKit

set_option maxRecDepth 100000 in
set_option maxHeartbeats 4000000 in
theorem rcheck_main (B : Nat) (w : World) (vo vf vk : Value) (C : Cd.GCode) (hC : CodeV B w vo vf vk C) (hB : B ≤ w.heap.size) (hs : Cd.sizeBad C = false) :
    Calls Try.prog 9 #[.agg #[vo, vf, vk]] w fun e w' => e = .returned (.int .i64 (Cd.check C)) ∧ Below w.heap.size w w' := by
  have HC := Lib.hid hC
  obtain ⟨_, ao, bo, oo, co, rfl, _, _, ho, _⟩ := hC.ops
  obtain ⟨_, af, bf, of_, cf, rfl, _, _, hf, _⟩ := hC.fns
  obtain ⟨ak, bk, ok, ck, rfl, _, _, hk, _⟩ := hC.kinds
  clear hC ho hf hk
  obtain ⟨s1, s2, s3, s4⟩ : C.ops.length ≤ 8000 ∧ C.fns.length ≤ 1200 ∧ C.kinds.length ≤ 1200 ∧ C.fns.length ≠ 0 := by
    unfold Cd.sizeBad at hs
    have := of_decide_eq_false hs
    omega
  have hsz := Lib.hid hs
  clear hs
  have hs4 : ((C.fns.length : Int) == 0) = false := by simpa using s4
  clear s4
  go_enter Try.func9, Try.ntmps9
  go_wp2
  have q0 : ∀ i, (w.alloc (.cells #[.slice ao C.ops.length co, .slice af C.fns.length cf, .slice ak C.kinds.length ck] 30)).cell? ⟨w.heap.size, i, none⟩ = (#[.slice ao C.ops.length co, .slice af C.fns.length cf, .slice ak C.kinds.length ck] : Array Value)[i]? := fun i => World.cell?_alloc_new _ _ _ _
  have hW0 : Below w.heap.size w (w.alloc (.cells #[.slice ao C.ops.length co, .slice af C.fns.length cf, .slice ak C.kinds.length ck] 30)) := by go_grown
  have hz1 : w.heap.size < (w.alloc (.cells #[.slice ao C.ops.length co, .slice af C.fns.length cf, .slice ak C.kinds.length ck] 30)).heap.size := by simp
  generalize w.alloc (.cells #[.slice ao C.ops.length co, .slice af C.fns.length cf, .slice ak C.kinds.length ck] 30) = W1 at *
  have HC1 : Hid (CodeV B W1 (.slice ao C.ops.length co) (.slice af C.fns.length cf) (.slice ak C.kinds.length ck) C) := Lib.hid (HC.out.below hW0 hB)
  have Hq0 := Lib.hid q0
  have HW0 := Lib.hid hW0
  have hzW := hW0.size
  clear q0 hW0
  have Hkeep : Hid (∀ wr, Below (w.heap.size + 1) W1 wr → wr.cell? ⟨w.heap.size, 0, none⟩ = some (.slice ao C.ops.length co) ∧ wr.cell? ⟨w.heap.size, 1, none⟩ = some (.slice af C.fns.length cf) ∧ wr.cell? ⟨w.heap.size, 2, none⟩ = some (.slice ak C.kinds.length ck) ∧ CodeV B wr (.slice ao C.ops.length co) (.slice af C.fns.length cf) (.slice ak C.kinds.length ck) C ∧ Below w.heap.size w wr) :=
    Lib.hid fun wr hb => ⟨(hb.cell (by show w.heap.size < _; omega)).trans (Hq0.out 0), (hb.cell (by show w.heap.size < _; omega)).trans (Hq0.out 1), (hb.cell (by show w.heap.size < _; omega)).trans (Hq0.out 2), HC1.out.below hb (by omega), HW0.out.trans (hb.mono (by omega))⟩
  clear Hq0 HW0
  go_loopw [3] (fun i wr => Hid (Below (w.heap.size + 1) W1 wr) ∧ ∃ k : Nat, k ≤ C.fns.length ∧ i = .int .i64 k ∧ Hid ((C.fns.take k).all (Cd.fnOK C.ops.length) = true)) (fun i _ => C.fns.length - (intOf i).toNat)
  case atStart => exact ⟨Lib.hid (Below.refl _ _), 0, by omega, rfl, Lib.hid (by simp)⟩
  case round =>
    obtain ⟨Hbel, k, hk, rfl, Hall⟩ := hrel
    obtain ⟨x0, x1, x2, hCr, hbw⟩ := Hkeep.out wr Hbel.out
    have HCr := Lib.hid hCr
    have Hbw := Lib.hid hbw
    have hzr := Hbel.out.size
    have hbw1 := hbw.size
    have hwr : w.heap.size < wr.heap.size := by omega
    clear hCr hbw
    by_cases hkn : k < C.fns.length
    · obtain ⟨fb, fo, cf', u, hv, hfB, _, p0, p1, p2, p3, p4⟩ := HCr.out.fns.at hkn
      cases hv
      have e1 : C.fns.getD k ⟨0, 0, 0, []⟩ = C.fns[k] := by simp [List.getElem?_eq_getElem hkn]
      rw [e1] at p0 p1 p2 p4
      have hF := HCr.out.fns.1 _ (List.getElem_mem hkn)
      have hno := Lib.hid (fun h : Cd.fnOK C.ops.length C.fns[k] = false => check_fns hsz.out (all_false hkn h))
      have hyes := Lib.hid (fun h : Cd.fnOK C.ops.length C.fns[k] = true => (all_take_succ (P := Cd.fnOK C.ops.length) hkn).trans (by rw [Hall.out, h]))
      rw [fnOK_parts] at hno hyes
      generalize C.fns[k] = f at *
      obtain ⟨_, ut, ub, uo, uc, rfl, ul, ul2, hu1, hu2⟩ := p4
      have Hu1 := Lib.hid hu1
      have Hu2 := Lib.hid hu2
      obtain ⟨⟨i1, i2⟩, ⟨i3, i4⟩, i5, i6⟩ := hF
      have hBw : Below w.heap.size w wr := Hbw.out
      have HBw := Lib.hid hBw
      clear hu1 hu2 e1 hBw
      generalize hl : f.takes = l at *
      clear hl
      by_cases g1 : Cd.inB 0 1200 f.slots = true
      · obtain ⟨b1, b2⟩ := of_decide_eq_true g1
        by_cases g2 : Cd.inB 0 f.slots f.params = true
        · obtain ⟨b3, b4⟩ := of_decide_eq_true g2
          by_cases g3 : Cd.inB 0 (C.ops.length - 1) f.start = true
          · by_cases g4 : (l.length : Int) ≤ f.slots - f.params
            · go_wp2_with (go_at_call 23; refine (within_any _ _ _ _).mono ?_; rintro e w' ⟨rfl, rfl⟩)
              have hrest := Lib.hid (fun h : l.all (Cd.inB 0 1200) = false => hno.out (by rw [h]; simp))
              have hgood := Lib.hid (fun h : l.all (Cd.inB 0 1200) = true => hyes.out (by rw [h, g1, g2, g3, decide_eq_true g4]; rfl))
              clear hno hyes
              go_loop [8] (fun i => ∃ j : Nat, j ≤ l.length ∧ i = .int .i64 j ∧ Hid ((l.take j).all (Cd.inB 0 1200) = true)) (fun i => l.length - (intOf i).toNat)
              case atStart => exact ⟨0, by omega, rfl, Lib.hid (by simp)⟩
              case round =>
                obtain ⟨j, hj, rfl, Hj⟩ := hrel
                by_cases hjl : j < l.length
                · obtain ⟨rfl, huB⟩ := Hu1.out (by omega)
                  have uj := Hu2.out j hjl
                  have hjbad := Lib.hid (fun h : Cd.inB 0 1200 (iAt l j) = false => hrest.out (all_iAt_false hjl h))
                  have hjgood := Lib.hid (all_iAt (P := Cd.inB 0 1200) hjl Hj.out)
                  have hublt : ub < wr.heap.size := by omega
                  generalize iAt l j = x at *
                  by_cases gx : Cd.inB 0 1200 x = true
                  · have hj2 := Lib.hid (hjgood.out gx)
                    go_wp2_with (go_at_call 23; refine (within_any _ _ _ _).mono ?_; rintro e w' ⟨rfl, rfl⟩)
                    go_round
                    case rel => exact ⟨j + 1, by omega, by go_num, hj2⟩
                    case measure => simp [intOf]; omega
                  · have gx' : Cd.inB 0 1200 x = false := by simpa using gx
                    have hne := Lib.hid (hjbad.out gx')
                    go_wp2_with (go_at_call 23; refine (within_any _ _ _ _).mono ?_; rintro e w' ⟨rfl, rfl⟩)
                    go_returns
                    rw [hne.out]
                    exact ⟨rfl, HBw.out.alloc (by omega) _⟩
                · obtain rfl : j = l.length := by omega
                  have hj2 := Lib.hid (hgood.out (by have := Hj.out; rwa [List.take_length] at this))
                  go_wp2
                  go_roundw
                  case rel => exact ⟨Lib.hid (Hbel.out.alloc (by omega) _), k + 1, by omega, by go_num, hj2⟩
                  case measure => simp [intOf]; omega
            · have hne := Lib.hid (hno.out (by rw [decide_eq_false g4]; simp))
              go_wp2_with (go_at_call 23; refine (within_any _ _ _ _).mono ?_; rintro e w' ⟨rfl, rfl⟩)
              go_returns
              rw [hne.out]
              exact ⟨rfl, HBw.out.alloc (by omega) _⟩
          · have g3' : Cd.inB 0 (C.ops.length - 1) f.start = false := by simpa using g3
            have hne := Lib.hid (hno.out (by rw [g3']; simp))
            go_wp2_with (go_at_call 23; refine (within_any _ _ _ _).mono ?_; rintro e w' ⟨rfl, rfl⟩)
            go_returns
            rw [hne.out]
            exact ⟨rfl, HBw.out.alloc (by omega) _⟩
        · have g2' : Cd.inB 0 f.slots f.params = false := by simpa using g2
          have hne := Lib.hid (hno.out (by rw [g2']; simp))
          go_wp2_with (go_at_call 23; refine (within_any _ _ _ _).mono ?_; rintro e w' ⟨rfl, rfl⟩)
          go_returns
          rw [hne.out]
          exact ⟨rfl, HBw.out.alloc (by omega) _⟩
      · have g1' : Cd.inB 0 1200 f.slots = false := by simpa using g1
        have hne := Lib.hid (hno.out (by rw [g1']; simp))
        go_wp2_with (go_at_call 23; refine (within_any _ _ _ _).mono ?_; rintro e w' ⟨rfl, rfl⟩)
        go_returns
        rw [hne.out]
        exact ⟨rfl, HBw.out.alloc (by omega) _⟩
    · obtain rfl : k = C.fns.length := by omega
      have HF : Hid (C.fns.all (Cd.fnOK C.ops.length) = true) := Lib.hid (by have := Hall.out; rwa [List.take_length] at this)
      clear Hall
      obtain ⟨wo, rfl⟩ : ∃ wo : World, wo = wr := ⟨_, rfl⟩
      go_wp2
      go_loopw [10] (fun i wr => Hid (Below (w.heap.size + 1) W1 wr) ∧ ∃ k : Nat, k ≤ C.kinds.length ∧ i = .int .i64 k ∧ Hid ((C.kinds.take k).all (Cd.kindOK C.fns.length) = true)) (fun i _ => C.kinds.length - (intOf i).toNat)
      case atStart => exact ⟨Hbel, 0, by omega, rfl, Lib.hid (by simp)⟩
      case round =>
        clear Hbel HCr Hbw hzr hbw1 hwr x0 x1 x2
        obtain ⟨Hbel, k, hk, rfl, Hall⟩ := hrel
        obtain ⟨x0, x1, x2, hCr, hbw⟩ := Hkeep.out wr Hbel.out
        have HCr := Lib.hid hCr
        have Hbw := Lib.hid hbw
        have hzr := Hbel.out.size
        have hwr : w.heap.size < wr.heap.size := by omega
        clear hCr hbw
        by_cases hkn : k < C.kinds.length
        · obtain ⟨kb, ko, ck', u, hv, hkB, p0, p4⟩ := HCr.out.kinds.at hkn
          cases hv
          have e1 : C.kinds.getD k [] = C.kinds[k] := by simp [List.getElem?_eq_getElem hkn]
          rw [e1] at p4
          have hno := Lib.hid (fun h : Cd.kindOK C.fns.length C.kinds[k] = false => check_kinds hsz.out (all_false hkn h))
          have hyes := Lib.hid (fun h : Cd.kindOK C.fns.length C.kinds[k] = true => (all_take_succ (P := Cd.kindOK C.fns.length) hkn).trans (by rw [Hall.out, h]))
          clear e1
          generalize C.kinds[k] = l at *
          obtain ⟨_, ut, ub, uo, uc, rfl, ul, ul2, hu1, hu2⟩ := p4
          have Hu1 := Lib.hid hu1
          have Hu2 := Lib.hid hu2
          have hkblt : kb < wr.heap.size := by omega
          clear hu1 hu2
          by_cases g1 : l.length < 1
          · have hne := Lib.hid (hno.out (kindOK_no1 (by omega)))
            go_wp2
            go_returns
            rw [hne.out]
            exact ⟨rfl, Hbw.out⟩
          by_cases g2 : 1200 < l.length
          · have hne := Lib.hid (hno.out (kindOK_no1 (by omega)))
            go_wp2
            go_returns
            rw [hne.out]
            exact ⟨rfl, Hbw.out⟩
          have Hkeep2 := Lib.hid (fun wx (hb : Below (w.heap.size + 1) W1 wx) => (Hkeep.out wx hb).2.1)
          have Hkeep3 := Lib.hid (fun wx (hb : Below (w.heap.size + 1) W1 wx) => (Hkeep.out wx hb).2.2.2.2)
          obtain ⟨wo, rfl⟩ : ∃ wo : World, wo = wr := ⟨_, rfl⟩
          go_wp2
          go_loopw [12] (fun i wr => Hid (∃ n, wr = wo.drewN n) ∧ ∃ j : Nat, j ≤ l.length ∧ i = .int .i64 j ∧ Hid (0 < j → Cd.inB 0 1200 (iAt l 0) = true) ∧ Hid (((l.take j).drop 1).all (Cd.inB (-1) (C.fns.length - 1)) = true)) (fun i _ => l.length - (intOf i).toNat)
          case atStart => exact ⟨Lib.hid ⟨0, rfl⟩, 0, by omega, rfl, Lib.hid (by omega), Lib.hid (by simp)⟩
          case round =>
            obtain ⟨Hnd, j, hj, rfl, Hj1, Hj2⟩ := hrel
            have Hdr : Hid (∀ m, ∃ n, wr.drewN m = wo.drewN n) := Lib.hid fun m => by obtain ⟨n, e⟩ := Hnd.out; exact ⟨n + m, by rw [e, World.drewN_drewN]⟩
            have Hbl : Hid (∀ m, Below (w.heap.size + 1) W1 (wr.drewN m)) := Lib.hid fun m => by obtain ⟨n, e⟩ := Hdr.out m; rw [e]; exact below_drewN Hbel.out n
            have x1' := Hkeep2.out _ (Hbl.out 0)
            rw [World.cell?_drewN] at x1'
            have hceq : ∀ a, wr.cell? a = wo.cell? a := fun a => by obtain ⟨n, e⟩ := Hnd.out; rw [e]; rfl
            have Hceq := Lib.hid hceq
            clear hceq x0 x1 x2 p0
            by_cases hjl : j < l.length
            · obtain ⟨rfl, huB⟩ := Hu1.out (by omega)
              have uj := (Hceq.out _).trans (Hu2.out j hjl)
              by_cases hj0 : j = 0
              · subst hj0
                rw [Nat.add_zero] at uj
                have hsuc : Hid (((l.take (0 + 1)).drop 1).all (Cd.inB (-1) (C.fns.length - 1)) = true) := Lib.hid (by rw [List.drop_eq_nil_of_le (List.length_take_le _ _)]; rfl)
                by_cases gx : Cd.inB 0 1200 (iAt l 0) = true
                · have gxH := Lib.hid (fun _ : 0 < 0 + 1 => gx)
                  generalize iAt l 0 = x at *
                  go_wp2
                  go_quiet ((go_at_call 23; exact Calls.quiet_of_same (within_same _ _ _ _)))
                  go_wp2_with (go_at_call 23; refine (within_any _ _ _ _).mono ?_; rintro e w' ⟨rfl, rfl⟩)
                  go_roundw
                  case rel => exact ⟨Lib.hid (Hdr.out _), 0 + 1, by omega, by go_num, gxH, hsuc⟩
                  case measure => simp [intOf]; omega
                · have gx' : Cd.inB 0 1200 (iAt l 0) = false := by simpa using gx
                  have hne := Lib.hid (hno.out (kindOK_no2 gx'))
                  generalize iAt l 0 = x at *
                  go_wp2
                  go_quiet ((go_at_call 23; exact Calls.quiet_of_same (within_same _ _ _ _)))
                  go_wp2_with (go_at_call 23; refine (within_any _ _ _ _).mono ?_; rintro e w' ⟨rfl, rfl⟩)
                  go_returns
                  rw [hne.out]
                  exact ⟨rfl, Hkeep3.out _ (Hbl.out _)⟩
              · have hj0b : ((j : Int) == 0) = false := by simpa using hj0
                have hbad := Lib.hid (fun h : Cd.inB (-1) (C.fns.length - 1) (iAt l j) = false => hno.out (kindOK_no3 (drop_all_false hjl (by omega) h)))
                have hgood := Lib.hid (drop_all_iAt (P := Cd.inB (-1) (C.fns.length - 1)) hjl (by omega) Hj2.out)
                have hfirst := Lib.hid (fun _ : 0 < j + 1 => Hj1.out (by omega))
                clear hj0
                by_cases gx : Cd.inB (-1) (C.fns.length - 1) (iAt l j) = true
                · have hy := Lib.hid (hgood.out gx)
                  generalize iAt l j = x at *
                  go_wp2
                  go_quiet ((go_at_call 23; exact Calls.quiet_of_same (within_same _ _ _ _)))
                  go_wp2
                  go_roundw
                  case rel => exact ⟨Lib.hid (Hdr.out _), j + 1, by omega, by go_num, hfirst, hy⟩
                  case measure => simp [intOf]; omega
                · have gx' : Cd.inB (-1) (C.fns.length - 1) (iAt l j) = false := by simpa using gx
                  have hne := Lib.hid (hbad.out gx')
                  generalize iAt l j = x at *
                  go_wp2
                  go_quiet ((go_at_call 23; exact Calls.quiet_of_same (within_same _ _ _ _)))
                  go_wp2
                  go_returns
                  rw [hne.out]
                  exact ⟨rfl, Hkeep3.out _ (Hbl.out _)⟩
            · obtain rfl : j = l.length := by omega
              have hy := Lib.hid (hyes.out (kindOK_yes ⟨by omega, by omega⟩ (Hj1.out (by omega)) (by have := Hj2.out; rwa [List.take_length] at this)))
              go_wp2
              go_roundw
              case rel => exact ⟨Lib.hid (Hbl.out 0), k + 1, by omega, by go_num, hy⟩
              case measure => simp [intOf]; omega
        · obtain rfl : k = C.kinds.length := by omega
          have HK : Hid (C.kinds.all (Cd.kindOK C.fns.length) = true) := Lib.hid (by have := Hall.out; rwa [List.take_length] at this)
          clear Hall
          obtain ⟨wo, rfl⟩ : ∃ wo : World, wo = wr := ⟨_, rfl⟩
          go_wp2
          go_loopw [14] (fun i wr => Hid (Below (w.heap.size + 1) W1 wr) ∧ ∃ k : Nat, k ≤ C.ops.length ∧ i = .int .i64 k ∧ Hid ((C.ops.take k).all (Cd.rangeB C.ops.length C.fns.length C.kinds.length) = true)) (fun i _ => C.ops.length - (intOf i).toNat)
          case atStart => exact ⟨Hbel, 0, by omega, rfl, Lib.hid (by simp)⟩
          case round =>
            clear Hbel HCr Hbw hzr hwr x0 x1 x2
            obtain ⟨Hbel, k, hk, rfl, Hall⟩ := hrel
            obtain ⟨x0, x1, x2, hCr, hbw⟩ := Hkeep.out wr Hbel.out
            have HCr := Lib.hid hCr
            have Hbw := Lib.hid hbw
            have hzr := Hbel.out.size
            have hwr : w.heap.size < wr.heap.size := by omega
            clear hCr hbw
            by_cases hkn : k < C.ops.length
            · obtain ⟨_, ao', bo', oo', co', hv, _, _, ho, hc⟩ := HCr.out.ops
              cases hv
              obtain ⟨rfl, hbB⟩ := ho (by omega)
              obtain ⟨k1, k2, k3⟩ := hc k hkn
              have e1 : C.ops.getD k ⟨0, 0, 0⟩ = C.ops[k] := by simp [List.getElem?_eq_getElem hkn]
              rw [e1] at k1 k2 k3
              have hno := Lib.hid (fun h : Cd.rangeB C.ops.length C.fns.length C.kinds.length C.ops[k] = false => check_ops hsz.out (all_false hkn h))
              have hyes := Lib.hid (fun h : Cd.rangeB C.ops.length C.fns.length C.kinds.length C.ops[k] = true => (all_take_succ (P := Cd.rangeB C.ops.length C.fns.length C.kinds.length) hkn).trans (by rw [Hall.out, h]))
              clear e1 ho hc
              generalize C.ops[k] = x at *
              have hblt : bo' < wr.heap.size := by omega
              go_wp2_with fail
              go_still_tail 6, (by kernel_rfl)
              change wpList _ _ _ _ _ wr.drew
              by_cases gx : Cd.rangeB C.ops.length C.fns.length C.kinds.length x = true
              · have hy := Lib.hid (hyes.out gx)
                go_wp2_with (go_at_call 24; refine (ranges_any _ _ _ _ _ _ _ _ _ x.d x.a x.b _ s1 s2 s3).mono ?_; rintro e w4 ⟨rfl, hb4⟩; have HB4 := Lib.hid hb4; clear hb4)
                all_goals
                  go_roundw
                  case rel => exact ⟨Lib.hid (Hbel.out.trans (((Below.refl _ _).drew).trans (HB4.out.mono (by simp; omega)))), k + 1, by omega, by go_num, hy⟩
                  case measure => simp [intOf]; omega
              · have gx' : Cd.rangeB C.ops.length C.fns.length C.kinds.length x = false := by simpa using gx
                have hne := Lib.hid (hno.out gx')
                go_wp2_with (go_at_call 24; refine (ranges_any _ _ _ _ _ _ _ _ _ x.d x.a x.b _ s1 s2 s3).mono ?_; rintro e w4 ⟨rfl, hb4⟩; have HB4 := Lib.hid hb4; clear hb4)
                go_returns
                rw [hne.out]
                exact ⟨rfl, Hbw.out.trans (((Below.refl _ _).drew).trans (HB4.out.mono (by simp; omega)))⟩
            · obtain rfl : k = C.ops.length := by omega
              have HO : Hid (C.ops.all (Cd.rangeB C.ops.length C.fns.length C.kinds.length) = true) := Lib.hid (by have := Hall.out; rwa [List.take_length] at this)
              clear Hall
              obtain ⟨wo, rfl⟩ : ∃ wo : World, wo = wr := ⟨_, rfl⟩
              go_wp2
              go_loopw [16] (fun i wr => Hid (Below (w.heap.size + 1) W1 wr) ∧ ∃ k : Nat, k ≤ C.fns.length ∧ i = .int .i64 k ∧ Hid ((C.fns.take k).all (Cd.formOK C) = true)) (fun i _ => C.fns.length - (intOf i).toNat)
              case atStart => exact ⟨Hbel, 0, by omega, rfl, Lib.hid (by simp)⟩
              case round =>
                clear Hbel HCr Hbw hzr hwr x0 x1 x2
                obtain ⟨Hbel, k, hk, rfl, Hall⟩ := hrel
                obtain ⟨x0, x1, x2, hCr, hbw⟩ := Hkeep.out wr Hbel.out
                have HCr := Lib.hid hCr
                have Hbw := Lib.hid hbw
                have hzr := Hbel.out.size
                have hwr : w.heap.size < wr.heap.size := by omega
                clear hCr hbw
                have Hform := Lib.hid (check_forms hsz.out HF.out HK.out HO.out)
                by_cases hkn : k < C.fns.length
                · obtain ⟨fb, fo, cf', u, hv, hfB, _, p0, p1, p2, p3, p4⟩ := HCr.out.fns.at hkn
                  cases hv
                  have e1 : C.fns.getD k ⟨0, 0, 0, []⟩ = C.fns[k] := by simp [List.getElem?_eq_getElem hkn]
                  rw [e1] at p0 p1 p2
                  have hno := Lib.hid (fun h : Cd.formOK C C.fns[k] = false => (show Cd.check C = 12 by rw [Hform.out, all_false hkn h]; rfl))
                  have hyes := Lib.hid (fun h : Cd.formOK C C.fns[k] = true => (all_take_succ (P := Cd.formOK C) hkn).trans (by rw [Hall.out, h]))
                  have hfk : Cd.fnOK C.ops.length C.fns[k] = true := List.all_eq_true.1 HF.out _ (List.getElem_mem hkn)
                  clear e1 p4
                  generalize C.fns[k] = f at *
                  rw [fnOK_parts] at hfk
                  simp only [Bool.and_eq_true] at hfk
                  have hst := of_decide_eq_true hfk.1.1.2
                  have hst0 := hst.1
                  have hst1 : f.start < C.ops.length := by have := hst.2; omega
                  have hrng := Lib.hid (List.all_eq_true.1 HO.out)
                  clear hfk hst
                  have hCd := Lib.hid (HCr.out.below ((Below.refl B wr).drew) (Nat.le_refl _))
                  have hfblt : fb < wr.heap.size := by omega
                  go_wp2_with fail
                  go_still_tail 6, (by kernel_rfl)
                  change wpList _ _ _ _ _ wr.drew
                  cases gx : Cd.formOK C f with
                  | true =>
                    have hy := Lib.hid (hyes.out gx)
                    go_wp2_with (go_at_call 25; refine (rform_any B _ _ _ _ C f u hCd.out (by simp; omega) s1 hrng.out hst0 hst1).mono ?_; rintro e w4 ⟨rfl, hb4⟩; have HB4 := Lib.hid hb4; clear hb4)
                    all_goals
                      go_roundw
                      case rel => exact ⟨Lib.hid (Hbel.out.trans (((Below.refl _ _).drew).trans (HB4.out.mono (by simp; omega)))), k + 1, by omega, by go_num, hy⟩
                      case measure => simp [intOf]; omega
                  | false =>
                    have hne := Lib.hid (hno.out gx)
                    go_wp2_with (go_at_call 25; refine (rform_any B _ _ _ _ C f u hCd.out (by simp; omega) s1 hrng.out hst0 hst1).mono ?_; rintro e w4 ⟨rfl, hb4⟩; have HB4 := Lib.hid hb4; clear hb4)
                    go_returns
                    rw [hne.out]
                    exact ⟨rfl, Hbw.out.trans (((Below.refl _ _).drew).trans (HB4.out.mono (by simp; omega)))⟩
                · obtain rfl : k = C.fns.length := by omega
                  have hend : Hid (Cd.check C = 0) := Lib.hid (by rw [Hform.out]; have := Hall.out; rw [List.take_length] at this; rw [this]; rfl)
                  go_wp2
                  go_returns
                  rw [hend.out]
                  exact ⟨rfl, Hbw.out⟩

/-- The reference's Check. -/
theorem rcheck_any (B : Nat) (w : World) (vo vf vk : Value) (C : Cd.GCode) (hC : CodeV B w vo vf vk C) (hB : B ≤ w.heap.size) :
    Calls Try.prog 9 #[.agg #[vo, vf, vk]] w fun e w' => e = .returned (.int .i64 (Cd.check C)) ∧ Below w.heap.size w w' := by
  cases hs : Cd.sizeBad C with
  | true => exact rcheck_size B w vo vf vk C hC hs
  | false => exact rcheck_main B w vo vf vk C hC hB hs
end Go.Proofs.Ytjomajfgoaifbaa
