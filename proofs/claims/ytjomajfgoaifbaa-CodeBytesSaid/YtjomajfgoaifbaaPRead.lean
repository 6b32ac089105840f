/-
  PROVED HERE: what the program's Read makes of bytes: the code that they tell, or what is wrong; of its Check it is asked that it answers as chapter 16 says. No condition beyond the lemmas' own premises.
-/
import Derived.Test.YtjomajfgoaifbaaPReadL
namespace Go.Proofs.Ytjomajfgoaifbaa
open Go.RowKit

set_option maxRecDepth 100000 in
set_option maxHeartbeats 4000000 in
theorem pread_any (hck : Hid (∀ (B : Nat) (w : World) (vo vf vk : Value) (C : Cd.GCode), CodeV B w vo vf vk C → B ≤ w.heap.size → Calls Try.prog 8 #[.agg #[vo, vf, vk]] w fun e w' => e = .returned (.int .i64 (Cd.check C)) ∧ Below w.heap.size w w')) (w : World) (v : Value) (b : List UInt8) (hv : BytesV w.heap.size w v b) : Calls Try.prog 10 #[v] w (CdPost b w) := by
  have HS := Lib.hid (rst_start w v b hv)
  obtain ⟨va, vb, vo, vc, rfl, hv1, hv2, hv3, hv4⟩ := hv
  clear hv1 hv2 hv3 hv4
  obtain ⟨i68, hi68, hz68, hs68, hb68⟩ := info_parts rd_info68
  obtain ⟨i61, hi61, hz61, hs61, hb61⟩ := info_parts rd_info61
  obtain ⟨i24, hi24, hz24, hs24, hb24⟩ := info_parts rd_info24
  have hmf : ∀ (fn : Fn) (first cap : Array Value) (w : World), (Instr.makeFunc fn first cap).run Try.prog w = .ok (.func fn first cap) w := fun _ _ _ _ => rfl
  go_enter_defers Try.func10, Try.ntmps10
  go_wp2_with fail
  generalize (((w.alloc (.cells #[.slice none 0 0, .slice none 0 0, .slice none 0 0] 30)).alloc (.cells #[.int .i64 0] 22)).alloc (.cells #[.slice va b.length vc] 74)) = w1 at *
  refine (pcount_any w.heap.size (w.heap.size + 1 + 1) _ _ HS.out.rd (by omega)).mono ?_
  rintro e w2 ⟨ho, ⟨c, hc, rfl⟩ | ⟨no, r1, hn, rfl, hr⟩⟩
  · have HE := Lib.hid (HS.out.efail ho.but)
    have HC : Hid (Rd.codeP b = .error c) := Lib.hid (by simp only [Rd.codeP, Rd.andThen, hc])
    clear ho hc
    unfold thrown
    go_wp2
    exact door_err HE.out HC.out rfl rfl
  have HS2 := Lib.hid (HS.out.but ho.but hr)
  have HN1 := Lib.hid hn
  have hno := Rd.count_bd hn
  clear ho hr hn HS
  unfold natV
  go_wp2_with fail
  refine (pcount_any w.heap.size (w.heap.size + 1 + 1) _ _ HS2.out.rd (by omega)).mono ?_
  rintro e w3 ⟨ho, ⟨c, hc, rfl⟩ | ⟨nf, r2, hn, rfl, hr⟩⟩
  · have HE := Lib.hid (HS2.out.efail ho.but)
    have HC : Hid (Rd.codeP b = .error c) := Lib.hid (by simp only [Rd.codeP, Rd.andThen, HN1.out, hc])
    clear ho hc
    unfold thrown
    go_wp2
    exact door_err HE.out HC.out rfl rfl
  have HS3 := Lib.hid (HS2.out.but ho.but hr)
  have HN2 := Lib.hid hn
  have hnf := Rd.count_bd hn
  clear ho hr hn HS2
  unfold natV
  go_wp2_with fail
  refine (pcount_any w.heap.size (w.heap.size + 1 + 1) _ _ HS3.out.rd (by omega)).mono ?_
  rintro e w4 ⟨ho, ⟨c, hc, rfl⟩ | ⟨nk, r3, hn, rfl, hr⟩⟩
  · have HE := Lib.hid (HS3.out.efail ho.but)
    have HC : Hid (Rd.codeP b = .error c) := Lib.hid (by simp only [Rd.codeP, Rd.andThen, HN1.out, HN2.out, hc])
    clear ho hc
    unfold thrown
    go_wp2
    exact door_err HE.out HC.out rfl rfl
  have HS4 := Lib.hid (HS3.out.but ho.but hr)
  have HH : Hid (Heads b no nf nk r3) := Lib.hid ⟨r1, r2, HN1.out, HN2.out, hn⟩
  have hnk := Rd.count_bd hn
  clear ho hr hn HS3 HN1 HN2
  unfold natV
  go_wp2
  go_loopw [20] (fun i wr => ∃ (k : Nat) (os : List Cd.GOp) (r : List UInt8), k ≤ no ∧ i = .int .i64 k ∧ Hid (Rd.rep Rd.opP k r3 = .ok (os, r)) ∧ Hid (RSt w wr r ⟨os, [], []⟩)) (fun i _ => no - (intOf i).toNat)
  case atStart => exact ⟨0, [], r3, by omega, rfl, Lib.hid rfl, HS4⟩
  case round =>
    clear HS4
    obtain ⟨k, os, r, hk, rfl, HX, HR⟩ := hrel
    by_cases hlt : k < no
    · obtain ⟨v0, v1, v2, hcb, q1, q2, q3⟩ := HR.out.code
      have c0 := blk_cell hcb 0
      simp only [List.getElem?_toArray, List.getElem?_cons_zero] at c0
      have hl := blk_lt hcb
      have Hcb := Lib.hid hcb
      have Q1 := Lib.hid q1
      have Q2 := Lib.hid q2
      have Q3 := Lib.hid q3
      have R0 : Hid (RdAt w.heap.size (w.heap.size + 1 + 1) r wr.drew) := Lib.hid HR.out.rd
      clear hcb q1 q2 q3
      cases hx1 : Rd.num r with
      | error c =>
        have HC : Hid (Rd.codeP b = .error c) := Lib.hid (HH.out.ops (Rd.rep_error (k := k + 1) (by rw [Rd.rep_succ HX.out, op_er1 hx1]) (by omega)))
        go_wp2_with fail
        refine wp_region_held_drew (S := fun w' => w'.cell? ⟨w.heap.size, 0, none⟩ = some v0) (by kernel_rfl) c0 (fun hHeld => ?_)
        refine wpAnyH_take (i := 0) (v := ?_) rfl (by kernel_rfl) (by kernel_rfl) (by kernel_rfl) (fun _ _ _ h => blind 22 (by omega) h) (Or.inl ⟨by rfl, ?_⟩) (by assumption) ?_
        rotate_left
        · intro w hSw; (try dsimp only at hSw); first | (go_simp; done) | (go_simp; with_reducible rfl)
        simp only [Act.put, List.setIfInBounds_toArray]
        refine wpAnyH_take (i := 1) (v := ?_) rfl (by kernel_rfl) (by kernel_rfl) (by kernel_rfl) (fun _ _ _ h => blind 23 (by omega) h) (Or.inl ⟨by rfl, ?_⟩) (by assumption) ?_
        rotate_left
        · intro w hSw; (try dsimp only at hSw); first | (go_simp; done) | (go_simp; with_reducible rfl)
        simp only [Act.put]
        refine wpAnyH_take (i := 2) (v := ?_) rfl (by kernel_rfl) (by kernel_rfl) (by kernel_rfl) (fun _ _ _ h => blind 24 (by omega) h) (Or.inl ⟨by rfl, ?_⟩) (by assumption) ?_
        rotate_left
        · intro w hSw; (try dsimp only at hSw); first | (go_simp; done) | (go_simp; with_reducible rfl)
        simp only [Act.put]
        refine wpAnyH_take (i := 4) (v := ?_) rfl (by kernel_rfl) (by kernel_rfl) (by kernel_rfl) (fun _ _ _ h => blind 26 (by omega) h) (Or.inl ⟨by rfl, ?_⟩) (by assumption) ?_
        rotate_left
        · intro w hSw; (try dsimp only at hSw); first | (go_simp; done) | (go_simp; with_reducible rfl)
        simp only [Act.put]
        refine wpAnyH_take (i := 6) (v := ?_) rfl (by kernel_rfl) (by kernel_rfl) (by kernel_rfl) (fun _ _ _ h => blind 28 (by omega) h) (Or.inl ⟨by rfl, ?_⟩) (by assumption) ?_
        rotate_left
        · intro w hSw; (try dsimp only at hSw); first | (go_simp; done) | (go_simp; with_reducible rfl)
        simp only [Act.put]
        refine wpAnyH_ready (rs := [3]) (by kernel_rfl) (by simp) ?_
        refine AllReadyH.cons rfl (fun K hK => ?_) AllReadyH.nil
        go_simp
        go_wp2_with (go_at_call 28; refine (pnum_er hx1 (by assumption) (by omega)).mono ?_; rintro e w5 ⟨rfl, OE⟩)
        exact door_err (HR.out.efail ((But.refl _ _).drew.trans OE.out.but)) HC.out rfl rfl
      | ok y =>
        obtain ⟨d, ra⟩ := y
        cases hx2 : Rd.num ra with
        | error c =>
          have HC : Hid (Rd.codeP b = .error c) := Lib.hid (HH.out.ops (Rd.rep_error (k := k + 1) (by rw [Rd.rep_succ HX.out, op_er2 hx1 hx2]) (by omega)))
          go_wp2_with fail
          refine wp_region_held_drew (S := fun w' => w'.cell? ⟨w.heap.size, 0, none⟩ = some v0) (by kernel_rfl) c0 (fun hHeld => ?_)
          refine wpAnyH_take (i := 0) (v := ?_) rfl (by kernel_rfl) (by kernel_rfl) (by kernel_rfl) (fun _ _ _ h => blind 22 (by omega) h) (Or.inl ⟨by rfl, ?_⟩) (by assumption) ?_
          rotate_left
          · intro w hSw; (try dsimp only at hSw); first | (go_simp; done) | (go_simp; with_reducible rfl)
          simp only [Act.put, List.setIfInBounds_toArray]
          refine wpAnyH_take (i := 1) (v := ?_) rfl (by kernel_rfl) (by kernel_rfl) (by kernel_rfl) (fun _ _ _ h => blind 23 (by omega) h) (Or.inl ⟨by rfl, ?_⟩) (by assumption) ?_
          rotate_left
          · intro w hSw; (try dsimp only at hSw); first | (go_simp; done) | (go_simp; with_reducible rfl)
          simp only [Act.put]
          refine wpAnyH_take (i := 2) (v := ?_) rfl (by kernel_rfl) (by kernel_rfl) (by kernel_rfl) (fun _ _ _ h => blind 24 (by omega) h) (Or.inl ⟨by rfl, ?_⟩) (by assumption) ?_
          rotate_left
          · intro w hSw; (try dsimp only at hSw); first | (go_simp; done) | (go_simp; with_reducible rfl)
          simp only [Act.put]
          refine wpAnyH_take (i := 4) (v := ?_) rfl (by kernel_rfl) (by kernel_rfl) (by kernel_rfl) (fun _ _ _ h => blind 26 (by omega) h) (Or.inl ⟨by rfl, ?_⟩) (by assumption) ?_
          rotate_left
          · intro w hSw; (try dsimp only at hSw); first | (go_simp; done) | (go_simp; with_reducible rfl)
          simp only [Act.put]
          refine wpAnyH_take (i := 6) (v := ?_) rfl (by kernel_rfl) (by kernel_rfl) (by kernel_rfl) (fun _ _ _ h => blind 28 (by omega) h) (Or.inl ⟨by rfl, ?_⟩) (by assumption) ?_
          rotate_left
          · intro w hSw; (try dsimp only at hSw); first | (go_simp; done) | (go_simp; with_reducible rfl)
          simp only [Act.put]
          refine wpAnyH_ready (rs := [3]) (by kernel_rfl) (by simp) ?_
          refine AllReadyH.cons rfl (fun K hK => ?_) AllReadyH.nil
          go_simp
          go_wp2_with (go_at_call 28; refine (pnum_ok hx1 (by assumption) (by omega)).mono ?_; rintro e w5 ⟨rfl, O1, R1⟩)
          refine hK.out _ _ ((only_cell O1.out (by omega)).trans c0) (fun hHeld => ?_)
          clear hK K
          refine wpAnyH_ready (rs := [5]) (by kernel_rfl) (by simp) ?_
          refine AllReadyH.cons rfl (fun K hK => ?_) AllReadyH.nil
          go_simp
          go_wp2_with (go_at_call 28; refine (pnum_er hx2 (by assumption) (by omega)).mono ?_; rintro e w6 ⟨rfl, OE⟩)
          exact door_err (HR.out.efail ((But.refl _ _).drew.trans (O1.out.but.trans OE.out.but))) HC.out rfl rfl
        | ok y =>
          obtain ⟨a, rb⟩ := y
          cases hx3 : Rd.num rb with
          | error c =>
            have HC : Hid (Rd.codeP b = .error c) := Lib.hid (HH.out.ops (Rd.rep_error (k := k + 1) (by rw [Rd.rep_succ HX.out, op_er3 hx1 hx2 hx3]) (by omega)))
            go_wp2_with fail
            refine wp_region_held_drew (S := fun w' => w'.cell? ⟨w.heap.size, 0, none⟩ = some v0) (by kernel_rfl) c0 (fun hHeld => ?_)
            refine wpAnyH_take (i := 0) (v := ?_) rfl (by kernel_rfl) (by kernel_rfl) (by kernel_rfl) (fun _ _ _ h => blind 22 (by omega) h) (Or.inl ⟨by rfl, ?_⟩) (by assumption) ?_
            rotate_left
            · intro w hSw; (try dsimp only at hSw); first | (go_simp; done) | (go_simp; with_reducible rfl)
            simp only [Act.put, List.setIfInBounds_toArray]
            refine wpAnyH_take (i := 1) (v := ?_) rfl (by kernel_rfl) (by kernel_rfl) (by kernel_rfl) (fun _ _ _ h => blind 23 (by omega) h) (Or.inl ⟨by rfl, ?_⟩) (by assumption) ?_
            rotate_left
            · intro w hSw; (try dsimp only at hSw); first | (go_simp; done) | (go_simp; with_reducible rfl)
            simp only [Act.put]
            refine wpAnyH_take (i := 2) (v := ?_) rfl (by kernel_rfl) (by kernel_rfl) (by kernel_rfl) (fun _ _ _ h => blind 24 (by omega) h) (Or.inl ⟨by rfl, ?_⟩) (by assumption) ?_
            rotate_left
            · intro w hSw; (try dsimp only at hSw); first | (go_simp; done) | (go_simp; with_reducible rfl)
            simp only [Act.put]
            refine wpAnyH_take (i := 4) (v := ?_) rfl (by kernel_rfl) (by kernel_rfl) (by kernel_rfl) (fun _ _ _ h => blind 26 (by omega) h) (Or.inl ⟨by rfl, ?_⟩) (by assumption) ?_
            rotate_left
            · intro w hSw; (try dsimp only at hSw); first | (go_simp; done) | (go_simp; with_reducible rfl)
            simp only [Act.put]
            refine wpAnyH_take (i := 6) (v := ?_) rfl (by kernel_rfl) (by kernel_rfl) (by kernel_rfl) (fun _ _ _ h => blind 28 (by omega) h) (Or.inl ⟨by rfl, ?_⟩) (by assumption) ?_
            rotate_left
            · intro w hSw; (try dsimp only at hSw); first | (go_simp; done) | (go_simp; with_reducible rfl)
            simp only [Act.put]
            refine wpAnyH_ready (rs := [3]) (by kernel_rfl) (by simp) ?_
            refine AllReadyH.cons rfl (fun K hK => ?_) AllReadyH.nil
            go_simp
            go_wp2_with (go_at_call 28; refine (pnum_ok hx1 (by assumption) (by omega)).mono ?_; rintro e w5 ⟨rfl, O1, R1⟩)
            refine hK.out _ _ ((only_cell O1.out (by omega)).trans c0) (fun hHeld => ?_)
            clear hK K
            refine wpAnyH_ready (rs := [5]) (by kernel_rfl) (by simp) ?_
            refine AllReadyH.cons rfl (fun K hK => ?_) AllReadyH.nil
            go_simp
            go_wp2_with (go_at_call 28; refine (pnum_ok hx2 (by assumption) (by omega)).mono ?_; rintro e w6 ⟨rfl, O2, R2⟩)
            refine hK.out _ _ ((only_cell (O1.out.trans O2.out) (by omega)).trans c0) (fun hHeld => ?_)
            clear hK K
            refine wpAnyH_ready (rs := [7]) (by kernel_rfl) (by simp) ?_
            refine AllReadyH.cons rfl (fun K hK => ?_) AllReadyH.nil
            go_simp
            go_wp2_with (go_at_call 28; refine (pnum_er hx3 (by assumption) (by omega)).mono ?_; rintro e w7 ⟨rfl, OE⟩)
            exact door_err (HR.out.efail ((But.refl _ _).drew.trans ((O1.out.trans O2.out).but.trans OE.out.but))) HC.out rfl rfl
          | ok y =>
            obtain ⟨bb, rc⟩ := y
            have HE : Hid (Rd.rep Rd.opP (k + 1) r3 = .ok (os ++ [⟨d, a, bb⟩], rc)) := Lib.hid (by rw [Rd.rep_succ HX.out, op_ok hx1 hx2 hx3])
            have hb1 := Rd.num_bd hx1
            have hb2 := Rd.num_bd hx2
            have hb3 := Rd.num_bd hx3
            have hlen := Rd.rep_length HX.out
            have Hlen := Lib.hid hlen
            have hle : os.length ≤ 10000 := by omega
            obtain ⟨c74, hp74⟩ := HR.out.rd.blk
            clear hlen
            go_wp2_with fail
            refine wp_region_noPanic ?_
            go_region_law (first
              | (go_simp; go_at_call 28; refine (pnum_ok (B := w.heap.size) hx3 ?_ (by omega)).mono ?_; assumption; rintro e w7 ⟨rfl, O3, R3⟩; have d3 := (only_cell O3.out (by omega)).trans d2; obtain ⟨P0, P1, P2, P3⟩ := parts_but Hcb.out Q1.out Q2.out Q3.out (((But.refl _ _).drew.trans ((O1.out.trans O2.out).trans O3.out).but).alloc (Nat.le_of_lt R3.out.lt) (.cells #[.int .i64 d, .int .i64 a, .int .i64 bb] 68)) hp74; have hl7 := R3.out.lt; have hl7b : w.heap.size < w7.heap.size := (by omega); have S7 := Lib.hid (HR.out.but (((But.refl _ _).drew.trans ((O1.out.trans O2.out).trans O3.out).but).alloc (Nat.le_of_lt R3.out.lt) (.cells #[.int .i64 d, .int .i64 a, .int .i64 bb] 68)) (R3.out.alloc (by omega) _)))
              | (go_simp; go_at_call 28; refine (pnum_ok (B := w.heap.size) hx2 ?_ (by omega)).mono ?_; assumption; rintro e w6 ⟨rfl, O2, R2⟩; have d2 := (only_cell O2.out (by omega)).trans d1)
              | (go_simp; go_at_call 28; refine (pnum_ok (B := w.heap.size) hx1 ?_ (by omega)).mono ?_; assumption; rintro e w5 ⟨rfl, O1, R1⟩; have d1 := (only_cell O1.out (by omega)).trans c0)
              | (refine step_append_lies _ (by rfl) _ _ _ (by rfl) w.heap.size 68 i68 _ 3 24 Try.underlying26 hi68 hz68 hs68 hb68 rfl (by omega) v0 os.length (os.flatMap opCells) (by rfl) P1.out.1 ⟨w7.heap.size, 0, none⟩ 1 1 [.int .i64 d, .int .i64 a, .int .i64 bb] (by rfl) (by rfl) (World.news_of_block (cs := #[.int .i64 d, .int .i64 a, .int .i64 bb]) (t := 68) (fr := (0, 0)) (heap_alloc_new _ _)) (by simp [Value.oneCell']) (by omega) (by unfold maxLen; omega) (by omega) (by simp; omega) (w7.heap.size + 1) (by simp) ?_; intro g cap w8 hown1 hgrow hat hlt; have hb8 := blk_grown P0.out hgrow (fun e0 => own_ne_blk P1.out.1 P0.out (by decide) e0.symm); have e0 := blk_cell hb8 0; have e1 := blk_free hb8 0; have hl8 := blk_lt hb8; simp only [List.getElem?_toArray, List.getElem?_cons_zero] at e0; have HG := Lib.hid hgrow; have HO8 := Lib.hid hown1; clear hb8 hgrow hown1 hat))
            all_goals
              refine NoPanic.normal ?_
              have hN := Lib.hid (CodeSt.push_op (o := ⟨d, a, bb⟩) (C := ⟨os, [], []⟩) P0.out P1.out P2.out P3.out ⟨hb1, hb2, hb3⟩ HO8.out HG.out)
              obtain ⟨ve, herr⟩ := S7.out.err
              have hR8 := Lib.hid (rst_push (i := 0) (by simp; omega) S7.out.bel S7.out.rd herr P1.out.1 (Nat.le_refl _) (by decide) (by decide) HG.out hN.out)
              clear herr hN e0 e1 d1 d2 d3
              go_wp2
              go_roundw
              case rel => exact ⟨k + 1, os ++ [⟨d, a, bb⟩], rc, by omega, by go_num, HE, hR8⟩
              case measure => simp [intOf]; omega
    · obtain rfl : k = no := by omega
      have HH2 : Hid (Heads2 b nf nk os r) := Lib.hid ⟨k, r3, HH.out, HX.out⟩
      have hos : os.length ≤ 10000 := by rw [Rd.rep_length HX.out]; exact hno
      clear HX HH
      obtain ⟨wo, rfl⟩ : ∃ wo : World, wo = wr := ⟨_, rfl⟩
      go_wp2
      go_loopw [36] (fun i wr => ∃ (k2 : Nat) (fs : List Cd.GFn) (r2 : List UInt8), k2 ≤ nf ∧ i = .int .i64 k2 ∧ Hid (Rd.rep Rd.fnP k2 r = .ok (fs, r2)) ∧ Hid (RSt w wr r2 ⟨os, fs, []⟩)) (fun i _ => nf - (intOf i).toNat)
      case atStart => exact ⟨0, [], r, by omega, rfl, Lib.hid rfl, HR⟩
      case round =>
        clear HR
        obtain ⟨k2, fs, r2, hk2, rfl, HX2, HR⟩ := hrel
        by_cases hlt2 : k2 < nf
        · have hpl := HR.out.rd.lt
          obtain ⟨c74, hp74⟩ := HR.out.rd.blk
          have Hp74 := Lib.hid hp74
          obtain ⟨v0, v1, v2, hcb, q1, q2, q3⟩ := HR.out.code
          have Hcb := Lib.hid hcb
          have Q1 := Lib.hid q1
          have Q2 := Lib.hid q2
          have Q3 := Lib.hid q3
          clear hp74 hcb q1 q2 q3
          go_wp2_with fail
          refine (pnum_any w.heap.size (w.heap.size + 1 + 1) _ _ HR.out.rd (by omega)).mono ?_
          rintro e w5 ⟨ho, ⟨c, hc, rfl⟩ | ⟨d, ra, hx1, rfl, hr⟩⟩
          · have HC : Hid (Rd.codeP b = .error c) := Lib.hid (HH2.out.fns (Rd.rep_error (k := k2 + 1) (by rw [Rd.rep_succ HX2.out, fn_er1 hc]) (by omega)))
            have HE := Lib.hid (HR.out.efail (ho.but))
            clear ho hc
            unfold thrown
            go_wp2
            exact door_err HE.out HC.out rfl rfl
          have B1 := Lib.hid ho.but
          have R1 := Lib.hid hr
          have hb1 := Rd.num_bd hx1
          have HX1 := Lib.hid hx1
          clear ho hr hx1
          go_wp2_with fail
          refine (pnum_any w.heap.size (w.heap.size + 1 + 1) _ _ R1.out (by omega)).mono ?_
          rintro e w6 ⟨ho, ⟨c, hc, rfl⟩ | ⟨a, rb, hx1, rfl, hr⟩⟩
          · have HC : Hid (Rd.codeP b = .error c) := Lib.hid (HH2.out.fns (Rd.rep_error (k := k2 + 1) (by rw [Rd.rep_succ HX2.out, fn_er2 HX1.out hc]) (by omega)))
            have HE := Lib.hid (HR.out.efail (B1.out.trans ho.but))
            clear ho hc
            unfold thrown
            go_wp2
            exact door_err HE.out HC.out rfl rfl
          have B2 := Lib.hid (B1.out.trans ho.but)
          have R2 := Lib.hid hr
          have hb2 := Rd.num_bd hx1
          have HY2 := Lib.hid hx1
          clear ho hr hx1 B1 R1
          go_wp2_with fail
          refine (pnum_any w.heap.size (w.heap.size + 1 + 1) _ _ R2.out (by omega)).mono ?_
          rintro e w7 ⟨ho, ⟨c, hc, rfl⟩ | ⟨s, rc, hx1, rfl, hr⟩⟩
          · have HC : Hid (Rd.codeP b = .error c) := Lib.hid (HH2.out.fns (Rd.rep_error (k := k2 + 1) (by rw [Rd.rep_succ HX2.out, fn_er3 HX1.out HY2.out hc]) (by omega)))
            have HE := Lib.hid (HR.out.efail (B2.out.trans ho.but))
            clear ho hc
            unfold thrown
            go_wp2
            exact door_err HE.out HC.out rfl rfl
          have B3 := Lib.hid ((B2.out.trans ho.but).alloc (by have := ho.but.low.size; have := B2.out.low.size; omega) (.cells #[.int .i64 d, .int .i64 a, .int .i64 s, .slice none 0 0] 61))
          have R3 := Lib.hid (hr.alloc (by omega) (.cells #[.int .i64 d, .int .i64 a, .int .i64 s, .slice none 0 0] 61))
          have hb3 := Rd.num_bd hx1
          have HY3 := Lib.hid hx1
          have hq1 : wr.heap.size ≤ w7.heap.size := by have := ho.but.low.size; have := B2.out.low.size; omega
          have hbox := Lib.hid (blk_new w7 (.cells #[.int .i64 d, .int .i64 a, .int .i64 s, .slice none 0 0] 61))
          clear ho hr hx1 B2 R2
          go_wp2_with fail
          refine (pcount_any w.heap.size (w.heap.size + 1 + 1) _ _ R3.out (by omega)).mono ?_
          rintro e w8 ⟨ho, ⟨c, hc, rfl⟩ | ⟨n, rd, hx1, rfl, hr⟩⟩
          · have HC : Hid (Rd.codeP b = .error c) := Lib.hid (HH2.out.fns (Rd.rep_error (k := k2 + 1) (by rw [Rd.rep_succ HX2.out, fn_er4 HX1.out HY2.out HY3.out (list_er1 hc)]) (by omega)))
            have HE := Lib.hid (HR.out.efail (B3.out.trans ho.but))
            clear ho hc
            unfold thrown
            go_wp2
            exact door_err HE.out HC.out rfl rfl
          have B4 := Lib.hid (B3.out.trans ho.but)
          have R4 := Lib.hid hr
          have hn := Rd.count_bd hx1
          have HY4 := Lib.hid hx1
          have hbox4 := Lib.hid ((ho.kept w7.heap.size (by omega)).trans hbox.out)
          clear ho hr hx1 B3 R3 hbox
          unfold natV
          go_wp2_with fail
          refine (plist_any w.heap.size (w.heap.size + 1 + 1) n _ _ R4.out (by omega) hn).mono ?_
          rintro e w9 ⟨ho, ⟨c, hc, rfl⟩ | ⟨xs, re, u, hx1, rfl, hr, hu⟩⟩
          · have HC : Hid (Rd.codeP b = .error c) := Lib.hid (HH2.out.fns (Rd.rep_error (k := k2 + 1) (by rw [Rd.rep_succ HX2.out, fn_er4 HX1.out HY2.out HY3.out (list_er2 HY4.out hc)]) (by omega)))
            have HE := Lib.hid (HR.out.efail (B4.out.trans ho))
            clear ho hc
            unfold thrown
            go_wp2
            exact door_err HE.out HC.out rfl rfl
          obtain ⟨ua, uc, rfl⟩ := hu.slice
          have HX3 : Hid (Rd.rep Rd.fnP (k2 + 1) r = .ok (fs ++ [⟨d, a, s, xs⟩], re)) := Lib.hid (by rw [Rd.rep_succ HX2.out, fn_ok HX1.out HY2.out HY3.out (list_ok HY4.out hx1)])
          have hbox5 := (ho.kept w7.heap.size (blk_lt hbox4.out) (by omega)).trans hbox4.out
          have e3 := blk_cell hbox5 3
          have e0 := blk_cell hbox5 0
          have e1 := blk_cell hbox5 1
          have e2 := blk_cell hbox5 2
          have f3 := blk_free hbox5 3
          have hql := blk_lt hbox5
          simp only [List.getElem?_toArray, List.getElem?_cons_zero, List.getElem?_cons_succ] at e0 e1 e2 e3
          have B5 := Lib.hid (((B4.out.trans ho).set w7.heap.size 3 (.slice ua xs.length uc) hq1 (by omega)).alloc (by simp; omega) (.cells #[.int .i64 d, .int .i64 a, .int .i64 s, .slice ua xs.length uc] 61))
          have RR : Hid (RdAt w.heap.size (w.heap.size + 1 + 1) re ((w9.setCell ⟨w7.heap.size, 3, none⟩ (.slice ua xs.length uc)).alloc (.cells #[.int .i64 d, .int .i64 a, .int .i64 s, .slice ua xs.length uc] 61))) :=
            Lib.hid ((hr.only (w' := w9.setCell ⟨w7.heap.size, 3, none⟩ (.slice ua xs.length uc)) (Below.heap_setCell w9 ⟨w7.heap.size, 3, none⟩ (.slice ua xs.length uc) _ (by show w.heap.size + 1 + 1 ≠ w7.heap.size; omega)) ((Below.refl _ _).setCell (p := ⟨w7.heap.size, 3, none⟩) (by show w.heap.size + 1 + 1 ≤ w7.heap.size; omega) (.slice ua xs.length uc)) (by omega)).alloc (by omega) _)
          have HU := Lib.hid ((hu.set (i := 3) (x := .slice ua xs.length uc) hbox5 (by decide)).alloc (.cells #[.int .i64 d, .int .i64 a, .int .i64 s, .slice ua xs.length uc] 61))
          have S5 := Lib.hid (HR.out.but B5.out RR.out)
          obtain ⟨P0, P1, P2, P3⟩ := parts_but Hcb.out Q1.out Q2.out Q3.out B5.out Hp74.out
          obtain ⟨R0, _, _, _⟩ := parts_but Hcb.out Q1.out Q2.out Q3.out (B4.out.trans ho) Hp74.out
          obtain ⟨z, hz, hown, hxz⟩ := P2.out
          have HZ := Lib.hid hz
          have HOW := Lib.hid hown
          have HXZ := Lib.hid hxz
          have hzl : z.length = k2 := by
            have h1 := congrArg List.length hz
            rw [List.length_map] at h1
            rw [h1]
            exact Rd.rep_length HX2.out
          have hzn : z.length ≤ 10000 := by omega
          have c1 := blk_cell R0.out 1
          simp only [List.getElem?_toArray, List.getElem?_cons_zero, List.getElem?_cons_succ] at c1
          have hl9 := blk_lt R0.out
          have hnews := Lib.hid (news4 w9 w7.heap.size (.slice ua xs.length uc) d a s)
          have hp1 : w.heap.size ≤ ((w9.setCell ⟨w7.heap.size, 3, none⟩ (.slice ua xs.length uc)).alloc (.cells #[.int .i64 d, .int .i64 a, .int .i64 s, .slice ua xs.length uc] 61)).heap.size := by simp; omega
          clear ho hr hu hx1 hbox5 hz hown hxz hzl
          go_wp2_with (at_builtin; refine wpList_append_own _ rfl _ _ 27 rfl w.heap.size 61 i61 (.agg #[.int .i64 0, .int .i64 0, .int .i64 0, .slice none 0 0]) 4 48 Try.underlying27 hi61 hz61 hs61 hb61 rfl (by decide) _ _ _ rfl HOW.out ⟨w9.heap.size, 0, none⟩ 1 1 [.int .i64 d, .int .i64 a, .int .i64 s, .slice ua xs.length uc] rfl rfl hnews.out (one4 _ _ _ _ _ _) ?c3 ?c4 hp1 ?_; rotate_right; intro v' w10 hown' hgrow hnil; obtain ⟨g10, cap10, rfl⟩ := own_lit hown' (by omega); have hb10 := blk_grown P0.out hgrow (fun e0 => own_ne_blk HOW.out P0.out (by decide) e0.symm); have j1 := blk_cell hb10 1; have j2 := blk_free hb10 1; have hl10 := blk_lt hb10; simp only [List.getElem?_toArray, List.getElem?_cons_zero, List.getElem?_cons_succ] at j1; have HG := Lib.hid hgrow; have HO10 := Lib.hid hown'; clear hb10 hgrow hown' hnil c1 e0 e1 e2 e3 f3)
          case c3 => unfold maxLen; omega
          case c4 => omega
          have hN := Lib.hid (CodeSt.push_fn (f := ⟨d, a, s, xs⟩) (C := ⟨os, fs, []⟩) P0.out P1.out HZ.out HOW.out HXZ.out P3.out ⟨hb1, hb2, hb3⟩ HU.out HO10.out HG.out)
          obtain ⟨ve, herr⟩ := S5.out.err
          have hR10 := Lib.hid (rst_push (i := 1) (by simp; omega) S5.out.bel S5.out.rd herr HOW.out (Nat.le_refl _) (by decide) (by decide) HG.out hN.out)
          clear herr hN
          go_roundw
          case rel => exact ⟨k2 + 1, fs ++ [⟨d, a, s, xs⟩], re, by omega, by go_num, HX3, hR10⟩
          case measure => simp [intOf]; omega
        · obtain rfl : k2 = nf := by omega
          have HH3 : Hid (Heads3 b nk os fs r2) := Lib.hid ⟨k2, r, HH2.out, HX2.out⟩
          have hfs : fs.length ≤ 10000 := by rw [Rd.rep_length HX2.out]; exact hnf
          clear HX2 HH2
          obtain ⟨wo, rfl⟩ : ∃ wo : World, wo = wr := ⟨_, rfl⟩
          go_wp2
          go_loopw [58] (fun i wr => ∃ (k3 : Nat) (ks : List (List Int)) (r4 : List UInt8), k3 ≤ nk ∧ i = .int .i64 k3 ∧ Hid (Rd.rep Rd.listP k3 r2 = .ok (ks, r4)) ∧ Hid (RSt w wr r4 ⟨os, fs, ks⟩)) (fun i _ => nk - (intOf i).toNat)
          case atStart => exact ⟨0, [], r2, by omega, rfl, Lib.hid rfl, HR⟩
          case round =>
            clear HR
            obtain ⟨k3, ks, r4, hk3, rfl, HX3, HR⟩ := hrel
            by_cases hlt3 : k3 < nk
            · have hpl := HR.out.rd.lt
              obtain ⟨c74, hp74⟩ := HR.out.rd.blk
              have Hp74 := Lib.hid hp74
              obtain ⟨v0, v1, v2, hcb, q1, q2, q3⟩ := HR.out.code
              have c2 := blk_cell hcb 2
              simp only [List.getElem?_toArray, List.getElem?_cons_zero, List.getElem?_cons_succ] at c2
              have hl := blk_lt hcb
              have Hcb := Lib.hid hcb
              have Q1 := Lib.hid q1
              have Q2 := Lib.hid q2
              have Q3 := Lib.hid q3
              have R0 : Hid (RdAt w.heap.size (w.heap.size + 1 + 1) r4 wr.drew) := Lib.hid HR.out.rd
              clear hp74 hcb q1 q2 q3
              cases hx1 : Rd.count r4 with
              | error c =>
                have HC : Hid (Rd.codeP b = .error c) := Lib.hid (HH3.out.kinds (Rd.rep_error (k := k3 + 1) (by rw [Rd.rep_succ HX3.out, list_er1 hx1]) (by omega)))
                go_wp2_with fail
                refine wp_region_held_drew (S := fun w' => w'.cell? ⟨w.heap.size, 2, none⟩ = some v2) (by kernel_rfl) c2 (fun hHeld => ?_)
                refine wpAnyH_take (i := 0) (v := ?_) rfl (by kernel_rfl) (by kernel_rfl) (by kernel_rfl) (fun _ _ _ h => blind 60 (by omega) h) (Or.inl ⟨by rfl, ?_⟩) (by assumption) ?_
                rotate_left
                · intro w hSw; (try dsimp only at hSw); first | (go_simp; done) | (go_simp; with_reducible rfl)
                simp only [Act.put, List.setIfInBounds_toArray]
                refine wpAnyH_take (i := 1) (v := ?_) rfl (by kernel_rfl) (by kernel_rfl) (by kernel_rfl) (fun _ _ _ h => blind 61 (by omega) h) (Or.inl ⟨by rfl, ?_⟩) (by assumption) ?_
                rotate_left
                · intro w hSw; (try dsimp only at hSw); first | (go_simp; done) | (go_simp; with_reducible rfl)
                simp only [Act.put]
                refine wpAnyH_take (i := 2) (v := ?_) rfl (by kernel_rfl) (by kernel_rfl) (by kernel_rfl) (fun _ _ _ h => blind 62 (by omega) h) (Or.inl ⟨by rfl, ?_⟩) (by assumption) ?_
                rotate_left
                · intro w hSw; (try dsimp only at hSw); first | (go_simp; done) | (go_simp; with_reducible rfl)
                simp only [Act.put]
                refine wpAnyH_take (i := 3) (v := ?_) rfl (by kernel_rfl) (by kernel_rfl) (by kernel_rfl) (fun _ _ _ h => blind 63 (by omega) h) (Or.inl ⟨by rfl, ?_⟩) (by assumption) ?_
                rotate_left
                · intro w hSw; (try dsimp only at hSw); first | (go_simp; done) | (go_simp; with_reducible rfl)
                simp only [Act.put]
                refine wpAnyH_ready (rs := [4]) (by kernel_rfl) (by simp) ?_
                refine AllReadyH.cons rfl (fun K hK => ?_) AllReadyH.nil
                go_simp
                go_wp2_with (go_at_call 27; refine (pcount_er (B := w.heap.size) hx1 ?_ (by omega)).mono ?_; assumption; rintro e w5 ⟨rfl, OE⟩)
                exact door_err (HR.out.efail ((But.refl _ _).drew.trans OE.out.but)) HC.out rfl rfl
              | ok y =>
                obtain ⟨n, ra⟩ := y
                have hn := Rd.count_bd hx1
                cases hx2 : Rd.rep Rd.num n ra with
                | error c =>
                  have HC : Hid (Rd.codeP b = .error c) := Lib.hid (HH3.out.kinds (Rd.rep_error (k := k3 + 1) (by rw [Rd.rep_succ HX3.out, list_er2 hx1 hx2]) (by omega)))
                  go_wp2_with fail
                  refine wp_region_held_drew (S := fun w' => w'.cell? ⟨w.heap.size, 2, none⟩ = some v2) (by kernel_rfl) c2 (fun hHeld => ?_)
                  refine wpAnyH_take (i := 0) (v := ?_) rfl (by kernel_rfl) (by kernel_rfl) (by kernel_rfl) (fun _ _ _ h => blind 60 (by omega) h) (Or.inl ⟨by rfl, ?_⟩) (by assumption) ?_
                  rotate_left
                  · intro w hSw; (try dsimp only at hSw); first | (go_simp; done) | (go_simp; with_reducible rfl)
                  simp only [Act.put, List.setIfInBounds_toArray]
                  refine wpAnyH_take (i := 1) (v := ?_) rfl (by kernel_rfl) (by kernel_rfl) (by kernel_rfl) (fun _ _ _ h => blind 61 (by omega) h) (Or.inl ⟨by rfl, ?_⟩) (by assumption) ?_
                  rotate_left
                  · intro w hSw; (try dsimp only at hSw); first | (go_simp; done) | (go_simp; with_reducible rfl)
                  simp only [Act.put]
                  refine wpAnyH_take (i := 2) (v := ?_) rfl (by kernel_rfl) (by kernel_rfl) (by kernel_rfl) (fun _ _ _ h => blind 62 (by omega) h) (Or.inl ⟨by rfl, ?_⟩) (by assumption) ?_
                  rotate_left
                  · intro w hSw; (try dsimp only at hSw); first | (go_simp; done) | (go_simp; with_reducible rfl)
                  simp only [Act.put]
                  refine wpAnyH_take (i := 3) (v := ?_) rfl (by kernel_rfl) (by kernel_rfl) (by kernel_rfl) (fun _ _ _ h => blind 63 (by omega) h) (Or.inl ⟨by rfl, ?_⟩) (by assumption) ?_
                  rotate_left
                  · intro w hSw; (try dsimp only at hSw); first | (go_simp; done) | (go_simp; with_reducible rfl)
                  simp only [Act.put]
                  refine wpAnyH_ready (rs := [4]) (by kernel_rfl) (by simp) ?_
                  refine AllReadyH.cons rfl (fun K hK => ?_) AllReadyH.nil
                  go_simp
                  go_wp2_with (go_at_call 27; refine (pcount_ok (B := w.heap.size) hx1 ?_ (by omega)).mono ?_; assumption; rintro e w5 ⟨rfl, O1, R1⟩)
                  refine hK.out _ _ ((only_cell O1.out (by omega)).trans c2) (fun hHeld => ?_)
                  clear hK K
                  refine wpAnyH_ready (rs := [5]) (by kernel_rfl) (by simp) ?_
                  refine AllReadyH.cons rfl (fun K hK => ?_) AllReadyH.nil
                  go_simp
                  go_wp2_with (go_at_call 29; refine (plist_er (B := w.heap.size) hx2 ?_ (by omega) hn).mono ?_; assumption; rintro e w6 ⟨rfl, OE⟩)
                  exact door_err (HR.out.efail ((But.refl _ _).drew.trans (O1.out.but.trans OE.out))) HC.out rfl rfl
                | ok y =>
                  obtain ⟨xs, rb⟩ := y
                  have HE : Hid (Rd.rep Rd.listP (k3 + 1) r2 = .ok (ks ++ [xs], rb)) := Lib.hid (by rw [Rd.rep_succ HX3.out, list_ok hx1 hx2])
                  have hkl := Rd.rep_length HX3.out
                  have Hkl := Lib.hid hkl
                  clear hkl
                  go_wp2_with fail
                  refine wp_region_noPanic ?_
                  go_region_law (first
                    | (go_simp; go_at_call 29; refine (plist_ok (B := w.heap.size) hx2 ?_ (by omega) hn).mono ?_; assumption; rintro e w6 ⟨ua, uc, rfl, O2, R2, U2⟩; have hl5 : w.heap.size < w5.heap.size := (by have := R1.out.lt; omega); have d2 := (but_cell O2.out hl5 (by omega)).trans d1; have hl6 := R2.out.lt; have hl6b : w.heap.size < w6.heap.size := (by omega); have B6 := Lib.hid (((But.refl _ _).drew.trans (O1.out.but.trans O2.out)).alloc (Nat.le_of_lt R2.out.lt) (.cells #[.slice ua xs.length uc] 24)); obtain ⟨P0, P1, P2, P3⟩ := parts_but Hcb.out Q1.out Q2.out Q3.out B6.out Hp74.out; have S6 := Lib.hid (HR.out.but B6.out (R2.out.alloc (by omega) _)); obtain ⟨z, hz, hown, hxz⟩ := P3.out; have hzl := (congrArg List.length hz); rw [List.length_map, Hkl.out] at hzl; have hzn : z.length ≤ 10000 := (by omega); have HZ := Lib.hid hz; have HOW := Lib.hid hown; have HXZ := Lib.hid hxz; clear hz hown hxz hzl)
                    | (go_simp; go_at_call 27; refine (pcount_ok (B := w.heap.size) hx1 ?_ (by omega)).mono ?_; assumption; rintro e w5 ⟨rfl, O1, R1⟩; have d1 := (only_cell O1.out (by omega)).trans c2)
                    | (refine step_append_lies _ (by rfl) _ _ _ (by rfl) w.heap.size 24 i24 _ 1 24 Try.underlying28 hi24 hz24 hs24 hb24 rfl (by omega) v2 z.length (z.map (·.2)) (by rfl) HOW.out ⟨w6.heap.size, 0, none⟩ 1 1 [.slice ua xs.length uc] (by rfl) (by rfl) (World.news_of_block (cs := #[.slice ua xs.length uc]) (t := 24) (fr := (0, 0)) (heap_alloc_new _ _)) (one_slice _ _ _) (by omega) (by unfold maxLen; omega) (by omega) (by simp; omega) (w6.heap.size + 1) (by simp) ?_; intro g cap w8 hown1 hgrow hat hlt; have hb8 := blk_grown P0.out hgrow (fun e0 => own_ne_blk HOW.out P0.out (by decide) e0.symm); have e0 := blk_cell hb8 2; have e1 := blk_free hb8 2; have hl8 := blk_lt hb8; simp only [List.getElem?_toArray, List.getElem?_cons_zero, List.getElem?_cons_succ] at e0; have HG := Lib.hid hgrow; have HO8 := Lib.hid hown1; clear hb8 hgrow hown1 hat))
                  all_goals
                    refine NoPanic.normal ?_
                    have hN := Lib.hid (CodeSt.push_kind (l := xs) (C := ⟨os, fs, ks⟩) P0.out P1.out P2.out HZ.out HOW.out HXZ.out (U2.out.alloc _) HO8.out HG.out)
                    obtain ⟨ve, herr⟩ := S6.out.err
                    have hR8 := Lib.hid (rst_push (i := 2) (by simp; omega) S6.out.bel S6.out.rd herr HOW.out (Nat.le_refl _) (by decide) (by decide) HG.out hN.out)
                    clear herr hN e0 e1 d1 d2
                    go_wp2
                    go_roundw
                    case rel => exact ⟨k3 + 1, ks ++ [xs], rb, by omega, by go_num, HE, hR8⟩
                    case measure => simp [intOf]; omega
            · obtain rfl : k3 = nk := by omega
              have HD := Lib.hid (HH3.out.done HX3.out)
              have hks : ks.length ≤ 10000 := by rw [Rd.rep_length HX3.out]; exact hnk
              clear HX3 HH3
              obtain ⟨v0, v1, v2, hcb, q1, q2, q3⟩ := HR.out.code
              obtain ⟨ve, herr⟩ := HR.out.err
              obtain ⟨vr, hp74, hbv⟩ := HR.out.rd
              have c0 := blk_cell hcb 0
              have c1 := blk_cell hcb 1
              have c2 := blk_cell hcb 2
              have f0 := blk_free hcb 0
              have f1 := blk_free hcb 1
              have f2 := blk_free hcb 2
              have ce := blk_cell herr 0
              have fe := blk_free herr 0
              have cr := blk_cell hp74 0
              have hl := blk_lt hcb
              have hle := blk_lt herr
              have hlr := blk_lt hp74
              simp only [List.getElem?_toArray, List.getElem?_cons_zero, List.getElem?_cons_succ] at c0 c1 c2 ce cr
              have Hcb := Lib.hid hcb
              have Herr := Lib.hid herr
              have Hp74 := Lib.hid hp74
              have QQ := Lib.hid (show RowO w.heap.size wr v0 os ∧ RowF w.heap.size wr v1 fs ∧ RowK w.heap.size wr v2 ks from ⟨q1, q2, q3⟩)
              have hbel := Lib.hid HR.out.bel
              obtain ⟨a0, cap0, rfl⟩ := own_slice q1.1 rfl
              obtain ⟨z1, hz1, hr1, _⟩ := q2
              obtain ⟨a1, cap1, rfl⟩ := own_slice hr1 (show z1.length = fs.length by have := congrArg List.length hz1; simpa using this)
              obtain ⟨z2, hz2, hr2, _⟩ := q3
              obtain ⟨a2, cap2, rfl⟩ := own_slice hr2 (show z2.length = ks.length by have := congrArg List.length hz2; simpa using this)
              clear hcb herr hp74 q1 hz1 hr1 hz2 hr2
              cases r4 with
              | cons x r5 =>
                obtain ⟨rb, ro, rcap, rfl, _, _, _, _, _⟩ := hbv.cons
                have HF := Lib.hid (read_rest HD.out (by simp))
                clear hbv
                have hpos : (0 : Int) < (r5.length : Int) + 1 := by omega
                go_wp2
                obtain ⟨m1, m2, m3⟩ := lay_res (u0 := .slice none 0 0) (u1 := .slice none 0 0) (u2 := .slice none 0 0) (ue := .int .i64 3) Hcb.out Herr.out
                refine door_ok rfl m1 m2 (CdPost.none HF.out (hbel.out.trans (m3 w.heap.size (by omega) (by omega)))) rfl rfl
              | nil =>
                obtain ⟨ra, rcap, rfl⟩ := hbv.nil
                have hCV := Lib.hid (show CodeV wr.heap.size wr _ _ _ ⟨os, fs, ks⟩ from ⟨QQ.out.1.ops hos, QQ.out.2.1.fns hfs, QQ.out.2.2.kinds hks⟩)
                clear hbv
                go_wp2_with fail
                refine (hck.out wr.heap.size _ _ _ _ ⟨os, fs, ks⟩ hCV.out (Nat.le_refl _)).mono ?_
                rintro e w5 ⟨rfl, hb5⟩
                obtain ⟨P0, P1, P2, P3⟩ := parts_but Hcb.out QQ.out.1 QQ.out.2.1 QQ.out.2.2 (But.of (p := w.heap.size + 1 + 1) hb5 (by omega)) Hp74.out
                have k0 := blk_cell P0.out 0
                have k1 := blk_cell P0.out 1
                have k2' := blk_cell P0.out 2
                have g0 := blk_free P0.out 0
                have g1 := blk_free P0.out 1
                have g2 := blk_free P0.out 2
                have herr5 := blk_below Herr.out hb5 hle
                have ke := blk_cell herr5 0
                have ge := blk_free herr5 0
                have hl5 := blk_lt P0.out
                have hle5 := blk_lt herr5
                simp only [List.getElem?_toArray, List.getElem?_cons_zero, List.getElem?_cons_succ] at k0 k1 k2' ke
                have Herr5 := Lib.hid herr5
                have hbel5 := Lib.hid (hbel.out.trans (hb5.mono (by omega)))
                clear hb5 herr5 c0 c1 c2 f0 f1 f2 ce fe cr
                by_cases hz : Cd.check ⟨os, fs, ks⟩ = 0
                · have HF := Lib.hid (read_good HD.out hz)
                  rw [hz]
                  clear hz
                  go_wp2
                  have hcb6 := blk_set_other (p := w.heap.size + 1) P0.out (by omega) 0 (.int .i64 0)
                  have herr6 := blk_set Herr5.out 0 (.int .i64 0)
                  obtain ⟨m1, m2, m3⟩ := lay_res (u0 := .slice a0 os.length cap0) (u1 := .slice a1 fs.length cap1) (u2 := .slice a2 ks.length cap2) (ue := .int .i64 0) hcb6 herr6
                  exact door_ok rfl m1 m2 (CdPost.some HF.out (rows_lay hcb6 herr6 (parts_set ⟨P1.out, P2.out, P3.out⟩ Herr5.out (by decide) (by decide) (by decide) (by decide))) hos hfs hks ((hbel5.out.setCell (p := ⟨w.heap.size + 1, 0, none⟩) (by show w.heap.size ≤ w.heap.size + 1; omega) _).trans (m3 w.heap.size (by omega) (by omega)))) rfl rfl
                · have hzb : (Cd.check ⟨os, fs, ks⟩ != 0) = true := by simpa using hz
                  have HF := Lib.hid (read_bad HD.out hz)
                  clear hz
                  generalize Cd.check ⟨os, fs, ks⟩ = cc at *
                  go_wp2_with fail
                  have hcb6 := blk_set_other (p := w.heap.size + 1) P0.out (by omega) 0 (.int .i64 cc)
                  have herr6 := blk_set Herr5.out 0 (.int .i64 cc)
                  obtain ⟨m1, m2, m3⟩ := lay_res (u0 := .slice none 0 0) (u1 := .slice none 0 0) (u2 := .slice none 0 0) (ue := .int .i64 cc) hcb6 herr6
                  have HM := Lib.hid (lay_drew m1 m2 ((hbel5.out.setCell (p := ⟨w.heap.size + 1, 0, none⟩) (by show w.heap.size ≤ w.heap.size + 1; omega) _).trans (m3 w.heap.size (by omega) (by omega))))
                  clear m1 m2 m3 hcb6 herr6
                  refine wp_region_noPanic ?_
                  refine wp_region_any (by kernel_rfl) ?_
                  change wpAny _ _ _ _ _ _ _ (World.drew _)
                  refine wpAny_take (i := 0) (v := ?_) rfl (by kernel_rfl) (by kernel_rfl) (by kernel_rfl) (fun _ _ _ h => h) (Or.inl ⟨by rfl, ?_⟩) ?_
                  rotate_left
                  · intro w; first | (go_simp; done) | (go_simp; with_reducible rfl)
                  refine wpAny_ready (rs := [1, 2]) (by kernel_rfl) (by simp) ?_
                  refine AllReady.cons rfl (fun K hK => ?_) (AllReady.cons rfl (fun K hK => ?_) AllReady.nil)
                  · go_simp
                    refine hK _ _ ?_
                    clear hK K
                    refine wpAny_ready (rs := [2]) (by kernel_rfl) (by simp) ?_
                    refine AllReady.cons rfl (fun K hK => ?_) AllReady.nil
                    go_simp
                    refine hK _ _ ?_
                    clear hK K
                    refine wpAny_ready (rs := [3]) (by kernel_rfl) (by simp) ?_
                    refine AllReady.cons rfl (fun K hK => ?_) AllReady.nil
                    go_simp
                    refine hK _ _ ?_
                    clear hK K
                    refine wpAny_done (by kernel_rfl) ?_ _
                    refine NoPanic.normal ?_
                    go_wp2
                    refine door_ok rfl HM.out.1 HM.out.2.1 ?_ rfl rfl
                    exact CdPost.none HF.out HM.out.2.2
                  · go_simp
                    refine hK _ _ ?_
                    clear hK K
                    refine wpAny_ready (rs := [1]) (by kernel_rfl) (by simp) ?_
                    refine AllReady.cons rfl (fun K hK => ?_) AllReady.nil
                    go_simp
                    refine hK _ _ ?_
                    clear hK K
                    refine wpAny_ready (rs := [3]) (by kernel_rfl) (by simp) ?_
                    refine AllReady.cons rfl (fun K hK => ?_) AllReady.nil
                    go_simp
                    refine hK _ _ ?_
                    clear hK K
                    refine wpAny_done (by kernel_rfl) ?_ _
                    refine NoPanic.normal ?_
                    go_wp2
                    refine door_ok rfl HM.out.1 HM.out.2.1 ?_ rfl rfl
                    exact CdPost.none HF.out HM.out.2.2
end Go.Proofs.Ytjomajfgoaifbaa
