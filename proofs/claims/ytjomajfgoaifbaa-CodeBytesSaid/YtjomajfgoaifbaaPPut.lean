/-
  PROVED HERE: the program's put (a function literal that has the bytes' variable) lays the bytes of numbers behind those that are there. No condition beyond the lemmas' own premises.
-/
import Derived.Test.YtjomajfgoaifbaaBuf
namespace Go.Proofs.Ytjomajfgoaifbaa
open Go.RowKit

/-- The bytes' variable, in block p. -/
def BoxV (N p : Nat) (w : World) (bs : List UInt8) : Prop := ∃ v, w.heap[p]? = some (.cells #[v] 33 (0, 0)) ∧ BufV N w v bs
theorem BoxV.store {N p : Nat} {w : World} {v x : Value} {bs : List UInt8} (h : BufV N w v bs) (hp : w.heap[p]? = some (.cells #[x] 33 (0, 0))) : BoxV N p (w.setCell ⟨p, 0, none⟩ v) bs :=
  ⟨v, by rw [blk_set hp]; rfl, h.set33 hp⟩

theorem put_cell {N k : Nat} {w w' : World} {u : Value} {l : List Int} (hu : ∀ w', Onto N w w' → IntsV w'.heap.size w' u l) (ho : Onto N w w') (hk : k < l.length) {b o n cap : Nat} (he : u = .slice (some ⟨b, o, none⟩) n cap) : w'.cell? ⟨b, o + k, none⟩ = some (.int .i64 (iAt l k)) := by
  obtain ⟨_, a, b', o', cap', h1, _, _, h4, h5⟩ := hu w' ho
  obtain ⟨rfl, _⟩ := h4 (by omega)
  rw [he] at h1
  cases h1
  exact h5 k hk
theorem cell_lt2 {w : World} {b o : Nat} {v : Value} (h : w.cell? ⟨b, o, none⟩ = some v) : b < w.heap.size := by
  unfold World.cell? at h
  refine Classical.byContradiction fun hn => ?_
  rw [Array.getElem?_eq_none (by show w.heap.size ≤ b; omega)] at h
  simp at h
theorem not_shl {n : Int} (h0 : n < 0) (h1 : -9223372036854775808 ≤ n) : bits .xor .u64 IntKind.u64.max (IntKind.u64.wrap (IntKind.u64.wrap n * 2)) = ((Rd.zig n : Nat) : Int) := by
  have e : IntKind.u64.wrap (IntKind.u64.wrap n * 2) = ((18446744073709551616 + 2 * n).toNat : Int) := by
    rw [IntKind.wrap_u64, IntKind.wrap_u64]
    omega
  rw [e, u64_not _ (by omega)]
  unfold Rd.zig
  rw [if_pos h0]
  omega
theorem or128_all : ∀ u : Fin 256, bits .or .u8 (u.val : Int) 128 = ((u.val : Int) % 128 + 128) := by decide +kernel
theorem byte_more2 (U : Nat) : byteV (UInt8.ofNat (U % 128 + 128)) = .int .u8 (bits .or .u8 ((U : Int) % 256) 128) := by
  rw [byte_more]
  have h := or128_all ⟨U % 256, by omega⟩
  simp only at h
  rw [show (((U % 256 : Nat) : Int)) = (U : Int) % 256 by omega] at h
  rw [h]
  congr 1
  omega
theorem own_lit2 {w : World} {base e size n : Nat} {v : Value} {xs : List Value} (h : w.ownsRow base e size v n xs) (hn : 0 < n) : ∃ g cap, v = .slice (some ⟨g, 0, none⟩) n cap := by
  rcases h.2 with ⟨_, h0⟩ | ⟨g, cap, cur, hv, _⟩
  · omega
  · exact ⟨g, cap, hv⟩
theorem putIs_take {l : List Int} {k : Nat} (h : k < l.length) : Rd.putIs (l.take (k + 1)) = Rd.putIs (l.take k) ++ Rd.putI (iAt l k) := by
  unfold Rd.putIs
  rw [List.take_succ_eq_append_getElem h, List.flatMap_append]
  simp [iAt, List.getElem?_eq_getElem h]
theorem putIs_len : ∀ {l : List Int}, (∀ x ∈ l, I64 x) → (Rd.putIs l).length ≤ 10 * l.length
  | [], _ => by simp [Rd.putIs]
  | x :: l, h => by
    have h1 := Rd.putI_len (h x (by simp))
    have h2 := putIs_len (l := l) (fun y hy => h y (by simp [hy]))
    unfold Rd.putIs at h2 ⊢
    simp only [List.flatMap_cons, List.length_append, List.length_cons]
    omega
set_option maxRecDepth 100000 in
set_option maxHeartbeats 1000000 in
theorem pput_any (N p : Nat) (w : World) (u : Value) (bs : List UInt8) (l : List Int) (hv : BoxV N p w bs) (hN : N ≤ p) (hu : ∀ w', Onto N w w' → IntsV w'.heap.size w' u l) (hl : bs.length + 10 * l.length ≤ 1000000000) :
    Calls Try.prog 33 #[u, .pointer (some ⟨p, 0, none⟩)] w fun e w' => e = .returned (.tuple #[]) ∧ Hid (BoxV N p w' (bs ++ Rd.putIs l)) ∧ Hid (Onto N w w') := by
  have HB := Lib.hid hv
  have HU := Lib.hid hu
  obtain ⟨i5, hi5, hz5, hs5, hb5⟩ := info_parts buf_info5
  obtain ⟨hint, ua, ub, uo, uc, rfl, hc1, ⟨hc2, hc3⟩, hc4, hc5⟩ := hu w (Onto.refl _ _)
  have HI := Lib.hid hint
  have HA := Lib.hid hc4
  clear hu hv hc4 hc5 hint
  go_enter Try.func33, Try.ntmps33
  go_wp2_with fail
  go_loopw [8] (fun i wr => ∃ (k : Nat), k ≤ l.length ∧ i = .int .i64 k ∧ Hid (BoxV N p wr (bs ++ Rd.putIs (l.take k))) ∧ Hid (Onto N w wr)) (fun i _ => l.length - (intOf i).toNat)
  case atStart => exact ⟨0, by omega, rfl, by simpa [Rd.putIs] using HB, Lib.hid (Onto.refl _ _)⟩
  case round =>
    clear HB
    obtain ⟨k, hk, rfl, HB, HO⟩ := hrel
    by_cases hlt : k < l.length
    · obtain ⟨rfl, _⟩ := HA.out (by omega)
      have hn : I64 (iAt l k) := HI.out _ (iAt_mem hlt)
      have HNI := Lib.hid hn
      have hcell := put_cell HU.out HO.out hlt rfl
      have hbl := cell_lt2 hcell
      have HKS : Hid (Rd.putIs (l.take (k + 1)) = Rd.putIs (l.take k) ++ Rd.putI (iAt l k)) := Lib.hid (putIs_take hlt)
      have HP := Lib.hid (PutSt.start hn (bs ++ Rd.putIs (l.take k)))
      have HZL : Rd.zig (iAt l k) < 18446744073709551616 := by have := Rd.zig_lt hn; rw [pow_num] at this; exact this
      have hbk : (bs ++ Rd.putIs (l.take k)).length + 10 ≤ 1000000000 := by
        have := putIs_len (l := l.take k) (fun x hx => HI.out x (List.mem_of_mem_take hx))
        simp only [List.length_append, List.length_take] at this ⊢
        omega
      generalize iAt l k = n at *
      unfold I64 at hn
      obtain ⟨wo, rfl⟩ : ∃ wo : World, wo = wr := ⟨_, rfl⟩
      by_cases h0 : n < 0
      · have HZ := Lib.hid (not_shl h0 hn.1)
        go_wp2_with fail
        go_loopw [5] (fun u wx => ∃ (U : Nat) (cs : List UInt8), u = .int .u64 U ∧ U < 18446744073709551616 ∧ Hid (PutSt (bs ++ Rd.putIs (l.take k)) n U cs) ∧ Hid (BoxV N p wx cs) ∧ Hid (Onto N w wx)) (fun u _ => (intOf u).toNat)
        case atStart => exact ⟨Rd.zig n, _, by rw [HZ.out], HZL, HP, HB, HO⟩
        case round =>
          clear HP HB HO HZ
          obtain ⟨U, cs, rfl, hU, HP, HB, HO⟩ := hrel
          have hlen := HP.out.len HNI.out
          obtain ⟨x, hbox, hbuf⟩ := HB.out
          have HBX := Lib.hid hbox
          have HV := Lib.hid hbuf
          have d0 := blk_cell hbox 0
          have hpl := blk_lt hbox
          simp only [List.getElem?_toArray, List.getElem?_cons_zero] at d0
          clear hbox hbuf
          by_cases h128 : 128 ≤ U
          · have hp1 : N ≤ (wr.alloc (.cells #[.int .u8 (bits .or .u8 ((U : Int) % 256) 128)] 5)).heap.size := by simp; omega
            have hP2 := Lib.hid (HP.out.more h128)
            go_wp2_with (at_builtin; refine wpList_append_own _ rfl _ _ 33 rfl N 5 i5 (.int .u8 0) 1 1 Try.underlying33 hi5 hz5 hs5 hb5 rfl (by decide) _ _ _ rfl (HV.out.onto_alloc _) ⟨wr.heap.size, 0, none⟩ 1 1 [.int .u8 (bits .or .u8 ((U : Int) % 256) 128)] rfl rfl ?c1 (u8_one _) ?c3 ?c4 hp1 ?_; rotate_right; intro v' w2 hown' hgrow hnil; obtain ⟨g10, cap10, rfl⟩ := own_lit2 hown' (by omega); have hb10 := blk_grown (blk_alloc HBX.out _) hgrow (fun e0 => own_ne_blk HV.out HBX.out (by decide) e0.symm); have j1 := blk_cell hb10 0; have j2 := blk_free hb10 0; have hl10 := blk_lt hb10; simp only [List.getElem?_toArray, List.getElem?_cons_zero] at j1; have HG := Lib.hid hgrow; have HO2 := Lib.hid hown'; have HB10 := Lib.hid hb10; clear hgrow hown' hnil hb10 d0)
            case c1 => exact cell_one_new _ _ _
            case c3 => unfold maxLen; omega
            case c4 => omega
            have hB2 := Lib.hid (BoxV.store (BufV.snoc HO2.out (byte_more2 U)) HB10.out)
            have hO2 := Lib.hid (((HO.out.alloc (by omega) _).grown (by simp; omega) (Nat.le_refl _) (HV.out.onto_alloc _) HG.out).set33 hN HB10.out (.slice (some ⟨g10, 0, none⟩) (cs.length + 1) cap10) (i := 0))
            go_roundw
            case rel => exact ⟨U / 128, _, by go_num, by omega, hP2, hB2, hO2⟩
            case measure => simp [intOf]; omega
          · have hp1 : N ≤ (wr.alloc (.cells #[.int .u8 (U : Int)] 5)).heap.size := by simp; omega
            have hP2 := Lib.hid (HP.out.last (by omega))
            have hUi : (U : Int) < 128 := by omega
            go_wp2_with (at_builtin; refine wpList_append_own _ rfl _ _ 33 rfl N 5 i5 (.int .u8 0) 1 1 Try.underlying33 hi5 hz5 hs5 hb5 rfl (by decide) _ _ _ rfl (HV.out.onto_alloc _) ⟨wr.heap.size, 0, none⟩ 1 1 [.int .u8 (U : Int)] rfl rfl ?c1 (u8_one _) ?c3 ?c4 hp1 ?_; rotate_right; intro v' w2 hown' hgrow hnil; obtain ⟨g10, cap10, rfl⟩ := own_lit2 hown' (by omega); have hb10 := blk_grown (blk_alloc HBX.out _) hgrow (fun e0 => own_ne_blk HV.out HBX.out (by decide) e0.symm); have j1 := blk_cell hb10 0; have j2 := blk_free hb10 0; have hl10 := blk_lt hb10; simp only [List.getElem?_toArray, List.getElem?_cons_zero] at j1; have HG := Lib.hid hgrow; have HO2 := Lib.hid hown'; have HB10 := Lib.hid hb10; clear hgrow hown' hnil hb10 d0)
            case c1 => exact cell_one_new _ _ _
            case c3 => unfold maxLen; omega
            case c4 => omega
            have hB2 := Lib.hid (BoxV.store (BufV.snoc HO2.out (byte_last (by omega))) HB10.out)
            have hO2 := Lib.hid (((HO.out.alloc (by omega) _).grown (by simp; omega) (Nat.le_refl _) (HV.out.onto_alloc _) HG.out).set33 hN HB10.out (.slice (some ⟨g10, 0, none⟩) (cs.length + 1) cap10) (i := 0))
            go_roundw
            case rel => exact ⟨k + 1, by omega, by go_num, Lib.hid (by rw [HKS.out, ← List.append_assoc, ← hP2.out]; exact hB2.out), hO2⟩
            case measure => simp [intOf]; omega
      · have HZ : Hid ((n * 2) = ((Rd.zig n : Nat) : Int)) := Lib.hid (by unfold Rd.zig; rw [if_neg h0]; omega)
        obtain ⟨m, rfl⟩ := Int.eq_ofNat_of_zero_le (show 0 ≤ n by omega)
        go_wp2_with fail
        go_loopw [5] (fun u wx => ∃ (U : Nat) (cs : List UInt8), u = .int .u64 U ∧ U < 18446744073709551616 ∧ Hid (PutSt (bs ++ Rd.putIs (l.take k)) (m : Int) U cs) ∧ Hid (BoxV N p wx cs) ∧ Hid (Onto N w wx)) (fun u _ => (intOf u).toNat)
        case atStart => exact ⟨Rd.zig (m : Int), _, by rw [HZ.out], HZL, HP, HB, HO⟩
        case round =>
          clear HP HB HO HZ
          obtain ⟨U, cs, rfl, hU, HP, HB, HO⟩ := hrel
          have hlen := HP.out.len HNI.out
          obtain ⟨x, hbox, hbuf⟩ := HB.out
          have HBX := Lib.hid hbox
          have HV := Lib.hid hbuf
          have d0 := blk_cell hbox 0
          have hpl := blk_lt hbox
          simp only [List.getElem?_toArray, List.getElem?_cons_zero] at d0
          clear hbox hbuf
          by_cases h128 : 128 ≤ U
          · have hp1 : N ≤ (wr.alloc (.cells #[.int .u8 (bits .or .u8 ((U : Int) % 256) 128)] 5)).heap.size := by simp; omega
            have hP2 := Lib.hid (HP.out.more h128)
            go_wp2_with (at_builtin; refine wpList_append_own _ rfl _ _ 33 rfl N 5 i5 (.int .u8 0) 1 1 Try.underlying33 hi5 hz5 hs5 hb5 rfl (by decide) _ _ _ rfl (HV.out.onto_alloc _) ⟨wr.heap.size, 0, none⟩ 1 1 [.int .u8 (bits .or .u8 ((U : Int) % 256) 128)] rfl rfl ?c1 (u8_one _) ?c3 ?c4 hp1 ?_; rotate_right; intro v' w2 hown' hgrow hnil; obtain ⟨g10, cap10, rfl⟩ := own_lit2 hown' (by omega); have hb10 := blk_grown (blk_alloc HBX.out _) hgrow (fun e0 => own_ne_blk HV.out HBX.out (by decide) e0.symm); have j1 := blk_cell hb10 0; have j2 := blk_free hb10 0; have hl10 := blk_lt hb10; simp only [List.getElem?_toArray, List.getElem?_cons_zero] at j1; have HG := Lib.hid hgrow; have HO2 := Lib.hid hown'; have HB10 := Lib.hid hb10; clear hgrow hown' hnil hb10 d0)
            case c1 => exact cell_one_new _ _ _
            case c3 => unfold maxLen; omega
            case c4 => omega
            have hB2 := Lib.hid (BoxV.store (BufV.snoc HO2.out (byte_more2 U)) HB10.out)
            have hO2 := Lib.hid (((HO.out.alloc (by omega) _).grown (by simp; omega) (Nat.le_refl _) (HV.out.onto_alloc _) HG.out).set33 hN HB10.out (.slice (some ⟨g10, 0, none⟩) (cs.length + 1) cap10) (i := 0))
            go_roundw
            case rel => exact ⟨U / 128, _, by go_num, by omega, hP2, hB2, hO2⟩
            case measure => simp [intOf]; omega
          · have hp1 : N ≤ (wr.alloc (.cells #[.int .u8 (U : Int)] 5)).heap.size := by simp; omega
            have hP2 := Lib.hid (HP.out.last (by omega))
            have hUi : (U : Int) < 128 := by omega
            go_wp2_with (at_builtin; refine wpList_append_own _ rfl _ _ 33 rfl N 5 i5 (.int .u8 0) 1 1 Try.underlying33 hi5 hz5 hs5 hb5 rfl (by decide) _ _ _ rfl (HV.out.onto_alloc _) ⟨wr.heap.size, 0, none⟩ 1 1 [.int .u8 (U : Int)] rfl rfl ?c1 (u8_one _) ?c3 ?c4 hp1 ?_; rotate_right; intro v' w2 hown' hgrow hnil; obtain ⟨g10, cap10, rfl⟩ := own_lit2 hown' (by omega); have hb10 := blk_grown (blk_alloc HBX.out _) hgrow (fun e0 => own_ne_blk HV.out HBX.out (by decide) e0.symm); have j1 := blk_cell hb10 0; have j2 := blk_free hb10 0; have hl10 := blk_lt hb10; simp only [List.getElem?_toArray, List.getElem?_cons_zero] at j1; have HG := Lib.hid hgrow; have HO2 := Lib.hid hown'; have HB10 := Lib.hid hb10; clear hgrow hown' hnil hb10 d0)
            case c1 => exact cell_one_new _ _ _
            case c3 => unfold maxLen; omega
            case c4 => omega
            have hB2 := Lib.hid (BoxV.store (BufV.snoc HO2.out (byte_last (by omega))) HB10.out)
            have hO2 := Lib.hid (((HO.out.alloc (by omega) _).grown (by simp; omega) (Nat.le_refl _) (HV.out.onto_alloc _) HG.out).set33 hN HB10.out (.slice (some ⟨g10, 0, none⟩) (cs.length + 1) cap10) (i := 0))
            go_roundw
            case rel => exact ⟨k + 1, by omega, by go_num, Lib.hid (by rw [HKS.out, ← List.append_assoc, ← hP2.out]; exact hB2.out), hO2⟩
            case measure => simp [intOf]; omega
    · obtain rfl : k = l.length := by omega
      rw [List.take_length] at HB
      go_wp2
      go_returns
      exact ⟨rfl, HB, HO⟩
end Go.Proofs.Ytjomajfgoaifbaa
