/-
  PROVED HERE: the reference's put lays the bytes of a number behind those that are there. No condition beyond the lemmas' own premises.
-/
import Derived.Test.YtjomajfgoaifbaaBuf
namespace Go.Proofs.Ytjomajfgoaifbaa
open Go.RowKit

set_option maxRecDepth 100000 in
set_option maxHeartbeats 1000000 in
theorem rput_any (N : Nat) (w : World) (v : Value) (bs : List UInt8) (n : Int) (hv : BufV N w v bs) (hN : N ≤ w.heap.size) (hn : I64 n) (hl : bs.length ≤ 1000000000) :
    Calls Try.prog 34 #[v, .int .i64 n] w fun e w' => ∃ v', e = .returned v' ∧ Hid (BufV N w' v' (bs ++ Rd.putI n)) ∧ Hid (Onto N w w') := by
  have HV := Lib.hid hv
  have HN := Lib.hid hn
  have HP := Lib.hid (PutSt.start hn bs)
  obtain ⟨i5, hi5, hz5, hs5, hb5⟩ := info_parts buf_info5
  unfold I64 at hn
  clear hv
  have HZL : Rd.zig n < 18446744073709551616 := by have := Rd.zig_lt HN.out; rw [pow_num] at this; exact this
  by_cases h0 : n < 0
  · have HZ : Hid (-(n + 1) * 2 + 1 = ((Rd.zig n : Nat) : Int)) := Lib.hid (by unfold Rd.zig; rw [if_pos h0]; omega)
    go_enter Try.func34, Try.ntmps34
    go_wp2_with fail
    go_loopw [0, 5] (fun x u wr => ∃ (U : Nat) (cs : List UInt8), u = .int .u64 U ∧ U < 18446744073709551616 ∧ Hid (PutSt bs n U cs) ∧ Hid (BufV N wr x cs) ∧ Hid (Onto N w wr)) (fun _ u _ => (intOf u).toNat)
    case atStart => exact ⟨Rd.zig n, bs, by rw [HZ.out], HZL, HP, HV, Lib.hid (Onto.refl _ _)⟩
    case round =>
      clear HP HV
      obtain ⟨U, cs, rfl, hU, HP, HV, HO⟩ := hrel
      have hlen := HP.out.len HN.out
      have hsz := HO.out.low.size
      by_cases h128 : 128 ≤ U
      · have hp1 : N ≤ (wr.alloc (.cells #[.int .u8 ((U : Int) % 128 + 128)] 5)).heap.size := by simp; omega
        have hP2 := Lib.hid (HP.out.more h128)
        go_wp2_with (at_builtin; refine wpList_append_own _ rfl _ _ 33 rfl N 5 i5 (.int .u8 0) 1 1 Try.underlying33 hi5 hz5 hs5 hb5 rfl (by decide) _ _ _ rfl (HV.out.onto_alloc _) ⟨wr.heap.size, 0, none⟩ 1 1 [.int .u8 ((U : Int) % 128 + 128)] rfl rfl ?c1 (u8_one _) ?c3 ?c4 hp1 ?_; rotate_right; intro v' w2 hown' hgrow hnil; have HG := Lib.hid hgrow; have HO2 := Lib.hid hown'; clear hgrow hown' hnil)
        case c1 => exact cell_one_new _ _ _
        case c3 => unfold maxLen; omega
        case c4 => omega
        have hV2 := Lib.hid (BufV.snoc HO2.out (byte_more U))
        have hO2 := Lib.hid ((HO.out.alloc (by omega) _).grown (by simp; omega) (Nat.le_refl _) (HV.out.onto_alloc _) HG.out)
        go_roundw
        case rel => exact ⟨U / 128, _, by go_num, by omega, hP2, hV2, hO2⟩
        case measure => simp [intOf]; omega
      · have hp1 : N ≤ (wr.alloc (.cells #[.int .u8 (U : Int)] 5)).heap.size := by simp; omega
        have hP2 := Lib.hid (HP.out.last (by omega))
        have hUi : (U : Int) < 128 := by omega
        go_wp2_with (at_builtin; refine wpList_append_own _ rfl _ _ 33 rfl N 5 i5 (.int .u8 0) 1 1 Try.underlying33 hi5 hz5 hs5 hb5 rfl (by decide) _ _ _ rfl (HV.out.onto_alloc _) ⟨wr.heap.size, 0, none⟩ 1 1 [.int .u8 (U : Int)] rfl rfl ?c1 (u8_one _) ?c3 ?c4 hp1 ?_; rotate_right; intro v' w2 hown' hgrow hnil; have HG := Lib.hid hgrow; have HO2 := Lib.hid hown'; clear hgrow hown' hnil)
        case c1 => exact cell_one_new _ _ _
        case c3 => unfold maxLen; omega
        case c4 => omega
        have hV2 := Lib.hid (BufV.snoc HO2.out (byte_last (by omega)))
        have hO2 := Lib.hid ((HO.out.alloc (by omega) _).grown (by simp; omega) (Nat.le_refl _) (HV.out.onto_alloc _) HG.out)
        go_returns
        exact ⟨_, rfl, by rw [← hP2.out]; exact hV2, hO2⟩
  · obtain ⟨m, rfl⟩ := Int.eq_ofNat_of_zero_le (show 0 ≤ n by omega)
    have HZ : Hid ((m : Int) * 2 = ((Rd.zig m : Nat) : Int)) := Lib.hid (by unfold Rd.zig; rw [if_neg h0]; omega)
    go_enter Try.func34, Try.ntmps34
    go_wp2_with fail
    go_loopw [0, 5] (fun x u wr => ∃ (U : Nat) (cs : List UInt8), u = .int .u64 U ∧ U < 18446744073709551616 ∧ Hid (PutSt bs (m : Int) U cs) ∧ Hid (BufV N wr x cs) ∧ Hid (Onto N w wr)) (fun _ u _ => (intOf u).toNat)
    case atStart => exact ⟨Rd.zig (m : Int), bs, by rw [HZ.out], HZL, HP, HV, Lib.hid (Onto.refl _ _)⟩
    case round =>
      clear HP HV
      obtain ⟨U, cs, rfl, hU, HP, HV, HO⟩ := hrel
      have hlen := HP.out.len HN.out
      have hsz := HO.out.low.size
      by_cases h128 : 128 ≤ U
      · have hp1 : N ≤ (wr.alloc (.cells #[.int .u8 ((U : Int) % 128 + 128)] 5)).heap.size := by simp; omega
        have hP2 := Lib.hid (HP.out.more h128)
        go_wp2_with (at_builtin; refine wpList_append_own _ rfl _ _ 33 rfl N 5 i5 (.int .u8 0) 1 1 Try.underlying33 hi5 hz5 hs5 hb5 rfl (by decide) _ _ _ rfl (HV.out.onto_alloc _) ⟨wr.heap.size, 0, none⟩ 1 1 [.int .u8 ((U : Int) % 128 + 128)] rfl rfl ?c1 (u8_one _) ?c3 ?c4 hp1 ?_; rotate_right; intro v' w2 hown' hgrow hnil; have HG := Lib.hid hgrow; have HO2 := Lib.hid hown'; clear hgrow hown' hnil)
        case c1 => exact cell_one_new _ _ _
        case c3 => unfold maxLen; omega
        case c4 => omega
        have hV2 := Lib.hid (BufV.snoc HO2.out (byte_more U))
        have hO2 := Lib.hid ((HO.out.alloc (by omega) _).grown (by simp; omega) (Nat.le_refl _) (HV.out.onto_alloc _) HG.out)
        go_roundw
        case rel => exact ⟨U / 128, _, by go_num, by omega, hP2, hV2, hO2⟩
        case measure => simp [intOf]; omega
      · have hp1 : N ≤ (wr.alloc (.cells #[.int .u8 (U : Int)] 5)).heap.size := by simp; omega
        have hP2 := Lib.hid (HP.out.last (by omega))
        have hUi : (U : Int) < 128 := by omega
        go_wp2_with (at_builtin; refine wpList_append_own _ rfl _ _ 33 rfl N 5 i5 (.int .u8 0) 1 1 Try.underlying33 hi5 hz5 hs5 hb5 rfl (by decide) _ _ _ rfl (HV.out.onto_alloc _) ⟨wr.heap.size, 0, none⟩ 1 1 [.int .u8 (U : Int)] rfl rfl ?c1 (u8_one _) ?c3 ?c4 hp1 ?_; rotate_right; intro v' w2 hown' hgrow hnil; have HG := Lib.hid hgrow; have HO2 := Lib.hid hown'; clear hgrow hown' hnil)
        case c1 => exact cell_one_new _ _ _
        case c3 => unfold maxLen; omega
        case c4 => omega
        have hV2 := Lib.hid (BufV.snoc HO2.out (byte_last (by omega)))
        have hO2 := Lib.hid ((HO.out.alloc (by omega) _).grown (by simp; omega) (Nat.le_refl _) (HV.out.onto_alloc _) HG.out)
        go_returns
        exact ⟨_, rfl, by rw [← hP2.out]; exact hV2, hO2⟩
end Go.Proofs.Ytjomajfgoaifbaa
