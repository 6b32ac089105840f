/-
  PROVED HERE: what the program's reader makes of bytes: how many there are. No condition beyond the lemmas' own premises.
-/
import Derived.Test.YtjomajfgoaifbaaPNum
namespace Go.Proofs.Ytjomajfgoaifbaa
open Go.RowKit

def natV (n : Nat) : Value := .int .i64 n

theorem count_err {l : List UInt8} {c : Int} (h : Rd.num l = .error c) : Rd.count l = .error c := by unfold Rd.count; rw [h]
theorem count_bad {l r : List UInt8} {n : Int} (h : Rd.num l = .ok (n, r)) (hn : n < 0 ∨ 10000 < n) : Rd.count l = .error 1 := by unfold Rd.count; rw [h]; exact if_pos hn
theorem count_ok {l r : List UInt8} {n : Int} (h : Rd.num l = .ok (n, r)) (hn : ¬ (n < 0 ∨ 10000 < n)) : Rd.count l = .ok (n.toNat, r) := by unfold Rd.count; rw [h]; exact if_neg hn

set_option maxRecDepth 100000 in
set_option maxHeartbeats 1000000 in
theorem pcount_any (B p : Nat) (w : World) (l : List UInt8) (hp : RdAt B p l w) (hB : B ≤ p) :
    Calls Try.prog 27 #[.pointer (some ⟨p, 0, none⟩)] w (RdPost natV B p (Rd.count l) w) := by
  have HP := Lib.hid hp
  clear hp
  go_enter Try.func27, Try.ntmps27
  go_wp2_with fail
  refine (pnum_any B p w l HP.out hB).mono ?_
  rintro e w1 ⟨ho, ⟨c, hc, rfl⟩ | ⟨n, r, hn, rfl, hr⟩⟩
  · have HO := Lib.hid ho
    have HC := Lib.hid hc
    clear ho hc
    unfold thrown
    go_wp2
    exact ⟨rfl, HO.out, Or.inl ⟨c, count_err HC.out, rfl⟩⟩
  · have HO := Lib.hid ho
    have HN := Lib.hid hn
    have HR := Lib.hid hr
    have hb := Rd.num_bd hn
    clear ho hn hr
    by_cases h0 : n < 0
    · go_wp2
      exact ⟨rfl, HO.out, Or.inl ⟨1, count_bad HN.out (Or.inl h0), rfl⟩⟩
    · by_cases h1 : 10000 < n
      · go_wp2
        exact ⟨rfl, HO.out, Or.inl ⟨1, count_bad HN.out (Or.inr h1), rfl⟩⟩
      · go_wp2
        go_returns
        refine ⟨HO.out, Or.inr ⟨n.toNat, r, count_ok HN.out (by omega), ?_, HR.out⟩⟩
        show Ending.returned (.int .i64 n) = .returned (.int .i64 (n.toNat : Int))
        rw [Int.toNat_of_nonneg (by omega)]
end Go.Proofs.Ytjomajfgoaifbaa
