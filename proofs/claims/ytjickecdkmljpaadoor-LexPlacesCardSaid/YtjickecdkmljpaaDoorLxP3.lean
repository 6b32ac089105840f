/-
  PROVED HERE: the program's scanner: where letters and digits end. No condition beyond the lemmas' own premises.
-/
import Derived.Test.YtjickecdkmljpaaDoorLxP2
namespace Go.Proofs.YtjickecdkmljpaaDoor
open Go.RowKit

theorem w32_byte (c : UInt8) : wrap32 (c.toNat : Int) = (c.toNat : Int) := by
  have := UInt8.toNat_lt c
  unfold wrap32
  omega

set_option maxRecDepth 100000 in
set_option maxHeartbeats 1000000 in
theorem while_digit (p i : Nat) (S : ByteArray) (line : Bool) (v : Value) (w : World) (hp : ScAt p w S i line v) (hi : i ≤ S.size) (hS : S.size ≤ 6000) : Calls Tryd.prog 23 #[.pointer (some ⟨p, 0, none⟩), .func (.func 21) #[] #[]] w fun e w' => e = .returned (.int .i64 (Lx.spanEnd Lx.digit (by_ S) i : Int)) ∧ w = w' := by
  have c0 := blk_cell hp 0
  have c1 := blk_cell hp 1
  simp only [List.getElem?_toArray, List.getElem?_cons_zero, List.getElem?_cons_succ] at c0 c1
  have hpl := blk_lt hp
  clear hp
  go_enter Tryd.func23, Tryd.ntmps23
  go_wp2_with fail
  go_loop [5] (fun x => ∃ j : Nat, j ≤ S.size ∧ x = .int .i64 j ∧ Hid (Lx.spanEnd Lx.digit (by_ S) i = Lx.spanEnd Lx.digit (by_ S) j)) (fun x => S.size - (intOf x).toNat)
  case atStart => exact ⟨i, hi, rfl, Lib.hid rfl⟩
  case round =>
    obtain ⟨j, hj, rfl, HJ⟩ := hrel
    by_cases hje : j < S.size
    · have hget : S[j] = (by_ S).getD j 0 := by simp [by_, hje, ByteArray.getElem_eq_getElem_data]
      have HGET := Lib.hid hget
      clear hget
      go_wp2_with fail
      rw [w32_byte]
      refine (pdigit_any S[j] _).mono ?_
      rintro e w5 ⟨rfl, rfl⟩
      cases hd : Lx.digit S[j] with
      | true =>
        have HJN : Hid (Lx.spanEnd Lx.digit (by_ S) i = Lx.spanEnd Lx.digit (by_ S) (j + 1)) := Lib.hid (by rw [HJ.out, Lx.spanEnd_more (by rw [by_size]; exact hje) (by rw [← HGET.out]; exact hd)])
        clear HJ HGET hd
        go_wp2
        go_round
        case rel => exact ⟨j + 1, by omega, by go_num, HJN⟩
        case measure => simp [intOf]; omega
      | false =>
        have HJN : Hid (Lx.spanEnd Lx.digit (by_ S) i = j) := Lib.hid (by rw [HJ.out, Lx.spanEnd_end (fun h => by rw [← HGET.out, hd] at h; exact Bool.noConfusion h.2)])
        clear HJ HGET hd
        go_wp2
        go_returns
        exact ⟨by rw [HJN.out]; rfl, rfl⟩
    · obtain rfl : j = S.size := by omega
      have HJN : Hid (Lx.spanEnd Lx.digit (by_ S) i = S.size) := Lib.hid (by rw [HJ.out, Lx.spanEnd_end (fun h => by rw [by_size] at h; omega)])
      clear HJ
      go_wp2
      go_returns
      exact ⟨by rw [HJN.out]; rfl, rfl⟩
set_option maxRecDepth 100000 in
set_option maxHeartbeats 1000000 in
theorem while_word (p i : Nat) (S : ByteArray) (line : Bool) (v : Value) (w : World) (hp : ScAt p w S i line v) (hi : i ≤ S.size) (hS : S.size ≤ 6000) : Calls Tryd.prog 23 #[.pointer (some ⟨p, 0, none⟩), .func (.func 25) #[] #[]] w fun e w' => e = .returned (.int .i64 (Lx.spanEnd Lx.wordC (by_ S) i : Int)) ∧ w = w' := by
  have c0 := blk_cell hp 0
  have c1 := blk_cell hp 1
  simp only [List.getElem?_toArray, List.getElem?_cons_zero, List.getElem?_cons_succ] at c0 c1
  have hpl := blk_lt hp
  clear hp
  go_enter Tryd.func23, Tryd.ntmps23
  go_wp2_with fail
  go_loop [5] (fun x => ∃ j : Nat, j ≤ S.size ∧ x = .int .i64 j ∧ Hid (Lx.spanEnd Lx.wordC (by_ S) i = Lx.spanEnd Lx.wordC (by_ S) j)) (fun x => S.size - (intOf x).toNat)
  case atStart => exact ⟨i, hi, rfl, Lib.hid rfl⟩
  case round =>
    obtain ⟨j, hj, rfl, HJ⟩ := hrel
    by_cases hje : j < S.size
    · have hget : S[j] = (by_ S).getD j 0 := by simp [by_, hje, ByteArray.getElem_eq_getElem_data]
      have HGET := Lib.hid hget
      clear hget
      go_wp2_with fail
      rw [w32_byte]
      refine (pword_any S[j] _).mono ?_
      rintro e w5 ⟨rfl, rfl⟩
      cases hd : Lx.wordC S[j] with
      | true =>
        have HJN : Hid (Lx.spanEnd Lx.wordC (by_ S) i = Lx.spanEnd Lx.wordC (by_ S) (j + 1)) := Lib.hid (by rw [HJ.out, Lx.spanEnd_more (by rw [by_size]; exact hje) (by rw [← HGET.out]; exact hd)])
        clear HJ HGET hd
        go_wp2
        go_round
        case rel => exact ⟨j + 1, by omega, by go_num, HJN⟩
        case measure => simp [intOf]; omega
      | false =>
        have HJN : Hid (Lx.spanEnd Lx.wordC (by_ S) i = j) := Lib.hid (by rw [HJ.out, Lx.spanEnd_end (fun h => by rw [← HGET.out, hd] at h; exact Bool.noConfusion h.2)])
        clear HJ HGET hd
        go_wp2
        go_returns
        exact ⟨by rw [HJN.out]; rfl, rfl⟩
    · obtain rfl : j = S.size := by omega
      have HJN : Hid (Lx.spanEnd Lx.wordC (by_ S) i = S.size) := Lib.hid (by rw [HJ.out, Lx.spanEnd_end (fun h => by rw [by_size] at h; omega)])
      clear HJ
      go_wp2
      go_returns
      exact ⟨by rw [HJN.out]; rfl, rfl⟩
end Go.Proofs.YtjickecdkmljpaaDoor
