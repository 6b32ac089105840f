/-
  PROVED HERE: of each order's number what the program's table tells: the tests of A and B, what it takes and puts. No condition.
-/
import Derived.Test.YtjomajfgoaifbaaPreds
namespace Go.Proofs.Ytjomajfgoaifbaa
open Go.RowKit

theorem shape_is (r no nf nk : Nat) (k : Int) (h0 : 1 ≤ k) (h1 : k ≤ 30) : ∃ i j ci cj tk pt p q, ShapeIs r no nf nk k i j ci cj tk pt p q := by
  obtain ⟨n, rfl⟩ := Int.eq_ofNat_of_zero_le (show 0 ≤ k by omega)
  match n, h0, h1 with
  | 0, h0, _ => omega
  | 1, _, _ => exact ⟨45, 46, #[], #[], 0, 1, _, _, ⟨_, rfl⟩, any_v r no nf nk, nought_v r no nf nk, fun x y => by simp [Cd.rangeB], fun x y a b c => by simp [Cd.takesPuts], by decide⟩
  | 2, _, _ => exact ⟨47, 46, #[], #[], 0, 1, _, _, ⟨_, rfl⟩, some_v r no nf nk, nought_v r no nf nk, fun x y => by simp [Cd.rangeB], fun x y a b c => by simp [Cd.takesPuts], by decide⟩
  | 3, _, _ => exact ⟨47, 46, #[], #[], 1, 0, _, _, ⟨_, rfl⟩, some_v r no nf nk, nought_v r no nf nk, fun x y => by simp [Cd.rangeB], fun x y a b c => by simp [Cd.takesPuts], by decide⟩
  | 4, _, _ => exact ⟨47, 46, #[], #[], 1, 0, _, _, ⟨_, rfl⟩, some_v r no nf nk, nought_v r no nf nk, fun x y => by simp [Cd.rangeB], fun x y a b c => by simp [Cd.takesPuts], by decide⟩
  | 5, _, _ => exact ⟨48, 46, #[], #[], 0, 1, _, _, ⟨_, rfl⟩, function_v r no nf nk, nought_v r no nf nk, fun x y => by simp [Cd.rangeB], fun x y a b c => by simp [Cd.takesPuts], by decide⟩
  | 6, _, _ => exact ⟨49, 46, #[], #[], 0, 1, _, _, ⟨_, rfl⟩, kind_v r no nf nk, nought_v r no nf nk, fun x y => by simp [Cd.rangeB], fun x y a b c => by simp [Cd.takesPuts], by decide⟩
  | 7, _, _ => exact ⟨77, 46, #[.pointer (some ⟨r + 1, 0, none⟩)], #[], 0, 1, _, _, ⟨_, rfl⟩, upTo_v r no nf nk (r + 1) 8 fun w h => h.2.1, nought_v r no nf nk, fun x y => by simp [Cd.rangeB], fun x y a b c => by simp [Cd.takesPuts], by decide⟩
  | 8, _, _ => exact ⟨47, 46, #[], #[], 1, 1, _, _, ⟨_, rfl⟩, some_v r no nf nk, nought_v r no nf nk, fun x y => by simp [Cd.rangeB], fun x y a b c => by simp [Cd.takesPuts], by decide⟩
  | 9, _, _ => exact ⟨47, 46, #[], #[], 2, 0, _, _, ⟨_, rfl⟩, some_v r no nf nk, nought_v r no nf nk, fun x y => by simp [Cd.rangeB], fun x y a b c => by simp [Cd.takesPuts], by decide⟩
  | 10, _, _ => exact ⟨48, 46, #[], #[], 1, 1, _, _, ⟨_, rfl⟩, function_v r no nf nk, nought_v r no nf nk, fun x y => by simp [Cd.rangeB], fun x y a b c => by simp [Cd.takesPuts], by decide⟩
  | 11, _, _ => exact ⟨47, 46, #[], #[], 1, 1, _, _, ⟨_, rfl⟩, some_v r no nf nk, nought_v r no nf nk, fun x y => by simp [Cd.rangeB], fun x y a b c => by simp [Cd.takesPuts], by decide⟩
  | 12, _, _ => exact ⟨49, 46, #[], #[], 1, 1, _, _, ⟨_, rfl⟩, kind_v r no nf nk, nought_v r no nf nk, fun x y => by simp [Cd.rangeB], fun x y a b c => by simp [Cd.takesPuts], by decide⟩
  | 13, _, _ => exact ⟨46, 46, #[], #[], 1, 1, _, _, ⟨_, rfl⟩, nought_v r no nf nk, nought_v r no nf nk, fun x y => by simp [Cd.rangeB], fun x y a b c => by simp [Cd.takesPuts], by decide⟩
  | 14, _, _ => exact ⟨46, 46, #[], #[], 1, 1, _, _, ⟨_, rfl⟩, nought_v r no nf nk, nought_v r no nf nk, fun x y => by simp [Cd.rangeB], fun x y a b c => by simp [Cd.takesPuts], by decide⟩
  | 15, _, _ => exact ⟨77, 46, #[.pointer (some ⟨r + 1 + 1, 0, none⟩)], #[], 2, 1, _, _, ⟨_, rfl⟩, upTo_v r no nf nk (r + 1 + 1) 10 fun w h => h.2.2, nought_v r no nf nk, fun x y => by simp [Cd.rangeB], fun x y a b c => by simp [Cd.takesPuts], by decide⟩
  | 16, _, _ => exact ⟨51, 46, #[], #[], 0, 0, _, _, ⟨_, rfl⟩, order_v r no nf nk, nought_v r no nf nk, fun x y => by simp [Cd.rangeB], fun x y a b c => by simp [Cd.takesPuts], by decide⟩
  | 17, _, _ => exact ⟨51, 46, #[], #[], 1, 0, _, _, ⟨_, rfl⟩, order_v r no nf nk, nought_v r no nf nk, fun x y => by simp [Cd.rangeB], fun x y a b c => by simp [Cd.takesPuts], by decide⟩
  | 18, _, _ => exact ⟨51, 52, #[], #[], 1, 0, _, _, ⟨_, rfl⟩, order_v r no nf nk, bit_v r no nf nk, fun x y => by simp [Cd.rangeB], fun x y a b c => by simp [Cd.takesPuts], by decide⟩
  | 19, _, _ => exact ⟨47, 46, #[], #[], 1, 1, _, _, ⟨_, rfl⟩, some_v r no nf nk, nought_v r no nf nk, fun x y => by simp [Cd.rangeB], fun x y a b c => by simp [Cd.takesPuts]; omega, by decide⟩
  | 20, _, _ => exact ⟨46, 46, #[], #[], 1, 0, _, _, ⟨_, rfl⟩, nought_v r no nf nk, nought_v r no nf nk, fun x y => by simp [Cd.rangeB], fun x y a b c => by simp [Cd.takesPuts], by decide⟩
  | 21, _, _ => exact ⟨46, 46, #[], #[], 1, 0, _, _, ⟨_, rfl⟩, nought_v r no nf nk, nought_v r no nf nk, fun x y => by simp [Cd.rangeB], fun x y a b c => by simp [Cd.takesPuts], by decide⟩
  | 22, _, _ => exact ⟨46, 46, #[], #[], 1, 0, _, _, ⟨_, rfl⟩, nought_v r no nf nk, nought_v r no nf nk, fun x y => by simp [Cd.rangeB], fun x y a b c => by simp [Cd.takesPuts], by decide⟩
  | 23, _, _ => exact ⟨46, 46, #[], #[], 2, 0, _, _, ⟨_, rfl⟩, nought_v r no nf nk, nought_v r no nf nk, fun x y => by simp [Cd.rangeB], fun x y a b c => by simp [Cd.takesPuts], by decide⟩
  | 24, _, _ => exact ⟨46, 46, #[], #[], 1, 1, _, _, ⟨_, rfl⟩, nought_v r no nf nk, nought_v r no nf nk, fun x y => by simp [Cd.rangeB], fun x y a b c => by simp [Cd.takesPuts], by decide⟩
  | 25, _, _ => exact ⟨46, 46, #[], #[], 1, 0, _, _, ⟨_, rfl⟩, nought_v r no nf nk, nought_v r no nf nk, fun x y => by simp [Cd.rangeB], fun x y a b c => by simp [Cd.takesPuts], by decide⟩
  | 26, _, _ => exact ⟨46, 46, #[], #[], 1, 0, _, _, ⟨_, rfl⟩, nought_v r no nf nk, nought_v r no nf nk, fun x y => by simp [Cd.rangeB], fun x y a b c => by simp [Cd.takesPuts], by decide⟩
  | 27, _, _ => exact ⟨47, 46, #[], #[], 1, 0, _, _, ⟨_, rfl⟩, some_v r no nf nk, nought_v r no nf nk, fun x y => by simp [Cd.rangeB], fun x y a b c => by simp [Cd.takesPuts]; omega, by decide⟩
  | 28, _, _ => exact ⟨47, 46, #[], #[], 0, 0, _, _, ⟨_, rfl⟩, some_v r no nf nk, nought_v r no nf nk, fun x y => by simp [Cd.rangeB], fun x y a b c => (a rfl).elim, by decide⟩
  | 29, _, _ => exact ⟨52, 51, #[], #[], 0, 0, _, _, ⟨_, rfl⟩, bit_v r no nf nk, order_v r no nf nk, fun x y => by simp [Cd.rangeB], fun x y a b c => (b rfl).elim, by decide⟩
  | 30, _, _ => exact ⟨46, 51, #[], #[], 0, 0, _, _, ⟨_, rfl⟩, nought_v r no nf nk, order_v r no nf nk, fun x y => by simp [Cd.rangeB], fun x y a b c => (c rfl).elim, by decide⟩
  | n + 31, _, h1 => omega

theorem shape_none (r : Nat) (k : Int) (h : k < 1 ∨ 30 < k) : Instr.findNow (.int .i64) (.int .i64 k) (shapeL r) 0 = some none := by
  have e : ∀ m : Int, 1 ≤ m → m ≤ 30 → (k == m) = false := fun m _ _ => by simp; omega
  simp [shapeL, Instr.findNow, Instr.sameNow, e 1 (by decide) (by decide), e 2 (by decide) (by decide), e 3 (by decide) (by decide), e 4 (by decide) (by decide), e 5 (by decide) (by decide), e 6 (by decide) (by decide), e 7 (by decide) (by decide), e 8 (by decide) (by decide), e 9 (by decide) (by decide), e 10 (by decide) (by decide), e 11 (by decide) (by decide), e 12 (by decide) (by decide), e 13 (by decide) (by decide), e 14 (by decide) (by decide), e 15 (by decide) (by decide), e 16 (by decide) (by decide), e 17 (by decide) (by decide), e 18 (by decide) (by decide), e 19 (by decide) (by decide), e 20 (by decide) (by decide), e 21 (by decide) (by decide), e 22 (by decide) (by decide), e 23 (by decide) (by decide), e 24 (by decide) (by decide), e 25 (by decide) (by decide), e 26 (by decide) (by decide), e 27 (by decide) (by decide), e 28 (by decide) (by decide), e 29 (by decide) (by decide), e 30 (by decide) (by decide)]
end Go.Proofs.Ytjomajfgoaifbaa
