/-
  PROVED HERE: the law Names, called in whatever memory, returns true and writes nothing that was there. No condition.
-/
import Derived.Test.YtjomajfgoaifbaaRows
import Derived.WalkKit
import Derived.LoopTactic
import Derived.Outline
import Derived.Deep.QuietTactic
import Derived.BigQuiet
import Derived.ProofKit
import Derived.WalkSmall
import Derived.Lib.Hide
namespace Go.Proofs.Ytjomajfgoaifbaa
open Go.RowKit


def numsN : Array Value := #[Value.int .i64 0, .int .i64 1, .int .i64 2, .int .i64 3, .int .i64 4, .int .i64 5, .int .i64 6, .int .i64 7, .int .i64 8, .int .i64 9, .int .i64 10, .int .i64 11, .int .i64 12]
def numsM : Array Value := #[Value.int .i64 6000, .int .i64 30, .int .i64 1200, .int .i64 4000, .int .i64 40, .int .i64 12, .int .i64 300, .int .i64 8, .int .i64 8000, .int .i64 30000]
def numM (k : Nat) : Int := [6000, 30, 1200, 4000, 40, 12, 300, 8, 8000, 30000].getD k 0
theorem numsN_cell (w : World) (k : Nat) (h : k < 13) : (w.alloc (.cells numsN 22)).cell? ⟨w.heap.size, k, none⟩ = some (.int .i64 k) := by
  rw [World.cell?_alloc_new]
  have : k = 0 ∨ k = 1 ∨ k = 2 ∨ k = 3 ∨ k = 4 ∨ k = 5 ∨ k = 6 ∨ k = 7 ∨ k = 8 ∨ k = 9 ∨ k = 10 ∨ k = 11 ∨ k = 12 := by omega
  rcases this with rfl | rfl | rfl | rfl | rfl | rfl | rfl | rfl | rfl | rfl | rfl | rfl | rfl <;> rfl
theorem numsM_at (k : Nat) (h : k < 10) : numsM[k]? = some (.int .i64 (numM k)) := by
  have : k = 0 ∨ k = 1 ∨ k = 2 ∨ k = 3 ∨ k = 4 ∨ k = 5 ∨ k = 6 ∨ k = 7 ∨ k = 8 ∨ k = 9 := by omega
  rcases this with rfl | rfl | rfl | rfl | rfl | rfl | rfl | rfl | rfl | rfl <;> rfl
theorem numsM_cell (w : World) (k : Nat) (h : k < 10) : ((w.alloc (.cells numsM 3)).alloc (.cells numsM 3)).cell? ⟨w.heap.size, k, none⟩ = some (.int .i64 (numM k)) := by
  rw [World.cell?_alloc_lt _ _ _ (by simp), World.cell?_alloc_new, numsM_at k h]
theorem numsM_cell2 (w : World) (k : Nat) (h : k < 10) : ((w.alloc (.cells numsM 3)).alloc (.cells numsM 3)).cell? ⟨w.heap.size + 1, k, none⟩ = some (.int .i64 (numM k)) := by
  have e : w.heap.size + 1 = (w.alloc (.cells numsM 3)).heap.size := by simp
  rw [e, World.cell?_alloc_new, numsM_at k h]
set_option maxHeartbeats 400000 in
theorem names_walk (w : World) : Calls Try.prog 3 #[] w fun e w' => e = .returned (.bool true) ∧ Below w.heap.size w w' := by
  go_enter Try.func3, Try.ntmps3
  go_wp2
  rw [show (#[Value.int .i64 0, .int .i64 1, .int .i64 2, .int .i64 3, .int .i64 4, .int .i64 5, .int .i64 6, .int .i64 7, .int .i64 8, .int .i64 9, .int .i64 10, .int .i64 11, .int .i64 12] : Array Value) = numsN from rfl]
  have hc := numsN_cell w
  have hb := (Below.refl w.heap.size w).alloc (Nat.le_refl _) (.cells numsN 22)
  have hz : w.heap.size < (w.alloc (.cells numsN 22)).heap.size := by simp
  generalize w.alloc (.cells numsN 22) = w1 at *
  go_loop [2] (fun i => ∃ k : Nat, k ≤ 13 ∧ i = .int .i64 k) (fun i => 13 - (intOf i).toNat)
  case atStart => exact ⟨0, by omega, rfl⟩
  case round =>
    obtain ⟨k, hk, rfl⟩ := hrel
    by_cases hlt : k < 13
    · have hck := hc k hlt
      go_wp2
      go_round
      case rel => exact ⟨k + 1, by omega, by go_num⟩
      case measure => simp [intOf]; omega
    · go_wp2
      rw [show (#[Value.int .i64 6000, .int .i64 30, .int .i64 1200, .int .i64 4000, .int .i64 40, .int .i64 12, .int .i64 300, .int .i64 8, .int .i64 8000, .int .i64 30000] : Array Value) = numsM from rfl]
      have hc1 := numsM_cell w1
      have hc2 := numsM_cell2 w1
      have hb2 : Below w.heap.size w ((w1.alloc (.cells numsM 3)).alloc (.cells numsM 3)) := (hb.alloc (by omega) (.cells numsM 3)).alloc (by simp; omega) (.cells numsM 3)
      clear hc
      generalize (w1.alloc (.cells numsM 3)).alloc (.cells numsM 3) = w2 at *
      go_loopw [5] (fun i wr => Below w.heap.size w wr ∧ (∀ k : Nat, k < 10 → wr.cell? ⟨w1.heap.size, k, none⟩ = some (.int .i64 (numM k))) ∧ (∀ k : Nat, k < 10 → wr.cell? ⟨w1.heap.size + 1, k, none⟩ = some (.int .i64 (numM k))) ∧ ∃ k : Nat, k ≤ 10 ∧ i = .int .i64 k) (fun i _ => 10 - (intOf i).toNat)
      case atStart => exact ⟨hb2, hc1, hc2, 0, by omega, rfl⟩
      case round =>
        clear hc1 hc2 hb2
        obtain ⟨hb2, hc1, hc2, m, hm, rfl⟩ := hrel
        by_cases hlm : m < 10
        · have h1 := hc1 m hlm
          have h2 := hc2 m hlm
          have H1 := Lib.hid hc1
          have H2 := Lib.hid hc2
          clear hc1 hc2
          go_wp2
          go_quiet (fail)
          go_wp2
          go_roundw
          case rel => exact ⟨below_drewN hb2 _, fun k hk => by rw [World.cell?_drewN]; exact H1.out k hk, fun k hk => by rw [World.cell?_drewN]; exact H2.out k hk, m + 1, by omega, by go_num⟩
          case measure => simp [intOf]; omega
        · clear hc1 hc2
          go_wp2
          go_ret
          exact ⟨rfl, hb2⟩
end Go.Proofs.Ytjomajfgoaifbaa
