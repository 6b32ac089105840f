/-
  PROVED HERE: what slices.Repeat makes of a row of one int, as the program's checker calls it. No condition beyond the lemmas' own premises.
-/
import Derived.Test.YtjomajfgoaifbaaPMul
import Derived.Laws.CopyOwn
import Derived.Laws.MakeOwn
import Derived.Laws.OwnMore
import Derived.Deep.RegionLaw
namespace Go.Proofs.Ytjomajfgoaifbaa
open Go.RowKit

/-- A row of n of which the first k are written. -/
def rowK (x : Int) (n k : Nat) : List Value := List.replicate k (.int .i64 x) ++ List.replicate (n - k) (.int .i64 0)
theorem rowK_length {x : Int} {n k : Nat} (h : k ≤ n) : (rowK x n k).length = n := by simp [rowK]; omega
theorem rowK_full (x : Int) (n : Nat) : rowK x n n = List.replicate n (.int .i64 x) := by simp [rowK]
theorem rowK_zero (x : Int) (n : Nat) : rowK x n 0 = List.replicate n (.int .i64 0) := by simp [rowK]
theorem rowK_splice {x : Int} {n k m : Nat} (_h : k + m ≤ n) : splice (rowK x n k) k (List.replicate m (.int .i64 x)) = rowK x n (k + m) := by
  unfold splice rowK
  have e1 : (List.replicate k (Value.int .i64 x) ++ List.replicate (n - k) (Value.int .i64 0)).take k = List.replicate k (Value.int .i64 x) := by simp
  have e2 : (List.replicate k (Value.int .i64 x) ++ List.replicate (n - k) (Value.int .i64 0)).drop (k + (List.replicate m (Value.int .i64 x)).length) = List.replicate (n - (k + m)) (Value.int .i64 0) := by
    rw [List.drop_append]
    simp
    omega
  rw [e1, e2, ← List.append_assoc, List.replicate_append_replicate]
theorem rowK_get {x : Int} {n k j : Nat} (h : j < k) : (rowK x n k)[j]? = some (.int .i64 x) := by
  unfold rowK
  rw [List.getElem?_append_left (by simpa using h), List.getElem?_replicate, if_pos h]

theorem mul_one (n : Nat) (h8 : n ≤ 8000) (w : World) : Calls Try.prog 58 #[.int .u64 1, .int .u64 n] w fun e w' => e = .returned (.tuple #[.int .u64 0, .int .u64 n]) ∧ w' = w := by
  refine (mul_any 1 n (by omega) (by omega) w).mono ?_
  rintro e w' ⟨rfl, rfl⟩
  refine ⟨?_, rfl⟩
  have e1 : ((1 * n / 18446744073709551616 : Nat) : Int) = 0 := by omega
  have e2 : ((1 * n % 18446744073709551616 : Nat) : Int) = n := by omega
  rw [e1, e2]

theorem make_ints (n : Nat) (h8 : n ≤ 8000) (w : World) (x : Int) : (Instr.makeSlice 24 (.int .i64 n) (.int .i64 n)).run Try.prog w = .ok (.slice (some ⟨w.heap.size, 0, none⟩) n n) (w.alloc (.cells (rowK x n 0).toArray 3)) := by
  obtain ⟨i0, hi, hz0, hz1, hz2⟩ := info_parts Try.info3
  have h := run_makeSlice (P := Try.prog) (w := w) 24 3 i0 (.int .i64 0) Try.underlying24 hi hz0 .i64 .i64 n n (by omega) (by omega) (by rw [hz1]; omega) (by rw [hz2]; omega) (by omega)
  rw [h, hz1]
  have e : madeCells (Value.int .i64 0).cells ((n : Int).toNat * 1) = (rowK x n 0).toArray := by
    rw [rowK_zero, ← toList_madeCells_one, Array.toArray_toList]
    simp [Value.cells]
  rw [e]
  simp

/-- A copy of m x's at place k of a row of which k are written. -/
theorem copy_rowK {w : World} {g n k m : Nat} {x : Int} {a : Addr} {sL sC cap : Nat} (hg : w.heap[g]? = some (.cells (rowK x n k).toArray 3 (0, 0))) (hk : k + m ≤ n) (hm : m = Nat.min sL (n - k)) (hs : ∀ j, j < m → w.cell? (a.add j) = some (.int .i64 x)) :
    ∃ w', (Builtin.copy_ #[24, 24] 3 #[.slice (some ⟨g, k, none⟩) (n - k) cap, .slice (some a) sL sC]).run Try.prog w = .ok (.int .i64 m) w' ∧ w'.heap[g]? = some (.cells (rowK x n (k + m)).toArray 3 (0, 0)) ∧ ∀ B w0, Below B w0 w → B ≤ g → Below B w0 w' := by
  obtain ⟨i0, hi, hz0, hz1, hz2⟩ := info_parts Try.info3
  have h := run_copy_row (P := Try.prog) w 24 24 3 3 g k (n - k) cap a sL sC (rowK x n k).toArray 3 (List.replicate m (.int .i64 x)) Try.underlying24 (by rw [hi]; simp [hz1]) hg (by simpa using hm)
    (fun j v hv => by
      have hj : j < m := by have := (List.getElem?_eq_some_iff.1 hv).1; simpa using this
      rw [List.getElem?_replicate, if_pos hj] at hv
      cases hv
      exact hs j hj)
    (by simp [rowK_length (x := x) (n := n) (k := k) (by omega)]; omega)
    (fun v hv => by rw [(List.mem_replicate.1 hv).2]; rfl)
  have e : ((rowK x n k).toArray.toList.take k ++ List.replicate m (Value.int .i64 x) ++ (rowK x n k).toArray.toList.drop (k + (List.replicate m (Value.int .i64 x)).length)) = rowK x n (k + m) := by
    rw [List.toList_toArray, List.append_assoc]
    exact rowK_splice hk
  rw [e] at h
  refine ⟨w.setRow g (rowK x n (k + m)).toArray, by rw [h, List.length_replicate]; rfl, setRow_heap w g _ _ 3 (0, 0) hg, fun B w0 hb hB => below_setRow hb hB _⟩

set_option maxRecDepth 100000 in
set_option maxHeartbeats 4000000 in
theorem repeat_any (w : World) (b n : Nat) (x : Int) (h : w.cell? ⟨b, 0, none⟩ = some (.int .i64 x)) (hb : b < w.heap.size) (h1 : 1 ≤ n) (h8 : n ≤ 8000) :
    Calls Try.prog 20 #[.slice (some ⟨b, 0, none⟩) 1 1, .int .i64 n] w fun e w' => ∃ g, e = .returned (.slice (some ⟨g, 0, none⟩) n n) ∧ w.heap.size ≤ g ∧ w'.heap[g]? = some (.cells (List.replicate n (.int .i64 x)).toArray 3 (0, 0)) ∧ Below w.heap.size w w' := by
  have hmk := make_ints n h8 w x
  obtain ⟨w1, hw1⟩ : ∃ w1, w1 = w.alloc (.cells (rowK x n 0).toArray 3) := ⟨_, rfl⟩
  rw [← hw1] at hmk
  have hB1 := (show Below w.heap.size w w1 by rw [hw1]; exact (Below.refl _ _).alloc (Nat.le_refl _) _)
  have hG1 : w1.heap[w.heap.size]? = some (.cells (rowK x n 0).toArray 3 (0, 0)) := (by rw [hw1]; exact blk_new _ _)
  clear hw1
  obtain ⟨w2, hcp, hG2, hB2⟩ := copy_rowK (cap := n) (a := ⟨b, 0, none⟩) (sL := 1) (sC := 1) (m := 1) hG1 (by omega) (by show 1 = min 1 (n - 0); omega) (fun j hj => by
    obtain rfl : j = 0 := by omega
    rw [← h]
    exact hB1.cell (p := ⟨b, 0, none⟩) hb)
  rw [Nat.sub_zero] at hcp
  have HB2 := Lib.hid (hB2 _ _ hB1 (Nat.le_refl _))
  have HG2 := Lib.hid hG2
  clear hB2 hG2 hB1 hG1 h
  go_enter Try.func20, Try.ntmps20
  go_wp2_with (first | (go_at_call 58; refine (mul_one n h8 _).mono ?_; rintro e w' ⟨rfl, hw⟩; rw [hw]))
  go_loopw [8] (fun i wr => ∃ k : Nat, 1 ≤ k ∧ k ≤ n ∧ i = .int .i64 k ∧ Hid (Below w.heap.size w wr) ∧ Hid (wr.heap[w.heap.size]? = some (.cells (rowK x n k).toArray 3 (0, 0)))) (fun i _ => n - (intOf i).toNat)
  case atStart => exact ⟨1, by omega, h1, by go_num, HB2, HG2⟩
  case round =>
    obtain ⟨k, hk1, hkn, rfl, hBr, hGr⟩ := hrel
    by_cases hlt : k < n
    · obtain ⟨m, hm⟩ : ∃ m, m = Nat.min k (n - k) := ⟨_, rfl⟩
      have hm1 : 1 ≤ m := by rw [hm]; show 1 ≤ min k (n - k); omega
      have hm2 : k + m ≤ n := by rw [hm]; show k + min k (n - k) ≤ n; omega
      have hm3 : m ≤ k := by rw [hm]; show min k (n - k) ≤ k; omega
      obtain ⟨w3, hcp3, hG3, hB3⟩ := copy_rowK (w := wr.drew) (g := w.heap.size) (cap := n - k) (a := ⟨w.heap.size, 0, none⟩) (sL := k) (sC := n) (m := m) (show wr.drew.heap[w.heap.size]? = some (.cells (rowK x n k).toArray 3 (0, 0)) from hGr.out) hm2 hm (fun j hj => by
        rw [show (⟨w.heap.size, 0, none⟩ : Addr).add j = ⟨w.heap.size, j, none⟩ by simp [Addr.add]; omega, World.cell?_drew, blk_cell hGr.out]
        rw [List.getElem?_toArray]
        exact rowK_get (by omega))
      have HB3 := Lib.hid (hB3 _ _ hBr.out.drew (Nat.le_refl _))
      have HG3 := Lib.hid hG3
      clear hB3 hG3 hm
      go_wp2
      go_region
      all_goals
        go_wp2
        go_roundw
        case rel => exact ⟨k + m, by omega, hm2, by go_num, HB3, HG3⟩
        case measure => simp [intOf]; omega
    · obtain rfl : k = n := by omega
      go_wp2
      go_returns
      exact ⟨_, rfl, Nat.le_refl _, by rw [hGr.out, rowK_full], hBr.out⟩
end Go.Proofs.Ytjomajfgoaifbaa
