/-
  PROVED HERE: what the program's small tests of numbers answer, and what its table of shapes tells of an order. No condition beyond the lemmas' own premises.
-/
import Derived.Test.YtjomajfgoaifbaaShapes
import Derived.Deep.Light
namespace Go.Proofs.Ytjomajfgoaifbaa
open Go.RowKit

/-- The table lies in block r; behind it what its two closures hold. -/
def TabAt (r : Nat) (w : World) : Prop := w.heap[r]? = some (.map (shapeL r).toArray 30) ∧ w.heap[r + 1]? = some (.cells #[.int .i64 8] 3 (0, 0)) ∧ w.heap[r + 1 + 1]? = some (.cells #[.int .i64 10] 3 (0, 0))

theorem TabAt.below {r N : Nat} {w w' : World} (h : TabAt r w) (hb : Below N w w') (hN : r + 2 < N) : TabAt r w' :=
  ⟨blk_below h.1 hb (by omega), blk_below h.2.1 hb (by omega), blk_below h.2.2 hb (by omega)⟩
theorem TabAt.lt {r : Nat} {w : World} (h : TabAt r w) : r + 2 < w.heap.size := blk_lt h.2.2
theorem TabAt.grow {r : Nat} {w w' : World} (h : TabAt r w) (hb : Below w.heap.size w w') : TabAt r w' := h.below hb h.lt
theorem tab_of_fill {r : Nat} {w0 w : World} (h : FillN r w0 30 [8, 10] w) : TabAt r w := by
  obtain ⟨h1, h2, h3, h4⟩ := h
  exact ⟨h1, h4 0 8 rfl, h4 1 10 rfl⟩

/-- A test of a number: a function value (number i, with what it has captured) that tells p of its number. -/
def PredV (r no nf nk : Nat) (i : FuncId) (cs : Array Value) (p : Int → Bool) : Prop :=
  (∀ args w, (callFunc i args).run Try.prog w = .ok (.enter i args) w) ∧
  ∀ (ao af ak : Option Addr) (co cf ck : Nat) (x : Int) (w : World), TabAt r w → Calls Try.prog i (#[.agg #[.slice ao no co, .slice af nf cf, .slice ak nk ck], .int .i64 x] ++ cs) w fun e w' => e = .returned (.bool (p x)) ∧ Below w.heap.size w w'

theorem any_v (r no nf nk : Nat) : PredV r no nf nk 45 #[] (fun _ => true) := by
  refine ⟨fun _ _ => by kernel_rfl, fun ao af ak co cf ck x w _ => ?_⟩
  rw [Array.append_empty]
  go_enter Try.func45, Try.ntmps45
  go_wp2
  go_returns
  exact ⟨rfl, by go_grown⟩

theorem nought_v (r no nf nk : Nat) : PredV r no nf nk 46 #[] (fun x => x == 0) := by
  refine ⟨fun _ _ => by kernel_rfl, fun ao af ak co cf ck x w _ => ?_⟩
  rw [Array.append_empty]
  go_enter Try.func46, Try.ntmps46
  go_wp2
  go_returns
  exact ⟨rfl, by go_grown⟩

theorem some_v (r no nf nk : Nat) : PredV r no nf nk 47 #[] (Cd.inB 0 1200) := by
  refine ⟨fun _ _ => by kernel_rfl, fun ao af ak co cf ck x w _ => ?_⟩
  rw [Array.append_empty]
  by_cases h1 : 0 ≤ x
  · by_cases h2 : x ≤ 1200
    · go_enter Try.func47, Try.ntmps47
      go_wp2
      go_returns
      exact ⟨by simp [Cd.inB, h1, h2], by go_grown⟩
    · go_enter Try.func47, Try.ntmps47
      go_wp2
      go_returns
      exact ⟨by simp [Cd.inB, h1, h2], by go_grown⟩
  · go_enter Try.func47, Try.ntmps47
    go_wp2
    go_returns
    exact ⟨by simp [Cd.inB]; omega, by go_grown⟩

theorem function_v (r no nf nk : Nat) : PredV r no nf nk 48 #[] (Cd.inB 0 (nf - 1)) := by
  refine ⟨fun _ _ => by kernel_rfl, fun ao af ak co cf ck x w _ => ?_⟩
  rw [Array.append_empty]
  by_cases h1 : 0 ≤ x
  · by_cases h2 : x < nf
    · go_enter Try.func48, Try.ntmps48
      go_wp2
      go_returns
      exact ⟨by simp [Cd.inB, h1]; omega, by go_grown⟩
    · go_enter Try.func48, Try.ntmps48
      go_wp2
      go_returns
      exact ⟨by simp [Cd.inB, h1]; omega, by go_grown⟩
  · go_enter Try.func48, Try.ntmps48
    go_wp2
    go_returns
    exact ⟨by simp [Cd.inB]; omega, by go_grown⟩

theorem kind_v (r no nf nk : Nat) : PredV r no nf nk 49 #[] (Cd.inB 0 (nk - 1)) := by
  refine ⟨fun _ _ => by kernel_rfl, fun ao af ak co cf ck x w _ => ?_⟩
  rw [Array.append_empty]
  by_cases h1 : 0 ≤ x
  · by_cases h2 : x < nk
    · go_enter Try.func49, Try.ntmps49
      go_wp2
      go_returns
      exact ⟨by simp [Cd.inB, h1]; omega, by go_grown⟩
    · go_enter Try.func49, Try.ntmps49
      go_wp2
      go_returns
      exact ⟨by simp [Cd.inB, h1]; omega, by go_grown⟩
  · go_enter Try.func49, Try.ntmps49
    go_wp2
    go_returns
    exact ⟨by simp [Cd.inB]; omega, by go_grown⟩

theorem order_v (r no nf nk : Nat) : PredV r no nf nk 51 #[] (Cd.inB 0 (no - 1)) := by
  refine ⟨fun _ _ => by kernel_rfl, fun ao af ak co cf ck x w _ => ?_⟩
  rw [Array.append_empty]
  by_cases h1 : 0 ≤ x
  · by_cases h2 : x < no
    · go_enter Try.func51, Try.ntmps51
      go_wp2
      go_returns
      exact ⟨by simp [Cd.inB, h1]; omega, by go_grown⟩
    · go_enter Try.func51, Try.ntmps51
      go_wp2
      go_returns
      exact ⟨by simp [Cd.inB, h1]; omega, by go_grown⟩
  · go_enter Try.func51, Try.ntmps51
    go_wp2
    go_returns
    exact ⟨by simp [Cd.inB]; omega, by go_grown⟩

theorem bit_v (r no nf nk : Nat) : PredV r no nf nk 52 #[] (Cd.inB 0 1) := by
  refine ⟨fun _ _ => by kernel_rfl, fun ao af ak co cf ck x w _ => ?_⟩
  rw [Array.append_empty]
  by_cases h1 : x = 0
  · subst h1
    go_enter Try.func52, Try.ntmps52
    go_wp2
    go_returns
    exact ⟨by simp [Cd.inB], by go_grown⟩
  · have b1 : (x == 0) = false := by simpa using h1
    by_cases h2 : x = 1
    · subst h2
      go_enter Try.func52, Try.ntmps52
      go_wp2
      go_returns
      exact ⟨by simp [Cd.inB], by go_grown⟩
    · have b2 : (x == 1) = false := by simpa using h2
      go_enter Try.func52, Try.ntmps52
      go_wp2
      go_returns
      exact ⟨by simp [Cd.inB]; omega, by go_grown⟩

theorem upTo_v (r no nf nk q : Nat) (m : Int) (hq : ∀ w, TabAt r w → w.heap[q]? = some (.cells #[.int .i64 m] 3 (0, 0))) : PredV r no nf nk 77 #[.pointer (some ⟨q, 0, none⟩)] (Cd.inB 0 m) := by
  refine ⟨fun _ _ => by kernel_rfl, fun ao af ak co cf ck x w hT => ?_⟩
  have hb := hq w hT
  have c0 := cell_of_one hb
  have hl := blk_lt hb
  have Hb := Lib.hid hb
  have HT := Lib.hid hT
  clear hb hT hq
  show Calls Try.prog 77 #[.agg #[.slice ao no co, .slice af nf cf, .slice ak nk ck], .int .i64 x, .pointer (some ⟨q, 0, none⟩)] w _
  by_cases h1 : 0 ≤ x
  · by_cases h2 : x ≤ m
    · go_enter Try.func77, Try.ntmps77
      go_wp2
      go_returns
      exact ⟨by simp [Cd.inB, h1, h2], by go_grown⟩
    · go_enter Try.func77, Try.ntmps77
      go_wp2
      go_returns
      exact ⟨by simp [Cd.inB, h1, h2], by go_grown⟩
  · go_enter Try.func77, Try.ntmps77
    go_wp2
    go_returns
    exact ⟨by simp [Cd.inB]; omega, by go_grown⟩

/-- What the table tells of an order of number k. -/
structure ShapeIs (r no nf nk : Nat) (k : Int) (i j : FuncId) (ci cj : Array Value) (tk pt : Int) (p q : Int → Bool) : Prop where
  found : ∃ n, Instr.findNow (.int .i64) (.int .i64 k) (shapeL r) 0 = some (some (n, .agg #[.func (.func i) #[] ci, .func (.func j) #[] cj, .int .i64 tk, .int .i64 pt]))
  a : PredV r no nf nk i ci p
  b : PredV r no nf nk j cj q
  both : ∀ x y, Cd.rangeB no nf nk ⟨k, x, y⟩ = (p x && q y)
  takes : ∀ x y, k ≠ 28 → k ≠ 29 → k ≠ 30 → Cd.takesPuts ⟨k, x, y⟩ = (tk + (if k = 19 ∨ k = 27 then x else 0), pt)
  small : 0 ≤ tk ∧ tk ≤ 2 ∧ 0 ≤ pt ∧ pt ≤ 1
end Go.Proofs.Ytjomajfgoaifbaa
