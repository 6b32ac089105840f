/-
  PROVED HERE: the reference's Check answers as chapter 16 says. No condition beyond the lemmas' own premises.
-/
import Derived.Test.YtjomajfgoaifbaaRForm
namespace Go.Proofs.Ytjomajfgoaifbaa
open Go.RowKit

theorem within_same (x lo hi : Int) (w : World) : Calls Try.prog 23 #[.int .i64 x, .int .i64 lo, .int .i64 hi] w fun e w' => e = .returned (.bool (Cd.inB lo hi x)) ∧ w' = w :=
  (within_any x lo hi w).mono fun _ _ ⟨h1, h2⟩ => ⟨h1, h2.symm⟩

theorem all_take_succ {α : Type} {l : List α} {P : α → Bool} {k : Nat} (hk : k < l.length) : (l.take (k + 1)).all P = ((l.take k).all P && P l[k]) := by
  rw [List.take_succ_eq_append_getElem hk, List.all_append]
  simp
theorem all_false {α : Type} {l : List α} {P : α → Bool} {k : Nat} (hk : k < l.length) (h : P l[k] = false) : l.all P = false := by
  rw [List.all_eq_false]
  exact ⟨l[k], List.getElem_mem hk, by simp [h]⟩

theorem iAt_get {l : List Int} {j : Nat} (hj : j < l.length) : iAt l j = l[j] := by simp [iAt, List.getElem?_eq_getElem hj]
theorem all_iAt {l : List Int} {P : Int → Bool} {j : Nat} (hj : j < l.length) (h : (l.take j).all P = true) (hp : P (iAt l j) = true) : (l.take (j + 1)).all P = true := by
  rw [all_take_succ hj, h, ← iAt_get hj, hp]; rfl
theorem all_iAt_false {l : List Int} {P : Int → Bool} {j : Nat} (hj : j < l.length) (hp : P (iAt l j) = false) : l.all P = false := all_false hj (by rw [← iAt_get hj]; exact hp)

theorem drop_all_iAt {l : List Int} {P : Int → Bool} {j : Nat} (hj : j < l.length) (hj0 : 0 < j) (h : ((l.take j).drop 1).all P = true) (hp : P (iAt l j) = true) : ((l.take (j + 1)).drop 1).all P = true := by
  rw [List.take_succ_eq_append_getElem hj, List.drop_append_of_le_length (by simp; omega), List.all_append, h, ← iAt_get hj]
  simp [hp]
theorem drop_all_false {l : List Int} {P : Int → Bool} {j : Nat} (hj : j < l.length) (hj0 : 0 < j) (hp : P (iAt l j) = false) : (l.drop 1).all P = false := by
  rw [List.all_eq_false]
  refine ⟨iAt l j, ?_, by simp [hp]⟩
  rw [iAt_get hj, List.mem_iff_getElem]
  exact ⟨j - 1, by simp; omega, by simp; congr 1; omega⟩
theorem kindOK_no1 {nf : Nat} {l : List Int} (h : ¬ (1 ≤ l.length ∧ l.length ≤ 1200)) : Cd.kindOK nf l = false := by
  unfold Cd.kindOK; rw [decide_eq_false h]; rfl
theorem kindOK_no2 {nf : Nat} {l : List Int} (h : Cd.inB 0 1200 (iAt l 0) = false) : Cd.kindOK nf l = false := by
  unfold Cd.kindOK; unfold iAt at h; rw [h]; simp
theorem kindOK_no3 {nf : Nat} {l : List Int} (h : (l.drop 1).all (Cd.inB (-1) (nf - 1)) = false) : Cd.kindOK nf l = false := by
  unfold Cd.kindOK; rw [h]; simp
theorem kindOK_yes {nf : Nat} {l : List Int} (h : 1 ≤ l.length ∧ l.length ≤ 1200) (h2 : Cd.inB 0 1200 (iAt l 0) = true) (h3 : (l.drop 1).all (Cd.inB (-1) (nf - 1)) = true) : Cd.kindOK nf l = true := by
  unfold Cd.kindOK; unfold iAt at h2; rw [h2, h3, decide_eq_true h]; rfl
theorem KindsV.at {B : Nat} {w : World} {v : Value} {l : List (List Int)} {i : Nat} (h : KindsV B w v l) (hi : i < l.length) : ∃ kb ko ck u, v = .slice (some ⟨kb, ko, none⟩) l.length ck ∧ kb < B ∧ w.cell? ⟨kb, ko + i, none⟩ = some u ∧ IntsV B w u (l.getD i []) := by
  obtain ⟨a, kb, ko, ck, rfl, h1, h2, h3, hc⟩ := h
  obtain ⟨rfl, hB⟩ := h3 (by omega)
  obtain ⟨u, c4, c5⟩ := hc i hi
  exact ⟨kb, ko, ck, u, rfl, hB, c4, c5⟩

theorem check_fns {C : Cd.GCode} (h : Cd.sizeBad C = false) (h1 : C.fns.all (Cd.fnOK C.ops.length) = false) : Cd.check C = 11 := by
  unfold Cd.check Cd.okAll; rw [h, h1]; simp
theorem check_kinds {C : Cd.GCode} (h : Cd.sizeBad C = false) (h1 : C.kinds.all (Cd.kindOK C.fns.length) = false) : Cd.check C = 11 := by
  unfold Cd.check Cd.okAll; rw [h, h1]; simp
theorem check_ops {C : Cd.GCode} (h : Cd.sizeBad C = false) (h1 : C.ops.all (Cd.rangeB C.ops.length C.fns.length C.kinds.length) = false) : Cd.check C = 11 := by
  unfold Cd.check Cd.okAll; rw [h, h1]; simp
theorem check_forms {C : Cd.GCode} (h : Cd.sizeBad C = false) (h1 : C.fns.all (Cd.fnOK C.ops.length) = true) (h2 : C.kinds.all (Cd.kindOK C.fns.length) = true) (h3 : C.ops.all (Cd.rangeB C.ops.length C.fns.length C.kinds.length) = true) : Cd.check C = if C.fns.all (Cd.formOK C) then 0 else 12 := by
  unfold Cd.check Cd.okAll; rw [h, h1, h2, h3]; simp

theorem fnOK_parts {no : Nat} {f : Cd.GFn} : Cd.fnOK no f = (Cd.inB 0 1200 f.slots && Cd.inB 0 f.slots f.params && Cd.inB 0 (no - 1) f.start && decide ((f.takes.length : Int) ≤ f.slots - f.params) && f.takes.all (Cd.inB 0 1200)) := rfl

set_option maxRecDepth 100000 in
set_option maxHeartbeats 4000000 in
theorem rcheck_size (B : Nat) (w : World) (vo vf vk : Value) (C : Cd.GCode) (hC : CodeV B w vo vf vk C) (hs : Cd.sizeBad C = true) :
    Calls Try.prog 9 #[.agg #[vo, vf, vk]] w fun e w' => e = .returned (.int .i64 (Cd.check C)) ∧ Below w.heap.size w w' := by
  have HC := Lib.hid hC
  obtain ⟨_, ao, bo, oo, co, rfl, _, _, ho, _⟩ := hC.ops
  obtain ⟨_, af, bf, of_, cf, rfl, _, _, hf, _⟩ := hC.fns
  obtain ⟨ak, bk, ok, ck, rfl, _, _, hk, _⟩ := hC.kinds
  clear hC ho hf hk
  by_cases s1 : 8000 < C.ops.length
  · have e1 : Hid (Cd.check C = 1) := Lib.hid (by unfold Cd.check Cd.sizeBad; simp [s1])
    go_enter Try.func9, Try.ntmps9
    go_wp2
    go_returns
    rw [e1.out]
    exact ⟨rfl, by go_grown⟩
  by_cases s2 : 1200 < C.fns.length
  · have e1 : Hid (Cd.check C = 1) := Lib.hid (by unfold Cd.check Cd.sizeBad; simp [s2])
    go_enter Try.func9, Try.ntmps9
    go_wp2
    go_returns
    rw [e1.out]
    exact ⟨rfl, by go_grown⟩
  by_cases s3 : 1200 < C.kinds.length
  · have e1 : Hid (Cd.check C = 1) := Lib.hid (by unfold Cd.check Cd.sizeBad; simp [s3])
    go_enter Try.func9, Try.ntmps9
    go_wp2
    go_returns
    rw [e1.out]
    exact ⟨rfl, by go_grown⟩
  by_cases s4 : C.fns.length = 0
  · have e1 : Hid (Cd.check C = 1) := Lib.hid (by unfold Cd.check Cd.sizeBad; simp [s4])
    rw [s4]
    go_enter Try.func9, Try.ntmps9
    go_wp2
    go_returns
    rw [e1.out]
    exact ⟨rfl, by go_grown⟩
  exfalso
  unfold Cd.sizeBad at hs
  have := of_decide_eq_true hs
  omega
end Go.Proofs.Ytjomajfgoaifbaa
