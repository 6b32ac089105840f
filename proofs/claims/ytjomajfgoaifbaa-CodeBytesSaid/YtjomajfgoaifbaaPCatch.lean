/-
  PROVED HERE: what the program's deferred function does where its reader has given up, and where it has not. No condition beyond the lemmas' own premises.
-/
import Derived.Test.YtjomajfgoaifbaaPList
import Derived.Recover
import Derived.RegionTactic
import Derived.BigRegion
namespace Go.Proofs.Ytjomajfgoaifbaa
open Go.RowKit

theorem catch_mem {cb eb : Nat} {v0 v1 v2 ve : Value} {w : World} (hcb : w.heap[cb]? = some (.cells #[v0, v1, v2] 30 (0, 0))) (heb : w.heap[eb]? = some (.cells #[ve] 22 (0, 0))) (c : Int) (o : Obj) :
    (((((w.setCell ⟨cb, 0, none⟩ (.slice none 0 0)).setCell ⟨cb, 1, none⟩ (.slice none 0 0)).setCell ⟨cb, 2, none⟩ (.slice none 0 0)).setCell ⟨eb, 0, none⟩ (.int .i64 c)).alloc o).drew.heap[cb]? = some (.cells #[.slice none 0 0, .slice none 0 0, .slice none 0 0] 30 (0, 0)) ∧
    (((((w.setCell ⟨cb, 0, none⟩ (.slice none 0 0)).setCell ⟨cb, 1, none⟩ (.slice none 0 0)).setCell ⟨cb, 2, none⟩ (.slice none 0 0)).setCell ⟨eb, 0, none⟩ (.int .i64 c)).alloc o).drew.heap[eb]? = some (.cells #[.int .i64 c] 22 (0, 0)) := by
  have hne : cb ≠ eb := by
    rintro rfl
    rw [hcb] at heb
    cases heb
  have a1 := blk_set hcb 0 (.slice none 0 0)
  have a2 := blk_set a1 1 (.slice none 0 0)
  have a3 := blk_set a2 2 (.slice none 0 0)
  have a4 := blk_alloc (blk_set_other (p := eb) a3 hne 0 (.int .i64 c)) o
  have b1 := blk_set_other (p := cb) heb hne.symm 0 (.slice none 0 0)
  have b2 := blk_set_other (p := cb) b1 hne.symm 1 (.slice none 0 0)
  have b3 := blk_set_other (p := cb) b2 hne.symm 2 (.slice none 0 0)
  have b4 := blk_alloc (blk_set b3 0 (.int .i64 c)) o
  exact ⟨a4, b4⟩

set_option maxRecDepth 100000 in
set_option maxHeartbeats 1000000 in
theorem pcatch (cb eb : Nat) (v0 v1 v2 ve : Value) (c : Int) (w : World) (hcb : w.heap[cb]? = some (.cells #[v0, v1, v2] 30 (0, 0))) (heb : w.heap[eb]? = some (.cells #[ve] 22 (0, 0))) :
    CallsD Try.prog 26 #[.pointer (some ⟨cb, 0, none⟩), .pointer (some ⟨eb, 0, none⟩)] (.panicking [{ v := .iface 71 (.agg #[.int .i64 c]), recovered := false }]) w fun e u' w' =>
      e = .returned (.tuple #[]) ∧ u' = .panicking [{ v := .iface 71 (.agg #[.int .i64 c]), recovered := true }] ∧ w'.heap[cb]? = some (.cells #[.slice none 0 0, .slice none 0 0, .slice none 0 0] 30 (0, 0)) ∧ w'.heap[eb]? = some (.cells #[.int .i64 c] 22 (0, 0)) ∧ ∀ B, B ≤ cb → B ≤ eb → Below B w w' := by
  have c0 := blk_cell hcb 0
  have c1 := blk_cell hcb 1
  have c2 := blk_cell hcb 2
  have ce := blk_cell heb 0
  have f0 := blk_free hcb 0
  have f1 := blk_free hcb 1
  have f2 := blk_free hcb 2
  have fe := blk_free heb 0
  have hl := blk_lt hcb
  have hl2 := blk_lt heb
  have hne : cb ≠ eb := by
    rintro rfl
    rw [hcb] at heb
    cases heb
  simp only [List.getElem?_toArray, List.getElem?_cons_zero, List.getElem?_cons_succ] at c0 c1 c2 ce
  have Hcb := Lib.hid hcb
  have Heb := Lib.hid heb
  clear hcb heb
  refine callsD_of_wpS Try.func26 rfl fun c₀ cs hu => ?_
  apply wpS_seq
  apply wpS_region
  simp [wpOpsS, go_sem, recoverD, hu, Try.ntmps26, Exit.thenS]
  refine wpS_of_wp ?_
  clear hu
  have hta : ∀ w, (Instr.typeAssert (.iface 71 (.agg #[.int .i64 c])) 20 71 true).run Try.prog w = .ok (.tuple #[.agg #[.int .i64 c], .bool true]) w := fun w => by kernel_rfl
  have e : (#[Value.pointer (some ⟨cb, 0, none⟩), Value.pointer (some ⟨eb, 0, none⟩)] ++ (Array.replicate 12 undef).setIfInBounds 3 (Value.iface 71 (Value.agg #[Value.int IntKind.i64 c])) : Array Value) = #[.pointer (some ⟨cb, 0, none⟩), .pointer (some ⟨eb, 0, none⟩), undef, undef, undef, .iface 71 (.agg #[.int .i64 c]), undef, undef, undef, undef, undef, undef, undef, undef] := rfl
  rw [e]
  clear e
  go_wp2
  go_region
  all_goals
    go_wp2
    obtain ⟨m1, m2⟩ := catch_mem Hcb.out Heb.out c (.cells #[.int .i64 c] 71)
    refine ⟨rfl, _, rfl, .tuple #[], by simp [results, Try.results26, go_sem], rfl, rfl, m1, m2, fun B h1 h2 => ?_⟩
    exact ((((((Below.refl B w).setCell (p := ⟨cb, 0, none⟩) h1 _).setCell (p := ⟨cb, 1, none⟩) h1 _).setCell (p := ⟨cb, 2, none⟩) h1 _).setCell (p := ⟨eb, 0, none⟩) h2 _).alloc (by simp; omega) _).drew
set_option maxRecDepth 100000 in
set_option maxHeartbeats 1000000 in
theorem pcatch_idle (cb eb : Nat) (w : World) :
    CallsD Try.prog 26 #[.pointer (some ⟨cb, 0, none⟩), .pointer (some ⟨eb, 0, none⟩)] .returning w fun e u' w' => e = .returned (.tuple #[]) ∧ u' = .returning ∧ w' = w := by
  refine callsD_of_wpS Try.func26 rfl fun c₀ cs hu => ?_
  apply wpS_seq
  apply wpS_region
  simp [wpOpsS, go_sem, recoverD, hu, Try.ntmps26, Exit.thenS]
  refine wpS_of_wp ?_
  have e : (#[Value.pointer (some ⟨cb, 0, none⟩), Value.pointer (some ⟨eb, 0, none⟩)] ++ (Array.replicate 12 undef).setIfInBounds 3 Value.nilIface : Array Value) = #[.pointer (some ⟨cb, 0, none⟩), .pointer (some ⟨eb, 0, none⟩), undef, undef, undef, .nilIface, undef, undef, undef, undef, undef, undef, undef, undef] := rfl
  rw [e]
  clear e
  go_wp2
  refine ⟨rfl, .returning, ?_, .tuple #[], by simp [results, Try.results26, go_sem], rfl, rfl, rfl⟩
  cases c₀
  simp_all
end Go.Proofs.Ytjomajfgoaifbaa
