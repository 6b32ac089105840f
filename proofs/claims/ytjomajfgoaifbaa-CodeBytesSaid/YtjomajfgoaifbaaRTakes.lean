/-
  PROVED HERE: what the reference's Takes, within and ranges answer. No condition beyond the lemmas' own premises.
-/
import Derived.Test.YtjomajfgoaifbaaMem
import Derived.Test.YtjomajfgoaifbaaRows
import Derived.LoopTactic
import Derived.Outline
import Derived.Deep.QuietTactic
import Derived.BigQuiet
import Derived.Lib.Hide
import Derived.WalkSpells
import Derived.WalkLawsBesides
import Derived.IntWalk
import Derived.Handy
import Derived.Deep.Light
namespace Go.Proofs.Ytjomajfgoaifbaa
open Go.RowKit

def takesV (d a b : Int) : Value := .tuple #[.int .i64 (Cd.takesPuts ⟨d, a, b⟩).1, .int .i64 (Cd.takesPuts ⟨d, a, b⟩).2]

set_option maxRecDepth 100000 in
set_option maxHeartbeats 1000000 in
theorem takes_any (d a b : Int) (w : World) (ha : d = 19 ∨ d = 27 → 0 ≤ a ∧ a ≤ 1200) :
    Calls Try.prog 83 #[.agg #[.int .i64 d, .int .i64 a, .int .i64 b]] w fun e w' => e = .returned (takesV d a b) ∧ Below w.heap.size w w' := by
  by_cases h1 : d = 19
  · obtain ⟨a1, a2⟩ := ha (Or.inl h1)
    clear ha
    subst h1
    go_enter Try.func83, Try.ntmps83
    go_wp2
    go_returns
    exact ⟨by simp [takesV, Cd.takesPuts], by go_grown⟩
  by_cases h2 : d = 27
  · obtain ⟨a1, a2⟩ := ha (Or.inr h2)
    clear ha
    subst h2
    go_enter Try.func83, Try.ntmps83
    go_wp2
    go_returns
    exact ⟨by simp [takesV, Cd.takesPuts], by go_grown⟩
  clear ha
  go_enter Try.func83, Try.ntmps83
  go_wp2
  all_goals
    go_returns
    refine ⟨?_, by go_grown⟩
    go_light
    simp_all [takesV, Cd.takesPuts]

theorem within_any (x lo hi : Int) (w : World) : Calls Try.prog 23 #[.int .i64 x, .int .i64 lo, .int .i64 hi] w fun e w' => e = .returned (.bool (Cd.inB lo hi x)) ∧ w = w' := by
  by_cases h1 : lo ≤ x
  · by_cases h2 : x ≤ hi
    · go_enter Try.func23, Try.ntmps23
      go_wp2
      go_ret
      exact ⟨by simp [Cd.inB, h1, h2], rfl⟩
    · go_enter Try.func23, Try.ntmps23
      go_wp2
      go_ret
      exact ⟨by simp [Cd.inB, h1, h2], rfl⟩
  · go_enter Try.func23, Try.ntmps23
    go_wp2
    go_ret
    exact ⟨by simp [Cd.inB]; omega, rfl⟩

set_option maxRecDepth 100000 in
set_option maxHeartbeats 4000000 in
theorem ranges_any (ao af ak : Option Addr) (no nf nk co cf ck : Nat) (d a b : Int) (w : World) (hno : no ≤ 8000) (hnf : nf ≤ 1200) (hnk : nk ≤ 1200) :
    Calls Try.prog 24 #[.agg #[.slice ao no co, .slice af nf cf, .slice ak nk ck], .agg #[.int .i64 d, .int .i64 a, .int .i64 b]] w fun e w' => e = .returned (.bool (Cd.rangeB no nf nk ⟨d, a, b⟩)) ∧ Below w.heap.size w w' := by
  go_enter Try.func24, Try.ntmps24
  go_wp2_with (go_at_call 23; refine (within_any _ _ _ _).mono ?_; rintro e w' ⟨rfl, rfl⟩)
  all_goals
    go_returns
    refine ⟨?_, by go_grown⟩
    go_light
    simp_all [Cd.rangeB]
end Go.Proofs.Ytjomajfgoaifbaa
