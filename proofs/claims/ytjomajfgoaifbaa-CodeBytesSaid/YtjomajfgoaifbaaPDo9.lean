/-
  PROVED HERE: what the program's checker.do does to a checker's memory, and what it answers, whatever the order is. No condition beyond the lemmas' own premises.
-/
import Derived.Test.YtjomajfgoaifbaaPDo2
import Derived.Test.YtjomajfgoaifbaaPDo3
import Derived.Test.YtjomajfgoaifbaaPDo4
import Derived.Test.YtjomajfgoaifbaaPDo5
import Derived.Test.YtjomajfgoaifbaaPDo6
import Derived.Test.YtjomajfgoaifbaaPDo7
import Derived.Test.YtjomajfgoaifbaaPDo8
namespace Go.Proofs.Ytjomajfgoaifbaa
open Go.RowKit

theorem pdo_any (B N r p : Nat) (w : World) (vo vf vk : Value) (C : Cd.GCode) (D W : List Int) (at_ : Nat) (f0 f1 f2 : Int) (f3 : Value) (hx : DoCtx B N r p w vo vf vk C D W at_) :
    Calls Try.prog 22 #[.pointer (some ⟨p, 0, none⟩), .agg #[.int .i64 f0, .int .i64 f1, .int .i64 f2, f3], .int .i64 at_] w (DoPost B N r p vo vf vk (Cd.stepF C f1 at_ (Cd.dAt D at_)) D W w) := by
  by_cases h1 : (Cd.opAt C at_).d = 29 ∨ (Cd.opAt C at_).d = 30
  · exact pdo_case B N r p w vo vf vk C D W at_ f0 f1 f2 f3 hx h1
  have h29 : (Cd.opAt C at_).d ≠ 29 := fun h => h1 (Or.inl h)
  have h30 : (Cd.opAt C at_).d ≠ 30 := fun h => h1 (Or.inr h)
  by_cases h28 : (Cd.opAt C at_).d = 28
  · exact pdo_select B N r p w vo vf vk C D W at_ f0 f1 f2 f3 hx h28
  by_cases hg : (Cd.opAt C at_).d = 19 ∨ (Cd.opAt C at_).d = 27
  · by_cases hfew : Cd.dAt D at_ < (Cd.takesPuts (Cd.opAt C at_)).1
    · exact pdo_growfew B N r p w vo vf vk C D W at_ f0 f1 f2 f3 hx h29 h30 h28 hg hfew
    · exact pdo_grow B N r p w vo vf vk C D W at_ f0 f1 f2 f3 hx h29 h30 h28 hg hfew
  by_cases hl : (Cd.opAt C at_).d = 2 ∨ (Cd.opAt C at_).d = 3 ∨ (Cd.opAt C at_).d = 4
  · by_cases hfew : Cd.dAt D at_ < (Cd.takesPuts (Cd.opAt C at_)).1
    · exact pdo_slotfew B N r p w vo vf vk C D W at_ f0 f1 f2 f3 hx h29 h30 h28 hl hfew
    · by_cases hs : f1 ≤ (Cd.opAt C at_).a
      · exact pdo_slotbad B N r p w vo vf vk C D W at_ f0 f1 f2 f3 hx h29 h30 h28 hl hfew hs
      · exact pdo_slot B N r p w vo vf vk C D W at_ f0 f1 f2 f3 hx h29 h30 h28 hl hfew hs
  by_cases hm : (Cd.opAt C at_).d = 5
  · by_cases hfew : Cd.dAt D at_ < (Cd.takesPuts (Cd.opAt C at_)).1
    · exact pdo_makefew B N r p w vo vf vk C D W at_ f0 f1 f2 f3 hx h29 h30 h28 hm hfew
    · cases hs : (Cd.fnAt C (Cd.opAt C at_).a.toNat).takes.any (fun x => decide (f1 ≤ x)) with
      | true => exact pdo_makebad B N r p w vo vf vk C D W at_ f0 f1 f2 f3 hx h29 h30 h28 hm hfew hs
      | false => exact pdo_make B N r p w vo vf vk C D W at_ f0 f1 f2 f3 hx h29 h30 h28 hm hfew hs
  by_cases hfew : Cd.dAt D at_ < (Cd.takesPuts (Cd.opAt C at_)).1
  · exact pdo_few B N r p w vo vf vk C D W at_ f0 f1 f2 f3 hx h29 h30 h28 hg hl hm hfew
  by_cases h4 : (Cd.opAt C at_).d = 20 ∨ (Cd.opAt C at_).d = 22
  · exact pdo_end B N r p w vo vf vk C D W at_ f0 f1 f2 f3 hx h29 h30 h28 h4 hfew
  by_cases h16 : (Cd.opAt C at_).d = 16
  · exact pdo_jump B N r p w vo vf vk C D W at_ f0 f1 f2 f3 hx h29 h30 h28 h16 hfew
  by_cases h17 : (Cd.opAt C at_).d = 17
  · exact pdo_unless B N r p w vo vf vk C D W at_ f0 f1 f2 f3 hx h29 h30 h28 h17 hfew
  by_cases h18 : (Cd.opAt C at_).d = 18
  · exact pdo_short B N r p w vo vf vk C D W at_ f0 f1 f2 f3 hx h29 h30 h28 h18 hfew
  exact pdo_next B N r p w vo vf vk C D W at_ f0 f1 f2 f3 hx h29 h30 h28 hl hm (fun h => h4 (Or.inl h)) (fun h => h4 (Or.inr h)) h16 h17 h18 hg hfew
end Go.Proofs.Ytjomajfgoaifbaa
