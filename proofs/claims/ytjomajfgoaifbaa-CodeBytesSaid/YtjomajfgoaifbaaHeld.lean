/-
  PROVED HERE: a region that draws its order, whose operations only read and whose callees make memory but turn nothing that was there, walked once in the order of the text: a class of worlds in the place of one. No condition beyond the lemmas' own premises.
-/
import Derived.Test.YtjomajfgoaifbaaMem
import Derived.Deep.QuietTactic
import Derived.BigQuiet
namespace Go.Proofs.Ytjomajfgoaifbaa
open Go.RowKit

/-- A world of the class S. -/
structure Held (S : World → Prop) where
  val : World
  prop : S val

theorem wp_region_held {P : Program} {id : Nat} {Q : Exit → Act → World → Prop} {a : Act} {w : World} {l : List Oper} (S : World → Prop) (hS : S w.drew) (hm : P.follows .mixedOrders = true) (hB : Region.lexB .any l.toArray = true)
    (h : wpQuiet P l.toArray (fun w' => ∃ x : Held S, w' = x.val) (fun a' => ∀ w', (∃ x : Held S, w' = x.val) → Q .normal a' w') l a) : (Code.region id l.toArray true).wp P Q a w :=
  wp_region_quiet (C := fun w' => ∃ x : Held S, w' = x.val) hm hB ⟨⟨w.drew, hS⟩, rfl⟩ (by simpa using h)

/-- Below what there was nothing has turned. -/
def Above (w : World) : World → Prop := fun w' => Below w.heap.size w w'

instance heldNonempty (w : World) : Nonempty (Held (Above w)) := ⟨⟨w, Below.refl _ _⟩⟩

theorem held_call {P : Program} {f : FuncId} {args : Array Value} {w : World} {v : Value} {x : Held (Above w)} (h : Calls P f args x.val fun e w' => e = .returned v ∧ Below x.val.heap.size x.val w') :
    Calls P f args x.val fun e w'' => e = .returned v ∧ ∃ y : Held (Above w), w'' = y.val :=
  h.mono fun _ w' ⟨he, hb⟩ => ⟨he, ⟨w', Below.trans x.prop (hb.mono x.prop.size)⟩, rfl⟩

theorem held_cell {w : World} {b o : Nat} {v : Option Value} (h : w.cell? ⟨b, o, none⟩ = v) (hb : b < w.heap.size) (x : Held (Above w)) : x.val.cell? ⟨b, o, none⟩ = v := (Below.cell x.prop (p := ⟨b, o, none⟩) hb).trans h
theorem held_below {w : World} (x : Held (Above w)) : Below w.heap.size w x.val := x.prop
end Go.Proofs.Ytjomajfgoaifbaa
