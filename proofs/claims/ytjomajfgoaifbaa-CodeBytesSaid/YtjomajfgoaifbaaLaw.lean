/-
  PROVED HERE: for a law (it returns true, its arguments read as before) what a row asks behind the call follows from this: below the old end of memory nothing has turned. No condition beyond the lemmas' own premises.
-/
import Derived.Test.YtjomajfgoaifbaaRows
import Derived.WalkKit
import Derived.ProofKit
import Derived.WalkSmall
import Derived.OpenShut
namespace Go.Proofs.Ytjomajfgoaifbaa
open Go.ChangeShapes Go.WideShapes Go.ChangeAt Go.RowKit

theorem Try.own : ownKnob Try.prog.godebug = none := by kernel_rfl
theorem Try.laidOut : laidOutB Try.prog = true := by kernel_rfl

theorem trodAll_stays {H : Type} {enc : TypeId × Value → H} {W W' : World} (hb : Below W.heap.size W W') :
    ∀ (ts : List TypeId) (vs : List Value) (ds : List (DataW H)) (ps : List MemPlace), (∀ t ∈ ts, Try.prog.readableRec t = true ∧ t < Try.prog.types.size) →
      DataW.TrodAll enc Try.prog W 0 (fun _ => true) true ts vs ds ps → (∀ x ∈ ps, x.block < W.heap.size) → DataW.TrodAll enc Try.prog W' 0 (fun b => decide (b < W.heap.size)) true ts vs ds ps := by
  intro ts
  induction ts with
  | nil => intro vs ds ps _ h _; obtain ⟨rfl, rfl, rfl⟩ := trodAll_nil h; exact trodAll_mk0
  | cons t ts ih =>
    intro vs ds ps ht h hp
    obtain ⟨v0, vs0, d0, ds0, p0, q0, rfl, rfl, rfl, h0, r0⟩ := trodAll_cons h
    exact trodAll_cons_mk (Below.trod Try.laidOut (ht t (by simp)).1 (ht t (by simp)).2 h0 hb (fun x hx => hp x (by simp [hx])))
      (ih vs0 ds0 q0 (fun u hu => ht u (by simp [hu])) r0 (fun x hx => hp x (by simp [hx])))

theorem post_law {H : Type} {enc : TypeId × Value → H} {f : Func} {s : ChangeSpec} {W W' : World} {args : Array Value} {ds : List (DataW H)} {before : List MemPlace}
    (hs : s.vars = []) (hW : DataW.Whole enc Try.prog f.params.toList s.vars false W args.toList ds [] before)
    (ht : ∀ t ∈ f.params.toList, Try.prog.readableRec t = true ∧ t < Try.prog.types.size) (hf : f.resultTypes = #[4])
    (hfn : s.fn H (ds ++ []) = { results := [.lit (.bool true)], args := ds }) (hb : Below W.heap.size W W') :
    s.post enc Try.prog f false true false false W args (.bool true) W' := by
  have hlt := hW.lt
  have hW0 := hW
  obtain ⟨p, q, hA, hV, hpq, _, _⟩ := hW
  have hV' : DataW.TrodVars enc Try.prog W (fun _ => true) [] [] q := by rw [hs] at hV; exact hV
  obtain ⟨_, rfl⟩ := trodVars_none hV'
  have hp : before = p := by simpa using hpq
  subst hp
  refine ⟨ds, [], before, [], before, [], hW0, ?_, ?_, ?_, hb.frame _, fun h => by cases h⟩
  · rw [hfn, hf]
    exact trodAll_mk1 (shut_bool Try.underlying4 _)
  · rw [hfn]
    exact trodAll_stays hb _ _ _ _ ht hA (fun x hx => by simpa using hlt x hx)
  · rw [hfn, hs]
    rfl
end Go.Proofs.Ytjomajfgoaifbaa
