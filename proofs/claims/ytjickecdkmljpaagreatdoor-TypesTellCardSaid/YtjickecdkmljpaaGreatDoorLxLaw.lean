/-
  PROVED HERE: what the rows' listed tables give the walks of lex; and for a law (it returns true, its arguments read as before) what a row asks behind the call follows from this: below the old end of memory nothing has turned. No condition beyond the lemmas' own premises.
-/
import Derived.Test.YtjickecdkmljpaaGreatDoorLxA
import Derived.Test.YtjickecdkmljpaaGreatDoorRows
import Derived.WalkKit
import Derived.ProofKit
import Derived.WalkSmall
import Derived.OpenShut
import Derived.PinnedBridge
import Derived.Lib.LaidU8
import Derived.Lib.AtoiErrMem
namespace Go.Proofs.YtjickecdkmljpaaGreatDoor
open Go.ChangeShapes Go.WideShapes Go.ChangeAt Go.RowKit Go.Shelf Go.Lib

theorem Tryz.own : ownKnob Tryz.prog.godebug = none := by kernel_rfl
theorem Tryz.laidOut : laidOutB Tryz.prog = true := by kernel_rfl

theorem u8extra : U8Extra Tryz.prog Tryz.lays197_ren := ⟨by kernel_rfl, by kernel_rfl, by kernel_rfl, by kernel_rfl, by kernel_rfl, by kernel_rfl, by kernel_rfl⟩
theorem accept_eq : Rows.laid_unicode_utf8_acceptRanges = acceptData := by kernel_rfl
theorem space_eq : Rows.laid_strings_asciiSpace = tabData (H := Unit) .u8 asciiSpaceTab := by kernel_rfl
theorem ren3 : Tryz.lays197_ren.g 3 = 0 := by kernel_rfl
theorem ren4 : Tryz.lays197_ren.g 4 = 1 := by kernel_rfl
theorem gSpace : Tryz.prog.globalNamed "strings.asciiSpace" = some 2 := by kernel_rfl
theorem gSpaceType : (Tryz.prog.globals[2]?).map (·.type) = some 165 := by kernel_rfl
theorem cellsU8 : Tryz.prog.cellsOf 5 = 1 := by kernel_rfl
theorem cellsTab : Tryz.prog.cellsOf 165 = 256 := by kernel_rfl
theorem var_lt {P : Program} {w : World} {n : String} {cs : Array Value} {g : Nat} (hg : P.globalNamed n = some g) (h : w.var? P n = some cs) : g < w.heap.size := by
 refine Classical.byContradiction fun hn => ?_
 unfold World.var? at h;rw [hg, Option.bind_some, Array.getElem?_eq_none (by omega)] at h
 cases h

/-- FROM THE ROW's CONDITION TO WHAT THE WALKS ASK OF Go's OWN TABLES. -/
theorem tabs_of_reads {W : World} (h1 : VarReads Tryz.prog W "unicode/utf8.first" Rows.laid_unicode_utf8_first) (h2 : VarReads Tryz.prog W "unicode/utf8.acceptRanges" Rows.laid_unicode_utf8_acceptRanges) (h3 : VarReads Tryz.prog W "strings.asciiSpace" Rows.laid_strings_asciiSpace) : Tabs W.heap.size W := by
 have hU := utf8Tabs_of_reads (P := Tryz.prog) { Tryz.lays197 with } u8extra (show VarReads Tryz.prog W "unicode/utf8.first" firstData from Pinned.utf8First_eq ▸ h1) (accept_eq ▸ h2)
 rw [ren3, ren4] at hU;rw [space_eq] at h3;obtain ⟨g', t', cs, fuel, p, hg', ht', hvar, hd⟩ := h3;obtain rfl := Option.some.inj (gSpace.symm.trans hg');obtain rfl := Option.some.inj (gSpaceType.symm.trans ht');have hcs := cells_of_tab Tryz.underlying165 Tryz.underlying5 cellsU8 cellsTab hd;have hS : Lib.TabIs Tryz.prog W "strings.asciiSpace" .u8 Lib.asciiSpaceTab := by
  unfold TabIs;rw [hvar, ← hcs]
 intro w' hb;refine ⟨⟨fun c hc => ?_, fun i hi => ?_⟩, ?_⟩
 ·have h := hU.1 c hc;exact (hb.cell (p := ⟨_, _, none⟩) (lt_of_cell h)).trans h
 ·have h := (hU.2 i hi).1;have k := (hU.2 i hi).2
  exact ⟨(hb.cell (p := ⟨_, _, none⟩) (lt_of_cell h)).trans h, (hb.cell (p := ⟨_, _, none⟩) (lt_of_cell k)).trans k⟩
 ·exact var?_below hb gSpace (var_lt gSpace hS) hS

theorem trodAll_stays {H : Type} {enc : TypeId × Value → H} {W W' : World} (hb : Below W.heap.size W W') :
  ∀ (ts : List TypeId) (vs : List Value) (ds : List (DataW H)) (ps : List MemPlace), (∀ t ∈ ts, Tryz.prog.readableRec t = true ∧ t < Tryz.prog.types.size) →
   DataW.TrodAll enc Tryz.prog W 0 (fun _ => true) true ts vs ds ps → (∀ x ∈ ps, x.block < W.heap.size) → DataW.TrodAll enc Tryz.prog W' 0 (fun b => decide (b < W.heap.size)) true ts vs ds ps := by
 intro ts
 induction ts with
 | nil => intro vs ds ps _ h _; obtain ⟨rfl, rfl, rfl⟩ := trodAll_nil h; exact trodAll_mk0
 | cons t ts ih =>
  intro vs ds ps ht h hp;obtain ⟨v0, vs0, d0, ds0, p0, q0, rfl, rfl, rfl, h0, r0⟩ := trodAll_cons h;exact trodAll_cons_mk (Below.trod Tryz.laidOut (ht t (by simp)).1 (ht t (by simp)).2 h0 hb (fun x hx => hp x (by simp [hx])))
   (ih vs0 ds0 q0 (fun u hu => ht u (by simp [hu])) r0 (fun x hx => hp x (by simp [hx])))

theorem post_law {H : Type} {enc : TypeId × Value → H} {f : Func} {s : ChangeSpec} {W W' : World} {args : Array Value} {ds : List (DataW H)} {before : List MemPlace}
  (hs : s.vars = []) (hW : DataW.Whole enc Tryz.prog f.params.toList s.vars false W args.toList ds [] before)
  (ht : ∀ t ∈ f.params.toList, Tryz.prog.readableRec t = true ∧ t < Tryz.prog.types.size) (hf : f.resultTypes = #[4])
  (hfn : s.fn H (ds ++ []) = { results := [.lit (.bool true)], args := ds }) (hb : Below W.heap.size W W') :
  s.post enc Tryz.prog f false true false false W args (.bool true) W' := by
 have hlt := hW.lt;have hW0 := hW;obtain ⟨p, q, hA, hV, hpq, _, _⟩ := hW;have hV' : DataW.TrodVars enc Tryz.prog W (fun _ => true) [] [] q := by rw [hs] at hV; exact hV
 obtain ⟨_, rfl⟩ := trodVars_none hV';have hp : before = p := by simpa using hpq
 subst hp;refine ⟨ds, [], before, [], before, [], hW0, ?_, ?_, ?_, hb.frame _, fun h => by cases h⟩
 ·rw [hfn, hf];exact trodAll_mk1 (shut_bool Tryz.underlying4 _)
 ·rw [hfn];exact trodAll_stays hb _ _ _ _ ht hA (fun x hx => by simpa using hlt x hx)
 ·rw [hfn, hs]
  rfl
end Go.Proofs.YtjickecdkmljpaaGreatDoor
