/-
  PROVED HERE: the given statement TypesTellCardSaid, the law TypesTell returns true for every text and all texts of types, in whatever memory it is called in which Go's own listed tables lie as the program's text lays them. No condition.
-/
import Derived.Test.YtjickecdkmljpaaGreatDoorPsTk
import Derived.Test.YtjickecdkmljpaaGreatDoorTyT
import Derived.Test.YtjickecdkmljpaaGreatDoorPsCt
import Derived.Test.YtjickecdkmljpaaGreatDoorRsCt
import Derived.Test.YtjickecdkmljpaaGreatDoorLxLaw
import Derived.Test.YtjickecdkmljpaaGreatDoorLxRef
import Derived.Test.YtjickecdkmljpaaGreatDoorTie
import Derived.Test.YtjickecdkmljpaaGreatDoorCards
import Derived.Lay
import Derived.SevenTiedAt
namespace Go.Proofs.YtjickecdkmljpaaGreatDoor.TellsP
open Go.ChangeShapes Go.WideShapes Go.ChangeAt Go.ChangeMaps Go.RowKit Go.Lib

theorem rscan_is : Hid (∀ (B : Nat) (w : World) (S : ByteArray), Tabs B w → B ≤ w.heap.size → Calls Tryz.prog 28 #[.string S] w (PScanPost S w)) := zh (fun B w S hT hB => rscan_any B w S hT hB)
theorem sp_is : Hid (∀ X S, POk X S 26 unitV (programP X Ps.fuel)) := zh (fun X S => spprogram_is Ps.fuel (by decide))
theorem rp_is : Hid (∀ X S, R.POk X S 29 unitV (R.programP X (Ps.fuel + 4))) := zh (fun X S => R.rpprogram_is (Ps.fuel + 4) (by decide))

theorem sparse_is : Hid (ParseC 8) := zh (fun B w S hT hB hm => (sparse_any sp_is B w S hT hB hm).mono fun _ _ h => parse_u h)
theorem rparse_is : Hid (ParseC 9) := zh (fun B w S hT hB _ => (R.rparse_any rscan_is rp_is B w S hT hB).mono fun _ _ h => parse_u h)

set_option maxRecDepth 100000 in
theorem lifted (os : Os) (started : os.Started) (H : Type) (enc : TypeId × Value → H) :
  ReturnsInHanded {} Tryz.checked os 6 .any (fun w args => (Rows.typesTellSpec.pre enc Tryz.prog Tryz.f6 [] false w args ∧ laidMetH Tryz.prog Rows.typesTellRow.laid w) ∧ sizedMet enc Tryz.prog Tryz.f6 (OpenSpec.ofChange Rows.typesTellSpec) false w args)
   (Rows.typesTellSpec.post enc Tryz.prog Tryz.f6 false true false false) := by
 refine returnsInHanded_of_change_and (C := Tryz.checked) (X := fun w _ => laidMetH Tryz.prog Rows.typesTellRow.laid w) (fun _ _ _ hh h => h.of_heap hh) Tryz.own started (by kernel_rfl) Tryz.func6
  (ChangeSpec.witness_shaped (enc := enc) (C := Tryz.checked) (os := os) (X := fun w _ => laidMetH Tryz.prog Rows.typesTellRow.laid w) false (World.laidAll Tryz.prog os Rows.typesTellRow.laid) #[.string ByteArray.empty, .string ByteArray.empty, .string ByteArray.empty] 8 (World.laidAll_os _ _ _)
   (World.shaped_of_ZipB (by kernel_rfl) (by kernel_rfl)) (by kernel_rfl) (by kernel_rfl) (by kernel_rfl)
   (by rw [MakeChecks.laidMetH_plain _ _ _ (by kernel_rfl)]; exact laidMet_laidAll _ (by kernel_rfl) (by kernel_rfl))) ?_
 intro W base args ds gs before hval0 hW _ _ hL _;have hval : ∀ (j : Nat) t v, Tryz.f6.params[j]? = some t → args[j]? = some v → Value.okWide Tryz.prog W .any base t v := hval0;have hW' := hW;obtain ⟨p, q, hA0, hV, rfl, _, _⟩ := hW;have hA : DataW.TrodAll enc Tryz.prog W 0 (fun _ => true) true Tryz.f6.params.toList args.toList ds p := hA0;rw [Tryz.params6] at hA hval;obtain ⟨v0, v1, v2, d0, d1, d2, p0, p1, p2, rfl, rfl, rfl, h0, h1, h2⟩ := trodAll_three hA;obtain ⟨rfl, rfl⟩ := trodVars_none hV;obtain ⟨S, rfl, rfl, rfl, ws⟩ := open_string Tryz.underlying9 (hval 0 9 v0 rfl rfl) h0;obtain ⟨F, rfl, rfl, rfl, wf⟩ := open_string Tryz.underlying9 (hval 1 9 v1 rfl rfl) h1;obtain ⟨G, rfl, rfl, rfl, wg⟩ := open_string Tryz.underlying9 (hval 2 9 v2 rfl rfl) h2;rw [MakeChecks.laidMetH_plain _ _ _ (by kernel_rfl)] at hL;have hT : Tabs W.heap.size W := tabs_of_reads (Lib.laidMet.reads hL (by simp [Rows.typesTellRow])) (Lib.laidMet.reads hL (by simp [Rows.typesTellRow])) (Lib.laidMet.reads hL (by simp [Rows.typesTellRow]))
 refine (tells_walk sparse_is rparse_is W S (by_ F) (by_ G) hT ws (by rw [by_size]; exact wf) (by rw [by_size]; exact wg)).mono fun e W' ⟨he, hb⟩ => ?_
 subst he;exact ⟨_, rfl, post_law rfl hW' (by
  rw [Tryz.params6];intro t h;obtain rfl : t = 9 := by simpa using h
  exact ⟨by kernel_rfl, of_decide_eq_true (by kernel_rfl)⟩) (by kernel_rfl) rfl hb⟩

theorem holds : Rows.TypesTellSaid :=
 OpenClaim.holds_of_wide 6 Tryz.f6 rfl rfl rfl rfl rfl rfl rfl ⟨rfl, rfl, rfl, rfl, rfl⟩ rfl rfl rfl rfl rfl (by kernel_rfl) Tryz.func6 (by kernel_rfl)
  (of_decide_eq_true (by kernel_rfl)) (by unfold Func.isWrapper; first | (rw [if_pos (by decide +kernel)]; kernel_rfl) | (rw [if_neg (by decide +kernel)]; exact ⟨rfl, rfl⟩))
  (fun os started H enc _ => lifted os started H enc)
theorem proved : Rows.TypesTellCardSaid :=
 Claim7.holds_tied_plain_at .later [] [.data, .data, .data, .data, .sentinel, .sentinel, .listed, .data, .pinned] true (true, "7344719ebecaeb29389fd23fd4cae13104b311066b0768552fb74c81de3acda5") true holds (fun _ h => by cases h) (by kernel_rfl) (fun _ h => by cases h) typesTell_row_tie rfl ⟨rfl, rfl⟩ (by kernel_rfl) rfl
  (fun f fn hf hfn => by
   obtain rfl : f = 6 := Option.some.inj ((show Tryz.prog.funcNamed "ravel/ravellaw.TypesTell" = some 6 by kernel_rfl).symm.trans hf) |>.symm
   obtain rfl : fn = Tryz.f6 := (Option.some.inj (Tryz.func6.symm.trans hfn)).symm;exact ⟨by kernel_rfl, fun j t ht => by
    rw [Tryz.params6] at ht;have hm : t ∈ [9] := by simpa using Array.mem_of_getElem? ht
    have hall : ([9].all fun u => !Tryz.prog.wantsStandIn u) = true := by kernel_rfl
    exact (show Tryz.prog.wantsStandIn t = false by simpa using List.all_eq_true.1 hall t hm)⟩)
  (by kernel_rfl)
#print axioms proved
end Go.Proofs.YtjickecdkmljpaaGreatDoor.TellsP
