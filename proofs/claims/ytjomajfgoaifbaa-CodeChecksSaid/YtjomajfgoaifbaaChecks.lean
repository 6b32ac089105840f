/-
  PROVED HERE: the given statement CodeChecksSaid, the law CodeChecks returns true for all code, in whatever memory it is called. No condition.
-/
import Derived.Test.YtjomajfgoaifbaaPCheck2
import Derived.Test.YtjomajfgoaifbaaOpen
namespace Go.Proofs.Ytjomajfgoaifbaa.ChecksP
open Go.ChangeShapes Go.WideShapes Go.ChangeAt Go.RowKit

set_option maxRecDepth 100000 in
theorem checks_walk (B : Nat) (w : World) (vo vf vk : Value) (C : Cd.GCode) (hC : CodeV B w vo vf vk C) (hB : B ≤ w.heap.size) :
    Calls Try.prog 4 #[.agg #[vo, vf, vk]] w fun e w' => e = .returned (.bool true) ∧ Below w.heap.size w w' := by
  have HC := Lib.hid hC
  obtain ⟨j1, ao, bo, oo, co, rfl, j2, j3, ho, j4⟩ := hC.ops
  obtain ⟨j5, af, bf, of_, cf, rfl, j6, j7, hf, j8⟩ := hC.fns
  obtain ⟨ak, bk, ok, ck, rfl, j9, j10, hk, j11⟩ := hC.kinds
  clear hC ho hf hk j1 j2 j3 j4 j5 j6 j7 j8 j9 j10 j11
  have HC1 : Hid (CodeV B (w.alloc (.cells #[.slice ao C.ops.length co, .slice af C.fns.length cf, .slice ak C.kinds.length ck] 30)) (.slice ao C.ops.length co) (.slice af C.fns.length cf) (.slice ak C.kinds.length ck) C) :=
    Lib.hid (HC.out.below (N := w.heap.size) ((Below.refl _ _).alloc (Nat.le_refl _) _) hB)
  go_enter Try.func4, Try.ntmps4
  go_wp2_with fail
  refine (pcheck_any B _ _ _ _ C HC1.out (by simp; omega)).mono ?_
  rintro e w1 ⟨rfl, hb1⟩
  have q0 := (hb1.cell (p := ⟨w.heap.size, 0, none⟩) (by simp)).trans (World.cell?_alloc_new _ _ _ _)
  have q1 := (hb1.cell (p := ⟨w.heap.size, 1, none⟩) (by simp)).trans (World.cell?_alloc_new _ _ _ _)
  have q2 := (hb1.cell (p := ⟨w.heap.size, 2, none⟩) (by simp)).trans (World.cell?_alloc_new _ _ _ _)
  simp only [List.getElem?_toArray, List.getElem?_cons_zero, List.getElem?_cons_succ] at q0 q1 q2
  have HC2 := Lib.hid (HC1.out.below hb1 (by simp; omega))
  have hs1 := hb1.size
  rw [World.size_alloc] at hs1
  have HB1 := Lib.hid (((Below.refl w.heap.size w).alloc (Nat.le_refl _) _).trans (hb1.mono (by simp)))
  clear hb1
  obtain ⟨r, hr⟩ : ∃ r, Cd.check C = r := ⟨_, rfl⟩
  have Hr := Lib.hid hr
  rw [hr]
  clear hr
  go_wp2_with fail
  refine (rcheck_any B _ _ _ _ C HC2.out (by omega)).mono ?_
  rintro e w2 ⟨rfl, hb2⟩
  have HB2 := Lib.hid hb2
  clear hb2
  rw [Hr.out]
  go_wp2
  go_returns
  exact ⟨by simp, HB1.out.trans (HB2.out.mono (by omega))⟩

set_option maxRecDepth 100000 in
theorem lifted (os : Os) (started : os.Started) (H : Type) (enc : TypeId × Value → H) :
    ReturnsInHanded {} Try.checked os 4 .any (Rows.codeChecksSpec.pre6 enc Try.prog Try.f4 Rows.codeChecksRow.domain false) (Rows.codeChecksSpec.post enc Try.prog Try.f4 false true false false) := by
  refine returnsInHanded_of_change_sized (C := Try.checked) Try.own started (by kernel_rfl) Try.func4
    (ChangeSpec.witness6 (enc := enc) (C := Try.checked) false ⟨#[], #[.agg #[.slice none 0 0, .slice none 0 0, .slice none 0 0]], []⟩ 8 (by kernel_rfl) (by kernel_rfl) (by kernel_rfl) (by kernel_rfl)) ?_
  intro W base args ds gs before hval0 hW hcnd hsz0 _
  have hval : ∀ (j : Nat) t v, Try.f4.params[j]? = some t → args[j]? = some v → Value.okWide Try.prog W .any base t v := hval0
  have hW' := hW
  obtain ⟨p, q, hA0, hV, rfl, hfz, hnd⟩ := hW
  have hA : DataW.TrodAll enc Try.prog W 0 (fun _ => true) true Try.f4.params.toList args.toList ds p := hA0
  rw [Try.params4] at hA hval
  obtain ⟨v0, vs0, d0, ds0, p0, q0, h1, rfl, rfl, h0, r0⟩ := trodAll_cons hA
  obtain ⟨h2, rfl, rfl⟩ := trodAll_nil r0
  obtain rfl : args = #[v0] := by
    have e : args.toList = [v0] := by rw [h1, h2]
    exact Array.toList_inj.1 (by simpa using e)
  obtain ⟨rfl, rfl⟩ := trodVars_none hV
  have hs : Sz 30 d0 := by
    have hsz : (DataW.weightsEach Try.prog (Try.f4.params.toList ++ Rows.codeChecksSpec.plain.varTypes Try.prog) ([d0] ++ [])).all (· ≤ reachBytes) = true := hsz0
    rw [Try.params4] at hsz
    exact sz_each hsz 0 30 d0 rfl rfl
  obtain ⟨vo, vf, vk, C, rfl, hC⟩ := code_open (hval 0 30 v0 rfl rfl) h0 hs
  refine (checks_walk W.heap.size W vo vf vk C hC (Nat.le_refl _)).mono fun e W' ⟨he, hg⟩ => ?_
  subst he
  refine ⟨_, rfl, post_law rfl hW' (by
    rw [Try.params4]
    intro t h
    obtain rfl : t = 30 := by simpa using h
    exact ⟨by kernel_rfl, of_decide_eq_true (by kernel_rfl)⟩) (by kernel_rfl) rfl hg⟩

theorem proved : Rows.CodeChecksSaid :=
  OpenClaim.holds_of_wide 4 Try.f4 rfl rfl rfl rfl rfl rfl rfl ⟨rfl, rfl, rfl, rfl, rfl⟩ rfl rfl rfl rfl rfl (by kernel_rfl) Try.func4 (by kernel_rfl)
    (of_decide_eq_true (by kernel_rfl)) (by unfold Func.isWrapper; first | (rw [if_pos (by decide +kernel)]; kernel_rfl) | (rw [if_neg (by decide +kernel)]; exact ⟨rfl, rfl⟩))
    (fun os started H enc _ => lifted os started H enc)
#print axioms proved
end Go.Proofs.Ytjomajfgoaifbaa.ChecksP
