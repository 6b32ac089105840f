/-
  PROVED HERE: what the program's checker.do does to a checker's memory, and what it answers: the cases. No condition beyond the lemmas' own premises.
-/
import Derived.Test.YtjomajfgoaifbaaPDo
namespace Go.Proofs.Ytjomajfgoaifbaa
open Go.RowKit

set_option maxRecDepth 100000 in
set_option maxHeartbeats 4000000 in
theorem pdo_slotfew (B N r p : Nat) (w : World) (vo vf vk : Value) (C : Cd.GCode) (D W : List Int) (at_ : Nat) (f0 f1 f2 : Int) (f3 : Value) (hx : DoCtx B N r p w vo vf vk C D W at_) (h29 : (Cd.opAt C at_).d ≠ 29) (h30 : (Cd.opAt C at_).d ≠ 30) (h28 : (Cd.opAt C at_).d ≠ 28) (hc : (Cd.opAt C at_).d = 2 ∨ (Cd.opAt C at_).d = 3 ∨ (Cd.opAt C at_).d = 4) (hfew : Cd.dAt D at_ < (Cd.takesPuts (Cd.opAt C at_)).1) :
    Calls Try.prog 22 #[.pointer (some ⟨p, 0, none⟩), .agg #[.int .i64 f0, .int .i64 f1, .int .i64 f2, f3], .int .i64 at_] w (DoPost B N r p vo vf vk (Cd.stepF C f1 at_ (Cd.dAt D at_)) D W w) := by
  obtain ⟨b, o, co, g, cap, rfl, hbB, c0, c1, c3, c4, cg, k1, k2, k3, hpl, hbl, hgl⟩ := hx.look
  have hlt := hx.lt
  have hlow := hx.low
  have n8 := hx.n8
  have hd0 := hx.d0
  have hd1 := hx.d1
  have hrg := Cd.rangeB_pos (hx.rng _ (opAt_mem hlt))
  obtain ⟨i, j, ci, cj, tk, pt, pa, pb, hS⟩ := shape_is r C.ops.length C.fns.length C.kinds.length _ hrg.2.2.2.2.1 hrg.2.2.2.2.2
  have hfound := hS.found
  have htp := hS.takes (Cd.opAt C at_).a (Cd.opAt C at_).b
  obtain ⟨tk0, tk1, pt0, pt1⟩ := hS.small
  have ht := htp h28 h29 h30
  rw [if_neg (by omega), Int.add_zero] at ht
  have ht : Cd.takesPuts (Cd.opAt C at_) = (tk, pt) := ht
  rw [ht] at hfew
  dsimp only at hfew
  have hst := Lib.hid ((@stepF_cases C f1 at_ (Cd.dAt D at_) tk pt ht h29 h30 h28).1 hfew)
  clear ht h29 h30 h28
  have Hx := Lib.hid hx
  clear hx hrg hS htp
  generalize hod : (Cd.opAt C at_).d = od at *
  generalize hoa : (Cd.opAt C at_).a = oa at *
  generalize hob : (Cd.opAt C at_).b = ob at *
  generalize hdd : Cd.dAt D at_ = deep at *
  have Hod := Lib.hid hod
  have Hoa := Lib.hid hoa
  have Hdd := Lib.hid hdd
  clear hod hoa hob hdd
  rcases hc with rfl | rfl | rfl
  · obtain ⟨nf, hfound⟩ := hfound
    have Hfound := Lib.hid hfound
    clear hfound
    have p1 : p < w.heap.size + 1 := by omega
    have p2 : p < w.heap.size + 1 + 1 := by omega
    go_enter Try.func22, Try.ntmps22
    go_wp2
    go_region
    have l1 := run_shape Hfound.out ((w.alloc (.cells #[.int .i64 f0, .int .i64 f1, .int .i64 f2, f3] 61)).alloc (.cells #[.int .i64 2, .int .i64 oa, .int .i64 ob] 68)).drew.drew (Hx.out.tab.grow (by go_grown))
    have l2 := run_shape Hfound.out (((w.alloc (.cells #[.int .i64 f0, .int .i64 f1, .int .i64 f2, f3] 61)).alloc (.cells #[.int .i64 2, .int .i64 oa, .int .i64 ob] 68)).alloc (.cells #[.nilFunc, .nilFunc, .int .i64 0, .int .i64 0] 110)).drew.drew (Hx.out.tab.grow (by go_grown))
    go_wp2
    go_region
    all_goals
      have hM := @do_mid B N r p w _ vf vk (.func (.func i) #[] ci) (.func (.func j) #[] cj) C D W at_ f0 f1 f2 tk pt f3 2 oa ob Hx.out
      clear l1 l2 c0 c1 c3 c4 cg k1 k2 k3
      generalize ((((w.alloc (.cells #[.int .i64 f0, .int .i64 f1, .int .i64 f2, f3] 61)).alloc (.cells #[.int .i64 2, .int .i64 oa, .int .i64 ob] 68)).alloc (.cells #[.func (.func i) #[] ci, .func (.func j) #[] cj, .int .i64 tk, .int .i64 pt] 110)).drew.drew) = W2 at hM ⊢
      obtain ⟨m0, mt, mc, mb, mf1, mod, moa, mtk, mpt, msz⟩ := hM
      have M0 := Lib.hid m0
      have Mt := Lib.hid mt
      have Mc := Lib.hid mc
      have Mb := Lib.hid mb
      clear m0 mt mc mb
      have s1 : w.heap.size < W2.heap.size := by omega
      have s2 : w.heap.size + 1 < W2.heap.size := by omega
      have s3 : p < W2.heap.size := by omega
      have s4 : b < W2.heap.size := by omega
      have mlow : B ≤ W2.heap.size := by omega
      have nlow : N ≤ W2.heap.size := M0.out.nle
      have HA := Lib.hid ((Below.refl W2.heap.size W2).alloc (Nat.le_refl _) (.cells #[] 3))
      have HL := Lib.hid (HA.out.alloc (by simp) (.cells #[.int .i64 oa] 3))
      go_wp2
      go_returns
      rw [hst.out]
      exact DoPost.none (M0.out.below HL.out) (Mb.out.step HL.out mlow nlow)
  · obtain ⟨nf, hfound⟩ := hfound
    have Hfound := Lib.hid hfound
    clear hfound
    have p1 : p < w.heap.size + 1 := by omega
    have p2 : p < w.heap.size + 1 + 1 := by omega
    go_enter Try.func22, Try.ntmps22
    go_wp2
    go_region
    have l1 := run_shape Hfound.out ((w.alloc (.cells #[.int .i64 f0, .int .i64 f1, .int .i64 f2, f3] 61)).alloc (.cells #[.int .i64 3, .int .i64 oa, .int .i64 ob] 68)).drew.drew (Hx.out.tab.grow (by go_grown))
    have l2 := run_shape Hfound.out (((w.alloc (.cells #[.int .i64 f0, .int .i64 f1, .int .i64 f2, f3] 61)).alloc (.cells #[.int .i64 3, .int .i64 oa, .int .i64 ob] 68)).alloc (.cells #[.nilFunc, .nilFunc, .int .i64 0, .int .i64 0] 110)).drew.drew (Hx.out.tab.grow (by go_grown))
    go_wp2
    go_region
    all_goals
      have hM := @do_mid B N r p w _ vf vk (.func (.func i) #[] ci) (.func (.func j) #[] cj) C D W at_ f0 f1 f2 tk pt f3 3 oa ob Hx.out
      clear l1 l2 c0 c1 c3 c4 cg k1 k2 k3
      generalize ((((w.alloc (.cells #[.int .i64 f0, .int .i64 f1, .int .i64 f2, f3] 61)).alloc (.cells #[.int .i64 3, .int .i64 oa, .int .i64 ob] 68)).alloc (.cells #[.func (.func i) #[] ci, .func (.func j) #[] cj, .int .i64 tk, .int .i64 pt] 110)).drew.drew) = W2 at hM ⊢
      obtain ⟨m0, mt, mc, mb, mf1, mod, moa, mtk, mpt, msz⟩ := hM
      have M0 := Lib.hid m0
      have Mt := Lib.hid mt
      have Mc := Lib.hid mc
      have Mb := Lib.hid mb
      clear m0 mt mc mb
      have s1 : w.heap.size < W2.heap.size := by omega
      have s2 : w.heap.size + 1 < W2.heap.size := by omega
      have s3 : p < W2.heap.size := by omega
      have s4 : b < W2.heap.size := by omega
      have mlow : B ≤ W2.heap.size := by omega
      have nlow : N ≤ W2.heap.size := M0.out.nle
      have HA := Lib.hid ((Below.refl W2.heap.size W2).alloc (Nat.le_refl _) (.cells #[] 3))
      have HL := Lib.hid (HA.out.alloc (by simp) (.cells #[.int .i64 oa] 3))
      go_wp2
      go_returns
      rw [hst.out]
      exact DoPost.none (M0.out.below HL.out) (Mb.out.step HL.out mlow nlow)
  · obtain ⟨nf, hfound⟩ := hfound
    have Hfound := Lib.hid hfound
    clear hfound
    have p1 : p < w.heap.size + 1 := by omega
    have p2 : p < w.heap.size + 1 + 1 := by omega
    go_enter Try.func22, Try.ntmps22
    go_wp2
    go_region
    have l1 := run_shape Hfound.out ((w.alloc (.cells #[.int .i64 f0, .int .i64 f1, .int .i64 f2, f3] 61)).alloc (.cells #[.int .i64 4, .int .i64 oa, .int .i64 ob] 68)).drew.drew (Hx.out.tab.grow (by go_grown))
    have l2 := run_shape Hfound.out (((w.alloc (.cells #[.int .i64 f0, .int .i64 f1, .int .i64 f2, f3] 61)).alloc (.cells #[.int .i64 4, .int .i64 oa, .int .i64 ob] 68)).alloc (.cells #[.nilFunc, .nilFunc, .int .i64 0, .int .i64 0] 110)).drew.drew (Hx.out.tab.grow (by go_grown))
    go_wp2
    go_region
    all_goals
      have hM := @do_mid B N r p w _ vf vk (.func (.func i) #[] ci) (.func (.func j) #[] cj) C D W at_ f0 f1 f2 tk pt f3 4 oa ob Hx.out
      clear l1 l2 c0 c1 c3 c4 cg k1 k2 k3
      generalize ((((w.alloc (.cells #[.int .i64 f0, .int .i64 f1, .int .i64 f2, f3] 61)).alloc (.cells #[.int .i64 4, .int .i64 oa, .int .i64 ob] 68)).alloc (.cells #[.func (.func i) #[] ci, .func (.func j) #[] cj, .int .i64 tk, .int .i64 pt] 110)).drew.drew) = W2 at hM ⊢
      obtain ⟨m0, mt, mc, mb, mf1, mod, moa, mtk, mpt, msz⟩ := hM
      have M0 := Lib.hid m0
      have Mt := Lib.hid mt
      have Mc := Lib.hid mc
      have Mb := Lib.hid mb
      clear m0 mt mc mb
      have s1 : w.heap.size < W2.heap.size := by omega
      have s2 : w.heap.size + 1 < W2.heap.size := by omega
      have s3 : p < W2.heap.size := by omega
      have s4 : b < W2.heap.size := by omega
      have mlow : B ≤ W2.heap.size := by omega
      have nlow : N ≤ W2.heap.size := M0.out.nle
      have HA := Lib.hid ((Below.refl W2.heap.size W2).alloc (Nat.le_refl _) (.cells #[] 3))
      have HL := Lib.hid (HA.out.alloc (by simp) (.cells #[.int .i64 oa] 3))
      go_wp2
      go_returns
      rw [hst.out]
      exact DoPost.none (M0.out.below HL.out) (Mb.out.step HL.out mlow nlow)

set_option maxRecDepth 100000 in
set_option maxHeartbeats 4000000 in
theorem pdo_slotbad (B N r p : Nat) (w : World) (vo vf vk : Value) (C : Cd.GCode) (D W : List Int) (at_ : Nat) (f0 f1 f2 : Int) (f3 : Value) (hx : DoCtx B N r p w vo vf vk C D W at_) (h29 : (Cd.opAt C at_).d ≠ 29) (h30 : (Cd.opAt C at_).d ≠ 30) (h28 : (Cd.opAt C at_).d ≠ 28) (hc : (Cd.opAt C at_).d = 2 ∨ (Cd.opAt C at_).d = 3 ∨ (Cd.opAt C at_).d = 4) (hfew : ¬ Cd.dAt D at_ < (Cd.takesPuts (Cd.opAt C at_)).1) (hs : f1 ≤ (Cd.opAt C at_).a) :
    Calls Try.prog 22 #[.pointer (some ⟨p, 0, none⟩), .agg #[.int .i64 f0, .int .i64 f1, .int .i64 f2, f3], .int .i64 at_] w (DoPost B N r p vo vf vk (Cd.stepF C f1 at_ (Cd.dAt D at_)) D W w) := by
  obtain ⟨b, o, co, g, cap, rfl, hbB, c0, c1, c3, c4, cg, k1, k2, k3, hpl, hbl, hgl⟩ := hx.look
  have hlt := hx.lt
  have hlow := hx.low
  have n8 := hx.n8
  have hd0 := hx.d0
  have hd1 := hx.d1
  have hrg := Cd.rangeB_pos (hx.rng _ (opAt_mem hlt))
  obtain ⟨i, j, ci, cj, tk, pt, pa, pb, hS⟩ := shape_is r C.ops.length C.fns.length C.kinds.length _ hrg.2.2.2.2.1 hrg.2.2.2.2.2
  have hfound := hS.found
  have htp := hS.takes (Cd.opAt C at_).a (Cd.opAt C at_).b
  obtain ⟨tk0, tk1, pt0, pt1⟩ := hS.small
  have ht := htp h28 h29 h30
  rw [if_neg (by omega), Int.add_zero] at ht
  have ht : Cd.takesPuts (Cd.opAt C at_) = (tk, pt) := ht
  rw [ht] at hfew
  dsimp only at hfew
  have HI := Lib.hid ((hx.code.ops).1 _ (opAt_mem hlt)).2.1
  have hst := Lib.hid ((@stepF_cases C f1 at_ (Cd.dAt D at_) tk pt ht h29 h30 h28).2.1 hc hs)
  clear ht h29 h30 h28
  have Hx := Lib.hid hx
  clear hx hrg hS htp
  generalize hod : (Cd.opAt C at_).d = od at *
  generalize hoa : (Cd.opAt C at_).a = oa at *
  generalize hob : (Cd.opAt C at_).b = ob at *
  generalize hdd : Cd.dAt D at_ = deep at *
  have Hod := Lib.hid hod
  have Hoa := Lib.hid hoa
  have Hdd := Lib.hid hdd
  clear hod hoa hob hdd
  rcases hc with rfl | rfl | rfl
  · obtain ⟨nf, hfound⟩ := hfound
    have Hfound := Lib.hid hfound
    clear hfound
    have p1 : p < w.heap.size + 1 := by omega
    have p2 : p < w.heap.size + 1 + 1 := by omega
    go_enter Try.func22, Try.ntmps22
    go_wp2
    go_region
    have l1 := run_shape Hfound.out ((w.alloc (.cells #[.int .i64 f0, .int .i64 f1, .int .i64 f2, f3] 61)).alloc (.cells #[.int .i64 2, .int .i64 oa, .int .i64 ob] 68)).drew.drew (Hx.out.tab.grow (by go_grown))
    have l2 := run_shape Hfound.out (((w.alloc (.cells #[.int .i64 f0, .int .i64 f1, .int .i64 f2, f3] 61)).alloc (.cells #[.int .i64 2, .int .i64 oa, .int .i64 ob] 68)).alloc (.cells #[.nilFunc, .nilFunc, .int .i64 0, .int .i64 0] 110)).drew.drew (Hx.out.tab.grow (by go_grown))
    go_wp2
    go_region
    all_goals
      have hM := @do_mid B N r p w _ vf vk (.func (.func i) #[] ci) (.func (.func j) #[] cj) C D W at_ f0 f1 f2 tk pt f3 2 oa ob Hx.out
      clear l1 l2 c0 c1 c3 c4 cg k1 k2 k3
      generalize ((((w.alloc (.cells #[.int .i64 f0, .int .i64 f1, .int .i64 f2, f3] 61)).alloc (.cells #[.int .i64 2, .int .i64 oa, .int .i64 ob] 68)).alloc (.cells #[.func (.func i) #[] ci, .func (.func j) #[] cj, .int .i64 tk, .int .i64 pt] 110)).drew.drew) = W2 at hM ⊢
      obtain ⟨m0, mt, mc, mb, mf1, mod, moa, mtk, mpt, msz⟩ := hM
      have M0 := Lib.hid m0
      have Mt := Lib.hid mt
      have Mc := Lib.hid mc
      have Mb := Lib.hid mb
      clear m0 mt mc mb
      have s1 : w.heap.size < W2.heap.size := by omega
      have s2 : w.heap.size + 1 < W2.heap.size := by omega
      have s3 : p < W2.heap.size := by omega
      have s4 : b < W2.heap.size := by omega
      have mlow : B ≤ W2.heap.size := by omega
      have nlow : N ≤ W2.heap.size := M0.out.nle
      have HA := Lib.hid ((Below.refl W2.heap.size W2).alloc (Nat.le_refl _) (.cells #[] 3))
      have HL := Lib.hid (HA.out.alloc (by simp) (.cells #[.int .i64 oa] 3))
      have hcl := Lib.hid (contains_ints ((W2.alloc (.cells #[] 3)).alloc (.cells #[.int .i64 oa] 3)).heap.size ((W2.alloc (.cells #[] 3)).alloc (.cells #[.int .i64 oa] 3)) (.slice (some ⟨W2.heap.size + 1, 0, none⟩) 1 1) [oa] 60 #[.pointer (some ⟨w.heap.size, 0, none⟩)] (fun x => decide (f1 ≤ x)) (ints_push HI.out (by simp)) (Nat.le_refl _) (test_slots w.heap.size _ f1 ((HL.out.cell (p := ⟨w.heap.size, 1, none⟩) s1).trans mf1) (by simp; omega)))
      rw [show [oa].any (fun x => decide (f1 ≤ x)) = true by simp [hs]] at hcl
      go_wp2_with (go_at_call 53; refine hcl.out.mono ?_;rintro e w3 ⟨rfl, hb3⟩; have HB3 := Lib.hid ((HL.out.trans (hb3.mono (by simp; omega)))); clear hb3; have n1 := (HB3.out.cell (p := ⟨w.heap.size + 1, 0, none⟩) s2).trans mod; have n2 := (HB3.out.cell (p := ⟨w.heap.size + 1, 1, none⟩) s2).trans moa; have n3 := (HB3.out.cell (p := ⟨w.heap.size + 1 + 1, 3, none⟩) msz).trans mpt)
      go_returns
      rw [hst.out]
      exact DoPost.none (M0.out.below HB3.out) (Mb.out.step HB3.out mlow nlow)
  · obtain ⟨nf, hfound⟩ := hfound
    have Hfound := Lib.hid hfound
    clear hfound
    have p1 : p < w.heap.size + 1 := by omega
    have p2 : p < w.heap.size + 1 + 1 := by omega
    go_enter Try.func22, Try.ntmps22
    go_wp2
    go_region
    have l1 := run_shape Hfound.out ((w.alloc (.cells #[.int .i64 f0, .int .i64 f1, .int .i64 f2, f3] 61)).alloc (.cells #[.int .i64 3, .int .i64 oa, .int .i64 ob] 68)).drew.drew (Hx.out.tab.grow (by go_grown))
    have l2 := run_shape Hfound.out (((w.alloc (.cells #[.int .i64 f0, .int .i64 f1, .int .i64 f2, f3] 61)).alloc (.cells #[.int .i64 3, .int .i64 oa, .int .i64 ob] 68)).alloc (.cells #[.nilFunc, .nilFunc, .int .i64 0, .int .i64 0] 110)).drew.drew (Hx.out.tab.grow (by go_grown))
    go_wp2
    go_region
    all_goals
      have hM := @do_mid B N r p w _ vf vk (.func (.func i) #[] ci) (.func (.func j) #[] cj) C D W at_ f0 f1 f2 tk pt f3 3 oa ob Hx.out
      clear l1 l2 c0 c1 c3 c4 cg k1 k2 k3
      generalize ((((w.alloc (.cells #[.int .i64 f0, .int .i64 f1, .int .i64 f2, f3] 61)).alloc (.cells #[.int .i64 3, .int .i64 oa, .int .i64 ob] 68)).alloc (.cells #[.func (.func i) #[] ci, .func (.func j) #[] cj, .int .i64 tk, .int .i64 pt] 110)).drew.drew) = W2 at hM ⊢
      obtain ⟨m0, mt, mc, mb, mf1, mod, moa, mtk, mpt, msz⟩ := hM
      have M0 := Lib.hid m0
      have Mt := Lib.hid mt
      have Mc := Lib.hid mc
      have Mb := Lib.hid mb
      clear m0 mt mc mb
      have s1 : w.heap.size < W2.heap.size := by omega
      have s2 : w.heap.size + 1 < W2.heap.size := by omega
      have s3 : p < W2.heap.size := by omega
      have s4 : b < W2.heap.size := by omega
      have mlow : B ≤ W2.heap.size := by omega
      have nlow : N ≤ W2.heap.size := M0.out.nle
      have HA := Lib.hid ((Below.refl W2.heap.size W2).alloc (Nat.le_refl _) (.cells #[] 3))
      have HL := Lib.hid (HA.out.alloc (by simp) (.cells #[.int .i64 oa] 3))
      have hcl := Lib.hid (contains_ints ((W2.alloc (.cells #[] 3)).alloc (.cells #[.int .i64 oa] 3)).heap.size ((W2.alloc (.cells #[] 3)).alloc (.cells #[.int .i64 oa] 3)) (.slice (some ⟨W2.heap.size + 1, 0, none⟩) 1 1) [oa] 60 #[.pointer (some ⟨w.heap.size, 0, none⟩)] (fun x => decide (f1 ≤ x)) (ints_push HI.out (by simp)) (Nat.le_refl _) (test_slots w.heap.size _ f1 ((HL.out.cell (p := ⟨w.heap.size, 1, none⟩) s1).trans mf1) (by simp; omega)))
      rw [show [oa].any (fun x => decide (f1 ≤ x)) = true by simp [hs]] at hcl
      go_wp2_with (go_at_call 53; refine hcl.out.mono ?_;rintro e w3 ⟨rfl, hb3⟩; have HB3 := Lib.hid ((HL.out.trans (hb3.mono (by simp; omega)))); clear hb3; have n1 := (HB3.out.cell (p := ⟨w.heap.size + 1, 0, none⟩) s2).trans mod; have n2 := (HB3.out.cell (p := ⟨w.heap.size + 1, 1, none⟩) s2).trans moa; have n3 := (HB3.out.cell (p := ⟨w.heap.size + 1 + 1, 3, none⟩) msz).trans mpt)
      go_returns
      rw [hst.out]
      exact DoPost.none (M0.out.below HB3.out) (Mb.out.step HB3.out mlow nlow)
  · obtain ⟨nf, hfound⟩ := hfound
    have Hfound := Lib.hid hfound
    clear hfound
    have p1 : p < w.heap.size + 1 := by omega
    have p2 : p < w.heap.size + 1 + 1 := by omega
    go_enter Try.func22, Try.ntmps22
    go_wp2
    go_region
    have l1 := run_shape Hfound.out ((w.alloc (.cells #[.int .i64 f0, .int .i64 f1, .int .i64 f2, f3] 61)).alloc (.cells #[.int .i64 4, .int .i64 oa, .int .i64 ob] 68)).drew.drew (Hx.out.tab.grow (by go_grown))
    have l2 := run_shape Hfound.out (((w.alloc (.cells #[.int .i64 f0, .int .i64 f1, .int .i64 f2, f3] 61)).alloc (.cells #[.int .i64 4, .int .i64 oa, .int .i64 ob] 68)).alloc (.cells #[.nilFunc, .nilFunc, .int .i64 0, .int .i64 0] 110)).drew.drew (Hx.out.tab.grow (by go_grown))
    go_wp2
    go_region
    all_goals
      have hM := @do_mid B N r p w _ vf vk (.func (.func i) #[] ci) (.func (.func j) #[] cj) C D W at_ f0 f1 f2 tk pt f3 4 oa ob Hx.out
      clear l1 l2 c0 c1 c3 c4 cg k1 k2 k3
      generalize ((((w.alloc (.cells #[.int .i64 f0, .int .i64 f1, .int .i64 f2, f3] 61)).alloc (.cells #[.int .i64 4, .int .i64 oa, .int .i64 ob] 68)).alloc (.cells #[.func (.func i) #[] ci, .func (.func j) #[] cj, .int .i64 tk, .int .i64 pt] 110)).drew.drew) = W2 at hM ⊢
      obtain ⟨m0, mt, mc, mb, mf1, mod, moa, mtk, mpt, msz⟩ := hM
      have M0 := Lib.hid m0
      have Mt := Lib.hid mt
      have Mc := Lib.hid mc
      have Mb := Lib.hid mb
      clear m0 mt mc mb
      have s1 : w.heap.size < W2.heap.size := by omega
      have s2 : w.heap.size + 1 < W2.heap.size := by omega
      have s3 : p < W2.heap.size := by omega
      have s4 : b < W2.heap.size := by omega
      have mlow : B ≤ W2.heap.size := by omega
      have nlow : N ≤ W2.heap.size := M0.out.nle
      have HA := Lib.hid ((Below.refl W2.heap.size W2).alloc (Nat.le_refl _) (.cells #[] 3))
      have HL := Lib.hid (HA.out.alloc (by simp) (.cells #[.int .i64 oa] 3))
      have hcl := Lib.hid (contains_ints ((W2.alloc (.cells #[] 3)).alloc (.cells #[.int .i64 oa] 3)).heap.size ((W2.alloc (.cells #[] 3)).alloc (.cells #[.int .i64 oa] 3)) (.slice (some ⟨W2.heap.size + 1, 0, none⟩) 1 1) [oa] 60 #[.pointer (some ⟨w.heap.size, 0, none⟩)] (fun x => decide (f1 ≤ x)) (ints_push HI.out (by simp)) (Nat.le_refl _) (test_slots w.heap.size _ f1 ((HL.out.cell (p := ⟨w.heap.size, 1, none⟩) s1).trans mf1) (by simp; omega)))
      rw [show [oa].any (fun x => decide (f1 ≤ x)) = true by simp [hs]] at hcl
      go_wp2_with (go_at_call 53; refine hcl.out.mono ?_;rintro e w3 ⟨rfl, hb3⟩; have HB3 := Lib.hid ((HL.out.trans (hb3.mono (by simp; omega)))); clear hb3; have n1 := (HB3.out.cell (p := ⟨w.heap.size + 1, 0, none⟩) s2).trans mod; have n2 := (HB3.out.cell (p := ⟨w.heap.size + 1, 1, none⟩) s2).trans moa; have n3 := (HB3.out.cell (p := ⟨w.heap.size + 1 + 1, 3, none⟩) msz).trans mpt)
      go_returns
      rw [hst.out]
      exact DoPost.none (M0.out.below HB3.out) (Mb.out.step HB3.out mlow nlow)
end Go.Proofs.Ytjomajfgoaifbaa
