/-
  PROVED HERE: what the reference's Walk.order does to a walk's memory, the orders that go on to the next one. No condition beyond the lemmas' own premises.
-/
import Derived.Test.YtjomajfgoaifbaaROrder
namespace Go.Proofs.Ytjomajfgoaifbaa
open Go.RowKit

theorem OrdPost.bad {D R : List Int} {t d : Int} : OrdPost none D R (rD D t d) (rR D R t d) (rBad D true t d) := by
  have : rBad D true t d = true := by unfold rBad; rfl
  rw [this]
  exact OrdPost.of_none (rD_length _ _ _)

set_option maxRecDepth 100000 in
set_option maxHeartbeats 2000000 in
theorem rorder_next (B p : Nat) (w : World) (vo vf vk : Value) (C : Cd.GCode) (D R : List Int) (at_ : Nat) (f0 f1 f2 : Int) (f3 : Value) (hx : OrdCtx B p w vo vf vk C D R at_) (h29 : (Cd.opAt C at_).d ≠ 29) (h30 : (Cd.opAt C at_).d ≠ 30) (h28 : (Cd.opAt C at_).d ≠ 28) (hc2 : (Cd.opAt C at_).d ≠ 2) (hc3 : (Cd.opAt C at_).d ≠ 3) (hc4 : (Cd.opAt C at_).d ≠ 4) (hc5 : (Cd.opAt C at_).d ≠ 5) (hc20 : (Cd.opAt C at_).d ≠ 20) (hc22 : (Cd.opAt C at_).d ≠ 22) (hc16 : (Cd.opAt C at_).d ≠ 16) (hc17 : (Cd.opAt C at_).d ≠ 17) (hc18 : (Cd.opAt C at_).d ≠ 18) (hfew : ¬ Cd.dAt D at_ < (Cd.takesPuts (Cd.opAt C at_)).1) :
    Calls Try.prog 62 #[.pointer (some ⟨p, 0, none⟩), .agg #[.int .i64 f0, .int .i64 f1, .int .i64 f2, f3], .int .i64 at_] w fun e w' => e = .returned (.tuple #[]) ∧ ChoosePost B p vo vf vk (Cd.stepF C f1 at_ (Cd.dAt D at_)) D R w w' := by
  obtain ⟨b, o, co, g, cap, rfl, hbB, c0, c1, c3, cg, k1, k2, k3, c5, f5, hpl, hbl, hgl⟩ := hx.look
  have hlt := hx.lt
  have hlow := hx.low
  have n8 := hx.n8
  have hd0 := hx.d0
  have hd1 := hx.d1
  have hwp := hx.walk.1
  obtain ⟨tk, pt, ht⟩ : ∃ tk pt, Cd.takesPuts (Cd.opAt C at_) = (tk, pt) := ⟨_, _, rfl⟩
  obtain ⟨rg1, rg2, rg3, rg4, rg5, rg6⟩ := Cd.rangeB_pos (hx.rng _ (opAt_mem hlt))
  obtain ⟨bd1, bd2, bd3, bd4, bd5⟩ := takesPuts_bd ht (hx.rng _ (opAt_mem hlt))
  have Hst := Lib.hid (@stepF_cases C f1 at_ (Cd.dAt D at_) tk pt ht h29 h30 h28)
  have Hx := Lib.hid hx
  have Ht : Hid (Cd.takesPuts ⟨(Cd.opAt C at_).d, (Cd.opAt C at_).a, (Cd.opAt C at_).b⟩ = (tk, pt)) := Lib.hid ht
  have Hta : Hid ((Cd.opAt C at_).d = 19 ∨ (Cd.opAt C at_).d = 27 → 0 ≤ (Cd.opAt C at_).a ∧ (Cd.opAt C at_).a ≤ 1200) := Lib.hid (fun h => rg3 (by omega))
  have b29 : ((Cd.opAt C at_).d == 29) = false := by simp; omega
  have b30 : ((Cd.opAt C at_).d == 30) = false := by simp; omega
  have b28 : ((Cd.opAt C at_).d == 28) = false := by simp; omega
  have b2 : ((Cd.opAt C at_).d == 2) = false := by simp; omega
  have b3 : ((Cd.opAt C at_).d == 3) = false := by simp; omega
  have b4 : ((Cd.opAt C at_).d == 4) = false := by simp; omega
  have b5 : ((Cd.opAt C at_).d == 5) = false := by simp; omega
  have b20 : ((Cd.opAt C at_).d == 20) = false := by simp; omega
  have b22 : ((Cd.opAt C at_).d == 22) = false := by simp; omega
  have b16 : ((Cd.opAt C at_).d == 16) = false := by simp; omega
  have b17 : ((Cd.opAt C at_).d == 17) = false := by simp; omega
  have b18 : ((Cd.opAt C at_).d == 18) = false := by simp; omega
  rw [ht] at hfew
  have hno := Lib.hid (Hst.out.2.2.2.2.2.2.2 hfew (fun h => by omega) (fun h => by omega) hc20 hc22 hc16 hc17 hc18)
  clear hx ht rg1 rg2 rg3 rg4 bd5 h29 h30 h28 Hst hc2 hc3 hc4 hc5 hc20 hc22 hc16 hc17 hc18
  dsimp only at hfew
  generalize hdp : Cd.dAt D at_ = deep at *
  generalize (Cd.opAt C at_).d = od at *
  go_enter Try.func62, Try.ntmps62
  go_wp2_with (go_at_call 83; refine (takes_tup _ _ _ _ tk pt Ht.out Hta.out).mono ?_; rintro e w1 ⟨rfl, hb1⟩; obtain ⟨m0, m1, m5, mf5, ms, md, ma, hz1, HW1, HC1, HB1⟩ := after_takes Hx.out hb1; have Hb1 := Lib.hid hb1; clear hb1)
  refine (rlead_int B p _ _ vf vk C.ops D R false _ _ HW1.out HC1.out.ops Hx.out.len n8 (by omega) (by omega)).mono ?_
  rintro e w2 ⟨rfl, hW2, hb2⟩
  have HW2 := Lib.hid hW2
  clear hW2
  go_wp2_with fail
  go_returns
  refine ⟨rfl, ⟨_, _, _, HW2.out, ?_⟩, HB1.out.trans hb2⟩
  rw [hno.out]
  exact OrdPost.of_some ((LeadPost.nil D R).snoc ((at_ : Int) + 1, deep - tk + pt))

set_option maxRecDepth 100000 in
set_option maxHeartbeats 2000000 in
theorem rorder_slot (B p : Nat) (w : World) (vo vf vk : Value) (C : Cd.GCode) (D R : List Int) (at_ : Nat) (f0 f1 f2 : Int) (f3 : Value) (hx : OrdCtx B p w vo vf vk C D R at_) (h29 : (Cd.opAt C at_).d ≠ 29) (h30 : (Cd.opAt C at_).d ≠ 30) (h28 : (Cd.opAt C at_).d ≠ 28) (hc : (Cd.opAt C at_).d = 2 ∨ (Cd.opAt C at_).d = 3 ∨ (Cd.opAt C at_).d = 4) (hfew : ¬ Cd.dAt D at_ < (Cd.takesPuts (Cd.opAt C at_)).1) :
    Calls Try.prog 62 #[.pointer (some ⟨p, 0, none⟩), .agg #[.int .i64 f0, .int .i64 f1, .int .i64 f2, f3], .int .i64 at_] w fun e w' => e = .returned (.tuple #[]) ∧ ChoosePost B p vo vf vk (Cd.stepF C f1 at_ (Cd.dAt D at_)) D R w w' := by
  obtain ⟨b, o, co, g, cap, rfl, hbB, c0, c1, c3, cg, k1, k2, k3, c5, f5, hpl, hbl, hgl⟩ := hx.look
  have hlt := hx.lt
  have hlow := hx.low
  have n8 := hx.n8
  have hd0 := hx.d0
  have hd1 := hx.d1
  have hwp := hx.walk.1
  obtain ⟨tk, pt, ht⟩ : ∃ tk pt, Cd.takesPuts (Cd.opAt C at_) = (tk, pt) := ⟨_, _, rfl⟩
  obtain ⟨rg1, rg2, rg3, rg4, rg5, rg6⟩ := Cd.rangeB_pos (hx.rng _ (opAt_mem hlt))
  obtain ⟨bd1, bd2, bd3, bd4, bd5⟩ := takesPuts_bd ht (hx.rng _ (opAt_mem hlt))
  have Hst := Lib.hid (@stepF_cases C f1 at_ (Cd.dAt D at_) tk pt ht h29 h30 h28)
  have Hx := Lib.hid hx
  have Ht : Hid (Cd.takesPuts ⟨(Cd.opAt C at_).d, (Cd.opAt C at_).a, (Cd.opAt C at_).b⟩ = (tk, pt)) := Lib.hid ht
  have Hta : Hid ((Cd.opAt C at_).d = 19 ∨ (Cd.opAt C at_).d = 27 → 0 ≤ (Cd.opAt C at_).a ∧ (Cd.opAt C at_).a ≤ 1200) := Lib.hid (fun h => rg3 (by omega))
  rw [ht] at hfew
  have hyes := Lib.hid (Hst.out.2.1 hc)
  have hno := Lib.hid (fun hs : ¬ f1 ≤ (Cd.opAt C at_).a => Hst.out.2.2.2.2.2.2.2 hfew (fun h => hs h.2) (fun h => by omega) (by omega) (by omega) (by omega) (by omega) (by omega))
  clear hx ht rg1 rg2 rg3 rg4 bd5 h29 h30 h28 Hst
  dsimp only at hfew
  generalize hdp : Cd.dAt D at_ = deep at *
  generalize (Cd.opAt C at_).d = od at *
  by_cases hs : f1 ≤ (Cd.opAt C at_).a
  · have hyes2 := Lib.hid (hyes.out hs)
    clear hno hyes
    rcases hc with rfl | rfl | rfl
    all_goals
      go_enter Try.func62, Try.ntmps62
      go_wp2_with (go_at_call 83; refine (takes_tup _ _ _ _ tk pt Ht.out Hta.out).mono ?_; rintro e w1 ⟨rfl, hb1⟩; obtain ⟨m0, m1, m5, mf5, ms, md, ma, hz1, HW1, HC1, HB1⟩ := after_takes Hx.out hb1; have Hb1 := Lib.hid hb1; clear hb1)
      refine (rlead_int B p _ _ vf vk C.ops D R true _ _ (HW1.out.setBad true) (HC1.out.ops.below ((Below.refl _ _).setCell hwp _) (Nat.le_refl _)) Hx.out.len n8 (by omega) (by omega)).mono ?_
      rintro e w2 ⟨rfl, hW2, hb2⟩
      have HW2 := Lib.hid hW2
      clear hW2
      go_wp2_with fail
      go_returns
      refine ⟨rfl, ⟨_, _, _, HW2.out, ?_⟩, (HB1.out.setCell hwp _).trans hb2⟩
      rw [hyes2.out]
      exact OrdPost.bad
  · have hno2 := Lib.hid (hno.out hs)
    clear hyes hno
    rcases hc with rfl | rfl | rfl
    all_goals
      go_enter Try.func62, Try.ntmps62
      go_wp2_with (go_at_call 83; refine (takes_tup _ _ _ _ tk pt Ht.out Hta.out).mono ?_; rintro e w1 ⟨rfl, hb1⟩; obtain ⟨m0, m1, m5, mf5, ms, md, ma, hz1, HW1, HC1, HB1⟩ := after_takes Hx.out hb1; have Hb1 := Lib.hid hb1; clear hb1)
      refine (rlead_int B p _ _ vf vk C.ops D R false _ _ HW1.out HC1.out.ops Hx.out.len n8 (by omega) (by omega)).mono ?_
      rintro e w2 ⟨rfl, hW2, hb2⟩
      have HW2 := Lib.hid hW2
      clear hW2
      go_wp2_with fail
      go_returns
      refine ⟨rfl, ⟨_, _, _, HW2.out, ?_⟩, HB1.out.trans hb2⟩
      rw [hno2.out]
      exact OrdPost.of_some ((LeadPost.nil D R).snoc ((at_ : Int) + 1, deep - tk + pt))
end Go.Proofs.Ytjomajfgoaifbaa
