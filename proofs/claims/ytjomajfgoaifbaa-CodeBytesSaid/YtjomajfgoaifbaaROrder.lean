/-
  PROVED HERE: what the reference's Walk.order does to a walk's memory. No condition beyond the lemmas' own premises.
-/
import Derived.Test.YtjomajfgoaifbaaRChoose
import Derived.Test.YtjomajfgoaifbaaRTakes
namespace Go.Proofs.Ytjomajfgoaifbaa
open Go.RowKit

theorem bcell {W w1 : World} (hb : Below W.heap.size W w1) : (∀ b o, b < W.heap.size → w1.cell? ⟨b, o, none⟩ = W.cell? ⟨b, o, none⟩) ∧ (∀ b o, b < W.heap.size → w1.frozen? ⟨b, o, none⟩ = W.frozen? ⟨b, o, none⟩) :=
  ⟨fun b o h => hb.cell (p := ⟨b, o, none⟩) h, fun b o h => hb.frozen (p := ⟨b, o, none⟩) h⟩

theorem takes_tup (d a b : Int) (w : World) (tk pt : Int) (ht : Cd.takesPuts ⟨d, a, b⟩ = (tk, pt)) (ha : d = 19 ∨ d = 27 → 0 ≤ a ∧ a ≤ 1200) :
    Calls Try.prog 83 #[.agg #[.int .i64 d, .int .i64 a, .int .i64 b]] w fun e w' => e = .returned (.tuple #[.int .i64 tk, .int .i64 pt]) ∧ Below w.heap.size w w' := by
  refine (takes_any d a b w ha).mono fun e w' h => ?_
  unfold takesV at h
  rw [ht] at h
  exact h

structure OrdCtx (B p : Nat) (w : World) (vo vf vk : Value) (C : Cd.GCode) (D R : List Int) (at_ : Nat) : Prop where
  walk : WalkAt B w p vo vf vk D R false
  code : CodeV B w vo vf vk C
  len : D.length = C.ops.length
  n8 : C.ops.length ≤ 8000
  rng : ∀ o ∈ C.ops, Cd.rangeB C.ops.length C.fns.length C.kinds.length o = true
  lt : at_ < C.ops.length
  d0 : 0 ≤ Cd.dAt D at_
  d1 : Cd.dAt D at_ ≤ 1200
  low : B ≤ w.heap.size

theorem OrdCtx.look {B p : Nat} {w : World} {vo vf vk : Value} {C : Cd.GCode} {D R : List Int} {at_ : Nat} (h : OrdCtx B p w vo vf vk C D R at_) :
    ∃ b o co g cap, vo = .slice (some ⟨b, o, none⟩) C.ops.length co ∧ b < B ∧ w.cell? ⟨p, 0, none⟩ = some vo ∧ w.cell? ⟨p, 1, none⟩ = some vf ∧ w.cell? ⟨p, 3, none⟩ = some (.slice (some ⟨g, 0, none⟩) C.ops.length cap) ∧ w.cell? ⟨g, at_, none⟩ = some (.int .i64 (Cd.dAt D at_)) ∧
      w.cell? ⟨b, o + at_ * 3, none⟩ = some (.int .i64 (Cd.opAt C at_).d) ∧ w.cell? ⟨b, o + at_ * 3 + 1, none⟩ = some (.int .i64 (Cd.opAt C at_).a) ∧ w.cell? ⟨b, o + at_ * 3 + 2, none⟩ = some (.int .i64 (Cd.opAt C at_).b) ∧
      w.cell? ⟨p, 5, none⟩ = some (.bool false) ∧ w.frozen? ⟨p, 5, none⟩ = false ∧ p < w.heap.size ∧ b < w.heap.size ∧ g < w.heap.size := by
  obtain ⟨hp, hf, g, cap, vr, hb, hd, hr⟩ := h.walk
  obtain ⟨hI, a, b, o, co, rfl, hco, hco2, hab, hc⟩ := h.code.ops
  obtain ⟨rfl, hbB⟩ := hab (by have := h.lt; omega)
  obtain ⟨e1, e2, e3⟩ := hc at_ h.lt
  have hlow := h.low
  refine ⟨b, o, co, g, cap, rfl, hbB, by rw [blk_cell hb]; rfl, by rw [blk_cell hb]; rfl, by rw [blk_cell hb, ← h.len]; rfl, dAt_cell hd at_ (by rw [h.len]; exact h.lt), e1, e2, e3, by rw [blk_cell hb]; rfl, blk_free hb 5, blk_lt hb, by omega, (hd.lt g rfl).2⟩

theorem stepF_cases {C : Cd.GCode} {slots : Int} {i : Nat} {deep tk pt : Int} (ht : Cd.takesPuts (Cd.opAt C i) = (tk, pt)) (h29 : (Cd.opAt C i).d ≠ 29) (h30 : (Cd.opAt C i).d ≠ 30) (h28 : (Cd.opAt C i).d ≠ 28) :
    (deep < tk → Cd.stepF C slots i deep = none) ∧
    (((Cd.opAt C i).d = 2 ∨ (Cd.opAt C i).d = 3 ∨ (Cd.opAt C i).d = 4) → slots ≤ (Cd.opAt C i).a → Cd.stepF C slots i deep = none) ∧
    ((Cd.opAt C i).d = 5 → (Cd.fnAt C (Cd.opAt C i).a.toNat).takes.any (fun x => decide (slots ≤ x)) = true → Cd.stepF C slots i deep = none) ∧
    (¬ deep < tk → ((Cd.opAt C i).d = 20 ∨ (Cd.opAt C i).d = 22) → Cd.stepF C slots i deep = some []) ∧
    (¬ deep < tk → (Cd.opAt C i).d = 16 → Cd.stepF C slots i deep = some [((Cd.opAt C i).a, deep)]) ∧
    (¬ deep < tk → (Cd.opAt C i).d = 17 → Cd.stepF C slots i deep = some [((Cd.opAt C i).a, deep - 1), ((i : Int) + 1, deep - 1)]) ∧
    (¬ deep < tk → (Cd.opAt C i).d = 18 → Cd.stepF C slots i deep = some [((Cd.opAt C i).a, deep), ((i : Int) + 1, deep - 1)]) ∧
    (¬ deep < tk → ¬ (((Cd.opAt C i).d = 2 ∨ (Cd.opAt C i).d = 3 ∨ (Cd.opAt C i).d = 4) ∧ slots ≤ (Cd.opAt C i).a) → ¬ ((Cd.opAt C i).d = 5 ∧ (Cd.fnAt C (Cd.opAt C i).a.toNat).takes.any (fun x => decide (slots ≤ x)) = true) →
      (Cd.opAt C i).d ≠ 20 → (Cd.opAt C i).d ≠ 22 → (Cd.opAt C i).d ≠ 16 → (Cd.opAt C i).d ≠ 17 → (Cd.opAt C i).d ≠ 18 → Cd.stepF C slots i deep = some [((i : Int) + 1, deep - tk + pt)]) := by
  unfold Cd.stepF
  simp only [ht]
  rw [if_neg (by omega), if_neg h28]
  refine ⟨fun h => if_pos h, fun h1 h2 => ?_, fun h1 h2 => ?_, fun h0 h1 => ?_, fun h0 h1 => ?_, fun h0 h1 => ?_, fun h0 h1 => ?_, fun h0 h1 h2 h3 h4 h5 h6 h7 => ?_⟩
  · split
    · rfl
    · rw [if_pos ⟨h1, h2⟩]
  · split
    · rfl
    · rw [if_neg (by omega), if_pos ⟨h1, h2⟩]
  · rw [if_neg h0, if_neg (by omega), if_neg (fun h => by have := h.1; omega), if_pos h1]
  · rw [if_neg h0, if_neg (by omega), if_neg (fun h => by have := h.1; omega), if_neg (by omega), if_pos h1]
  · rw [if_neg h0, if_neg (by omega), if_neg (fun h => by have := h.1; omega), if_neg (by omega), if_neg (by omega), if_pos h1]
  · rw [if_neg h0, if_neg (by omega), if_neg (fun h => by have := h.1; omega), if_neg (by omega), if_neg (by omega), if_neg (by omega), if_pos h1]
  · rw [if_neg h0, if_neg h1, if_neg h2, if_neg (by omega), if_neg h5, if_neg h6, if_neg h7]

theorem takesPuts_bd {C : Cd.GCode} {i : Nat} {tk pt : Int} (ht : Cd.takesPuts (Cd.opAt C i) = (tk, pt)) (hr : Cd.rangeB C.ops.length C.fns.length C.kinds.length (Cd.opAt C i) = true) : 0 ≤ tk ∧ tk ≤ 1201 ∧ 0 ≤ pt ∧ pt ≤ 1 ∧ ((Cd.opAt C i).d = 17 ∨ (Cd.opAt C i).d = 18 → tk = 1) := by
  have := (Cd.rangeB_pos hr).2.2.1
  unfold Cd.takesPuts at ht
  repeat' split at ht
  all_goals
    cases ht
    omega

set_option maxRecDepth 100000 in
set_option maxHeartbeats 2000000 in
/-- OpCase, OpElse: they may not stand alone. -/
theorem rorder_case (B p : Nat) (w : World) (vo vf vk : Value) (C : Cd.GCode) (D R : List Int) (at_ : Nat) (f0 f1 f2 : Int) (f3 : Value) (hx : OrdCtx B p w vo vf vk C D R at_) (hc : (Cd.opAt C at_).d = 29 ∨ (Cd.opAt C at_).d = 30) :
    Calls Try.prog 62 #[.pointer (some ⟨p, 0, none⟩), .agg #[.int .i64 f0, .int .i64 f1, .int .i64 f2, f3], .int .i64 at_] w fun e w' => e = .returned (.tuple #[]) ∧ ChoosePost B p vo vf vk (Cd.stepF C f1 at_ (Cd.dAt D at_)) D R w w' := by
  obtain ⟨b, o, co, g, cap, rfl, hbB, c0, c1, c3, cg, k1, k2, k3, c5, f5, hpl, hbl, hgl⟩ := hx.look
  have hlt := hx.lt
  have hlow := hx.low
  have n8 := hx.n8
  have hst : Hid (Cd.stepF C f1 at_ (Cd.dAt D at_) = none) := Lib.hid (by unfold Cd.stepF; simp only; rw [if_pos hc])
  have hwp := hx.walk.1
  have Hx := Lib.hid hx
  clear hx
  generalize (Cd.opAt C at_).d = od at *
  rcases hc with rfl | rfl
  all_goals
    go_enter Try.func62, Try.ntmps62
    go_wp2
    go_returns
    refine ⟨rfl, ⟨D, R, true, ((Hx.out.walk.setBad true).alloc _).alloc _, ?_⟩, by go_grown⟩
    rw [hst.out]
    exact OrdPost.of_none rfl

set_option maxRecDepth 100000 in
set_option maxHeartbeats 2000000 in
/-- OpSelect. -/
theorem rorder_select (B p : Nat) (w : World) (vo vf vk : Value) (C : Cd.GCode) (D R : List Int) (at_ : Nat) (f0 f1 f2 : Int) (f3 : Value) (hx : OrdCtx B p w vo vf vk C D R at_) (hc : (Cd.opAt C at_).d = 28) :
    Calls Try.prog 62 #[.pointer (some ⟨p, 0, none⟩), .agg #[.int .i64 f0, .int .i64 f1, .int .i64 f2, f3], .int .i64 at_] w fun e w' => e = .returned (.tuple #[]) ∧ ChoosePost B p vo vf vk (Cd.stepF C f1 at_ (Cd.dAt D at_)) D R w w' := by
  obtain ⟨b, o, co, g, cap, rfl, hbB, c0, c1, c3, cg, k1, k2, k3, c5, f5, hpl, hbl, hgl⟩ := hx.look
  have hlt := hx.lt
  have hlow := hx.low
  have n8 := hx.n8
  have hst : Hid (Cd.stepF C f1 at_ (Cd.dAt D at_) = Cd.chooseF C at_ (Cd.dAt D at_)) := Lib.hid (by unfold Cd.stepF; simp only; rw [if_neg (by omega), if_pos hc])
  have Hc := Lib.hid hc
  have Hx := Lib.hid hx
  have hd0 := hx.d0
  have hd1 := hx.d1
  rw [hc] at k1
  clear hx hc
  go_enter Try.func62, Try.ntmps62
  go_wp2_with (go_at_call 82; refine (rchoose_any B p _ _ vf vk C D R at_ (Cd.dAt D at_) ((Hx.out.walk.alloc _).alloc _) (Hx.out.code.ops.below (((Below.refl w.heap.size w).alloc (Nat.le_refl _) _).alloc (by simp) _) hlow) Hx.out.len n8 Hx.out.rng hlt Hc.out hd0 hd1).mono ?_; rintro e w3 ⟨rfl, hP⟩; have HP := Lib.hid hP; clear hP)
  go_returns
  obtain ⟨h1, h2⟩ := HP.out
  rw [hst.out]
  exact ⟨rfl, h1, Below.trans (by go_grown) h2⟩

/-- What there is in memory behind the call of Takes. -/
theorem after_takes {B p : Nat} {w w1 : World} {vo vf vk : Value} {C : Cd.GCode} {D R : List Int} {at_ : Nat} {f0 f1 f2 d a b : Int} {f3 : Value} (hx : OrdCtx B p w vo vf vk C D R at_)
    (hb : Below ((w.alloc (.cells #[.int .i64 f0, .int .i64 f1, .int .i64 f2, f3] 61)).alloc (.cells #[.int .i64 d, .int .i64 a, .int .i64 b] 68)).heap.size ((w.alloc (.cells #[.int .i64 f0, .int .i64 f1, .int .i64 f2, f3] 61)).alloc (.cells #[.int .i64 d, .int .i64 a, .int .i64 b] 68)) w1) :
    w1.cell? ⟨p, 0, none⟩ = some vo ∧ w1.cell? ⟨p, 1, none⟩ = some vf ∧ w1.cell? ⟨p, 5, none⟩ = some (.bool false) ∧ w1.frozen? ⟨p, 5, none⟩ = false ∧ w1.cell? ⟨w.heap.size, 1, none⟩ = some (.int .i64 f1) ∧
      w1.cell? ⟨w.heap.size + 1, 0, none⟩ = some (.int .i64 d) ∧ w1.cell? ⟨w.heap.size + 1, 1, none⟩ = some (.int .i64 a) ∧ w.heap.size + 2 ≤ w1.heap.size ∧ Hid (WalkAt B w1 p vo vf vk D R false) ∧ Hid (CodeV B w1 vo vf vk C) ∧ Hid (Below B w w1) := by
  have hW := ((hx.walk.alloc (.cells #[.int .i64 f0, .int .i64 f1, .int .i64 f2, f3] 61)).alloc (.cells #[.int .i64 d, .int .i64 a, .int .i64 b] 68)).below hb
  obtain ⟨c0, c1, c2, c5, f5⟩ := hW.look
  have hz := hb.size
  simp only [World.size_alloc] at hz
  have hlow := hx.low
  have h0 : Below B w w1 := Below.trans (by go_grown) (hb.mono (by simp; omega))
  refine ⟨c0, c1, c5, f5, ?_, ?_, ?_, by omega, Lib.hid hW, Lib.hid (hx.code.below h0 (Nat.le_refl _)), Lib.hid h0⟩
  · rw [hb.cell (by simp; omega), World.cell?_alloc_lt _ _ _ (by simp), World.cell?_alloc_new]
    rfl
  · rw [hb.cell (by simp)]
    simp [go_sem]
  · rw [hb.cell (by simp)]
    simp [go_sem]

set_option maxRecDepth 100000 in
set_option maxHeartbeats 2000000 in
theorem rorder_few (B p : Nat) (w : World) (vo vf vk : Value) (C : Cd.GCode) (D R : List Int) (at_ : Nat) (f0 f1 f2 : Int) (f3 : Value) (hx : OrdCtx B p w vo vf vk C D R at_) (h29 : (Cd.opAt C at_).d ≠ 29) (h30 : (Cd.opAt C at_).d ≠ 30) (h28 : (Cd.opAt C at_).d ≠ 28) (hfew : Cd.dAt D at_ < (Cd.takesPuts (Cd.opAt C at_)).1) :
    Calls Try.prog 62 #[.pointer (some ⟨p, 0, none⟩), .agg #[.int .i64 f0, .int .i64 f1, .int .i64 f2, f3], .int .i64 at_] w fun e w' => e = .returned (.tuple #[]) ∧ ChoosePost B p vo vf vk (Cd.stepF C f1 at_ (Cd.dAt D at_)) D R w w' := by
  obtain ⟨b, o, co, g, cap, rfl, hbB, c0, c1, c3, cg, k1, k2, k3, c5, f5, hpl, hbl, hgl⟩ := hx.look
  have hlt := hx.lt
  have hlow := hx.low
  have n8 := hx.n8
  have hd0 := hx.d0
  have hd1 := hx.d1
  have hwp := hx.walk.1
  obtain ⟨tk, pt, ht⟩ : ∃ tk pt, Cd.takesPuts (Cd.opAt C at_) = (tk, pt) := ⟨_, _, rfl⟩
  obtain ⟨rg1, rg2, rg3, rg4, rg5, rg6⟩ := Cd.rangeB_pos (hx.rng _ (opAt_mem hlt))
  obtain ⟨bd1, bd2, bd3, bd4, bd5⟩ := takesPuts_bd ht (hx.rng _ (opAt_mem hlt))
  have Hst := Lib.hid (@stepF_cases C f1 at_ (Cd.dAt D at_) tk pt ht h29 h30 h28)
  have Hx := Lib.hid hx
  have Ht : Hid (Cd.takesPuts ⟨(Cd.opAt C at_).d, (Cd.opAt C at_).a, (Cd.opAt C at_).b⟩ = (tk, pt)) := Lib.hid ht
  have Hta : Hid ((Cd.opAt C at_).d = 19 ∨ (Cd.opAt C at_).d = 27 → 0 ≤ (Cd.opAt C at_).a ∧ (Cd.opAt C at_).a ≤ 1200) := Lib.hid (fun h => rg3 (by omega))
  have b29 : ((Cd.opAt C at_).d == 29) = false := by simpa using h29
  have b30 : ((Cd.opAt C at_).d == 30) = false := by simpa using h30
  have b28 : ((Cd.opAt C at_).d == 28) = false := by simpa using h28
  rw [ht] at hfew
  have hno := Lib.hid (Hst.out.1 hfew)
  clear hx ht rg1 rg2 rg3 rg4 bd5 h29 h30 h28
  dsimp only at hfew
  generalize Cd.dAt D at_ = deep at *
  go_enter Try.func62, Try.ntmps62
  go_wp2_with (go_at_call 83; refine (takes_tup _ _ _ _ tk pt Ht.out Hta.out).mono ?_; rintro e w1 ⟨rfl, hb1⟩; obtain ⟨m0, m1, m5, mf5, ms, md, ma, hz1, HW1, HC1, HB1⟩ := after_takes Hx.out hb1; have Hb1 := Lib.hid hb1; clear hb1)
  go_returns
  refine ⟨rfl, ⟨D, R, true, HW1.out.setBad true, ?_⟩, HB1.out.setCell hwp _⟩
  rw [hno.out]
  exact OrdPost.of_none rfl

set_option maxRecDepth 100000 in
set_option maxHeartbeats 2000000 in
theorem rorder_end (B p : Nat) (w : World) (vo vf vk : Value) (C : Cd.GCode) (D R : List Int) (at_ : Nat) (f0 f1 f2 : Int) (f3 : Value) (hx : OrdCtx B p w vo vf vk C D R at_) (h29 : (Cd.opAt C at_).d ≠ 29) (h30 : (Cd.opAt C at_).d ≠ 30) (h28 : (Cd.opAt C at_).d ≠ 28) (hc : (Cd.opAt C at_).d = 20 ∨ (Cd.opAt C at_).d = 22) (hfew : ¬ Cd.dAt D at_ < (Cd.takesPuts (Cd.opAt C at_)).1) :
    Calls Try.prog 62 #[.pointer (some ⟨p, 0, none⟩), .agg #[.int .i64 f0, .int .i64 f1, .int .i64 f2, f3], .int .i64 at_] w fun e w' => e = .returned (.tuple #[]) ∧ ChoosePost B p vo vf vk (Cd.stepF C f1 at_ (Cd.dAt D at_)) D R w w' := by
  obtain ⟨b, o, co, g, cap, rfl, hbB, c0, c1, c3, cg, k1, k2, k3, c5, f5, hpl, hbl, hgl⟩ := hx.look
  have hlt := hx.lt
  have hlow := hx.low
  have n8 := hx.n8
  have hd0 := hx.d0
  have hd1 := hx.d1
  have hwp := hx.walk.1
  obtain ⟨tk, pt, ht⟩ : ∃ tk pt, Cd.takesPuts (Cd.opAt C at_) = (tk, pt) := ⟨_, _, rfl⟩
  obtain ⟨rg1, rg2, rg3, rg4, rg5, rg6⟩ := Cd.rangeB_pos (hx.rng _ (opAt_mem hlt))
  obtain ⟨bd1, bd2, bd3, bd4, bd5⟩ := takesPuts_bd ht (hx.rng _ (opAt_mem hlt))
  have Hst := Lib.hid (@stepF_cases C f1 at_ (Cd.dAt D at_) tk pt ht h29 h30 h28)
  have Hx := Lib.hid hx
  have Ht : Hid (Cd.takesPuts ⟨(Cd.opAt C at_).d, (Cd.opAt C at_).a, (Cd.opAt C at_).b⟩ = (tk, pt)) := Lib.hid ht
  have Hta : Hid ((Cd.opAt C at_).d = 19 ∨ (Cd.opAt C at_).d = 27 → 0 ≤ (Cd.opAt C at_).a ∧ (Cd.opAt C at_).a ≤ 1200) := Lib.hid (fun h => rg3 (by omega))
  rw [ht] at hfew
  have hno := Lib.hid (Hst.out.2.2.2.1 hfew hc)
  clear hx ht rg1 rg2 rg3 rg4 bd5 h29 h30 h28 Hst
  dsimp only at hfew
  generalize Cd.dAt D at_ = deep at *
  generalize (Cd.opAt C at_).d = od at *
  rcases hc with rfl | rfl
  all_goals
    go_enter Try.func62, Try.ntmps62
    go_wp2_with (go_at_call 83; refine (takes_tup _ _ _ _ tk pt Ht.out Hta.out).mono ?_; rintro e w1 ⟨rfl, hb1⟩; obtain ⟨m0, m1, m5, mf5, ms, md, ma, hz1, HW1, HC1, HB1⟩ := after_takes Hx.out hb1; have Hb1 := Lib.hid hb1; clear hb1)
    go_returns
    refine ⟨rfl, ⟨D, R, false, HW1.out, ?_⟩, HB1.out⟩
    rw [hno.out]
    exact OrdPost.of_some (LeadPost.nil D R)

set_option maxRecDepth 100000 in
set_option maxHeartbeats 2000000 in
theorem rorder_jump (B p : Nat) (w : World) (vo vf vk : Value) (C : Cd.GCode) (D R : List Int) (at_ : Nat) (f0 f1 f2 : Int) (f3 : Value) (hx : OrdCtx B p w vo vf vk C D R at_) (h29 : (Cd.opAt C at_).d ≠ 29) (h30 : (Cd.opAt C at_).d ≠ 30) (h28 : (Cd.opAt C at_).d ≠ 28) (hc : (Cd.opAt C at_).d = 16) (hfew : ¬ Cd.dAt D at_ < (Cd.takesPuts (Cd.opAt C at_)).1) :
    Calls Try.prog 62 #[.pointer (some ⟨p, 0, none⟩), .agg #[.int .i64 f0, .int .i64 f1, .int .i64 f2, f3], .int .i64 at_] w fun e w' => e = .returned (.tuple #[]) ∧ ChoosePost B p vo vf vk (Cd.stepF C f1 at_ (Cd.dAt D at_)) D R w w' := by
  obtain ⟨b, o, co, g, cap, rfl, hbB, c0, c1, c3, cg, k1, k2, k3, c5, f5, hpl, hbl, hgl⟩ := hx.look
  have hlt := hx.lt
  have hlow := hx.low
  have n8 := hx.n8
  have hd0 := hx.d0
  have hd1 := hx.d1
  have hwp := hx.walk.1
  obtain ⟨tk, pt, ht⟩ : ∃ tk pt, Cd.takesPuts (Cd.opAt C at_) = (tk, pt) := ⟨_, _, rfl⟩
  obtain ⟨rg1, rg2, rg3, rg4, rg5, rg6⟩ := Cd.rangeB_pos (hx.rng _ (opAt_mem hlt))
  obtain ⟨bd1, bd2, bd3, bd4, bd5⟩ := takesPuts_bd ht (hx.rng _ (opAt_mem hlt))
  have Hst := Lib.hid (@stepF_cases C f1 at_ (Cd.dAt D at_) tk pt ht h29 h30 h28)
  have Hx := Lib.hid hx
  have Ht : Hid (Cd.takesPuts ⟨(Cd.opAt C at_).d, (Cd.opAt C at_).a, (Cd.opAt C at_).b⟩ = (tk, pt)) := Lib.hid ht
  have Hta : Hid ((Cd.opAt C at_).d = 19 ∨ (Cd.opAt C at_).d = 27 → 0 ≤ (Cd.opAt C at_).a ∧ (Cd.opAt C at_).a ≤ 1200) := Lib.hid (fun h => rg3 (by omega))
  rw [ht] at hfew
  have hno := Lib.hid (Hst.out.2.2.2.2.1 hfew hc)
  obtain ⟨ja, jb⟩ := rg1 (Or.inl hc)
  clear hx ht rg1 rg2 rg3 rg4 bd5 h29 h30 h28 Hst
  dsimp only at hfew
  have hpd : 0 ≤ Cd.dAt D at_ := hd0
  generalize hdp : Cd.dAt D at_ = deep at *
  generalize (Cd.opAt C at_).d = od at *
  subst hc
  go_enter Try.func62, Try.ntmps62
  go_wp2_with (first | (go_at_call 83; refine (takes_tup _ _ _ _ tk pt Ht.out Hta.out).mono ?_; rintro e w1 ⟨rfl, hb1⟩; obtain ⟨m0, m1, m5, mf5, ms, md, ma, hz1, HW1, HC1, HB1⟩ := after_takes Hx.out hb1; have Hb1 := Lib.hid hb1; clear hb1) | (go_at_call 61; refine (rlead_int B p _ _ vf vk C.ops D R false _ _ HW1.out HC1.out.ops Hx.out.len n8 ja hpd).mono ?_; rintro e w2 ⟨rfl, hW2, hb2⟩; have HW2 := Lib.hid hW2; clear hW2))
  go_returns
  refine ⟨rfl, ⟨_, _, _, HW2.out, ?_⟩, HB1.out.trans hb2⟩
  rw [hno.out]
  exact OrdPost.of_some ((LeadPost.nil D R).snoc ((Cd.opAt C at_).a, deep))

set_option maxRecDepth 100000 in
set_option maxHeartbeats 2000000 in
theorem rorder_unless (B p : Nat) (w : World) (vo vf vk : Value) (C : Cd.GCode) (D R : List Int) (at_ : Nat) (f0 f1 f2 : Int) (f3 : Value) (hx : OrdCtx B p w vo vf vk C D R at_) (h29 : (Cd.opAt C at_).d ≠ 29) (h30 : (Cd.opAt C at_).d ≠ 30) (h28 : (Cd.opAt C at_).d ≠ 28) (hc : (Cd.opAt C at_).d = 17) (hfew : ¬ Cd.dAt D at_ < (Cd.takesPuts (Cd.opAt C at_)).1) :
    Calls Try.prog 62 #[.pointer (some ⟨p, 0, none⟩), .agg #[.int .i64 f0, .int .i64 f1, .int .i64 f2, f3], .int .i64 at_] w fun e w' => e = .returned (.tuple #[]) ∧ ChoosePost B p vo vf vk (Cd.stepF C f1 at_ (Cd.dAt D at_)) D R w w' := by
  obtain ⟨b, o, co, g, cap, rfl, hbB, c0, c1, c3, cg, k1, k2, k3, c5, f5, hpl, hbl, hgl⟩ := hx.look
  have hlt := hx.lt
  have hlow := hx.low
  have n8 := hx.n8
  have hd0 := hx.d0
  have hd1 := hx.d1
  have hwp := hx.walk.1
  obtain ⟨tk, pt, ht⟩ : ∃ tk pt, Cd.takesPuts (Cd.opAt C at_) = (tk, pt) := ⟨_, _, rfl⟩
  obtain ⟨rg1, rg2, rg3, rg4, rg5, rg6⟩ := Cd.rangeB_pos (hx.rng _ (opAt_mem hlt))
  obtain ⟨bd1, bd2, bd3, bd4, bd5⟩ := takesPuts_bd ht (hx.rng _ (opAt_mem hlt))
  have Hst := Lib.hid (@stepF_cases C f1 at_ (Cd.dAt D at_) tk pt ht h29 h30 h28)
  have Hx := Lib.hid hx
  have Ht : Hid (Cd.takesPuts ⟨(Cd.opAt C at_).d, (Cd.opAt C at_).a, (Cd.opAt C at_).b⟩ = (tk, pt)) := Lib.hid ht
  have Hta : Hid ((Cd.opAt C at_).d = 19 ∨ (Cd.opAt C at_).d = 27 → 0 ≤ (Cd.opAt C at_).a ∧ (Cd.opAt C at_).a ≤ 1200) := Lib.hid (fun h => rg3 (by omega))
  rw [ht] at hfew
  have hno := Lib.hid (Hst.out.2.2.2.2.2.1 hfew hc)
  obtain ⟨ja, jb⟩ := rg1 (by omega)
  have htk1 : 1 ≤ tk := by have := bd5 (by omega); omega
  clear hx ht rg1 rg2 rg3 rg4 bd5 h29 h30 h28 Hst
  dsimp only at hfew
  have hpd : 0 ≤ Cd.dAt D at_ := hd0
  generalize hdp : Cd.dAt D at_ = deep at *
  generalize (Cd.opAt C at_).d = od at *
  subst hc
  go_enter Try.func62, Try.ntmps62
  go_wp2_with (go_at_call 83; refine (takes_tup _ _ _ _ tk pt Ht.out Hta.out).mono ?_; rintro e w1 ⟨rfl, hb1⟩; obtain ⟨m0, m1, m5, mf5, ms, md, ma, hz1, HW1, HC1, HB1⟩ := after_takes Hx.out hb1; have Hb1 := Lib.hid hb1; clear hb1)
  refine (rlead_int B p _ _ vf vk C.ops D R false _ _ HW1.out HC1.out.ops Hx.out.len n8 ja (by omega)).mono ?_
  rintro e w2 ⟨rfl, hW2, hb2⟩
  have HW2 := Lib.hid hW2
  have HB2 := Lib.hid hb2
  clear hW2 hb2
  go_wp2_with fail
  refine (rlead_int B p _ _ vf vk C.ops _ _ _ _ _ HW2.out (HC1.out.ops.below HB2.out (Nat.le_refl _)) (by rw [rD_length]; exact Hx.out.len) n8 (by omega) (by omega)).mono ?_
  rintro e w3 ⟨rfl, hW3, hb3⟩
  have HW3 := Lib.hid hW3
  have HB3 := Lib.hid hb3
  clear hW3 hb3
  go_wp2
  go_returns
  refine ⟨rfl, ⟨_, _, _, HW3.out, ?_⟩, (HB1.out.trans HB2.out).trans HB3.out⟩
  rw [hno.out]
  exact OrdPost.of_some (((LeadPost.nil D R).snoc ((Cd.opAt C at_).a, deep - 1)).snoc ((at_ : Int) + 1, deep - 1))

set_option maxRecDepth 100000 in
set_option maxHeartbeats 2000000 in
theorem rorder_short (B p : Nat) (w : World) (vo vf vk : Value) (C : Cd.GCode) (D R : List Int) (at_ : Nat) (f0 f1 f2 : Int) (f3 : Value) (hx : OrdCtx B p w vo vf vk C D R at_) (h29 : (Cd.opAt C at_).d ≠ 29) (h30 : (Cd.opAt C at_).d ≠ 30) (h28 : (Cd.opAt C at_).d ≠ 28) (hc : (Cd.opAt C at_).d = 18) (hfew : ¬ Cd.dAt D at_ < (Cd.takesPuts (Cd.opAt C at_)).1) :
    Calls Try.prog 62 #[.pointer (some ⟨p, 0, none⟩), .agg #[.int .i64 f0, .int .i64 f1, .int .i64 f2, f3], .int .i64 at_] w fun e w' => e = .returned (.tuple #[]) ∧ ChoosePost B p vo vf vk (Cd.stepF C f1 at_ (Cd.dAt D at_)) D R w w' := by
  obtain ⟨b, o, co, g, cap, rfl, hbB, c0, c1, c3, cg, k1, k2, k3, c5, f5, hpl, hbl, hgl⟩ := hx.look
  have hlt := hx.lt
  have hlow := hx.low
  have n8 := hx.n8
  have hd0 := hx.d0
  have hd1 := hx.d1
  have hwp := hx.walk.1
  obtain ⟨tk, pt, ht⟩ : ∃ tk pt, Cd.takesPuts (Cd.opAt C at_) = (tk, pt) := ⟨_, _, rfl⟩
  obtain ⟨rg1, rg2, rg3, rg4, rg5, rg6⟩ := Cd.rangeB_pos (hx.rng _ (opAt_mem hlt))
  obtain ⟨bd1, bd2, bd3, bd4, bd5⟩ := takesPuts_bd ht (hx.rng _ (opAt_mem hlt))
  have Hst := Lib.hid (@stepF_cases C f1 at_ (Cd.dAt D at_) tk pt ht h29 h30 h28)
  have Hx := Lib.hid hx
  have Ht : Hid (Cd.takesPuts ⟨(Cd.opAt C at_).d, (Cd.opAt C at_).a, (Cd.opAt C at_).b⟩ = (tk, pt)) := Lib.hid ht
  have Hta : Hid ((Cd.opAt C at_).d = 19 ∨ (Cd.opAt C at_).d = 27 → 0 ≤ (Cd.opAt C at_).a ∧ (Cd.opAt C at_).a ≤ 1200) := Lib.hid (fun h => rg3 (by omega))
  rw [ht] at hfew
  have hno := Lib.hid (Hst.out.2.2.2.2.2.2.1 hfew hc)
  obtain ⟨ja, jb⟩ := rg1 (by omega)
  have htk1 : 1 ≤ tk := by have := bd5 (by omega); omega
  clear hx ht rg1 rg2 rg3 rg4 bd5 h29 h30 h28 Hst
  dsimp only at hfew
  have hpd : 0 ≤ Cd.dAt D at_ := hd0
  generalize hdp : Cd.dAt D at_ = deep at *
  generalize (Cd.opAt C at_).d = od at *
  subst hc
  go_enter Try.func62, Try.ntmps62
  go_wp2_with (go_at_call 83; refine (takes_tup _ _ _ _ tk pt Ht.out Hta.out).mono ?_; rintro e w1 ⟨rfl, hb1⟩; obtain ⟨m0, m1, m5, mf5, ms, md, ma, hz1, HW1, HC1, HB1⟩ := after_takes Hx.out hb1; have Hb1 := Lib.hid hb1; clear hb1)
  refine (rlead_int B p _ _ vf vk C.ops D R false _ _ HW1.out HC1.out.ops Hx.out.len n8 ja hpd).mono ?_
  rintro e w2 ⟨rfl, hW2, hb2⟩
  have HW2 := Lib.hid hW2
  have HB2 := Lib.hid hb2
  clear hW2 hb2
  go_wp2_with fail
  refine (rlead_int B p _ _ vf vk C.ops _ _ _ _ _ HW2.out (HC1.out.ops.below HB2.out (Nat.le_refl _)) (by rw [rD_length]; exact Hx.out.len) n8 (by omega) (by omega)).mono ?_
  rintro e w3 ⟨rfl, hW3, hb3⟩
  have HW3 := Lib.hid hW3
  have HB3 := Lib.hid hb3
  clear hW3 hb3
  go_wp2
  go_returns
  refine ⟨rfl, ⟨_, _, _, HW3.out, ?_⟩, (HB1.out.trans HB2.out).trans HB3.out⟩
  rw [hno.out]
  exact OrdPost.of_some (((LeadPost.nil D R).snoc ((Cd.opAt C at_).a, deep)).snoc ((at_ : Int) + 1, deep - 1))
end Go.Proofs.Ytjomajfgoaifbaa
