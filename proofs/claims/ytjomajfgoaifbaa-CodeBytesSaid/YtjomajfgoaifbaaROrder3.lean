/-
  PROVED HERE: what the reference's Walk.order does to a walk's memory, at OpMake. No condition beyond the lemmas' own premises.
-/
import Derived.Test.YtjomajfgoaifbaaROrder2
namespace Go.Proofs.Ytjomajfgoaifbaa
open Go.RowKit

theorem FnsV.at {B : Nat} {w : World} {v : Value} {l : List Cd.GFn} {i : Nat} (h : FnsV B w v l) (hi : i < l.length) : ∃ fb fo cf u, v = .slice (some ⟨fb, fo, none⟩) l.length cf ∧ fb < B ∧ l.length ≤ 2932031007403 ∧ w.cell? ⟨fb, fo + i * 4, none⟩ = some (.int .i64 (l.getD i ⟨0, 0, 0, []⟩).params) ∧ w.cell? ⟨fb, fo + i * 4 + 1, none⟩ = some (.int .i64 (l.getD i ⟨0, 0, 0, []⟩).slots) ∧
    w.cell? ⟨fb, fo + i * 4 + 2, none⟩ = some (.int .i64 (l.getD i ⟨0, 0, 0, []⟩).start) ∧ w.cell? ⟨fb, fo + i * 4 + 3, none⟩ = some u ∧ IntsV B w u (l.getD i ⟨0, 0, 0, []⟩).takes := by
  obtain ⟨_, a, fb, fo, cf, rfl, h1, h2, h3, hc⟩ := h
  obtain ⟨rfl, hB⟩ := h3 (by omega)
  obtain ⟨c1, c2, c3, u, c4, c5⟩ := hc i hi
  exact ⟨fb, fo, cf, u, rfl, hB, by omega, c1, c2, c3, c4, c5⟩

theorem any_take {l : List Int} {P : Int → Bool} {j : Nat} (hj : j < l.length) : (l.take (j + 1)).any P = ((l.take j).any P || P (iAt l j)) := by
  rw [List.take_succ_eq_append_getElem hj, List.any_append]
  simp [iAt, List.getElem?_eq_getElem hj]

set_option maxRecDepth 100000 in
set_option maxHeartbeats 2000000 in
theorem rorder_make (B p : Nat) (w : World) (vo vf vk : Value) (C : Cd.GCode) (D R : List Int) (at_ : Nat) (f0 f1 f2 : Int) (f3 : Value) (hx : OrdCtx B p w vo vf vk C D R at_) (h29 : (Cd.opAt C at_).d ≠ 29) (h30 : (Cd.opAt C at_).d ≠ 30) (h28 : (Cd.opAt C at_).d ≠ 28) (hc : (Cd.opAt C at_).d = 5) (hfew : ¬ Cd.dAt D at_ < (Cd.takesPuts (Cd.opAt C at_)).1) :
    Calls Try.prog 62 #[.pointer (some ⟨p, 0, none⟩), .agg #[.int .i64 f0, .int .i64 f1, .int .i64 f2, f3], .int .i64 at_] w fun e w' => e = .returned (.tuple #[]) ∧ ChoosePost B p vo vf vk (Cd.stepF C f1 at_ (Cd.dAt D at_)) D R w w' := by
  obtain ⟨b, o, co, g, cap, rfl, hbB, c0, c1, c3, cg, k1, k2, k3, c5, f5, hpl, hbl, hgl⟩ := hx.look
  have hlt := hx.lt
  have hlow := hx.low
  have n8 := hx.n8
  have hd0 := hx.d0
  have hd1 := hx.d1
  have hwp := hx.walk.1
  obtain ⟨tk, pt, ht⟩ : ∃ tk pt, Cd.takesPuts (Cd.opAt C at_) = (tk, pt) := ⟨_, _, rfl⟩
  obtain ⟨rg1, rg2, rg3, rg4, rg5, rg6⟩ := Cd.rangeB_pos (hx.rng _ (opAt_mem hlt))
  obtain ⟨bd1, bd2, bd3, bd4, bd5⟩ := takesPuts_bd ht (hx.rng _ (opAt_mem hlt))
  have Hst := Lib.hid (@stepF_cases C f1 at_ (Cd.dAt D at_) tk pt ht h29 h30 h28)
  have Hx := Lib.hid hx
  have Ht : Hid (Cd.takesPuts ⟨(Cd.opAt C at_).d, (Cd.opAt C at_).a, (Cd.opAt C at_).b⟩ = (tk, pt)) := Lib.hid ht
  have Hta : Hid ((Cd.opAt C at_).d = 19 ∨ (Cd.opAt C at_).d = 27 → 0 ≤ (Cd.opAt C at_).a ∧ (Cd.opAt C at_).a ≤ 1200) := Lib.hid (fun h => rg3 (by omega))
  rw [ht] at hfew
  obtain ⟨ma0, ma1⟩ := rg4 hc
  obtain ⟨m, hm⟩ : ∃ m : Nat, (Cd.opAt C at_).a = m := Int.eq_ofNat_of_zero_le ma0
  have hmf : m < C.fns.length := by omega
  have hyes := Lib.hid (Hst.out.2.2.1 hc)
  have hno := Lib.hid (fun hs : ¬ (Cd.fnAt C (Cd.opAt C at_).a.toNat).takes.any (fun x => decide (f1 ≤ x)) = true => Hst.out.2.2.2.2.2.2.2 hfew (fun h => by omega) (fun h => hs h.2) (by omega) (by omega) (by omega) (by omega) (by omega))
  clear hx ht rg1 rg2 rg3 rg4 bd5 h29 h30 h28 Hst ma0 ma1
  dsimp only at hfew
  generalize hdp : Cd.dAt D at_ = deep at *
  generalize (Cd.opAt C at_).d = od at *
  rw [hm] at k2 Ht Hta hyes hno
  rw [Int.toNat_natCast] at hyes hno
  clear hm
  subst hc
  obtain ⟨fb, fo, cf, u, rfl, hfB, _, q1, q2, q3, q4, q5⟩ := Hx.out.code.fns.at hmf
  have Hq5 : Hid (IntsV B w u (Cd.fnAt C m).takes) := Lib.hid q5
  obtain ⟨hI, ua, ub, uo, uc, rfl, hu1, hu2, hu3, hu4⟩ := q5
  change 0 < (Cd.fnAt C m).takes.length → _ at hu3
  change ∀ i, i < (Cd.fnAt C m).takes.length → w.cell? ⟨ub, uo + i, none⟩ = some (.int .i64 (iAt (Cd.fnAt C m).takes i)) at hu4
  change (Cd.fnAt C m).takes.length ≤ _ at hu1
  change w.cell? _ = some (.slice ua (Cd.fnAt C m).takes.length uc) at q4
  clear q1 q2 q3 hI
  have Hu3 := Lib.hid hu3
  have Hu4 := Lib.hid hu4
  clear hu3 hu4
  generalize (Cd.fnAt C m).takes = l at *
  go_enter Try.func62, Try.ntmps62
  go_wp2_with (go_at_call 83; refine (takes_tup _ _ _ _ tk pt Ht.out Hta.out).mono ?_; rintro e w1 ⟨rfl, hb1⟩; obtain ⟨m0, m1, m5, mf5, ms, md, ma, hz1, HW1, HC1, HB1⟩ := after_takes Hx.out hb1; have Hb1 := Lib.hid hb1; clear hb1)
  have q4' := (HB1.out.cell (p := ⟨fb, fo + m * 4 + 3, none⟩) hfB).trans q4
  go_quiet (fail)
  go_wp2
  go_loopw [11] (fun i wr => Below B w wr ∧ wr.cell? ⟨w.heap.size, 1, none⟩ = some (.int .i64 f1) ∧ wr.cell? ⟨w.heap.size + 1, 0, none⟩ = some (.int .i64 5) ∧ w.heap.size + 2 ≤ wr.heap.size ∧ ∃ j : Nat, j ≤ l.length ∧ i = .int .i64 j ∧ Hid (WalkAt B wr p (.slice (some ⟨b, o, none⟩) C.ops.length co) (.slice (some ⟨fb, fo, none⟩) C.fns.length cf) vk D R ((l.take j).any fun x => decide (f1 ≤ x)))) (fun i _ => l.length - (intOf i).toNat)
  case atStart => exact ⟨below_drewN HB1.out _, ms, md, hz1, 0, by omega, rfl, Lib.hid (HW1.out.below (below_drewN (Below.refl _ _) _))⟩
  case round =>
    obtain ⟨hbel, ms', md', hz', j, hj, rfl, HWr⟩ := hrel
    obtain ⟨r0, r1, _, r5, rf5⟩ := HWr.out.look
    have hplr := HWr.out.lt
    clear m0 m1 m5 mf5 ms md ma q4'
    by_cases hjl : j < l.length
    · obtain ⟨rfl, huB⟩ := Hu3.out (by omega)
      have u4 := (hbel.cell (p := ⟨ub, uo + j, none⟩) huB).trans (Hu4.out j hjl)
      have hany := any_take (P := fun x => decide (f1 ≤ x)) hjl
      have Hany := Lib.hid hany
      clear hany
      generalize iAt l j = x at *
      by_cases hx : f1 ≤ x
      · go_wp2
        go_quiet (fail)
        go_wp2
        go_roundw
        case rel => exact ⟨(below_drewN hbel _).setCell hwp _, by rw [World.cell?_setCell_other _ _ _ _ (by intro e; cases e)]; exact ms', by rw [World.cell?_setCell_other _ _ _ _ (by intro e; cases e)]; exact md', by simpa using hz', j + 1, by omega, by go_num, Lib.hid (by rw [Hany.out]; simp only [hx, decide_true, Bool.or_true]; exact (HWr.out.below (below_drewN (Below.refl _ _) _)).setBad true)⟩
        case measure => simp [intOf]; omega
      · go_wp2
        go_quiet (fail)
        go_wp2
        go_roundw
        case rel => exact ⟨below_drewN hbel _, ms', md', hz', j + 1, by omega, by go_num, Lib.hid (by rw [Hany.out, show decide (f1 ≤ x) = false from decide_eq_false (by omega), Bool.or_false]; exact HWr.out.below (below_drewN (Below.refl _ _) _))⟩
        case measure => simp [intOf]; omega
    · obtain rfl : j = l.length := by omega
      rw [List.take_length] at HWr
      have hops := Lib.hid (Hx.out.code.ops.below hbel (Nat.le_refl _))
      go_wp2_with fail
      refine (rlead_int B p _ _ (.slice (some ⟨fb, fo, none⟩) C.fns.length cf) vk C.ops D R _ _ _ HWr.out hops.out Hx.out.len n8 (by omega) (by omega)).mono ?_
      rintro e w2 ⟨rfl, hW2, hb2⟩
      have HW2 := Lib.hid hW2
      clear hW2
      go_wp2_with fail
      go_returns
      refine ⟨rfl, ⟨_, _, _, HW2.out, ?_⟩, hbel.trans hb2⟩
      cases hany : l.any (fun x => decide (f1 ≤ x)) with
      | true =>
        rw [hyes.out hany]
        exact OrdPost.bad
      | false =>
        rw [hno.out (by rw [hany]; simp)]
        exact OrdPost.of_some ((LeadPost.nil D R).snoc ((at_ : Int) + 1, deep - tk + pt))

/-- What an order makes of a walk, whatever it is. -/
theorem rorder_any (B p : Nat) (w : World) (vo vf vk : Value) (C : Cd.GCode) (D R : List Int) (at_ : Nat) (f0 f1 f2 : Int) (f3 : Value) (hx : OrdCtx B p w vo vf vk C D R at_) :
    Calls Try.prog 62 #[.pointer (some ⟨p, 0, none⟩), .agg #[.int .i64 f0, .int .i64 f1, .int .i64 f2, f3], .int .i64 at_] w fun e w' => e = .returned (.tuple #[]) ∧ ChoosePost B p vo vf vk (Cd.stepF C f1 at_ (Cd.dAt D at_)) D R w w' := by
  by_cases h1 : (Cd.opAt C at_).d = 29 ∨ (Cd.opAt C at_).d = 30
  · exact rorder_case B p w vo vf vk C D R at_ f0 f1 f2 f3 hx h1
  by_cases h2 : (Cd.opAt C at_).d = 28
  · exact rorder_select B p w vo vf vk C D R at_ f0 f1 f2 f3 hx h2
  by_cases h3 : Cd.dAt D at_ < (Cd.takesPuts (Cd.opAt C at_)).1
  · exact rorder_few B p w vo vf vk C D R at_ f0 f1 f2 f3 hx (by omega) (by omega) h2 h3
  by_cases h4 : (Cd.opAt C at_).d = 20 ∨ (Cd.opAt C at_).d = 22
  · exact rorder_end B p w vo vf vk C D R at_ f0 f1 f2 f3 hx (by omega) (by omega) h2 h4 h3
  by_cases h5 : (Cd.opAt C at_).d = 16
  · exact rorder_jump B p w vo vf vk C D R at_ f0 f1 f2 f3 hx (by omega) (by omega) h2 h5 h3
  by_cases h6 : (Cd.opAt C at_).d = 17
  · exact rorder_unless B p w vo vf vk C D R at_ f0 f1 f2 f3 hx (by omega) (by omega) h2 h6 h3
  by_cases h7 : (Cd.opAt C at_).d = 18
  · exact rorder_short B p w vo vf vk C D R at_ f0 f1 f2 f3 hx (by omega) (by omega) h2 h7 h3
  by_cases h8 : (Cd.opAt C at_).d = 2 ∨ (Cd.opAt C at_).d = 3 ∨ (Cd.opAt C at_).d = 4
  · exact rorder_slot B p w vo vf vk C D R at_ f0 f1 f2 f3 hx (by omega) (by omega) h2 h8 h3
  by_cases h9 : (Cd.opAt C at_).d = 5
  · exact rorder_make B p w vo vf vk C D R at_ f0 f1 f2 f3 hx (by omega) (by omega) h2 h9 h3
  exact rorder_next B p w vo vf vk C D R at_ f0 f1 f2 f3 hx (by omega) (by omega) h2 (by omega) (by omega) (by omega) h9 (by omega) (by omega) h5 h6 h7 h3
end Go.Proofs.Ytjomajfgoaifbaa
