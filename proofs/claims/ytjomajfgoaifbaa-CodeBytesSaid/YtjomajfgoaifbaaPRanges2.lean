/-
  PROVED HERE: the program's ranges tells whether all numbers of code may be. No condition beyond the lemmas' own premises.
-/
import Derived.Test.YtjomajfgoaifbaaPRanges
namespace Go.Proofs.Ytjomajfgoaifbaa
open Go.RowKit

theorem okAll_fns {C : Cd.GCode} (h : C.fns.all (Cd.fnOK C.ops.length) = false) : Cd.okAll C = false := by unfold Cd.okAll; rw [h]; simp
theorem okAll_kinds {C : Cd.GCode} (h : C.kinds.all (Cd.kindOK C.fns.length) = false) : Cd.okAll C = false := by unfold Cd.okAll; rw [h]; simp
theorem okAll_ops {C : Cd.GCode} (h : C.fns.all (Cd.fnOK C.ops.length) = true) (h2 : C.kinds.all (Cd.kindOK C.fns.length) = true) : Cd.okAll C = C.ops.all (Cd.rangeB C.ops.length C.fns.length C.kinds.length) := by unfold Cd.okAll; rw [h, h2]; simp
theorem any_not {α : Type} (l : List α) (p : α → Bool) : l.any (fun x => !p x) = !l.all p := by induction l with | nil => rfl | cons a l ih => simp [ih]

theorem IntsV.tail {B : Nat} {w : World} {ub uo uc : Nat} {l : List Int} (h0 : ∀ x ∈ l, I64 x) (h1 : l.length ≤ uc) (h2 : l.length * 8 ≤ 140737488351232 ∧ uc ≤ 9223372036854775807) (hB : 0 < l.length → ub < B) (hc : ∀ i, i < l.length → w.cell? ⟨ub, uo + i, none⟩ = some (.int .i64 (iAt l i))) :
    IntsV B w (.slice (if uc = 1 then some ⟨ub, uo, none⟩ else some ⟨ub, uo + 1, none⟩) (l.length - 1) (uc - 1)) (l.drop 1) := by
  refine ⟨fun x hx => h0 x (List.mem_of_mem_drop hx), _, ub, uo + 1, uc - 1, by rw [List.length_drop], by rw [List.length_drop]; omega, by rw [List.length_drop]; omega, fun h => ?_, fun i hi => ?_⟩
  · rw [List.length_drop] at h
    rw [if_neg (by omega)]
    exact ⟨rfl, hB (by omega)⟩
  · rw [List.length_drop] at hi
    have := hc (i + 1) (by omega)
    rw [show uo + (i + 1) = uo + 1 + i by omega] at this
    rw [this]
    congr 2
    unfold iAt
    simp [List.getD_eq_getElem?_getD]

set_option maxRecDepth 100000 in
set_option maxHeartbeats 4000000 in
theorem pranges_any (B r p : Nat) (w : World) (ao af ak : Option Addr) (co cf ck : Nat) (vd vw : Value) (C : Cd.GCode) (hC : CodeV B w (.slice ao C.ops.length co) (.slice af C.fns.length cf) (.slice ak C.kinds.length ck) C) (hB : B ≤ w.heap.size) (hT : TabAt r w)
    (hb : w.heap[p]? = some (.cells #[.slice ao C.ops.length co, .slice af C.fns.length cf, .slice ak C.kinds.length ck, .map (some r), vd, vw] 59 (0, 0))) (_s1 : C.ops.length ≤ 8000) (s2 : C.fns.length ≤ 1200) (s3 : C.kinds.length ≤ 1200) :
    Calls Try.prog 19 #[.pointer (some ⟨p, 0, none⟩)] w fun e w' => e = .returned (.bool (Cd.okAll C)) ∧ Below w.heap.size w w' := by
  have hpl := blk_lt hb
  have HK : Hid (ChkAt r C.ops.length C.fns.length C.kinds.length p w.heap.size ao af ak co cf ck vd vw (w.alloc (.cells #[.pointer (some ⟨p, 0, none⟩)] 55))) :=
    Lib.hid ⟨hT.grow (by go_grown), blk_alloc hb _, blk_new _ _⟩
  have HC : Hid (CodeV B (w.alloc (.cells #[.pointer (some ⟨p, 0, none⟩)] 55)) (.slice ao C.ops.length co) (.slice af C.fns.length cf) (.slice ak C.kinds.length ck) C) := Lib.hid (hC.below (N := w.heap.size) (by go_grown) hB)
  have HW : Hid (Below w.heap.size w (w.alloc (.cells #[.pointer (some ⟨p, 0, none⟩)] 55))) := Lib.hid (by go_grown)
  have hz1 : w.heap.size < (w.alloc (.cells #[.pointer (some ⟨p, 0, none⟩)] 55)).heap.size := by simp
  obtain ⟨c0, c1, c2, cc, hp1, hc1⟩ := HK.out.look
  clear hC hT hb
  go_enter Try.func19, Try.ntmps19
  go_wp2_with fail
  generalize w.alloc (.cells #[.pointer (some ⟨p, 0, none⟩)] 55) = W1 at *
  go_wp2_with fail
  have Hkeep : Hid (∀ wr, Below W1.heap.size W1 wr → ChkAt r C.ops.length C.fns.length C.kinds.length p w.heap.size ao af ak co cf ck vd vw wr ∧ CodeV B wr (.slice ao C.ops.length co) (.slice af C.fns.length cf) (.slice ak C.kinds.length ck) C ∧ Below w.heap.size w wr) :=
    Lib.hid fun wr hb => ⟨HK.out.grow hb, HC.out.below hb (by omega), HW.out.trans (hb.mono (by omega))⟩
  clear HK HC HW c0 c1 c2 cc
  go_loopw [13] (fun i wr => Hid (Below W1.heap.size W1 wr) ∧ ∃ k : Nat, k ≤ C.fns.length ∧ i = .int .i64 k ∧ Hid ((C.fns.take k).all (Cd.fnOK C.ops.length) = true)) (fun i _ => C.fns.length - (intOf i).toNat)
  case atStart => exact ⟨Lib.hid (Below.refl _ _), 0, by omega, rfl, Lib.hid (by simp)⟩
  case round =>
    obtain ⟨Hbel, k, hk, rfl, Hall⟩ := hrel
    obtain ⟨hKr, hCr, hbw⟩ := Hkeep.out wr Hbel.out
    have HKr := Lib.hid hKr
    have HCr := Lib.hid hCr
    have Hbw := Lib.hid hbw
    have hzr := Hbel.out.size
    have hwr : w.heap.size < wr.heap.size := by omega
    have hpr : p < wr.heap.size := by omega
    obtain ⟨c0, c1, c2, cc, _, _⟩ := hKr.look
    clear hKr hCr hbw
    by_cases hkn : k < C.fns.length
    · obtain ⟨fb, fo, cf', u, hv, hfB, _, p0, p1, p2, p3, p4⟩ := HCr.out.fns.at hkn
      cases hv
      have e1 : C.fns.getD k ⟨0, 0, 0, []⟩ = C.fns[k] := by simp [List.getElem?_eq_getElem hkn]
      rw [e1] at p0 p1 p2 p4
      have hF := HCr.out.fns.1 _ (List.getElem_mem hkn)
      have hno := Lib.hid (fun h : Cd.fnOK C.ops.length C.fns[k] = false => okAll_fns (all_false hkn h))
      have hyes := Lib.hid (fun h : Cd.fnOK C.ops.length C.fns[k] = true => (all_take_succ (P := Cd.fnOK C.ops.length) hkn).trans (by rw [Hall.out, h]))
      rw [fnOK_parts] at hno hyes
      generalize C.fns[k] = f at *
      obtain ⟨i0, ut, ub, uo, uc, rfl, ul, ul2, hu⟩ := p4
      have Hp4 : Hid (IntsV B wr (.slice ut f.takes.length uc) f.takes) := Lib.hid ⟨i0, ut, ub, uo, uc, rfl, ul, ul2, hu⟩
      obtain ⟨⟨i1, i2⟩, ⟨i3, i4⟩, i5, i6⟩ := hF
      have hfblt : fb < wr.heap.size := by omega
      clear hu e1 i0
      have Hf : Hid (Below wr.heap.size wr (wr.alloc (.cells #[.int .i64 f.params, .int .i64 f.slots, .int .i64 f.start, .slice ut f.takes.length uc] 61))) := Lib.hid (by go_grown)
      have q1 : ∀ x : Held (Above (wr.alloc (.cells #[.int .i64 f.params, .int .i64 f.slots, .int .i64 f.start, .slice ut f.takes.length uc] 61))), x.val.cell? ⟨wr.heap.size, 0, none⟩ = some (.int .i64 f.params) ∧ x.val.cell? ⟨wr.heap.size, 1, none⟩ = some (.int .i64 f.slots) ∧ x.val.cell? ⟨wr.heap.size, 2, none⟩ = some (.int .i64 f.start) ∧ x.val.cell? ⟨wr.heap.size, 3, none⟩ = some (.slice ut f.takes.length uc) := fun x =>
        ⟨held_cell (by rw [World.cell?_alloc_new]; rfl) (by simp) x, held_cell (by rw [World.cell?_alloc_new]; rfl) (by simp) x, held_cell (by rw [World.cell?_alloc_new]; rfl) (by simp) x, held_cell (by rw [World.cell?_alloc_new]; rfl) (by simp) x⟩
      have q2 : ∀ x : Held (Above (wr.alloc (.cells #[.int .i64 f.params, .int .i64 f.slots, .int .i64 f.start, .slice ut f.takes.length uc] 61))), x.val.cell? ⟨p, 0, none⟩ = some (.slice ao C.ops.length co) ∧ x.val.cell? ⟨p, 1, none⟩ = some (.slice (some ⟨fb, fo, none⟩) C.fns.length cf) ∧ x.val.cell? ⟨p, 2, none⟩ = some (.slice ak C.kinds.length ck) ∧ x.val.cell? ⟨w.heap.size, 0, none⟩ = some (.pointer (some ⟨p, 0, none⟩)) := fun x =>
        have h := ((HKr.out.grow Hf.out).grow x.prop).look
        ⟨h.1, h.2.1, h.2.2.1, h.2.2.2.1⟩
      have H51 := Lib.hid (fun x : Held (Above (wr.alloc (.cells #[.int .i64 f.params, .int .i64 f.slots, .int .i64 f.start, .slice ut f.takes.length uc] 61))) => (order_v r C.ops.length C.fns.length C.kinds.length).call0 ao (some ⟨fb, fo, none⟩) ak co cf ck f.start x.val ((HKr.out.grow Hf.out).grow x.prop).tab)
      have H53 := Lib.hid (fun x : Held (Above (wr.alloc (.cells #[.int .i64 f.params, .int .i64 f.slots, .int .i64 f.start, .slice ut f.takes.length uc] 61))) => contains_ints B x.val _ f.takes 54 _ _ (Hp4.out.below (Hf.out.trans (x.prop.mono Hf.out.size)) (by omega)) (by have := x.prop.size; have := Hf.out.size; omega) (test1 ((HKr.out.grow Hf.out).grow x.prop)))
      rw [any_not] at H53
      generalize Cd.inB 0 (C.ops.length - 1) f.start = g3 at *
      generalize f.takes.all (Cd.inB 0 1200) = g5 at *
      by_cases t1 : f.slots < 0
      · have e : Cd.inB 0 1200 f.slots = false := decide_eq_false (by omega)
        have hne := Lib.hid (hno.out (by rw [e]; simp))
        have dd : decide (f.slots < 0) = true := decide_eq_true t1
        clear e
        go_wp2_with fail
        refine wp_region_held (Above _) (Below.refl _ _).drew (by kernel_rfl) (by kernel_rfl) ?_
        repeat (go_big_quiet_step ((first | exact held_call (H51.out _) | exact held_call (H53.out _))))
        refine wpQuiet_nil ?_
        intro _ hw'
        obtain ⟨y, rfl⟩ := hw'
        go_wp2
        go_returns
        rw [hne.out]
        exact ⟨rfl, Hbw.out.trans ((Hf.out.trans (y.prop.mono Hf.out.size)).mono (by omega))⟩
      have dt1 : decide (f.slots < 0) = false := decide_eq_false t1
      by_cases t2 : 1200 < f.slots
      · have e : Cd.inB 0 1200 f.slots = false := decide_eq_false (by omega)
        have hne := Lib.hid (hno.out (by rw [e]; simp))
        have dd : decide (1200 < f.slots) = true := decide_eq_true t2
        clear e
        go_wp2_with fail
        refine wp_region_held (Above _) (Below.refl _ _).drew (by kernel_rfl) (by kernel_rfl) ?_
        repeat (go_big_quiet_step ((first | exact held_call (H51.out _) | exact held_call (H53.out _))))
        refine wpQuiet_nil ?_
        intro _ hw'
        obtain ⟨y, rfl⟩ := hw'
        go_wp2
        go_returns
        rw [hne.out]
        exact ⟨rfl, Hbw.out.trans ((Hf.out.trans (y.prop.mono Hf.out.size)).mono (by omega))⟩
      have dt2 : decide (1200 < f.slots) = false := decide_eq_false t2
      by_cases t3 : f.params < 0
      · have e : Cd.inB 0 f.slots f.params = false := decide_eq_false (by omega)
        have hne := Lib.hid (hno.out (by rw [e]; simp))
        have dd : decide (f.params < 0) = true := decide_eq_true t3
        clear e
        go_wp2_with fail
        refine wp_region_held (Above _) (Below.refl _ _).drew (by kernel_rfl) (by kernel_rfl) ?_
        repeat (go_big_quiet_step ((first | exact held_call (H51.out _) | exact held_call (H53.out _))))
        refine wpQuiet_nil ?_
        intro _ hw'
        obtain ⟨y, rfl⟩ := hw'
        go_wp2
        go_returns
        rw [hne.out]
        exact ⟨rfl, Hbw.out.trans ((Hf.out.trans (y.prop.mono Hf.out.size)).mono (by omega))⟩
      have dt3 : decide (f.params < 0) = false := decide_eq_false t3
      by_cases t4 : f.slots < f.params
      · have e : Cd.inB 0 f.slots f.params = false := decide_eq_false (by omega)
        have hne := Lib.hid (hno.out (by rw [e]; simp))
        have dd : decide (f.slots < f.params) = true := decide_eq_true t4
        clear e
        go_wp2_with fail
        refine wp_region_held (Above _) (Below.refl _ _).drew (by kernel_rfl) (by kernel_rfl) ?_
        repeat (go_big_quiet_step ((first | exact held_call (H51.out _) | exact held_call (H53.out _))))
        refine wpQuiet_nil ?_
        intro _ hw'
        obtain ⟨y, rfl⟩ := hw'
        go_wp2
        go_returns
        rw [hne.out]
        exact ⟨rfl, Hbw.out.trans ((Hf.out.trans (y.prop.mono Hf.out.size)).mono (by omega))⟩
      have dt4 : decide (f.slots < f.params) = false := decide_eq_false t4
      by_cases t5 : f.slots - f.params < f.takes.length
      · have e : decide ((f.takes.length : Int) ≤ f.slots - f.params) = false := decide_eq_false (by omega)
        have hne := Lib.hid (hno.out (by rw [e]; simp))
        have dd : decide (f.slots - f.params < f.takes.length) = true := decide_eq_true t5
        clear e
        go_wp2_with fail
        refine wp_region_held (Above _) (Below.refl _ _).drew (by kernel_rfl) (by kernel_rfl) ?_
        repeat (go_big_quiet_step ((first | exact held_call (H51.out _) | exact held_call (H53.out _))))
        refine wpQuiet_nil ?_
        intro _ hw'
        obtain ⟨y, rfl⟩ := hw'
        go_wp2
        go_returns
        rw [hne.out]
        exact ⟨rfl, Hbw.out.trans ((Hf.out.trans (y.prop.mono Hf.out.size)).mono (by omega))⟩
      have dt5 : decide (f.slots - f.params < f.takes.length) = false := decide_eq_false t5
      cases g3 with
      | false =>
        have hne := Lib.hid (hno.out (by simp))
        go_wp2_with fail
        refine wp_region_held (Above _) (Below.refl _ _).drew (by kernel_rfl) (by kernel_rfl) ?_
        repeat (go_big_quiet_step ((first | exact held_call (H51.out _) | exact held_call (H53.out _))))
        refine wpQuiet_nil ?_
        intro _ hw'
        obtain ⟨y, rfl⟩ := hw'
        go_wp2
        go_returns
        rw [hne.out]
        exact ⟨rfl, Hbw.out.trans ((Hf.out.trans (y.prop.mono Hf.out.size)).mono (by omega))⟩
      | true =>
      cases g5 with
      | false =>
        have hne := Lib.hid (hno.out (by simp))
        go_wp2_with fail
        refine wp_region_held (Above _) (Below.refl _ _).drew (by kernel_rfl) (by kernel_rfl) ?_
        repeat (go_big_quiet_step ((first | exact held_call (H51.out _) | exact held_call (H53.out _))))
        refine wpQuiet_nil ?_
        intro _ hw'
        obtain ⟨y, rfl⟩ := hw'
        go_wp2
        go_returns
        rw [hne.out]
        exact ⟨rfl, Hbw.out.trans ((Hf.out.trans (y.prop.mono Hf.out.size)).mono (by omega))⟩
      | true =>
        have e1 : Cd.inB 0 1200 f.slots = true := decide_eq_true (by omega)
        have e2 : Cd.inB 0 f.slots f.params = true := decide_eq_true (by omega)
        have e3 : decide ((f.takes.length : Int) ≤ f.slots - f.params) = true := decide_eq_true (by omega)
        have hy := Lib.hid (hyes.out (by rw [e1, e2, e3]; rfl))
        clear e1 e2 e3
        go_wp2_with fail
        refine wp_region_held (Above _) (Below.refl _ _).drew (by kernel_rfl) (by kernel_rfl) ?_
        repeat (go_big_quiet_step ((first | exact held_call (H51.out _) | exact held_call (H53.out _))))
        refine wpQuiet_nil ?_
        intro _ hw'
        obtain ⟨y, rfl⟩ := hw'
        go_wp2
        go_roundw
        case rel => exact ⟨Lib.hid (Hbel.out.trans ((Hf.out.trans (y.prop.mono Hf.out.size)).mono (by omega))), k + 1, by omega, by go_num, hy⟩
        case measure => simp [intOf]; omega
    · obtain rfl : k = C.fns.length := by omega
      have HF : Hid (C.fns.all (Cd.fnOK C.ops.length) = true) := Lib.hid (by have := Hall.out; rwa [List.take_length] at this)
      clear Hall
      obtain ⟨wo, rfl⟩ : ∃ wo : World, wo = wr := ⟨_, rfl⟩
      go_wp2
      go_loopw [71] (fun i wr => Hid (Below W1.heap.size W1 wr) ∧ ∃ k : Nat, k ≤ C.kinds.length ∧ i = .int .i64 k ∧ Hid ((C.kinds.take k).all (Cd.kindOK C.fns.length) = true)) (fun i _ => C.kinds.length - (intOf i).toNat)
      case atStart => exact ⟨Hbel, 0, by omega, rfl, Lib.hid (by simp)⟩
      case round =>
        clear Hbel HKr HCr Hbw hzr hwr hpr c0 c1 c2 cc
        obtain ⟨Hbel, k, hk, rfl, Hall⟩ := hrel
        obtain ⟨hKr, hCr, hbw⟩ := Hkeep.out wr Hbel.out
        have HKr := Lib.hid hKr
        have HCr := Lib.hid hCr
        have Hbw := Lib.hid hbw
        have hzr := Hbel.out.size
        have hwr : w.heap.size < wr.heap.size := by omega
        have hpr : p < wr.heap.size := by omega
        obtain ⟨c0, c1, c2, cc, _, _⟩ := hKr.look
        clear hKr hCr hbw
        by_cases hkn : k < C.kinds.length
        · obtain ⟨kb, ko, ck', u, hv, hkB, p0, p4⟩ := HCr.out.kinds.at hkn
          cases hv
          have e1 : C.kinds.getD k [] = C.kinds[k] := by simp [List.getElem?_eq_getElem hkn]
          rw [e1] at p4
          have hno := Lib.hid (fun h : Cd.kindOK C.fns.length C.kinds[k] = false => okAll_kinds (all_false hkn h))
          have hyes := Lib.hid (fun h : Cd.kindOK C.fns.length C.kinds[k] = true => (all_take_succ (P := Cd.kindOK C.fns.length) hkn).trans (by rw [Hall.out, h]))
          clear e1
          generalize C.kinds[k] = l at *
          obtain ⟨i0, ut, ub, uo, uc, rfl, ul, ul2, hu1, hu2⟩ := p4
          have Hu1 := Lib.hid hu1
          have Hu2 := Lib.hid hu2
          have hkblt : kb < wr.heap.size := by omega
          clear hu1 hu2
          have q2 : ∀ x : Held (Above wr), x.val.cell? ⟨p, 0, none⟩ = some (.slice ao C.ops.length co) ∧ x.val.cell? ⟨p, 1, none⟩ = some (.slice af C.fns.length cf) ∧ x.val.cell? ⟨p, 2, none⟩ = some (.slice (some ⟨kb, ko, none⟩) C.kinds.length ck) ∧ x.val.cell? ⟨w.heap.size, 0, none⟩ = some (.pointer (some ⟨p, 0, none⟩)) := fun x =>
            have h := (HKr.out.grow x.prop).look
            ⟨h.1, h.2.1, h.2.2.1, h.2.2.2.1⟩
          by_cases t1 : l.length < 1
          · have dd : decide ((l.length : Int) < 1) = true := decide_eq_true (by omega)
            have hne := Lib.hid (hno.out (kindOK_no1 (by omega)))
            go_wp2_with fail
            refine wp_region_held (Above wr) (Below.refl _ _).drew (by kernel_rfl) (by kernel_rfl) ?_
            repeat (go_big_quiet_step (fail))
            refine wpQuiet_nil ?_
            intro _ hw'
            obtain ⟨y, rfl⟩ := hw'
            go_wp2
            go_returns
            rw [hne.out]
            exact ⟨rfl, Hbw.out.trans (y.prop.mono (by omega))⟩
          have dt1 : decide ((l.length : Int) < 1) = false := decide_eq_false (by omega)
          by_cases t2 : 1200 < l.length
          · have dd : decide ((1200 : Int) < l.length) = true := decide_eq_true (by omega)
            have hne := Lib.hid (hno.out (kindOK_no1 (by omega)))
            go_wp2_with fail
            refine wp_region_held (Above wr) (Below.refl _ _).drew (by kernel_rfl) (by kernel_rfl) ?_
            repeat (go_big_quiet_step (fail))
            refine wpQuiet_nil ?_
            intro _ hw'
            obtain ⟨y, rfl⟩ := hw'
            go_wp2
            go_returns
            rw [hne.out]
            exact ⟨rfl, Hbw.out.trans (y.prop.mono (by omega))⟩
          have dt2 : decide ((1200 : Int) < l.length) = false := decide_eq_false (by omega)
          obtain ⟨rfl, huB⟩ := Hu1.out (by omega)
          have ub0 : ∀ x : Held (Above wr), x.val.cell? ⟨ub, uo, none⟩ = some (.int .i64 (iAt l 0)) := fun x => held_cell (Hu2.out 0 (by omega)) (by omega) x
          have H47 := Lib.hid (fun x : Held (Above wr) => (some_v r C.ops.length C.fns.length C.kinds.length).call0 ao af (some ⟨kb, ko, none⟩) co cf ck (iAt l 0) x.val (HKr.out.grow x.prop).tab)
          cases g3 : Cd.inB 0 1200 (iAt l 0) with
          | false =>
            rw [g3] at H47
            have hne := Lib.hid (hno.out (kindOK_no2 g3))
            clear g3
            go_wp2_with fail
            refine wp_region_held (Above wr) (Below.refl _ _).drew (by kernel_rfl) (by kernel_rfl) ?_
            repeat (go_big_quiet_step (exact held_call (H47.out _)))
            refine wpQuiet_nil ?_
            intro _ hw'
            obtain ⟨y, rfl⟩ := hw'
            go_wp2
            go_returns
            rw [hne.out]
            exact ⟨rfl, Hbw.out.trans (y.prop.mono (by omega))⟩
          | true =>
            rw [g3] at H47
            have Hg3 := Lib.hid g3
            have H53 := Lib.hid (fun x : Held (Above wr) => contains_ints B x.val _ (l.drop 1) 55 _ _ (IntsV.tail i0 ul ul2 (fun _ => huB) (fun i hi => held_cell (Hu2.out i hi) (by omega) x)) (by have := x.prop.size; omega) (test2 (HKr.out.grow x.prop)))
            rw [any_not] at H53
            clear g3
            cases g5 : (l.drop 1).all (Cd.inB (-1) (C.fns.length - 1)) with
            | false =>
              rw [g5, Bool.not_false] at H53
              have hne := Lib.hid (hno.out (kindOK_no3 g5))
              clear g5
              go_wp2_with fail
              refine wp_region_held (Above wr) (Below.refl _ _).drew (by kernel_rfl) (by kernel_rfl) ?_
              repeat (go_big_quiet_step ((first | exact held_call (H47.out _) | exact held_call (H53.out _))))
              refine wpQuiet_nil ?_
              intro _ hw'
              obtain ⟨y, rfl⟩ := hw'
              go_wp2
              all_goals
                go_returns
                rw [hne.out]
                exact ⟨rfl, Hbw.out.trans (y.prop.mono (by omega))⟩
            | true =>
              rw [g5, Bool.not_true] at H53
              have hy := Lib.hid (hyes.out (kindOK_yes ⟨by omega, by omega⟩ Hg3.out g5))
              clear g5
              go_wp2_with fail
              refine wp_region_held (Above wr) (Below.refl _ _).drew (by kernel_rfl) (by kernel_rfl) ?_
              repeat (go_big_quiet_step ((first | exact held_call (H47.out _) | exact held_call (H53.out _))))
              refine wpQuiet_nil ?_
              intro _ hw'
              obtain ⟨y, rfl⟩ := hw'
              go_wp2
              all_goals
                go_roundw
                case rel => exact ⟨Lib.hid (Hbel.out.trans (y.prop.mono (by omega))), k + 1, by omega, by go_num, hy⟩
                case measure => simp [intOf]; omega
        · obtain rfl : k = C.kinds.length := by omega
          have HKi : Hid (C.kinds.all (Cd.kindOK C.fns.length) = true) := Lib.hid (by have := Hall.out; rwa [List.take_length] at this)
          clear Hall
          have hfin := Lib.hid (okAll_ops HF.out HKi.out)
          have H56 := Lib.hid (contains_ops B wr _ C.ops 57 _ _ HCr.out.ops (by omega) (test3 HKr.out))
          rw [any_not] at H56
          go_wp2_with (go_at_call 56; refine H56.out.mono ?_; rintro e w5 ⟨rfl, hb5⟩; have HB5 := Lib.hid hb5; clear hb5)
          go_returns
          rw [hfin.out]
          exact ⟨by simp, Hbw.out.trans (HB5.out.mono (by omega))⟩
end Go.Proofs.Ytjomajfgoaifbaa
