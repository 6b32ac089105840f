/-
  PROVED HERE: the program's test of one order's A and B. No condition beyond the lemmas' own premises.
-/
import Derived.Test.YtjomajfgoaifbaaTable
import Derived.Test.YtjomajfgoaifbaaHeld
import Derived.Test.YtjomajfgoaifbaaRTakes
import Derived.RegionTactic
import Derived.BigRegion
import Derived.Deep.RegionWith
import Derived.Deep.RegionHeld3
import Derived.Laws.EntriesVeiled
namespace Go.Proofs.Ytjomajfgoaifbaa
open Go.RowKit

/-- What there is in memory once the shape has been fetched. -/
theorem after_shape {r p cb : Nat} {w W2 : World} {vo vf vk vd vw x0 x1 x2 x3 : Value} {d a b : Int} (hT : TabAt r w) (hb : w.heap[p]? = some (.cells #[vo, vf, vk, .map (some r), vd, vw] 59 (0, 0))) (hc : w.heap[cb]? = some (.cells #[.pointer (some ⟨p, 0, none⟩)] 55 (0, 0)))
    (hW : W2 = ((w.alloc (.cells #[.int .i64 d, .int .i64 a, .int .i64 b] 68)).alloc (.cells #[x0, x1, x2, x3] 110)).drew) :
    (∀ x : Held (Above W2), x.val.cell? ⟨p, 0, none⟩ = some vo ∧ x.val.cell? ⟨p, 1, none⟩ = some vf ∧ x.val.cell? ⟨p, 2, none⟩ = some vk) ∧ (∀ x : Held (Above W2), x.val.cell? ⟨cb, 0, none⟩ = some (.pointer (some ⟨p, 0, none⟩))) ∧
      (∀ x : Held (Above W2), x.val.cell? ⟨w.heap.size, 0, none⟩ = some (.int .i64 d) ∧ x.val.cell? ⟨w.heap.size, 1, none⟩ = some (.int .i64 a) ∧ x.val.cell? ⟨w.heap.size, 2, none⟩ = some (.int .i64 b)) ∧
      (∀ x : Held (Above W2), x.val.cell? ⟨w.heap.size + 1, 0, none⟩ = some x0 ∧ x.val.cell? ⟨w.heap.size + 1, 1, none⟩ = some x1) ∧ Hid (∀ x : Held (Above W2), TabAt r x.val) ∧ Hid (Below w.heap.size w W2) := by
  have hB : Below w.heap.size w W2 := by rw [hW]; go_grown
  have hz : W2.heap.size = w.heap.size + 1 + 1 := by rw [hW]; simp
  have hpl := blk_lt hb
  have hcl := blk_lt hc
  have e1 : ∀ i, W2.cell? ⟨w.heap.size, i, none⟩ = (#[.int .i64 d, .int .i64 a, .int .i64 b] : Array Value)[i]? := fun i => by
    rw [hW, World.cell?_drew, World.cell?_alloc_lt _ _ _ (by simp), World.cell?_alloc_new]
  have e2 : ∀ i, W2.cell? ⟨w.heap.size + 1, i, none⟩ = (#[x0, x1, x2, x3] : Array Value)[i]? := fun i => by
    have e : w.heap.size + 1 = (w.alloc (.cells #[.int .i64 d, .int .i64 a, .int .i64 b] 68)).heap.size := by simp
    rw [hW, World.cell?_drew, e, World.cell?_alloc_new]
  have ep : ∀ i, W2.cell? ⟨p, i, none⟩ = (#[vo, vf, vk, .map (some r), vd, vw] : Array Value)[i]? := fun i => by rw [hB.cell hpl, blk_cell hb]
  have ec : W2.cell? ⟨cb, 0, none⟩ = some (.pointer (some ⟨p, 0, none⟩)) := by rw [hB.cell hcl]; exact cell_of_one hc
  exact ⟨fun x => ⟨held_cell (ep 0) (by omega) x, held_cell (ep 1) (by omega) x, held_cell (ep 2) (by omega) x⟩, fun x => held_cell ec (by omega) x, fun x => ⟨held_cell (e1 0) (by omega) x, held_cell (e1 1) (by omega) x, held_cell (e1 2) (by omega) x⟩,
    fun x => ⟨held_cell (e2 0) (by omega) x, held_cell (e2 1) (by omega) x⟩, Lib.hid fun x => (hT.grow hB).grow x.prop, Lib.hid hB⟩

set_option maxRecDepth 100000 in
set_option maxHeartbeats 2000000 in
theorem prange3_any (r no nf nk p cb : Nat) (ao af ak : Option Addr) (co cf ck : Nat) (vd vw : Value) (d a b : Int) (w : World) (hT : TabAt r w) (hb : w.heap[p]? = some (.cells #[.slice ao no co, .slice af nf cf, .slice ak nk ck, .map (some r), vd, vw] 59 (0, 0)))
    (hc : w.heap[cb]? = some (.cells #[.pointer (some ⟨p, 0, none⟩)] 55 (0, 0))) :
    Calls Try.prog 57 #[.agg #[.int .i64 d, .int .i64 a, .int .i64 b], .pointer (some ⟨cb, 0, none⟩)] w fun e w' => e = .returned (.bool (!Cd.rangeB no nf nk ⟨d, a, b⟩)) ∧ Below w.heap.size w w' := by
  have c0 := blk_cell hb 0
  have c1 := blk_cell hb 1
  have c2 := blk_cell hb 2
  have c3 := blk_cell hb 3
  simp only [List.getElem?_toArray, List.getElem?_cons_zero, List.getElem?_cons_succ] at c0 c1 c2 c3
  have cc := cell_of_one hc
  have hpl := blk_lt hb
  have hcl := blk_lt hc
  have Hb := Lib.hid hb
  have Hc := Lib.hid hc
  have HT := Lib.hid hT
  clear hb hc hT
  by_cases hk : 1 ≤ d ∧ d ≤ 30
  · obtain ⟨i, j, ci, cj, tk, pt, pa, pb, hS⟩ := shape_is r no nf nk d hk.1 hk.2
    have HS := Lib.hid hS
    clear hS
    obtain ⟨n, hfound⟩ := HS.out.found
    have hrun : ∀ (W : World), TabAt r W → (Instr.lookup 56 (.map (some r)) (.int .i64 d) true).run Try.prog W = .ok (.tuple #[.agg #[.func (.func i) #[] ci, .func (.func j) #[] cj, .int .i64 tk, .int .i64 pt], .bool true]) W := fun W hW => by
      have := run_lookup_int (P := Try.prog) (t := 56) (k := 3) (e := 110) Try.underlying56 Try.underlying3 hW.1 true (n := d) (by rw [List.toList_toArray]; exact hfound)
      simpa using this
    have l1 := hrun (w.alloc (.cells #[.int .i64 d, .int .i64 a, .int .i64 b] 68)).drew (HT.out.grow (by go_grown))
    have l2 := hrun ((w.alloc (.cells #[.int .i64 d, .int .i64 a, .int .i64 b] 68)).alloc (.cells #[.nilFunc, .nilFunc, .int .i64 0, .int .i64 0] 110)).drew (HT.out.grow (by go_grown))
    clear hrun hfound
    have ha1 := HS.out.a.1
    have hb1 := HS.out.b.1
    have hres := Lib.hid (HS.out.both a b)
    cases hpa : pa a with
    | false =>
      have Hpa := Lib.hid hpa
      have hA := Lib.hid (fun W hW => HS.out.a.2 ao af ak co cf ck a W hW)
      rw [hpa] at hA
      clear hpa
      go_enter Try.func57, Try.ntmps57
      go_wp2
      go_region
      all_goals
        go_wp2
        obtain ⟨W2, hW2⟩ : ∃ W2, W2 = ((w.alloc (.cells #[.int .i64 d, .int .i64 a, .int .i64 b] 68)).alloc (.cells #[.func (.func i) #[] ci, .func (.func j) #[] cj, .int .i64 tk, .int .i64 pt] 110)).drew := ⟨_, rfl⟩
        obtain ⟨g1, g2, g3, g4, HTx, HB2⟩ := after_shape HT.out Hb.out Hc.out hW2
        rw [← hW2]
        clear hW2 l1 l2
        refine wp_region_held (Above W2) (Below.refl _ _).drew (by kernel_rfl) (by kernel_rfl) ?_
        repeat (go_big_quiet_step (exact held_call (hA.out _ (HTx.out _))))
        refine wpQuiet_nil ?_
        intro _ hw'
        obtain ⟨y, rfl⟩ := hw'
        go_wp2
        go_returns
        rw [hres.out, Hpa.out]
        exact ⟨rfl, HB2.out.trans (y.prop.mono HB2.out.size)⟩
    | true =>
      have Hpa := Lib.hid hpa
      have hA := Lib.hid (fun W hW => HS.out.a.2 ao af ak co cf ck a W hW)
      have hB := Lib.hid (fun W hW => HS.out.b.2 ao af ak co cf ck b W hW)
      rw [hpa] at hA
      clear hpa
      go_enter Try.func57, Try.ntmps57
      go_wp2
      go_region
      all_goals
        go_wp2
        obtain ⟨W2, hW2⟩ : ∃ W2, W2 = ((w.alloc (.cells #[.int .i64 d, .int .i64 a, .int .i64 b] 68)).alloc (.cells #[.func (.func i) #[] ci, .func (.func j) #[] cj, .int .i64 tk, .int .i64 pt] 110)).drew := ⟨_, rfl⟩
        obtain ⟨g1, g2, g3, g4, HTx, HB2⟩ := after_shape HT.out Hb.out Hc.out hW2
        rw [← hW2]
        clear hW2 l1 l2
        refine wp_region_held (Above W2) (Below.refl _ _).drew (by kernel_rfl) (by kernel_rfl) ?_
        repeat (go_big_quiet_step ((first | exact held_call (hA.out _ (HTx.out _)) | exact held_call (hB.out _ (HTx.out _)))))
        refine wpQuiet_nil ?_
        intro _ hw'
        obtain ⟨y, rfl⟩ := hw'
        go_wp2
        go_returns
        rw [hres.out, Hpa.out]
        exact ⟨by simp, HB2.out.trans (y.prop.mono HB2.out.size)⟩
  · have hno : Hid (Cd.rangeB no nf nk ⟨d, a, b⟩ = false) := Lib.hid (by
      cases h : Cd.rangeB no nf nk ⟨d, a, b⟩ with
      | false => rfl
      | true => exact absurd (Cd.rangeB_pos h).2.2.2.2 hk)
    have hz : ∀ W : World, (zeroValue 110).run Try.prog W = .ok (.agg #[.nilFunc, .nilFunc, .int .i64 0, .int .i64 0]) W := fun W => by kernel_rfl
    have hrun : ∀ (W : World), TabAt r W → (Instr.lookup 56 (.map (some r)) (.int .i64 d) true).run Try.prog W = .ok (.tuple #[.agg #[.nilFunc, .nilFunc, .int .i64 0, .int .i64 0], .bool false]) W := fun W hW => by
      have := run_lookup_none (P := Try.prog) (t := 56) (k := 3) (e := 110) Try.underlying56 Try.underlying3 hW.1 (hz W) true (n := d) (by rw [List.toList_toArray]; exact shape_none r d (by omega))
      simpa using this
    have l1 := hrun (w.alloc (.cells #[.int .i64 d, .int .i64 a, .int .i64 b] 68)).drew (HT.out.grow (by go_grown))
    have l2 := hrun ((w.alloc (.cells #[.int .i64 d, .int .i64 a, .int .i64 b] 68)).alloc (.cells #[.nilFunc, .nilFunc, .int .i64 0, .int .i64 0] 110)).drew (HT.out.grow (by go_grown))
    clear hrun hz hk
    go_enter Try.func57, Try.ntmps57
    go_wp2
    go_region
    all_goals
      go_wp2
      refine wp_region_held (Above ((w.alloc (.cells #[.int .i64 d, .int .i64 a, .int .i64 b] 68)).alloc (.cells #[.nilFunc, .nilFunc, .int .i64 0, .int .i64 0] 110))) (by unfold Above; exact (Below.refl _ _).drew.drew) (by kernel_rfl) (by kernel_rfl) ?_
      repeat (go_big_quiet_step (fail))
      refine wpQuiet_nil ?_
      intro _ hw'
      obtain ⟨y, rfl⟩ := hw'
      go_wp2
      go_returns
      rw [hno.out]
      exact ⟨rfl, Below.trans (by go_grown) (y.prop.mono (by simp; omega))⟩
end Go.Proofs.Ytjomajfgoaifbaa
