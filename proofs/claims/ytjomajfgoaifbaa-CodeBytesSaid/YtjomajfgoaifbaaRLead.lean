/-
  PROVED HERE: what the reference's Walk.lead does to a walk's memory. No condition beyond the lemmas' own premises.
-/
import Derived.Test.YtjomajfgoaifbaaMem
import Derived.Test.YtjomajfgoaifbaaRows
import Derived.LoopTactic
import Derived.Outline
import Derived.Deep.QuietTactic
import Derived.BigQuiet
import Derived.Lib.Hide
import Derived.WalkSpells
import Derived.WalkLawsBesides
import Derived.IntWalk
import Derived.Handy
namespace Go.Proofs.Ytjomajfgoaifbaa
open Go.RowKit

theorem Try.info3 : (Try.prog.info? 3).map (fun i => (i.zero, i.size, i.bytes)) = some (some (.int .i64 0), 1, 8) := by kernel_rfl

/-- A walk of the reference's: the code, the depths (in a row g), the row (in a row behind g), the flag. -/
def WalkAt (B : Nat) (w : World) (p : Nat) (vo vf vk : Value) (D R : List Int) (bad : Bool) : Prop :=
  B ≤ p ∧ Cd.free D + R.length ≤ 8000 ∧ ∃ g cap vr, w.heap[p]? = some (.cells #[vo, vf, vk, .slice (some ⟨g, 0, none⟩) D.length cap, vr, .bool bad] 120 (0, 0)) ∧ w.ownsRow B 3 1 (.slice (some ⟨g, 0, none⟩) D.length cap) D.length (D.map (Value.int .i64)) ∧
    w.ownsRow (g + 1) 3 1 vr R.length (R.map (Value.int .i64))

def rD (D : List Int) (t d : Int) : List Int := if t < D.length ∧ d ≤ 1200 then Cd.leadD D t d else D
def rR (D R : List Int) (t d : Int) : List Int := if t < D.length ∧ d ≤ 1200 then Cd.leadW D R t else R
def rBad (D : List Int) (bad : Bool) (t d : Int) : Bool := bad || !Cd.leadOK D t d

theorem behind_ne {w : World} {g n : Nat} {v : Value} {xs : List Value} (h : w.ownsRow (g + 1) 3 1 v n xs) : v.ownBlock ≠ some g := by
  intro e
  have := (h.lt g e).1
  omega

theorem WalkAt.setBad {B p : Nat} {w : World} {vo vf vk : Value} {D R : List Int} {bad : Bool} (h : WalkAt B w p vo vf vk D R bad) (b : Bool) : WalkAt B (w.setCell ⟨p, 5, none⟩ (.bool b)) p vo vf vk D R b := by
  obtain ⟨hp, hf, g, cap, vr, hb, hd, hr⟩ := h
  refine ⟨hp, hf, g, cap, vr, ?_, ownsRow_setCell_other hd (own_ne_blk hd hb (by decide)) _, ownsRow_setCell_other hr (own_ne_blk hr hb (by decide)) _⟩
  rw [blk_set hb]
  rfl

theorem own_some {w : World} {B n : Nat} {v : Value} {xs : List Value} (h : w.ownsRow B 3 1 v n xs) (hn : 0 < n) : ∃ g cap, v = .slice (some ⟨g, 0, none⟩) n cap ∧ B ≤ g ∧ g < w.heap.size ∧ n ≤ cap := by
  rcases h.2 with ⟨_, h0⟩ | ⟨g, cap, cur, rfl, hb, hg, hc, _⟩
  · omega
  · exact ⟨g, cap, rfl, hb, blk_lt hg, hc⟩

theorem dAt_cell {w : World} {B g cap : Nat} {D : List Int} (h : w.ownsRow B 3 1 (.slice (some ⟨g, 0, none⟩) D.length cap) D.length (D.map (Value.int .i64))) (i : Nat) (hi : i < D.length) : w.cell? ⟨g, i, none⟩ = some (.int .i64 (Cd.dAt D i)) := by
  rw [h.cellAt i (by omega)]
  simp [Cd.dAt, List.getElem?_eq_getElem hi]

/-- The mark at t is set, and t is put at the row's end. -/
theorem WalkAt.marked {B p g cap : Nat} {w w1 : World} {vo vf vk vr v' : Value} {D R : List Int} {bad : Bool} {t : Nat} {d : Int} (hp : B ≤ p) (hf : Cd.free D + R.length ≤ 8000) (ht : t < D.length) (hneg : Cd.dAt D t < 0) (hd0 : 0 ≤ d)
    (hb : w.heap[p]? = some (.cells #[vo, vf, vk, .slice (some ⟨g, 0, none⟩) D.length cap, vr, .bool bad] 120 (0, 0))) (hd : w.ownsRow B 3 1 (.slice (some ⟨g, 0, none⟩) D.length cap) D.length (D.map (Value.int .i64)))
    (hr : w.ownsRow (g + 1) 3 1 vr R.length (R.map (Value.int .i64))) (x : Obj)
    (h1 : w1.ownsRow (g + 1) 3 1 v' (R.length + 1) (R.map (Value.int .i64) ++ [.int .i64 t])) (h2 : ((w.setCell ⟨g, t, none⟩ (.int .i64 d)).alloc x).grownBy w1 vr.ownBlock) :
    WalkAt B (w1.setCell ⟨p, 4, none⟩ v') p vo vf vk (D.set t d) (R ++ [(t : Int)]) bad := by
  have hne := behind_ne hr
  have hpg : p ≠ g := fun e => own_ne_blk hd hb (by decide) (by rw [e]; rfl)
  have hpr : vr.ownBlock ≠ some p := own_ne_blk hr hb (by decide)
  have hb1 : (w.setCell ⟨g, t, none⟩ (.int .i64 d)).heap[p]? = _ := blk_set_other hb hpg t (.int .i64 d)
  have hb2 := blk_alloc hb1 x
  have hb3 := blk_grown hb2 h2 (fun e => hpr e.symm)
  have hst := (hd.stored t (.int .i64 d)).1
  have hst2 := (hst.alloc x).kept h2 (Or.inr (fun e => hne (by rw [← e]; rfl)))
  have hfr := Cd.free_set D t d ht hneg hd0
  have hv'p : v'.ownBlock ≠ some p := own_ne_blk h1 hb3 (by decide)
  refine ⟨hp, by simp; omega, g, cap, v', ?_, ?_, ?_⟩
  · rw [blk_set hb3]
    simp
  · have := ownsRow_setCell_other hst2 (a := ⟨p, 4, none⟩) (by simp [Value.ownBlock]; exact fun e => hpg e.symm) v'
    simpa using this
  · have := ownsRow_setCell_other h1 (a := ⟨p, 4, none⟩) hv'p v'
    simpa using this

theorem int_one (k : IntKind) (n : Int) : ∀ u ∈ [Value.int k n], u.oneCell' = true := by
  intro u hu
  obtain rfl : u = _ := by simpa using hu
  rfl

/-- What the walk reads of a walk's block behind the append. -/
theorem after_append {B p g cap : Nat} {w w1 : World} {vo vf vk vr : Value} {D R : List Int} {bad : Bool} {t : Nat} {d : Int} (ht : t < D.length)
    (hb : w.heap[p]? = some (.cells #[vo, vf, vk, .slice (some ⟨g, 0, none⟩) D.length cap, vr, .bool bad] 120 (0, 0))) (hd : w.ownsRow B 3 1 (.slice (some ⟨g, 0, none⟩) D.length cap) D.length (D.map (Value.int .i64)))
    (hr : w.ownsRow (g + 1) 3 1 vr R.length (R.map (Value.int .i64))) (x : Obj)
    (h2 : ((w.setCell ⟨g, t, none⟩ (.int .i64 d)).alloc x).grownBy w1 vr.ownBlock) :
    w1.cell? ⟨p, 3, none⟩ = some (.slice (some ⟨g, 0, none⟩) D.length cap) ∧ w1.cell? ⟨p, 4, none⟩ = some vr ∧ w1.frozen? ⟨p, 4, none⟩ = false ∧ w1.cell? ⟨g, t, none⟩ = some (.int .i64 d) ∧ p < w1.heap.size ∧ w1.frozen? ⟨p, 5, none⟩ = false := by
  have hne := behind_ne hr
  have hpg : p ≠ g := fun e => own_ne_blk hd hb (by decide) (by rw [e]; rfl)
  have hpr : vr.ownBlock ≠ some p := own_ne_blk hr hb (by decide)
  have hb1 : (w.setCell ⟨g, t, none⟩ (.int .i64 d)).heap[p]? = _ := blk_set_other hb hpg t (.int .i64 d)
  have hb3 := blk_grown (blk_alloc hb1 x) h2 (fun e => hpr e.symm)
  have hst2 := ((hd.stored t (.int .i64 d)).1.alloc x).kept h2 (Or.inr (fun e => hne (by rw [← e]; rfl)))
  refine ⟨by rw [blk_cell hb3]; rfl, by rw [blk_cell hb3]; rfl, blk_free hb3 4, ?_, blk_lt hb3, blk_free hb3 5⟩
  rw [hst2.cellAt t (by omega)]
  simp [ht]

set_option maxRecDepth 100000 in
set_option maxHeartbeats 1000000 in
theorem rlead_any (B p : Nat) (w : World) (vo vf vk : Value) (ops : List Cd.GOp) (D R : List Int) (bad : Bool) (t : Nat) (d : Int) (hW : WalkAt B w p vo vf vk D R bad) (hops : OpsV B w vo ops) (hn : D.length = ops.length) (_h8 : ops.length ≤ 8000) (hd0 : 0 ≤ d) :
    Calls Try.prog 61 #[.pointer (some ⟨p, 0, none⟩), .int .i64 t, .int .i64 d] w fun e w' => e = .returned (.tuple #[]) ∧ WalkAt B w' p vo vf vk (rD D t d) (rR D R t d) (rBad D bad t d) ∧ Below B w w' := by
  have hW0 := Lib.hid hW
  obtain ⟨hp, hf, g, cap, vr, hb, hd, hr⟩ := hW
  obtain ⟨_, a, b, o, co, rfl, _, _, _, _⟩ := hops
  have c0 := blk_cell hb 0
  have c3 := blk_cell hb 3
  have c4 := blk_cell hb 4
  have c5 := blk_cell hb 5
  have f4 := blk_free hb 4
  have f5 := blk_free hb 5
  have hpl := blk_lt hb
  simp only [List.getElem?_toArray, List.getElem?_cons_zero, List.getElem?_cons_succ] at c0 c3 c4 c5
  have hHb := Lib.hid hb
  have hHd := Lib.hid hd
  have hHr := Lib.hid hr
  have hHn := Lib.hid hn
  by_cases h1 : t < ops.length
  · have htD : t < D.length := by omega
    have hgl : g < w.heap.size := (hd.lt g rfl).2
    have hgB : B ≤ g := (hd.lt g rfl).1
    have cd := dAt_cell hd t (by omega)
    have fg := hd.frozenAt t
    have hpg : p ≠ g := fun e => own_ne_blk hd hb (by decide) (by rw [e]; rfl)
    have hHdt : Hid (rD D t d = if d ≤ 1200 then Cd.leadD D t d else D) := Lib.hid (by unfold rD; simp [htD])
    have hHrt : Hid (rR D R t d = if d ≤ 1200 then Cd.leadW D R t else R) := Lib.hid (by unfold rR; simp [htD])
    have hr1 := Lib.hid (ownsRow_setCell_other hr (a := ⟨g, t, none⟩) (behind_ne hr) (.int .i64 d))
    clear hb hd hr hn
    by_cases h2 : d ≤ 1200
    · by_cases h3 : Cd.dAt D t < 0
      · obtain ⟨i0, hi, hz0, hz1, hz2⟩ := info_parts Try.info3
        have hgs : g + 1 ≤ ((w.setCell ⟨g, t, none⟩ (.int .i64 d)).alloc (.cells #[.int .i64 t] 3)).heap.size := by simp; omega
        go_enter Try.func61, Try.ntmps61
        go_wp2_with (at_builtin; refine wpList_append_own _ rfl _ _ 24 rfl (g + 1) 3 i0 (.int .i64 0) 1 8 Try.underlying24 hi hz0 hz1 hz2 rfl (by decide) _ _ _ rfl (hr1.out.alloc _) ⟨w.heap.size, 0, none⟩ 1 1 [.int .i64 t] rfl rfl ?c1 (int_one _ _) ?c3 ?c4 hgs ?_; rotate_right; intro v' w1 hown' hgrow hnil; obtain ⟨k1, k2, k3, k4, k5, k6⟩ := after_append htD hHb.out hHd.out hHr.out _ hgrow; obtain ⟨g', cap', rfl, k7, k8, k9⟩ := own_some hown' (by omega); clear c0 c3 c4 c5 f4 f5 cd fg; have hHg := Lib.hid hgrow; have hHo := Lib.hid hown'; clear hgrow hown' hnil)
        case c1 => have hcn := cell_one_new (w.setCell ⟨g, t, none⟩ (.int .i64 d)) (.int .i64 t) 3; rw [World.size_setCell] at hcn; exact hcn
        case c3 => unfold maxLen; omega
        case c4 => omega
        go_returns
        have e1 : rD D t d = D.set t d := by rw [hHdt.out, if_pos h2]; unfold Cd.leadD; rw [Int.toNat_natCast, if_pos h3]
        have e2 : rR D R t d = R ++ [(t : Int)] := by rw [hHrt.out, if_pos h2]; unfold Cd.leadW; rw [Int.toNat_natCast, if_pos h3]
        have e3 : rBad D bad t d = bad := by unfold rBad Cd.leadOK; simp [htD, h2, h3]
        rw [e1, e2, e3]
        refine ⟨rfl, WalkAt.marked hp hf htD h3 hd0 hHb.out hHd.out hHr.out _ hHo.out hHg.out, ?_⟩
        refine Below.setCell (Below.grown ((Below.setCell (Below.refl _ _) hgB _).alloc (by simp; omega) _) hHg.out (by simp; omega) ?_) hp _
        intro k hk
        have := (hHr.out.lt k hk).1
        omega
      · have e1 : Hid (rD D t d = D) := Lib.hid (by rw [hHdt.out, if_pos h2]; unfold Cd.leadD; rw [Int.toNat_natCast, if_neg h3])
        have e2 : Hid (rR D R t d = R) := Lib.hid (by rw [hHrt.out, if_pos h2]; unfold Cd.leadW; rw [Int.toNat_natCast, if_neg h3])
        by_cases h4 : Cd.dAt D t = d
        · have h4b : (Cd.dAt D t != d) = false := by simpa using h4
          have e3 : Hid (rBad D bad t d = bad) := Lib.hid (by unfold rBad Cd.leadOK; simp [htD, h2, h4])
          clear h4
          go_enter Try.func61, Try.ntmps61
          go_wp2
          go_returns
          refine ⟨rfl, ?_, Below.refl _ _⟩
          rw [e1.out, e2.out, e3.out]
          exact hW0.out
        · have h4b : (Cd.dAt D t != d) = true := by simpa using h4
          have e3 : Hid (rBad D bad t d = true) := Lib.hid (by unfold rBad Cd.leadOK; simp [htD, h2, h4]; omega)
          clear h4
          go_enter Try.func61, Try.ntmps61
          go_wp2
          go_returns
          refine ⟨rfl, ?_, (Below.refl _ _).setCell hp _⟩
          rw [e1.out, e2.out, e3.out]
          exact hW0.out.setBad true
    · have e1 : Hid (rD D t d = D) := Lib.hid (by rw [hHdt.out, if_neg h2])
      have e2 : Hid (rR D R t d = R) := Lib.hid (by rw [hHrt.out, if_neg h2])
      have e3 : Hid (rBad D bad t d = true) := Lib.hid (by unfold rBad Cd.leadOK; simp; omega)
      go_enter Try.func61, Try.ntmps61
      go_wp2
      go_returns
      refine ⟨rfl, ?_, (Below.refl _ _).setCell hp _⟩
      rw [e1.out, e2.out, e3.out]
      exact hW0.out.setBad true
  · have e1 : Hid (rD D t d = D) := Lib.hid (by unfold rD; rw [if_neg (by omega)])
    have e2 : Hid (rR D R t d = R) := Lib.hid (by unfold rR; rw [if_neg (by omega)])
    have e3 : Hid (rBad D bad t d = true) := Lib.hid (by unfold rBad Cd.leadOK; simp; omega)
    clear hb hd hr hn
    go_enter Try.func61, Try.ntmps61
    go_wp2
    go_returns
    refine ⟨rfl, ?_, (Below.refl _ _).setCell hp _⟩
    rw [e1.out, e2.out, e3.out]
    exact hW0.out.setBad true
end Go.Proofs.Ytjomajfgoaifbaa
