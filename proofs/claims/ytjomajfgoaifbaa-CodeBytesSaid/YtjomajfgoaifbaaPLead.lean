/-
  PROVED HERE: what the program's checker.lead does to a checker's memory. No condition beyond the lemmas' own premises.
-/
import Derived.Test.YtjomajfgoaifbaaPRanges2
namespace Go.Proofs.Ytjomajfgoaifbaa
open Go.RowKit

/-- Below B the memory is as it was, and below N too, but for block p. -/
structure Keep (B N p : Nat) (w w' : World) : Prop where
  low : Below B w w'
  kept : ∀ k, k < N → k ≠ p → w'.heap[k]? = w.heap[k]?

theorem Keep.refl (B N p : Nat) (w : World) : Keep B N p w w := ⟨Below.refl _ _, fun _ _ _ => rfl⟩
theorem Keep.trans {B N p : Nat} {a b c : World} (h : Keep B N p a b) (k : Keep B N p b c) : Keep B N p a c :=
  ⟨h.low.trans k.low, fun i hi hp => (k.kept i hi hp).trans (h.kept i hi hp)⟩
theorem Keep.of {B N p : Nat} {w w' : World} (h : Below w.heap.size w w') (hB : B ≤ w.heap.size) (hN : N ≤ w.heap.size) : Keep B N p w w' :=
  ⟨h.mono hB, fun k hk _ => h.block k (by omega)⟩
theorem Keep.step {B N p : Nat} {a b c : World} (h : Keep B N p a b) (k : Below b.heap.size b c) (hB : B ≤ b.heap.size) (hN : N ≤ b.heap.size) : Keep B N p a c :=
  h.trans (Keep.of k hB hN)
theorem Keep.size {B N p : Nat} {w w' : World} (h : Keep B N p w w') : w.heap.size ≤ w'.heap.size := h.low.size

/-- A checker of the program's: the code, the table, the depths (in a row g), the work (in a row behind g). -/
def ChkSt (B N r : Nat) (w : World) (p : Nat) (vo vf vk : Value) (D W : List Int) : Prop :=
  (B ≤ p ∧ B ≤ N) ∧ Cd.free D + W.length ≤ 8000 ∧ ∃ g cap vw, w.heap[p]? = some (.cells #[vo, vf, vk, .map (some r), .slice (some ⟨g, 0, none⟩) D.length cap, vw] 59 (0, 0)) ∧ w.ownsRow N 3 1 (.slice (some ⟨g, 0, none⟩) D.length cap) D.length (D.map (Value.int .i64)) ∧
    w.ownsRow (g + 1) 3 1 vw W.length (W.map (Value.int .i64))

theorem ChkSt.below {B N r p : Nat} {w w' : World} {vo vf vk : Value} {D W : List Int} (h : ChkSt B N r w p vo vf vk D W) (hb : Below w.heap.size w w') : ChkSt B N r w' p vo vf vk D W := by
  obtain ⟨hp, hf, g, cap, vr, hb1, hd, hr⟩ := h
  exact ⟨hp, hf, g, cap, vr, blk_below hb1 hb (blk_lt hb1), own_below hd hb (fun k hk => (hd.lt k hk).2), own_below hr hb (fun k hk => (hr.lt k hk).2)⟩
theorem ChkSt.alloc {B N r p : Nat} {w : World} {vo vf vk : Value} {D W : List Int} (h : ChkSt B N r w p vo vf vk D W) (o : Obj) : ChkSt B N r (w.alloc o) p vo vf vk D W :=
  h.below ((Below.refl _ _).alloc (Nat.le_refl _) o)
theorem ChkSt.lt {B N r p : Nat} {w : World} {vo vf vk : Value} {D W : List Int} (h : ChkSt B N r w p vo vf vk D W) : p < w.heap.size := by
  obtain ⟨hp, hf, g, cap, vr, hb1, hd, hr⟩ := h
  exact blk_lt hb1

theorem ChkSt.nle {B N r p : Nat} {w : World} {vo vf vk : Value} {D W : List Int} (h : ChkSt B N r w p vo vf vk D W) : N ≤ w.heap.size := by
  obtain ⟨hp, hf, g, cap, vr, hb1, hd, hr⟩ := h
  have := hd.lt g rfl
  omega

theorem ChkSt.marked {B N r p g cap : Nat} {w w1 : World} {vo vf vk vr v' : Value} {D R : List Int} {t : Nat} {d : Int} (hp : B ≤ p ∧ B ≤ N) (hf : Cd.free D + R.length ≤ 8000) (ht : t < D.length) (hneg : Cd.dAt D t < 0) (hd0 : 0 ≤ d)
    (hb : w.heap[p]? = some (.cells #[vo, vf, vk, .map (some r), .slice (some ⟨g, 0, none⟩) D.length cap, vr] 59 (0, 0))) (hd : w.ownsRow N 3 1 (.slice (some ⟨g, 0, none⟩) D.length cap) D.length (D.map (Value.int .i64)))
    (hr : w.ownsRow (g + 1) 3 1 vr R.length (R.map (Value.int .i64))) (x : Obj)
    (h1 : w1.ownsRow (g + 1) 3 1 v' (R.length + 1) (R.map (Value.int .i64) ++ [.int .i64 t])) (h2 : ((w.setCell ⟨g, t, none⟩ (.int .i64 d)).alloc x).grownBy w1 vr.ownBlock) :
    ChkSt B N r (w1.setCell ⟨p, 5, none⟩ v') p vo vf vk (D.set t d) (R ++ [(t : Int)]) := by
  have hne := behind_ne hr
  have hpg : p ≠ g := fun e => own_ne_blk hd hb (by decide) (by rw [e]; rfl)
  have hpr : vr.ownBlock ≠ some p := own_ne_blk hr hb (by decide)
  have hb1 : (w.setCell ⟨g, t, none⟩ (.int .i64 d)).heap[p]? = _ := blk_set_other hb hpg t (.int .i64 d)
  have hb2 := blk_alloc hb1 x
  have hb3 := blk_grown hb2 h2 (fun e => hpr e.symm)
  have hst := (hd.stored t (.int .i64 d)).1
  have hst2 := (hst.alloc x).kept h2 (Or.inr (fun e => hne (by rw [← e]; rfl)))
  have hfr := Cd.free_set D t d ht hneg hd0
  have hv'p : v'.ownBlock ≠ some p := own_ne_blk h1 hb3 (by decide)
  refine ⟨hp, by simp; omega, g, cap, v', ?_, ?_, ?_⟩
  · rw [blk_set hb3]
    simp
  · have := ownsRow_setCell_other hst2 (a := ⟨p, 5, none⟩) (by simp [Value.ownBlock]; exact fun e => hpg e.symm) v'
    simpa using this
  · have := ownsRow_setCell_other h1 (a := ⟨p, 5, none⟩) hv'p v'
    simpa using this

theorem pafter_append {N r p g cap : Nat} {w w1 : World} {vo vf vk vr : Value} {D R : List Int} {t : Nat} {d : Int}
    (hb : w.heap[p]? = some (.cells #[vo, vf, vk, .map (some r), .slice (some ⟨g, 0, none⟩) D.length cap, vr] 59 (0, 0))) (hd : w.ownsRow N 3 1 (.slice (some ⟨g, 0, none⟩) D.length cap) D.length (D.map (Value.int .i64)))
    (hr : w.ownsRow (g + 1) 3 1 vr R.length (R.map (Value.int .i64))) (x : Obj)
    (h2 : ((w.setCell ⟨g, t, none⟩ (.int .i64 d)).alloc x).grownBy w1 vr.ownBlock) :
    w1.cell? ⟨p, 5, none⟩ = some vr ∧ w1.frozen? ⟨p, 5, none⟩ = false ∧ p < w1.heap.size := by
  have hpg : p ≠ g := fun e => own_ne_blk hd hb (by decide) (by rw [e]; rfl)
  have hpr : vr.ownBlock ≠ some p := own_ne_blk hr hb (by decide)
  have hb1 : (w.setCell ⟨g, t, none⟩ (.int .i64 d)).heap[p]? = _ := blk_set_other hb hpg t (.int .i64 d)
  have hb3 := blk_grown (blk_alloc hb1 x) h2 (fun e => hpr e.symm)
  exact ⟨by rw [blk_cell hb3]; rfl, blk_free hb3 5, blk_lt hb3⟩

def pD (D : List Int) (t d : Int) : List Int := if Cd.leadOK D t d = true then Cd.leadD D t d else D
def pW (D W : List Int) (t d : Int) : List Int := if Cd.leadOK D t d = true then Cd.leadW D W t else W

set_option maxRecDepth 100000 in
set_option maxHeartbeats 1000000 in
theorem plead_any (B N r p : Nat) (w : World) (vo vf vk : Value) (ops : List Cd.GOp) (D W : List Int) (t : Nat) (d : Int) (hW : ChkSt B N r w p vo vf vk D W) (hops : OpsV B w vo ops) (hn : D.length = ops.length) (hd0 : 0 ≤ d) :
    Calls Try.prog 21 #[.pointer (some ⟨p, 0, none⟩), .int .i64 t, .int .i64 d] w fun e w' => e = .returned (.bool (Cd.leadOK D t d)) ∧ ChkSt B N r w' p vo vf vk (pD D t d) (pW D W t d) ∧ Keep B N p w w' := by
  have hW0 := Lib.hid hW
  obtain ⟨hp, hf, g, cap, vr, hb, hd, hr⟩ := hW
  obtain ⟨_, a, b, o, co, rfl, _, _, _, _⟩ := hops
  have c0 := blk_cell hb 0
  have c4 := blk_cell hb 4
  have c5 := blk_cell hb 5
  have f5 := blk_free hb 5
  have hpl := blk_lt hb
  simp only [List.getElem?_toArray, List.getElem?_cons_zero, List.getElem?_cons_succ] at c0 c4 c5
  have hHb := Lib.hid hb
  have hHd := Lib.hid hd
  have hHr := Lib.hid hr
  have hHn := Lib.hid hn
  by_cases h1 : t < ops.length
  · have htD : t < D.length := by omega
    have hgl : g < w.heap.size := (hd.lt g rfl).2
    have hgB : N ≤ g := (hd.lt g rfl).1
    have cd := dAt_cell hd t (by omega)
    have fg := hd.frozenAt t
    have hpg : p ≠ g := fun e => own_ne_blk hd hb (by decide) (by rw [e]; rfl)
    have hr1 := Lib.hid (ownsRow_setCell_other hr (a := ⟨g, t, none⟩) (behind_ne hr) (.int .i64 d))
    clear hb hd hr hn
    by_cases h2 : d ≤ 1200
    · by_cases h3 : Cd.dAt D t < 0
      · obtain ⟨i0, hi, hz0, hz1, hz2⟩ := info_parts Try.info3
        have hok : Hid (Cd.leadOK D t d = true) := Lib.hid (by unfold Cd.leadOK; simp [htD, h2, h3])
        have hgs : g + 1 ≤ ((w.setCell ⟨g, t, none⟩ (.int .i64 d)).alloc (.cells #[.int .i64 t] 3)).heap.size := by simp; omega
        go_enter Try.func21, Try.ntmps21
        go_wp2_with (at_builtin; refine wpList_append_own _ rfl _ _ 24 rfl (g + 1) 3 i0 (.int .i64 0) 1 8 Try.underlying24 hi hz0 hz1 hz2 rfl (by decide) _ _ _ rfl (hr1.out.alloc _) ⟨w.heap.size, 0, none⟩ 1 1 [.int .i64 t] rfl rfl ?c1 (int_one _ _) ?c3 ?c4 hgs ?_; rotate_right; intro v' w1 hown' hgrow hnil; obtain ⟨k1, k2, k3⟩ := pafter_append hHb.out hHd.out hHr.out _ hgrow; obtain ⟨g', cap', rfl, k7, k8, k9⟩ := own_some hown' (by omega); clear c0 c4 c5 f5 cd fg; have hHg := Lib.hid hgrow; have hHo := Lib.hid hown'; clear hgrow hown' hnil)
        case c3 => unfold maxLen; omega
        case c4 => omega
        go_returns
        have e1 : pD D t d = D.set t d := by unfold pD; rw [if_pos hok.out]; unfold Cd.leadD; rw [Int.toNat_natCast, if_pos h3]
        have e2 : pW D W t d = W ++ [(t : Int)] := by unfold pW; rw [if_pos hok.out]; unfold Cd.leadW; rw [Int.toNat_natCast, if_pos h3]
        rw [e1, e2, hok.out]
        refine ⟨rfl, ChkSt.marked hp hf htD h3 hd0 hHb.out hHd.out hHr.out _ hHo.out hHg.out, ?_⟩
        have hgN : Below N w _ := Below.grown ((Below.setCell (p := ⟨g, t, none⟩) (Below.refl N w) hgB (.int .i64 d)).alloc (by simp; omega) (.cells #[.int .i64 t] 3)) hHg.out (by simp; omega) (fun k hk => by
          have := (hHr.out.lt k hk).1
          omega)
        exact ⟨(hgN.mono hp.2).setCell (p := ⟨p, 5, none⟩) hp.1 _, fun k hk hkp => (Below.heap_setCell _ ⟨p, 5, none⟩ _ k hkp).trans (hgN.block k hk)⟩
      · by_cases h4 : Cd.dAt D t = d
        · have h4b : (Cd.dAt D t != d) = false := by simpa using h4
          have hok : Hid (Cd.leadOK D t d = true) := Lib.hid (by unfold Cd.leadOK; simp [htD, h2, h4])
          have e1 : Hid (pD D t d = D) := Lib.hid (by unfold pD Cd.leadD; rw [Int.toNat_natCast, if_neg h3]; simp)
          have e2 : Hid (pW D W t d = W) := Lib.hid (by unfold pW Cd.leadW; rw [Int.toNat_natCast, if_neg h3]; simp)
          clear h4
          go_enter Try.func21, Try.ntmps21
          go_wp2
          go_returns
          rw [e1.out, e2.out, hok.out]
          exact ⟨rfl, hW0.out, Keep.refl _ _ _ _⟩
        · have h4b : (Cd.dAt D t != d) = true := by simpa using h4
          have hok : Hid (Cd.leadOK D t d = false) := Lib.hid (by unfold Cd.leadOK; simp [htD, h2, h4]; omega)
          have e1 : Hid (pD D t d = D) := Lib.hid (by unfold pD; rw [hok.out]; rfl)
          have e2 : Hid (pW D W t d = W) := Lib.hid (by unfold pW; rw [hok.out]; rfl)
          clear h4
          go_enter Try.func21, Try.ntmps21
          go_wp2
          go_returns
          rw [e1.out, e2.out, hok.out]
          exact ⟨rfl, hW0.out, Keep.refl _ _ _ _⟩
    · have hok : Hid (Cd.leadOK D t d = false) := Lib.hid (by unfold Cd.leadOK; simp; omega)
      have e1 : Hid (pD D t d = D) := Lib.hid (by unfold pD; rw [hok.out]; rfl)
      have e2 : Hid (pW D W t d = W) := Lib.hid (by unfold pW; rw [hok.out]; rfl)
      go_enter Try.func21, Try.ntmps21
      go_wp2
      go_returns
      rw [e1.out, e2.out, hok.out]
      exact ⟨rfl, hW0.out, Keep.refl _ _ _ _⟩
  · have hok : Hid (Cd.leadOK D t d = false) := Lib.hid (by unfold Cd.leadOK; simp; omega)
    have e1 : Hid (pD D t d = D) := Lib.hid (by unfold pD; rw [hok.out]; rfl)
    have e2 : Hid (pW D W t d = W) := Lib.hid (by unfold pW; rw [hok.out]; rfl)
    clear hb hd hr hn
    go_enter Try.func21, Try.ntmps21
    go_wp2
    go_returns
    rw [e1.out, e2.out, hok.out]
    exact ⟨rfl, hW0.out, Keep.refl _ _ _ _⟩

theorem plead_int (B N r p : Nat) (w : World) (vo vf vk : Value) (ops : List Cd.GOp) (D W : List Int) (t d : Int) (hW : ChkSt B N r w p vo vf vk D W) (hops : OpsV B w vo ops) (hn : D.length = ops.length) (ht0 : 0 ≤ t) (hd0 : 0 ≤ d) :
    Calls Try.prog 21 #[.pointer (some ⟨p, 0, none⟩), .int .i64 t, .int .i64 d] w fun e w' => e = .returned (.bool (Cd.leadOK D t d)) ∧ ChkSt B N r w' p vo vf vk (pD D t d) (pW D W t d) ∧ Keep B N p w w' := by
  obtain ⟨n, rfl⟩ := Int.eq_ofNat_of_zero_le ht0
  exact plead_any B N r p w vo vf vk ops D W n d hW hops hn hd0
end Go.Proofs.Ytjomajfgoaifbaa
