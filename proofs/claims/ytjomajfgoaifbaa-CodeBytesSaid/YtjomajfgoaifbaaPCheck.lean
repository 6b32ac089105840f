/-
  PROVED HERE: facts for the walk of the program's Check. No condition beyond the lemmas' own premises.
-/
import Derived.Test.YtjomajfgoaifbaaPRepeat
import Derived.Test.YtjomajfgoaifbaaRCheck2
namespace Go.Proofs.Ytjomajfgoaifbaa
open Go.RowKit

/-- The work's last one. -/
theorem ChkSt.last {B N r p : Nat} {w : World} {vo vf vk : Value} {D W : List Int} {x : Int} (h : ChkSt B N r w p vo vf vk D (W ++ [x])) :
    ∃ gr cap, w.cell? ⟨p, 5, none⟩ = some (.slice (some ⟨gr, 0, none⟩) (W.length + 1) cap) ∧ w.frozen? ⟨p, 5, none⟩ = false ∧ gr < w.heap.size ∧ W.length + 1 ≤ cap ∧ W.length + 1 ≤ 8000 ∧ w.cell? ⟨gr, W.length, none⟩ = some (.int .i64 x) ∧
      ∀ w' : World, w'.heap = w.heap → ChkSt B N r (w'.setCell ⟨p, 5, none⟩ (.slice (some ⟨gr, 0, none⟩) W.length cap)) p vo vf vk D W := by
  obtain ⟨hp, hf, g, cap, vr, hb, hd, hr⟩ := h
  rw [List.length_append] at hf hr
  simp only [List.length_singleton] at hf hr
  obtain ⟨gr, cr, rfl, h1, h2, h3⟩ := own_some hr (by omega)
  refine ⟨gr, cr, by rw [blk_cell hb]; rfl, blk_free hb 5, h2, h3, by omega, ?_, ?_⟩
  · rw [hr.cellAt W.length (by simp)]
    simp
  · intro w' hw
    have hb' : w'.heap[p]? = some (.cells #[vo, vf, vk, .map (some r), .slice (some ⟨g, 0, none⟩) D.length cap, .slice (some ⟨gr, 0, none⟩) (W.length + 1) cr] 59 (0, 0)) := by rw [hw]; exact hb
    have hd' : w'.ownsRow N 3 1 (.slice (some ⟨g, 0, none⟩) D.length cap) D.length (D.map (Value.int .i64)) := by
      unfold World.ownsRow at hd ⊢
      rw [hw]
      exact hd
    have hr' : w'.ownsRow (g + 1) 3 1 (.slice (some ⟨gr, 0, none⟩) (W.length + 1) cr) (W.length + 1) (W.map (Value.int .i64) ++ [.int .i64 x]) := by
      unfold World.ownsRow at hr ⊢
      rw [hw]
      simpa using hr
    have hne : g ≠ p := fun e => own_ne_blk hd' hb' (by decide) (by rw [← e]; rfl)
    have hne2 : gr ≠ p := fun e => own_ne_blk hr' hb' (by decide) (by rw [← e]; rfl)
    have hpop := ownsRow_pop (by simp) hr'
    refine ⟨hp, by omega, g, cap, .slice (some ⟨gr, 0, none⟩) W.length cr, ?_, ?_, ?_⟩
    · rw [blk_set hb']; simp
    · exact ownsRow_setCell_other hd' (a := ⟨p, 5, none⟩) (by simp [Value.ownBlock]; exact hne) _
    · exact ownsRow_setCell_other hpop (a := ⟨p, 5, none⟩) (by simp [Value.ownBlock]; exact hne2) _

/-- Of the work its length. -/
theorem ChkSt.work {B N r p : Nat} {w : World} {vo vf vk : Value} {D W : List Int} (h : ChkSt B N r w p vo vf vk D W) : ∃ a cap, w.cell? ⟨p, 5, none⟩ = some (.slice a W.length cap) := by
  obtain ⟨hp, hf, g, cap, vr, hb, hd, hr⟩ := h
  rcases hr.2 with ⟨rfl, h0⟩ | ⟨gr, cr, cur, rfl, h1, h2, h3, h4, h5, h6⟩
  · exact ⟨none, 0, by rw [blk_cell hb, h0]; rfl⟩
  · exact ⟨_, cr, by rw [blk_cell hb]; rfl⟩

/-- One order done. -/
theorem do_step {C : Cd.GCode} {f : Cd.GFn} {D W D' W' : List Int} {S : Nat → Prop} {x : Nat} {ok : Bool} (rng : ∀ o ∈ C.ops, Cd.rangeB C.ops.length C.fns.length C.kinds.length o = true) (hm : Cd.Mid C f D S W x)
    (h1 : Cd.stepF C f.slots x (Cd.dAt D x) = none → ok = false) (h2 : ∀ l, Cd.stepF C f.slots x (Cd.dAt D x) = some l → ok = (Cd.leads D W l).1 ∧ (ok = true → D' = (Cd.leads D W l).2.1 ∧ W' = (Cd.leads D W l).2.2)) :
    (ok = true → ∃ S', Cd.Inv C f D' S' W' ∧ 2 * Cd.free D' + W'.length ≤ 2 * Cd.free D + W.length) ∧ (ok = false → Cd.formOK C f = false) := by
  cases hs : Cd.stepF C f.slots x (Cd.dAt D x) with
  | none => exact ⟨fun h => absurd ((h1 hs).symm.trans h) (by simp), fun _ => hm.no hs⟩
  | some l =>
    obtain ⟨g1, g2⟩ := h2 l hs
    obtain ⟨i1, i2⟩ := Cd.leads_inv hm hs (Cd.stepF_pos rng hm.here.2 hm.here.1 hs)
    refine ⟨fun h => ?_, fun h => i2 (by rw [← g1]; exact h)⟩
    obtain ⟨rfl, rfl⟩ := g2 h
    obtain ⟨j1, j2⟩ := i1 (by rw [← g1]; exact h)
    exact ⟨_, j1, j2⟩

/-- The last one taken from the work. -/
theorem inv_pop {C : Cd.GCode} {f : Cd.GFn} {D W : List Int} {S : Nat → Prop} {x : Int} (h : Cd.Inv C f D S (W ++ [x])) :
    ∃ y : Nat, x = y ∧ y < C.ops.length ∧ 0 ≤ Cd.dAt D y ∧ Cd.dAt D y ≤ 1200 ∧ D.length = C.ops.length ∧ Cd.Mid C f D S W y := by
  obtain ⟨h1, h2, h3⟩ := h.inW x (by simp)
  obtain ⟨y, rfl⟩ := Int.eq_ofNat_of_zero_le h1
  have hm := h.mid (x := y) (W' := W) (by simp) (fun z hz => by
    rcases List.mem_append.1 hz with h | h
    · exact Or.inr h
    · exact Or.inl (by simpa using h)) (fun z hz => List.mem_append_left _ hz)
  rw [Int.toNat_natCast] at h3 hm
  exact ⟨y, rfl, by omega, h3, h.le y, h.len, hm⟩
end Go.Proofs.Ytjomajfgoaifbaa
