/-
  PROVED HERE: the reference's form tells whether a function's orders can be marked. No condition beyond the lemmas' own premises.
-/
import Derived.Test.YtjomajfgoaifbaaROrder3
import Derived.Deep.LoopGhost
import Derived.StillTailTactics
namespace Go.Proofs.Ytjomajfgoaifbaa
open Go.RowKit

theorem SlV.up {B B' : Nat} {v : Value} {n bytes : Nat} {C : Nat → Nat → Prop} (h : SlV B v n bytes C) (hB : B ≤ B') : SlV B' v n bytes C := h.mono hB fun _ _ _ h => h
theorem IntsV.up {B B' : Nat} {w : World} {v : Value} {l : List Int} (h : IntsV B w v l) (hB : B ≤ B') : IntsV B' w v l := ⟨h.1, h.2.up hB⟩
theorem CodeV.up {B B' : Nat} {w : World} {vo vf vk : Value} {C : Cd.GCode} (h : CodeV B w vo vf vk C) (hB : B ≤ B') : CodeV B' w vo vf vk C :=
  ⟨⟨h.ops.1, h.ops.2.up hB⟩, ⟨h.fns.1, h.fns.2.mono hB fun b o _ hc i hi => by obtain ⟨c1, c2, c3, u, c4, c5⟩ := hc i hi; exact ⟨c1, c2, c3, u, c4, c5.up hB⟩⟩,
    SlV.mono h.kinds hB fun b o _ hc i hi => by obtain ⟨u, c4, c5⟩ := hc i hi; exact ⟨u, c4, c5.up hB⟩⟩

def FormRes (C : Cd.GCode) (f : Cd.GFn) (m k : Nat) (D R : List Int) (bad : Bool) : Prop :=
  (bad = true ∧ Cd.formOK C f = false) ∨ (bad = false ∧ k ≤ R.length ∧ (∃ S, Cd.Inv C f D S (R.drop k)) ∧ 2 * Cd.free D + (R.length - k) ≤ m)

/-- While the depths are being laid. -/
def Laying (p : Nat) (vo vf vk : Value) (k : Nat) (w : World) : Prop := ∃ vd, w.heap[p]? = some (.cells #[vo, vf, vk, vd, .slice none 0 0, .bool false] 120 (0, 0)) ∧ w.ownsRow p 3 1 vd k (List.replicate k (.int .i64 (-1)))

theorem Laying.step {p k : Nat} {vo vf vk vd v' : Value} {w w1 : World} (hb : w.heap[p]? = some (.cells #[vo, vf, vk, vd, .slice none 0 0, .bool false] 120 (0, 0))) (hd : w.ownsRow p 3 1 vd k (List.replicate k (.int .i64 (-1)))) (x : Obj)
    (h1 : w1.ownsRow p 3 1 v' (k + 1) (List.replicate k (.int .i64 (-1)) ++ [.int .i64 (-1)])) (h2 : (w.alloc x).grownBy w1 vd.ownBlock) :
    Laying p vo vf vk (k + 1) (w1.setCell ⟨p, 3, none⟩ v') ∧ w1.frozen? ⟨p, 3, none⟩ = false ∧ w1.cell? ⟨p, 3, none⟩ = some vd := by
  have hp : vd.ownBlock ≠ some p := own_ne_blk hd hb (by decide)
  have hb1 := blk_grown (blk_alloc hb x) h2 (fun e => hp e.symm)
  refine ⟨⟨v', by rw [blk_set hb1]; simp, ?_⟩, blk_free hb1 3, by rw [blk_cell hb1]; rfl⟩
  rw [List.replicate_succ']
  exact ownsRow_setCell_other h1 (a := ⟨p, 3, none⟩) (own_ne_blk h1 hb1 (by decide)) v'

theorem Laying.done {B p n : Nat} {vo vf vk : Value} {w : World} (h : Laying p vo vf vk n w) (hn : 0 < n) (h8 : n ≤ 8000) (hB : B ≤ p) : WalkAt B w p vo vf vk (List.replicate n (-1)) [] false := by
  obtain ⟨vd, hb, hd⟩ := h
  obtain ⟨g, cap, rfl, hg, hgl, hc⟩ := own_some hd hn
  refine ⟨hB, ?_, g, cap, .slice none 0 0, by simpa using hb, ?_, World.ownsRow_nil _ _ _ _⟩
  · have : Cd.free (List.replicate n (-1)) ≤ n := by unfold Cd.free; have := List.countP_le_length (p := fun x : Int => decide (x < 0)) (l := List.replicate n (-1)); simpa using this
    simp; omega
  · refine ⟨by simp, ?_⟩
    rcases hd.2 with ⟨h, _⟩ | ⟨g', cap', cur, h, h1, h2, h3, h4, h5, h6⟩
    · cases h
    · refine Or.inr ⟨g', cap', cur, by simpa using h, by omega, h2, by simpa using h3, h4, h5, ?_⟩
      simpa using h6

/-- What a walk's row holds. -/
theorem WalkAt.row {B p : Nat} {w : World} {vo vf vk : Value} {D R : List Int} {bad : Bool} (h : WalkAt B w p vo vf vk D R bad) :
    ∃ a gr cap, w.cell? ⟨p, 4, none⟩ = some (.slice a R.length cap) ∧ (0 < R.length → a = some ⟨gr, 0, none⟩ ∧ gr < w.heap.size) ∧ R.length ≤ 8000 ∧ ∀ k, k < R.length → w.cell? ⟨gr, k, none⟩ = some (.int .i64 (iAt R k)) := by
  obtain ⟨hp, hf, g, cap, vr, hb, hd, hr⟩ := h
  have c4 := blk_cell hb 4
  simp only [List.getElem?_toArray, List.getElem?_cons_zero, List.getElem?_cons_succ] at c4
  rcases hr.2 with ⟨rfl, h0⟩ | ⟨gr, cr, cur, rfl, h1, h2, h3, h4, h5, h6⟩
  · exact ⟨none, 0, 0, by rw [c4, h0], by omega, by omega, by omega⟩
  · refine ⟨_, gr, cr, c4, fun _ => ⟨rfl, blk_lt h2⟩, by omega, fun k hk => ?_⟩
    rw [hr.cellAt k (by omega)]
    simp [iAt, List.getElem?_eq_getElem hk]

theorem FormRes.take {C : Cd.GCode} {f : Cd.GFn} {m k : Nat} {D R : List Int} (h : FormRes C f m k D R false) (hk : k < R.length) :
    ∃ x : Nat, iAt R k = x ∧ x < C.ops.length ∧ 0 ≤ Cd.dAt D x ∧ Cd.dAt D x ≤ 1200 ∧ D.length = C.ops.length ∧ ∃ S, Cd.Mid C f D S (R.drop (k + 1)) x ∧ 2 * Cd.free D + (R.length - k) ≤ m := by
  rcases h with ⟨h, _⟩ | ⟨_, _, ⟨S, hS⟩, hm⟩
  · cases h
  · have hmem : iAt R k ∈ R.drop k := by
      have e : iAt R k = R[k] := by simp [iAt, List.getElem?_eq_getElem hk]
      rw [List.drop_eq_getElem_cons hk, e]
      exact List.mem_cons_self
    obtain ⟨h1, h2, h3⟩ := hS.inW _ hmem
    obtain ⟨x, hx⟩ := Int.eq_ofNat_of_zero_le h1
    have hmid := hS.mid hmem (W' := R.drop (k + 1)) (fun y hy => by
        rw [List.drop_eq_getElem_cons hk] at hy
        rcases List.mem_cons.1 hy with e | e
        · exact Or.inl (by rw [e]; simp [iAt, List.getElem?_eq_getElem hk])
        · exact Or.inr e) (fun y hy => by rw [List.drop_eq_getElem_cons hk]; exact List.mem_cons_of_mem _ hy)
    rw [hx] at h2 h3 hmid
    rw [Int.toNat_natCast] at h3 hmid
    exact ⟨x, hx, by omega, h3, hS.le x, hS.len, S, hmid, hm⟩

theorem leads_drop : ∀ (l : List (Int × Int)) (D R : List Int) (k : Nat), k ≤ R.length → (Cd.leads D (R.drop k) l).1 = (Cd.leads D R l).1 ∧ (Cd.leads D (R.drop k) l).2.1 = (Cd.leads D R l).2.1 ∧ (Cd.leads D (R.drop k) l).2.2 = (Cd.leads D R l).2.2.drop k ∧ R.length ≤ (Cd.leads D R l).2.2.length
  | [], D, R, k, hk => by simp [Cd.leads]
  | x :: l, D, R, k, hk => by
    have hw : Cd.leadW D (R.drop k) x.1 = (Cd.leadW D R x.1).drop k := by
      unfold Cd.leadW
      split
      · rw [List.drop_append_of_le_length hk]
      · rfl
    have hl : R.length ≤ (Cd.leadW D R x.1).length := by unfold Cd.leadW; split <;> simp
    unfold Cd.leads
    split
    · rw [hw]
      obtain ⟨h1, h2, h3, h4⟩ := leads_drop l (Cd.leadD D x.1 x.2) (Cd.leadW D R x.1) k (by omega)
      exact ⟨h1, h2, h3, by omega⟩
    · exact ⟨rfl, rfl, rfl, Nat.le_refl _⟩

/-- One order looked at: what the walk tells of the function stays right. -/
theorem FormRes.step {C : Cd.GCode} {f : Cd.GFn} {m k x : Nat} {D R D' R' : List Int} {S : Nat → Prop} {bad' : Bool} (rng : ∀ o ∈ C.ops, Cd.rangeB C.ops.length C.fns.length C.kinds.length o = true) (hk : k < R.length) (hm : Cd.Mid C f D S (R.drop (k + 1)) x) (hmm : 2 * Cd.free D + (R.length - k) ≤ m)
    (ho : OrdPost (Cd.stepF C f.slots x (Cd.dAt D x)) D R D' R' bad') : ∃ m', m' < m ∧ FormRes C f m' (k + 1) D' R' bad' := by
  obtain ⟨h1, h2, h3⟩ := ho
  cases hs : Cd.stepF C f.slots x (Cd.dAt D x) with
  | none => exact ⟨m - 1, by omega, Or.inl ⟨h2 hs, hm.no hs⟩⟩
  | some l =>
    obtain ⟨_, g2, g3⟩ := h3 l hs
    obtain ⟨i1, i2⟩ := Cd.leads_inv hm hs (Cd.stepF_pos rng hm.here.2 hm.here.1 hs)
    obtain ⟨d1, d2, d3, d4⟩ := leads_drop l D R (k + 1) (by omega)
    rw [d1] at i1 i2
    cases hok : (Cd.leads D R l).1 with
    | false => exact ⟨m - 1, by omega, Or.inl ⟨g3 hok, i2 hok⟩⟩
    | true =>
      obtain ⟨rfl, rfl, rfl⟩ := g2 hok
      obtain ⟨j1, j2⟩ := i1 hok
      rw [d2, d3] at j1
      rw [d2, d3] at j2
      simp only [List.length_drop] at j2
      exact ⟨2 * Cd.free (Cd.leads D R l).2.1 + ((Cd.leads D R l).2.2.length - (k + 1)), by omega, Or.inr ⟨rfl, by omega, ⟨_, j1⟩, by omega⟩⟩

theorem FormRes.end {C : Cd.GCode} {f : Cd.GFn} {m : Nat} {D R : List Int} (h : FormRes C f m R.length D R false) : Cd.formOK C f = true := by
  rcases h with ⟨h, _⟩ | ⟨_, _, ⟨S, hS⟩, hm⟩
  · cases h
  · rw [List.drop_length] at hS
    exact hS.good

set_option maxRecDepth 100000 in
set_option maxHeartbeats 2000000 in
theorem rform_any (B : Nat) (w : World) (vo vf vk : Value) (C : Cd.GCode) (f : Cd.GFn) (f3 : Value) (hC : CodeV B w vo vf vk C) (hB : B ≤ w.heap.size) (n8 : C.ops.length ≤ 8000) (rng : ∀ o ∈ C.ops, Cd.rangeB C.ops.length C.fns.length C.kinds.length o = true)
    (hs0 : 0 ≤ f.start) (hs1 : f.start < C.ops.length) :
    Calls Try.prog 25 #[.agg #[vo, vf, vk], .agg #[.int .i64 f.params, .int .i64 f.slots, .int .i64 f.start, f3]] w fun e w' => e = .returned (.bool (Cd.formOK C f)) ∧ Below w.heap.size w w' := by
  have HC := Lib.hid hC
  obtain ⟨_, a, b, o, co, rfl, _, _, hab, _⟩ := hC.ops
  obtain ⟨rfl, hbB⟩ := hab (by omega)
  clear hC hab
  go_enter Try.func25, Try.ntmps25
  go_wp2
  obtain ⟨i0, hi, hz0, hz1, hz2⟩ := info_parts Try.info3
  have hW2 : Below (w.heap.size + 1 + 1) ((w.alloc (.cells #[.slice (some ⟨b, o, none⟩) C.ops.length co, vf, vk] 30)).alloc (.cells #[.int .i64 f.params, .int .i64 f.slots, .int .i64 f.start, f3] 61)) (((w.alloc (.cells #[.slice (some ⟨b, o, none⟩) C.ops.length co, vf, vk] 30)).alloc (.cells #[.int .i64 f.params, .int .i64 f.slots, .int .i64 f.start, f3] 61)).alloc (.cells #[.slice (some ⟨b, o, none⟩) C.ops.length co, vf, vk, .slice none 0 0, .slice none 0 0, .bool false] 120)) := (Below.refl _ _).alloc (by simp) _
  have hlay : Laying (w.heap.size + 1 + 1) (.slice (some ⟨b, o, none⟩) C.ops.length co) vf vk 0 (((w.alloc (.cells #[.slice (some ⟨b, o, none⟩) C.ops.length co, vf, vk] 30)).alloc (.cells #[.int .i64 f.params, .int .i64 f.slots, .int .i64 f.start, f3] 61)).alloc (.cells #[.slice (some ⟨b, o, none⟩) C.ops.length co, vf, vk, .slice none 0 0, .slice none 0 0, .bool false] 120)) :=
    ⟨.slice none 0 0, by have := blk_new ((w.alloc (.cells #[.slice (some ⟨b, o, none⟩) C.ops.length co, vf, vk] 30)).alloc (.cells #[.int .i64 f.params, .int .i64 f.slots, .int .i64 f.start, f3] 61)) (.cells #[.slice (some ⟨b, o, none⟩) C.ops.length co, vf, vk, .slice none 0 0, .slice none 0 0, .bool false] 120); simpa using this, World.ownsRow_nil _ _ _ _⟩
  have q0 : ((w.alloc (.cells #[.slice (some ⟨b, o, none⟩) C.ops.length co, vf, vk] 30)).alloc (.cells #[.int .i64 f.params, .int .i64 f.slots, .int .i64 f.start, f3] 61)).cell? ⟨w.heap.size, 0, none⟩ = some (.slice (some ⟨b, o, none⟩) C.ops.length co) := by
    rw [World.cell?_alloc_lt _ _ _ (by simp), World.cell?_alloc_new]; rfl
  have q1 : ∀ i, ((w.alloc (.cells #[.slice (some ⟨b, o, none⟩) C.ops.length co, vf, vk] 30)).alloc (.cells #[.int .i64 f.params, .int .i64 f.slots, .int .i64 f.start, f3] 61)).cell? ⟨w.heap.size + 1, i, none⟩ = (#[.int .i64 f.params, .int .i64 f.slots, .int .i64 f.start, f3] : Array Value)[i]? := by
    intro i
    have e : w.heap.size + 1 = (w.alloc (.cells #[.slice (some ⟨b, o, none⟩) C.ops.length co, vf, vk] 30)).heap.size := by simp
    rw [e, World.cell?_alloc_new]
  have hW0 : Below w.heap.size w ((w.alloc (.cells #[.slice (some ⟨b, o, none⟩) C.ops.length co, vf, vk] 30)).alloc (.cells #[.int .i64 f.params, .int .i64 f.slots, .int .i64 f.start, f3] 61)) := by go_grown
  have hz2w : ((w.alloc (.cells #[.slice (some ⟨b, o, none⟩) C.ops.length co, vf, vk] 30)).alloc (.cells #[.int .i64 f.params, .int .i64 f.slots, .int .i64 f.start, f3] 61)).heap.size = w.heap.size + 1 + 1 := by simp
  generalize ((w.alloc (.cells #[.slice (some ⟨b, o, none⟩) C.ops.length co, vf, vk] 30)).alloc (.cells #[.int .i64 f.params, .int .i64 f.slots, .int .i64 f.start, f3] 61)) = W2 at *
  have HW2 := Lib.hid hW2
  have Hlay := Lib.hid hlay
  have HW0 := Lib.hid hW0
  have Hz2w := Lib.hid hz2w
  have Hq1 := Lib.hid q1
  clear hW2 hlay hW0 hz2w q1
  go_loopw [6] (fun i wr => Hid (Below (w.heap.size + 1 + 1) W2 wr) ∧ ∃ k : Nat, k ≤ C.ops.length ∧ i = .int .i64 k ∧ Hid (Laying (w.heap.size + 1 + 1) (.slice (some ⟨b, o, none⟩) C.ops.length co) vf vk k wr)) (fun i _ => C.ops.length - (intOf i).toNat)
  case atStart => exact ⟨HW2, 0, by omega, rfl, Hlay⟩
  case round =>
    obtain ⟨Hbel, k, hk, rfl, Hl⟩ := hrel
    have qc := (Hbel.out.cell (p := ⟨w.heap.size, 0, none⟩) (by show w.heap.size < _; omega)).trans q0
    clear HW2 Hlay q0
    by_cases hkn : k < C.ops.length
    · obtain ⟨vd, hb, hd⟩ := Hl.out
      have c3 := blk_cell hb 3
      simp only [List.getElem?_toArray, List.getElem?_cons_zero, List.getElem?_cons_succ] at c3
      have f3' := blk_free hb 3
      have hpl := blk_lt hb
      have Hb := Lib.hid hb
      have Hd := Lib.hid hd
      have hp1 : w.heap.size + 1 + 1 ≤ (wr.alloc (.cells #[.int .i64 (-1)] 3)).heap.size := by simp; omega
      clear hb hd Hl
      go_wp2_with (at_builtin; refine wpList_append_own _ rfl _ _ 24 rfl (w.heap.size + 1 + 1) 3 i0 (.int .i64 0) 1 8 Try.underlying24 hi hz0 hz1 hz2 rfl (by decide) _ _ _ rfl (Hd.out.alloc _) ⟨wr.heap.size, 0, none⟩ 1 1 [.int .i64 (-1)] rfl rfl ?c1 (int_one _ _) ?c3 ?c4 hp1 ?_; rotate_right; intro v' w1 hown' hgrow hnil; obtain ⟨l1, l2, l3⟩ := Laying.step Hb.out Hd.out _ hown' hgrow; obtain ⟨g', cap', rfl, k7, k8, k9⟩ := own_some hown' (by omega); have Hg := Lib.hid hgrow; have L1 := Lib.hid l1; clear hgrow hown' hnil l1 c3 f3')
      case c1 => exact cell_one_new _ _ _
      case c3 => unfold maxLen; omega
      case c4 => omega
      go_roundw
      case rel =>
        refine ⟨Lib.hid (Below.setCell (Below.grown (Hbel.out.alloc (by omega) _) Hg.out (by simp; omega) ?_) (Nat.le_refl _) _), k + 1, by omega, by go_num, L1⟩
        intro j hj
        exact (Hd.out.lt j hj).1
      case measure => simp [intOf]; omega
    · obtain rfl : k = C.ops.length := by omega
      have qs : wr.cell? ⟨w.heap.size + 1, 2, none⟩ = some (.int .i64 f.start) := (Hbel.out.cell (p := ⟨w.heap.size + 1, 2, none⟩) (by show w.heap.size + 1 < _; omega)).trans (Hq1.out 2)
      have hCN : Hid (CodeV (w.heap.size + 1 + 1) W2 (.slice (some ⟨b, o, none⟩) C.ops.length co) vf vk C) := Lib.hid ((HC.out.below (HW0.out.mono hB) (Nat.le_refl _)).up (by omega))
      have hWk := Lib.hid (Hl.out.done (by omega) n8 (Nat.le_refl _))
      have hops := Lib.hid (hCN.out.ops.below Hbel.out (Nat.le_refl _))
      go_wp2_with fail
      refine (rlead_int (w.heap.size + 1 + 1) (w.heap.size + 1 + 1) _ _ vf vk C.ops _ _ _ _ _ hWk.out hops.out (by simp) n8 hs0 (by omega)).mono ?_
      rintro e w3 ⟨rfl, hW3, hb3⟩
      obtain ⟨n1, n2⟩ : Hid (Cd.Inv C f (rD (List.replicate C.ops.length (-1)) f.start 0) (fun _ => False) (rR (List.replicate C.ops.length (-1)) [] f.start 0)) ∧ rBad (List.replicate C.ops.length (-1)) false f.start 0 = false := by
        have hd : Cd.dAt (List.replicate C.ops.length (-1)) f.start.toNat < 0 := by
          unfold Cd.dAt
          have : f.start.toNat < C.ops.length := by omega
          simp [this]
        have e1 : rD (List.replicate C.ops.length (-1)) f.start 0 = (List.replicate C.ops.length (-1)).set f.start.toNat 0 := by unfold rD; rw [if_pos (by simp; omega)]; unfold Cd.leadD; rw [if_pos hd]
        have e2 : rR (List.replicate C.ops.length (-1)) [] f.start 0 = [f.start] := by unfold rR; rw [if_pos (by simp; omega)]; unfold Cd.leadW; rw [if_pos hd]; rfl
        refine ⟨Lib.hid (by rw [e1, e2]; exact Cd.Inv.start hs0 hs1), ?_⟩
        unfold rBad Cd.leadOK
        simp [hd]
        omega
      rw [n2] at hW3
      have HW3 := Lib.hid hW3
      have HB3 := Lib.hid (Hbel.out.trans hb3)
      clear hW3 hb3 n2 qs qc
      generalize rD (List.replicate C.ops.length (-1)) f.start 0 = D0 at *
      generalize rR (List.replicate C.ops.length (-1)) [] f.start 0 = R0 at *
      go_wp2
      go_loopg [7] (2 * Cd.free D0 + R0.length) (fun m i wr => Hid (Below (w.heap.size + 1 + 1) W2 wr) ∧ ∃ (k : Nat) (D R : List Int) (bad : Bool), i = .int .i64 k ∧ Hid (WalkAt (w.heap.size + 1 + 1) wr (w.heap.size + 1 + 1) (.slice (some ⟨b, o, none⟩) C.ops.length co) vf vk D R bad) ∧ Hid (FormRes C f m k D R bad))
      case atStart => exact ⟨HB3, 0, D0, R0, false, rfl, HW3, Lib.hid (Or.inr ⟨rfl, by omega, ⟨_, by simpa using n1.out⟩, by omega⟩)⟩
      case round =>
        clear Hbel HB3 HW3 n1
        obtain ⟨Hbel, k, D, R, bad, rfl, HWk, Hres⟩ := hrel
        obtain ⟨a, gr, cr, c4, hrow, hR8, hcell⟩ := HWk.out.row
        obtain ⟨_, _, _, c5, _⟩ := HWk.out.look
        have hpl := HWk.out.lt
        have Hcell := Lib.hid hcell
        have Hrow := Lib.hid hrow
        clear hcell hrow
        cases bad with
        | true =>
          have hno : Cd.formOK C f = false := by
            rcases Hres.out with ⟨_, h⟩ | ⟨h, _⟩
            · exact h
            · cases h
          have Hno := Lib.hid hno
          clear hno
          go_wp2
          all_goals
            go_returns
            rw [Hno.out]
            exact ⟨rfl, HW0.out.trans (Hbel.out.mono (by omega))⟩
        | false =>
          by_cases hkR : k < R.length
          · obtain ⟨x, hx, x1, x2, x3, hDl, S, hmid, hmm⟩ := Hres.out.take hkR
            obtain ⟨rfl, hgr⟩ := Hrow.out (by omega)
            have cr' := Hcell.out k hkR
            rw [hx] at cr'
            have qf0 := (Hbel.out.cell (p := ⟨w.heap.size + 1, 0, none⟩) (by show w.heap.size + 1 < _; omega)).trans (Hq1.out 0)
            have qf1 := (Hbel.out.cell (p := ⟨w.heap.size + 1, 1, none⟩) (by show w.heap.size + 1 < _; omega)).trans (Hq1.out 1)
            have qf2 := (Hbel.out.cell (p := ⟨w.heap.size + 1, 2, none⟩) (by show w.heap.size + 1 < _; omega)).trans (Hq1.out 2)
            have qf3 := (Hbel.out.cell (p := ⟨w.heap.size + 1, 3, none⟩) (by show w.heap.size + 1 < _; omega)).trans (Hq1.out 3)
            simp only [List.getElem?_toArray, List.getElem?_cons_zero, List.getElem?_cons_succ] at qf0 qf1 qf2 qf3
            have HO : Hid (OrdCtx (w.heap.size + 1 + 1) (w.heap.size + 1 + 1) wr.drew (.slice (some ⟨b, o, none⟩) C.ops.length co) vf vk C D R x) :=
              Lib.hid ⟨HWk.out.below ((Below.refl _ _).drew), (hCN.out.below Hbel.out (Nat.le_refl _)).below ((Below.refl (w.heap.size + 1 + 1) wr).drew) (Nat.le_refl _), hDl, n8, rng, x1, x2, x3, by simp; omega⟩
            have Hmid := Lib.hid hmid
            have Hx := Lib.hid hx
            clear hmid hx hDl
            go_wp2_with fail
            go_still_tail 9, (by kernel_rfl)
            change wpList _ _ _ _ _ wr.drew
            go_wp2_with (go_at_call 62; refine (rorder_any (w.heap.size + 1 + 1) (w.heap.size + 1 + 1) _ _ vf vk C D R x f.params f.slots f.start f3 HO.out).mono ?_; rintro e w4 ⟨rfl, hP⟩; have HP := Lib.hid hP; clear hP)
            obtain ⟨⟨D', R', bad', hW4, hO4⟩, hb4⟩ := HP.out
            obtain ⟨m', hm', hres'⟩ := FormRes.step rng hkR Hmid.out hmm hO4
            go_roundg m'
            case measure => exact hm'
            case rel => exact ⟨Lib.hid (Hbel.out.trans ((Below.drew (Below.refl _ _)).trans hb4)), k + 1, D', R', bad', by go_num, Lib.hid hW4, Lib.hid hres'⟩
          · obtain rfl : k = R.length := by
              rcases Hres.out with ⟨h, _⟩ | ⟨_, h, _⟩
              · cases h
              · omega
            have Hyes := Lib.hid Hres.out.end
            go_wp2
            go_returns
            rw [Hyes.out]
            exact ⟨rfl, HW0.out.trans (Hbel.out.mono (by omega))⟩
end Go.Proofs.Ytjomajfgoaifbaa
