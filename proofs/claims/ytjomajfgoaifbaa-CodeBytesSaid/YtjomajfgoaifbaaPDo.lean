/-
  PROVED HERE: what the program's checker.do does to a checker's memory, and what it answers. No condition beyond the lemmas' own premises.
-/
import Derived.Test.YtjomajfgoaifbaaPChoose
import Derived.Test.YtjomajfgoaifbaaROrder3
namespace Go.Proofs.Ytjomajfgoaifbaa
open Go.RowKit

structure DoCtx (B N r p : Nat) (w : World) (vo vf vk : Value) (C : Cd.GCode) (D W : List Int) (at_ : Nat) : Prop where
  chk : ChkSt B N r w p vo vf vk D W
  tab : TabAt r w
  rB : r + 2 < B
  code : CodeV B w vo vf vk C
  len : D.length = C.ops.length
  n8 : C.ops.length ≤ 8000
  rng : ∀ o ∈ C.ops, Cd.rangeB C.ops.length C.fns.length C.kinds.length o = true
  lt : at_ < C.ops.length
  d0 : 0 ≤ Cd.dAt D at_
  d1 : Cd.dAt D at_ ≤ 1200
  low : B ≤ w.heap.size

theorem DoCtx.look {B N r p : Nat} {w : World} {vo vf vk : Value} {C : Cd.GCode} {D W : List Int} {at_ : Nat} (h : DoCtx B N r p w vo vf vk C D W at_) :
    ∃ b o co g cap, vo = .slice (some ⟨b, o, none⟩) C.ops.length co ∧ b < B ∧ w.cell? ⟨p, 0, none⟩ = some vo ∧ w.cell? ⟨p, 1, none⟩ = some vf ∧ w.cell? ⟨p, 3, none⟩ = some (.map (some r)) ∧ w.cell? ⟨p, 4, none⟩ = some (.slice (some ⟨g, 0, none⟩) C.ops.length cap) ∧ w.cell? ⟨g, at_, none⟩ = some (.int .i64 (Cd.dAt D at_)) ∧
      w.cell? ⟨b, o + at_ * 3, none⟩ = some (.int .i64 (Cd.opAt C at_).d) ∧ w.cell? ⟨b, o + at_ * 3 + 1, none⟩ = some (.int .i64 (Cd.opAt C at_).a) ∧ w.cell? ⟨b, o + at_ * 3 + 2, none⟩ = some (.int .i64 (Cd.opAt C at_).b) ∧
      p < w.heap.size ∧ b < w.heap.size ∧ g < w.heap.size := by
  obtain ⟨hp, hf, g, cap, vr, hb, hd, hr⟩ := h.chk
  obtain ⟨hI, a, b, o, co, rfl, hco, hco2, hab, hc⟩ := h.code.ops
  obtain ⟨rfl, hbB⟩ := hab (by have := h.lt; omega)
  obtain ⟨e1, e2, e3⟩ := hc at_ h.lt
  have hlow := h.low
  refine ⟨b, o, co, g, cap, rfl, hbB, by rw [blk_cell hb]; rfl, by rw [blk_cell hb]; rfl, by rw [blk_cell hb]; rfl, by rw [blk_cell hb, ← h.len]; rfl, dAt_cell hd at_ (by rw [h.len]; exact h.lt), e1, e2, e3, blk_lt hb, by omega, (hd.lt g rfl).2⟩

/-- f.Slots's test, captured with f. -/
theorem test_slots (bf : Nat) (w : World) (f1 : Int) (h : w.cell? ⟨bf, 1, none⟩ = some (.int .i64 f1)) (hl : bf < w.heap.size) : TestV w (Value.int .i64) 60 #[.pointer (some ⟨bf, 0, none⟩)] (fun x => decide (f1 ≤ x)) := by
  refine ⟨fun _ _ => by kernel_rfl, fun x y => ?_⟩
  have h2 := held_cell h hl y
  show Calls Try.prog 60 #[.int .i64 x, .pointer (some ⟨bf, 0, none⟩)] y.val _
  generalize y.val = W at *
  clear h y
  go_enter Try.func60, Try.ntmps60
  go_wp2
  go_returns
  exact ⟨rfl, Below.refl _ _⟩

/-- What there is in memory once the order and its shape have been fetched. -/
structure DoMid (B N r p : Nat) (w W2 : World) (vo vf vk : Value) (C : Cd.GCode) (D W : List Int) (f1 tk pt : Int) (o : Cd.GOp) : Prop where
  chk : ChkSt B N r W2 p vo vf vk D W
  tab : TabAt r W2
  code : CodeV B W2 vo vf vk C
  bel : Keep B N p w W2
  f1 : W2.cell? ⟨w.heap.size, 1, none⟩ = some (.int .i64 f1)
  od : W2.cell? ⟨w.heap.size + 1, 0, none⟩ = some (.int .i64 o.d)
  oa : W2.cell? ⟨w.heap.size + 1, 1, none⟩ = some (.int .i64 o.a)
  tk : W2.cell? ⟨w.heap.size + 1 + 1, 2, none⟩ = some (.int .i64 tk)
  pt : W2.cell? ⟨w.heap.size + 1 + 1, 3, none⟩ = some (.int .i64 pt)
  size : w.heap.size + 1 + 1 < W2.heap.size

theorem do_mid {B N r p : Nat} {w : World} {vo vf vk x0 x1 : Value} {C : Cd.GCode} {D W : List Int} {at_ : Nat} {f0 f1 f2 tk pt : Int} {f3 : Value} {od oa ob : Int} (h : DoCtx B N r p w vo vf vk C D W at_) :
    DoMid B N r p w ((((w.alloc (.cells #[.int .i64 f0, .int .i64 f1, .int .i64 f2, f3] 61)).alloc (.cells #[.int .i64 od, .int .i64 oa, .int .i64 ob] 68)).alloc (.cells #[x0, x1, .int .i64 tk, .int .i64 pt] 110)).drew.drew) vo vf vk C D W f1 tk pt ⟨od, oa, ob⟩ := by
  have hlow := h.low
  have h0 : Below w.heap.size w ((((w.alloc (.cells #[.int .i64 f0, .int .i64 f1, .int .i64 f2, f3] 61)).alloc (.cells #[.int .i64 od, .int .i64 oa, .int .i64 ob] 68)).alloc (.cells #[x0, x1, .int .i64 tk, .int .i64 pt] 110)).drew.drew) :=
    (((((Below.refl _ _).alloc (Nat.le_refl _) _).alloc (by simp) _).alloc (by simp; omega) _)).drew.drew
  have e1 : ∀ i, ((((w.alloc (.cells #[.int .i64 f0, .int .i64 f1, .int .i64 f2, f3] 61)).alloc (.cells #[.int .i64 od, .int .i64 oa, .int .i64 ob] 68)).alloc (.cells #[x0, x1, .int .i64 tk, .int .i64 pt] 110)).drew.drew).cell? ⟨w.heap.size, i, none⟩ = (#[.int .i64 f0, .int .i64 f1, .int .i64 f2, f3] : Array Value)[i]? := fun i => by
    rw [World.cell?_drew, World.cell?_drew, World.cell?_alloc_lt _ _ _ (by simp; omega), World.cell?_alloc_lt _ _ _ (by simp), World.cell?_alloc_new]
  have e2 : ∀ i, ((((w.alloc (.cells #[.int .i64 f0, .int .i64 f1, .int .i64 f2, f3] 61)).alloc (.cells #[.int .i64 od, .int .i64 oa, .int .i64 ob] 68)).alloc (.cells #[x0, x1, .int .i64 tk, .int .i64 pt] 110)).drew.drew).cell? ⟨w.heap.size + 1, i, none⟩ = (#[.int .i64 od, .int .i64 oa, .int .i64 ob] : Array Value)[i]? := fun i => by
    have e : w.heap.size + 1 = (w.alloc (.cells #[.int .i64 f0, .int .i64 f1, .int .i64 f2, f3] 61)).heap.size := by simp
    rw [World.cell?_drew, World.cell?_drew, World.cell?_alloc_lt _ _ _ (by simp), e, World.cell?_alloc_new]
  have e3 : ∀ i, ((((w.alloc (.cells #[.int .i64 f0, .int .i64 f1, .int .i64 f2, f3] 61)).alloc (.cells #[.int .i64 od, .int .i64 oa, .int .i64 ob] 68)).alloc (.cells #[x0, x1, .int .i64 tk, .int .i64 pt] 110)).drew.drew).cell? ⟨w.heap.size + 1 + 1, i, none⟩ = (#[x0, x1, .int .i64 tk, .int .i64 pt] : Array Value)[i]? := fun i => by
    have e : w.heap.size + 1 + 1 = ((w.alloc (.cells #[.int .i64 f0, .int .i64 f1, .int .i64 f2, f3] 61)).alloc (.cells #[.int .i64 od, .int .i64 oa, .int .i64 ob] 68)).heap.size := by simp
    rw [World.cell?_drew, World.cell?_drew, e, World.cell?_alloc_new]
  exact ⟨h.chk.below h0, h.tab.grow h0, h.code.below h0 hlow, Keep.of h0 hlow h.chk.nle, e1 1, e2 0, e2 1, e3 2, e3 3, by simp⟩

/-- The shape of an order, looked up. -/
theorem run_shape {r : Nat} {k : Int} {n : Nat} {v0 v1 v2 v3 : Value} (hf : Instr.findNow (.int .i64) (.int .i64 k) (shapeL r) 0 = some (some (n, .agg #[v0, v1, v2, v3]))) (W : World) (hW : TabAt r W) :
    (Instr.lookup 56 (.map (some r)) (.int .i64 k) false).run Try.prog W = .ok (.agg #[v0, v1, v2, v3]) W := by
  have := run_lookup_int (P := Try.prog) (t := 56) (k := 3) (e := 110) Try.underlying56 Try.underlying3 hW.1 false (n := k) (by rw [List.toList_toArray]; exact hf)
  simpa using this


theorem ints_empty (B : Nat) (w : World) (b : Nat) : IntsV B w (.slice (some ⟨b, 0, none⟩) 0 0) [] :=
  ⟨fun _ h => by simp at h, some ⟨b, 0, none⟩, b, 0, 0, rfl, Nat.le_refl _, by simp, fun h => absurd h (by simp), fun i h => absurd h (by simp)⟩

theorem DoPost.nil {B N r p : Nat} {vo vf vk : Value} {D W : List Int} {w w' : World} (h : ChkSt B N r w' p vo vf vk D W) (hb : Keep B N p w w') : DoPost B N r p vo vf vk (some []) D W w (.returned (.bool true)) w' :=
  ⟨true, D, W, rfl, h, (fun h => by cases h), (fun l h => by cases h; exact ⟨rfl, fun _ => ⟨rfl, rfl⟩⟩), hb⟩

theorem DoPost.one {B N r p : Nat} {vo vf vk : Value} {D W : List Int} {w w' : World} {t d : Int} (h : ChkSt B N r w' p vo vf vk (pD D t d) (pW D W t d)) (hb : Keep B N p w w') :
    DoPost B N r p vo vf vk (some [(t, d)]) D W w (.returned (.bool (Cd.leadOK D t d))) w' := by
  refine ⟨_, _, _, rfl, h, (fun h => by cases h), (fun l h => ?_), hb⟩
  cases h
  unfold Cd.leads pD pW
  dsimp only
  cases hk : Cd.leadOK D t d with
  | true => exact ⟨rfl, fun _ => ⟨rfl, rfl⟩⟩
  | false => exact ⟨rfl, fun h => by cases h⟩

theorem DoPost.first {B N r p : Nat} {vo vf vk : Value} {D W D' W' : List Int} {w w' : World} {t d : Int} {l : List (Int × Int)} (hk : Cd.leadOK D t d = false) (h : ChkSt B N r w' p vo vf vk D' W') (hb : Keep B N p w w') :
    DoPost B N r p vo vf vk (some ((t, d) :: l)) D W w (.returned (.bool false)) w' := by
  refine ⟨_, _, _, rfl, h, (fun h => by cases h), (fun l h => ?_), hb⟩
  cases h
  unfold Cd.leads
  dsimp only
  rw [hk]
  exact ⟨rfl, fun h => by cases h⟩

theorem DoPost.two {B N r p : Nat} {vo vf vk : Value} {D W : List Int} {w w' : World} {t d t2 d2 : Int} (hk : Cd.leadOK D t d = true) (h : ChkSt B N r w' p vo vf vk (pD (pD D t d) t2 d2) (pW (pD D t d) (pW D W t d) t2 d2)) (hb : Keep B N p w w') :
    DoPost B N r p vo vf vk (some [(t, d), (t2, d2)]) D W w (.returned (.bool (Cd.leadOK (pD D t d) t2 d2))) w' := by
  have h1 := DoPost.one h hb
  obtain ⟨ok, D', W', e, q1, q2, q3, q4⟩ := h1
  refine ⟨ok, D', W', e, q1, (fun h => by cases h), (fun l h => ?_), q4⟩
  cases h
  obtain ⟨e1, e2⟩ := q3 _ rfl
  have ed : pD D t d = Cd.leadD D t d := if_pos hk
  have ew : pW D W t d = Cd.leadW D W t := if_pos hk
  have el : Cd.leads D W [(t, d), (t2, d2)] = Cd.leads (pD D t d) (pW D W t d) [(t2, d2)] := by rw [Cd.leads, if_pos hk, ed, ew]
  rw [el]
  exact ⟨e1, e2⟩

theorem pD_length (D : List Int) (t d : Int) : (pD D t d).length = D.length := by
  unfold pD
  split
  · exact Cd.leadD_length _ _ _
  · rfl

theorem ints_push {w : World} {b : Nat} {x : Int} {t : TypeId} (hx : I64 x) (hb : b = w.heap.size) : IntsV (w.alloc (.cells #[.int .i64 x] t)).heap.size (w.alloc (.cells #[.int .i64 x] t)) (.slice (some ⟨b, 0, none⟩) 1 1) [x] :=
  ⟨fun y hy => by simp at hy; rw [hy]; exact hx, some ⟨b, 0, none⟩, b, 0, 1, rfl, Nat.le_refl _, by simp, fun _ => ⟨rfl, by rw [hb]; simp⟩, fun i hi => by
    have : i = 0 := by simpa using hi
    subst this
    rw [hb, World.cell?_alloc_new]
    rfl⟩
end Go.Proofs.Ytjomajfgoaifbaa
