/-
  PROVED HERE: an argument of the type api.Code that reads as data and is within the form's reach is code as it lies in memory (CodeV). No condition beyond the lemmas' own premises.
-/
import Derived.Test.YtjomajfgoaifbaaMem
import Derived.Test.YtjomajfgoaifbaaLaw
import Derived.SizedLaws
import Derived.Deep.Slices
import Derived.Deep.Fields
import Derived.Lib.SmallJoins
namespace Go.Proofs.Ytjomajfgoaifbaa
open Go.ChangeShapes Go.WideShapes Go.ChangeAt Go.RowKit

/-! ### The reach of parts -/
def Sz {H : Type} (t : TypeId) (d : DataW H) : Prop := (DataW.weights Try.prog t d).all (· ≤ reachBytes) = true

theorem sz_all {H : Type} {e : TypeId} : ∀ {l : List (DataW H)}, (DataW.weightsAll Try.prog e l).all (· ≤ reachBytes) = true → ∀ d ∈ l, Sz e d
  | [], _, d, hd => by simp at hd
  | x :: l, h, d, hd => by
    simp only [DataW.weightsAll, List.all_append, Bool.and_eq_true] at h
    rcases List.mem_cons.1 hd with rfl | hd
    · exact h.1
    · exact sz_all h.2 d hd

theorem sz_slice {H : Type} {t e : TypeId} {es sp : List (DataW H)} (ht : Try.prog.underlying t = some (.slice e)) (h : Sz t (.slice es sp)) :
    (es.length + sp.length) * Try.prog.bytesOf e ≤ reachBytes ∧ ∀ d ∈ es, Sz e d := by
  unfold Sz at h
  simp only [DataW.weights, ht, List.all_cons, List.all_append, Bool.and_eq_true, decide_eq_true_eq] at h
  exact ⟨h.1, sz_all h.2.1⟩

theorem sz_each {H : Type} : ∀ {ts : List TypeId} {ds : List (DataW H)}, (DataW.weightsEach Try.prog ts ds).all (· ≤ reachBytes) = true → ∀ (j : Nat) (t : TypeId) (d : DataW H), ts[j]? = some t → ds[j]? = some d → Sz t d
  | [], ds, _, j, t, d, h1, _ => by simp at h1
  | t0 :: ts, [], _, j, t, d, _, h2 => by simp at h2
  | t0 :: ts, d0 :: ds, h, j, t, d, h1, h2 => by
    simp only [DataW.weightsEach, List.all_append, Bool.and_eq_true] at h
    cases j with
    | zero =>
      simp only [List.getElem?_cons_zero, Option.some.injEq] at h1 h2
      subst h1 h2
      exact h.1
    | succ j => exact sz_each h.2 j t d (by simpa using h1) (by simpa using h2)

theorem sz_agg {H : Type} {t : TypeId} {fs : Array Field} {ds : List (DataW H)} (ht : Try.prog.underlying t = some (.struct fs)) (h : Sz t (.agg ds)) (j : Nat) (f : Field) (d : DataW H) (h1 : fs[j]? = some f) (h2 : ds[j]? = some d) : Sz f.type d := by
  unfold Sz at h
  simp only [DataW.weights, ht] at h
  exact sz_each h j f.type d (by simp [h1]) h2

theorem reach_num : reachBytes = 140737488351232 := by decide

/-! ### Lists out of indices -/
theorem list_of {α : Type} [Inhabited α] {n : Nat} {p : Nat → α → Prop} (h : ∀ i, i < n → ∃ x, p i x) : ∃ l : List α, l.length = n ∧ ∀ (dflt : α) i, i < n → p i (l.getD i dflt) ∧ l.getD i dflt ∈ l := by
  refine ⟨(List.range n).map fun i => if hi : i < n then Classical.choose (h i hi) else default, by simp, fun dflt i hi => ?_⟩
  have e : ((List.range n).map fun i => if hi : i < n then Classical.choose (h i hi) else default).getD i dflt = Classical.choose (h i hi) := by
    simp [List.getD_eq_getElem?_getD, hi]
  rw [e]
  exact ⟨Classical.choose_spec (h i hi), by
    rw [List.mem_map]
    exact ⟨i, by simpa using hi, by rw [dif_pos hi]⟩⟩

theorem Try.cells3 : Try.prog.cellsOf 3 = 1 := by kernel_rfl
theorem Try.cells24 : Try.prog.cellsOf 24 = 1 := by kernel_rfl
theorem Try.cells61 : Try.prog.cellsOf 61 = 4 := by kernel_rfl
theorem Try.cells68 : Try.prog.cellsOf 68 = 3 := by kernel_rfl
theorem Try.cells30 : Try.prog.cellsOf 30 = 3 := by kernel_rfl
theorem Try.bytes3 : Try.prog.bytesOf 3 = 8 := by kernel_rfl
theorem Try.bytes24 : Try.prog.bytesOf 24 = 24 := by kernel_rfl
theorem Try.bytes61 : Try.prog.bytesOf 61 = 48 := by kernel_rfl
theorem Try.bytes68 : Try.prog.bytesOf 68 = 24 := by kernel_rfl

section
variable {H : Type} {enc : TypeId × Value → H} {w : World} {held : Bool}

theorem cell_lt {w : World} {b o : Nat} {v : Value} (h : w.cell? ⟨b, o, none⟩ = some v) : b < w.heap.size := by
  unfold World.cell? at h
  refine Classical.byContradiction fun hn => ?_
  rw [Array.getElem?_eq_none (by show w.heap.size ≤ b; omega)] at h
  simp at h

/-- An address at which there is a cell is plain. -/
theorem plain_of {w : World} {a : Addr} {k : Nat} {v : Value} (h : w.cell? (a.add k) = some v) (hk : k = 0) : ∃ b o, a = ⟨b, o, none⟩ ∧ b < w.heap.size := by
  subst hk
  obtain ⟨b, off, spot⟩ := a
  have hspot : spot = none := by simpa [Addr.add] using World.cell?_spot h
  subst hspot
  refine ⟨b, off, rfl, ?_⟩
  rw [Go.WideShapes.add_plain] at h
  exact cell_lt h

set_option maxRecDepth 100000 in
theorem ints_open {n : Nat} {v : Value} {y : DataW H × List MemPlace} (h : DataW.trod enc Try.prog w 0 (fun _ => true) held n 24 [v] = some y) (hs : Sz 24 y.1) : ∃ l, IntsV w.heap.size w v l := by
  rcases open_ints Try.underlying24 Try.underlying3 Try.cells3 h with ⟨h1, _⟩ | ⟨a, len, cap, zs, h1, _, h2, _, h3, h4, h5, h6⟩
  · cases h1
    exact ⟨[], fun x hx => by simp at hx, none, 0, 0, 0, rfl, Nat.le_refl _, by simp, fun h => absurd h (by simp), fun i hi => absurd hi (by simp)⟩
  · cases h1
    simp only [if_true] at h3
    subst h4
    have hz := (sz_slice Try.underlying24 hs).1
    rw [Try.bytes3, reach_num] at hz
    simp only [lits, List.length_map, List.length_take, List.length_drop] at hz
    have hzl : (zs.take len).length = len := by simp; omega
    refine ⟨zs.take len, fun x hx => bounds_i64 (h6 x (List.mem_of_mem_take hx)), ?_⟩
    by_cases h0 : 0 < len
    · obtain ⟨b, o, rfl, hb⟩ := plain_of (h5 0 (by omega)) rfl
      refine ⟨_, b, o, cap, by rw [hzl], by rw [hzl]; exact h2, by omega, fun _ => ⟨rfl, hb⟩, fun i hi => ?_⟩
      rw [hzl] at hi
      have := h5 i (by omega)
      rw [Go.WideShapes.add_plain] at this
      have e : iAt (zs.take len) i = zs.getD i 0 := by
        unfold iAt
        rw [List.getD_eq_getElem?_getD, List.getD_eq_getElem?_getD, List.getElem?_take, if_pos hi]
      rw [e]
      exact this
    · refine ⟨some a, 0, 0, cap, by rw [hzl], by rw [hzl]; exact h2, by omega, fun h => absurd h (by rw [hzl]; exact h0), fun i hi => absurd hi (by rw [hzl]; omega)⟩

theorem int_field {n : Nat} {v : Value} {y : DataW H × List MemPlace} (h : DataW.trod enc Try.prog w 0 (fun _ => true) held n 3 [v] = some y) : ∃ x : Int, v = .int .i64 x ∧ I64 x := by
  obtain ⟨x, hv, _, hw⟩ := DataW.trod_int Try.underlying3 h
  cases hv
  exact ⟨x, rfl, bounds_i64 hw⟩

set_option maxRecDepth 100000 in
theorem ops_open {n : Nat} {v : Value} {y : DataW H × List MemPlace} (h : DataW.trod enc Try.prog w 0 (fun _ => true) held n 26 [v] = some y) (hs : Sz 26 y.1) : ∃ l, OpsV w.heap.size w v l := by
  rcases Deep.open_slice Try.underlying26 h with ⟨h1, _⟩ | ⟨a, len, cap, m, k, D, Pl, h1, _, h2, _, h3, h4, h5⟩
  · cases h1
    exact ⟨[], fun x hx => by simp at hx, none, 0, 0, 0, rfl, Nat.le_refl _, by simp, fun h => absurd h (by simp), fun i hi => absurd hi (by simp)⟩
  · cases h1
    simp only [if_true] at h3
    subst h3 h4
    have hz := (sz_slice Try.underlying26 hs).1
    rw [Try.bytes68, reach_num] at hz
    simp only [List.length_map, List.length_range] at hz
    have hel : ∀ i, i < len → ∃ o : Cd.GOp, (I64 o.d ∧ I64 o.a ∧ I64 o.b) ∧ w.cell? (a.add (i * 3 + 0)) = some (.int .i64 o.d) ∧ w.cell? (a.add (i * 3 + 1)) = some (.int .i64 o.a) ∧ w.cell? (a.add (i * 3 + 2)) = some (.int .i64 o.b) := by
      intro i hi
      obtain ⟨cs, hc, ht⟩ := h5 i (by omega)
      rw [Try.cells68] at hc
      obtain ⟨_, hcl, hat⟩ := World.cells?_some hc
      obtain ⟨y0, y1, y2, n', _, _, t0, t1, t2⟩ := Deep.trod_struct3 Try.underlying68 ht
      match cs, hcl with
      | [c0, c1, c2], _ =>
        obtain ⟨x0, rfl, b0⟩ := int_field (by simpa [Try.cells3] using t0)
        obtain ⟨x1, rfl, b1⟩ := int_field (by simpa [Try.cells3] using t1)
        obtain ⟨x2, rfl, b2⟩ := int_field (by simpa [Try.cells3] using t2)
        refine ⟨⟨x0, x1, x2⟩, ⟨b0, b1, b2⟩, ?_, ?_, ?_⟩
        · have := hat 0 (by omega); rw [Go.Deep.add_add] at this; simpa using this
        · have := hat 1 (by omega); rw [Go.Deep.add_add] at this; simpa using this
        · have := hat 2 (by omega); rw [Go.Deep.add_add] at this; simpa using this
    obtain ⟨l, hl, hp⟩ := @list_of Cd.GOp ⟨⟨0, 0, 0⟩⟩ _ _ hel
    refine ⟨l, fun x hx => ?_, ?_⟩
    · obtain ⟨i, hi, rfl⟩ := List.mem_iff_getElem.1 hx
      have := (hp ⟨0, 0, 0⟩ i (by omega)).1.1
      simpa [List.getD_eq_getElem?_getD, List.getElem?_eq_getElem hi] using this
    · by_cases h0 : 0 < len
      · obtain ⟨b, o, rfl, hb⟩ := plain_of (hp ⟨0, 0, 0⟩ 0 h0).1.2.1 rfl
        refine ⟨_, b, o, m, by rw [hl], by rw [hl]; exact h2, by omega, fun _ => ⟨rfl, hb⟩, fun i hi => ?_⟩
        obtain ⟨_, k0, k1, k2⟩ := (hp ⟨0, 0, 0⟩ i (by omega)).1
        rw [Go.WideShapes.add_plain] at k0 k1 k2
        exact ⟨k0, by rw [Nat.add_assoc]; exact k1, by rw [Nat.add_assoc]; exact k2⟩
      · refine ⟨some a, 0, 0, m, by rw [hl], by rw [hl]; exact h2, by omega, fun h => absurd h (by rw [hl]; exact h0), fun i hi => absurd hi (by rw [hl]; omega)⟩

set_option maxRecDepth 100000 in
theorem fns_open {n : Nat} {v : Value} {y : DataW H × List MemPlace} (h : DataW.trod enc Try.prog w 0 (fun _ => true) held n 27 [v] = some y) (hs : Sz 27 y.1) : ∃ l, FnsV w.heap.size w v l := by
  rcases Deep.open_slice Try.underlying27 h with ⟨h1, _⟩ | ⟨a, len, cap, m, k, D, Pl, h1, _, h2, _, h3, h4, h5⟩
  · cases h1
    exact ⟨[], fun x hx => by simp at hx, none, 0, 0, 0, rfl, Nat.le_refl _, by simp, fun h => absurd h (by simp), fun i hi => absurd hi (by simp)⟩
  · cases h1
    simp only [if_true] at h3
    subst h3 h4
    obtain ⟨hz, hse⟩ := sz_slice Try.underlying27 hs
    rw [Try.bytes61, reach_num] at hz
    simp only [List.length_map, List.length_range] at hz
    have hel : ∀ i, i < len → ∃ f : Cd.GFn, (I64 f.params ∧ I64 f.slots ∧ I64 f.start) ∧ w.cell? (a.add (i * 4 + 0)) = some (.int .i64 f.params) ∧ w.cell? (a.add (i * 4 + 1)) = some (.int .i64 f.slots) ∧ w.cell? (a.add (i * 4 + 2)) = some (.int .i64 f.start) ∧
        ∃ u, w.cell? (a.add (i * 4 + 3)) = some u ∧ IntsV w.heap.size w u f.takes := by
      intro i hi
      obtain ⟨cs, hc, ht⟩ := h5 i (by omega)
      rw [Try.cells61] at hc
      obtain ⟨_, hcl, hat⟩ := World.cells?_some hc
      obtain ⟨ys, n', _, hy, _, hyl, hf⟩ := DataW.trod_struct Try.underlying61 ht
      have hsd : Sz 61 (D i) := hse (D i) (List.mem_map.2 ⟨i, by simpa using hi, rfl⟩)
      match cs, hcl, ys, hyl with
      | [c0, c1, c2, c3], _, [y0, y1, y2, y3], _ =>
        simp only [Prod.mk.injEq] at hy
        rw [hy.1] at hsd
        obtain ⟨x0, rfl, b0⟩ := int_field (by simpa [Try.cells3] using hf 0 _ rfl)
        obtain ⟨x1, rfl, b1⟩ := int_field (by simpa [Try.cells3] using hf 1 _ rfl)
        obtain ⟨x2, rfl, b2⟩ := int_field (by simpa [Try.cells3] using hf 2 _ rfl)
        obtain ⟨l, hl⟩ := ints_open (v := c3) (y := y3) (by simpa [Try.cells24] using hf 3 _ rfl) (sz_agg Try.underlying61 hsd 3 _ _ rfl rfl)
        refine ⟨⟨x0, x1, x2, l⟩, ⟨b0, b1, b2⟩, ?_, ?_, ?_, c3, ?_, hl⟩
        · have := hat 0 (by omega); rw [Go.Deep.add_add] at this; simpa using this
        · have := hat 1 (by omega); rw [Go.Deep.add_add] at this; simpa using this
        · have := hat 2 (by omega); rw [Go.Deep.add_add] at this; simpa using this
        · have := hat 3 (by omega); rw [Go.Deep.add_add] at this; simpa using this
    obtain ⟨l, hl, hp⟩ := @list_of Cd.GFn ⟨⟨0, 0, 0, []⟩⟩ _ _ hel
    refine ⟨l, fun x hx => ?_, ?_⟩
    · obtain ⟨i, hi, rfl⟩ := List.mem_iff_getElem.1 hx
      have := (hp ⟨0, 0, 0, []⟩ i (by omega)).1.1
      simpa [List.getD_eq_getElem?_getD, List.getElem?_eq_getElem hi] using this
    · by_cases h0 : 0 < len
      · obtain ⟨b, o, rfl, hb⟩ := plain_of (hp ⟨0, 0, 0, []⟩ 0 h0).1.2.1 rfl
        refine ⟨_, b, o, m, by rw [hl], by rw [hl]; exact h2, by omega, fun _ => ⟨rfl, hb⟩, fun i hi => ?_⟩
        obtain ⟨_, k0, k1, k2, u, k3, k4⟩ := (hp ⟨0, 0, 0, []⟩ i (by omega)).1
        rw [Go.WideShapes.add_plain] at k0 k1 k2 k3
        exact ⟨k0, by rw [Nat.add_assoc]; exact k1, by rw [Nat.add_assoc]; exact k2, u, by rw [Nat.add_assoc]; exact k3, k4⟩
      · refine ⟨some a, 0, 0, m, by rw [hl], by rw [hl]; exact h2, by omega, fun h => absurd h (by rw [hl]; exact h0), fun i hi => absurd hi (by rw [hl]; omega)⟩

set_option maxRecDepth 100000 in
theorem kinds_open {n : Nat} {v : Value} {y : DataW H × List MemPlace} (h : DataW.trod enc Try.prog w 0 (fun _ => true) held n 28 [v] = some y) (hs : Sz 28 y.1) : ∃ l, KindsV w.heap.size w v l := by
  rcases Deep.open_slice1 Try.underlying28 Try.cells24 h with ⟨h1, _⟩ | ⟨a, len, cap, m, k, V, D, Pl, h1, _, h2, _, h3, h4, h5⟩
  · cases h1
    exact ⟨[], none, 0, 0, 0, rfl, Nat.le_refl _, by simp, fun h => absurd h (by simp), fun i hi => absurd hi (by simp)⟩
  · cases h1
    simp only [if_true] at h3
    subst h3 h4
    obtain ⟨hz, hse⟩ := sz_slice Try.underlying28 hs
    rw [Try.bytes24, reach_num] at hz
    simp only [List.length_map, List.length_range] at hz
    have hel : ∀ i, i < len → ∃ l : List Int, ∃ u, w.cell? (a.add i) = some u ∧ IntsV w.heap.size w u l := by
      intro i hi
      obtain ⟨hc, ht⟩ := h5 i (by omega)
      obtain ⟨l, hl⟩ := ints_open ht (hse (D i) (List.mem_map.2 ⟨i, by simpa using hi, rfl⟩))
      exact ⟨l, _, hc, hl⟩
    obtain ⟨l, hl, hp⟩ := @list_of (List Int) ⟨[]⟩ _ _ hel
    refine ⟨l, ?_⟩
    by_cases h0 : 0 < len
    · obtain ⟨u0, k0, _⟩ := (hp [] 0 h0).1
      obtain ⟨b, o, rfl, hb⟩ := plain_of k0 rfl
      refine ⟨_, b, o, m, by rw [hl], by rw [hl]; exact h2, by omega, fun _ => ⟨rfl, hb⟩, fun i hi => ?_⟩
      obtain ⟨u, k0, k4⟩ := (hp [] i (by omega)).1
      rw [Go.WideShapes.add_plain] at k0
      exact ⟨u, k0, k4⟩
    · refine ⟨some a, 0, 0, m, by rw [hl], by rw [hl]; exact h2, by omega, fun h => absurd h (by rw [hl]; exact h0), fun i hi => absurd hi (by rw [hl]; omega)⟩

set_option maxRecDepth 100000 in
theorem code_open {r : Reach} {b0 : Nat} {v : Value} {d : DataW H} {p : List MemPlace} (hv : Value.okWide Try.prog w r b0 30 v) (h : DataW.Trod enc Try.prog w 0 (fun _ => true) held 30 v d p) (hs : Sz 30 d) :
    ∃ (vo vf vk : Value) (C : Cd.GCode), v = .agg #[vo, vf, vk] ∧ CodeV w.heap.size w vo vf vk C := by
  obtain ⟨v0, v1, v2, y0, y1, y2, n, rfl, rfl, _, t0, t1, t2⟩ := Joins.open_agg3 Try.underlying30 (by kernel_rfl) Try.cells30 hv h
  obtain ⟨l0, h0⟩ := ops_open t0 (sz_agg Try.underlying30 hs 0 _ _ rfl rfl)
  obtain ⟨l1, h1⟩ := fns_open t1 (sz_agg Try.underlying30 hs 1 _ _ rfl rfl)
  obtain ⟨l2, h2⟩ := kinds_open t2 (sz_agg Try.underlying30 hs 2 _ _ rfl rfl)
  exact ⟨v0, v1, v2, ⟨l0, l1, l2⟩, rfl, ⟨h0, h1, h2⟩⟩
end
end Go.Proofs.Ytjomajfgoaifbaa
