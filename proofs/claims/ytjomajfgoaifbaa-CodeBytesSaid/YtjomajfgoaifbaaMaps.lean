/-
  PROVED HERE: what a store of a new integer key does to a map of the call's own, and what a lookup in it gives, whatever the elements are. No condition beyond the lemmas' own premises.
-/
import Derived.Test.YtjomajfgoaifbaaMem
import Derived.LoopTactic
import Derived.WalkSpells
import Derived.WalkLawsBesides
import Derived.Carry
import Derived.Lib.Hide
namespace Go.Proofs.Ytjomajfgoaifbaa
open Go.RowKit Go.WideMaps

theorem run_checkKey_succ {P : Program} {k : TypeId} (hk : P.underlying k = some (.int .i64)) (em : Bool) (m : Nat) (n : Int) (w : World) : (Instr.checkKey em (m + 1) k (.int .i64 n)).run P w = .ok () w := by
  simp [Instr.checkKey, run_underlying hk, go_sem]

theorem run_checkKey {P : Program} {k : TypeId} (hk : P.underlying k = some (.int .i64)) (em : Bool) (n : Int) (w : World) : (Instr.checkKey em 10000 k (.int .i64 n)).run P w = .ok () w := run_checkKey_succ hk em 9999 n w

theorem run_findKey {P : Program} {k : TypeId} (hk : P.underlying k = some (.int .i64)) {es : List MapEntry} {n : Int} {r : Option (Nat × Value)} (hf : Instr.findNow (.int .i64) (.int .i64 n) es 0 = some r) (w : World) : (Instr.findKey k (.int .i64 n) es).run P w = .ok r w := by
  simp [Instr.findKey, run_underlying hk, hf, go_sem]

theorem run_mapUpdate_new {P : Program} {t k e : TypeId} (ht : P.underlying t = some (.map k e)) (hk : P.underlying k = some (.int .i64)) {r c : Nat} {es : Array MapEntry} {w : World} (hh : w.heap[r]? = some (.map es c)) {n : Int} {v : Value}
    (hnew : Instr.findNow (.int .i64) (.int .i64 n) es.toList 0 = some none) : (Instr.mapUpdate t (.map (some r)) (.int .i64 n) v).run P w = .ok () { w with heap := w.heap.setIfInBounds r (.map (es.push { key := .int .i64 n, val := v, born := c }) (c + 1)) } := by
  simp [Instr.mapUpdate, run_underlying ht, getObj, setObj, run_checkKey hk, run_findKey hk hnew, hh, Sem.run, go_sem]

theorem run_lookup_int {P : Program} {t k e : TypeId} (ht : P.underlying t = some (.map k e)) (hk : P.underlying k = some (.int .i64)) {r c : Nat} {es : Array MapEntry} {w : World} (hh : w.heap[r]? = some (.map es c)) {n : Int} {i : Nat} {v : Value} (ok : Bool)
    (hf : Instr.findNow (.int .i64) (.int .i64 n) es.toList 0 = some (some (i, v))) : (Instr.lookup t (.map (some r)) (.int .i64 n) ok).run P w = .ok (if ok then .tuple #[v, .bool true] else v) w := by
  simp [Instr.lookup, run_underlying ht, getObj, run_checkKey hk, run_findKey hk hf, hh, Sem.run, go_sem]

theorem run_lookup_none {P : Program} {t k e : TypeId} (ht : P.underlying t = some (.map k e)) (hk : P.underlying k = some (.int .i64)) {r c : Nat} {es : Array MapEntry} {w : World} (hh : w.heap[r]? = some (.map es c)) {n : Int} {z : Value} (hz : (zeroValue e).run P w = .ok z w) (ok : Bool)
    (hf : Instr.findNow (.int .i64) (.int .i64 n) es.toList 0 = some none) : (Instr.lookup t (.map (some r)) (.int .i64 n) ok).run P w = .ok (if ok then .tuple #[z, .bool false] else z) w := by
  simp [Instr.lookup, run_underlying ht, getObj, run_checkKey hk, run_findKey hk hf, hh, hz, Sem.run, go_sem]

/-- A map of the call's own being filled: block r holds es; behind it one-cell boxes; below r the world is as w0 was. -/
def Filling (r : Nat) (w0 : World) (es : Array MapEntry) (c : Nat) (boxes : List Int) (w : World) : Prop :=
  w.heap[r]? = some (.map es c) ∧ Below r w0 w ∧ w.heap.size = r + 1 + boxes.length ∧ ∀ i m, boxes[i]? = some m → w.heap[r + 1 + i]? = some (.cells #[.int .i64 m] 3 (0, 0))

theorem Filling.box {r c : Nat} {w0 w : World} {es : Array MapEntry} {boxes : List Int} (h : Filling r w0 es c boxes w) (m : Int) : Filling r w0 es c (boxes ++ [m]) (w.alloc (.cells #[.int .i64 m] 3)) := by
  obtain ⟨h1, h2, h3, h4⟩ := h
  refine ⟨blk_alloc h1 _, h2.alloc (by omega) _, by simp [h3]; omega, fun i x hx => ?_⟩
  by_cases hi : i < boxes.length
  · rw [List.getElem?_append_left hi] at hx
    exact blk_alloc (h4 i x hx) _
  · rw [List.getElem?_append_right (by omega)] at hx
    have e : i = boxes.length := by
      have := (List.getElem?_eq_some_iff.1 hx).1
      simp at this; omega
    subst e
    simp at hx
    subst hx
    rw [← h3]
    exact blk_new w _

theorem wpList_insert_filling {P : Program} (w : World) {ops : Array Oper} {rest : List Oper} {o : Oper} {a : Act} {Q : Exit → Act → World → Prop}
    (hg : o.guard = none) (m x v : Operand) (t : TypeId) (hop : o.op = Op.insert t m x v) (k e : TypeId) (ht : P.underlying t = some (.map k e)) (hk : P.underlying k = some (.int .i64))
    (r c : Nat) (w0 : World) (es : Array MapEntry) (boxes : List Int) (hm : a.eval m = .map (some r)) (hF : Filling r w0 es c boxes w) (n : Int) (val : Value) (hx : a.eval x = .int .i64 n) (hv : a.eval v = val)
    (hnew : Instr.findNow (.int .i64) (.int .i64 n) es.toList 0 = some none)
    (hK : ∀ w', Filling r w0 (es.push { key := .int .i64 n, val := val, born := c }) (c + 1) boxes w' → wpList P ops Q rest (a.put o.dst undef) w') : wpList P ops Q (o :: rest) a w := by
  refine wpList_plain hg fun K' hK' => ?_
  obtain ⟨h1, h2, h3, h4⟩ := hF
  unfold Oper.wp
  simp [execOp, hop, hm, hx, hv, run_mapUpdate_new ht hk h1 hnew, Result.andThen]
  refine hK' _ _ (hK _ ⟨?_, ?_, by simpa using h3, fun i y hy => ?_⟩)
  · have : r < w.heap.size := blk_lt h1
    simp [this]
  · exact h2.trans ⟨rfl, rfl, rfl, by simp, fun j hj => by simp [Array.getElem?_setIfInBounds]; intro e; omega⟩
  · have := h4 i y hy
    simp only [Array.getElem?_setIfInBounds]
    rw [if_neg (by omega)]
    exact this

theorem upon_insert_filling {P : Program} {o : Oper} {a : Act} {next : Act → World → Prop} {Q : Exit → Act → World → Prop} {w : World} {t : TypeId} {r : Nat} {n : Int} {val : Value} (k e : TypeId) (ht : P.underlying t = some (.map k e)) (hk : P.underlying k = some (.int .i64))
    {c : Nat} {w0 : World} {es : Array MapEntry} {boxes : List Int} (hF : Hid (Filling r w0 es c boxes w)) (hnew : Instr.findNow (.int .i64) (.int .i64 n) es.toList 0 = some none)
    (hK : ∀ w', Hid (Filling r w0 (es.push { key := .int .i64 n, val := val, born := c }) (c + 1) boxes w') → next (a.put o.dst undef) w') :
    o.upon P a next Q ((Sem.run P (Instr.mapUpdate t (.map (some r)) (.int .i64 n) val) w).andThen fun _ w' => Result.ok Next.skip w') := by
  obtain ⟨h1, h2, h3, h4⟩ := hF.out
  rw [run_mapUpdate_new ht hk h1 hnew]
  refine hK _ (Lib.hid ⟨?_, ?_, by simpa using h3, fun i y hy => ?_⟩)
  · have : r < w.heap.size := blk_lt h1
    simp [this]
  · exact h2.trans ⟨rfl, rfl, rfl, by simp, fun j hj => by simp [Array.getElem?_setIfInBounds]; intro e; omega⟩
  · have := h4 i y hy
    simp only [Array.getElem?_setIfInBounds]
    rw [if_neg (by omega)]
    exact this

theorem wpList_lookup_found {P : Program} (w : World) {ops : Array Oper} {rest : List Oper} {o : Oper} {a : Act} {Q : Exit → Act → World → Prop}
    (hg : o.guard = none) (m x : Operand) (t : TypeId) (ok : Bool) (hop : o.op = Op.lookup t m x ok) (k e : TypeId) (ht : P.underlying t = some (.map k e)) (hk : P.underlying k = some (.int .i64))
    (r c : Nat) (es : Array MapEntry) (hm : a.eval m = .map (some r)) (hh : w.heap[r]? = some (.map es c)) (n : Int) (hx : a.eval x = .int .i64 n) (i : Nat) (v : Value)
    (hf : Instr.findNow (.int .i64) (.int .i64 n) es.toList 0 = some (some (i, v)))
    (hK : wpList P ops Q rest (a.put o.dst (if ok then .tuple #[v, .bool true] else v)) w) : wpList P ops Q (o :: rest) a w := by
  refine wpList_plain hg fun K' hK' => ?_
  unfold Oper.wp
  simp [execOp, hop, hm, hx, run_lookup_int ht hk hh ok hf, Result.andThen]
  exact hK' _ _ hK
end Go.Proofs.Ytjomajfgoaifbaa
