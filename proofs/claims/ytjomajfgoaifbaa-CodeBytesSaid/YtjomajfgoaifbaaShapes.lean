/-
  PROVED HERE: the table that the program's shapes makes, entry by entry. No condition.
-/
import Derived.Test.YtjomajfgoaifbaaMaps
import Derived.Test.YtjomajfgoaifbaaRows
import Derived.Outline
import Derived.Lib.Hide
import Derived.IntWalk
import Derived.Handy
namespace Go.Proofs.Ytjomajfgoaifbaa
open Go.RowKit

/-- The table: block r holds it; r + 1, r + 2 are what the two closures hold. -/
def shapeL (r : Nat) : List MapEntry := [
  { key := .int .i64 1, val := .agg #[.func (.func 45) #[] #[], .func (.func 46) #[] #[], .int .i64 0, .int .i64 1], born := 0 },
  { key := .int .i64 2, val := .agg #[.func (.func 47) #[] #[], .func (.func 46) #[] #[], .int .i64 0, .int .i64 1], born := 1 },
  { key := .int .i64 3, val := .agg #[.func (.func 47) #[] #[], .func (.func 46) #[] #[], .int .i64 1, .int .i64 0], born := 2 },
  { key := .int .i64 4, val := .agg #[.func (.func 47) #[] #[], .func (.func 46) #[] #[], .int .i64 1, .int .i64 0], born := 3 },
  { key := .int .i64 5, val := .agg #[.func (.func 48) #[] #[], .func (.func 46) #[] #[], .int .i64 0, .int .i64 1], born := 4 },
  { key := .int .i64 6, val := .agg #[.func (.func 49) #[] #[], .func (.func 46) #[] #[], .int .i64 0, .int .i64 1], born := 5 },
  { key := .int .i64 7, val := .agg #[.func (.func 77) #[] #[.pointer (some ⟨r + 1, 0, none⟩)], .func (.func 46) #[] #[], .int .i64 0, .int .i64 1], born := 6 },
  { key := .int .i64 8, val := .agg #[.func (.func 47) #[] #[], .func (.func 46) #[] #[], .int .i64 1, .int .i64 1], born := 7 },
  { key := .int .i64 9, val := .agg #[.func (.func 47) #[] #[], .func (.func 46) #[] #[], .int .i64 2, .int .i64 0], born := 8 },
  { key := .int .i64 10, val := .agg #[.func (.func 48) #[] #[], .func (.func 46) #[] #[], .int .i64 1, .int .i64 1], born := 9 },
  { key := .int .i64 11, val := .agg #[.func (.func 47) #[] #[], .func (.func 46) #[] #[], .int .i64 1, .int .i64 1], born := 10 },
  { key := .int .i64 12, val := .agg #[.func (.func 49) #[] #[], .func (.func 46) #[] #[], .int .i64 1, .int .i64 1], born := 11 },
  { key := .int .i64 13, val := .agg #[.func (.func 46) #[] #[], .func (.func 46) #[] #[], .int .i64 1, .int .i64 1], born := 12 },
  { key := .int .i64 14, val := .agg #[.func (.func 46) #[] #[], .func (.func 46) #[] #[], .int .i64 1, .int .i64 1], born := 13 },
  { key := .int .i64 15, val := .agg #[.func (.func 77) #[] #[.pointer (some ⟨r + 1 + 1, 0, none⟩)], .func (.func 46) #[] #[], .int .i64 2, .int .i64 1], born := 14 },
  { key := .int .i64 16, val := .agg #[.func (.func 51) #[] #[], .func (.func 46) #[] #[], .int .i64 0, .int .i64 0], born := 15 },
  { key := .int .i64 17, val := .agg #[.func (.func 51) #[] #[], .func (.func 46) #[] #[], .int .i64 1, .int .i64 0], born := 16 },
  { key := .int .i64 18, val := .agg #[.func (.func 51) #[] #[], .func (.func 52) #[] #[], .int .i64 1, .int .i64 0], born := 17 },
  { key := .int .i64 19, val := .agg #[.func (.func 47) #[] #[], .func (.func 46) #[] #[], .int .i64 1, .int .i64 1], born := 18 },
  { key := .int .i64 20, val := .agg #[.func (.func 46) #[] #[], .func (.func 46) #[] #[], .int .i64 1, .int .i64 0], born := 19 },
  { key := .int .i64 21, val := .agg #[.func (.func 46) #[] #[], .func (.func 46) #[] #[], .int .i64 1, .int .i64 0], born := 20 },
  { key := .int .i64 22, val := .agg #[.func (.func 46) #[] #[], .func (.func 46) #[] #[], .int .i64 1, .int .i64 0], born := 21 },
  { key := .int .i64 23, val := .agg #[.func (.func 46) #[] #[], .func (.func 46) #[] #[], .int .i64 2, .int .i64 0], born := 22 },
  { key := .int .i64 24, val := .agg #[.func (.func 46) #[] #[], .func (.func 46) #[] #[], .int .i64 1, .int .i64 1], born := 23 },
  { key := .int .i64 25, val := .agg #[.func (.func 46) #[] #[], .func (.func 46) #[] #[], .int .i64 1, .int .i64 0], born := 24 },
  { key := .int .i64 26, val := .agg #[.func (.func 46) #[] #[], .func (.func 46) #[] #[], .int .i64 1, .int .i64 0], born := 25 },
  { key := .int .i64 27, val := .agg #[.func (.func 47) #[] #[], .func (.func 46) #[] #[], .int .i64 1, .int .i64 0], born := 26 },
  { key := .int .i64 28, val := .agg #[.func (.func 47) #[] #[], .func (.func 46) #[] #[], .int .i64 0, .int .i64 0], born := 27 },
  { key := .int .i64 29, val := .agg #[.func (.func 52) #[] #[], .func (.func 51) #[] #[], .int .i64 0, .int .i64 0], born := 28 },
  { key := .int .i64 30, val := .agg #[.func (.func 46) #[] #[], .func (.func 51) #[] #[], .int .i64 0, .int .i64 0], born := 29 }]

/-- The first n entries are laid. -/
def FillN (r : Nat) (w0 : World) (n : Nat) (boxes : List Int) (w : World) : Prop := Filling r w0 ((shapeL r).take n).toArray n boxes w

theorem shape_new (r : Nat) : ∀ n : Nat, n < 30 → Instr.findNow (.int .i64) (.int .i64 ((n : Int) + 1)) ((shapeL r).take n) 0 = some none := by
  intro n hn
  match n, hn with
  | 0, _ => rfl
  | 1, _ => rfl
  | 2, _ => rfl
  | 3, _ => rfl
  | 4, _ => rfl
  | 5, _ => rfl
  | 6, _ => rfl
  | 7, _ => rfl
  | 8, _ => rfl
  | 9, _ => rfl
  | 10, _ => rfl
  | 11, _ => rfl
  | 12, _ => rfl
  | 13, _ => rfl
  | 14, _ => rfl
  | 15, _ => rfl
  | 16, _ => rfl
  | 17, _ => rfl
  | 18, _ => rfl
  | 19, _ => rfl
  | 20, _ => rfl
  | 21, _ => rfl
  | 22, _ => rfl
  | 23, _ => rfl
  | 24, _ => rfl
  | 25, _ => rfl
  | 26, _ => rfl
  | 27, _ => rfl
  | 28, _ => rfl
  | 29, _ => rfl
  | n + 30, h => omega

set_option maxRecDepth 100000 in
theorem upon_shape {o : Oper} {a : Act} {next : Act → World → Prop} {Q : Exit → Act → World → Prop} {w : World} {r : Nat} {m : Int} {val : Value} {n : Nat} {w0 : World} {boxes : List Int} (hF : Hid (FillN r w0 n boxes w)) (hn : n < 30) (hm : ((n : Int) + 1) = m)
    (hv : (shapeL r)[n]? = some { key := .int .i64 ((n : Int) + 1), val := val, born := n })
    (hK : ∀ w', Hid (FillN r w0 (n + 1) boxes w') → next (a.put o.dst undef) w') :
    o.upon Try.prog a next Q ((Sem.run Try.prog (Instr.mapUpdate 56 (.map (some r)) (.int .i64 m) val) w).andThen fun _ w' => Result.ok Next.skip w') := by
  subst hm
  have hnew : Instr.findNow (.int .i64) (.int .i64 ((n : Int) + 1)) ((shapeL r).take n).toArray.toList 0 = some none := by rw [List.toList_toArray]; exact shape_new r n hn
  have hF' : Hid (Filling r w0 ((shapeL r).take n).toArray n boxes w) := hF
  generalize hes : ((shapeL r).take n).toArray = es at hnew hF'
  refine upon_insert_filling 3 110 Try.underlying56 Try.underlying3 hF' hnew ?_
  intro w' h
  refine hK w' ?_
  subst hes
  have hlt : n < (shapeL r).length := (List.getElem?_eq_some_iff.1 hv).1
  have e : ((shapeL r).take (n + 1)).toArray = ((shapeL r).take n).toArray.push { key := .int .i64 ((n : Int) + 1), val := val, born := n } := by
    rw [List.take_succ_eq_append_getElem hlt, (List.getElem?_eq_some_iff.1 hv).2]
    simp
  unfold FillN
  rw [e]
  exact h

theorem fill_end {r n : Nat} {w0 w : World} {boxes : List Int} (h : Hid (FillN r w0 n boxes w)) (hn : n = 30) (hb : boxes = [8, 10]) : FillN r w0 30 [8, 10] w := by
  subst hn; subst hb; exact h

theorem upTo_any (m : Int) (w : World) : Calls Try.prog 50 #[.int .i64 m] w fun e w' => e = .returned (.func (.func 77) #[] #[.pointer (some ⟨w.heap.size, 0, none⟩)]) ∧ w.alloc (.cells #[.int .i64 m] 3) = w' := by
  go_enter Try.func50, Try.ntmps50
  go_wp2
  go_returns
  exact ⟨rfl, rfl⟩

theorem upTo_fill (m : Int) (w : World) {r c : Nat} {w0 : World} (boxes : List Int) (q : Nat) (hF : Hid (FillN r w0 c boxes w)) (hq : r + 1 + boxes.length = q) :
    Calls Try.prog 50 #[.int .i64 m] w fun e w' => e = .returned (.func (.func 77) #[] #[.pointer (some ⟨q, 0, none⟩)]) ∧ Hid (FillN r w0 c (boxes ++ [m]) w') :=
  (upTo_any m w).mono fun e w' ⟨he, hw⟩ => by
    subst hw
    rw [he, hF.out.2.2.1, hq]
    exact ⟨rfl, Lib.hid (hF.out.box m)⟩

set_option maxRecDepth 100000 in
set_option maxHeartbeats 8000000 in
theorem shapes_any (w : World) : Calls Try.prog 18 #[] w fun e w' => e = .returned (.map (some w.heap.size)) ∧ FillN w.heap.size w 30 [8, 10] w' := by
  have hmm := @run_makeMap Try.prog
  have F0 : Hid (FillN w.heap.size w 0 [] (w.alloc (.map #[] 0))) := Lib.hid ⟨blk_new w _, (Below.refl _ _).alloc (Nat.le_refl _) _, by simp, fun i m h => by simp at h⟩
  go_enter Try.func18, Try.ntmps18
  go_wp2_with (first | (refine upon_shape (by assumption) (by decide) rfl rfl ?_; intro wx Fx) | (go_at_call 50; refine (upTo_fill 8 _ [] (w.heap.size + 1) (by assumption) rfl).mono ?_; rintro e w' ⟨rfl, FB⟩) | (go_at_call 50; refine (upTo_fill 10 _ [8] (w.heap.size + 1 + 1) (by assumption) rfl).mono ?_; rintro e w' ⟨rfl, FB⟩))
  go_ret
  refine ⟨rfl, ?_⟩
  refine fill_end (by assumption) ?_ ?_
  · rfl
  · rfl
end Go.Proofs.Ytjomajfgoaifbaa
