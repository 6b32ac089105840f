/-
  PROVED HERE: how texts, lists of strings and tokens lie in memory. No condition beyond the lemmas' own premises.
-/
import Derived.Test.YtjickecdkmljpaaDoorLx
import Derived.Test.YtjickecdkmljpaaDoorShelf
import Derived.WalkKit
import Derived.ProofKit
import Derived.WalkSmall
import Derived.OneCell
import Derived.LoopTactic
import Derived.Outline
import Derived.Deep.QuietTactic
import Derived.BigQuiet
import Derived.Lib.Hide
import Derived.WalkSpells
import Derived.WalkLawsBesides
import Derived.IntWalk
import Derived.Handy
import Derived.Laws.OwnMore
namespace Go.Proofs.YtjickecdkmljpaaDoor
open Go.RowKit

/-- A string's bytes. -/
def by_ (S : ByteArray) : List UInt8 := S.data.toList
def str (l : List UInt8) : ByteArray := ⟨l.toArray⟩
theorem by_str (l : List UInt8) : by_ (str l) = l := rfl
theorem str_by (S : ByteArray) : str (by_ S) = S := rfl
theorem by_size (S : ByteArray) : (by_ S).length = S.size := Array.length_toList
theorem str_size (l : List UInt8) : (str l).size = l.length := by rw [← by_size, by_str]
theorem by_toList (S : ByteArray) : S.toList = by_ S := ByteArray.toList_eq S
theorem by_extract (S : ByteArray) (i j : Nat) : by_ (S.extract i j) = Lx.cut (by_ S) i j := by
  unfold by_ Lx.cut
  rw [ByteArray.data_extract, Array.toList_extract]
theorem by_inj {a b : ByteArray} (h : by_ a = by_ b) : a = b := by rw [← str_by a, ← str_by b, h]
/-- A block that is strings. -/
def StrsAt (w : World) (q : Nat) (L : List (List UInt8)) : Prop := w.heap[q]? = some (.cells (L.map fun l => Value.string (str l)).toArray 9 (0, 0))

/-! ### A block known whole -/
theorem blk_lt {w : World} {p : Nat} {o : Obj} (h : w.heap[p]? = some o) : p < w.heap.size := (Array.getElem?_eq_some_iff.1 h).1
theorem blk_cell {w : World} {p : Nat} {c : Array Value} {t : TypeId} (h : w.heap[p]? = some (.cells c t (0, 0))) (i : Nat) : w.cell? ⟨p, i, none⟩ = c[i]? := by simp [World.cell?, h]
theorem blk_free {w : World} {p : Nat} {c : Array Value} {t : TypeId} (h : w.heap[p]? = some (.cells c t (0, 0))) (i : Nat) : w.frozen? ⟨p, i, none⟩ = false := by simp [World.frozen?, h]
theorem blk_set {w : World} {p : Nat} {c : Array Value} {t : TypeId} (h : w.heap[p]? = some (.cells c t (0, 0))) (i : Nat) (u : Value) : (w.setCell ⟨p, i, none⟩ u).heap[p]? = some (.cells (c.setIfInBounds i u) t (0, 0)) := by
  simp [World.setCell, Array.getElem?_modify, h]
theorem blk_set_other {w : World} {p q : Nat} {o : Option Obj} (h : w.heap[q]? = o) (hne : q ≠ p) (i : Nat) (u : Value) : (w.setCell ⟨p, i, none⟩ u).heap[q]? = o := by
  rw [Below.heap_setCell _ _ _ _ hne]; exact h
theorem blk_alloc {w : World} {p : Nat} {o : Obj} (h : w.heap[p]? = some o) (x : Obj) : (w.alloc x).heap[p]? = some o := by
  rw [Below.heap_alloc _ _ _ (blk_lt h)]; exact h
theorem blk_new (w : World) (x : Obj) : (w.alloc x).heap[w.heap.size]? = some x := by
  show (w.heap.push x)[w.heap.size]? = _
  simp
theorem blk_below {N : Nat} {w w' : World} {p : Nat} {o : Obj} (h : w.heap[p]? = some o) (hb : Below N w w') (hp : p < N) : w'.heap[p]? = some o := (hb.block p hp).trans h
theorem blk_grown {w w' : World} {row : Option Nat} {p : Nat} {o : Obj} (h : w.heap[p]? = some o) (hg : w.grownBy w' row) (hp : some p ≠ row) : w'.heap[p]? = some o := (hg.block p (blk_lt h) hp).trans h
theorem own_ne_blk {w : World} {base e size n : Nat} {v : Value} {xs : List Value} {p : Nat} {c : Array Value} {t : TypeId} (hown : w.ownsRow base e size v n xs) (h : w.heap[p]? = some (.cells c t (0, 0))) (hne : e ≠ t) : v.ownBlock ≠ some p := by
  rcases hown.2 with ⟨rfl, _⟩ | ⟨g, cap, cur, rfl, _, hg, _⟩
  · simp [Value.ownBlock]
  · simp only [Value.ownBlock]
    intro e1
    cases e1
    rw [h] at hg
    cases hg
    exact hne rfl
theorem own_below {w w' : World} {N base e size n : Nat} {v : Value} {xs : List Value} (hown : w.ownsRow base e size v n xs) (hb : Below N w w') (hN : ∀ k, v.ownBlock = some k → k < N) : w'.ownsRow base e size v n xs := by
  refine ⟨hown.1, ?_⟩
  rcases hown.2 with h | ⟨g, cap, cur, rfl, h1, hg, h2⟩
  · exact Or.inl h
  · exact Or.inr ⟨g, cap, cur, rfl, h1, (hb.block g (hN g rfl)).trans hg, h2⟩
theorem own_lit {w : World} {base e size n : Nat} {v : Value} {xs : List Value} (h : w.ownsRow base e size v n xs) (hn : 0 < n) : ∃ g cap, v = .slice (some ⟨g, 0, none⟩) n cap := by
  rcases h.2 with ⟨_, h0⟩ | ⟨g, cap, cur, hv, _⟩
  · omega
  · exact ⟨g, cap, hv⟩
theorem own_slice {w : World} {base e size n m : Nat} {v : Value} {xs : List Value} (h : w.ownsRow base e size v n xs) (hm : n = m) : ∃ a cap, v = .slice a m cap := by
  subst hm
  rcases h.2 with ⟨rfl, h0⟩ | ⟨g, cap, cur, hv, _⟩
  · exact ⟨none, 0, by rw [h0]⟩
  · exact ⟨_, cap, hv⟩
theorem own_set {base e size n p i : Nat} {w : World} {v u : Value} {xs : List Value} {t : TypeId} {c : Array Value} (h : w.ownsRow base e size v n xs) (hp : w.heap[p]? = some (.cells c t (0, 0))) (hne : e ≠ t) : (w.setCell ⟨p, i, none⟩ u).ownsRow base e size v n xs :=
  ownsRow_setCell_other h (a := ⟨p, i, none⟩) (own_ne_blk h hp hne) u

theorem StrsAt.cell {w : World} {q k : Nat} {L : List (List UInt8)} (h : StrsAt w q L) (hk : k < L.length) : w.cell? ⟨q, k, none⟩ = some (.string (str (L.getD k []))) := by
  rw [blk_cell h]
  simp [hk]
theorem StrsAt.below {N : Nat} {w w' : World} {q : Nat} {L : List (List UInt8)} (h : StrsAt w q L) (hb : Below N w w') (hq : q < N) : StrsAt w' q L := blk_below h hb hq

theorem ret_bool {a b : Bool} (h : a = b) : Ending.returned (.bool a) = .returned (.bool b) := by rw [h]
theorem letter_iff : ∀ c : UInt8, Lx.letter c = decide ((c.toNat : Int) = 95 ∨ (97 ≤ (c.toNat : Int) ∧ (c.toNat : Int) ≤ 122) ∨ (65 ≤ (c.toNat : Int) ∧ (c.toNat : Int) ≤ 90)) := by
  intro c
  have h : c = 95 ↔ c.toNat = 95 := by rw [← UInt8.toNat_inj]; simp
  unfold Lx.letter
  rw [Bool.eq_iff_iff]
  simp only [Bool.or_eq_true, Bool.and_eq_true, beq_iff_eq, decide_eq_true_eq, UInt8.le_iff_toNat_le, h]
  simp
  omega
theorem digit_iff : ∀ c : UInt8, Lx.digit c = decide (48 ≤ (c.toNat : Int) ∧ (c.toNat : Int) ≤ 57) := by
  intro c
  unfold Lx.digit
  rw [Bool.eq_iff_iff]
  simp only [Bool.and_eq_true, decide_eq_true_eq, UInt8.le_iff_toNat_le]
  simp
  omega
set_option maxRecDepth 100000 in
theorem letter_any (c : UInt8) (w : World) : Calls Tryd.prog 14 #[.int .u8 (c.toNat : Int)] w fun e w' => e = .returned (.bool (Lx.letter c)) ∧ w = w' := by
  go_enter Tryd.func14, Tryd.ntmps14
  go_wp2
  all_goals
    go_returns
    refine ⟨ret_bool ?_, rfl⟩
    rw [letter_iff, Bool.eq_iff_iff]
    simp
    omega
set_option maxRecDepth 100000 in
theorem digit_any (c : UInt8) (w : World) : Calls Tryd.prog 15 #[.int .u8 (c.toNat : Int)] w fun e w' => e = .returned (.bool (Lx.digit c)) ∧ w = w' := by
  go_enter Tryd.func15, Tryd.ntmps15
  go_wp2
  all_goals
    go_returns
    refine ⟨ret_bool ?_, rfl⟩
    rw [digit_iff, Bool.eq_iff_iff]
    simp
    omega
set_option maxRecDepth 100000 in
theorem begins_any (S g : ByteArray) (i : Nat) (w : World) (hi : i ≤ S.size) (hg : g.size ≤ 100) (hS : S.size ≤ 6000) : Calls Tryd.prog 12 #[.string S, .int .i64 i, .string g] w fun e w' => e = .returned (.bool ((by_ g).isPrefixOf ((by_ S).drop i))) ∧ w = w' := by
  have hl := by_size S
  have hgl := by_size g
  go_enter Tryd.func12, Tryd.ntmps12
  by_cases h : i + g.size ≤ S.size
  · go_wp2
    go_returns
    refine ⟨ret_bool ?_, rfl⟩
    rw [by_toList, by_toList, by_extract, Bool.eq_iff_iff, beq_iff_eq, List.isPrefixOf_iff_prefix, List.prefix_iff_eq_take, hgl]
    unfold Lx.cut
    rw [show i + g.size - i = g.size by omega]
    exact eq_comm
  · go_wp2
    go_returns
    refine ⟨ret_bool ?_, rfl⟩
    rw [eq_comm, Bool.eq_false_iff]
    intro h1
    have h2 := (List.isPrefixOf_iff_prefix.1 h1).length_le
    rw [List.length_drop] at h2
    omega

def hasB (L : List (List UInt8)) (x : ByteArray) : Bool := L.contains (by_ x)
set_option maxRecDepth 100000 in
theorem has_any (L : List (List UInt8)) (q : Nat) (x : ByteArray) (w : World) (hq : StrsAt w q L) (hL : L.length ≤ 1000) : Calls Tryd.prog 16 #[.slice (some ⟨q, 0, none⟩) L.length L.length, .string x] w fun e w' => e = .returned (.bool (hasB L x)) ∧ w = w' := by
  have HQ := Lib.hid hq
  have hql := blk_lt hq
  clear hq
  go_enter Tryd.func16, Tryd.ntmps16
  go_wp2
  go_loop [5] (fun i => ∃ k : Nat, k ≤ L.length ∧ i = .int .i64 k ∧ Hid ((L.take k).contains (by_ x) = false)) (fun i => L.length - (intOf i).toNat)
  case atStart => exact ⟨0, by omega, rfl, Lib.hid (by simp)⟩
  case round =>
    obtain ⟨k, hk, rfl, HK⟩ := hrel
    by_cases hlt : k < L.length
    · have hc := HQ.out.cell hlt
      have e1 : L.take (k + 1) = L.take k ++ [L.getD k []] := by rw [List.take_succ_eq_append_getElem hlt]; simp [List.getElem?_eq_getElem hlt]
      have hm : L.getD k [] ∈ L := by simp [List.getElem?_eq_getElem hlt]
      have E1 := Lib.hid e1
      have HM := Lib.hid hm
      clear e1 hm
      generalize L.getD k [] = y at *
      by_cases hy : y = by_ x
      · have ht : ((str y).toList == x.toList) = true := by rw [by_toList, by_toList, by_str, hy]; simp
        have HY : Hid (hasB L x = true) := Lib.hid (by unfold hasB; rw [List.contains_iff_mem]; rw [← hy]; exact HM.out)
        clear hy
        go_wp2
        go_returns
        exact ⟨ret_bool HY.out.symm, rfl⟩
      · have ht : ((str y).toList == x.toList) = false := by rw [by_toList, by_toList, by_str]; simpa using hy
        have HN : Hid ((L.take (k + 1)).contains (by_ x) = false) := Lib.hid (by
          have := HK.out
          rw [E1.out]
          simp only [List.contains_eq_mem, List.mem_append, List.mem_singleton, decide_eq_false_iff_not] at this ⊢
          intro h
          rcases h with h | h
          · exact this h
          · exact hy h.symm)
        clear hy
        go_wp2
        go_round
        case rel => exact ⟨k + 1, by omega, by go_num, HN⟩
        case measure => simp [intOf]; omega
    · obtain rfl : k = L.length := by omega
      have HN : Hid (hasB L x = false) := Lib.hid (by have := HK.out; rw [List.take_length] at this; exact this)
      clear HK
      go_wp2
      go_returns
      exact ⟨ret_bool HN.out.symm, rfl⟩

set_option maxRecDepth 100000 in
theorem words_any (w : World) : Calls Tryd.prog 9 #[] w fun e w' => e = .returned (.slice (some ⟨w.heap.size, 0, none⟩) 24 24) ∧ StrsAt w' w.heap.size Lx.words ∧ Below w.heap.size w w' ∧ w'.heap.size = w.heap.size + 1 := by
  go_enter Tryd.func9, Tryd.ntmps9
  go_wp2
  go_returns
  exact ⟨rfl, blk_new _ _, by go_grown, by simp⟩
set_option maxRecDepth 100000 in
theorem signs_any (w : World) : Calls Tryd.prog 10 #[] w fun e w' => e = .returned (.slice (some ⟨w.heap.size, 0, none⟩) 25 25) ∧ StrsAt w' w.heap.size Lx.signs ∧ Below w.heap.size w w' ∧ w'.heap.size = w.heap.size + 1 := by
  go_enter Tryd.func10, Tryd.ntmps10
  go_wp2
  go_returns
  exact ⟨rfl, blk_new _ _, by go_grown, by simp⟩
end Go.Proofs.YtjickecdkmljpaaDoor
