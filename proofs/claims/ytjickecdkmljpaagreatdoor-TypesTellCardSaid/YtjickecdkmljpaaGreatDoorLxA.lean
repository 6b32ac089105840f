/-
  PROVED HERE: how texts, lists of strings and tokens lie in memory. the program's scanner: the rune at a place, where a note ends, small predicates. the program's scanner: letters, digits, what ends a line, words, signs. the program's scanner: where letters and digits end. the program's scanner: the end of a line. No condition beyond the lemmas' own premises.
-/
import Derived.Test.YtjickecdkmljpaaGreatDoorPsTk
import Derived.Test.YtjickecdkmljpaaGreatDoorLx
import Derived.Test.YtjickecdkmljpaaGreatDoorShelf
import Derived.WalkKit
import Derived.ProofKit
import Derived.WalkSmall
import Derived.OneCell
import Derived.LoopTactic
import Derived.Outline
import Derived.Deep.QuietTactic
import Derived.BigQuiet
import Derived.Lib.Hide
import Derived.WalkSpells
import Derived.WalkLawsBesides
import Derived.IntWalk
import Derived.Handy
import Derived.Laws.OwnMore
import Derived.Deep.RegionWith
import Derived.Deep.RegionHeld3
import Derived.Deep.DeepCutAuto
import Derived.Deep.RegionLaw
import Derived.Deep.LoopGhost
import Derived.Deep.AppendLies
namespace Go.Proofs.YtjickecdkmljpaaGreatDoor
open Go.RowKit

/-- A string's bytes. -/
def by_ (S : ByteArray) : List UInt8 := S.data.toList
def str (l : List UInt8) : ByteArray := ⟨l.toArray⟩
theorem by_str (l : List UInt8) : by_ (str l) = l := rfl
theorem str_by (S : ByteArray) : str (by_ S) = S := rfl
theorem by_size (S : ByteArray) : (by_ S).length = S.size := Array.length_toList
theorem str_size (l : List UInt8) : (str l).size = l.length := by rw [← by_size, by_str]
theorem by_toList (S : ByteArray) : S.toList = by_ S := ByteArray.toList_eq S
theorem by_extract (S : ByteArray) (i j : Nat) : by_ (S.extract i j) = Lx.cut (by_ S) i j := by
 unfold by_ Lx.cut;rw [ByteArray.data_extract, Array.toList_extract]
theorem by_inj {a b : ByteArray} (h : by_ a = by_ b) : a = b := by rw [← str_by a, ← str_by b, h]
/-- A block that is strings. -/
def StrsAt (w : World) (q : Nat) (L : List (List UInt8)) : Prop := w.heap[q]? = some (.cells (L.map fun l => Value.string (str l)).toArray 9 (0, 0))

/-! ### A block known whole -/
theorem blk_lt {w : World} {p : Nat} {o : Obj} (h : w.heap[p]? = some o) : p < w.heap.size := (Array.getElem?_eq_some_iff.1 h).1
theorem blk_cell {w : World} {p : Nat} {c : Array Value} {t : TypeId} (h : w.heap[p]? = some (.cells c t (0, 0))) (i : Nat) : w.cell? ⟨p, i, none⟩ = c[i]? := by simp [World.cell?, h]
theorem blk_free {w : World} {p : Nat} {c : Array Value} {t : TypeId} (h : w.heap[p]? = some (.cells c t (0, 0))) (i : Nat) : w.frozen? ⟨p, i, none⟩ = false := by simp [World.frozen?, h]
theorem blk_set {w : World} {p : Nat} {c : Array Value} {t : TypeId} (h : w.heap[p]? = some (.cells c t (0, 0))) (i : Nat) (u : Value) : (w.setCell ⟨p, i, none⟩ u).heap[p]? = some (.cells (c.setIfInBounds i u) t (0, 0)) := by
 simp [World.setCell, Array.getElem?_modify, h]
theorem blk_set_other {w : World} {p q : Nat} {o : Option Obj} (h : w.heap[q]? = o) (hne : q ≠ p) (i : Nat) (u : Value) : (w.setCell ⟨p, i, none⟩ u).heap[q]? = o := by
 rw [Below.heap_setCell _ _ _ _ hne]; exact h
theorem blk_alloc {w : World} {p : Nat} {o : Obj} (h : w.heap[p]? = some o) (x : Obj) : (w.alloc x).heap[p]? = some o := by
 rw [Below.heap_alloc _ _ _ (blk_lt h)]; exact h
theorem blk_new (w : World) (x : Obj) : (w.alloc x).heap[w.heap.size]? = some x := by
 show (w.heap.push x)[w.heap.size]? = _
 simp
theorem blk_below {N : Nat} {w w' : World} {p : Nat} {o : Obj} (h : w.heap[p]? = some o) (hb : Below N w w') (hp : p < N) : w'.heap[p]? = some o := (hb.block p hp).trans h
theorem blk_grown {w w' : World} {row : Option Nat} {p : Nat} {o : Obj} (h : w.heap[p]? = some o) (hg : w.grownBy w' row) (hp : some p ≠ row) : w'.heap[p]? = some o := (hg.block p (blk_lt h) hp).trans h
theorem own_ne_blk {w : World} {base e size n : Nat} {v : Value} {xs : List Value} {p : Nat} {c : Array Value} {t : TypeId} (hown : w.ownsRow base e size v n xs) (h : w.heap[p]? = some (.cells c t (0, 0))) (hne : e ≠ t) : v.ownBlock ≠ some p := by
 rcases hown.2 with ⟨rfl, _⟩ | ⟨g, cap, cur, rfl, _, hg, _⟩
 ·simp [Value.ownBlock]
 ·simp only [Value.ownBlock];intro e1
  cases e1
  rw [h] at hg
  cases hg
  exact hne rfl
theorem own_below {w w' : World} {N base e size n : Nat} {v : Value} {xs : List Value} (hown : w.ownsRow base e size v n xs) (hb : Below N w w') (hN : ∀ k, v.ownBlock = some k → k < N) : w'.ownsRow base e size v n xs := by
 refine ⟨hown.1, ?_⟩;rcases hown.2 with h | ⟨g, cap, cur, rfl, h1, hg, h2⟩
 ·exact Or.inl h
 ·exact Or.inr ⟨g, cap, cur, rfl, h1, (hb.block g (hN g rfl)).trans hg, h2⟩
theorem own_lit {w : World} {base e size n : Nat} {v : Value} {xs : List Value} (h : w.ownsRow base e size v n xs) (hn : 0 < n) : ∃ g cap, v = .slice (some ⟨g, 0, none⟩) n cap := by
 rcases h.2 with ⟨_, h0⟩ | ⟨g, cap, cur, hv, _⟩
 ·omega
 ·exact ⟨g, cap, hv⟩
theorem own_slice {w : World} {base e size n m : Nat} {v : Value} {xs : List Value} (h : w.ownsRow base e size v n xs) (hm : n = m) : ∃ a cap, v = .slice a m cap := by
 subst hm;rcases h.2 with ⟨rfl, h0⟩ | ⟨g, cap, cur, hv, _⟩
 ·exact ⟨none, 0, by rw [h0]⟩
 ·exact ⟨_, cap, hv⟩
theorem own_set {base e size n p i : Nat} {w : World} {v u : Value} {xs : List Value} {t : TypeId} {c : Array Value} (h : w.ownsRow base e size v n xs) (hp : w.heap[p]? = some (.cells c t (0, 0))) (hne : e ≠ t) : (w.setCell ⟨p, i, none⟩ u).ownsRow base e size v n xs :=
 ownsRow_setCell_other h (a := ⟨p, i, none⟩) (own_ne_blk h hp hne) u

theorem StrsAt.cell {w : World} {q k : Nat} {L : List (List UInt8)} (h : StrsAt w q L) (hk : k < L.length) : w.cell? ⟨q, k, none⟩ = some (.string (str (L.getD k []))) := by
 rw [blk_cell h];simp [hk]
theorem StrsAt.below {N : Nat} {w w' : World} {q : Nat} {L : List (List UInt8)} (h : StrsAt w q L) (hb : Below N w w') (hq : q < N) : StrsAt w' q L := blk_below h hb hq

theorem ret_bool {a b : Bool} (h : a = b) : Ending.returned (.bool a) = .returned (.bool b) := by rw [h]
theorem letter_iff : ∀ c : UInt8, Lx.letter c = decide ((c.toNat : Int) = 95 ∨ (97 ≤ (c.toNat : Int) ∧ (c.toNat : Int) ≤ 122) ∨ (65 ≤ (c.toNat : Int) ∧ (c.toNat : Int) ≤ 90)) := by
 intro c;have h : c = 95 ↔ c.toNat = 95 := by rw [← UInt8.toNat_inj]; simp
 unfold Lx.letter;rw [Bool.eq_iff_iff];simp only [Bool.or_eq_true, Bool.and_eq_true, beq_iff_eq, decide_eq_true_eq, UInt8.le_iff_toNat_le, h];simp;omega
theorem digit_iff : ∀ c : UInt8, Lx.digit c = decide (48 ≤ (c.toNat : Int) ∧ (c.toNat : Int) ≤ 57) := by
 intro c;unfold Lx.digit;rw [Bool.eq_iff_iff];simp only [Bool.and_eq_true, decide_eq_true_eq, UInt8.le_iff_toNat_le];simp;omega
set_option maxRecDepth 100000 in
theorem letter_any (c : UInt8) (w : World) : Calls Tryz.prog 52 #[.int .u8 (c.toNat : Int)] w fun e w' => e = .returned (.bool (Lx.letter c)) ∧ w = w' := by
 go_enter Tryz.func52, Tryz.ntmps52
 go_wp2
 all_goals
  go_returns
  refine ⟨ret_bool ?_, rfl⟩;rw [letter_iff, Bool.eq_iff_iff];simp;omega
set_option maxRecDepth 100000 in
theorem digit_any (c : UInt8) (w : World) : Calls Tryz.prog 53 #[.int .u8 (c.toNat : Int)] w fun e w' => e = .returned (.bool (Lx.digit c)) ∧ w = w' := by
 go_enter Tryz.func53, Tryz.ntmps53
 go_wp2
 all_goals
  go_returns
  refine ⟨ret_bool ?_, rfl⟩;rw [digit_iff, Bool.eq_iff_iff];simp;omega
set_option maxRecDepth 100000 in
theorem begins_any (S g : ByteArray) (i : Nat) (w : World) (hi : i ≤ S.size) (hg : g.size ≤ 100) (hS : S.size ≤ 6000) : Calls Tryz.prog 50 #[.string S, .int .i64 i, .string g] w fun e w' => e = .returned (.bool ((by_ g).isPrefixOf ((by_ S).drop i))) ∧ w = w' := by
 have hl := by_size S;have hgl := by_size g
 go_enter Tryz.func50, Tryz.ntmps50
 by_cases h : i + g.size ≤ S.size
 ·go_wp2
  go_returns
  refine ⟨ret_bool ?_, rfl⟩;rw [by_toList, by_toList, by_extract, Bool.eq_iff_iff, beq_iff_eq, List.isPrefixOf_iff_prefix, List.prefix_iff_eq_take, hgl];unfold Lx.cut;rw [show i + g.size - i = g.size by omega];exact eq_comm
 ·go_wp2
  go_returns
  refine ⟨ret_bool ?_, rfl⟩;rw [eq_comm, Bool.eq_false_iff];intro h1;have h2 := (List.isPrefixOf_iff_prefix.1 h1).length_le;rw [List.length_drop] at h2;omega

def hasB (L : List (List UInt8)) (x : ByteArray) : Bool := L.contains (by_ x)
set_option maxRecDepth 100000 in
theorem has_any (L : List (List UInt8)) (q : Nat) (x : ByteArray) (w : World) (hq : StrsAt w q L) (hL : L.length ≤ 1000) : Calls Tryz.prog 54 #[.slice (some ⟨q, 0, none⟩) L.length L.length, .string x] w fun e w' => e = .returned (.bool (hasB L x)) ∧ w = w' := by
 have HQ := zh hq;have hql := blk_lt hq;clear hq
 go_enter Tryz.func54, Tryz.ntmps54
 go_wp2
 go_loop [5] (fun i => ∃ k : Nat, k ≤ L.length ∧ i = .int .i64 k ∧ Hid ((L.take k).contains (by_ x) = false)) (fun i => L.length - (intOf i).toNat)
 case atStart => exact ⟨0, by omega, rfl, zh (by simp)⟩
 case round =>
  obtain ⟨k, hk, rfl, HK⟩ := hrel
  by_cases hlt : k < L.length
  ·have hc := HQ.out.cell hlt;have e1 : L.take (k + 1) = L.take k ++ [L.getD k []] := by rw [List.take_succ_eq_append_getElem hlt]; simp [List.getElem?_eq_getElem hlt]
   have hm : L.getD k [] ∈ L := by simp [List.getElem?_eq_getElem hlt]
   have E1 := zh e1;have HM := zh hm;clear e1 hm;generalize L.getD k [] = y at *
   by_cases hy : y = by_ x
   ·have ht : ((str y).toList == x.toList) = true := by rw [by_toList, by_toList, by_str, hy]; simp
    have HY : Hid (hasB L x = true) := zh (by unfold hasB; rw [List.contains_iff_mem]; rw [← hy]; exact HM.out);clear hy;go_wp2
    go_returns
    exact ⟨ret_bool HY.out.symm, rfl⟩
   ·have ht : ((str y).toList == x.toList) = false := by rw [by_toList, by_toList, by_str]; simpa using hy
    have HN : Hid ((L.take (k + 1)).contains (by_ x) = false) := zh (by
     have := HK.out;rw [E1.out];simp only [List.contains_eq_mem, List.mem_append, List.mem_singleton, decide_eq_false_iff_not] at this ⊢;intro h;rcases h with h | h
     ·exact this h
     ·exact hy h.symm)
    clear hy;go_wp2
    go_round
    case rel => exact ⟨k + 1, by omega, by go_num, HN⟩
    case measure => simp [intOf]; omega
  ·obtain rfl : k = L.length := by omega
   have HN : Hid (hasB L x = false) := zh (by have := HK.out; rw [List.take_length] at this; exact this);clear HK;go_wp2
   go_returns
   exact ⟨ret_bool HN.out.symm, rfl⟩

set_option maxRecDepth 100000 in
theorem words_any (w : World) : Calls Tryz.prog 47 #[] w fun e w' => e = .returned (.slice (some ⟨w.heap.size, 0, none⟩) 24 24) ∧ StrsAt w' w.heap.size Lx.words ∧ Below w.heap.size w w' ∧ w'.heap.size = w.heap.size + 1 := by
 go_enter Tryz.func47, Tryz.ntmps47
 go_wp2
 go_returns
 exact ⟨rfl, blk_new _ _, by go_grown, by simp⟩
set_option maxRecDepth 100000 in
theorem signs_any (w : World) : Calls Tryz.prog 48 #[] w fun e w' => e = .returned (.slice (some ⟨w.heap.size, 0, none⟩) 25 25) ∧ StrsAt w' w.heap.size Lx.signs ∧ Below w.heap.size w w' ∧ w'.heap.size = w.heap.size + 1 := by
 go_enter Tryz.func48, Tryz.ntmps48
 go_wp2
 go_returns
 exact ⟨rfl, blk_new _ _, by go_grown, by simp⟩
end Go.Proofs.YtjickecdkmljpaaGreatDoor
namespace Go.Proofs.YtjickecdkmljpaaGreatDoor
open Go.RowKit

set_option maxRecDepth 100000 in
theorem fail_any (p : Nat) (c at_ : Int) (w : World) : Calls Tryz.prog 93 #[.pointer (some ⟨p, 0, none⟩), .int .i64 c, .int .i64 at_] w fun e w' => e = .panicked [{ v := .iface 89 (.agg #[.int .i64 c, .int .i64 at_]), recovered := false }] ∧ w = w' := by
 go_enter Tryz.func93, Tryz.ntmps93
 go_wp2
 exact ⟨rfl, rfl, rfl⟩

/-- Go's own tables, as long as below B nothing turns. -/
def Tabs (B : Nat) (w : World) : Prop := ∀ w', Below B w w' → Lib.Utf8Tabs 0 1 w' ∧ Lib.TabIs Tryz.prog w' "strings.asciiSpace" .u8 Lib.asciiSpaceTab
theorem Tabs.below {B N : Nat} {w w' : World} (h : Tabs B w) (hb : Below N w w') (hN : B ≤ N) : Tabs B w' := fun w2 h2 => h w2 ((hb.mono hN).trans h2)
/-- The scanner, in block p. -/
def ScAt (p : Nat) (w : World) (S : ByteArray) (i : Nat) (line : Bool) (v : Value) : Prop := w.heap[p]? = some (.cells #[.string S, .int .i64 (i : Int), .bool line, v] 92 (0, 0))
theorem extract_drop (S : ByteArray) (j : Nat) : S.extract j S.size = str ((by_ S).drop j) := by
 apply by_inj
 rw [by_extract, by_str];unfold Lx.cut;rw [List.take_of_length_le (by rw [List.length_drop, by_size]; omega)]

set_option maxRecDepth 100000 in
theorem rune_end (p i : Nat) (S : ByteArray) (line : Bool) (v : Value) (w : World) (hp : ScAt p w S i line v) : Calls Tryz.prog 83 #[.pointer (some ⟨p, 0, none⟩), .int .i64 (S.size : Int)] w fun e w' => e = .returned (.tuple #[.int .i32 (-1), .int .i64 0]) ∧ w = w' := by
 have c0 := blk_cell hp 0;simp only [List.getElem?_toArray, List.getElem?_cons_zero] at c0;clear hp
 go_enter Tryz.func83, Tryz.ntmps83
 go_wp2
 exact bodyPost_ret (v := .tuple #[.int .i32 (-1), .int .i64 0]) (by simp [results, Tryz.results83, go_sem]) rfl ⟨rfl, rfl⟩
set_option maxRecDepth 100000 in
theorem rune_any (B p i j : Nat) (S : ByteArray) (line : Bool) (v : Value) (w : World) (hp : ScAt p w S i line v) (hj : j < S.size) (_hS : S.size ≤ 6000) (hT : Tabs B w) :
  Calls Tryz.prog 83 #[.pointer (some ⟨p, 0, none⟩), .int .i64 (j : Int)] w fun e w' => Below w.heap.size w w' ∧ ((Lx.dec ((by_ S).drop j) = (65533, 1) ∧ e = .panicked [{ v := .iface 89 (.agg #[.int .i64 2, .int .i64 (j : Int)]), recovered := false }]) ∨ (Lx.dec ((by_ S).drop j) ≠ (65533, 1) ∧ e = .returned (.tuple #[.int .i32 ((Lx.dec ((by_ S).drop j)).1 : Int), .int .i64 ((Lx.dec ((by_ S).drop j)).2 : Int)]))) := by
 have c0 := blk_cell hp 0;simp only [List.getElem?_toArray, List.getElem?_cons_zero] at c0;have HTW := zh (hT _ (Below.refl _ _)).1;have hje : ((j : Int) == (S.size : Int)) = false := by simp; omega
 have HEX := zh (extract_drop S j);have hne : (by_ S).drop j ≠ [] := by intro h; have := List.drop_eq_nil_iff.1 h; rw [by_size] at this; omega
 obtain ⟨d1, d2, d3⟩ := Lx.dec_bd hne;clear hp hT hne
 go_enter Tryz.func83, Tryz.ntmps83
 go_wp2_with fail
 rw [HEX.out];refine (Tryz.utf8_DecodeRuneInString (str ((by_ S).drop j)) _ HTW.out).mono ?_;rintro e w6 ⟨rfl, hb6⟩;have hdd : Lib.decodeGo (str ((by_ S).drop j)) = Lx.dec ((by_ S).drop j) := rfl;rw [hdd];have HB := zh hb6;clear hdd hb6;obtain ⟨r, hr⟩ : ∃ r, (Lx.dec ((by_ S).drop j)).1 = r := ⟨_, rfl⟩;obtain ⟨n, hn⟩ : ∃ n, (Lx.dec ((by_ S).drop j)).2 = n := ⟨_, rfl⟩;have HD : Hid (Lx.dec ((by_ S).drop j) = (r, n)) := zh (by rw [← hr, ← hn]);rw [hr, hn];rw [hr] at d3;rw [hn] at d1 d2;clear hr hn
 by_cases h1 : r = 65533
 ·subst h1
  by_cases h2 : n = 1
  ·subst h2;go_wp2_with fail
   refine (fail_any p 2 (j : Int) _).mono ?_;rintro e w7 ⟨rfl, rfl⟩;go_wp2
   exact ⟨rfl, HB.out, Or.inl ⟨HD.out, rfl⟩⟩
  ·have g1 : ((n : Int) == 1) = false := by simp; omega
   have HN := zh h2;clear h2;go_wp2
   exact bodyPost_ret (v := .tuple #[.int .i32 65533, .int .i64 (n : Int)]) (by simp [results, Tryz.results83, go_sem]) rfl ⟨HB.out, Or.inr ⟨by rw [HD.out]; intro h; injection h with _ h; exact HN.out h, by rw [HD.out]; rfl⟩⟩
 ·have g1 : ((r : Int) == 65533) = false := by simp; omega
  have HN := zh h1;clear h1;go_wp2
  exact bodyPost_ret (v := .tuple #[.int .i32 (r : Int), .int .i64 (n : Int)]) (by simp [results, Tryz.results83, go_sem]) rfl ⟨HB.out, Or.inr ⟨by rw [HD.out]; intro h; injection h with h _; exact HN.out h, by rw [HD.out]⟩⟩

/-- A rune is a line feed just where the byte is one. -/
theorem decN_low (n b0 b1 b2 b3 : Nat) : (Lib.decodeN n b0 b1 b2 b3).1 < 128 ↔ b0 < 128 := by
 unfold Lib.decodeN
 repeat' split
 all_goals (simp; try omega)
theorem decN_ascii (n b0 b1 b2 b3 : Nat) (h : b0 < 128) : Lib.decodeN n b0 b1 b2 b3 = (b0, 1) := by
 unfold Lib.decodeN;rw [if_pos h]
theorem dec_head {l : List UInt8} (h : l ≠ []) : ((l.getD 0 0).toNat < 128 → Lx.dec l = ((l.getD 0 0).toNat, 1)) ∧ (128 ≤ (l.getD 0 0).toNat → 128 ≤ (Lx.dec l).1) := by
 have hl : 0 < l.length := List.length_pos_iff.2 h;have hs : (⟨l.toArray⟩ : ByteArray).size = l.length := by show l.toArray.size = _; simp
 have hg : (⟨l.toArray⟩ : ByteArray).get! 0 = l.getD 0 0 := by
  cases l with
  | nil => exact absurd rfl h
  | cons x r => rfl
 unfold Lx.dec Lib.decodeGo;rw [if_neg (by rw [hs]; omega), Lib.decode_at, hg];refine ⟨fun h1 => decN_ascii _ _ _ _ _ h1, fun h1 => ?_⟩;have := decN_low ((⟨l.toArray⟩ : ByteArray).size - 0) (l.getD 0 0).toNat ((⟨l.toArray⟩ : ByteArray).get! (0 + 1)).toNat ((⟨l.toArray⟩ : ByteArray).get! (0 + 2)).toNat ((⟨l.toArray⟩ : ByteArray).get! (0 + 3)).toNat;omega
theorem drop_head (s : List UInt8) (j : Nat) : (s.drop j).getD 0 0 = s.getD j 0 := by simp
theorem ScAt.below {p i : Nat} {w w' : World} {S : ByteArray} {line : Bool} {v : Value} (h : ScAt p w S i line v) (hb : Below w.heap.size w w') : ScAt p w' S i line v := blk_below h hb (blk_lt h)
/-- What a note's end is told as. -/
def NotePost (S : ByteArray) (i : Nat) (w : World) (e : Ending) (w' : World) : Prop :=
 Below w.heap.size w w' ∧ ((∃ j, Lx.noteEnd (by_ S) i = .error j ∧ e = .panicked [{ v := .iface 89 (.agg #[.int .i64 2, .int .i64 (j : Int)]), recovered := false }]) ∨ (∃ j, Lx.noteEnd (by_ S) i = .ok j ∧ j ≤ S.size ∧ e = .returned (.int .i64 (j : Int))))
set_option maxRecDepth 100000 in
set_option maxHeartbeats 1000000 in
theorem note_any (B p i : Nat) (S : ByteArray) (line : Bool) (v : Value) (w : World) (hp : ScAt p w S i line v) (hi : i ≤ S.size) (hS : S.size ≤ 6000) (hT : Tabs B w) (hB : B ≤ w.heap.size) : Calls Tryz.prog 85 #[.pointer (some ⟨p, 0, none⟩)] w (NotePost S i w) := by
 have c1 := blk_cell hp 1;simp only [List.getElem?_toArray, List.getElem?_cons_zero, List.getElem?_cons_succ] at c1;have HP := zh hp;have HT := zh hT;have hpl := blk_lt hp;clear hp hT
 go_enter Tryz.func85, Tryz.ntmps85
 go_wp2_with fail
 go_loopw [3] (fun x wr => ∃ j : Nat, j ≤ S.size ∧ x = .int .i64 j ∧ Hid (Lx.noteEnd (by_ S) i = Lx.noteEnd (by_ S) j) ∧ Hid (Below w.heap.size w wr)) (fun x _ => S.size - (intOf x).toNat)
 case atStart => exact ⟨i, hi, rfl, zh rfl, zh (Below.refl _ _)⟩
 case round =>
  obtain ⟨j, hj, rfl, HJ, HB⟩ := hrel;have HPW := zh (HP.out.below HB.out)
  by_cases hje : j < S.size
  ·have hne : (by_ S).drop j ≠ [] := by intro h; have := List.drop_eq_nil_iff.1 h; rw [by_size] at this; omega
   obtain ⟨d1, d2, d3⟩ := Lx.dec_bd hne;obtain ⟨q1, q2⟩ := dec_head hne;rw [drop_head] at q1 q2;rw [List.length_drop, by_size] at d2;have Q1 := zh q1;have Q2 := zh q2;clear q1 q2 hne;go_wp2_with fail
   refine (rune_any B p i j S line v wr HPW.out hje hS (HT.out.below HB.out hB)).mono ?_;rintro e w5 ⟨hb5, ⟨hd, rfl⟩ | ⟨hd, rfl⟩⟩
   ·have hnl : (by_ S).getD j 0 ≠ 10 := by
     intro h;have := Q1.out (by rw [h]; decide);rw [hd, h] at this
     cases this
    have HE : Hid (NotePost S i w (.panicked [{ v := .iface 89 (.agg #[.int .i64 2, .int .i64 (j : Int)]), recovered := false }]) w5) := zh ⟨HB.out.trans (hb5.mono HB.out.size), Or.inl ⟨j, by rw [HJ.out, Lx.noteEnd_bad (by rw [by_size]; exact hje) hnl hd], rfl⟩⟩;clear hd hb5 hnl;go_wp2
    exact ⟨rfl, HE.out⟩
   ·have HB5 := zh (HB.out.trans (hb5.mono HB.out.size));have HD := zh hd
    clear hb5 hd
    by_cases hnl : (by_ S).getD j 0 = 10
    ·have hq := Q1.out (by rw [hnl]; decide);rw [hq, hnl]
     have HE : Hid (NotePost S i w (.returned (.int .i64 (j : Int))) w5) := zh ⟨HB5.out, Or.inr ⟨j, by rw [HJ.out, Lx.noteEnd_end (by rw [hnl]; simp)], hj, rfl⟩⟩;have h10 : (((10 : UInt8).toNat : Nat) : Int) = 10 := rfl;rw [show ((10 : UInt8).toNat, 1).1 = 10 from rfl];clear hq hnl h10 HJ HD Q1 Q2 d1 d2 d3;go_wp2
     go_returns
     exact HE.out
    ·have hr10 : (Lx.dec ((by_ S).drop j)).1 ≠ 10 := by
      intro h
      by_cases hlow : ((by_ S).getD j 0).toNat < 128
      ·have := Q1.out hlow;rw [this] at h
       exact hnl (UInt8.toNat_inj.1 h)
      ·have := Q2.out (by omega);omega
     have HJN : Hid (Lx.noteEnd (by_ S) i = Lx.noteEnd (by_ S) (j + (Lx.dec ((by_ S).drop j)).2)) := zh (by
      rw [HJ.out, Lx.noteEnd_more (by rw [by_size]; exact hje) hnl HD.out, show max 1 (Lx.dec ((by_ S).drop j)).2 = (Lx.dec ((by_ S).drop j)).2 by omega])
     clear HJ hnl HD Q1 Q2;generalize (Lx.dec ((by_ S).drop j)).1 = r at *;generalize (Lx.dec ((by_ S).drop j)).2 = n at *;have g1 : ((r : Int) == 10) = false := by simp; omega
     clear hr10;go_wp2
     go_roundw
     case rel => exact ⟨j + n, by omega, by go_num, HJN, HB5⟩
     case measure => simp [intOf]; omega
  ·obtain rfl : j = S.size := by omega
   have HE : Hid (NotePost S i w (.returned (.int .i64 (S.size : Int))) wr) := zh ⟨HB.out, Or.inr ⟨S.size, by rw [HJ.out, Lx.noteEnd_end (by rw [by_size]; omega)], Nat.le_refl _, rfl⟩⟩;clear HJ;go_wp2_with fail
   refine (rune_end p i S line v wr HPW.out).mono ?_;rintro e w5 ⟨rfl, rfl⟩;go_wp2
   go_returns
   exact HE.out
end Go.Proofs.YtjickecdkmljpaaGreatDoor
namespace Go.Proofs.YtjickecdkmljpaaGreatDoor
open Go.RowKit

set_option maxRecDepth 100000 in
theorem pletter_any (c : UInt8) (w : World) : Calls Tryz.prog 89 #[.int .i32 (c.toNat : Int)] w fun e w' => e = .returned (.bool (Lx.letter c)) ∧ w = w' := by
 go_enter Tryz.func89, Tryz.ntmps89
 go_wp2
 all_goals
  go_returns
  refine ⟨ret_bool ?_, rfl⟩;rw [letter_iff, Bool.eq_iff_iff];simp;omega
set_option maxRecDepth 100000 in
theorem pdigit_any (c : UInt8) (w : World) : Calls Tryz.prog 86 #[.int .i32 (c.toNat : Int)] w fun e w' => e = .returned (.bool (Lx.digit c)) ∧ w = w' := by
 go_enter Tryz.func86, Tryz.ntmps86
 go_wp2
 all_goals
  go_returns
  refine ⟨ret_bool ?_, rfl⟩;rw [digit_iff, Bool.eq_iff_iff];simp;omega
set_option maxRecDepth 100000 in
theorem pword_any (c : UInt8) (w : World) : Calls Tryz.prog 90 #[.int .i32 (c.toNat : Int)] w fun e w' => e = .returned (.bool (Lx.wordC c)) ∧ w = w' := by
 go_enter Tryz.func90, Tryz.ntmps90
 go_wp2_with fail
 refine (pletter_any c w).mono ?_;rintro e w' ⟨rfl, rfl⟩
 cases hl : Lx.letter c with
 | true =>
  have HW : Hid (Lx.wordC c = true) := zh (by unfold Lx.wordC; rw [hl]; rfl);clear hl;go_wp2
  go_returns
  exact ⟨ret_bool HW.out.symm, rfl⟩
 | false =>
  have HW : Hid (Lx.wordC c = Lx.digit c) := zh (by unfold Lx.wordC; rw [hl]; rfl);clear hl;go_wp2_with fail
  refine (pdigit_any c w).mono ?_;rintro e w' ⟨rfl, rfl⟩;go_wp2
  go_returns
  exact ⟨ret_bool HW.out.symm, rfl⟩

/-- Among strings: the shelf's word and ours. -/
theorem contains_has (L : List (List UInt8)) (x : ByteArray) : Lib.containsS (L.map str) x = hasB L x := by
 unfold hasB;rw [Bool.eq_iff_iff, Lib.containsS_iff, List.contains_iff_mem, List.mem_map]
 constructor
 ·rintro ⟨l, hl, rfl⟩;exact hl
 ·intro h;exact ⟨_, h, str_by x⟩
theorem StrsAt.shelf {w : World} {q : Nat} {L : List (List UInt8)} (h : StrsAt w q L) : ∀ j, j < (L.map str).length → w.cell? ⟨q, 0 + j, none⟩ = some (.string ((L.map str).getD j ByteArray.empty)) := by
 intro j hj;rw [List.length_map] at hj;rw [Nat.zero_add, h.cell hj];simp [List.getElem?_eq_getElem hj]

set_option maxRecDepth 100000 in
theorem ends_any (t : Lx.Tok) (w : World) : Calls Tryz.prog 144 #[.agg #[.int .i64 t.kind, .string (str t.text), .int .i64 t.num, .int .i64 (t.pos : Int)]] w fun e w' => e = .returned (.bool (Lx.ends t)) ∧ Below w.heap.size w w' := by
 obtain ⟨kind, text, num, pos⟩ := t;dsimp only
 by_cases h1 : kind = 1
 ·subst h1
  go_enter Tryz.func144, Tryz.ntmps144
  go_wp2
  go_returns
  exact ⟨ret_bool (by simp [Lx.ends]), by go_grown⟩
 ·by_cases h2 : kind = 2
  ·subst h2
   go_enter Tryz.func144, Tryz.ntmps144
   go_wp2
   go_returns
   exact ⟨ret_bool (by simp [Lx.ends]), by go_grown⟩
  ·have g1 : (kind == 1) = false := by simpa using h1
   have g2 : (kind == 2) = false := by simpa using h2
   by_cases h3 : kind = 3
   ·subst h3;clear g1 g2
    go_enter Tryz.func144, Tryz.ntmps144
    go_wp2
    all_goals
     go_returns
     refine ⟨ret_bool ?_, by go_grown⟩
     simp_all [Lx.ends, by_toList, by_str]
   ·have g3 : (kind == 3) = false := by simpa using h3
    have HE : Hid (Lx.ends ⟨kind, text, num, pos⟩ = hasB Lx.enders (str text)) := zh (by unfold Lx.ends hasB; simp [h1, h2, h3, by_str]);clear h1 h2 h3
    go_enter Tryz.func144, Tryz.ntmps144
    go_wp2_with fail
    have hq : StrsAt ((w.alloc (.cells #[.int .i64 kind, .string (str text), .int .i64 num, .int .i64 (pos : Int)] 95)).alloc (.cells (Lx.enders.map fun l => Value.string (str l)).toArray 9)) (w.heap.size + 1) Lx.enders := by
     have := blk_new (w.alloc (.cells #[.int .i64 kind, .string (str text), .int .i64 num, .int .i64 (pos : Int)] 95)) (.cells (Lx.enders.map fun l => Value.string (str l)).toArray 9);rw [show (w.alloc (.cells #[.int .i64 kind, .string (str text), .int .i64 num, .int .i64 (pos : Int)] 95)).heap.size = w.heap.size + 1 by simp] at this;exact this
    refine (Tryz.slices_Contains_string (w.heap.size + 1) 0 7 7 (Lx.enders.map str) (str text) _ (by decide) (by omega) hq.shelf).mono ?_;rintro e w' ⟨rfl, rfl⟩;rw [show List.take 7 (List.map str Lx.enders) = Lx.enders.map str from rfl, contains_has];go_wp2
    go_returns
    exact ⟨ret_bool HE.out.symm, by go_grown⟩

def wordText : List UInt8 := [102, 117, 110, 99, 32, 116, 121, 112, 101, 32, 115, 116, 114, 117, 99, 116, 32, 105, 110, 116, 101, 114, 102, 97, 99, 101, 32, 105, 102, 32, 101, 108, 115, 101, 32, 102, 111, 114, 32, 114, 101, 116, 117, 114, 110, 32, 98, 114, 101, 97, 107, 32, 115, 101, 108, 101, 99, 116, 32, 99, 97, 115, 101, 32, 100, 101, 102, 97, 117, 108, 116, 32, 103, 111, 32, 99, 108, 111, 115, 101, 32, 112, 97, 110, 105, 99, 32, 112, 114, 105, 110, 116, 32, 110, 101, 119, 32, 109, 97, 107, 101, 32, 99, 104, 97, 110, 32, 105, 110, 116, 32, 98, 111, 111, 108, 32, 110, 105, 108, 32, 116, 114, 117, 101, 32, 102, 97, 108, 115, 101]
def signText : List UInt8 := [60, 45, 32, 61, 61, 32, 33, 61, 32, 60, 61, 32, 62, 61, 32, 38, 38, 32, 124, 124, 32, 58, 61, 32, 40, 32, 41, 32, 123, 32, 125, 32, 46, 32, 44, 32, 59, 32, 58, 32, 42, 32, 43, 32, 45, 32, 47, 32, 37, 32, 60, 32, 62, 32, 61, 32, 33]
theorem words_fields : Lib.fields wordText = Lx.words := by decide +kernel
theorem signs_fields : Lib.fields signText = Lx.signs := by decide +kernel
theorem ascii_words : ∀ b ∈ wordText, b.toNat < 128 := by decide +kernel
theorem ascii_signs : ∀ b ∈ signText, b.toNat < 128 := by decide +kernel
theorem len_words : (str wordText).size < 4294967281 := by rw [str_size]; decide +kernel
theorem len_signs : (str signText).size < 4294967281 := by rw [str_size]; decide +kernel
set_option maxRecDepth 100000 in
theorem fields_words (w : World) (hT : Lib.TabIs Tryz.prog w "strings.asciiSpace" .u8 Lib.asciiSpaceTab) : Calls Tryz.prog 146 #[.string (str wordText)] w fun e w' => e = .returned (.slice (some ⟨w.heap.size, 0, none⟩) 24 24) ∧ StrsAt w' w.heap.size Lx.words ∧ Below w.heap.size w w' := by
 refine (Tryz.strings_Fields (str wordText) w len_words (fun j b h => ascii_words b (List.mem_of_getElem? h)) hT).mono ?_;rintro e w' ⟨rfl, rfl⟩;rw [show (str wordText).data.toList = wordText from rfl, words_fields];exact ⟨rfl, blk_new _ _, by go_grown⟩
set_option maxRecDepth 100000 in
theorem fields_signs (w : World) (hT : Lib.TabIs Tryz.prog w "strings.asciiSpace" .u8 Lib.asciiSpaceTab) : Calls Tryz.prog 146 #[.string (str signText)] w fun e w' => e = .returned (.slice (some ⟨w.heap.size, 0, none⟩) 25 25) ∧ StrsAt w' w.heap.size Lx.signs ∧ Below w.heap.size w w' := by
 refine (Tryz.strings_Fields (str signText) w len_signs (fun j b h => ascii_signs b (List.mem_of_getElem? h)) hT).mono ?_;rintro e w' ⟨rfl, rfl⟩;rw [show (str signText).data.toList = signText from rfl, signs_fields];exact ⟨rfl, blk_new _ _, by go_grown⟩
set_option maxRecDepth 100000 in
theorem psigns_any (B : Nat) (w : World) (hT : Tabs B w) : Calls Tryz.prog 92 #[] w fun e w' => e = .returned (.slice (some ⟨w.heap.size, 0, none⟩) 25 25) ∧ StrsAt w' w.heap.size Lx.signs ∧ Below w.heap.size w w' := by
 have HT := zh (hT _ (Below.refl _ _)).2;clear hT
 go_enter Tryz.func92, Tryz.ntmps92
 go_wp2_with fail
 refine (fields_signs w HT.out).mono ?_;rintro e w' ⟨rfl, h1, h2⟩;have H1 := zh h1;have H2 := zh h2;clear h1 h2;go_wp2
 go_returns
 exact ⟨rfl, H1.out, H2.out⟩
set_option maxRecDepth 100000 in
theorem reserved_any (B : Nat) (x : ByteArray) (w : World) (hT : Tabs B w) : Calls Tryz.prog 91 #[.string x] w fun e w' => e = .returned (.bool (hasB Lx.words x)) ∧ Below w.heap.size w w' := by
 have HT := zh (hT _ (Below.refl _ _)).2;clear hT
 go_enter Tryz.func91, Tryz.ntmps91
 go_wp2_with fail
 refine (fields_words w HT.out).mono ?_;rintro e w' ⟨rfl, h1, h2⟩;have H1 := zh h1;have H2 := zh h2;clear h1 h2;go_wp2_with fail
 refine (Tryz.slices_Contains_string w.heap.size 0 24 24 (Lx.words.map str) x _ (by decide) (by omega) H1.out.shelf).mono ?_;rintro e w5 ⟨rfl, rfl⟩;rw [show List.take 24 (List.map str Lx.words) = Lx.words.map str from rfl, contains_has];go_wp2
 go_returns
 exact ⟨rfl, H2.out⟩
end Go.Proofs.YtjickecdkmljpaaGreatDoor
namespace Go.Proofs.YtjickecdkmljpaaGreatDoor
open Go.RowKit

theorem w32_byte (c : UInt8) : wrap32 (c.toNat : Int) = (c.toNat : Int) := by
 have := UInt8.toNat_lt c;unfold wrap32;omega

set_option maxRecDepth 100000 in
set_option maxHeartbeats 1000000 in
theorem while_digit (p i : Nat) (S : ByteArray) (line : Bool) (v : Value) (w : World) (hp : ScAt p w S i line v) (hi : i ≤ S.size) (hS : S.size ≤ 6000) : Calls Tryz.prog 88 #[.pointer (some ⟨p, 0, none⟩), .func (.func 86) #[] #[]] w fun e w' => e = .returned (.int .i64 (Lx.spanEnd Lx.digit (by_ S) i : Int)) ∧ w = w' := by
 have c0 := blk_cell hp 0;have c1 := blk_cell hp 1;simp only [List.getElem?_toArray, List.getElem?_cons_zero, List.getElem?_cons_succ] at c0 c1;have hpl := blk_lt hp;clear hp
 go_enter Tryz.func88, Tryz.ntmps88
 go_wp2_with fail
 go_loop [5] (fun x => ∃ j : Nat, j ≤ S.size ∧ x = .int .i64 j ∧ Hid (Lx.spanEnd Lx.digit (by_ S) i = Lx.spanEnd Lx.digit (by_ S) j)) (fun x => S.size - (intOf x).toNat)
 case atStart => exact ⟨i, hi, rfl, zh rfl⟩
 case round =>
  obtain ⟨j, hj, rfl, HJ⟩ := hrel
  by_cases hje : j < S.size
  ·have hget : S[j] = (by_ S).getD j 0 := by simp [by_, hje, ByteArray.getElem_eq_getElem_data]
   have HGET := zh hget;clear hget;go_wp2_with fail
   rw [w32_byte];refine (pdigit_any S[j] _).mono ?_;rintro e w5 ⟨rfl, rfl⟩
   cases hd : Lx.digit S[j] with
   | true =>
    have HJN : Hid (Lx.spanEnd Lx.digit (by_ S) i = Lx.spanEnd Lx.digit (by_ S) (j + 1)) := zh (by rw [HJ.out, Lx.spanEnd_more (by rw [by_size]; exact hje) (by rw [← HGET.out]; exact hd)]);clear HJ HGET hd;go_wp2
    go_round
    case rel => exact ⟨j + 1, by omega, by go_num, HJN⟩
    case measure => simp [intOf]; omega
   | false =>
    have HJN : Hid (Lx.spanEnd Lx.digit (by_ S) i = j) := zh (by rw [HJ.out, Lx.spanEnd_end (fun h => by rw [← HGET.out, hd] at h; exact Bool.noConfusion h.2)]);clear HJ HGET hd;go_wp2
    go_returns
    exact ⟨by rw [HJN.out]; rfl, rfl⟩
  ·obtain rfl : j = S.size := by omega
   have HJN : Hid (Lx.spanEnd Lx.digit (by_ S) i = S.size) := zh (by rw [HJ.out, Lx.spanEnd_end (fun h => by rw [by_size] at h; omega)]);clear HJ;go_wp2
   go_returns
   exact ⟨by rw [HJN.out]; rfl, rfl⟩
set_option maxRecDepth 100000 in
set_option maxHeartbeats 1000000 in
theorem while_word (p i : Nat) (S : ByteArray) (line : Bool) (v : Value) (w : World) (hp : ScAt p w S i line v) (hi : i ≤ S.size) (hS : S.size ≤ 6000) : Calls Tryz.prog 88 #[.pointer (some ⟨p, 0, none⟩), .func (.func 90) #[] #[]] w fun e w' => e = .returned (.int .i64 (Lx.spanEnd Lx.wordC (by_ S) i : Int)) ∧ w = w' := by
 have c0 := blk_cell hp 0;have c1 := blk_cell hp 1;simp only [List.getElem?_toArray, List.getElem?_cons_zero, List.getElem?_cons_succ] at c0 c1;have hpl := blk_lt hp;clear hp
 go_enter Tryz.func88, Tryz.ntmps88
 go_wp2_with fail
 go_loop [5] (fun x => ∃ j : Nat, j ≤ S.size ∧ x = .int .i64 j ∧ Hid (Lx.spanEnd Lx.wordC (by_ S) i = Lx.spanEnd Lx.wordC (by_ S) j)) (fun x => S.size - (intOf x).toNat)
 case atStart => exact ⟨i, hi, rfl, zh rfl⟩
 case round =>
  obtain ⟨j, hj, rfl, HJ⟩ := hrel
  by_cases hje : j < S.size
  ·have hget : S[j] = (by_ S).getD j 0 := by simp [by_, hje, ByteArray.getElem_eq_getElem_data]
   have HGET := zh hget;clear hget;go_wp2_with fail
   rw [w32_byte];refine (pword_any S[j] _).mono ?_;rintro e w5 ⟨rfl, rfl⟩
   cases hd : Lx.wordC S[j] with
   | true =>
    have HJN : Hid (Lx.spanEnd Lx.wordC (by_ S) i = Lx.spanEnd Lx.wordC (by_ S) (j + 1)) := zh (by rw [HJ.out, Lx.spanEnd_more (by rw [by_size]; exact hje) (by rw [← HGET.out]; exact hd)]);clear HJ HGET hd;go_wp2
    go_round
    case rel => exact ⟨j + 1, by omega, by go_num, HJN⟩
    case measure => simp [intOf]; omega
   | false =>
    have HJN : Hid (Lx.spanEnd Lx.wordC (by_ S) i = j) := zh (by rw [HJ.out, Lx.spanEnd_end (fun h => by rw [← HGET.out, hd] at h; exact Bool.noConfusion h.2)]);clear HJ HGET hd;go_wp2
    go_returns
    exact ⟨by rw [HJN.out]; rfl, rfl⟩
  ·obtain rfl : j = S.size := by omega
   have HJN : Hid (Lx.spanEnd Lx.wordC (by_ S) i = S.size) := zh (by rw [HJ.out, Lx.spanEnd_end (fun h => by rw [by_size] at h; omega)]);clear HJ;go_wp2
   go_returns
   exact ⟨by rw [HJN.out]; rfl, rfl⟩
end Go.Proofs.YtjickecdkmljpaaGreatDoor
namespace Go.Proofs.YtjickecdkmljpaaGreatDoor
open Go.RowKit

def tokCells (t : Lx.Tok) : List Value := [.int .i64 t.kind, .string (str t.text), .int .i64 t.num, .int .i64 (t.pos : Int)]
theorem tok_info : (Tryz.prog.info? 95).map (fun i => (i.zero, i.size, i.bytes)) = some (some (.agg #[.int .i64 0, .string ByteArray.empty, .int .i64 0, .int .i64 0]), 4, 40) := by kernel_rfl
/-- A row of tokens of the call's own. -/
def ToksV (N : Nat) (w : World) (v : Value) (l : List Lx.Tok) : Prop := w.ownsRow N 95 4 v l.length (l.flatMap tokCells)
/-- Where the scanner stands. -/
structure ScSt (N p : Nat) (w : World) (S : ByteArray) (i : Nat) (line : Bool) (acc : List Lx.Tok) : Prop where
 at_ : ∃ v, ScAt p w S i line v ∧ ToksV N w v acc
/-- What the end of a line leaves. -/
def EndPost (N p : Nat) (S : ByteArray) (i : Nat) (line : Bool) (acc : List Lx.Tok) (w : World) (e : Ending) (w' : World) : Prop :=
 e = .returned (.tuple #[]) ∧ ScSt N p w' S i false (Lx.close acc line i) ∧ Below N w w'
theorem end_post {N p i : Nat} {S : ByteArray} {line : Bool} {acc acc' : List Lx.Tok} {w w' : World} (h : Lx.close acc line i = acc') (hs : ScSt N p w' S i false acc') (hb : Below N w w') : EndPost N p S i line acc w (.returned (.tuple #[])) w' := ⟨rfl, by rw [h]; exact hs, hb⟩

set_option maxRecDepth 100000 in
theorem end_false (N p i : Nat) (S : ByteArray) (acc : List Lx.Tok) (w : World) (h : ScSt N p w S i false acc) (hN : N ≤ p) : Calls Tryz.prog 84 #[.pointer (some ⟨p, 0, none⟩)] w (EndPost N p S i false acc w) := by
 obtain ⟨v, hp, hv⟩ := h.at_;have c2 := blk_cell hp 2;have f2 := blk_free hp 2;have hpl := blk_lt hp;simp only [List.getElem?_toArray, List.getElem?_cons_zero, List.getElem?_cons_succ] at c2;have HP := zh hp;have HV := zh hv;clear hp hv h
 go_enter Tryz.func84, Tryz.ntmps84
 go_wp2_with fail
 go_quiet (fail)
 go_wp2
 go_returns
 have hb : Below N w (w.drewN nq) := ⟨rfl, rfl, rfl, Nat.le_refl _, fun _ _ => rfl⟩;exact ⟨rfl, ⟨v, blk_set (w := w.drewN nq) HP.out 2 (.bool false), own_set (w := w.drewN nq) HV.out HP.out (by decide)⟩, hb.setCell (p := ⟨p, 2, none⟩) hN _⟩

theorem close_no {ini : List Lx.Tok} {t : Lx.Tok} {i : Nat} (h : Lx.ends t = false) : Lx.close (ini ++ [t]) true i = ini ++ [t] := by simp [Lx.close, h]
theorem close_yes {ini : List Lx.Tok} {t : Lx.Tok} {i : Nat} (h : Lx.ends t = true) : Lx.close (ini ++ [t]) true i = ini ++ [t] ++ [Lx.semi i] := by simp [Lx.close, h]
theorem tok_one (a n p : Int) (x : ByteArray) : ∀ u ∈ [Value.int .i64 a, .string x, .int .i64 n, .int .i64 p], u.oneCell' = true := by
 intro u hu;simp only [List.mem_cons, List.not_mem_nil, or_false] at hu;rcases hu with rfl | rfl | rfl | rfl <;> rfl
theorem toks_len (l : List Lx.Tok) (n : Nat) (h : l.length = n) : (l.flatMap tokCells).length = n * 4 := by
 subst h
 induction l with
 | nil => rfl
 | cons x l ih => simp only [List.flatMap_cons, List.length_append, ih, List.length_cons]; simp [tokCells]; omega
theorem toks_row {N : Nat} {w : World} {v : Value} {ini : List Lx.Tok} {t : Lx.Tok} (h : w.ownsRow N 95 4 v (ini ++ [t]).length ((ini ++ [t]).flatMap tokCells)) : w.ownsRow N 95 4 v (ini.length + 1) ((ini ++ [t]).flatMap tokCells) := by
 rwa [show (ini ++ [t]).length = ini.length + 1 by simp] at h
theorem toks_snoc {N : Nat} {w : World} {v : Value} {acc : List Lx.Tok} {t : Lx.Tok} {n : Nat} (h : w.ownsRow N 95 4 v n (acc.flatMap tokCells ++ tokCells t)) (hn : n = acc.length + 1) : ToksV N w v (acc ++ [t]) := by
 subst hn;unfold ToksV;rw [List.flatMap_append, List.length_append]
 simpa using h
theorem toks_last {N : Nat} {w : World} {g n cap : Nat} {ini : List Lx.Tok} {t : Lx.Tok} (h : ToksV N w (.slice (some ⟨g, 0, none⟩) n cap) (ini ++ [t])) : n = ini.length + 1 ∧ w.cell? ⟨g, ini.length * 4, none⟩ = some (.int .i64 t.kind) ∧ w.cell? ⟨g, ini.length * 4 + 1, none⟩ = some (.string (str t.text)) ∧ w.cell? ⟨g, ini.length * 4 + 2, none⟩ = some (.int .i64 t.num) ∧ w.cell? ⟨g, ini.length * 4 + 3, none⟩ = some (.int .i64 (t.pos : Int)) := by
 have hr : w.ownsRow N 95 4 (.slice (some ⟨g, 0, none⟩) n cap) (ini ++ [t]).length ((ini ++ [t]).flatMap tokCells) := h;have hn : n = ini.length + 1 := by
  rcases hr.2 with ⟨h0, _⟩ | ⟨g', cap', cur, hu, _⟩
  ·cases h0
  ·cases hu; simp
 have hl : (ini.flatMap tokCells).length = ini.length * 4 := by
  clear h hr hn
  induction ini with
  | nil => rfl
  | cons x l ih => simp only [List.flatMap_cons, List.length_append, ih, List.length_cons]; simp [tokCells]; omega
 subst hn;rw [show (ini ++ [t]).length = ini.length + 1 by simp] at hr;have key : ∀ j, j < 4 → w.cell? ⟨g, ini.length * 4 + j, none⟩ = (tokCells t)[j]? := by
  intro j hj;have hc := hr.cellAt (ini.length * 4 + j) (by omega);have hL : ((ini ++ [t]).flatMap tokCells)[ini.length * 4 + j]? = (tokCells t)[j]? := by
   rw [List.flatMap_append, List.getElem?_append_right (by omega), hl, Nat.add_sub_cancel_left];simp
  exact hc.trans hL
 exact ⟨rfl, key 0 (by omega), key 1 (by omega), key 2 (by omega), key 3 (by omega)⟩

theorem ends_is (t : Lx.Tok) (b : Bool) (w : World) (h : Hid (Lx.ends t = b)) : Calls Tryz.prog 144 #[.agg #[.int .i64 t.kind, .string (str t.text), .int .i64 t.num, .int .i64 (t.pos : Int)]] w fun e w' => e = .returned (.bool b) ∧ Below w.heap.size w w' := by
 have := ends_any t w;rw [h.out] at this;exact this
set_option maxRecDepth 100000 in
set_option maxHeartbeats 1000000 in
theorem end_true (N p i : Nat) (S : ByteArray) (ini : List Lx.Tok) (t : Lx.Tok) (w : World) (h : ScSt N p w S i true (ini ++ [t])) (hN : N ≤ p) (hl : ini.length ≤ 12010) : Calls Tryz.prog 84 #[.pointer (some ⟨p, 0, none⟩)] w (EndPost N p S i true (ini ++ [t]) w) := by
 obtain ⟨v, hp, hv⟩ := h.at_;obtain ⟨g, cap, hlit⟩ := own_lit hv (by simp);rw [show (ini ++ [t]).length = ini.length + 1 by simp] at hlit;subst hlit;obtain ⟨_, x0, x1, x2, x3⟩ := toks_last hv;have hgl := (World.ownsRow.lt hv g rfl).2;have hgN := (World.ownsRow.lt hv g rfl).1;have c1 := blk_cell hp 1;have c2 := blk_cell hp 2;have c3 := blk_cell hp 3;have hpl := blk_lt hp;simp only [List.getElem?_toArray, List.getElem?_cons_zero, List.getElem?_cons_succ] at c1 c2 c3;have HP := zh hp;have HV := zh hv;have wr1 : IntKind.i64.wrap ((ini.length : Int) + 1 - 1) = (ini.length : Int) := by rw [Int.add_sub_cancel]; exact IntWalk.i64_in _ (by omega)
 have wr2 : IntKind.i64.wrap (ini.length : Int) = (ini.length : Int) := IntWalk.i64_in _ (by omega);have bd1 : (0 : Int) ≤ (ini.length : Int) := by omega
 have bd2 : (ini.length : Int) < (ini.length : Int) + 1 := by omega
 obtain ⟨i0, hi, hz0, hz1, hz2⟩ := info_parts tok_info;clear hp hv h
 cases hE : Lx.ends t with
 | false =>
  have HE := zh hE;clear hE
  go_enter Tryz.func84, Tryz.ntmps84
  go_wp2_with fail
  go_region_held3 (fun w' => Below w.heap.size w w' ∧ w'.cell? ⟨p, 2, none⟩ = some (.bool true) ∧ w'.cell? ⟨p, 3, none⟩ = some (.slice (some ⟨g, 0, none⟩) (ini.length + 1) cap) ∧ w'.cell? ⟨g, ini.length * 4, none⟩ = some (.int .i64 t.kind) ∧ w'.cell? ⟨g, ini.length * 4 + 1, none⟩ = some (.string (str t.text)) ∧ w'.cell? ⟨g, ini.length * 4 + 2, none⟩ = some (.int .i64 t.num) ∧ w'.cell? ⟨g, ini.length * 4 + 3, none⟩ = some (.int .i64 (t.pos : Int))) ((refine ⟨?_, ?_, ?_, ?_, ?_, ?_, ?_⟩ <;> first | assumption | exact (Below.refl _ _).drew))
   ((go_at_call 144; refine (ends_is t false _ HE).mono ?_; rintro e w5 ⟨rfl, hb5⟩; have hb6 : Below w.heap.size w w5 := ((Below.refl w.heap.size w).drew).trans hb5; have d2 := (hb6.cell (p := ⟨p, 2, none⟩) hpl).trans c2; have d3 := (hb6.cell (p := ⟨p, 3, none⟩) hpl).trans c3; have y0 := (hb6.cell (p := ⟨g, ini.length * 4, none⟩) hgl).trans x0; have y1 := (hb6.cell (p := ⟨g, ini.length * 4 + 1, none⟩) hgl).trans x1; have y2 := (hb6.cell (p := ⟨g, ini.length * 4 + 2, none⟩) hgl).trans x2; have y3 := (hb6.cell (p := ⟨g, ini.length * 4 + 3, none⟩) hgl).trans x3))
  have HB6 := zh hb6;have m1 := zh (blk_below HP.out hb6 hpl);have d2f := (hb6.frozen (p := ⟨p, 2, none⟩) hpl).trans (blk_free HP.out 2);clear wr1 wr2 bd1 bd2 hb5 y0 y1 y2 y3 d3;go_wp2
  go_returns
  have hb : Below N w w5 := HB6.out.mono (by omega);exact end_post (close_no HE.out) ⟨_, blk_set m1.out 2 (.bool false), own_set (own_below HV.out HB6.out (fun k hk => by cases hk; exact hgl)) m1.out (by decide)⟩ (hb.setCell (p := ⟨p, 2, none⟩) hN _)
 | true =>
  have HE := zh hE;clear hE
  go_enter Tryz.func84, Tryz.ntmps84
  go_wp2_with fail
  go_region_held3 (fun w' => Below w.heap.size w w' ∧ w'.cell? ⟨p, 2, none⟩ = some (.bool true) ∧ w'.cell? ⟨p, 3, none⟩ = some (.slice (some ⟨g, 0, none⟩) (ini.length + 1) cap) ∧ w'.cell? ⟨g, ini.length * 4, none⟩ = some (.int .i64 t.kind) ∧ w'.cell? ⟨g, ini.length * 4 + 1, none⟩ = some (.string (str t.text)) ∧ w'.cell? ⟨g, ini.length * 4 + 2, none⟩ = some (.int .i64 t.num) ∧ w'.cell? ⟨g, ini.length * 4 + 3, none⟩ = some (.int .i64 (t.pos : Int))) ((refine ⟨?_, ?_, ?_, ?_, ?_, ?_, ?_⟩ <;> first | assumption | exact (Below.refl _ _).drew))
   ((go_at_call 144; refine (ends_is t true _ HE).mono ?_; rintro e w5 ⟨rfl, hb5⟩; have hb6 : Below w.heap.size w w5 := ((Below.refl w.heap.size w).drew).trans hb5; have d2 := (hb6.cell (p := ⟨p, 2, none⟩) hpl).trans c2; have d3 := (hb6.cell (p := ⟨p, 3, none⟩) hpl).trans c3; have y0 := (hb6.cell (p := ⟨g, ini.length * 4, none⟩) hgl).trans x0; have y1 := (hb6.cell (p := ⟨g, ini.length * 4 + 1, none⟩) hgl).trans x1; have y2 := (hb6.cell (p := ⟨g, ini.length * 4 + 2, none⟩) hgl).trans x2; have y3 := (hb6.cell (p := ⟨g, ini.length * 4 + 3, none⟩) hgl).trans x3))
  have HB6 := zh hb6;have m1 := zh (blk_below HP.out hb6 hpl);have d2f := (hb6.frozen (p := ⟨p, 2, none⟩) hpl).trans (blk_free HP.out 2);have d1 := (hb6.cell (p := ⟨p, 1, none⟩) hpl).trans c1;have d3f := (hb6.frozen (p := ⟨p, 3, none⟩) hpl).trans (blk_free HP.out 3);have HV5 : Hid (w5.ownsRow N 95 4 (.slice (some ⟨g, 0, none⟩) (ini.length + 1) cap) (ini.length + 1) ((ini ++ [t]).flatMap tokCells)) := zh (toks_row (own_below HV.out hb6 (fun k hk => by cases hk; exact hgl)));have hs5 := hb6.size;have hp5 : p < w5.heap.size := by omega
  have hg5 : g < w5.heap.size := by omega
  clear wr1 wr2 bd1 bd2 hb5 y0 y1 y2 y3 d2 c1 c2 c3 x0 x1 x2 x3;have hlen : ((ini ++ [t]).flatMap tokCells).length = (ini.length + 1) * 4 := toks_len _ _ (by simp);have HBA : Hid (((w5.alloc (.cells (tokCells (Lx.semi i)).toArray 95)).drew).heap[p]? = some (.cells #[.string S, .int .i64 (i : Int), .bool true, .slice (some ⟨g, 0, none⟩) (ini.length + 1) cap] 92 (0, 0))) := zh (blk_alloc m1.out _);have Hlen := zh hlen;clear hlen;go_wp2_with fail
  go_region_law (refine step_append_lies _ (by rfl) _ _ _ (by rfl) N 95 i0 _ 4 40 Tryz.underlying56 hi hz0 hz1 hz2 rfl (by omega) (.slice (some ⟨g, 0, none⟩) (ini.length + 1) cap) (ini.length + 1) ((ini ++ [t]).flatMap tokCells) (by rfl) (by exact HV5.out.alloc _) ⟨w5.heap.size, 0, none⟩ 1 1 (tokCells (Lx.semi i)) (by rfl) (by rfl) (World.news_of_block (cs := (tokCells (Lx.semi i)).toArray) (t := 95) (fr := (0, 0)) (heap_alloc_new _ _)) (tok_one _ _ _ _) (by omega) (by unfold maxLen; omega) (by omega) (by simp; omega) (w5.heap.size + 1) (by simp) ?_; intro g2 cap2 w8 hown1 hgrow hat hlt; have hb8 := blk_grown HBA.out hgrow (fun e0 => own_ne_blk HV5.out m1.out (by decide) e0.symm); have e0 := blk_cell hb8 3; have e1 := blk_free hb8 3; have e2 := blk_cell hb8 2; have e3 := blk_free hb8 2; have hl8 := blk_lt hb8; simp only [List.getElem?_toArray, List.getElem?_cons_zero, List.getElem?_cons_succ] at e0 e2; have HG := zh hgrow; have HO8 := zh hown1; have HB8 := zh hb8; clear hb8 hgrow hown1 hat)
  all_goals
   go_wp2
   go_returns
   have hb8 : Below N w w8 := Below.grown ((HB6.out.mono (by omega)).alloc (by omega) _).drew HG.out (by simp; omega) (fun k hk => by cases hk; exact hgN);have hb9 := ((hb8.setCell (p := ⟨p, 3, none⟩) hN (.slice (some ⟨g2, 0, none⟩) (ini.length + 1 + 1) cap2)).setCell (p := ⟨p, 2, none⟩) hN (.bool false));have r1 := blk_set HB8.out 3 (.slice (some ⟨g2, 0, none⟩) (ini.length + 1 + 1) cap2);have ho : ToksV N w8 (.slice (some ⟨g2, 0, none⟩) (ini.length + 1 + 1) cap2) (ini ++ [t] ++ [Lx.semi i]) := toks_snoc HO8.out (by simp);exact end_post (close_yes HE.out) ⟨_, blk_set r1 2 (.bool false), own_set (own_set ho HB8.out (by decide)) r1 (by decide)⟩ hb9
end Go.Proofs.YtjickecdkmljpaaGreatDoor
