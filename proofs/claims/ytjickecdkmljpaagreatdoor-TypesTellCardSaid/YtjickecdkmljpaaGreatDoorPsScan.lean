/-
  PROVED HERE: the law SyntaxParses walked: it returns true, if the two parsers read what the plain readers read, and the reference's Scan answers as the program's. No condition beyond the lemmas' own premises.
-/
import Derived.Test.YtjickecdkmljpaaGreatDoorPsTk
import Derived.Test.YtjickecdkmljpaaGreatDoorPsParse
import Derived.Test.YtjickecdkmljpaaGreatDoorRsParse
import Derived.Test.YtjickecdkmljpaaGreatDoorPsSame
namespace Go.Proofs.YtjickecdkmljpaaGreatDoor
open Go.RowKit

theorem NodesV.base {N N' : Nat} {w : World} {nv : Value} {D : List (Ps.Nd × Value)} (h : NodesV N w nv D) (hN : N' ≤ N) : NodesV N' w nv D := ⟨owns_base h.row hN, fun x hx => owns_base (h.kids x hx) hN⟩
theorem NodesV.none (N : Nat) (w : World) : NodesV N w (.slice none 0 0) [] := ⟨World.ownsRow_nil _ _ _ _, fun x hx => by cases hx⟩
/-- What a law leaves. -/
def LawDone (w : World) (e : Ending) (w' : World) : Prop := e = .returned (.bool true) ∧ Below w.heap.size w w'

set_option maxRecDepth 100000 in
set_option maxHeartbeats 1000000 in
theorem parses_walk (hR : Hid (∀ (B : Nat) (w : World) (S : ByteArray), Tabs B w → B ≤ w.heap.size → Calls Tryz.prog 28 #[.string S] w (PScanPost S w))) (HP : Hid (∀ X S, POk X S 26 unitV (programP X Ps.fuel))) (HQ : Hid (∀ X S, R.POk X S 29 unitV (R.programP X (Ps.fuel + 4))))
  (w : World) (S : ByteArray) (hT : Tabs w.heap.size w) (hm : S.size ≤ maxLen) : Calls Tryz.prog 3 #[.string S] w (LawDone w) := by
 have HT := zh hT;clear hT
 go_enter Tryz.func3, Tryz.ntmps3
 go_wp2_with fail
 refine (sparse_any HP w.heap.size w S HT.out (Nat.le_refl _) hm).mono ?_;rintro e w1 ⟨hb1, hs1⟩;have HB1 := zh hb1;have hz1 := hb1.size;clear hb1;obtain ⟨v, c, p, D, rfl, hD, hc⟩ : ∃ (v : Value) (c : Int) (p : Nat) (D : List (Ps.Nd × Value)), e = .returned (.tuple #[v, .agg #[.int .i64 c, .int .i64 (p : Int)]]) ∧ NodesV w.heap.size w1 v D ∧ ((parseR S = .error (c, p) ∧ D = []) ∨ (parseR S = .ok (D.map (·.1)) ∧ c = 0 ∧ p = 0)) := by
  cases hsc : parseR S with
  | error x =>
   obtain ⟨c, p⟩ := x;rw [hsc] at hs1;exact ⟨_, c, p, [], hs1, NodesV.none _ _, .inl ⟨rfl, rfl⟩⟩
  | ok l =>
   rw [hsc] at hs1;obtain ⟨v, D, h1, h2, h3, _⟩ := hs1;subst h3;exact ⟨v, 0, 0, D, h1, h2, .inr ⟨rfl, rfl, rfl⟩⟩
 have HD := zh hD;have HC := zh hc;clear hD hc hs1;go_wp2_with fail
 refine (R.rparse_any hR HQ w.heap.size _ S (HT.out.below (HB1.out.trans ((Below.refl _ _).alloc hz1 _)) (Nat.le_refl _)) (by simp; omega)).mono ?_;rintro e w2 ⟨hb2, hs2⟩;obtain ⟨u, E, rfl, hE, hEq⟩ : ∃ (u : Value) (E : List (Ps.Nd × Value)), e = .returned (.tuple #[u, .agg #[.int .i64 c, .int .i64 (p : Int)]]) ∧ NodesV w.heap.size w2 u E ∧ D.map (·.1) = E.map (·.1) := by
  rcases HC.out with ⟨h1, h2⟩ | ⟨h1, h2, h3⟩
  ·rw [h1] at hs2;exact ⟨_, [], hs2, NodesV.none _ _, by rw [h2]⟩
  ·rw [h1] at hs2;obtain ⟨u, E, h4, h5, h6, _⟩ := hs2
   rw [h2, h3];exact ⟨u, E, h4, h5.base (by simp; omega), h6⟩
 have hz2 := hb2.size;have HB2 := zh hb2;have F1 := blk_below (blk_new w1 (.cells #[.int .i64 c, .int .i64 (p : Int)] 25)) hb2 (by simp);rw [World.size_alloc] at hz2;have HD2 : Hid (NodesV w.heap.size (w2.alloc (.cells #[.int .i64 c, .int .i64 (p : Int)] 25)) v D) := zh (((HD.out.further ((Below.refl _ _).alloc (Nat.le_refl _) _)).further hb2).further ((Below.refl _ _).alloc (Nat.le_refl _) _));have HE2 : Hid (NodesV w.heap.size (w2.alloc (.cells #[.int .i64 c, .int .i64 (p : Int)] 25)) u E) := zh (hE.further ((Below.refl _ _).alloc (Nat.le_refl _) _));have HEQ := zh hEq;have HF1 := zh (blk_alloc F1 (.cells #[.int .i64 c, .int .i64 (p : Int)] 25));have HF2 := zh (blk_new w2 (.cells #[.int .i64 c, .int .i64 (p : Int)] 25));have HB3 : Hid (Below w.heap.size w (w2.alloc (.cells #[.int .i64 c, .int .i64 (p : Int)] 25))) := zh ((HB1.out.trans (((Below.refl _ _).alloc hz1 _).trans (hb2.mono (by simp; omega)))).alloc (by omega) _)
 clear hb2 hs2 hE hEq F1 HD HC;go_wp2_with fail
 refine (same_any w.heap.size _ _ _ D E HD2.out HE2.out HEQ.out).mono ?_;rintro e w3 ⟨rfl, hb3⟩;have F1 := blk_below HF1.out hb3 (blk_lt HF1.out);have F2 := blk_below HF2.out hb3 (blk_lt HF2.out);have q0 := blk_cell F1 0;have q1 := blk_cell F1 1;have r0 := blk_cell F2 0;have r1 := blk_cell F2 1;simp only [List.getElem?_toArray, List.getElem?_cons_zero, List.getElem?_cons_succ] at q0 q1 r0 r1;have hl1 := blk_lt F1;have hl2 := blk_lt F2;have HB4 : Hid (Below w.heap.size w w3) := zh (HB3.out.trans (hb3.mono (by simp; omega)));clear F1 F2 hb3;go_wp2
 go_returns
 exact ⟨rfl, HB4.out⟩
end Go.Proofs.YtjickecdkmljpaaGreatDoor
