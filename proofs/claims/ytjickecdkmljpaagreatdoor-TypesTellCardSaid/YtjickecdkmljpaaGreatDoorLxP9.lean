/-
  PROVED HERE: the program's Scan: what its deferred function does, and what it makes of a text. No condition beyond the lemmas' own premises.
-/
import Derived.Test.YtjickecdkmljpaaGreatDoorPsTk
import Derived.Test.YtjickecdkmljpaaGreatDoorLxP8
import Derived.Recover
import Derived.RegionTactic
import Derived.BigRegion
namespace Go.Proofs.YtjickecdkmljpaaGreatDoor
open Go.RowKit

theorem lay_mem {cb fb : Nat} {v0 f0 f1 : Value} {w : World} (hcb : w.heap[cb]? = some (.cells #[v0] 56 (0, 0))) (hfb : w.heap[fb]? = some (.cells #[f0, f1] 25 (0, 0))) (u c a : Value) :
  (((w.setCell ⟨cb, 0, none⟩ u).setCell ⟨fb, 0, none⟩ c).setCell ⟨fb, 1, none⟩ a).heap[cb]? = some (.cells #[u] 56 (0, 0)) ∧
  (((w.setCell ⟨cb, 0, none⟩ u).setCell ⟨fb, 0, none⟩ c).setCell ⟨fb, 1, none⟩ a).heap[fb]? = some (.cells #[c, a] 25 (0, 0)) ∧
  (∀ B, B ≤ cb → B ≤ fb → Below B w (((w.setCell ⟨cb, 0, none⟩ u).setCell ⟨fb, 0, none⟩ c).setCell ⟨fb, 1, none⟩ a)) ∧
  ∀ N n x xs, w.ownsRow N 95 4 x n xs → (((w.setCell ⟨cb, 0, none⟩ u).setCell ⟨fb, 0, none⟩ c).setCell ⟨fb, 1, none⟩ a).ownsRow N 95 4 x n xs := by
 have hne : cb ≠ fb := by
  rintro rfl;rw [hcb] at hfb
  cases hfb
 have a1 := blk_set hcb 0 u;have a2 := blk_set_other (p := fb) a1 hne 0 c;have a3 := blk_set_other (p := fb) a2 hne 1 a;have b1 := blk_set_other (p := cb) hfb hne.symm 0 u;have b2 := blk_set b1 0 c;have b3 := blk_set b2 1 a;exact ⟨a3, b3, fun B h1 h2 => (((Below.refl B w).setCell (p := ⟨cb, 0, none⟩) h1 _).setCell (p := ⟨fb, 0, none⟩) h2 _).setCell (p := ⟨fb, 1, none⟩) h2 _, fun N n x xs h => own_set (own_set (own_set h hcb (by decide)) b1 (by decide)) b2 (by decide)⟩
theorem catch_mem {cb fb : Nat} {v0 f0 f1 : Value} {w : World} (hcb : w.heap[cb]? = some (.cells #[v0] 56 (0, 0))) (hfb : w.heap[fb]? = some (.cells #[f0, f1] 25 (0, 0))) (c a : Value) :
  (((w.setCell ⟨cb, 0, none⟩ (.slice none 0 0)).setCell ⟨fb, 0, none⟩ c).setCell ⟨fb, 1, none⟩ a).heap[cb]? = some (.cells #[.slice none 0 0] 56 (0, 0)) ∧
  (((w.setCell ⟨cb, 0, none⟩ (.slice none 0 0)).setCell ⟨fb, 0, none⟩ c).setCell ⟨fb, 1, none⟩ a).heap[fb]? = some (.cells #[c, a] 25 (0, 0)) :=
 ⟨(lay_mem hcb hfb _ c a).1, (lay_mem hcb hfb _ c a).2.1⟩

set_option maxRecDepth 100000 in
set_option maxHeartbeats 1000000 in
theorem pcatch (cb fb : Nat) (v0 f0 f1 : Value) (c a : Int) (w : World) (hcb : w.heap[cb]? = some (.cells #[v0] 56 (0, 0))) (hfb : w.heap[fb]? = some (.cells #[f0, f1] 25 (0, 0))) :
  CallsD Tryz.prog 41 #[.pointer (some ⟨cb, 0, none⟩), .pointer (some ⟨fb, 0, none⟩)] (.panicking [{ v := .iface 89 (.agg #[.int .i64 c, .int .i64 a]), recovered := false }]) w fun e u' w' =>
   e = .returned (.tuple #[]) ∧ u' = .panicking [{ v := .iface 89 (.agg #[.int .i64 c, .int .i64 a]), recovered := true }] ∧ w'.heap[cb]? = some (.cells #[.slice none 0 0] 56 (0, 0)) ∧ w'.heap[fb]? = some (.cells #[.int .i64 c, .int .i64 a] 25 (0, 0)) ∧ ∀ B, B ≤ cb → B ≤ fb → Below B w w' := by
 have c0 := blk_cell hcb 0;have g0 := blk_cell hfb 0;have g1 := blk_cell hfb 1;have k0 := blk_free hcb 0;have h0 := blk_free hfb 0;have h1 := blk_free hfb 1;have hl := blk_lt hcb;have hl2 := blk_lt hfb;have hne : cb ≠ fb := by
  rintro rfl;rw [hcb] at hfb
  cases hfb
 simp only [List.getElem?_toArray, List.getElem?_cons_zero, List.getElem?_cons_succ] at c0 g0 g1;have Hcb := zh hcb;have Hfb := zh hfb;clear hcb hfb;refine callsD_of_wpS Tryz.func41 rfl fun c₀ cs hu => ?_
 apply wpS_seq
 apply wpS_region
 simp [wpOpsS, go_sem, recoverD, hu, Tryz.ntmps41, Exit.thenS];refine wpS_of_wp ?_;clear hu;have hta : ∀ w, (Instr.typeAssert (.iface 89 (.agg #[.int .i64 c, .int .i64 a])) 20 89 true).run Tryz.prog w = .ok (.tuple #[.agg #[.int .i64 c, .int .i64 a], .bool true]) w := fun w => by kernel_rfl
 have e : (#[Value.pointer (some ⟨cb, 0, none⟩), Value.pointer (some ⟨fb, 0, none⟩)] ++ (Array.replicate 11 undef).setIfInBounds 3 (Value.iface 89 (Value.agg #[Value.int IntKind.i64 c, Value.int IntKind.i64 a])) : Array Value) = #[.pointer (some ⟨cb, 0, none⟩), .pointer (some ⟨fb, 0, none⟩), undef, undef, undef, .iface 89 (.agg #[.int .i64 c, .int .i64 a]), undef, undef, undef, undef, undef, undef, undef] := rfl;rw [e];clear e;go_wp2
 go_region
 all_goals
  go_wp2
  obtain ⟨m1, m2⟩ := catch_mem Hcb.out Hfb.out (.int .i64 c) (.int .i64 a);refine ⟨rfl, _, rfl, .tuple #[], by simp [results, Tryz.results41, go_sem], rfl, rfl, blk_alloc m1 _, blk_alloc m2 _, fun B h1 h2 => ?_⟩;exact (((((Below.refl B w).setCell (p := ⟨cb, 0, none⟩) h1 _).setCell (p := ⟨fb, 0, none⟩) h2 _).setCell (p := ⟨fb, 1, none⟩) h2 _).alloc (by simp; omega) _).drew
set_option maxRecDepth 100000 in
set_option maxHeartbeats 1000000 in
theorem pcatch_idle (cb fb : Nat) (w : World) :
  CallsD Tryz.prog 41 #[.pointer (some ⟨cb, 0, none⟩), .pointer (some ⟨fb, 0, none⟩)] .returning w fun e u' w' => e = .returned (.tuple #[]) ∧ u' = .returning ∧ w' = w := by
 refine callsD_of_wpS Tryz.func41 rfl fun c₀ cs hu => ?_
 apply wpS_seq
 apply wpS_region
 simp [wpOpsS, go_sem, recoverD, hu, Tryz.ntmps41, Exit.thenS];refine wpS_of_wp ?_;have e : (#[Value.pointer (some ⟨cb, 0, none⟩), Value.pointer (some ⟨fb, 0, none⟩)] ++ (Array.replicate 11 undef).setIfInBounds 3 Value.nilIface : Array Value) = #[.pointer (some ⟨cb, 0, none⟩), .pointer (some ⟨fb, 0, none⟩), undef, undef, undef, .nilIface, undef, undef, undef, undef, undef, undef, undef] := rfl;rw [e];clear e;go_wp2
 refine ⟨rfl, .returning, ?_, .tuple #[], by simp [results, Tryz.results41, go_sem], rfl, rfl, rfl⟩
 cases c₀
 simp_all

/-- What a text's tokens, or its first fault, are told as. -/
def PScanPost (S : ByteArray) (w : World) (e : Ending) (w' : World) : Prop :=
 Below w.heap.size w w' ∧ match Lx.scan (by_ S) with
  | .ok l => ∃ v, e = .returned (.tuple #[v, .agg #[.int .i64 0, .int .i64 0]]) ∧ ToksV w.heap.size w' v l ∧ l.length ≤ 12001
  | .error (c, p) => e = .returned (.tuple #[.slice none 0 0, .agg #[.int .i64 c, .int .i64 (p : Int)]])
theorem pscan_bad {S : ByteArray} {w w' : World} {c : Int} {p : Nat} (h : Lx.scan (by_ S) = .error (c, p)) (hb : Below w.heap.size w w') : PScanPost S w (.returned (.tuple #[.slice none 0 0, .agg #[.int .i64 c, .int .i64 (p : Int)]])) w' := by
 refine ⟨hb, ?_⟩;rw [h]
theorem pscan_ok {S : ByteArray} {w w' : World} {l : List Lx.Tok} {v : Value} (h : Lx.scan (by_ S) = .ok l) (hb : Below w.heap.size w w') (hv : ToksV w.heap.size w' v l) (hl : l.length ≤ 12001) : PScanPost S w (.returned (.tuple #[v, .agg #[.int .i64 0, .int .i64 0]])) w' := by
 refine ⟨hb, ?_⟩;rw [h];exact ⟨v, rfl, hv, hl⟩

/-- The frame's one deferred call. -/
def scanDoor (n : Nat) : List Deferred := [{ target := .fn (.func 41) #[.pointer (some ⟨n, 0, none⟩), .pointer (some ⟨n + 1, 0, none⟩)], args := #[] }]
set_option maxRecDepth 100000 in
theorem door_err {w wx : World} {S : ByteArray} {c : Int} {a : Nat} {v0 f0 f1 : Value} {T : Array Value} (q1 : wx.heap[w.heap.size]? = some (.cells #[v0] 56 (0, 0))) (q2 : wx.heap[w.heap.size + 1]? = some (.cells #[f0, f1] 25 (0, 0))) (q3 : Below w.heap.size w wx) (hc : Lx.scan (by_ S) = .error (c, a)) (h2 : T[2]? = some (.pointer (some ⟨w.heap.size, 0, none⟩))) (h3 : T[3]? = some (.pointer (some ⟨w.heap.size + 1, 0, none⟩))) :
  bodyPostD Tryz.prog Tryz.f24 (PScanPost S w) (Exit.panic [{ v := .iface 89 (.agg #[.int .i64 c, .int .i64 (a : Int)]), recovered := false }]) { tmps := T, defers := scanDoor w.heap.size } wx := by
 unfold scanDoor;refine leaves_cons (f := 41) (args := #[.pointer (some ⟨w.heap.size, 0, none⟩), .pointer (some ⟨w.heap.size + 1, 0, none⟩)]) (by simp) (by simp [go_sem]) ?_;refine (pcatch _ _ _ _ _ c a _ q1 q2).mono ?_;rintro e u' w3 ⟨rfl, rfl, m1, m2, m3⟩;have k0 := blk_cell m1 0;have k1 := blk_cell m2 0;have k2 := blk_cell m2 1;have hl1 := blk_lt m1;have hl2 := blk_lt m2;simp only [List.getElem?_toArray, List.getElem?_cons_zero, List.getElem?_cons_succ] at k0 k1 k2;have HF := zh (pscan_bad hc (q3.trans (m3 w.heap.size (by omega) (by omega))));clear m1 m2 m3 q1 q2 q3;simp [Leaves, settle, results, Tryz.results24, go_sem, k0, k1, k2, h2, h3];exact HF.out
set_option maxRecDepth 100000 in
theorem door_ok {w wx : World} {S : ByteArray} {v f0 f1 : Value} {T : Array Value} {e0 : Exit} (he : e0 = .ret) (hcb : wx.heap[w.heap.size]? = some (.cells #[v] 56 (0, 0))) (hfb : wx.heap[w.heap.size + 1]? = some (.cells #[f0, f1] 25 (0, 0))) (hp : PScanPost S w (.returned (.tuple #[v, .agg #[f0, f1]])) wx)
  (h2 : T[2]? = some (.pointer (some ⟨w.heap.size, 0, none⟩))) (h3 : T[3]? = some (.pointer (some ⟨w.heap.size + 1, 0, none⟩))) :
  bodyPostD Tryz.prog Tryz.f24 (PScanPost S w) e0 { tmps := T, defers := scanDoor w.heap.size } wx := by
 subst he;unfold scanDoor;refine leaves_cons (f := 41) (args := #[.pointer (some ⟨w.heap.size, 0, none⟩), .pointer (some ⟨w.heap.size + 1, 0, none⟩)]) (by simp) (by simp [go_sem]) ?_;refine (pcatch_idle _ _ _).mono ?_;rintro e u' w3 ⟨rfl, rfl, rfl⟩;have k0 := blk_cell hcb 0;have k1 := blk_cell hfb 0;have k2 := blk_cell hfb 1;have hl1 := blk_lt hcb;have hl2 := blk_lt hfb;simp only [List.getElem?_toArray, List.getElem?_cons_zero, List.getElem?_cons_succ] at k0 k1 k2;have HF := zh hp;clear hcb hfb hp;simp [Leaves, settle, results, Tryz.results24, go_sem, k0, k1, k2, h2, h3];exact HF.out

set_option maxRecDepth 100000 in
set_option maxHeartbeats 1000000 in
theorem pscan_long (w : World) (S : ByteArray) (h : 6000 < S.size) (hm : S.size ≤ maxLen) : Calls Tryz.prog 24 #[.string S] w (PScanPost S w) := by
 unfold maxLen at hm;have HF : Hid (Lx.scan (by_ S) = .error (1, 0)) := zh (by unfold Lx.scan; rw [if_pos (by rw [by_size]; exact h)])
 go_enter_defers Tryz.func24, Tryz.ntmps24
 go_wp2
 have HE : Hid (PScanPost S w (.returned (.tuple #[.slice none 0 0, .agg #[.int .i64 1, .int .i64 ((0 : Nat) : Int)]])) ((w.alloc (.cells #[.slice none 0 0] 56)).alloc (.cells #[.int .i64 1, .int .i64 0] 25))) := zh (pscan_bad HF.out (((Below.refl _ _).alloc (Nat.le_refl _) _).alloc (by simp) _));simp [bodyPostD, Leaves, results, Tryz.results24, go_sem];exact HE.out
theorem blk_new_at {w : World} {x : Obj} {n : Nat} (h : w.heap.size = n) : (w.alloc x).heap[n]? = some x := by
 subst h;exact blk_new _ _
theorem owns_base {w : World} {N N' e size n : Nat} {v : Value} {xs : List Value} (h : w.ownsRow N e size v n xs) (hN : N' ≤ N) : w.ownsRow N' e size v n xs := by
 refine ⟨h.1, ?_⟩;rcases h.2 with h1 | ⟨g, cap, cur, hv, hb, h2⟩
 ·exact .inl h1
 ·exact .inr ⟨g, cap, cur, hv, Nat.le_trans hN hb, h2⟩
set_option maxRecDepth 100000 in
set_option maxHeartbeats 1000000 in
theorem pscan_short (B : Nat) (w : World) (S : ByteArray) (hT : Tabs B w) (hB : B ≤ w.heap.size) (hS : S.size ≤ 6000) : Calls Tryz.prog 24 #[.string S] w (PScanPost S w) := by
 have hmf : ∀ (fn : Fn) (first cap : Array Value) (w : World), (Instr.makeFunc fn first cap).run Tryz.prog w = .ok (.func fn first cap) w := fun _ _ _ _ => rfl
 have HT := zh hT;clear hT
 go_enter_defers Tryz.func24, Tryz.ntmps24
 go_wp2_with fail
 obtain ⟨w1, hw1⟩ : ∃ w1 : World, w1 = (((w.alloc (.cells #[.slice none 0 0] 56)).alloc (.cells #[.int .i64 0, .int .i64 0] 25)).alloc (.cells #[.string S, .int .i64 0, .bool false, .slice none 0 0] 92)) := ⟨_, rfl⟩;have HS1 : Hid (ScSt (w.heap.size + 1 + 1) (w.heap.size + 1 + 1) w1 S 0 false []) := zh (by
  rw [hw1];exact ⟨.slice none 0 0, blk_new_at (by simp), World.ownsRow_nil _ _ _ _⟩)
 have HC1 : Hid (w1.heap[w.heap.size]? = some (.cells #[.slice none 0 0] 56 (0, 0))) := zh (by rw [hw1]; exact blk_alloc (blk_alloc (blk_new _ _) _) _);have HF1 : Hid (w1.heap[w.heap.size + 1]? = some (.cells #[.int .i64 0, .int .i64 0] 25 (0, 0))) := zh (by
  rw [hw1];exact blk_alloc (blk_new_at (by simp)) _)
 have HB1 : Hid (Below w.heap.size w w1) := zh (by rw [hw1]; exact ((((Below.refl _ _).alloc (Nat.le_refl _) _).alloc (by simp) _).alloc (by simp; omega) _));have HG1 : Hid (Lx.scan (by_ S) = Lx.go (by_ S) 0 false []) := zh (by unfold Lx.scan; rw [if_neg (by rw [by_size]; omega)]);rw [← hw1];clear hw1
 go_loopg [14] (S.size + 1) (fun m _ wr => ∃ (i : Nat) (line : Bool) (acc : List Lx.Tok), i ≤ S.size ∧ acc.length ≤ i ∧ S.size + 1 - i ≤ m ∧ Hid (line = true → acc ≠ []) ∧ Hid (Lx.scan (by_ S) = Lx.go (by_ S) i line acc) ∧ Hid (ScSt (w.heap.size + 1 + 1) (w.heap.size + 1 + 1) wr S i line acc) ∧ Hid (Below (w.heap.size + 1 + 1) w1 wr))
 case atStart => exact ⟨0, false, [], by omega, by simp, by omega, zh (fun h => by cases h), HG1, HS1, zh (Below.refl _ _)⟩
 case round =>
  clear HS1 HG1;obtain ⟨i, line, acc, hi, hacc, hm, HN, HG, HS, HB⟩ := hrel;have hsz := HS.out.lt;go_wp2_with fail
  refine (next_any B (w.heap.size + 1 + 1) (w.heap.size + 1 + 1) i S line acc wr HS.out (Nat.le_refl _) HN.out (by omega) hi hS (HT.out.below (HB1.out.trans (HB.out.mono (by omega))) hB) (by omega)).mono ?_;rintro e w5 ⟨hb5, ⟨c, j, hgo, rfl⟩ | ⟨l, i', hgo, hl, rfl, hs5⟩ | ⟨i', line', acc', hgo, h1, h2, hl, hn, rfl, hs5⟩⟩
  ·have hbb := HB.out.trans hb5;have q1 := zh (blk_below HC1.out hbb (by omega))
   have q2 := zh (blk_below HF1.out hbb (by omega));have q3 := zh (HB1.out.trans (hbb.mono (by omega)));have q4 := zh (HG.out.trans hgo);clear hb5 hgo hbb;unfold thrownF;go_wp2
   exact door_err q1.out q2.out q3.out q4.out rfl rfl
  ·have hbb := HB.out.trans hb5;have HC5 := zh (blk_below HC1.out hbb (by omega))
   have HF5 := zh (blk_below HF1.out hbb (by omega));have HB5 := zh (HB1.out.trans (hbb.mono (by omega)));have q4 := zh (HG.out.trans hgo);obtain ⟨v, hp5, hv5⟩ := hs5.at_;obtain ⟨va, vc, rfl⟩ := own_slice hv5 rfl;have d3 := blk_cell hp5 3;have k0 := blk_cell HC5.out 0;have k0f := blk_free HC5.out 0;have f0 := blk_cell HF5.out 0;have f1 := blk_cell HF5.out 1;have f0f := blk_free HF5.out 0;have f1f := blk_free HF5.out 1;have hl5 := blk_lt hp5;simp only [List.getElem?_toArray, List.getElem?_cons_zero, List.getElem?_cons_succ] at d3 k0 f0 f1;have HV5 := zh hv5;clear hb5 hgo hbb hs5 hp5 hv5;go_wp2
   obtain ⟨m1, m2, m3, m4⟩ := lay_mem HC5.out HF5.out (.slice va l.length vc) (.int .i64 0) (.int .i64 0);exact door_ok rfl m1 m2 (pscan_ok q4.out (HB5.out.trans (m3 w.heap.size (by omega) (by omega))) (owns_base (m4 _ _ _ _ HV5.out) (by omega)) (by omega)) rfl rfl
  ·have HB5 := zh (HB.out.trans hb5);have HS5 := zh hs5
   have HG5 := zh (HG.out.trans hgo);have HN5 := zh hn;clear hb5 hs5 hgo hn;go_wp2
   go_roundg (S.size + 1 - i')
   case measure => omega
   case rel => exact ⟨i', line', acc', h2, by omega, Nat.le_refl _, HN5, HG5, HS5, HB5⟩
/-- THE PROGRAM'S Scan. -/
theorem pscan_any (B : Nat) (w : World) (S : ByteArray) (hT : Tabs B w) (hB : B ≤ w.heap.size) (hm : S.size ≤ maxLen) : Calls Tryz.prog 24 #[.string S] w (PScanPost S w) := by
 by_cases h : 6000 < S.size
 ·exact pscan_long w S h hm
 ·exact pscan_short B w S hT hB (by omega)
end Go.Proofs.YtjickecdkmljpaaGreatDoor
