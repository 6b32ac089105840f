/-
  PROVED HERE: the program's Parse: what its deferred function does, and what it makes of a text. No condition beyond the lemmas' own premises.
-/
import Derived.Test.YtjickecdkmljpaaGreatDoorPsTk
import Derived.Test.YtjickecdkmljpaaGreatDoorPsP25
import Derived.Test.YtjickecdkmljpaaGreatDoorPsA
import Derived.Test.YtjickecdkmljpaaGreatDoorLxP9
import Derived.Recover
import Derived.RegionTactic
import Derived.BigRegion
namespace Go.Proofs.YtjickecdkmljpaaGreatDoor
open Go.RowKit

/-- What a text is told as: its nodes, or the first fault and its place. -/
def parseR (S : ByteArray) : Except (Int × Nat) (List Ps.Nd) :=
 match Lx.scan (by_ S) with
 | .error x => .error x
 | .ok l => match Ps.parse ⟨l, S.size⟩ Ps.fuel with
  | .out => .error (0, 0)
  | .bad c p => .error (c, p)
  | .ok _ s => .ok s.nodes
def ParsePost (S : ByteArray) (w : World) (e : Ending) (w' : World) : Prop :=
 Below w.heap.size w w' ∧ match parseR S with
  | .ok l => ∃ v D, e = .returned (.tuple #[v, .agg #[.int .i64 0, .int .i64 0]]) ∧ NodesV w.heap.size w' v D ∧ l = D.map (·.1) ∧ l.length ≤ 1200
  | .error (c, p) => e = .returned (.tuple #[.slice none 0 0, .agg #[.int .i64 c, .int .i64 (p : Int)]])
theorem parse_bad {S : ByteArray} {w w' : World} {c : Int} {p : Nat} (h : parseR S = .error (c, p)) (hb : Below w.heap.size w w') : ParsePost S w (.returned (.tuple #[.slice none 0 0, .agg #[.int .i64 c, .int .i64 (p : Int)]])) w' := by
 refine ⟨hb, ?_⟩;rw [h]
theorem parse_ok {S : ByteArray} {w w' : World} {D : List (Ps.Nd × Value)} {v : Value} (h : parseR S = .ok (D.map (·.1))) (hb : Below w.heap.size w w') (hv : NodesV w.heap.size w' v D) (hl : D.length ≤ 1200) : ParsePost S w (.returned (.tuple #[v, .agg #[.int .i64 0, .int .i64 0]])) w' := by
 refine ⟨hb, ?_⟩;rw [h];exact ⟨v, D, rfl, hv, rfl, by rw [List.length_map]; exact hl⟩
theorem go_code (s : List UInt8) (k : Nat) : ∀ (i : Nat) (line : Bool) (acc : List Lx.Tok) (c : Int) (p : Nat), s.length - i ≤ k → Lx.go s i line acc = .error (c, p) → c ≠ 0 := by
 induction k with
 | zero =>
  intro i line acc c p hk hg;rw [Lx.go_end (by omega)] at hg
  cases hg
 | succ k ih =>
  intro i line acc c p hk hg
  by_cases hi : i < s.length
  ·by_cases h10 : s.getD i 0 = 10
   ·rw [Lx.go_feed hi h10] at hg;exact ih _ _ _ _ _ (by omega) hg
   ·cases hs : Lx.stepAt s i with
    | bad c2 j =>
     rw [Lx.go_bad hi h10 hs] at hg
     cases hg
     unfold Lx.stepAt at hs
     split at hs
     ·cases hs
     ·split at hs
      ·split at hs
       ·cases hs; decide
       ·cases hs
      ·split at hs
       ·cases hs
       ·split at hs
        ·split at hs
         ·cases hs; decide
         ·cases hs
        ·split at hs
         ·cases hs; decide
         ·cases hs
    | skip j2 =>
     rw [Lx.go, if_pos hi, if_neg h10, hs] at hg;exact ih _ _ _ _ _ (by omega) hg
    | tok t j2 =>
     rw [Lx.go, if_pos hi, if_neg h10, hs] at hg;exact ih _ _ _ _ _ (by omega) hg
  ·rw [Lx.go_end hi] at hg
   cases hg
theorem scan_code {s : List UInt8} {c : Int} {p : Nat} (h : Lx.scan s = .error (c, p)) : c ≠ 0 := by
 unfold Lx.scan at h
 split at h
 ·cases h; decide
 ·exact go_code s s.length 0 false [] c p (by omega) h
theorem scan_small {s : List UInt8} {l : List Lx.Tok} (h : Lx.scan s = .ok l) : s.length ≤ 6000 := by
 unfold Lx.scan at h
 split at h
 ·cases h
 ·omega
theorem decls_end {X : Ps.Src} {n : Nat} {acc v : List Nat} {s s' : Ps.St} (h : Ps.run X n (.decls acc) s = .ok v s') : X.toks.length ≤ s'.i := by
 induction n generalizing acc s with
 | zero => cases h
 | succ n ih =>
  by_cases hl : s.i < X.toks.length
  ·have h2 : ((Ps.declF X (Ps.run X n) s).bind fun k s1 => if s1.i < X.toks.length then (Ps.take X Ps.k_semi s1).bind fun _ s2 => Ps.run X n (.decls (acc ++ k)) s2 else Ps.run X n (.decls (acc ++ k)) s1) = .ok v s' := (if_pos hl).symm.trans h
   cases h3 : Ps.declF X (Ps.run X n) s with
   | out => rw [h3] at h2; cases h2
   | bad c q => rw [h3] at h2; cases h2
   | ok v1 s1 =>
    rw [h3, Ps.bind_ok] at h2
    split at h2
    ·cases h4 : Ps.take X Ps.k_semi s1 with
     | out => rw [h4] at h2; cases h2
     | bad c q => rw [h4] at h2; cases h2
     | ok v2 s2 => rw [h4, Ps.bind_ok] at h2; exact ih h2
    ·exact ih h2
  ·have h2 : Ps.Res.ok acc s = .ok v s' := (if_neg hl).symm.trans h
   cases h2
   omega
theorem program_end {X : Ps.Src} {n : Nat} {v : List Nat} {s' : Ps.St} (h : Ps.program X n = .ok v s') : X.toks.length ≤ s'.i := by
 unfold Ps.program at h
 cases h1 : Ps.run X n (.decls []) Ps.start with
 | out => rw [h1] at h; cases h
 | bad c q => rw [h1] at h; cases h
 | ok v1 s1 =>
  rw [h1, Ps.bind_ok] at h;unfold Ps.put at h
  split at h
  ·cases h
   exact (show X.toks.length ≤ s1.i from decls_end h1)
  ·cases h
theorem parseR_bad {S : ByteArray} {l : List Lx.Tok} {c : Int} {q : Nat} (h : Lx.scan (by_ S) = .ok l) (hp : Ps.program ⟨l, S.size⟩ Ps.fuel = .bad c q) : parseR S = .error (c, q) := by
 unfold parseR;rw [h];dsimp only;unfold Ps.parse;rw [hp]
 rfl
theorem parseR_full {S : ByteArray} {l : List Lx.Tok} {v : List Nat} {s : Ps.St} (h : Lx.scan (by_ S) = .ok l) (hp : Ps.program ⟨l, S.size⟩ Ps.fuel = .ok v s) (hf : 1200 < s.nodes.length) : parseR S = .error (5, S.size) := by
 unfold parseR;rw [h];dsimp only;unfold Ps.parse;rw [hp, Ps.bind_ok, if_pos hf]
theorem parseR_ok {S : ByteArray} {l : List Lx.Tok} {v : List Nat} {s : Ps.St} (h : Lx.scan (by_ S) = .ok l) (hp : Ps.program ⟨l, S.size⟩ Ps.fuel = .ok v s) (hf : ¬ 1200 < s.nodes.length) : parseR S = .ok s.nodes := by
 unfold parseR;rw [h];dsimp only;unfold Ps.parse;rw [hp, Ps.bind_ok, if_neg hf]
theorem now_end {X : Ps.Src} {s : Ps.St} (h : X.toks.length ≤ s.i) : (Ps.now X s).pos = X.len := by
 unfold Ps.now;rw [List.getD_eq_getElem?_getD, List.getElem?_eq_none h]
 rfl
theorem slay_mem {cb fb : Nat} {v0 f0 f1 : Value} {w : World} (hcb : w.heap[cb]? = some (.cells #[v0] 22 (0, 0))) (hfb : w.heap[fb]? = some (.cells #[f0, f1] 25 (0, 0))) (u c a : Value) :
  (((w.setCell ⟨cb, 0, none⟩ u).setCell ⟨fb, 0, none⟩ c).setCell ⟨fb, 1, none⟩ a).heap[cb]? = some (.cells #[u] 22 (0, 0)) ∧
  (((w.setCell ⟨cb, 0, none⟩ u).setCell ⟨fb, 0, none⟩ c).setCell ⟨fb, 1, none⟩ a).heap[fb]? = some (.cells #[c, a] 25 (0, 0)) ∧
  (∀ B, B ≤ cb → B ≤ fb → Below B w (((w.setCell ⟨cb, 0, none⟩ u).setCell ⟨fb, 0, none⟩ c).setCell ⟨fb, 1, none⟩ a)) ∧
  ∀ N e z n x xs, 22 ≠ e → 25 ≠ e → w.ownsRow N e z x n xs → (((w.setCell ⟨cb, 0, none⟩ u).setCell ⟨fb, 0, none⟩ c).setCell ⟨fb, 1, none⟩ a).ownsRow N e z x n xs := by
 have hne : cb ≠ fb := by
  rintro rfl;rw [hcb] at hfb
  cases hfb
 have a1 := blk_set hcb 0 u;have a2 := blk_set_other (p := fb) a1 hne 0 c;have a3 := blk_set_other (p := fb) a2 hne 1 a;have b1 := blk_set_other (p := cb) hfb hne.symm 0 u;have b2 := blk_set b1 0 c;have b3 := blk_set b2 1 a;exact ⟨a3, b3, fun B h1 h2 => (((Below.refl B w).setCell (p := ⟨cb, 0, none⟩) h1 _).setCell (p := ⟨fb, 0, none⟩) h2 _).setCell (p := ⟨fb, 1, none⟩) h2 _, fun N e z n x xs h1 h2 h => own_set (own_set (own_set h hcb h1.symm) b1 h2.symm) b2 h2.symm⟩
theorem scatch_mem {cb fb : Nat} {v0 f0 f1 : Value} {w : World} (hcb : w.heap[cb]? = some (.cells #[v0] 22 (0, 0))) (hfb : w.heap[fb]? = some (.cells #[f0, f1] 25 (0, 0))) (c a : Value) :
  (((w.setCell ⟨cb, 0, none⟩ (.slice none 0 0)).setCell ⟨fb, 0, none⟩ c).setCell ⟨fb, 1, none⟩ a).heap[cb]? = some (.cells #[.slice none 0 0] 22 (0, 0)) ∧
  (((w.setCell ⟨cb, 0, none⟩ (.slice none 0 0)).setCell ⟨fb, 0, none⟩ c).setCell ⟨fb, 1, none⟩ a).heap[fb]? = some (.cells #[c, a] 25 (0, 0)) :=
 ⟨(slay_mem hcb hfb _ c a).1, (slay_mem hcb hfb _ c a).2.1⟩

set_option maxRecDepth 100000 in
set_option maxHeartbeats 1000000 in
theorem scatch (cb fb : Nat) (v0 f0 f1 : Value) (c a : Int) (w : World) (hcb : w.heap[cb]? = some (.cells #[v0] 22 (0, 0))) (hfb : w.heap[fb]? = some (.cells #[f0, f1] 25 (0, 0))) :
  CallsD Tryz.prog 25 #[.pointer (some ⟨cb, 0, none⟩), .pointer (some ⟨fb, 0, none⟩)] (.panicking [{ v := .iface 60 (.agg #[.int .i64 c, .int .i64 a]), recovered := false }]) w fun e u' w' =>
   e = .returned (.tuple #[]) ∧ u' = .panicking [{ v := .iface 60 (.agg #[.int .i64 c, .int .i64 a]), recovered := true }] ∧ w'.heap[cb]? = some (.cells #[.slice none 0 0] 22 (0, 0)) ∧ w'.heap[fb]? = some (.cells #[.int .i64 c, .int .i64 a] 25 (0, 0)) ∧ ∀ B, B ≤ cb → B ≤ fb → Below B w w' := by
 have c0 := blk_cell hcb 0;have g0 := blk_cell hfb 0;have g1 := blk_cell hfb 1;have k0 := blk_free hcb 0;have h0 := blk_free hfb 0;have h1 := blk_free hfb 1;have hl := blk_lt hcb;have hl2 := blk_lt hfb;have hne : cb ≠ fb := by
  rintro rfl;rw [hcb] at hfb
  cases hfb
 simp only [List.getElem?_toArray, List.getElem?_cons_zero, List.getElem?_cons_succ] at c0 g0 g1;have Hcb := zh hcb;have Hfb := zh hfb;clear hcb hfb;refine callsD_of_wpS Tryz.func25 rfl fun c₀ cs hu => ?_
 apply wpS_seq
 apply wpS_region
 simp [wpOpsS, go_sem, recoverD, hu, Tryz.ntmps25, Exit.thenS];refine wpS_of_wp ?_;clear hu;have hta : ∀ w, (Instr.typeAssert (.iface 60 (.agg #[.int .i64 c, .int .i64 a])) 20 60 true).run Tryz.prog w = .ok (.tuple #[.agg #[.int .i64 c, .int .i64 a], .bool true]) w := fun w => by kernel_rfl
 have e : (#[Value.pointer (some ⟨cb, 0, none⟩), Value.pointer (some ⟨fb, 0, none⟩)] ++ (Array.replicate 11 undef).setIfInBounds 3 (Value.iface 60 (Value.agg #[Value.int IntKind.i64 c, Value.int IntKind.i64 a])) : Array Value) = #[.pointer (some ⟨cb, 0, none⟩), .pointer (some ⟨fb, 0, none⟩), undef, undef, undef, .iface 60 (.agg #[.int .i64 c, .int .i64 a]), undef, undef, undef, undef, undef, undef, undef] := rfl;rw [e];clear e;go_wp2
 go_region
 all_goals
  go_wp2
  obtain ⟨m1, m2⟩ := scatch_mem Hcb.out Hfb.out (.int .i64 c) (.int .i64 a);refine ⟨rfl, _, rfl, .tuple #[], by simp [results, Tryz.results25, go_sem], rfl, rfl, blk_alloc m1 _, blk_alloc m2 _, fun B h1 h2 => ?_⟩;exact (((((Below.refl B w).setCell (p := ⟨cb, 0, none⟩) h1 _).setCell (p := ⟨fb, 0, none⟩) h2 _).setCell (p := ⟨fb, 1, none⟩) h2 _).alloc (by simp; omega) _).drew
set_option maxRecDepth 100000 in
set_option maxHeartbeats 1000000 in
theorem scatch_idle (cb fb : Nat) (w : World) :
  CallsD Tryz.prog 25 #[.pointer (some ⟨cb, 0, none⟩), .pointer (some ⟨fb, 0, none⟩)] .returning w fun e u' w' => e = .returned (.tuple #[]) ∧ u' = .returning ∧ w' = w := by
 refine callsD_of_wpS Tryz.func25 rfl fun c₀ cs hu => ?_
 apply wpS_seq
 apply wpS_region
 simp [wpOpsS, go_sem, recoverD, hu, Tryz.ntmps25, Exit.thenS];refine wpS_of_wp ?_;have e : (#[Value.pointer (some ⟨cb, 0, none⟩), Value.pointer (some ⟨fb, 0, none⟩)] ++ (Array.replicate 11 undef).setIfInBounds 3 Value.nilIface : Array Value) = #[.pointer (some ⟨cb, 0, none⟩), .pointer (some ⟨fb, 0, none⟩), undef, undef, undef, .nilIface, undef, undef, undef, undef, undef, undef, undef] := rfl;rw [e];clear e;go_wp2
 refine ⟨rfl, .returning, ?_, .tuple #[], by simp [results, Tryz.results25, go_sem], rfl, rfl, rfl⟩
 cases c₀
 simp_all

/-- The frame's one deferred call. -/
def parseDoor (n : Nat) : List Deferred := [{ target := .fn (.func 25) #[.pointer (some ⟨n, 0, none⟩), .pointer (some ⟨n + 1, 0, none⟩)], args := #[] }]
set_option maxRecDepth 100000 in
theorem sdoor_err {w wx : World} {S : ByteArray} {c : Int} {a : Nat} {v0 f0 f1 : Value} {T : Array Value} (q1 : wx.heap[w.heap.size]? = some (.cells #[v0] 22 (0, 0))) (q2 : wx.heap[w.heap.size + 1]? = some (.cells #[f0, f1] 25 (0, 0))) (q3 : Below w.heap.size w wx) (hc : parseR S = .error (c, a)) (h2 : T[2]? = some (.pointer (some ⟨w.heap.size, 0, none⟩))) (h3 : T[3]? = some (.pointer (some ⟨w.heap.size + 1, 0, none⟩))) :
  bodyPostD Tryz.prog Tryz.f8 (ParsePost S w) (Exit.panic [{ v := .iface 60 (.agg #[.int .i64 c, .int .i64 (a : Int)]), recovered := false }]) { tmps := T, defers := parseDoor w.heap.size } wx := by
 unfold parseDoor;refine leaves_cons (f := 25) (args := #[.pointer (some ⟨w.heap.size, 0, none⟩), .pointer (some ⟨w.heap.size + 1, 0, none⟩)]) (by simp) (by simp [go_sem]) ?_;refine (scatch _ _ _ _ _ c a _ q1 q2).mono ?_;rintro e u' w3 ⟨rfl, rfl, m1, m2, m3⟩;have k0 := blk_cell m1 0;have k1 := blk_cell m2 0;have k2 := blk_cell m2 1;have hl1 := blk_lt m1;have hl2 := blk_lt m2;simp only [List.getElem?_toArray, List.getElem?_cons_zero, List.getElem?_cons_succ] at k0 k1 k2;have HF := zh (parse_bad hc (q3.trans (m3 w.heap.size (by omega) (by omega))));clear m1 m2 m3 q1 q2 q3;simp [Leaves, settle, results, Tryz.results8, go_sem, k0, k1, k2, h2, h3];exact HF.out
set_option maxRecDepth 100000 in
theorem sdoor_ok {w wx : World} {S : ByteArray} {v f0 f1 : Value} {T : Array Value} {e0 : Exit} (he : e0 = .ret) (hcb : wx.heap[w.heap.size]? = some (.cells #[v] 22 (0, 0))) (hfb : wx.heap[w.heap.size + 1]? = some (.cells #[f0, f1] 25 (0, 0))) (hp : ParsePost S w (.returned (.tuple #[v, .agg #[f0, f1]])) wx)
  (h2 : T[2]? = some (.pointer (some ⟨w.heap.size, 0, none⟩))) (h3 : T[3]? = some (.pointer (some ⟨w.heap.size + 1, 0, none⟩))) :
  bodyPostD Tryz.prog Tryz.f8 (ParsePost S w) e0 { tmps := T, defers := parseDoor w.heap.size } wx := by
 subst he;unfold parseDoor;refine leaves_cons (f := 25) (args := #[.pointer (some ⟨w.heap.size, 0, none⟩), .pointer (some ⟨w.heap.size + 1, 0, none⟩)]) (by simp) (by simp [go_sem]) ?_;refine (scatch_idle _ _ _).mono ?_;rintro e u' w3 ⟨rfl, rfl, rfl⟩;have k0 := blk_cell hcb 0;have k1 := blk_cell hfb 0;have k2 := blk_cell hfb 1;have hl1 := blk_lt hcb;have hl2 := blk_lt hfb;simp only [List.getElem?_toArray, List.getElem?_cons_zero, List.getElem?_cons_succ] at k0 k1 k2;have HF := zh hp;clear hcb hfb hp;simp [Leaves, settle, results, Tryz.results8, go_sem, k0, k1, k2, h2, h3];exact HF.out


set_option maxRecDepth 100000 in
set_option maxHeartbeats 1000000 in
theorem sparse_any (HPP : Hid (∀ X S, POk X S 26 unitV (programP X Ps.fuel))) (B : Nat) (w : World) (S : ByteArray) (hT : Tabs B w) (hB : B ≤ w.heap.size) (hm : S.size ≤ maxLen) : Calls Tryz.prog 8 #[.string S] w (ParsePost S w) := by
 have hmf : ∀ (fn : Fn) (first cap : Array Value) (w : World), (Instr.makeFunc fn first cap).run Tryz.prog w = .ok (.func fn first cap) w := fun _ _ _ _ => rfl
 have HT := zh hT;clear hT
 go_enter_defers Tryz.func8, Tryz.ntmps8
 go_wp2_with fail
 obtain ⟨w0, hw0⟩ : ∃ w0 : World, w0 = ((w.alloc (.cells #[.slice none 0 0] 22)).alloc (.cells #[.int .i64 0, .int .i64 0] 25)) := ⟨_, rfl⟩;have hz0 : w0.heap.size = w.heap.size + 2 := by rw [hw0]; simp
 have HC0 : Hid (w0.heap[w.heap.size]? = some (.cells #[.slice none 0 0] 22 (0, 0))) := zh (by rw [hw0]; exact blk_alloc (blk_new _ _) _);have HF0 : Hid (w0.heap[w.heap.size + 1]? = some (.cells #[.int .i64 0, .int .i64 0] 25 (0, 0))) := zh (by rw [hw0]; exact blk_new_at (by simp));have HB0 : Hid (Below w.heap.size w w0) := zh (by rw [hw0]; exact (((Below.refl _ _).alloc (Nat.le_refl _) _).alloc (by simp) _));rw [← hw0];clear hw0;refine (pscan_any B w0 S (HT.out.below HB0.out hB) (by omega) hm).mono ?_;rintro e w1 ⟨hb1, hs1⟩;have HC1 := zh (blk_below HC0.out hb1 (by omega));have HF1 := zh (blk_below HF0.out hb1 (by omega));have HB1 := zh (HB0.out.trans (hb1.mono (by omega)));have hz1 := hb1.size;have HBB := zh hb1;have f0 := blk_cell HF1.out 0;have f1 := blk_cell HF1.out 1;have f0f := blk_free HF1.out 0;have f1f := blk_free HF1.out 1;have k0 := blk_cell HC1.out 0;have k0f := blk_free HC1.out 0
 have hkl := blk_lt HC1.out;have hfl := blk_lt HF1.out;simp only [List.getElem?_toArray, List.getElem?_cons_zero, List.getElem?_cons_succ] at f0 f1 k0;clear hb1
 cases hsc : Lx.scan (by_ S) with
 | error x =>
  obtain ⟨c, q⟩ := x;rw [hsc] at hs1;dsimp only at hs1;subst hs1;have hc := scan_code hsc;have HR : Hid (parseR S = .error (c, q)) := zh (by unfold parseR; rw [hsc]);clear hsc;have hcb : (c != 0) = true := by simpa using hc
  have hne : w.heap.size ≠ w.heap.size + 1 := by omega
  have HF2 := zh (show ((w1.setCell ⟨w.heap.size + 1, 0, none⟩ (.int .i64 c)).setCell ⟨w.heap.size + 1, 1, none⟩ (.int .i64 (q : Int))).heap[w.heap.size + 1]? = some (.cells #[.int .i64 c, .int .i64 (q : Int)] 25 (0, 0)) from blk_set (blk_set HF1.out 0 (.int .i64 c)) 1 (.int .i64 (q : Int)));have HC2 := zh (blk_set_other (blk_set_other HC1.out hne 0 (.int .i64 c)) hne 1 (.int .i64 (q : Int)));have HB2 := zh ((HB1.out.setCell (p := ⟨w.heap.size + 1, 0, none⟩) (by simp) (.int .i64 c)).setCell (p := ⟨w.heap.size + 1, 1, none⟩) (by simp) (.int .i64 (q : Int)));clear hne;go_wp2_with fail
  clear f0 f1 f0f f1f k0 k0f hcb;generalize ((w1.setCell ⟨w.heap.size + 1, 0, none⟩ (.int .i64 c)).setCell ⟨w.heap.size + 1, 1, none⟩ (.int .i64 (q : Int))) = w2 at *;have f0 := blk_cell HF2.out 0;have f1 := blk_cell HF2.out 1;have f0f := blk_free HF2.out 0;have f1f := blk_free HF2.out 1;have k0 := blk_cell HC2.out 0;have k0f := blk_free HC2.out 0;have hkl := blk_lt HC2.out;have hfl := blk_lt HF2.out;simp only [List.getElem?_toArray, List.getElem?_cons_zero, List.getElem?_cons_succ] at f0 f1 k0;have HRR := zh (slay_mem HC2.out HF2.out (.slice none 0 0) (.int .i64 c) (.int .i64 (q : Int)))
  go_region
  all_goals
   have k0 := blk_cell (blk_below HRR.out.1 ((Below.refl _ _).drew) (blk_lt HRR.out.1)) 0;have k1 := blk_cell (blk_below HRR.out.2.1 ((Below.refl _ _).drew) (blk_lt HRR.out.2.1)) 0;have k2 := blk_cell (blk_below HRR.out.2.1 ((Below.refl _ _).drew) (blk_lt HRR.out.2.1)) 1;have hx1 := blk_lt HRR.out.1;have hx2 := blk_lt HRR.out.2.1;simp only [List.getElem?_toArray, List.getElem?_cons_zero, List.getElem?_cons_succ] at k0 k1 k2;have HE := zh (parse_bad HR.out ((HB2.out.trans (HRR.out.2.2.1 w.heap.size (by omega) (by omega))).drew));clear f0 f1 f0f f1f k0f;generalize (((w2.setCell ⟨w.heap.size, 0, none⟩ (.slice none 0 0)).setCell ⟨w.heap.size + 1, 0, none⟩ (.int .i64 c)).setCell ⟨w.heap.size + 1, 1, none⟩ (.int .i64 (q : Int))) = w3 at *;go_wp2
   simp [bodyPostD, Leaves, results, Tryz.results8, go_sem, k0, k1, k2];exact HE.out
 | ok l =>
  rw [hsc] at hs1;obtain ⟨v, rfl, hv, hl⟩ := hs1;have HSC := zh hsc;have hsm := scan_small hsc;have HV := zh hv;clear hsc hv;obtain ⟨va, vc, hva⟩ := own_slice HV.out rfl;subst hva;have hnn : w.heap.size ≠ w.heap.size + 1 := by omega
  have HF2 := zh (show ((w1.setCell ⟨w.heap.size + 1, 0, none⟩ (.int .i64 0)).setCell ⟨w.heap.size + 1, 1, none⟩ (.int .i64 0)).heap[w.heap.size + 1]? = some (.cells #[.int .i64 0, .int .i64 0] 25 (0, 0)) from blk_set (blk_set HF1.out 0 (.int .i64 0)) 1 (.int .i64 0));have HC2 := zh (blk_set_other (blk_set_other HC1.out hnn 0 (.int .i64 0)) hnn 1 (.int .i64 0));have HB2 := zh ((HB1.out.setCell (p := ⟨w.heap.size + 1, 0, none⟩) (by simp) (.int .i64 0)).setCell (p := ⟨w.heap.size + 1, 1, none⟩) (by simp) (.int .i64 0));have HV2 := zh (show ToksV w0.heap.size ((w1.setCell ⟨w.heap.size + 1, 0, none⟩ (.int .i64 0)).setCell ⟨w.heap.size + 1, 1, none⟩ (.int .i64 0)) (.slice va l.length vc) l from own_set (own_set HV.out HF1.out (by decide)) (blk_set HF1.out 0 (.int .i64 0)) (by decide));have hz2 : ((w1.setCell ⟨w.heap.size + 1, 0, none⟩ (.int .i64 0)).setCell ⟨w.heap.size + 1, 1, none⟩ (.int .i64 0)).heap.size = w1.heap.size := by simp
  clear hnn;go_wp2_with fail
  clear f0 f1 f0f f1f k0 k0f;generalize ((w1.setCell ⟨w.heap.size + 1, 0, none⟩ (.int .i64 0)).setCell ⟨w.heap.size + 1, 1, none⟩ (.int .i64 0)) = w2 at *;have hne : programP ⟨l, S.size⟩ Ps.fuel Ps.start ≠ .out := Ps.program_nt (X := ⟨l, S.size⟩) hl;have hb3 : Below w2.heap.size w2 (w2.alloc (.cells #[.string S, .slice va l.length vc, .int .i64 0, .int .i64 0, .slice none 0 0] 63)) := (Below.refl _ _).alloc (Nat.le_refl _) _;have HP : Hid (PSt w0.heap.size w1.heap.size (w2.alloc (.cells #[.string S, .slice va l.length vc, .int .i64 0, .int .i64 0, .slice none 0 0] 63)) ⟨l, S.size⟩ S Ps.start (.slice va l.length vc) (.slice none 0 0) []) := zh
   {blk := by rw [← hz2]; exact blk_new _ _
    toks := own_below HV2.out hb3 (fun k hk => (World.ownsRow.lt HV2.out k hk).2)
    nodes := ⟨World.ownsRow_nil _ _ _ _, fun x hx => by cases hx⟩
    eq := rfl
    src := ⟨rfl, by rw [by_size] at hsm; exact hsm, hl⟩
    i := Nat.zero_le _
    d0 := by decide
    d1 := by decide
    many := Nat.zero_le _
    hN := hz1 }
  have HC3 := zh (blk_below HC2.out hb3 (by omega));have HF3 := zh (blk_below HF2.out hb3 (by omega));have HB3 := zh (HB2.out.trans (hb3.mono (by omega)));clear hb3;generalize (w2.alloc (.cells #[.string S, .slice va l.length vc, .int .i64 0, .int .i64 0, .slice none 0 0] 63)) = w3 at *;refine (HPP.out ⟨l, S.size⟩ S w0.heap.size w1.heap.size w3 Ps.start _ _ [] HP.out hne).mono ?_;rintro e w4 hq;rcases hq.parts hne with ⟨c, q, hr, rfl, hb⟩ | ⟨v, s', nv', E, hr, rfl, h1, h2, h3⟩
  ·have q1 := zh (blk_below HC3.out hb (by omega));have q2 := zh (blk_below HF3.out hb (by omega))
   have q3 := zh (HB3.out.trans (hb.mono (by omega)));have q4 := zh (parseR_bad HSC.out hr);clear hq hr hb hne;unfold thrownS;go_wp2
   exact sdoor_err q1.out q2.out q3.out q4.out rfl rfl
  ·have hb := h2.below;have HC4 := zh (blk_below HC3.out hb (by omega))
   have HF4 := zh (blk_below HF3.out hb (by omega));have HB4 := zh (HB3.out.trans (hb.mono (by omega)));rw [List.nil_append] at h1;have HP4 := zh h1;have HRR := zh hr;clear hq hr hb hne h1 h2 h3;obtain ⟨na, nc, hna⟩ := own_slice HP4.out.nodes.row rfl;subst hna;have hEs : s'.nodes.length = E.length := by rw [HP4.out.eq, List.length_map]
   have d4 := HP4.out.c4;have hpl := HP4.out.lt;unfold unitV
   by_cases hf : 1200 < E.length
   ·have hgt : decide ((1200 : Int) < (E.length : Int)) = true := by simp; omega
    have HR : Hid (parseR S = .error (5, S.size)) := zh (parseR_full HSC.out HRR.out (by omega));have HNP : Hid ((Ps.now ⟨l, S.size⟩ s').pos = S.size) := zh (now_end (X := ⟨l, S.size⟩) (program_end HRR.out));clear hf;go_wp2_with fail
    refine (spfail_any HP4.out 5).mono ?_;rintro e w5 ⟨rfl, hb5⟩;rw [HNP.out];have q1 := zh (blk_below HC4.out hb5 (blk_lt HC4.out));have q2 := zh (blk_below HF4.out hb5 (blk_lt HF4.out));have q3 := zh (HB4.out.trans (hb5.mono (by omega)));clear hb5;unfold thrownS;go_wp2
    exact sdoor_err q1.out q2.out q3.out HR.out rfl rfl
   ·have hgt : decide ((1200 : Int) < (E.length : Int)) = false := by simp; omega
    have HR : Hid (parseR S = .ok (E.map (·.1))) := zh (by rw [← HP4.out.eq]; exact parseR_ok HSC.out HRR.out (by omega));have hfl : E.length ≤ 1200 := by omega
    have HFL := zh hfl;have f0 := blk_cell HF4.out 0;have f1 := blk_cell HF4.out 1;have f0f := blk_free HF4.out 0;have f1f := blk_free HF4.out 1;have k0 := blk_cell HC4.out 0;have k0f := blk_free HC4.out 0;have hx1 := blk_lt HC4.out;have hx2 := blk_lt HF4.out;simp only [List.getElem?_toArray, List.getElem?_cons_zero, List.getElem?_cons_succ] at f0 f1 k0;have HL := zh (slay_mem HC4.out HF4.out (.slice na E.length nc) (.int .i64 0) (.int .i64 0));clear hf hfl;go_wp2
    refine sdoor_ok rfl HL.out.1 HL.out.2.1 (parse_ok HR.out (HB4.out.trans (HL.out.2.2.1 w.heap.size (by omega) (by omega))) ⟨?_, fun x hx => ?_⟩ HFL.out) rfl rfl
    ·exact owns_base (HL.out.2.2.2 _ _ _ _ _ _ (by decide) (by decide) HP4.out.nodes.row) (by omega)
    ·exact owns_base (HL.out.2.2.2 _ _ _ _ _ _ (by decide) (by decide) (HP4.out.nodes.kids x hx)) (by omega)
end Go.Proofs.YtjickecdkmljpaaGreatDoor
