/-
  PROVED HERE: the program's Of. No condition beyond the lemmas' own premises.
-/
import Derived.Test.YtjickecdkmljpaaGreatDoorPsTk
import Derived.Test.YtjickecdkmljpaaGreatDoorTyM
import Derived.Maps.RangeWalk
import Derived.StillTailTactics
namespace Go.Proofs.YtjickecdkmljpaaGreatDoor
open Go.RowKit

/-- The methods of each type, of the first k nodes. -/
def gF (L : List Ps.Nd) (k : Nat) (t : List UInt8) : List (List UInt8) := (L.take k).flatMap (nodeM L t)
theorem gF_step {L : List Ps.Nd} {k : Nat} {x : Ps.Nd} (h : L[k]? = some x) : gF L (k + 1) = fun t => gF L k t ++ nodeM L t x := by
 funext t
 exact pre_step h
theorem gF_one {L : List Ps.Nd} {k : Nat} {x : Ps.Nd} (h : L[k]? = some x) (h14 : x.kind = 14) {a b : Nat} {r : List Nat} (hab : x.kids = a :: b :: r) : gF L (k + 1) = updG (gF L k) (Ps.text L a) (x.text ++ 32 :: Ps.text L b) := by
 rw [gF_step h]
 funext t
 unfold nodeM updG;rw [if_pos h14, hab]
 by_cases e : t = Ps.text L a
 ·rw [if_pos e, e];simp
 ·rw [if_neg e];simp
  exact fun h => e h.symm
theorem self_text {L : List Ps.Nd} (hW : Ps.Wf L) {a : Nat} {y : Ps.Nd} (h : L[a]? = some y) (h7 : y.kind = 7) : Ps.text L a = Ps.text L (y.kids.getD 0 0) := by
 rw [Ps.text_eq hW a, Ps.getD_of h, if_neg (by omega), if_neg (by omega), if_neg (by omega), if_neg (by omega), if_neg (by omega), if_pos h7]
theorem gF_len {L : List Ps.Nd} {D : List (Ps.Nd × Value)} {t : List UInt8} (HF : Hid (∀ n ∈ L, n.text.length ≤ 100000000000 ∧ n.kids.length ≤ 1000000)) (_HL : Hid (L = D.map (·.1))) (hD : D.length ≤ 10000) {k : Nat} (hk : k ≤ D.length) : (gF L k t).length ≤ 10000000000 := by
 have := pre_len (typ := t) (K := 1000000) (by decide) (fun n hn => (HF.out n hn).2) k;unfold gF;omega
/-- The methods while an interface's are laid. -/
def gI (L : List Ps.Nd) (k : Nat) (x : Ps.Nd) (j : Nat) (t : List UInt8) : List (List UInt8) := if t = x.text then gF L k t ++ (x.kids.take j).map (sigT L) else gF L k t
theorem gI_zero {L : List Ps.Nd} {k : Nat} {x : Ps.Nd} : gI L k x 0 = gF L k := by
 funext t
 unfold gI
 split <;> simp
theorem gI_step {L : List Ps.Nd} {k : Nat} {x : Ps.Nd} {j : Nat} (h : j < x.kids.length) : gI L k x (j + 1) = updG (gI L k x j) x.text (sigT L (x.kids.getD j 0)) := by
 funext t
 unfold gI updG;rw [List.take_add_one, List.getElem?_eq_getElem h]
 by_cases e : t = x.text
 ·rw [if_pos e, if_pos e];dsimp only
  rw [if_pos rfl, e, List.getD_eq_getElem?_getD, List.getElem?_eq_getElem h, List.map_append, ← List.append_assoc]
  rfl
 ·rw [if_neg e, if_neg e];dsimp only
  rw [if_neg e]
theorem gI_end {L : List Ps.Nd} {k : Nat} {x : Ps.Nd} (h : L[k]? = some x) (h12 : x.kind = 12) : gI L k x x.kids.length = gF L (k + 1) := by
 rw [gF_step h]
 funext t
 unfold gI nodeM;rw [List.take_length, if_neg (show ¬ x.kind = 14 by omega)]
 by_cases e : t = x.text
 ·rw [if_pos e, if_pos ⟨h12, e.symm⟩]
 ·rw [if_neg e, if_neg (fun h => e h.2.symm), List.append_nil]
theorem gF_same {L : List Ps.Nd} {k : Nat} {x : Ps.Nd} (h : L[k]? = some x) (h14 : ¬ x.kind = 14) (h12 : ¬ x.kind = 12) : gF L (k + 1) = gF L k := by
 rw [gF_step h]
 funext t
 unfold nodeM;rw [if_neg h14, if_neg (fun h => h12 h.1), List.append_nil]
theorem gF_all {L : List Ps.Nd} {k : Nat} (h : k = L.length) : gF L k = methL L := by
 subst h
 funext t
 unfold gF methL;rw [List.take_length]
theorem gI_len {L : List Ps.Nd} {D : List (Ps.Nd × Value)} {t : List UInt8} (HF : Hid (∀ n ∈ L, n.text.length ≤ 100000000000 ∧ n.kids.length ≤ 1000000)) (HL : Hid (L = D.map (·.1))) (hD : D.length ≤ 10000) {k : Nat} (hk : k ≤ D.length) {x : Ps.Nd} (hx : x.kids.length ≤ 1000000) (j : Nat) : (gI L k x j t).length ≤ 20000000000 := by
 have := gF_len (t := t) HF HL hD hk;unfold gI
 split
 ·rw [List.length_append, List.length_map, List.length_take]; omega
 ·omega
/-- What Of leaves. -/
def OfP (L : List Ps.Nd) (k : Nat) (w0 : World) (v : Value) (e : Ending) (w : World) : Prop := ∃ (b1 b2 b3 tp n1 n2 n3 : Nat) (m3 : List UInt8 → Option Value), e = .returned (.pointer (some ⟨tp, 0, none⟩)) ∧ OfS w0 v b1 b2 b3 tp n1 n2 n3 (fM L 10 k) (fM L 12 k) m3 (fun t => mF (methL L t)) w
section
variable {L : List Ps.Nd} {D : List (Ps.Nd × Value)} {N : Nat}
theorem ofS_start (w : World) (v : Value) : OfS w v w.heap.size (w.heap.size + 1) (w.heap.size + 1 + 1) (w.heap.size + 1 + 1 + 1) 0 0 0 (fun _ => none) (fun _ => none) (fun _ => none) (fun _ => [])
  ((((w.alloc (.map #[] 0)).alloc (.map #[] 0)).alloc (.map #[] 0)).alloc (.cells #[v, .map (some w.heap.size), .map (some (w.heap.size + 1)), .map (some (w.heap.size + 1 + 1))] 123)) := by
 have e1 : (w.alloc (.map #[] 0)).heap.size = w.heap.size + 1 := by simp
 have e2 : ((w.alloc (.map #[] 0)).alloc (.map #[] 0)).heap.size = w.heap.size + 1 + 1 := by simp
 have e3 : (((w.alloc (.map #[] 0)).alloc (.map #[] 0)).alloc (.map #[] 0)).heap.size = w.heap.size + 1 + 1 + 1 := by simp
 have m1 := MapV.made w;have m2 := MapV.made (w.alloc (.map #[] 0));have m3 := GrpM.made w.heap.size ((w.alloc (.map #[] 0)).alloc (.map #[] 0));rw [e1] at m2;rw [e2] at m3;have hb : ∀ (w : World) (o : Obj), Below w.heap.size w (w.alloc o) := fun w o => (Below.refl _ _).alloc (Nat.le_refl _) o
 refine ⟨(((hb _ _).trans ((hb _ _).mono (by omega))).trans ((hb _ _).mono (by omega))).trans ((hb _ _).mono (by omega)), ?_, ((m1.below (hb _ _)).below (hb _ _)).below (hb _ _), (m2.below (hb _ _)).below (hb _ _), m3.below (hb _ _), by omega⟩;have := blk_new (((w.alloc (.map #[] 0)).alloc (.map #[] 0)).alloc (.map #[] 0)) (.cells #[v, .map (some w.heap.size), .map (some (w.heap.size + 1)), .map (some (w.heap.size + 1 + 1))] 123);rw [e3] at this;exact this
set_option maxRecDepth 100000 in
set_option maxHeartbeats 8000000 in
theorem tof_any {w : World} {v : Value} (HW : Hid (Ps.Wf L)) (HS : Hid (∀ k, (Ps.text L k).length ≤ 100000000000)) (HL : Hid (L = D.map (·.1))) (HF : Hid (∀ n ∈ L, n.text.length ≤ 100000000000 ∧ n.kids.length ≤ 1000000)) (hD : D.length ≤ 10000) (hv : NodesV N w v D) :
  Calls Tryz.prog 32 #[v] w (OfP L D.length w v) := by
 obtain ⟨va, vc, rfl⟩ := own_slice hv.row rfl;have HV := zh hv;clear hv;have hmm := @run_makeMap Tryz.prog
 go_enter Tryz.func32, Tryz.ntmps32
 have HT := zh (ofS_start w (.slice va D.length vc));go_wp2_with fail
 clear hmm;obtain ⟨w1, hw1⟩ : ∃ z, z = (((w.alloc (.map #[] 0)).alloc (.map #[] 0)).alloc (.map #[] 0)).alloc (.cells #[.slice va D.length vc, .map (some w.heap.size), .map (some (w.heap.size + 1)), .map (some (w.heap.size + 1 + 1))] 123) := ⟨_, rfl⟩;rw [← hw1];rw [← hw1] at HT;clear hw1;obtain ⟨tp, htp⟩ : ∃ z, z = w.heap.size + 1 + 1 + 1 := ⟨_, rfl⟩;rw [← htp];rw [← htp] at HT;clear htp;obtain ⟨b3, hb3⟩ : ∃ z, z = w.heap.size + 1 + 1 := ⟨_, rfl⟩;rw [← hb3];rw [← hb3] at HT;clear hb3;obtain ⟨b2, hb2⟩ : ∃ z, z = w.heap.size + 1 := ⟨_, rfl⟩;rw [← hb2];rw [← hb2] at HT;clear hb2;obtain ⟨b1, hb1⟩ : ∃ z, z = w.heap.size := ⟨_, rfl⟩;have HT1 : Hid (OfS w (.slice va D.length vc) b1 b2 b3 tp 0 0 0 (fun _ => none) (fun _ => none) (fun _ => none) (fun _ => []) w1) := zh (by rw [hb1]; exact HT.out);rw [← hb1];clear HT hb1;have HND : Hid (∀ w', Below w.heap.size w w' → NodesV N w' (.slice va D.length vc) D) := zh fun w' hb => HV.out.further hb
 go_loopg [21] D.length (fun r i wr => ∃ k : Nat, k + r = D.length ∧ i = .int .i64 (k : Int) ∧ Hid (OfS w (.slice va D.length vc) b1 b2 b3 tp k k 0 (fM L 10 k) (fM L 12 k) (fun _ => none) (fun _ => []) wr))
 case atStart => exact ⟨0, by omega, rfl, HT1⟩
 case round =>
  obtain ⟨k, hk, rfl, HO⟩ := hrel;generalize wr = wo at *
  by_cases hkD : k < D.length
  ·have hki : (k : Int) < (D.length : Int) := by omega
   have hk0 : (0 : Int) ≤ (k : Int) := by omega
   have iw : IntKind.i64.wrap ((k : Int) + 1) = (k : Int) + 1 := IntWalk.i64_in _ (by omega);obtain ⟨⟨x, u⟩, hx⟩ : ∃ x, D[k]? = some x := ⟨_, List.getElem?_eq_getElem hkD⟩;have hLx : L[k]? = some x := by rw [HL.out, List.getElem?_map, hx]; rfl
   have HFX := zh (HF.out x (List.mem_of_getElem? hLx));have HS1 := zh (fM_step (kind := 10) hLx);have HS2 := zh (fM_step (kind := 12) hLx);have HN0 := zh (HND.out _ HO.out.bel);obtain ⟨g, cap, hg⟩ := own_lit HN0.out.row (by omega)
   cases hg
   obtain ⟨c0, c1, c2, c3, c4⟩ := nodes_at HN0.out rfl hx;have hmem : (x, u) ∈ D := List.mem_of_getElem? hx;have HKV : Hid (KidsV N wo u x.kids) := zh (HN0.out.kids _ hmem);dsimp only at c0 c1 c2 c3 c4;obtain ⟨ua, uc, rfl⟩ := own_slice HKV.out rfl;clear hx hLx hmem;have HB1 := zh (blk_new wo (.cells #[.int .i64 x.kind, .int .i64 x.pos, .int .i64 x.num, .string (str x.text), .slice ua x.kids.length uc] 41));have HO1 := zh (HO.out.alloc (.cells #[.int .i64 x.kind, .int .i64 x.pos, .int .i64 x.num, .string (str x.text), .slice ua x.kids.length uc] 41));obtain ⟨w2, hw2⟩ : ∃ z, z = wo.alloc (.cells #[.int .i64 x.kind, .int .i64 x.pos, .int .i64 x.num, .string (str x.text), .slice ua x.kids.length uc] 41) := ⟨_, rfl⟩;rw [← hw2] at HB1 HO1;have q0 := blk_cell HB1.out 0;have q3 := blk_cell HB1.out 3;have ql := blk_lt HB1.out;simp only [List.getElem?_toArray, List.getElem?_cons_zero, List.getElem?_cons_succ] at q0 q3
   have t1 := blk_cell HO1.out.tab 1;have t2 := blk_cell HO1.out.tab 2;have tl := blk_lt HO1.out.tab;simp only [List.getElem?_toArray, List.getElem?_cons_zero, List.getElem?_cons_succ] at t1 t2;have HW2 := zh hw2;clear hw2
   by_cases k10 : x.kind = 10
   ·have b10 : (x.kind == 10) = true := by simp [k10]
    have HS3 : Hid (fM L 10 (k + 1) = firstM (fM L 10 k) x.text k) := zh (by rw [HS1.out, if_pos k10]);have HS4 : Hid (fM L 12 (k + 1) = fM L 12 k) := zh (by rw [HS2.out, if_neg (by rw [k10]; decide)]);clear k10;go_wp2_with fail
    rw [← HW2.out];go_wp2_with fail
    go_still_tail 7, (by kernel_rfl)
    change wpList _ _ _ _ _ w2.drew
    clear q0 q3 ql t1 t2 tl;have HO2 := zh HO1.out.drew;generalize w2.drew = w3 at *;go_wp2_with fail
    refine (tfirst_any HO2.out.s1 (by unfold maxLen; omega) (show x.text.length ≤ maxLen by have := HFX.out.1; unfold maxLen; omega) k).mono ?_;rintro e w4 ⟨rfl, hm, hg⟩;have HO3 : Hid (OfS w (.slice (some ⟨g, 0, none⟩) D.length vc) b1 b2 b3 tp (k + 1) (k + 1) 0 (fM L 10 (k + 1)) (fM L 12 (k + 1)) (fun _ => none) (fun _ => []) w4) := zh (by rw [HS3.out, HS4.out]; exact (HO2.out.put1 hm hg).more.2);clear hm hg;go_wp2
    go_roundg (D.length - k - 1)
    case rel => exact ⟨k + 1, by omega, by simp, HO3⟩
    case measure => omega
   ·have b10 : (x.kind == 10) = false := by simpa using k10
    have HS3 : Hid (fM L 10 (k + 1) = fM L 10 k) := zh (by rw [HS1.out, if_neg k10]);clear k10
    by_cases k12 : x.kind = 12
    ·have b12 : (x.kind == 12) = true := by simp [k12]
     have HS4 : Hid (fM L 12 (k + 1) = firstM (fM L 12 k) x.text k) := zh (by rw [HS2.out, if_pos k12]);clear k12;go_wp2_with fail
     rw [← HW2.out];go_wp2_with fail
     go_still_tail 7, (by kernel_rfl)
     change wpList _ _ _ _ _ w2.drew
     clear q0 q3 ql t1 t2 tl;have HO2 := zh HO1.out.drew;generalize w2.drew = w3 at *;go_wp2_with fail
     refine (tfirst_any HO2.out.s2 (by unfold maxLen; omega) (show x.text.length ≤ maxLen by have := HFX.out.1; unfold maxLen; omega) k).mono ?_;rintro e w4 ⟨rfl, hm, hg⟩;have HO3 : Hid (OfS w (.slice (some ⟨g, 0, none⟩) D.length vc) b1 b2 b3 tp (k + 1) (k + 1) 0 (fM L 10 (k + 1)) (fM L 12 (k + 1)) (fun _ => none) (fun _ => []) w4) := zh (by rw [HS3.out, HS4.out]; exact (HO2.out.put2 hm hg).more.1);clear hm hg;go_wp2
     go_roundg (D.length - k - 1)
     case rel => exact ⟨k + 1, by omega, by simp, HO3⟩
     case measure => omega
    ·have b12 : (x.kind == 12) = false := by simpa using k12
     have HO3 : Hid (OfS w (.slice (some ⟨g, 0, none⟩) D.length vc) b1 b2 b3 tp (k + 1) (k + 1) 0 (fM L 10 (k + 1)) (fM L 12 (k + 1)) (fun _ => none) (fun _ => []) w2) := zh (by rw [HS3.out, HS2.out, if_neg k12]; exact HO1.out.more.1.more.2);clear k12;go_wp2_with fail
     rw [← HW2.out];go_wp2
     go_roundg (D.length - k - 1)
     case rel => exact ⟨k + 1, by omega, by simp, HO3⟩
     case measure => omega
  ·obtain rfl : k = D.length := by omega
   have hki : ¬ (D.length : Int) < (D.length : Int) := by omega
   clear HT1;go_wp2_with fail
   obtain ⟨M1, hM1⟩ : ∃ z, z = fM L 10 D.length := ⟨_, rfl⟩;obtain ⟨M2, hM2⟩ : ∃ z, z = fM L 12 D.length := ⟨_, rfl⟩;have HO0 : Hid (OfS w (.slice va D.length vc) b1 b2 b3 tp D.length D.length 0 M1 M2 (fun _ => none) (gF L 0) wo) := zh (by rw [hM1, hM2]; exact HO.out);clear HO
   go_loopg [51] D.length (fun r i wr => ∃ (k n3 : Nat) (m3 : List UInt8 → Option Value), k + r = D.length ∧ i = .int .i64 (k : Int) ∧ n3 ≤ k * 1000000 ∧ Hid (OfS w (.slice va D.length vc) b1 b2 b3 tp D.length D.length n3 M1 M2 m3 (gF L k) wr))
   case atStart => exact ⟨0, 0, _, by omega, rfl, Nat.zero_le _, HO0⟩
   case round =>
    obtain ⟨k, n3, m3, hk, rfl, hn3, HO⟩ := hrel;generalize wr = wo at *
    by_cases hkD : k < D.length
    ·have hki : (k : Int) < (D.length : Int) := by omega
     have hk0 : (0 : Int) ≤ (k : Int) := by omega
     have iw : IntKind.i64.wrap ((k : Int) + 1) = (k : Int) + 1 := IntWalk.i64_in _ (by omega);obtain ⟨⟨x, u⟩, hx⟩ : ∃ x, D[k]? = some x := ⟨_, List.getElem?_eq_getElem hkD⟩;have hLx : L[k]? = some x := by rw [HL.out, List.getElem?_map, hx]; rfl
     have HX := zh (HW.out k x hLx);have HFX := zh (HF.out x (List.mem_of_getElem? hLx));have HLX := zh hLx;have HGL := zh (fun t => gF_len (t := t) HF HL hD (k := k) (by omega));have HN0 := zh (HND.out _ HO.out.bel);obtain ⟨g, cap, hg⟩ := own_lit HN0.out.row (by omega)
     cases hg
     obtain ⟨c0, c1, c2, c3, c4⟩ := nodes_at HN0.out rfl hx;have hmem : (x, u) ∈ D := List.mem_of_getElem? hx;have HKV : Hid (∀ w', Below w.heap.size w w' → KidsV N w' u x.kids) := zh fun w' hb => (HND.out w' hb).kids _ hmem
     dsimp only at c0 c1 c2 c3 c4;obtain ⟨ua, uc, rfl⟩ := own_slice (HKV.out _ HO.out.bel) rfl;clear hx hLx hmem;have HB1 := zh (blk_new wo (.cells #[.int .i64 x.kind, .int .i64 x.pos, .int .i64 x.num, .string (str x.text), .slice ua x.kids.length uc] 41));have HO1 := zh (HO.out.alloc (.cells #[.int .i64 x.kind, .int .i64 x.pos, .int .i64 x.num, .string (str x.text), .slice ua x.kids.length uc] 41));obtain ⟨w2, hw2⟩ : ∃ z, z = wo.alloc (.cells #[.int .i64 x.kind, .int .i64 x.pos, .int .i64 x.num, .string (str x.text), .slice ua x.kids.length uc] 41) := ⟨_, rfl⟩;rw [← hw2] at HB1 HO1;have q0 := blk_cell HB1.out 0;have q3 := blk_cell HB1.out 3;have q4 := blk_cell HB1.out 4;have ql := blk_lt HB1.out;simp only [List.getElem?_toArray, List.getElem?_cons_zero, List.getElem?_cons_succ] at q0 q3 q4;have HW2 := zh hw2;clear hw2
     by_cases k14 : x.kind = 14
     ·have b14 : (x.kind == 14) = true := by simp [k14]
      obtain ⟨a, b, rest, hab, hak, ha7⟩ := HX.out.self k14;have hab2 := getD_cons2 hab;have hl2 : 2 ≤ x.kids.length := by rw [hab]; simp
      have hl0 : (0 : Int) < (x.kids.length : Int) := by omega
      have hl1 : (1 : Int) < (x.kids.length : Int) := by omega
      have hka : a < k := HX.out.lt a (by rw [hab]; simp);have hkb : b < k := HX.out.lt b (by rw [hab]; simp);obtain ⟨⟨y, uy⟩, hy⟩ : ∃ y, D[a]? = some y := ⟨_, List.getElem?_eq_getElem (by omega)⟩;have hLy : L[a]? = some y := by rw [HL.out, List.getElem?_map, hy]; rfl
      rw [Ps.getD_of hLy] at hak ha7;have hyl : 0 < y.kids.length := List.length_pos_iff.2 hak;have hyl0 : (0 : Int) < (y.kids.length : Int) := by omega
      have hTa : Ps.text L a = Ps.text L (y.kids.getD 0 0) := self_text HW.out hLy ha7;have hcl : y.kids.getD 0 0 < a := (HW.out a y hLy).lt _ (Ps.mem_getD hyl);have HSA : Hid (gF L (k + 1) = updG (gF L k) (Ps.text L (y.kids.getD 0 0)) (x.text ++ 32 :: Ps.text L b)) := zh (by rw [← hTa]; exact gF_one HLX.out k14 hab);obtain ⟨_, _, _, _, d4⟩ := nodes_at (HND.out _ HO1.out.bel) rfl hy;have hmy : (y, uy) ∈ D := List.mem_of_getElem? hy;have hyv : KidsV N w2 uy y.kids := (HND.out _ HO1.out.bel).kids _ hmy;obtain ⟨g3, c3p, rfl⟩ := own_lit hyv (by omega);have e3 := kids_at hyv rfl hyl;obtain ⟨c, hc⟩ : ∃ c, y.kids.getD 0 0 = c := ⟨_, rfl⟩;rw [hc] at e3 hcl HSA;obtain ⟨g2, c2p, hg2⟩ := own_lit (HKV.out _ HO1.out.bel) (by omega)
      cases hg2
      have HK0 : Hid (∀ w', Below w.heap.size w w' → w'.cell? ⟨g2, 0, none⟩ = some (.int .i64 (a : Int)) ∧ w'.cell? ⟨g2, 1, none⟩ = some (.int .i64 (b : Int))) := zh fun w' hb => ⟨by rw [kids_at (HKV.out w' hb) rfl (show 0 < x.kids.length by omega), hab2.1], by rw [kids_at (HKV.out w' hb) rfl (show 1 < x.kids.length by omega), hab2.2]⟩
      have e1 := (HK0.out _ HO1.out.bel).1;have hak0 : (a : Int) < (D.length : Int) := by omega
      have ha00 : (0 : Int) ≤ (a : Int) := by omega
      dsimp only at d4;clear hc hTa hyv hmy hLy hy hab hab2 hak ha7 k14
      go_upto_region 14 with fail
      rw [← HW2.out];go_wp2_with fail
      refine (ttext_any HW HS HL tp _ _ _ c _ _ (HND.out _ HO1.out.bel) (zh HO1.out.tab) (by omega)).mono ?_;rintro e w3 ⟨rfl, hb3⟩;have HO3 := zh (HO1.out.below hb3);have HB3 := zh (blk_below HB1.out hb3 (blk_lt HB1.out));clear hb3 q0 q3 q4 ql d4 e1 e3 c0 c1 c2 c3 c4;obtain ⟨bx, hbx⟩ : ∃ z, wo.heap.size = z := ⟨_, rfl⟩;rw [hbx] at HB3;rw [hbx];clear hbx;have hTl := HS.out c;have hTb := HS.out b;have hxt := HFX.out.1;have HSS : Hid (∀ v', Below w.heap.size w v' → TabB v' tp (.slice (some ⟨g, 0, none⟩) D.length vc) (.map (some b1)) (.map (some b2)) (.map (some b3)) → v'.heap[bx]? = some (.cells #[.int .i64 x.kind, .int .i64 x.pos, .int .i64 x.num, .string (str x.text), .slice (some ⟨g2, 0, none⟩) x.kids.length uc] 41) → MapV v' b3 n3 m3 → (v'.cell? ⟨tp, 3, none⟩ = some (.map (some b3)) ∧ v'.cell? ⟨bx, 3, none⟩ = some (.string (str x.text)) ∧ v'.cell? ⟨bx, 4, none⟩ = some (.slice (some ⟨g2, 0, none⟩) x.kids.length uc) ∧ v'.cell? ⟨g2, 1, none⟩ = some (.int .i64 (b : Int)) ∧ (Instr.lookup 121 (.map (some b3)) (.string (str (Ps.text L c))) false).run Tryz.prog v' = .ok ((m3 (Ps.text L c)).getD (.slice none 0 0)) v')) := zh fun v' h1 h2 h3 h4 => by
       have t3 := blk_cell h2 3;have r3 := blk_cell h3 3;have r4 := blk_cell h3 4;simp only [List.getElem?_toArray, List.getElem?_cons_zero, List.getElem?_cons_succ] at t3 r3 r4;exact ⟨t3, r3, r4, (HK0.out _ h1).2, h4.look1 Tryz.underlying121 (Tryz.zeroValue33 _) (by unfold maxLen; omega)⟩
      have s1 : ∀ w, (Op.stringOp .add (str x.text) ⟨#[32]⟩).run Tryz.prog w = .ok (.string (str (x.text ++ [32]))) w := fun w => add_str _ [32] _ w rfl (by rw [List.length_append]; show x.text.length + 1 ≤ _; omega)
      have s2 : ∀ w, (Op.stringOp .add (str (x.text ++ [32])) (str (Ps.text L b))).run Tryz.prog w = .ok (.string (str (x.text ++ 32 :: Ps.text L b))) w := fun w => add_str (x.text ++ [32]) (Ps.text L b) _ w (by simp) (by rw [List.length_append, List.length_cons]; omega)
      go_wp2_with fail
      have HO4 := zh HO3.out.drew;refine wp_region_Z 23 (fun v' => (v'.cell? ⟨tp, 3, none⟩ = some (.map (some b3)) ∧ v'.cell? ⟨bx, 3, none⟩ = some (.string (str x.text)) ∧ v'.cell? ⟨bx, 4, none⟩ = some (.slice (some ⟨g2, 0, none⟩) x.kids.length uc) ∧ v'.cell? ⟨g2, 1, none⟩ = some (.int .i64 (b : Int)) ∧ (Instr.lookup 121 (.map (some b3)) (.string (str (Ps.text L c))) false).run Tryz.prog v' = .ok ((m3 (Ps.text L c)).getD (.slice none 0 0)) v')) (HSS.out _ HO4.out.bel HO4.out.tab HB3.out HO4.out.s3.1) fun hS => ?_
      have HB4 : Hid (w3.drew.heap[bx]? = some (.cells #[.int .i64 x.kind, .int .i64 x.pos, .int .i64 x.num, .string (str x.text), .slice (some ⟨g2, 0, none⟩) x.kids.length uc] 41)) := zh HB3.out;generalize w3.drew = w4 at *;refine tz 0 ?_;refine tz 1 ?_;refine tz 2 ?_;refine tz 3 ?_;refine tz 4 ?_;refine tz 5 ?_;refine tz 6 ?_;refine tz 7 ?_;refine tz 8 ?_;refine tz 9 ?_
      refine tz 10 ?_;refine tz 11 ?_;refine tz 12 ?_;refine tz 13 ?_;refine tz 14 ?_;refine tz 15 ?_;refine tz 16 ?_;refine tz 17 ?_;refine tz 18 ?_
      refine rz 19 fun K hK => ?_
      go_simp
      refine (ttext_any HW HS HL tp _ _ _ b _ _ (HND.out _ HO4.out.bel) (zh HO4.out.tab) (by omega)).mono ?_;rintro e w5 ⟨rfl, hb5⟩;have HO5 := zh (HO4.out.below hb5);have HB5 := zh (blk_below HB4.out hb5 (blk_lt HB4.out));clear hb5;go_wp2_with fail
      refine hK.out _ _ (fun _ => HSS.out _ HO5.out.bel HO5.out.tab HB5.out HO5.out.s3.1) ?_;clear hK K hS;have hS := HSS.out _ HO5.out.bel HO5.out.tab HB5.out HO5.out.s3.1;refine tz 20 ?_;refine rz 21 fun K hK => ?_
      go_simp
      have HO6 := zh (HO5.out.alloc (.cells #[.string (str (x.text ++ 32 :: Ps.text L b))] 9));refine hK.out _ _ (fun _ => HSS.out _ HO6.out.bel HO6.out.tab (blk_alloc HB5.out _) HO6.out.s3.1) ?_;clear hK K hS;have hS := HSS.out _ HO6.out.bel HO6.out.tab (blk_alloc HB5.out _) HO6.out.s3.1;refine rz 22 fun K hK => ?_
      have hgl := gF_len (t := Ps.text L c) HF HL hD (k := k) (by omega);refine apQ (x.text ++ 32 :: Ps.text L b) (HO5.out.s3.at (Ps.text L c)) (by omega) HO5.out.bel.size (fun gg cap8 w8 hv8 hg8 hat8 => ?_);have HV8 := zh hv8;have HG8 := zh hg8;have HA8 := zh hat8;have HM8 := zh (HO6.out.mid hg8);clear hv8 hg8 hat8;refine hK.out _ _ (fun _ => HSS.out _ HM8.out.1 HM8.out.2.1 (HM8.out.2.2.2 _ _ _ (blk_alloc HB5.out _) (by decide)) HM8.out.2.2.1) ?_;clear hK K hS;refine rz 23 fun K hK => ?_
      refine putQ HM8.out.2.2.1 (by unfold maxLen; omega) Tryz.underlying121 (show (Ps.text L c).length ≤ maxLen by unfold maxLen; omega) (fun w9 hm9 hg9 => ?_);have HO9 : Hid (OfS w (.slice (some ⟨g, 0, none⟩) D.length vc) b1 b2 b3 tp D.length D.length (n3 + 1) M1 M2 _ (gF L (k + 1)) w9) := zh (by rw [HSA.out]; exact HO6.out.put3 HV8.out HG8.out (HA8.out.elim (fun e => .inl e.symm) fun e => .inr (by rw [e]; simp [Value.ownBlock])) hm9 hg9);clear hm9 hg9 HV8 HG8 HA8 HM8;refine hK.out _ _ (fun h => absurd rfl h) ?_;clear hK K;refine dz ?_;go_wp2
      go_roundg (D.length - k - 1)
      case rel => exact ⟨k + 1, n3 + 1, _, by omega, by simp, by omega, HO9⟩
      case measure => omega
     ·have b14 : (x.kind == 14) = false := by simpa using k14
      by_cases k12 : x.kind = 12
      ·have b12 : (x.kind == 12) = true := by simp [k12]
       have HMS : Hid (∀ j, j ∈ x.kids → (L.getD j Ps.noNd).kids ≠ []) := zh (HX.out.ms k12);have HLT := zh HX.out.lt;have HGE := zh (gI_end HLX.out k12);have hxt := HFX.out.1;have HOI : Hid (OfS w (.slice (some ⟨g, 0, none⟩) D.length vc) b1 b2 b3 tp D.length D.length n3 M1 M2 m3 (gI L k x 0) w2) := zh (by rw [gI_zero]; exact HO1.out);clear k12 k14;go_wp2_with fail
       rw [← HW2.out];go_wp2_with fail
       clear c0 c1 c2 c3 c4 q0 q3 q4 ql;obtain ⟨bx, hbx⟩ : ∃ z, wo.heap.size = z := ⟨_, rfl⟩;rw [hbx] at HB1 ⊢;clear hbx HW2 HO1 HGL
       go_loopg [99] x.kids.length (fun r i wr => ∃ (j n4 : Nat) (m4 : List UInt8 → Option Value), j + r = x.kids.length ∧ i = .int .i64 (j : Int) ∧ n4 ≤ k * 1000000 + j ∧ Hid (OfS w (.slice (some ⟨g, 0, none⟩) D.length vc) b1 b2 b3 tp D.length D.length n4 M1 M2 m4 (gI L k x j) wr) ∧ Hid (wr.heap[bx]? = some (.cells #[.int .i64 x.kind, .int .i64 x.pos, .int .i64 x.num, .string (str x.text), .slice ua x.kids.length uc] 41)))
       case atStart => exact ⟨0, n3, m3, by omega, rfl, Nat.le_trans hn3 (Nat.le_add_right _ _), HOI, HB1⟩
       case round =>
        obtain ⟨j, n4, m4, hj, rfl, hn4, HOj, HBj⟩ := hrel;generalize wr = wi at *
        by_cases hjl : j < x.kids.length
        ·have hji : (j : Int) < (x.kids.length : Int) := by omega
         have hj0 : (0 : Int) ≤ (j : Int) := by omega
         have hfk := HFX.out.2;have iw2 : IntKind.i64.wrap ((j : Int) + 1) = (j : Int) + 1 := IntWalk.i64_in _ (by omega);obtain ⟨g2, c2p, hg2⟩ := own_lit (HKV.out _ HOj.out.bel) (by omega)
         cases hg2
         have kc := kids_at (HKV.out _ HOj.out.bel) rfl hjl;have hjk := HLT.out _ (Ps.mem_getD hjl);have hms := HMS.out _ (Ps.mem_getD hjl);have HGS := zh (gI_step (L := L) (k := k) hjl);obtain ⟨a, ha0⟩ : ∃ a, x.kids.getD j 0 = a := ⟨_, rfl⟩;rw [ha0] at kc hjk hms HGS;clear ha0;obtain ⟨⟨y, uy⟩, hy⟩ : ∃ y, D[a]? = some y := ⟨_, List.getElem?_eq_getElem (by omega)⟩;have hLy : L[a]? = some y := by rw [HL.out, List.getElem?_map, hy]; rfl
         have hsig : sigT L a = y.text ++ 32 :: Ps.text L (y.kids.getD 0 0) := by unfold sigT; rw [Ps.getD_of hLy]
         rw [Ps.getD_of hLy] at hms;have hyt := (HF.out y (List.mem_of_getElem? hLy)).1;have hmy : (y, uy) ∈ D := List.mem_of_getElem? hy;have hyl : 0 < y.kids.length := List.length_pos_iff.2 hms;obtain ⟨g3, c3p, hg3⟩ := own_lit ((HND.out _ HOj.out.bel).kids _ hmy) (by omega);dsimp only at hg3;subst hg3;have hc0 := (HW.out a y hLy).lt _ (Ps.mem_getD hyl);have hyi : (0 : Int) < (y.kids.length : Int) := by omega
         have HNN : Hid (∀ v', Below w.heap.size w v' → v'.cell? ⟨g, a * 5 + 3, none⟩ = some (.string (str y.text)) ∧ v'.cell? ⟨g, a * 5 + 4, none⟩ = some (.slice (some ⟨g3, 0, none⟩) y.kids.length c3p) ∧ v'.cell? ⟨g3, 0, none⟩ = some (.int .i64 ((y.kids.getD 0 0 : Nat) : Int))) := zh fun v' hb => by
          obtain ⟨_, _, _, d3, d4⟩ := nodes_at (HND.out v' hb) rfl hy;exact ⟨d3, d4, kids_at ((HND.out v' hb).kids _ hmy) rfl hyl⟩
         obtain ⟨c, hcc⟩ : ∃ c, y.kids.getD 0 0 = c := ⟨_, rfl⟩;rw [hcc] at hsig hc0 HNN;clear hcc hms hy hLy hmy;have hak0 : (a : Int) < (D.length : Int) := by omega
         have ha00 : (0 : Int) ≤ (a : Int) := by omega
         have hTc := HS.out c;have s1 : ∀ w, (Op.stringOp .add (str y.text) ⟨#[32]⟩).run Tryz.prog w = .ok (.string (str (y.text ++ [32]))) w := fun w => add_str _ [32] _ w rfl (by rw [List.length_append]; show y.text.length + 1 ≤ _; omega)
         have s2 : ∀ w, (Op.stringOp .add (str (y.text ++ [32])) (str (Ps.text L c))).run Tryz.prog w = .ok (.string (str (sigT L a))) w := fun w => add_str (y.text ++ [32]) (Ps.text L c) (sigT L a) w (by rw [hsig]; simp) (by rw [hsig, List.length_append, List.length_cons]; omega)
         clear hsig;have HSS : Hid (∀ v', Below w.heap.size w v' → TabB v' tp (.slice (some ⟨g, 0, none⟩) D.length vc) (.map (some b1)) (.map (some b2)) (.map (some b3)) → v'.heap[bx]? = some (.cells #[.int .i64 x.kind, .int .i64 x.pos, .int .i64 x.num, .string (str x.text), .slice (some ⟨g2, 0, none⟩) x.kids.length uc] 41) → MapV v' b3 n4 m4 → (v'.cell? ⟨tp, 3, none⟩ = some (.map (some b3)) ∧ v'.cell? ⟨bx, 3, none⟩ = some (.string (str x.text)) ∧ (Instr.lookup 121 (.map (some b3)) (.string (str x.text)) false).run Tryz.prog v' = .ok ((m4 x.text).getD (.slice none 0 0)) v' ∧ v'.cell? ⟨g, a * 5 + 3, none⟩ = some (.string (str y.text)) ∧ v'.cell? ⟨g, a * 5 + 4, none⟩ = some (.slice (some ⟨g3, 0, none⟩) y.kids.length c3p) ∧ v'.cell? ⟨g3, 0, none⟩ = some (.int .i64 (c : Int)))) := zh fun v' h1 h2 h3 h4 => by
          have t3 := blk_cell h2 3;have r3 := blk_cell h3 3;simp only [List.getElem?_toArray, List.getElem?_cons_zero, List.getElem?_cons_succ] at t3 r3;exact ⟨t3, r3, h4.look1 Tryz.underlying121 (Tryz.zeroValue33 _) (by unfold maxLen; omega), HNN.out _ h1⟩
         go_wp2_with fail
         have HO4 := zh HOj.out.drew;refine wp_region_Z 31 (fun v' => (v'.cell? ⟨tp, 3, none⟩ = some (.map (some b3)) ∧ v'.cell? ⟨bx, 3, none⟩ = some (.string (str x.text)) ∧ (Instr.lookup 121 (.map (some b3)) (.string (str x.text)) false).run Tryz.prog v' = .ok ((m4 x.text).getD (.slice none 0 0)) v' ∧ v'.cell? ⟨g, a * 5 + 3, none⟩ = some (.string (str y.text)) ∧ v'.cell? ⟨g, a * 5 + 4, none⟩ = some (.slice (some ⟨g3, 0, none⟩) y.kids.length c3p) ∧ v'.cell? ⟨g3, 0, none⟩ = some (.int .i64 (c : Int)))) (HSS.out _ HO4.out.bel HO4.out.tab HBj.out HO4.out.s3.1) fun hS => ?_
         have HB4 : Hid (wi.drew.heap[bx]? = some (.cells #[.int .i64 x.kind, .int .i64 x.pos, .int .i64 x.num, .string (str x.text), .slice (some ⟨g2, 0, none⟩) x.kids.length uc] 41)) := zh HBj.out;generalize wi.drew = w4 at *;refine tz 0 ?_;refine tz 1 ?_;refine tz 2 ?_;refine tz 3 ?_;refine tz 4 ?_;refine tz 5 ?_;refine tz 6 ?_;refine tz 7 ?_;refine tz 8 ?_;refine tz 9 ?_
         refine tz 10 ?_;refine tz 11 ?_;refine tz 12 ?_;refine tz 13 ?_;refine tz 14 ?_;refine tz 15 ?_;refine tz 16 ?_;refine tz 17 ?_;refine tz 18 ?_;refine tz 19 ?_
         refine tz 20 ?_;refine tz 21 ?_;refine tz 22 ?_;refine tz 23 ?_;refine tz 24 ?_;refine tz 25 ?_;refine tz 26 ?_
         refine rz 27 fun K hK => ?_
         go_simp
         refine (ttext_any HW HS HL tp _ _ _ c _ _ (HND.out _ HO4.out.bel) (zh HO4.out.tab) (by omega)).mono ?_;rintro e w5 ⟨rfl, hb5⟩;have HO5 := zh (HO4.out.below hb5);have HB5 := zh (blk_below HB4.out hb5 (blk_lt HB4.out));clear hb5;go_wp2_with fail
         refine hK.out _ _ (fun _ => HSS.out _ HO5.out.bel HO5.out.tab HB5.out HO5.out.s3.1) ?_;clear hK K hS;have hS := HSS.out _ HO5.out.bel HO5.out.tab HB5.out HO5.out.s3.1;refine tz 28 ?_;refine rz 29 fun K hK => ?_
         go_simp
         have HO6 := zh (HO5.out.alloc (.cells #[.string (str (sigT L a))] 9));refine hK.out _ _ (fun _ => HSS.out _ HO6.out.bel HO6.out.tab (blk_alloc HB5.out _) HO6.out.s3.1) ?_;clear hK K hS;have hS := HSS.out _ HO6.out.bel HO6.out.tab (blk_alloc HB5.out _) HO6.out.s3.1;refine rz 30 fun K hK => ?_
         have hgl := gI_len (t := x.text) HF HL hD (k := k) (by omega) hfk j;refine apQ (sigT L a) (HO5.out.s3.at x.text) (by omega) HO5.out.bel.size (fun gg cap8 w8 hv8 hg8 hat8 => ?_);have HV8 := zh hv8;have HG8 := zh hg8;have HA8 := zh hat8;have HM8 := zh (HO6.out.mid hg8);clear hv8 hg8 hat8;have HB8 := zh (HM8.out.2.2.2 _ _ _ (blk_alloc HB5.out _) (by decide));refine hK.out _ _ (fun _ => HSS.out _ HM8.out.1 HM8.out.2.1 HB8.out HM8.out.2.2.1) ?_;clear hK K hS;refine rz 31 fun K hK => ?_
         refine putQ HM8.out.2.2.1 (by unfold maxLen; omega) Tryz.underlying121 (show x.text.length ≤ maxLen by unfold maxLen; omega) (fun w9 hm9 hg9 => ?_);have HO9 : Hid (OfS w (.slice (some ⟨g, 0, none⟩) D.length vc) b1 b2 b3 tp D.length D.length (n4 + 1) M1 M2 _ (gI L k x (j + 1)) w9) := zh (by rw [HGS.out]; exact HO6.out.put3 HV8.out HG8.out (HA8.out.elim (fun e => .inl e.symm) fun e => .inr (by rw [e]; simp [Value.ownBlock])) hm9 hg9);have HB9 : Hid (w9.heap[bx]? = some (.cells #[.int .i64 x.kind, .int .i64 x.pos, .int .i64 x.num, .string (str x.text), .slice (some ⟨g2, 0, none⟩) x.kids.length uc] 41)) := zh ((hg9.block bx (blk_lt HB8.out) (fun e => by
          cases e
          obtain ⟨es, cc, ho⟩ := HM8.out.2.2.1.obj;have h8 := HB8.out;rw [ho] at h8
          cases h8)).trans HB8.out)
         clear hm9 hg9 HV8 HG8 HA8 HM8;refine hK.out _ _ (fun h => absurd rfl h) ?_;clear hK K;refine dz ?_;go_wp2
         go_roundg (x.kids.length - j - 1)
         case rel => exact ⟨j + 1, n4 + 1, _, by omega, by simp, by omega, HO9, HB9⟩
         case measure => omega
        ·obtain rfl : j = x.kids.length := by omega
         have hji : ¬ (x.kids.length : Int) < (x.kids.length : Int) := by omega
         have hfk := HFX.out.2;have HO9 : Hid (OfS w (.slice (some ⟨g, 0, none⟩) D.length vc) b1 b2 b3 tp D.length D.length n4 M1 M2 m4 (gF L (k + 1)) wi) := zh (by rw [← HGE.out]; exact HOj.out);go_wp2
         go_roundg (D.length - k - 1)
         case rel => exact ⟨k + 1, n4, m4, by omega, by simp, by omega, HO9⟩
         case measure => omega
      ·have b12 : (x.kind == 12) = false := by simpa using k12
       have HO9 : Hid (OfS w (.slice (some ⟨g, 0, none⟩) D.length vc) b1 b2 b3 tp D.length D.length n3 M1 M2 m3 (gF L (k + 1)) w2) := zh (by rw [gF_same HLX.out k14 k12]; exact HO1.out);clear k12 k14;go_wp2_with fail
       rw [← HW2.out];go_wp2
       go_roundg (D.length - k - 1)
       case rel => exact ⟨k + 1, n3, m3, by omega, by simp, Nat.le_trans hn3 (Nat.mul_le_mul_right _ (Nat.le_succ k)), HO9⟩
       case measure => omega
    ·obtain rfl : k = D.length := by omega
     have hki : ¬ (D.length : Int) < (D.length : Int) := by omega
     have t3 := blk_cell HO.out.tab 3;have tl := blk_lt HO.out.tab;simp only [List.getElem?_toArray, List.getElem?_cons_zero, List.getElem?_cons_succ] at t3;obtain ⟨Dm, hDm, hD3⟩ := HO.out.s3.1;have HDM := zh hDm;have HD3 := zh hD3;have HGB := zh (fun t => gF_len (t := t) HF HL hD (Nat.le_refl D.length));have HGA : Hid (gF L D.length = methL L) := zh (gF_all (by rw [HL.out, List.length_map]));generalize gF L D.length = GL at *;clear hDm hD3 HO0;go_wp2_with (at_range; refine wpList_range_own _ rfl _ 121 rfl 9 33 skeyed Tryz.underlying121 hV b3 n3 Dm rfl HDM.out ?_; intro w0 hrg0 hg0 hs0; have HRG := zh hrg0; have HG0 := zh hg0; clear hrg0 hg0 hs0)
     go_loopg [12] (Maps.size Dm) (fun r _ wr => ∃ left : Lit → Bool, Hid (wr.ranges Tryz.prog 9 hV b3 wo.heap.size n3 Dm left r) ∧ Hid (OfS w (.slice va D.length vc) b1 b2 b3 tp D.length D.length n3 M1 M2 m3 (rowsG left GL) wr))
     case atStart => exact ⟨_, HRG, zh (by
      have e : rowsG (Maps.has Dm) GL = GL := by
       funext y
       unfold rowsG;rw [(HD3.out y).2]
       cases hm : m3 y with
       | none => rw [HO.out.s3.2.1 y hm]; rfl
       | some _ => rfl
      rw [e];exact HO.out.new HG0.out)⟩
     case round =>
      obtain ⟨left, HR, HOr⟩ := hrel;generalize wr = wi at *;go_wp2_with (at_next; refine wpList_next_ranges _ rfl _ rfl 9 skeyed hV (fun x : List UInt8 => Value.string (str x)) (fun x : Value => x) (fun key kl h => by obtain ⟨x, hx, _⟩ := key_str h; exact ⟨x, hx⟩) (fun v y _ => ⟨v, rfl⟩) b3 wo.heap.size n3 Dm _ _ rfl HR.out ?_ ?_)
      ·intro _ hl0;have HL0 := zh hl0
       clear hl0;go_wp2
       go_returns
       exact ⟨b1, b2, b3, tp, D.length, D.length, n3, m3, rfl, by
        have e : rowsG left GL = fun t => mF (methL L t) := by
         funext y
         unfold rowsG;rw [HL0.out, ← HGA.out]
         rfl
        rw [← hM1, ← hM2, ← e];exact HOr.out⟩
      ·intro x c kl y ps w1 cnt1 hkey hlk hRv hat hrg1 hlt hg1 hs1 hen;obtain ⟨x', ex, rfl⟩ := key_str hkey
       obtain rfl : x = x' := by
        have := congrArg (fun v => match v with | .string s => by_ s | _ => []) ex
        simpa [by_str] using this
       cases hRv
       have hm3 : m3 x = some c := dV_inj ((HD3.out x).1.symm.trans (hat .nil));have HO1 : Hid (OfS w (.slice va D.length vc) b1 b2 b3 tp D.length D.length n3 M1 M2 m3 (rowsG left GL) w1) := zh (by
        obtain ⟨_, _, _, _, _, _, _, _, _, hit, _⟩ := HR.out;exact HOr.out.iter ⟨_, _, _, _, hit⟩ HO.out.bel.size hg1)
       have hrow := HO1.out.s3.2.2.1 x c hm3;have hGx : rowsG left GL x = GL x := by unfold rowsG; rw [if_pos hlk]
       rw [hGx] at hrow;have HROW := zh hrow;have HM3 := zh hm3;have HRG1 := zh hrg1;clear hkey hlk hat hg1 hs1 hm3 hrow hGx hrg1 ex;have hgx := HGB.out x;go_wp2_with fail
       refine (sortV HROW.out.2 HROW.out.1 (by omega)).mono ?_;rintro e w2 ⟨rfl, hv2, hg2⟩;have HO2 : Hid (OfS w (.slice va D.length vc) b1 b2 b3 tp D.length D.length n3 M1 M2 m3 (rowsG (fun z => left z && !z.sameKey (.string x)) GL) w2) := zh (by
        rw [rowsG_step];exact HO1.out.turned HM3.out (fun e => HROW.out.1 (List.eq_nil_of_length_eq_zero (by rw [← mF_len, e]; rfl))) hv2 hg2)
       have HR2 : Hid (w2.ranges Tryz.prog 9 hV b3 wo.heap.size n3 Dm (fun z => left z && !z.sameKey (.string x)) cnt1) := zh (HRG1.out.kept hg2 (fun e => by
        obtain ⟨es, cc, ho⟩ := HO1.out.s3.1.obj;obtain ⟨g, cap, cur, hu, _, hb⟩ := TxtV.blk HROW.out.2 HROW.out.1;rw [hu] at e
        cases e
        rw [ho] at hb
        cases hb) (row_ne_iter HROW.out.2 HRG1.out))
       clear hv2 hg2 hen;go_wp2
       go_roundg cnt1
       case rel => exact ⟨_, HR2, HO2⟩
       case measure => omega
end
end Go.Proofs.YtjickecdkmljpaaGreatDoor
