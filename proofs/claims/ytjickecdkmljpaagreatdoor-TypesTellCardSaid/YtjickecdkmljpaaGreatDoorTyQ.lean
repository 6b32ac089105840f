/-
  PROVED HERE: PROVED HERE, WITHOUT ANY WALK: the nodes that a text is told as stand well, their texts are short. the program's Fits of a text. the program's Methods of a text. the program's Texts of a text. No condition beyond the lemmas' own premises.
-/
import Derived.Test.YtjickecdkmljpaaGreatDoorTyA
import Derived.Test.YtjickecdkmljpaaGreatDoorTyR
import Derived.Test.YtjickecdkmljpaaGreatDoorPsParse
import Derived.Test.YtjickecdkmljpaaGreatDoorPsTk
import Derived.Test.YtjickecdkmljpaaGreatDoorTyP
import Derived.Test.YtjickecdkmljpaaGreatDoorRsParse
import Derived.Laws.OwnMore
namespace Go.Proofs.YtjickecdkmljpaaGreatDoor
open Go.RowKit

/-- What is known of the nodes that are read. -/
structure GoodL (L : List Ps.Nd) : Prop where
 wf : Ps.Wf L
 txt : ∀ k, (Ps.text L k).length ≤ 100000000000
 nd : ∀ n ∈ L, n.text.length ≤ 100000000000 ∧ n.kids.length ≤ 1000000
 ne : ∀ n ∈ L, n.kind = 12 → n.text ≠ []
 len : L.length ≤ 1200
theorem parseR_good {S : ByteArray} {l : List Ps.Nd} (h : parseR S = .ok l) : GoodL l := by
 unfold parseR at h
 cases hs : Lx.scan (by_ S) with
 | error x => rw [hs] at h; cases h
 | ok t =>
  rw [hs] at h;dsimp only at h
  cases hp : Ps.parse ⟨t, S.size⟩ Ps.fuel with
  | out => rw [hp] at h; cases h
  | bad c p => rw [hp] at h; cases h
  | ok v s =>
   rw [hp] at h
   cases h
   unfold Ps.parse at hp
   cases hq : Ps.program ⟨t, S.size⟩ Ps.fuel with
   | out => rw [hq] at hp; cases hp
   | bad c p => rw [hq] at hp; cases hp
   | ok v1 s1 =>
    rw [hq, Ps.bind_ok] at hp
    by_cases hl : 1200 < s1.nodes.length
    ·rw [if_pos hl] at hp; cases hp
    rw [if_neg hl] at hp
    cases hp
    have ht := Ps.toks_tx (X := ⟨t, S.size⟩) (Ps.scan_ok hs);obtain ⟨h1, h2⟩ := Ps.program_wf (D := 6008) (by omega) (fun s => by have := (ht s).1; omega) hq;have h3 := Ps.program_bd ht hq;refine ⟨h1, fun k => ?_, fun n hn => ⟨by have := (h3 n hn).1; omega, Nat.le_trans (h3 n hn).2.1 (by decide)⟩, fun n hn => (h3 n hn).2.2, by omega⟩
    by_cases hk : k < s.nodes.length
    ·have h4 := h2 k hk;have h5 : 6008 * (k + 1) ≤ 6008 * 1200 := Nat.mul_le_mul_left _ (by omega)
     omega
    ·rw [Ps.text_eq h1, Ps.getD_none (by omega)];exact Nat.zero_le _
theorem GoodL.nil : GoodL [] := ⟨Ps.Wf.nil, fun k => by rw [Ps.text_eq Ps.Wf.nil, Ps.getD_none (Nat.zero_le _)]; exact Nat.zero_le _, (fun n h => by cases h), (fun n h => by cases h), Nat.zero_le _⟩
/-- Nothing is declared as an interface without a name. -/
theorem GoodL.noname {L : List Ps.Nd} (h : GoodL L) : declN L 12 [] = -1 := declN_none fun i y hy => by
 by_cases e : y.kind = 12
 ·have := h.ne y (List.mem_of_getElem? hy) e;simp [this]
 ·simp [e]
/-- How a text is told: the fault, its place; the nodes. -/
def codeOf (S : ByteArray) : Int × Nat := match parseR S with
 | .ok _ => (0, 0)
 | .error x => x
def nodesOf (S : ByteArray) : List Ps.Nd := match parseR S with
 | .ok l => l
 | .error _ => []
theorem nodesOf_good (S : ByteArray) : GoodL (nodesOf S) := by
 unfold nodesOf
 cases h : parseR S with
 | ok l => exact parseR_good h
 | error x => exact GoodL.nil
def ParseU (S : ByteArray) (w : World) (e : Ending) (w' : World) : Prop :=
 Below w.heap.size w w' ∧ ∃ v D, e = .returned (.tuple #[v, .agg #[.int .i64 (codeOf S).1, .int .i64 ((codeOf S).2 : Int)]]) ∧ NodesV w.heap.size w' v D ∧ nodesOf S = D.map (·.1)
theorem parse_u {S : ByteArray} {w w' : World} {e : Ending} (h : ParsePost S w e w') : ParseU S w e w' := by
 obtain ⟨hb, h⟩ := h;refine ⟨hb, ?_⟩;unfold codeOf nodesOf
 cases hp : parseR S with
 | ok l =>
  rw [hp] at h;obtain ⟨v, D, h1, h2, h3, _⟩ := h;exact ⟨v, D, h1, h2, h3⟩
 | error x =>
  rw [hp] at h;exact ⟨_, [], h, ⟨World.ownsRow_nil _ _ _ _, fun x hx => by cases hx⟩, rfl⟩
/-- The texts of all nodes that are types'. -/
def textOne (L : List Ps.Nd) (k : Nat) : List UInt8 := if (L.getD k Ps.noNd).kind ≤ 8 ∧ (L.getD k Ps.noNd).kind ≠ 7 then Ps.text L k else []
def textsOf (L : List Ps.Nd) : List (List UInt8) := (List.range L.length).map (textOne L)
end Go.Proofs.YtjickecdkmljpaaGreatDoor
namespace Go.Proofs.YtjickecdkmljpaaGreatDoor
open Go.RowKit

def ParseC (f : FuncId) : Prop := ∀ (B : Nat) (w : World) (S : ByteArray), Tabs B w → B ≤ w.heap.size → S.size ≤ maxLen → Calls Tryz.prog f #[.string S] w (ParseU S w)
def fitsU (S : ByteArray) (fr ty : List UInt8) : Bool := if (codeOf S).1 = 0 then fitsF (nodesOf S) fr ty else false
def faultV (S : ByteArray) : Value := .agg #[.int .i64 (codeOf S).1, .int .i64 ((codeOf S).2 : Int)]
set_option maxRecDepth 100000 in
set_option maxHeartbeats 2000000 in
theorem tyfits_any (HPa : Hid (ParseC 8)) (w : World) (S : ByteArray) (hT : Tabs w.heap.size w) (hm : S.size ≤ maxLen) {fr ty : List UInt8} (hfr : fr.length ≤ maxLen) (hty : ty.length ≤ maxLen) :
  Calls Tryz.prog 15 #[.string S, .string (str fr), .string (str ty)] w fun e w' => e = .returned (.tuple #[.bool (fitsU S fr ty), faultV S]) ∧ Below w.heap.size w w' := by
 have HT := zh hT;have HG := zh (nodesOf_good S);clear hT
 go_enter Tryz.func15, Tryz.ntmps15
 go_wp2_with fail
 have HF0 := zh (blk_new w (.cells #[.int .i64 0, .int .i64 0] 25));have hb0 : Below w.heap.size w (w.alloc (.cells #[.int .i64 0, .int .i64 0] 25)) := (Below.refl _ _).alloc (Nat.le_refl _) _;have hz0 : (w.alloc (.cells #[.int .i64 0, .int .i64 0] 25)).heap.size = w.heap.size + 1 := by simp
 generalize (w.alloc (.cells #[.int .i64 0, .int .i64 0] 25)) = w0 at *;have HB0 := zh hb0;clear hb0;refine (HPa.out w.heap.size w0 S (HT.out.below HB0.out (Nat.le_refl _)) (by omega) hm).mono ?_;rintro e w1 ⟨hb1, v, D, rfl, hD, hL⟩;have HF1 := zh (blk_below HF0.out hb1 (by omega));have HB1 := zh (HB0.out.trans (hb1.mono (by omega)));have hz1 := hb1.size;have HL := zh hL;have HD := zh hD;have hR : fitsU S fr ty = if (codeOf S).1 = 0 then fitsF (nodesOf S) fr ty else false := rfl
 have hFV : faultV S = .agg #[.int .i64 (codeOf S).1, .int .i64 ((codeOf S).2 : Int)] := rfl;generalize (codeOf S).1 = c at *;generalize (codeOf S).2 = p at *;have HR := zh hR;have HFV := zh hFV;clear hb1 hL hD hR hFV;have HF2 := zh (blk_alloc HF1.out (.cells #[.int .i64 c, .int .i64 (p : Int)] 25));have HG2 := zh (blk_new w1 (.cells #[.int .i64 c, .int .i64 (p : Int)] 25));have HB2 := zh (HB1.out.alloc (by omega) (.cells #[.int .i64 c, .int .i64 (p : Int)] 25));have HD2 : Hid (NodesV w0.heap.size (w1.alloc (.cells #[.int .i64 c, .int .i64 (p : Int)] 25)) v D) := zh (HD.out.further ((Below.refl _ _).alloc (Nat.le_refl _) _));have hqw : w.heap.size ≠ w1.heap.size := by omega
 by_cases hc : c = 0
 ·have hcb : (c != 0) = false := by simpa using hc
  have HR2 : Hid (fitsU S fr ty = fitsF (nodesOf S) fr ty) := zh (by rw [HR.out, if_pos hc]);have hDl : D.length ≤ 10000 := by have := HG.out.len; rw [HL.out, List.length_map] at this; omega
  clear hc;go_wp2_with fail
  generalize (w1.alloc (.cells #[.int .i64 c, .int .i64 (p : Int)] 25)) = w2 at *;have HFd : Hid (w2.drew.heap[w.heap.size]? = some (.cells #[.int .i64 0, .int .i64 0] 25 (0, 0))) := HF2;have HGd : Hid (w2.drew.heap[w1.heap.size]? = some (.cells #[.int .i64 c, .int .i64 (p : Int)] 25 (0, 0))) := HG2;have HBd := zh HB2.out.drew;have HDd := zh (HD2.out.further (Below.refl _ _).drew);obtain ⟨q, hq⟩ : ∃ q, w1.heap.size = q := ⟨_, rfl⟩;rw [hq] at HGd hqw ⊢;have HSS : Hid (∀ v' : World, v'.heap[q]? = some (.cells #[.int .i64 c, .int .i64 (p : Int)] 25 (0, 0)) → (v'.cell? ⟨q, 0, none⟩ = some (.int .i64 c) ∧ v'.cell? ⟨q, 1, none⟩ = some (.int .i64 (p : Int)))) := zh fun v' h => by
   have g0 := blk_cell h 0;have g1 := blk_cell h 1;simp only [List.getElem?_toArray, List.getElem?_cons_zero, List.getElem?_cons_succ] at g0 g1;exact ⟨g0, g1⟩
  refine wp_region_Z 7 (fun v' => (v'.cell? ⟨q, 0, none⟩ = some (.int .i64 c) ∧ v'.cell? ⟨q, 1, none⟩ = some (.int .i64 (p : Int)))) (HSS.out _ HGd.out) fun hS => ?_
  generalize w2.drew = w3 at *;refine tz 0 ?_;refine tz 2 ?_;refine tz 3 ?_;refine tz 5 ?_
  refine rz 1 fun K hK => ?_
  go_simp
  refine (tof_any (zh HG.out.wf) (zh HG.out.txt) HL (zh HG.out.nd) hDl HDd.out).mono ?_;rintro e w4 ⟨b1, b2, b3, tp, n1, n2, n3, m3, rfl, hO⟩;have HO := zh hO;have HG4 := zh (blk_below HGd.out hO.bel (blk_lt HGd.out));have HF4 := zh (blk_below HFd.out hO.bel (blk_lt HFd.out));have HB4 := zh (HBd.out.trans (hO.bel.mono HBd.out.size));clear hO;go_wp2_with fail
  refine hK.out _ _ (fun _ => HSS.out _ HG4.out) ?_;clear hK K hS;have hS := HSS.out _ HG4.out;refine rz 4 fun K hK => ?_
  go_simp
  refine (tfits_any (by rw [HL.out, List.length_map]) HO.out hfr hty).mono ?_;rintro e w5 ⟨rfl, hb5⟩;have HG5 := zh (blk_below HG4.out hb5 (blk_lt HG4.out));have HF5 := zh (blk_below HF4.out hb5 (blk_lt HF4.out));have HB5 := zh (HB4.out.trans (hb5.mono HB4.out.size));clear hb5;go_wp2_with fail
  refine hK.out _ _ (fun _ => HSS.out _ HG5.out) ?_;clear hK K hS;have hS := HSS.out _ HG5.out;refine tz 6 ?_;refine rz 7 fun K hK => ?_
  have f0f := blk_free HF5.out 0;have f1f := blk_free HF5.out 1;have f0 := blk_cell HF5.out 0;have f1 := blk_cell HF5.out 1;have hfl := blk_lt HF5.out;simp only [List.getElem?_toArray, List.getElem?_cons_zero, List.getElem?_cons_succ] at f0 f1;have HL2 := zh (R.two_lay HF5.out (.int .i64 c) (.int .i64 (p : Int)));have k1 := blk_cell HL2.out.1 0;have k2 := blk_cell HL2.out.1 1;have hx2 := blk_lt HL2.out.1;simp only [List.getElem?_toArray, List.getElem?_cons_zero, List.getElem?_cons_succ] at k1 k2;have HB6 := zh (HB5.out.trans (HL2.out.2.1 w.heap.size (Nat.le_refl _)))
  go_simp
  refine hK.out _ _ (fun h => absurd rfl h) ?_;clear hK K;refine dz ?_;generalize ((w5.setCell ⟨w.heap.size, 0, none⟩ (.int .i64 c)).setCell ⟨w.heap.size, 1, none⟩ (.int .i64 (p : Int))) = w6 at *;go_wp2
  refine bodyPost_ret (v := .tuple #[.bool (fitsF (nodesOf S) fr ty), .agg #[.int .i64 c, .int .i64 (p : Int)]]) (by simp [results, Tryz.results15, go_sem, k1, k2]) rfl ?_;exact ⟨by rw [HR2.out, HFV.out], HB6.out⟩
 ·have hcb : (c != 0) = true := by simpa using hc
  have HR2 : Hid (fitsU S fr ty = false) := zh (by rw [HR.out, if_neg hc]);clear hc;go_wp2_with fail
  generalize (w1.alloc (.cells #[.int .i64 c, .int .i64 (p : Int)] 25)) = w2 at *;have f0f := blk_free HF2.out 0;have f1f := blk_free HF2.out 1;have f0 := blk_cell HF2.out 0;have f1 := blk_cell HF2.out 1;have g0 := blk_cell HG2.out 0;have g1 := blk_cell HG2.out 1;have hfl := blk_lt HF2.out;have hgl := blk_lt HG2.out;simp only [List.getElem?_toArray, List.getElem?_cons_zero, List.getElem?_cons_succ] at f0 f1 g0 g1
  go_still_tail 2, (by kernel_rfl)
  change wpList _ _ _ _ _ w2.drew
  clear f0f f1f f0 f1 g0 g1 hfl hgl;have HF3 : Hid (w2.drew.heap[w.heap.size]? = some (.cells #[.int .i64 0, .int .i64 0] 25 (0, 0))) := HF2;have HB3 := zh HB2.out.drew;generalize w2.drew = w3 at *;clear HF2 HG2 HB2 HD2;have f0f := blk_free HF3.out 0;have f1f := blk_free HF3.out 1;have f0 := blk_cell HF3.out 0;have f1 := blk_cell HF3.out 1;have hfl := blk_lt HF3.out;simp only [List.getElem?_toArray, List.getElem?_cons_zero, List.getElem?_cons_succ] at f0 f1;have HL2 := zh (R.two_lay HF3.out (.int .i64 c) (.int .i64 (p : Int)));have k1 := blk_cell HL2.out.1 0;have k2 := blk_cell HL2.out.1 1;have hx2 := blk_lt HL2.out.1;simp only [List.getElem?_toArray, List.getElem?_cons_zero, List.getElem?_cons_succ] at k1 k2;have HB5 := zh (HB3.out.trans (HL2.out.2.1 w.heap.size (Nat.le_refl _)));go_wp2_with fail
  generalize ((w3.setCell ⟨w.heap.size, 0, none⟩ (.int .i64 c)).setCell ⟨w.heap.size, 1, none⟩ (.int .i64 (p : Int))) = w5 at *;refine bodyPost_ret (v := .tuple #[.bool false, .agg #[.int .i64 c, .int .i64 (p : Int)]]) (by simp [results, Tryz.results15, go_sem, k1, k2]) rfl ?_;exact ⟨by rw [HR2.out, HFV.out], HB5.out⟩
end Go.Proofs.YtjickecdkmljpaaGreatDoor
namespace Go.Proofs.YtjickecdkmljpaaGreatDoor
open Go.RowKit

def methU (S : ByteArray) (ty : List UInt8) : List (List UInt8) := if (codeOf S).1 = 0 then pM (nodesOf S) ty else []
theorem pM_len {L : List Ps.Nd} {D : List (Ps.Nd × Value)} {ty : List UInt8} (HF : Hid (∀ n ∈ L, n.text.length ≤ 100000000000 ∧ n.kids.length ≤ 1000000)) (HL : Hid (L = D.map (·.1))) (hD : D.length ≤ 10000) : (pM L ty).length ≤ 10000000000 := by
 have := mlen (ty := ty) HF HL hD;unfold pM
 split
 ·exact this
 ·exact Nat.zero_le _
/-- slices.Clone of a row of texts. -/
theorem clone_any {N : Nat} {w : World} {u : Value} {l : List (List UInt8)} (h : TxtV N w u l) (hl : l.length ≤ 1000000000000) : Calls Tryz.prog 34 #[u] w fun e w' => (∃ v, e = .returned v ∧ TxtV w.heap.size w' v l) ∧ Below w.heap.size w w' := by
 rcases Nat.eq_zero_or_pos l.length with h0 | h0
 ·have hn := List.length_eq_zero_iff.1 h0;obtain ⟨a, c, rfl⟩ := own_slice h rfl
  subst hn
  cases a with
  | none =>
   refine (Tryz.slices_Clone_string_nil _ c w).mono ?_;rintro e w' ⟨rfl, rfl⟩;exact ⟨⟨_, rfl, World.ownsRow_nil _ _ _ _⟩, Below.refl _ _⟩
  | some a =>
   refine (Tryz.slices_Clone_string_zero a c w).mono ?_;rintro e w' ⟨v', rfl, h1, _, hb⟩;exact ⟨⟨_, rfl, h1⟩, hb⟩
 ·obtain ⟨g, c, rfl⟩ := own_lit h h0;refine (Tryz.slices_Clone_string g 0 l.length c (l.map str) w (by simp) (by omega) (fun j hj => ?_)).mono ?_
  ·rw [List.length_map] at hj;rw [Nat.zero_add, txt_at h rfl hj]
   simp [List.getD_eq_getElem?_getD, List.getElem?_eq_getElem hj]
  ·rintro e w' ⟨v', rfl, h1, _, hb⟩;refine ⟨⟨_, rfl, ?_⟩, hb⟩
   rw [List.take_of_length_le (by simp), List.map_map] at h1;exact h1
set_option maxRecDepth 100000 in
set_option maxHeartbeats 2000000 in
theorem tymeth_any (HPa : Hid (ParseC 8)) (w : World) (S : ByteArray) (hT : Tabs w.heap.size w) (hm : S.size ≤ maxLen) {ty : List UInt8} (hty : ty.length ≤ maxLen) :
  Calls Tryz.prog 14 #[.string S, .string (str ty)] w fun e w' => (∃ u, e = .returned (.tuple #[u, faultV S]) ∧ TxtV w.heap.size w' u (methU S ty)) ∧ Below w.heap.size w w' := by
 have HT := zh hT;have HG := zh (nodesOf_good S);clear hT
 go_enter Tryz.func14, Tryz.ntmps14
 go_wp2_with fail
 have HF0 := zh (blk_new w (.cells #[.int .i64 0, .int .i64 0] 25));have hb0 : Below w.heap.size w (w.alloc (.cells #[.int .i64 0, .int .i64 0] 25)) := (Below.refl _ _).alloc (Nat.le_refl _) _;have hz0 : (w.alloc (.cells #[.int .i64 0, .int .i64 0] 25)).heap.size = w.heap.size + 1 := by simp
 generalize (w.alloc (.cells #[.int .i64 0, .int .i64 0] 25)) = w0 at *;have HB0 := zh hb0;clear hb0;refine (HPa.out w.heap.size w0 S (HT.out.below HB0.out (Nat.le_refl _)) (by omega) hm).mono ?_;rintro e w1 ⟨hb1, v, D, rfl, hD, hL⟩;have HF1 := zh (blk_below HF0.out hb1 (by omega));have HB1 := zh (HB0.out.trans (hb1.mono (by omega)));have hz1 := hb1.size;have HL := zh hL;have HD := zh hD;have hR : methU S ty = if (codeOf S).1 = 0 then pM (nodesOf S) ty else [] := rfl
 have hFV : faultV S = .agg #[.int .i64 (codeOf S).1, .int .i64 ((codeOf S).2 : Int)] := rfl;generalize (codeOf S).1 = c at *;generalize (codeOf S).2 = p at *;have HR := zh hR;have HFV := zh hFV;clear hb1 hL hD hR hFV;have HF2 := zh (blk_alloc HF1.out (.cells #[.int .i64 c, .int .i64 (p : Int)] 25));have HG2 := zh (blk_new w1 (.cells #[.int .i64 c, .int .i64 (p : Int)] 25));have HB2 := zh (HB1.out.alloc (by omega) (.cells #[.int .i64 c, .int .i64 (p : Int)] 25));have HD2 : Hid (NodesV w0.heap.size (w1.alloc (.cells #[.int .i64 c, .int .i64 (p : Int)] 25)) v D) := zh (HD.out.further ((Below.refl _ _).alloc (Nat.le_refl _) _));have hqw : w.heap.size ≠ w1.heap.size := by omega
 by_cases hc : c = 0
 ·have hcb : (c != 0) = false := by simpa using hc
  have HR2 : Hid (methU S ty = pM (nodesOf S) ty) := zh (by rw [HR.out, if_pos hc]);have hDl : D.length ≤ 10000 := by have := HG.out.len; rw [HL.out, List.length_map] at this; omega
  clear hc;go_wp2_with fail
  generalize (w1.alloc (.cells #[.int .i64 c, .int .i64 (p : Int)] 25)) = w2 at *;have HFd : Hid (w2.drew.heap[w.heap.size]? = some (.cells #[.int .i64 0, .int .i64 0] 25 (0, 0))) := HF2;have HGd : Hid (w2.drew.heap[w1.heap.size]? = some (.cells #[.int .i64 c, .int .i64 (p : Int)] 25 (0, 0))) := HG2;have HBd := zh HB2.out.drew;have HDd := zh (HD2.out.further (Below.refl _ _).drew);obtain ⟨q, hq⟩ : ∃ q, w1.heap.size = q := ⟨_, rfl⟩;rw [hq] at HGd hqw ⊢;have HSS : Hid (∀ v' : World, v'.heap[q]? = some (.cells #[.int .i64 c, .int .i64 (p : Int)] 25 (0, 0)) → (v'.cell? ⟨q, 0, none⟩ = some (.int .i64 c) ∧ v'.cell? ⟨q, 1, none⟩ = some (.int .i64 (p : Int)))) := zh fun v' h => by
   have g0 := blk_cell h 0;have g1 := blk_cell h 1;simp only [List.getElem?_toArray, List.getElem?_cons_zero, List.getElem?_cons_succ] at g0 g1;exact ⟨g0, g1⟩
  refine wp_region_Z 7 (fun v' => (v'.cell? ⟨q, 0, none⟩ = some (.int .i64 c) ∧ v'.cell? ⟨q, 1, none⟩ = some (.int .i64 (p : Int)))) (HSS.out _ HGd.out) fun hS => ?_
  generalize w2.drew = w3 at *;refine tz 0 ?_;refine tz 2 ?_;refine tz 5 ?_
  refine rz 1 fun K hK => ?_
  go_simp
  refine (tof_any (zh HG.out.wf) (zh HG.out.txt) HL (zh HG.out.nd) hDl HDd.out).mono ?_;rintro e w4 ⟨b1, b2, b3, tp, n1, n2, n3, m3, rfl, hO⟩;have HO := zh hO;have HG4 := zh (blk_below HGd.out hO.bel (blk_lt HGd.out));have HF4 := zh (blk_below HFd.out hO.bel (blk_lt HFd.out));have HB4 := zh (HBd.out.trans (hO.bel.mono HBd.out.size));clear hO;go_wp2_with fail
  refine hK.out _ _ (fun _ => HSS.out _ HG4.out) ?_;clear hK K hS;have hS := HSS.out _ HG4.out;refine rz 3 fun K hK => ?_
  go_simp
  refine (tmeth_any (by rw [HL.out, List.length_map]) HO.out hty).mono ?_;rintro e w9 ⟨⟨u, rfl, hu⟩, h9⟩;obtain rfl : w4 = w9 := h9.symm;have HU := zh hu;clear hu;go_wp2_with fail
  refine hK.out _ _ (fun _ => hS) ?_;clear hK K;refine rz 4 fun K hK => ?_
  go_simp
  refine (clone_any HU.out (by have := pM_len (ty := ty) (zh HG.out.nd) HL hDl; omega)).mono ?_;rintro e w5 ⟨⟨u5, rfl, hu5⟩, hb5⟩;have HU5 := zh hu5;have HG5 := zh (blk_below HG4.out hb5 (blk_lt HG4.out));have HF5 := zh (blk_below HF4.out hb5 (blk_lt HF4.out));have HB5 := zh (HB4.out.trans (hb5.mono HB4.out.size));have HZ4 := zh HB4.out.size;clear hb5 hu5;go_wp2_with fail
  refine hK.out _ _ (fun _ => HSS.out _ HG5.out) ?_;clear hK K hS;have hS := HSS.out _ HG5.out;refine tz 6 ?_;refine rz 7 fun K hK => ?_
  have f0f := blk_free HF5.out 0;have f1f := blk_free HF5.out 1;have f0 := blk_cell HF5.out 0;have f1 := blk_cell HF5.out 1;have hfl := blk_lt HF5.out;simp only [List.getElem?_toArray, List.getElem?_cons_zero, List.getElem?_cons_succ] at f0 f1;have HL2 := zh (R.two_lay HF5.out (.int .i64 c) (.int .i64 (p : Int)));have k1 := blk_cell HL2.out.1 0;have k2 := blk_cell HL2.out.1 1;have hx2 := blk_lt HL2.out.1;simp only [List.getElem?_toArray, List.getElem?_cons_zero, List.getElem?_cons_succ] at k1 k2;have HB6 := zh (HB5.out.trans (HL2.out.2.1 w.heap.size (Nat.le_refl _)))
  go_simp
  refine hK.out _ _ (fun h => absurd rfl h) ?_;clear hK K;refine dz ?_;have HU6 := zh (HL2.out.2.2 _ _ _ _ _ _ (by decide) HU5.out);generalize ((w5.setCell ⟨w.heap.size, 0, none⟩ (.int .i64 c)).setCell ⟨w.heap.size, 1, none⟩ (.int .i64 (p : Int))) = w6 at *;go_wp2
  refine bodyPost_ret (v := .tuple #[u5, .agg #[.int .i64 c, .int .i64 (p : Int)]]) (by simp [results, Tryz.results14, go_sem, k1, k2]) rfl ?_;exact ⟨⟨u5, by rw [HFV.out], by rw [HR2.out]; exact owns_base HU6.out HZ4.out⟩, HB6.out⟩
 ·have hcb : (c != 0) = true := by simpa using hc
  have HR2 : Hid (methU S ty = []) := zh (by rw [HR.out, if_neg hc]);clear hc;go_wp2_with fail
  generalize (w1.alloc (.cells #[.int .i64 c, .int .i64 (p : Int)] 25)) = w2 at *;have f0f := blk_free HF2.out 0;have f1f := blk_free HF2.out 1;have f0 := blk_cell HF2.out 0;have f1 := blk_cell HF2.out 1;have g0 := blk_cell HG2.out 0;have g1 := blk_cell HG2.out 1;have hfl := blk_lt HF2.out;have hgl := blk_lt HG2.out;simp only [List.getElem?_toArray, List.getElem?_cons_zero, List.getElem?_cons_succ] at f0 f1 g0 g1
  go_still_tail 2, (by kernel_rfl)
  change wpList _ _ _ _ _ w2.drew
  clear f0f f1f f0 f1 g0 g1 hfl hgl;have HF3 : Hid (w2.drew.heap[w.heap.size]? = some (.cells #[.int .i64 0, .int .i64 0] 25 (0, 0))) := HF2;have HB3 := zh HB2.out.drew;generalize w2.drew = w3 at *;clear HF2 HG2 HB2 HD2;have f0f := blk_free HF3.out 0;have f1f := blk_free HF3.out 1;have f0 := blk_cell HF3.out 0;have f1 := blk_cell HF3.out 1;have hfl := blk_lt HF3.out;simp only [List.getElem?_toArray, List.getElem?_cons_zero, List.getElem?_cons_succ] at f0 f1;have HL2 := zh (R.two_lay HF3.out (.int .i64 c) (.int .i64 (p : Int)));have k1 := blk_cell HL2.out.1 0;have k2 := blk_cell HL2.out.1 1;have hx2 := blk_lt HL2.out.1;simp only [List.getElem?_toArray, List.getElem?_cons_zero, List.getElem?_cons_succ] at k1 k2;have HB5 := zh (HB3.out.trans (HL2.out.2.1 w.heap.size (Nat.le_refl _)));go_wp2_with fail
  generalize ((w3.setCell ⟨w.heap.size, 0, none⟩ (.int .i64 c)).setCell ⟨w.heap.size, 1, none⟩ (.int .i64 (p : Int))) = w5 at *;refine bodyPost_ret (v := .tuple #[.slice none 0 0, .agg #[.int .i64 c, .int .i64 (p : Int)]]) (by simp [results, Tryz.results14, go_sem, k1, k2]) rfl ?_;exact ⟨⟨_, by rw [HFV.out], by rw [HR2.out]; exact World.ownsRow_nil _ _ _ _⟩, HB5.out⟩
end Go.Proofs.YtjickecdkmljpaaGreatDoor
namespace Go.Proofs.YtjickecdkmljpaaGreatDoor
open Go.RowKit

def textsU (S : ByteArray) : List (List UInt8) := if (codeOf S).1 = 0 then textsOf (nodesOf S) else []
/-- The texts, as far as they have been laid. -/
def rowT (L : List Ps.Nd) (k : Nat) : List (List UInt8) := (textsOf L).take k ++ List.replicate (L.length - k) []
theorem textsOf_len (L : List Ps.Nd) : (textsOf L).length = L.length := by unfold textsOf; rw [List.length_map, List.length_range]
theorem rowT_len {L : List Ps.Nd} {k : Nat} (h : k ≤ L.length) : (rowT L k).length = L.length := by
 unfold rowT;rw [List.length_append, List.length_take, List.length_replicate, textsOf_len];omega
theorem rowT_zero {L : List Ps.Nd} : rowT L 0 = List.replicate L.length [] := by simp [rowT]
theorem rowT_end {L : List Ps.Nd} {k : Nat} (h : k = L.length) : rowT L k = textsOf L := by
 subst h;unfold rowT;rw [Nat.sub_self, List.replicate_zero, List.append_nil, List.take_of_length_le (by rw [textsOf_len]; exact Nat.le_refl _)]
theorem rowT_set {L : List Ps.Nd} {k : Nat} (h : k < L.length) : (rowT L k).set k (textOne L k) = rowT L (k + 1) := by
 have hl := textsOf_len L;have h1 : ((textsOf L).take k).length = k := by rw [List.length_take]; omega
 have h2 : L.length - k = (L.length - (k + 1)) + 1 := by omega
 unfold rowT;rw [List.set_append, if_neg (show ¬ k < ((textsOf L).take k).length by omega), h1, Nat.sub_self, h2, List.replicate_succ, List.set_cons_zero, List.take_add_one, List.getElem?_eq_getElem (by omega)];simp [textsOf]
theorem rowT_skip {L : List Ps.Nd} {k : Nat} (h : k < L.length) (ht : textOne L k = []) : rowT L k = rowT L (k + 1) := by
 rw [← rowT_set h, ht];have h1 : ((textsOf L).take k).length = k := by have := textsOf_len L; rw [List.length_take]; omega
 have h2 : L.length - k = (L.length - (k + 1)) + 1 := by omega
 unfold rowT;rw [List.set_append, if_neg (show ¬ k < ((textsOf L).take k).length by omega), h1, Nat.sub_self, h2, List.replicate_succ, List.set_cons_zero]
set_option maxRecDepth 100000 in
set_option maxHeartbeats 2000000 in
theorem tytexts_any (HPa : Hid (ParseC 8)) (w : World) (S : ByteArray) (hT : Tabs w.heap.size w) (hm : S.size ≤ maxLen) :
  Calls Tryz.prog 13 #[.string S] w fun e w' => (∃ u, e = .returned (.tuple #[u, faultV S]) ∧ TxtV w.heap.size w' u (textsU S)) ∧ Below w.heap.size w w' := by
 have HT := zh hT;have HG := zh (nodesOf_good S);clear hT
 go_enter Tryz.func13, Tryz.ntmps13
 go_wp2_with fail
 have HF0 := zh (blk_new w (.cells #[.int .i64 0, .int .i64 0] 25));have hb0 : Below w.heap.size w (w.alloc (.cells #[.int .i64 0, .int .i64 0] 25)) := (Below.refl _ _).alloc (Nat.le_refl _) _;have hz0 : (w.alloc (.cells #[.int .i64 0, .int .i64 0] 25)).heap.size = w.heap.size + 1 := by simp
 generalize (w.alloc (.cells #[.int .i64 0, .int .i64 0] 25)) = w0 at *;have HB0 := zh hb0;clear hb0;refine (HPa.out w.heap.size w0 S (HT.out.below HB0.out (Nat.le_refl _)) (by omega) hm).mono ?_;rintro e w1 ⟨hb1, v, D, rfl, hD, hL⟩;have HF1 := zh (blk_below HF0.out hb1 (by omega));have HB1 := zh (HB0.out.trans (hb1.mono (by omega)));have hz1 := hb1.size;have HL := zh hL;have HD := zh hD;have hR : textsU S = if (codeOf S).1 = 0 then textsOf (nodesOf S) else [] := rfl
 have hFV : faultV S = .agg #[.int .i64 (codeOf S).1, .int .i64 ((codeOf S).2 : Int)] := rfl;generalize (codeOf S).1 = c at *;generalize (codeOf S).2 = p at *;have HR := zh hR;have HFV := zh hFV;clear hb1 hL hD hR hFV;have HF2 := zh (blk_alloc HF1.out (.cells #[.int .i64 c, .int .i64 (p : Int)] 25));have HG2 := zh (blk_new w1 (.cells #[.int .i64 c, .int .i64 (p : Int)] 25));have HB2 := zh (HB1.out.alloc (by omega) (.cells #[.int .i64 c, .int .i64 (p : Int)] 25));have HD2 : Hid (NodesV w0.heap.size (w1.alloc (.cells #[.int .i64 c, .int .i64 (p : Int)] 25)) v D) := zh (HD.out.further ((Below.refl _ _).alloc (Nat.le_refl _) _));have hqw : w.heap.size ≠ w1.heap.size := by omega
 by_cases hc : c = 0
 ·have hcb : (c != 0) = false := by simpa using hc
  have HR2 : Hid (textsU S = textsOf (nodesOf S)) := zh (by rw [HR.out, if_pos hc]);have hDl : D.length ≤ 10000 := by have := HG.out.len; rw [HL.out, List.length_map] at this; omega
  clear hc;go_wp2_with fail
  generalize (w1.alloc (.cells #[.int .i64 c, .int .i64 (p : Int)] 25)) = w2 at *;obtain ⟨q, hq⟩ : ∃ q, w1.heap.size = q := ⟨_, rfl⟩;rw [hq] at HG2 hqw ⊢;refine (tof_any (zh HG.out.wf) (zh HG.out.txt) HL (zh HG.out.nd) hDl HD2.out).mono ?_;rintro e w4 ⟨b1, b2, b3, tp, n1, n2, n3, m3, rfl, hO⟩;have HO := zh hO;have HG4 := zh (blk_below HG2.out hO.bel (blk_lt HG2.out));have HF4 := zh (blk_below HF2.out hO.bel (blk_lt HF2.out));have HB4 := zh (HB2.out.trans (hO.bel.mono HB2.out.size));have HD4 := zh (HD2.out.further hO.bel);have HZ4 := zh HB4.out.size;clear hO HG2 HF2 HB2 HD2;obtain ⟨va, vc, rfl⟩ := own_slice HD4.out.row rfl;obtain ⟨i0, hi, hz, hsz, hby⟩ := info_parts str_info;obtain ⟨w5, hrun, hown, hgr⟩ := run_makeSlice_full (P := Tryz.prog) (w := w4) w4.heap.size 33 9 i0 (.string ByteArray.empty) 1 Tryz.underlying33 hi hz hsz .i64 .i64 D.length (by omega) (by rw [hby]; omega) (by unfold maxLen; omega) (Nat.le_refl _)
  have HBn : Hid (Below w4.heap.size w4 w5) := zh ((Below.refl w4.heap.size w4).grown hgr (Nat.le_refl _) (by intro k hk; cases hk));have HLn : Hid ((nodesOf S).length = D.length) := zh (by rw [HL.out, List.length_map]);have HU0 : Hid (TxtV w4.heap.size w5 (.slice (some ⟨w4.heap.size, 0, none⟩) D.length D.length) (rowT (nodesOf S) 0)) := zh (by
   rw [rowT_zero, HLn.out];unfold TxtV;rw [List.length_replicate, List.map_replicate];have h := hown;rw [Nat.mul_one, show (Value.string ByteArray.empty).cells = #[Value.string ByteArray.empty] from rfl, toList_madeCells_one] at h;exact h)
  obtain ⟨g, hg⟩ : ∃ g, w4.heap.size = g := ⟨_, rfl⟩;rw [hg] at HU0 hrun;clear hown hgr hi hz hsz hby;go_wp2_with fail
  clear hrun
  go_loopg [26] D.length (fun r i wr => ∃ k : Nat, k + r = D.length ∧ i = .int .i64 (k : Int) ∧ Hid (Below w4.heap.size w4 wr) ∧ Hid (TxtV g wr (.slice (some ⟨g, 0, none⟩) D.length D.length) (rowT (nodesOf S) k)))
  case atStart => exact ⟨0, by omega, rfl, HBn, HU0⟩
  case round =>
   obtain ⟨k, hk, rfl, HBr, HUr⟩ := hrel;generalize wr = wo at *
   by_cases hkD : k < D.length
   ·have hki : (k : Int) < (D.length : Int) := by omega
    have hk0 : (0 : Int) ≤ (k : Int) := by omega
    have iw : IntKind.i64.wrap ((k : Int) + 1) = (k : Int) + 1 := IntWalk.i64_in _ (by omega);obtain ⟨⟨x, u⟩, hx⟩ : ∃ x, D[k]? = some x := ⟨_, List.getElem?_eq_getElem hkD⟩;have hLx : (nodesOf S)[k]? = some x := by rw [HL.out, List.getElem?_map, hx]; rfl
    have HND := zh (HD4.out.further HBr.out);obtain ⟨g1, cap1, hg1⟩ := own_lit HND.out.row (by omega)
    cases hg1
    obtain ⟨c0, c1, c2, c3, c4⟩ := nodes_at HND.out rfl hx;have hkv : KidsV w0.heap.size wo u x.kids := HND.out.kids _ (List.mem_of_getElem? hx);dsimp only at c0 c1 c2 c3 c4;obtain ⟨ua, uc, rfl⟩ := own_slice hkv rfl;have HTX : Hid (textOne (nodesOf S) k = if x.kind ≤ 8 ∧ x.kind ≠ 7 then Ps.text (nodesOf S) k else []) := zh (by unfold textOne; rw [Ps.getD_of hLx]);have HRS := zh (rowT_set (L := nodesOf S) (k := k) (by rw [HLn.out]; exact hkD));clear hx hLx hkv;have HB1x : Hid (Below w4.heap.size w4 (wo.alloc (.cells #[.int .i64 x.kind, .int .i64 x.pos, .int .i64 x.num, .string (str x.text), .slice ua x.kids.length uc] 41))) := zh (HBr.out.trans (((Below.refl wo.heap.size wo).alloc (Nat.le_refl _) _).mono HBr.out.size));have HU1x : Hid (TxtV g (wo.alloc (.cells #[.int .i64 x.kind, .int .i64 x.pos, .int .i64 x.num, .string (str x.text), .slice ua x.kids.length uc] 41)) (.slice (some ⟨g, 0, none⟩) D.length D.length) (rowT (nodesOf S) k)) := zh (World.ownsRow.alloc HUr.out _)
    by_cases hyes : x.kind ≤ 8 ∧ x.kind ≠ 7
    ·have h8 : decide (x.kind ≤ 8) = true := by simpa using hyes.1
     have h7 : (x.kind != 7) = true := by simpa using hyes.2
     have HT2 : Hid (textOne (nodesOf S) k = Ps.text (nodesOf S) k) := zh (HTX.out.trans (if_pos hyes));clear hyes;go_wp2_with fail
     clear c0 c1 c2 c3 c4;generalize (wo.alloc (.cells #[.int .i64 x.kind, .int .i64 x.pos, .int .i64 x.num, .string (str x.text), .slice ua x.kids.length uc] 41)) = w6 at *;refine (ttext_any (zh HG.out.wf) (zh HG.out.txt) HL tp _ _ _ k _ _ (HD4.out.further HB1x.out) (zh (HO.out.below HB1x.out).tab) hkD).mono ?_;rintro e w7 ⟨rfl, hb7⟩;have HB7 := zh (HB1x.out.trans (hb7.mono HB1x.out.size));have HU7 : Hid (TxtV g w7 (.slice (some ⟨g, 0, none⟩) D.length D.length) (rowT (nodesOf S) k)) := zh (own_below HU1x.out hb7 fun k hk => (World.ownsRow.lt HU1x.out k hk).2);clear hb7;have z0 := txt_at HU7.out rfl (show k < (rowT (nodesOf S) k).length by rw [rowT_len (by rw [HLn.out]; omega), HLn.out]; exact hkD);have zf := World.ownsRow.frozenAt (show w7.ownsRow g 9 1 (.slice (some ⟨g, 0, none⟩) D.length D.length) D.length _ from by have h := HU7.out; unfold TxtV at h; rwa [rowT_len (by rw [HLn.out]; omega), HLn.out] at h) k
     have HS8 : Hid (TxtV g (w7.setCell ⟨g, k, none⟩ (.string (str (Ps.text (nodesOf S) k)))) (.slice (some ⟨g, 0, none⟩) D.length D.length) (rowT (nodesOf S) (k + 1)) ∧ w7.grownBy (w7.setCell ⟨g, k, none⟩ (.string (str (Ps.text (nodesOf S) k)))) (some g)) := zh (by
      have h := HU7.out;unfold TxtV at h ⊢;rw [rowT_len (by rw [HLn.out]; omega), HLn.out] at h ⊢;obtain ⟨h1, h2⟩ := World.ownsRow.stored h k (.string (str (Ps.text (nodesOf S) k)));refine ⟨?_, h2⟩;rw [← HRS.out, HT2.out, List.map_set];exact h1)
     have HB8 : Hid (Below w4.heap.size w4 (w7.setCell ⟨g, k, none⟩ (.string (str (Ps.text (nodesOf S) k))))) := zh (HB7.out.grown HS8.out.2 HB7.out.size (by intro k hk; cases hk; omega));go_wp2_with fail
     clear z0 zf;generalize (w7.setCell ⟨g, k, none⟩ (.string (str (Ps.text (nodesOf S) k)))) = w8 at *
     go_roundg (D.length - k - 1)
     case rel => exact ⟨k + 1, by omega, by simp, HB8, zh HS8.out.1⟩
     case measure => omega
    ·have HT2 : Hid (textOne (nodesOf S) k = []) := zh (HTX.out.trans (if_neg hyes));have HU8 : Hid (TxtV g (wo.alloc (.cells #[.int .i64 x.kind, .int .i64 x.pos, .int .i64 x.num, .string (str x.text), .slice ua x.kids.length uc] 41)) (.slice (some ⟨g, 0, none⟩) D.length D.length) (rowT (nodesOf S) (k + 1))) := zh (by rw [← rowT_skip (by rw [HLn.out]; exact hkD) HT2.out]; exact HU1x.out)
     by_cases h8 : x.kind ≤ 8
     ·have b8 : decide (x.kind ≤ 8) = true := by simpa using h8
      have b7 : (x.kind != 7) = false := by
       have : x.kind = 7 := by
        by_cases e : x.kind = 7
        ·exact e
        ·exact absurd ⟨h8, e⟩ hyes
       simp [this]
      clear hyes h8;go_wp2
      go_roundg (D.length - k - 1)
      case rel => exact ⟨k + 1, by omega, by simp, HB1x, HU8⟩
      case measure => omega
     ·have b8 : decide (x.kind ≤ 8) = false := by simpa using h8
      clear hyes h8;go_wp2
      go_roundg (D.length - k - 1)
      case rel => exact ⟨k + 1, by omega, by simp, HB1x, HU8⟩
      case measure => omega
   ·obtain rfl : k = D.length := by omega
    have hki : ¬ (D.length : Int) < (D.length : Int) := by omega
    have HF5 := zh (blk_below HF4.out HBr.out (blk_lt HF4.out));have HG5 := zh (blk_below HG4.out HBr.out (blk_lt HG4.out));have HB5 := zh (HB4.out.trans (HBr.out.mono HB4.out.size));have HUE : Hid (TxtV g wo (.slice (some ⟨g, 0, none⟩) D.length D.length) (textsOf (nodesOf S))) := zh (by rw [← rowT_end HLn.out.symm]; exact HUr.out);have g0 := blk_cell HG5.out 0;have g1 := blk_cell HG5.out 1;have hgl := blk_lt HG5.out;simp only [List.getElem?_toArray, List.getElem?_cons_zero, List.getElem?_cons_succ] at g0 g1;go_wp2_with fail
    go_still_tail 3, (by kernel_rfl)
    change wpList _ _ _ _ _ wo.drew
    clear g0 g1 hgl;have HF6 : Hid (wo.drew.heap[w.heap.size]? = some (.cells #[.int .i64 0, .int .i64 0] 25 (0, 0))) := HF5;have HB6 := zh HB5.out.drew;have HU6 : Hid (TxtV g wo.drew (.slice (some ⟨g, 0, none⟩) D.length D.length) (textsOf (nodesOf S))) := HUE;generalize wo.drew = w9 at *;have f0f := blk_free HF6.out 0;have f1f := blk_free HF6.out 1;have f0 := blk_cell HF6.out 0;have f1 := blk_cell HF6.out 1;have hfl := blk_lt HF6.out;simp only [List.getElem?_toArray, List.getElem?_cons_zero, List.getElem?_cons_succ] at f0 f1;have HL2 := zh (R.two_lay HF6.out (.int .i64 c) (.int .i64 (p : Int)));have k1 := blk_cell HL2.out.1 0;have k2 := blk_cell HL2.out.1 1;have hx2 := blk_lt HL2.out.1;simp only [List.getElem?_toArray, List.getElem?_cons_zero, List.getElem?_cons_succ] at k1 k2;have HB7 := zh (HB6.out.trans (HL2.out.2.1 w.heap.size (Nat.le_refl _)));have HU7 := zh (HL2.out.2.2 _ _ _ _ _ _ (by decide) HU6.out)
    go_wp2_with fail
    generalize ((w9.setCell ⟨w.heap.size, 0, none⟩ (.int .i64 c)).setCell ⟨w.heap.size, 1, none⟩ (.int .i64 (p : Int))) = w10 at *;refine bodyPost_ret (v := .tuple #[.slice (some ⟨g, 0, none⟩) D.length D.length, .agg #[.int .i64 c, .int .i64 (p : Int)]]) (by simp [results, Tryz.results13, go_sem, k1, k2]) rfl ?_;exact ⟨⟨_, by rw [HFV.out], by rw [HR2.out]; exact owns_base HU7.out (by rw [← hg]; exact HZ4.out)⟩, HB7.out⟩
 ·have hcb : (c != 0) = true := by simpa using hc
  have HR2 : Hid (textsU S = []) := zh (by rw [HR.out, if_neg hc]);clear hc;go_wp2_with fail
  generalize (w1.alloc (.cells #[.int .i64 c, .int .i64 (p : Int)] 25)) = w2 at *;have f0f := blk_free HF2.out 0;have f1f := blk_free HF2.out 1;have f0 := blk_cell HF2.out 0;have f1 := blk_cell HF2.out 1;have g0 := blk_cell HG2.out 0;have g1 := blk_cell HG2.out 1;have hfl := blk_lt HF2.out;have hgl := blk_lt HG2.out;simp only [List.getElem?_toArray, List.getElem?_cons_zero, List.getElem?_cons_succ] at f0 f1 g0 g1
  go_still_tail 2, (by kernel_rfl)
  change wpList _ _ _ _ _ w2.drew
  clear f0f f1f f0 f1 g0 g1 hfl hgl;have HF3 : Hid (w2.drew.heap[w.heap.size]? = some (.cells #[.int .i64 0, .int .i64 0] 25 (0, 0))) := HF2;have HB3 := zh HB2.out.drew;generalize w2.drew = w3 at *;clear HF2 HG2 HB2 HD2;have f0f := blk_free HF3.out 0;have f1f := blk_free HF3.out 1;have f0 := blk_cell HF3.out 0;have f1 := blk_cell HF3.out 1;have hfl := blk_lt HF3.out;simp only [List.getElem?_toArray, List.getElem?_cons_zero, List.getElem?_cons_succ] at f0 f1;have HL2 := zh (R.two_lay HF3.out (.int .i64 c) (.int .i64 (p : Int)));have k1 := blk_cell HL2.out.1 0;have k2 := blk_cell HL2.out.1 1;have hx2 := blk_lt HL2.out.1;simp only [List.getElem?_toArray, List.getElem?_cons_zero, List.getElem?_cons_succ] at k1 k2;have HB5 := zh (HB3.out.trans (HL2.out.2.1 w.heap.size (Nat.le_refl _)));go_wp2_with fail
  generalize ((w3.setCell ⟨w.heap.size, 0, none⟩ (.int .i64 c)).setCell ⟨w.heap.size, 1, none⟩ (.int .i64 (p : Int))) = w5 at *;refine bodyPost_ret (v := .tuple #[.slice none 0 0, .agg #[.int .i64 c, .int .i64 (p : Int)]]) (by simp [results, Tryz.results13, go_sem, k1, k2]) rfl ?_;exact ⟨⟨_, by rw [HFV.out], by rw [HR2.out]; exact World.ownsRow_nil _ _ _ _⟩, HB5.out⟩
end Go.Proofs.YtjickecdkmljpaaGreatDoor
