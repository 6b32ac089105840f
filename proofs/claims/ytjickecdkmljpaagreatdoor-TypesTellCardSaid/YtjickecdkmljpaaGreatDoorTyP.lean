/-
  PROVED HERE: the program's Table.Methods; slices.IndexFunc and slices.ContainsFunc over rows of texts, whatever test is handed to them. the program's Table.Fits. No condition beyond the lemmas' own premises.
-/
import Derived.Test.YtjickecdkmljpaaGreatDoorPsTk
import Derived.Test.YtjickecdkmljpaaGreatDoorTyP4
import Derived.Test.YtjickecdkmljpaaGreatDoorPsC
namespace Go.Proofs.YtjickecdkmljpaaGreatDoor
open Go.RowKit

theorem TxtV.new (w : World) (l : List (List UInt8)) (hl : l.length ≤ 100) : TxtV w.heap.size (w.alloc (.cells (l.map fun x => Value.string (str x)).toArray 9)) (.slice (some ⟨w.heap.size, 0, none⟩) l.length l.length) l :=
 ⟨by simp, .inr ⟨_, _, _, rfl, Nat.le_refl _, blk_new _ _, Nat.le_refl _, by unfold maxLen; omega, by simp, by rw [Nat.mul_one]; exact List.take_of_length_le (by simp)⟩⟩
/-- A function value that tells p of a text, in whatever world behind w. -/
def TestS (w : World) (i : FuncId) (cs : Array Value) (p : List UInt8 → Bool) : Prop :=
 (∀ args w, (callFunc i args).run Tryz.prog w = .ok (.enter i args) w) ∧ ∀ (x : List UInt8) (y : World), Below w.heap.size w y → Calls Tryz.prog i (#[.string (str x)] ++ cs) y fun e w' => e = .returned (.bool (p x)) ∧ Below y.heap.size y w'
theorem anyT_hit {l : List (List UInt8)} {p : List UInt8 → Bool} {k : Nat} (hk : k < l.length) (h : p (l.getD k []) = true) : l.any p = true := by
 rw [List.getD_eq_getElem?_getD, List.getElem?_eq_getElem hk] at h;exact List.any_eq_true.2 ⟨l[k], List.getElem_mem hk, h⟩
theorem anyT_miss {l : List (List UInt8)} {p : List UInt8 → Bool} {k : Nat} (hk : k < l.length) (h0 : (l.take k).any p = false) (h : p (l.getD k []) = false) : (l.take (k + 1)).any p = false := by
 rw [take_snoc hk, List.any_append, h0]
 simpa using h
section
variable {N : Nat} {w : World} {u : Value} {l : List (List UInt8)}
set_option maxRecDepth 100000 in
set_option maxHeartbeats 2000000 in
theorem index_txt (i : FuncId) (cs : Array Value) (p : List UInt8 → Bool) (hl : TxtV N w u l) (hf : TestS w i cs p) : Calls Tryz.prog 127 #[u, .func (.func i) #[] cs] w (IdxPost (l.any p) w) := by
 obtain ⟨ua, uc, rfl⟩ := own_slice hl rfl;have hm := hl.max;have HL := zh hl;have hcall := hf.1;have HF := zh hf.2;clear hl hf
 go_enter Tryz.func127, Tryz.ntmps127
 go_wp2
 go_loopw [8] (fun i wr => Hid (Below w.heap.size w wr) ∧ ∃ k : Nat, k ≤ l.length ∧ i = .int .i64 k ∧ Hid ((l.take k).any p = false)) (fun i _ => l.length - (intOf i).toNat)
 case atStart => exact ⟨zh (Below.refl _ _), 0, by omega, rfl, zh (by simp)⟩
 case round =>
  obtain ⟨HB, k, hk, rfl, Hk⟩ := hrel
  by_cases hkl : k < l.length
  ·have HLR : Hid (TxtV N wr (.slice ua l.length uc) l) := zh (own_below HL.out HB.out fun k hk => (World.ownsRow.lt HL.out k hk).2);obtain ⟨g, cap, hg⟩ := own_lit HLR.out (by omega)
   cases hg
   have ck := txt_at HLR.out rfl hkl;have hit := zh (fun h : p (l.getD k []) = true => anyT_hit hkl h);have miss := zh (fun h : p (l.getD k []) = false => anyT_miss hkl Hk.out h);generalize l.getD k [] = x at *;have b1 : (0 : Int) ≤ (k : Int) := by omega
   have b2 : (k : Int) < (l.length : Int) := by omega
   have hcx := zh (HF.out x wr HB.out)
   cases hp : p x with
   | true =>
    rw [hp] at hcx;have hh := zh (hit.out hp);go_wp2_with (refine hcx.out.mono ?_; rintro e w5 ⟨rfl, hb5⟩; have HB5 := zh hb5; clear hb5)
    go_returns
    exact ⟨⟨k, rfl, by rw [hh.out]; simp⟩, HB.out.trans (HB5.out.mono HB.out.size)⟩
   | false =>
    rw [hp] at hcx;have hh := zh (miss.out hp);go_wp2_with (refine hcx.out.mono ?_; rintro e w5 ⟨rfl, hb5⟩; have HB5 := zh hb5; clear hb5)
    go_roundw
    case rel => exact ⟨zh (HB.out.trans (HB5.out.mono HB.out.size)), k + 1, by omega, by go_num, hh⟩
    case measure => simp [intOf]; omega
  ·obtain rfl : k = l.length := by omega
   have hh : Hid (l.any p = false) := zh (by have := Hk.out; rwa [List.take_length] at this);go_wp2
   go_returns
   exact ⟨⟨-1, rfl, by rw [hh.out]; rfl⟩, HB.out⟩
set_option maxRecDepth 100000 in
theorem contains_txt (i : FuncId) (cs : Array Value) (p : List UInt8 → Bool) (hl : TxtV N w u l) (hf : TestS w i cs p) : Calls Tryz.prog 69 #[u, .func (.func i) #[] cs] w fun e w' => e = .returned (.bool (l.any p)) ∧ Below w.heap.size w w' := by
 have HI := zh (index_txt i cs p hl hf);obtain ⟨ua, uc, rfl⟩ := own_slice hl rfl;clear hl hf
 go_enter Tryz.func69, Tryz.ntmps69
 go_wp2_with (go_at_call 127; refine HI.out.mono ?_; rintro e w5 ⟨⟨n, rfl, hn⟩, hb5⟩; have HB5 := zh hb5; have Hn := zh hn; clear hb5 hn)
 go_returns
 rw [← Hn.out];exact ⟨by simp, HB5.out⟩
end
theorem prefT_is (s p : List UInt8) : p.isPrefixOf s = begT s p := by
 unfold begT;rw [Bool.eq_iff_iff, List.isPrefixOf_iff_prefix, List.prefix_iff_eq_take, Bool.and_eq_true, decide_eq_true_iff, beq_iff_eq]
 constructor
 ·intro h;refine ⟨?_, h.symm⟩
  have := congrArg List.length h;rw [List.length_take] at this;omega
 ·rintro ⟨_, h⟩;exact h.symm
theorem hp_any (s p : List UInt8) (w : World) : Calls Tryz.prog 68 #[.string (str s), .string (str p)] w fun e w' => e = .returned (.bool (begT s p)) ∧ w' = w := by
 rw [← prefT_is];exact Tryz.strings_HasPrefix (str s) (str p) w
theorem trim_any (s : List UInt8) (w : World) : Calls Tryz.prog 71 #[.string (str s), .string ⟨#[42]⟩] w fun e w' => e = .returned (.string (str (if begT s [42] then s.drop 1 else s))) ∧ w' = w := by
 refine (Tryz.strings_TrimPrefix (str s) ⟨#[42]⟩ w).mono ?_;rintro e w' ⟨rfl, rfl⟩;refine ⟨?_, rfl⟩;have h : Lib.trimPrefix s [42] = if begT s [42] then s.drop 1 else s := by
  unfold Lib.trimPrefix Lib.hasPrefix;rw [prefT_is]
  rfl
 rw [← h]
 rfl
/-- The methods that the program tells. -/
def pM (L : List Ps.Nd) (typ : List UInt8) : List (List UInt8) := if (decide (0 ≤ declN L 12 typ) || begT typ [42]) = true then mF (methL L typ) else []
section
variable {L : List Ps.Nd} {w0 : World} {v : Value} {b1 b2 b3 tp n1 n2 n3 k : Nat} {m3 : List UInt8 → Option Value} {w : World}
theorem OfS.drewN {m1 m2 : List UInt8 → Option Value} {G : List UInt8 → List (List UInt8)} (h : OfS w0 v b1 b2 b3 tp n1 n2 n3 m1 m2 m3 G w) (n : Nat) : OfS w0 v b1 b2 b3 tp n1 n2 n3 m1 m2 m3 G (w.drewN n) := h.below (below_drewN (Below.refl _ _) n)
set_option maxRecDepth 100000 in
set_option maxHeartbeats 2000000 in
theorem tmeth_any (hk : k = L.length) (h : OfS w0 v b1 b2 b3 tp n1 n2 n3 (fM L 10 k) (fM L 12 k) m3 (fun t => mF (methL L t)) w) {typ : List UInt8} (ht : typ.length ≤ maxLen) :
  Calls Tryz.prog 35 #[.pointer (some ⟨tp, 0, none⟩), .string (str typ)] w fun e w' => (∃ u, e = .returned u ∧ TxtV w0.heap.size w u (pM L typ)) ∧ w' = w := by
 subst hk;have t2 := blk_cell h.tab 2;have t3 := blk_cell h.tab 3;have tl := blk_lt h.tab;simp only [List.getElem?_toArray, List.getElem?_cons_zero, List.getElem?_cons_succ] at t2 t3;have c2 := h.s2.look2 Tryz.underlying82 (Tryz.zeroValue3 w) ht;have c3 := h.s3.1.look1 Tryz.underlying121 (Tryz.zeroValue33 w) ht;have HR := zh (h.s3.at typ);rw [fM_all] at c2;have HP : Hid (pM L typ = if (decide (0 ≤ declN L 12 typ) || begT typ [42]) = true then mF (methL L typ) else []) := zh rfl;generalize (fM L 12 L.length typ).getD (.int .i64 0) = V at *;generalize decide (0 ≤ declN L 12 typ) = I at *;generalize (m3 typ).getD (.slice none 0 0) = R at *;have HC := zh (hp_any typ [42] w);generalize begT typ [42] = B at *;clear h
 cases I with
 | true =>
  go_enter Tryz.func35, Tryz.ntmps35
  go_wp2
  go_returns
  exact ⟨⟨_, rfl, by rw [HP.out]; exact HR.out⟩, rfl⟩
 | false =>
  cases B with
  | true =>
   go_enter Tryz.func35, Tryz.ntmps35
   go_wp2_with fail
   refine HC.out.mono ?_;rintro e w1 ⟨rfl, rfl⟩;go_wp2
   go_returns
   exact ⟨⟨_, rfl, by rw [HP.out]; exact HR.out⟩, rfl⟩
  | false =>
   go_enter Tryz.func35, Tryz.ntmps35
   go_wp2_with fail
   refine HC.out.mono ?_;rintro e w1 ⟨rfl, rfl⟩;go_wp2
   go_returns
   exact ⟨⟨_, rfl, by rw [HP.out]; exact World.ownsRow_nil _ _ _ _⟩, rfl⟩
end
end Go.Proofs.YtjickecdkmljpaaGreatDoor
namespace Go.Proofs.YtjickecdkmljpaaGreatDoor
open Go.RowKit

theorem f1_test {w : World} {q : Nat} {ty : List UInt8} (h : w.heap[q]? = some (.cells #[.string (str ty)] 9 (0, 0))) : TestS w 70 #[.pointer (some ⟨q, 0, none⟩)] (begT ty) := by
 refine ⟨fun _ _ => by kernel_rfl, fun x y hb => ?_⟩;have c := blk_cell (blk_below h hb (blk_lt h)) 0;simp only [List.getElem?_toArray, List.getElem?_cons_zero] at c;clear h hb
 go_enter Tryz.func70, Tryz.ntmps70
 go_wp2_with (go_at_call 68; refine (hp_any ty x _).mono ?_; rintro e w1 ⟨rfl, rfl⟩)
 go_returns
 exact ⟨rfl, Below.refl _ _⟩
theorem cont_any {N : Nat} {w : World} {u : Value} {l : List (List UInt8)} (h : TxtV N w u l) (x : List UInt8) : Calls Tryz.prog 73 #[u, .string (str x)] w fun e w' => e = .returned (.bool (l.any fun b => b == x)) ∧ w' = w := by
 have hm := h.max;rcases Nat.eq_zero_or_pos l.length with h0 | h0
 ·obtain ⟨a, c, rfl⟩ := own_slice h rfl;rw [h0, List.length_eq_zero_iff.1 h0]
  exact Tryz.slices_Contains_string_empty a c (str x) w
 ·obtain ⟨g, c, rfl⟩ := own_lit h h0;refine (Tryz.slices_Contains_string g 0 l.length c (l.map str) (str x) w (by simp) (by omega) (fun j hj => ?_)).mono ?_
  ·rw [List.length_map] at hj;rw [Nat.zero_add, txt_at h rfl hj]
   simp [List.getD_eq_getElem?_getD, List.getElem?_eq_getElem hj]
  ·rintro e w' ⟨rfl, rfl⟩;refine ⟨?_, rfl⟩
   rw [List.take_of_length_le (by simp), contains_has]
   congr 2
   unfold hasB;rw [Bool.eq_iff_iff, List.contains_iff_mem, List.any_eq_true];exact ⟨fun h => ⟨x, h, by simp⟩, fun ⟨b, hb, e⟩ => by rw [eq_of_beq e] at hb; exact hb⟩
theorem f2_test {w : World} {q N : Nat} {u : Value} {l : List (List UInt8)} (h : w.heap[q]? = some (.cells #[u] 33 (0, 0))) (hu : TxtV N w u l) : TestS w 72 #[.pointer (some ⟨q, 0, none⟩)] (fun x => !(l.any fun b => b == x)) := by
 refine ⟨fun _ _ => by kernel_rfl, fun x y hb => ?_⟩;have c := blk_cell (blk_below h hb (blk_lt h)) 0;simp only [List.getElem?_toArray, List.getElem?_cons_zero] at c;have HC := zh (cont_any (own_below hu hb fun k hk => (World.ownsRow.lt hu k hk).2) x);obtain ⟨a, cc, rfl⟩ := own_slice hu rfl;clear h hb hu
 go_enter Tryz.func72, Tryz.ntmps72
 go_wp2_with (go_at_call 73; refine HC.out.mono ?_; rintro e w1 ⟨rfl, rfl⟩)
 go_returns
 exact ⟨rfl, Below.refl _ _⟩
section
variable {L : List Ps.Nd} {w0 : World} {v : Value} {b1 b2 b3 tp n1 n2 n3 k : Nat} {m3 : List UInt8 → Option Value} {w : World}
theorem all_not {l l2 : List (List UInt8)} : (!(l2.any fun a => !(l.any fun b => b == a))) = l2.all fun a => l.any fun b => b == a := by
 rw [List.not_any_eq_all_not];simp
set_option maxRecDepth 100000 in
set_option maxHeartbeats 8000000 in
theorem tfits_any (hk : k = L.length) (h : OfS w0 v b1 b2 b3 tp n1 n2 n3 (fM L 10 k) (fM L 12 k) m3 (fun t => mF (methL L t)) w) {fr ty : List UInt8} (hfr : fr.length ≤ maxLen) (hty : ty.length ≤ maxLen) :
  Calls Tryz.prog 36 #[.pointer (some ⟨tp, 0, none⟩), .string (str fr), .string (str ty)] w fun e w' => e = .returned (.bool (fitsF L fr ty)) ∧ Below w.heap.size w w' := by
 have HO0 := zh h;have HK := zh hk;have HB1 : Hid (Below w.heap.size w (w.alloc (.cells #[.string (str ty)] 9))) := zh ((Below.refl _ _).alloc (Nat.le_refl _) _);have HQ1 := zh (blk_new w (.cells #[.string (str ty)] 9));have HO1 := zh (h.alloc (.cells #[.string (str ty)] 9));have HLK : Hid (∀ (n : Nat) (s : List UInt8) (x : World), s.length ≤ maxLen → Below w.heap.size w x → (Instr.lookup 82 (.map (some b2)) (.string (str s)) true).run Tryz.prog (x.drewN n) = .ok (.tuple #[(fM L 12 k s).getD (.int .i64 0), .bool (decide (0 ≤ declN L 12 s))]) (x.drewN n)) := zh fun n s x hs hb => by
  rw [← fM_all, ← HK.out];exact ((HO0.out.below hb).drewN n).s2.look2 Tryz.underlying82 (Tryz.zeroValue3 _) hs
 have HLS : Hid (∀ (n : Nat) (s : List UInt8) (x : World), s.length ≤ maxLen → Below w.heap.size w x → (Instr.lookup 82 (.map (some b1)) (.string (str s)) true).run Tryz.prog (x.drewN n) = .ok (.tuple #[(fM L 10 k s).getD (.int .i64 0), .bool (decide (0 ≤ declN L 10 s))]) (x.drewN n)) := zh fun n s x hs hb => by
  rw [← fM_all, ← HK.out];exact ((HO0.out.below hb).drewN n).s1.look2 Tryz.underlying82 (Tryz.zeroValue3 _) hs
 clear h hk;have c1 := fun n => HLK.out n ty _ hty HB1.out
 have hwl : w.heap.size < (w.alloc (.cells #[.string (str ty)] 9)).heap.size := by simp
 generalize hw1 : w.alloc (.cells #[.string (str ty)] 9) = w1 at *;have t1 := blk_cell HO1.out.tab 1;have t2 := blk_cell HO1.out.tab 2;have tl := blk_lt HO1.out.tab;have q0 := blk_cell HQ1.out 0;simp only [List.getElem?_toArray, List.getElem?_cons_zero, List.getElem?_cons_succ] at t1 t2 q0
 go_enter Tryz.func36, Tryz.ntmps36
 go_wp2_with fail
 clear hw1;go_quiet (fail)
 clear c1 t1 t2 tl q0 hwl;have HQ2 : Hid ((w1.drewN nq).heap[w.heap.size]? = some (.cells #[.string (str ty)] 9 (0, 0))) := HQ1;have HB2 := zh (below_drewN HB1.out nq);have HO2 := zh (HO1.out.drewN nq);generalize w1.drewN nq = w2 at *;clear HQ1 HB1 HO1;obtain ⟨bx, hbx⟩ : ∃ z, w.heap.size = z := ⟨_, rfl⟩;have HQB : Hid (w2.heap[bx]? = some (.cells #[.string (str ty)] 9 (0, 0))) := zh (by rw [← hbx]; exact HQ2.out);rw [hbx];clear hbx HQ2;have q0 := blk_cell HQB.out 0;have t1 := blk_cell HO2.out.tab 1;have t2 := blk_cell HO2.out.tab 2;have tl := blk_lt HO2.out.tab;simp only [List.getElem?_toArray, List.getElem?_cons_zero, List.getElem?_cons_succ] at t1 t2 q0;have HF : Hid (fitsF L fr ty = if fr = ty then true else if fr = nilT then begT ty [42] || begT ty [99, 104, 97, 110, 32] || begT ty [102, 117, 110, 99, 40] || decide (0 ≤ declN L 12 ty) else if declN L 12 ty < 0 then false else if declN L 12 fr < 0 ∧ (begT fr [42] = false ∨ declN L 10 (fr.drop 1) < 0) then false else restF L fr ty) := zh rfl
 generalize (fM L 12 k ty).getD (.int .i64 0) = V1 at *;have HI : Hid (declN L 12 ty < 0 ↔ ¬ decide (0 ≤ declN L 12 ty) = true) := zh (by simp);generalize hIT : decide (0 ≤ declN L 12 ty) = IT at *
 cases hE : ((str fr).toList == (str ty).toList) with
 | true =>
  have HR : Hid (fitsF L fr ty = true) := zh (by rw [txt_eq, beq_iff_eq] at hE; rw [HF.out, if_pos hE]);go_wp2
  go_returns
  exact ⟨by rw [HR.out]; rfl, HB2.out⟩
 | false =>
  have hne : ¬ fr = ty := by rw [txt_eq] at hE; simpa using hE
  replace HF := zh (HF.out.trans (if_neg hne));clear hne
  cases hN : ((str fr).toList == [110, 105, 108]) with
  | true =>
   have hnl : fr = nilT := by rw [nil_eq, beq_iff_eq] at hN; exact hN
   replace HF := zh (HF.out.trans (if_pos hnl));clear hnl
   cases IT with
   | true =>
    have HR : Hid (fitsF L fr ty = true) := zh (by rw [HF.out, Bool.or_true]);go_wp2
    go_returns
    exact ⟨by rw [HR.out]; rfl, HB2.out⟩
   | false =>
    have HA : Hid (∀ o, Below w2.heap.size w2 (w2.alloc o)) := zh fun o => (Below.refl _ _).alloc (Nat.le_refl _) o
    have HC := zh (contains_txt 70 #[.pointer (some ⟨bx, 0, none⟩)] (begT ty) (TxtV.new w2 [[42], [99, 104, 97, 110, 32], [102, 117, 110, 99, 40]] (by decide)) (f1_test (blk_alloc HQB.out _)));have HR : Hid (fitsF L fr ty = (begT ty [42] || (begT ty [99, 104, 97, 110, 32] || begT ty [102, 117, 110, 99, 40]))) := zh (by rw [HF.out, Bool.or_false, Bool.or_assoc]);go_wp2_with fail
    refine HC.out.mono ?_;rintro e w3 ⟨rfl, hb3⟩;have HB3 := zh (HB2.out.trans (((HA.out _).trans (hb3.mono (by simp))).mono HB2.out.size));clear hb3;go_wp2
    go_returns
    exact ⟨by rw [HR.out]; rfl, HB3.out⟩
  | false =>
   have hnl : ¬ fr = nilT := by rw [nil_eq] at hN; simpa using hN
   replace HF := zh (HF.out.trans (if_neg hnl));clear hnl;have hd1 : (if begT fr [42] = true then fr.drop 1 else fr).length ≤ maxLen := by
    split
    ·rw [List.length_drop]; omega
    ·exact hfr
   have cs := fun n => HLS.out n _ w2 hd1 HB2.out
   have cf := fun n => HLK.out n fr w2 hfr HB2.out
   have HTR := zh (trim_any fr);have HHP := zh (hp_any fr [42]);have HGO : (IT = false ∧ Hid (fitsF L fr ty = false)) ∨ (IT = true ∧ decide (0 ≤ declN L 12 fr) = false ∧ decide (0 ≤ declN L 10 (if begT fr [42] = true then fr.drop 1 else fr)) = false ∧ Hid (fitsF L fr ty = false)) ∨ (IT = true ∧ decide (0 ≤ declN L 12 fr) = false ∧ decide (0 ≤ declN L 10 (if begT fr [42] = true then fr.drop 1 else fr)) = true ∧ begT fr [42] = false ∧ Hid (fitsF L fr ty = false)) ∨
     ((IT = true ∧ decide (0 ≤ declN L 12 fr) = true ∨ IT = true ∧ decide (0 ≤ declN L 12 fr) = false ∧ decide (0 ≤ declN L 10 (if begT fr [42] = true then fr.drop 1 else fr)) = true ∧ begT fr [42] = true) ∧ Hid (fitsF L fr ty = restF L fr ty) ∧ Hid (pM L fr = mF (methL L fr)) ∧ Hid (pM L ty = mF (methL L ty))) := by
    cases hit : IT with
    | false => exact .inl ⟨rfl, zh (by rw [HF.out, if_pos (HI.out.2 (by rw [hit]; decide))])⟩
    | true =>
     have HF2 := HF.out.trans (if_neg (fun h => by have := HI.out.1 h; rw [hit] at this; exact this rfl));have hpt : pM L ty = mF (methL L ty) := by unfold pM; rw [hIT, hit, Bool.true_or, if_pos rfl]
     by_cases h1 : 0 ≤ declN L 12 fr
     ·have hd : decide (0 ≤ declN L 12 fr) = true := by simpa using h1
      exact .inr (.inr (.inr ⟨.inl ⟨rfl, hd⟩, zh (by rw [HF2, if_neg (by omega)]), zh (by unfold pM; rw [hd, Bool.true_or, if_pos rfl]), zh hpt⟩))
     ·have hd : decide (0 ≤ declN L 12 fr) = false := by simpa using h1
      cases hb : begT fr [42] with
      | false =>
       have HR := HF2.trans (if_pos ⟨by omega, .inl hb⟩);rw [if_neg (by decide)]
       cases hs : decide (0 ≤ declN L 10 fr) with
       | false => exact .inr (.inl ⟨rfl, hd, rfl, zh HR⟩)
       | true => exact .inr (.inr (.inl ⟨rfl, hd, rfl, rfl, zh HR⟩))
      | true =>
       rw [if_pos rfl]
       by_cases hs : 0 ≤ declN L 10 (fr.drop 1)
       ·have hds : decide (0 ≤ declN L 10 (fr.drop 1)) = true := by simpa using hs
        exact .inr (.inr (.inr ⟨.inr ⟨rfl, hd, hds, rfl⟩, zh (HF2.trans (if_neg (fun h => h.2.elim (fun h => by rw [hb] at h; cases h) (fun h => by omega)))), zh (by unfold pM; rw [hb, Bool.or_true, if_pos rfl]), zh hpt⟩))
       ·have hds : decide (0 ≤ declN L 10 (fr.drop 1)) = false := by simpa using hs
        exact .inr (.inl ⟨rfl, hd, hds, zh (HF2.trans (if_pos ⟨by omega, .inr (by omega)⟩))⟩)
   clear HI HF hIT;generalize (fM L 12 k fr).getD (.int .i64 0) = V2 at *;generalize decide (0 ≤ declN L 12 fr) = FI at *;generalize (if begT fr [42] = true then fr.drop 1 else fr) = tf at *;generalize (fM L 10 k tf).getD (.int .i64 0) = V3 at *;generalize decide (0 ≤ declN L 10 tf) = T at *;generalize begT fr [42] = B at *;go_wp2_with fail
   go_quiet ((go_at_call 71; exact Calls.quiet_of_same (HTR.out _)))
   rcases HGO with ⟨rfl, HR⟩ | ⟨rfl, rfl, rfl, HR⟩ | ⟨rfl, rfl, rfl, rfl, HR⟩ | ⟨hgo, HR, HPF, HPT⟩
   ·go_wp2
    go_returns
    exact ⟨by rw [HR.out]; rfl, below_drewN HB2.out _⟩
   ·go_wp2
    go_returns
    exact ⟨by rw [HR.out]; rfl, below_drewN HB2.out _⟩
   ·go_wp2_with fail
    refine (HHP.out _).mono ?_;rintro e w3 ⟨rfl, rfl⟩;go_wp2
    go_returns
    exact ⟨by rw [HR.out]; rfl, below_drewN HB2.out _⟩
   ·have HO3 := zh (HO2.out.drewN nq);have HB3 := zh (below_drewN HB2.out nq)
    have HQ3 : Hid ((w2.drewN nq).heap[bx]? = some (.cells #[.string (str ty)] 9 (0, 0))) := HQB;have cf3 := cf nq;clear q0 t1 t2 tl cs cf;generalize w2.drewN nq = w3 at *;have t2 := blk_cell HO3.out.tab 2;have tl := blk_lt HO3.out.tab;have q0 := blk_cell HQ3.out 0;have ql := blk_lt HQ3.out;simp only [List.getElem?_toArray, List.getElem?_cons_zero, List.getElem?_cons_succ] at t2 q0;rcases hgo with ⟨rfl, rfl⟩ | ⟨rfl, rfl, rfl, rfl⟩
    ·go_wp2_with fail
     refine (tmeth_any HK.out HO3.out hfr).mono ?_;rintro e w9 ⟨⟨u, rfl, hu⟩, h9⟩;obtain rfl : w3 = w9 := h9.symm;rw [HPF.out] at hu;obtain ⟨ua, uc, rfl⟩ := own_slice hu rfl;have HU := zh hu;clear hu;go_wp2_with fail
     have HQ4 := zh (blk_alloc HQ3.out (.cells #[.slice ua (mF (methL L fr)).length uc] 33));have HN4 := zh (blk_new w3 (.cells #[.slice ua (mF (methL L fr)).length uc] 33));have HO4 := zh (HO3.out.alloc (.cells #[.slice ua (mF (methL L fr)).length uc] 33));have HB4 := zh (HB3.out.trans (((Below.refl w3.heap.size w3).alloc (Nat.le_refl _) (.cells #[.slice ua (mF (methL L fr)).length uc] 33)).mono HB3.out.size));have HU4 : Hid (TxtV w0.heap.size (w3.alloc (.cells #[.slice ua (mF (methL L fr)).length uc] 33)) (.slice ua (mF (methL L fr)).length uc) (mF (methL L fr))) := zh (World.ownsRow.alloc HU.out _);generalize (w3.alloc (.cells #[.slice ua (mF (methL L fr)).length uc] 33)) = w4 at *;refine (tmeth_any HK.out HO4.out hty).mono ?_;rintro e w9 ⟨⟨u, rfl, hu⟩, h9⟩;obtain rfl : w4 = w9 := h9.symm;rw [HPT.out] at hu;obtain ⟨ub, uc2, rfl⟩ := own_slice hu rfl;have HC := zh (contains_txt 72 #[.pointer (some ⟨w3.heap.size, 0, none⟩)] _ hu (f2_test HN4.out HU4.out))
     clear hu;have HR2 : Hid (fitsF L fr ty = !((mF (methL L ty)).any fun x => !((mF (methL L fr)).any fun b => b == x))) := zh (by rw [all_not, HR.out]; rfl);go_wp2_with fail
     refine HC.out.mono ?_;rintro e w5 ⟨rfl, hb5⟩;have HB5 := zh (HB4.out.trans (hb5.mono HB4.out.size));clear hb5;go_wp2
     go_returns
     exact ⟨by rw [HR2.out]; rfl, HB5.out⟩
    ·go_wp2_with fail
     refine (HHP.out _).mono ?_;rintro e w9 ⟨rfl, h9⟩;obtain rfl : w3 = w9 := h9.symm;go_wp2_with fail
     refine (tmeth_any HK.out HO3.out hfr).mono ?_;rintro e w9 ⟨⟨u, rfl, hu⟩, h9⟩;obtain rfl : w3 = w9 := h9.symm;rw [HPF.out] at hu;obtain ⟨ua, uc, rfl⟩ := own_slice hu rfl;have HU := zh hu;clear hu;go_wp2_with fail
     have HQ4 := zh (blk_alloc HQ3.out (.cells #[.slice ua (mF (methL L fr)).length uc] 33));have HN4 := zh (blk_new w3 (.cells #[.slice ua (mF (methL L fr)).length uc] 33));have HO4 := zh (HO3.out.alloc (.cells #[.slice ua (mF (methL L fr)).length uc] 33));have HB4 := zh (HB3.out.trans (((Below.refl w3.heap.size w3).alloc (Nat.le_refl _) (.cells #[.slice ua (mF (methL L fr)).length uc] 33)).mono HB3.out.size));have HU4 : Hid (TxtV w0.heap.size (w3.alloc (.cells #[.slice ua (mF (methL L fr)).length uc] 33)) (.slice ua (mF (methL L fr)).length uc) (mF (methL L fr))) := zh (World.ownsRow.alloc HU.out _);generalize (w3.alloc (.cells #[.slice ua (mF (methL L fr)).length uc] 33)) = w4 at *;refine (tmeth_any HK.out HO4.out hty).mono ?_;rintro e w9 ⟨⟨u, rfl, hu⟩, h9⟩;obtain rfl : w4 = w9 := h9.symm;rw [HPT.out] at hu;obtain ⟨ub, uc2, rfl⟩ := own_slice hu rfl;have HC := zh (contains_txt 72 #[.pointer (some ⟨w3.heap.size, 0, none⟩)] _ hu (f2_test HN4.out HU4.out))
     clear hu;have HR2 : Hid (fitsF L fr ty = !((mF (methL L ty)).any fun x => !((mF (methL L fr)).any fun b => b == x))) := zh (by rw [all_not, HR.out]; rfl);go_wp2_with fail
     refine HC.out.mono ?_;rintro e w5 ⟨rfl, hb5⟩;have HB5 := zh (HB4.out.trans (hb5.mono HB4.out.size));clear hb5;go_wp2
     go_returns
     exact ⟨by rw [HR2.out]; rfl, HB5.out⟩
end
end Go.Proofs.YtjickecdkmljpaaGreatDoor
