/-
  PROVED HERE: the program's parser: signs ahead of an expression. the program's parser: levels of operators. the program's parser: a method's signature. No condition beyond the lemmas' own premises.
-/
import Derived.Test.YtjickecdkmljpaaGreatDoorPsTk
import Derived.Test.YtjickecdkmljpaaGreatDoorPsD
import Derived.Test.YtjickecdkmljpaaGreatDoorPsA
import Derived.Test.YtjickecdkmljpaaGreatDoorPsSx
namespace Go.Proofs.YtjickecdkmljpaaGreatDoor
open Go.RowKit

section
variable {N p : Nat} {w : World} {X : Ps.Src} {S : ByteArray} {s : Ps.St} {tv nv : Value} {D : List (Ps.Nd × Value)}
def signsB : List ByteArray := [⟨#[33]⟩, ⟨#[45]⟩, ⟨#[60, 45]⟩]
theorem enter_pos {X : Ps.Src} {x : List UInt8} {s s' : Ps.St} {v : List Nat} (h : Ps.enter X x s = .ok v s') : v = [(Ps.now X s).pos] := by
 unfold Ps.enter at h
 split at h
 ·cases h
 ·cases h1 : Ps.take X x s with
  | out => rw [h1] at h; cases h
  | bad c q => rw [h1] at h; cases h
  | ok v1 s1 =>
   rw [h1] at h
   cases h
   exact (take_ok h1).1
theorem signs_is {X : Ps.Src} {rec : Ps.Rec} {s : Ps.St} {k : Nat} (hk : k < 3) (h0 : ∀ j, j < k → Ps.isK X s (by_ (signsB.getD j ByteArray.empty)) = false) (h1 : Ps.isK X s (by_ (signsB.getD k ByteArray.empty)) = true) : Ps.unaryF X rec s = Ps.prefixed X rec (by_ (signsB.getD k ByteArray.empty)) (43 + (k : Int)) s := by
 unfold Ps.unaryF;rcases k with _ | _ | _ | k
 ·exact if_pos h1
 ·rw [if_neg (by rw [show Ps.isK X s Ps.k_bang = false from h0 0 (by omega)]; simp)];exact if_pos h1
 ·rw [if_neg (by rw [show Ps.isK X s Ps.k_bang = false from h0 0 (by omega)]; simp), if_neg (by rw [show Ps.isK X s Ps.k_minus = false from h0 1 (by omega)]; simp)];exact if_pos h1
 ·omega
theorem signs_not {X : Ps.Src} {n : Nat} {s : Ps.St} (h0 : ∀ j, j < 3 → Ps.isK X s (by_ (signsB.getD j ByteArray.empty)) = false) : Ps.unaryF X (Ps.run X n) s = partP X n s := by
 unfold Ps.unaryF;rw [if_neg (by rw [show Ps.isK X s Ps.k_bang = false from h0 0 (by omega)]; simp), if_neg (by rw [show Ps.isK X s Ps.k_minus = false from h0 1 (by omega)]; simp), if_neg (by rw [show Ps.isK X s Ps.k_arr = false from h0 2 (by omega)]; simp)]
 rfl
theorem partP_one (X : Ps.Src) (n : Nat) (s : Ps.St) : Ps.One (partP X n s) := Ps.One.bind fun _ _ => Ps.run_ones X n _ rfl _
set_option maxRecDepth 100000 in
set_option maxHeartbeats 1000000 in
theorem spunary_any (n : Nat) (HPT : Hid (POk X S 274 oneV (partP X n))) (HU : Hid (POk X S 259 oneV (Ps.run X n .unary))) : POk X S 259 oneV (Ps.unaryF X (Ps.run X n)) := by
 intro N p w s tv nv D h hne;have HG := zh (Go.start h);have HNE := zh hne;have hd0 := h.d0;clear h hne
 go_enter Tryz.func259, Tryz.ntmps259
 obtain ⟨t, hnow⟩ : ∃ t, Ps.now X s = t := ⟨_, rfl⟩;have HNOWt := zh hnow;clear hnow;go_wp2_with fail
 have HS3 : Hid (StrsV (w.alloc (.cells #[.string ⟨#[33]⟩, .string ⟨#[45]⟩, .string ⟨#[60, 45]⟩] 9)) (.slice (some ⟨w.heap.size, 0, none⟩) 3 3) signsB) := zh (StrsV.new w signsB (by decide) 9);replace HG := zh (HG.out.alloc (.cells #[.string ⟨#[33]⟩, .string ⟨#[45]⟩, .string ⟨#[60, 45]⟩] 9))
 go_loopw [9] (fun i wr => ∃ k : Nat, k ≤ 3 ∧ i = .int .i64 (k : Int) ∧ Hid (Go N p X S w tv nv D wr s nv []) ∧ Hid (StrsV wr (.slice (some ⟨w.heap.size, 0, none⟩) 3 3) signsB) ∧ Hid (∀ j, j < k → Ps.isK X s (by_ (signsB.getD j ByteArray.empty)) = false)) (fun i _ => 3 - (intOf i).toNat)
 case atStart => exact ⟨0, by omega, rfl, HG, HS3, zh (fun j hj => absurd hj (Nat.not_lt_zero _))⟩
 case round =>
  clear HG HS3;obtain ⟨k, hk, rfl, HG, HS3, H0⟩ := hrel
  by_cases hk3 : k < 3
  ·have hcell : wr.cell? ⟨w.heap.size, k, none⟩ = some (.string (signsB.getD k ByteArray.empty)) := by
    obtain ⟨g, cap, hv, hg, hl, hc⟩ := HS3.out
    cases hv
    exact hc k hk3
   have hyes := zh (fun h1 => signs_is (X := X) (rec := Ps.run X n) (s := s) hk3 H0.out h1);have hno : Hid (Ps.isK X s (by_ (signsB.getD k ByteArray.empty)) = false → ∀ j, j < k + 1 → Ps.isK X s (by_ (signsB.getD j ByteArray.empty)) = false) := zh (fun h1 j hj => by
    by_cases e : j = k
    ·subst e; exact h1
    ·exact H0.out j (by omega))
   have b0 : (0 : Int) ≤ (k : Int) := by omega
   have b1 : (k : Int) < 3 := by omega
   have wrk : IntKind.i64.wrap (43 + (k : Int)) = 43 + (k : Int) := IntWalk.i64_in _ (by omega);have wri : IntKind.i64.wrap ((k : Int) + 1) = ((k + 1 : Nat) : Int) := by rw [IntWalk.i64_in _ (by omega)]; rfl
   generalize signsB.getD k ByteArray.empty = x at *
   cases hb : Ps.isK X s (by_ x) with
   | false =>
    have KB := zh hb;clear hb;go_wp2_with fail
    refine (spis_is HG.out.st x false KB).mono ?_;rintro e w1 ⟨rfl, hb⟩;have HS4 := zh (HS3.out.below hb);replace HG := zh (HG.out.new hb);clear hb;go_wp2
    go_roundw
    case rel => exact ⟨k + 1, by omega, by go_num, HG, HS4, zh (hno.out KB.out)⟩
    case measure => simp [intOf]; omega
   | true =>
    have KB := zh hb;clear hb;go_wp2_with fail
    refine (spis_is HG.out.st x true KB).mono ?_;rintro e w2 ⟨rfl, hb⟩;have HS4 := zh (HS3.out.below hb);replace HG := zh (HG.out.new hb);clear hb;have HPE := zh (hyes.out KB.out);clear hcell HS3 HS4 hno hyes;go_wp2_with fail
    refine (spenter_any HG.out.st x).mono ?_;rintro e w3 hq;rcases hq.parts (enter_ne _ _ _) with ⟨c, q, hr, rfl, hb⟩ | ⟨v, s3, n3, E3, hr, rfl, h1, h2, h3⟩
    ·have HE : Hid (Out N p X S w tv nv D oneV (Ps.unaryF X (Ps.run X n) s) (thrownS c q) w3) := zh (HG.out.bad hb (by simp [Ps.prefixed, HPE.out, hr, Ps.Res.bind]));clear hq hr hb
     unfold thrownS;go_wp2
     exact ⟨rfl, HE.out⟩
    obtain rfl := enter_pos hr;have HD3 := zh (Ps.Dp.enter X _ _ _ _ hr);rw [HNOWt.out] at hr;have HR3 := zh hr;replace HG := zh (HG.out.then h1 h2 h3);clear hq hr h1 h2 h3;unfold oneV;rw [HNOWt.out];go_wp2_with fail
    refine (HU.out _ _ _ _ _ _ _ HG.out.st (fun e => HNE.out (by simp [Ps.prefixed, HPE.out, HR3.out, e, Ps.Res.bind]))).mono ?_;rintro e w4 hq;rcases hq.parts (fun e => HNE.out (by simp [Ps.prefixed, HPE.out, HR3.out, e, Ps.Res.bind])) with ⟨c, q, hr, rfl, hb⟩ | ⟨v, s4, n4, E4, hr, rfl, h1, h2, h3⟩
    ·skip
     have HE : Hid (Out N p X S w tv nv D oneV (Ps.unaryF X (Ps.run X n) s) (thrownS c q) w4) := zh (HG.out.bad hb (by simp [Ps.prefixed, HPE.out, HR3.out, hr, Ps.Res.bind]));clear hq hr hb;unfold thrownS;go_wp2
     exact ⟨rfl, HE.out⟩
    have HD4 := zh (Ps.run_keep X n .unary _ _ _ hr);obtain ⟨a4, rfl⟩ := Ps.run_ones X n .unary rfl _ _ _ hr;have HR4 := zh hr;replace HG := zh (HG.out.then h1 h2 h3);clear hq hr h1 h2 h3;unfold oneV;have dd0 : 1 ≤ s4.deep := (by have := HD3.out; have := HD4.out; omega);have dd1 := HG.out.st.d1;have dc := HG.out.st.c3;have df := HG.out.st.free 3;have dl := HG.out.st.lt;replace HG : Hid (Go N p X S w tv nv D (w4.setCell ⟨p, 3, none⟩ (.int .i64 (s4.deep - 1))) (Ps.down s4) n4 _) := zh (HG.out.deep (d := s4.deep - 1) (by omega) (by omega));go_wp2_with fail
    have hsz : (w4.setCell ⟨p, 3, none⟩ (.int .i64 (s4.deep - 1))).heap.size = w4.heap.size := by simp
    clear dc df dl dd0 dd1;generalize (w4.setCell ⟨p, 3, none⟩ (.int .i64 (s4.deep - 1))) = w5 at *;have HK : Hid (Kd N w (w5.alloc (.cells #[.int .i64 (a4 : Int)] 3)) _ (.slice (some ⟨w5.heap.size, 0, none⟩) 1 1) [a4]) := zh (Kd.new HG.out [a4] (by simp));replace HG := zh (HG.out.alloc (.cells #[.int .i64 (a4 : Int)] 3));generalize hw6 : (w5.alloc (.cells #[.int .i64 (a4 : Int)] 3)) = w6 at *;have hkl6 : w5.heap.size < w6.heap.size := by rw [← hw6]; simp
    clear hw6;rw [hsz] at HK;go_wp2_with fail
    have HPL : Hid (Ps.unaryF X (Ps.run X n) s = Ps.put ⟨(43 + (k : Int)), t.pos, 0, [], [a4]⟩ (Ps.down s4)) := zh (by simp [Ps.prefixed, Ps.with_, HPE.out, HNOWt.out, HR3.out, HR4.out, Ps.Res.bind]);have hne2 := HNE.out;rw [HPL.out] at hne2;have hf := put_few hne2;have HPI := zh (put_is hne2);clear hne2;refine (spwith_any HG.out.st (43 + (k : Int)) t.pos [a4] (.slice (some ⟨w4.heap.size, 0, none⟩) 1 1) HK.out.row hf).mono ?_;rintro e w7 ⟨rfl, n7, h1, h2⟩;have HE : Hid (Out N p X S w tv nv D oneV (Ps.unaryF X (Ps.run X n) s) (.returned (.int .i64 ((Ps.down s4).nodes.length : Int))) w7) := zh ((HG.out.put h1 h2 HK.out.lo).out (by rw [HPL.out, HPI.out]) rfl);clear h1 h2;go_wp2
    go_returns
    exact HE.out
  ·obtain rfl : k = 3 := by omega
   have HPE : Hid (Ps.unaryF X (Ps.run X n) s = partP X n s) := zh (signs_not H0.out);clear HS3 H0;go_wp2_with fail
   refine (HPT.out _ _ _ _ _ _ _ HG.out.st (fun e => HNE.out (HPE.out.trans e))).mono ?_;rintro e w8 hq;rcases hq.parts (fun e => HNE.out (HPE.out.trans e)) with ⟨c, q, hr, rfl, hb⟩ | ⟨v, s8, n8, E8, hr, rfl, h1, h2, h3⟩
   ·skip
    have HE : Hid (Out N p X S w tv nv D oneV (Ps.unaryF X (Ps.run X n) s) (thrownS c q) w8) := zh (HG.out.bad hb (by simp [HPE.out, hr]));clear hq hr hb;unfold thrownS;go_wp2
    exact ⟨rfl, HE.out⟩
   obtain ⟨a8, rfl⟩ := partP_one _ _ _ _ _ hr;have HR8 := zh hr;replace HG := zh (HG.out.then h1 h2 h3);clear hq hr h1 h2 h3;unfold oneV;have HE : Hid (Out N p X S w tv nv D oneV (Ps.unaryF X (Ps.run X n) s) (.returned (.int .i64 (a8 : Int))) w8) := zh (HG.out.out (v := [a8]) (by simp [HPE.out, HR8.out]) rfl);go_wp2
   go_returns
   exact HE.out
end
end Go.Proofs.YtjickecdkmljpaaGreatDoor
namespace Go.Proofs.YtjickecdkmljpaaGreatDoor
open Go.RowKit

section
variable {N p : Nat} {w : World} {X : Ps.Src} {S : ByteArray} {s : Ps.St} {tv nv : Value} {D : List (Ps.Nd × Value)}
def lvB : List (List ByteArray) := [[⟨#[124, 124]⟩], [⟨#[38, 38]⟩], [⟨#[61, 61]⟩, ⟨#[33, 61]⟩, ⟨#[60]⟩, ⟨#[60, 61]⟩, ⟨#[62]⟩, ⟨#[62, 61]⟩], [⟨#[43]⟩, ⟨#[45]⟩], [⟨#[42]⟩, ⟨#[47]⟩, ⟨#[37]⟩]]
def lvC (k : Nat) : Array Value := ((lvB.getD k []).map Value.string).toArray
def lvT (H : Nat) : Array Value := #[.slice (some ⟨H, 0, none⟩) 1 1, .slice (some ⟨H + 1, 0, none⟩) 1 1, .slice (some ⟨H + 2, 0, none⟩) 6 6, .slice (some ⟨H + 3, 0, none⟩) 2 2, .slice (some ⟨H + 4, 0, none⟩) 3 3]
def lvW (w : World) : World := (((((w.alloc (.cells (lvC 0) 9)).alloc (.cells (lvC 1) 9)).alloc (.cells (lvC 2) 9)).alloc (.cells (lvC 3) 9)).alloc (.cells (lvC 4) 9)).alloc (.cells (lvT w.heap.size) 33)
set_option maxRecDepth 100000 in
theorem splevels_any (w : World) : Calls Tryz.prog 215 #[] w fun e w' => e = .returned (.slice (some ⟨w.heap.size + 5, 0, none⟩) 5 5) ∧ w' = lvW w := by
 go_enter Tryz.func215, Tryz.ntmps215
 go_wp2
 go_returns
 exact ⟨rfl, rfl⟩
/-- The rows of operators, in boxes of the function's own. -/
structure LvV (w0 wk : World) (nk : Value) (H : Nat) : Prop where
 r0 : Bx w0 wk nk H (lvC 0) 9
 r1 : Bx w0 wk nk (H + 1) (lvC 1) 9
 r2 : Bx w0 wk nk (H + 2) (lvC 2) 9
 r3 : Bx w0 wk nk (H + 3) (lvC 3) 9
 r4 : Bx w0 wk nk (H + 4) (lvC 4) 9
 tb : Bx w0 wk nk (H + 5) (lvT H) 33
section
variable {w0 wk w2 : World} {nk n2 : Value} {H : Nat} {E : List (Ps.Nd × Value)}
theorem LvV.lt (h : LvV w0 wk nk H) : H + 5 < wk.heap.size := h.tb.lt
theorem LvV.mv (h : LvV w0 wk nk H) (hp : p < w0.heap.size) (m : Mv N p wk nk w2 n2) : LvV w0 w2 n2 H := ⟨h.r0.mv hp m, h.r1.mv hp m, h.r2.mv hp m, h.r3.mv hp m, h.r4.mv hp m, h.tb.mv hp m⟩
theorem LvV.below (h : LvV w0 wk nk H) (hb : Below wk.heap.size wk w2) : LvV w0 w2 nk H := ⟨h.r0.below hb, h.r1.below hb, h.r2.below hb, h.r3.below hb, h.r4.below hb, h.tb.below hb⟩
theorem LvV.alloc (h : LvV w0 wk nk H) (o : Obj) : LvV w0 (wk.alloc o) nk H := ⟨h.r0.alloc o, h.r1.alloc o, h.r2.alloc o, h.r3.alloc o, h.r4.alloc o, h.tb.alloc o⟩
theorem LvV.farP (h : LvV w0 wk nk H) (hp : p < w0.heap.size) (i : Nat) (u : Value) : LvV w0 (wk.setCell ⟨p, i, none⟩ u) nk H := ⟨h.r0.farP hp i u, h.r1.farP hp i u, h.r2.farP hp i u, h.r3.farP hp i u, h.r4.farP hp i u, h.tb.farP hp i u⟩
theorem lvW_below (w : World) : Below w.heap.size w (lvW w) := ((((((Below.refl w.heap.size w).alloc (Nat.le_refl _) _).alloc (by simp) _).alloc (by simp; omega) _).alloc (by simp; omega) _).alloc (by simp; omega) _).alloc (by simp; omega) _
theorem LvV.new (hG : Go N p X S w0 tv nv D wk s nk E) : LvV w0 (lvW wk) nk wk.heap.size := by
 have g0 := hG.alloc (.cells (lvC 0) 9);have g1 := g0.alloc (.cells (lvC 1) 9);have g2 := g1.alloc (.cells (lvC 2) 9);have g3 := g2.alloc (.cells (lvC 3) 9);have g4 := g3.alloc (.cells (lvC 4) 9);have e1 : (wk.alloc (.cells (lvC 0) 9)).heap.size = wk.heap.size + 1 := by simp
 have e2 : ((wk.alloc (.cells (lvC 0) 9)).alloc (.cells (lvC 1) 9)).heap.size = wk.heap.size + 2 := by simp
 have e3 : (((wk.alloc (.cells (lvC 0) 9)).alloc (.cells (lvC 1) 9)).alloc (.cells (lvC 2) 9)).heap.size = wk.heap.size + 3 := by simp
 have e4 : ((((wk.alloc (.cells (lvC 0) 9)).alloc (.cells (lvC 1) 9)).alloc (.cells (lvC 2) 9)).alloc (.cells (lvC 3) 9)).heap.size = wk.heap.size + 4 := by simp
 have e5 : (((((wk.alloc (.cells (lvC 0) 9)).alloc (.cells (lvC 1) 9)).alloc (.cells (lvC 2) 9)).alloc (.cells (lvC 3) 9)).alloc (.cells (lvC 4) 9)).heap.size = wk.heap.size + 5 := by simp
 have b0 := Bx.new hG (lvC 0) 9;have b1 := Bx.new g0 (lvC 1) 9;have b2 := Bx.new g1 (lvC 2) 9;have b3 := Bx.new g2 (lvC 3) 9;have b4 := Bx.new g3 (lvC 4) 9;have b5 := Bx.new g4 (lvT wk.heap.size) 33;rw [e1] at b1;rw [e2] at b2;rw [e3] at b3;rw [e4] at b4;rw [e5] at b5;exact ⟨((((b0.alloc _).alloc _).alloc _).alloc _).alloc _, (((b1.alloc _).alloc _).alloc _).alloc _, ((b2.alloc _).alloc _).alloc _, (b3.alloc _).alloc _, b4.alloc _, b5⟩
def lvU (H k : Nat) : Value := .slice (some ⟨H + k, 0, none⟩) (lvB.getD k []).length (lvB.getD k []).length
theorem strs_of {w : World} {g : Nat} {l : List ByteArray} (hl : l.length ≤ 100) (h : w.heap[g]? = some (.cells (l.map Value.string).toArray 9 (0, 0))) : StrsV w (.slice (some ⟨g, 0, none⟩) l.length l.length) l := by
 refine ⟨_, _, rfl, blk_lt h, hl, fun k hk => ?_⟩;rw [blk_cell h k];simp [hk, List.getD_eq_getElem?_getD]
theorem LvV.at (h : LvV w0 wk nk H) {k : Nat} (hk : k < 5) : wk.cell? ⟨H + 5, k, none⟩ = some (lvU H k) ∧ StrsV wk (lvU H k) (lvB.getD k []) := by
 rcases k with _ | _ | _ | _ | _ | k
 ·exact ⟨h.tb.cell 0, strs_of (by decide) h.r0.blk⟩
 ·exact ⟨h.tb.cell 1, strs_of (by decide) h.r1.blk⟩
 ·exact ⟨h.tb.cell 2, strs_of (by decide) h.r2.blk⟩
 ·exact ⟨h.tb.cell 3, strs_of (by decide) h.r3.blk⟩
 ·exact ⟨h.tb.cell 4, strs_of (by decide) h.r4.blk⟩
 ·omega
end
theorem lvB_is (X : Ps.Src) (s : Ps.St) {k : Nat} (hk : k < 5) : ((lvB.getD k []).any fun x => Ps.isK X s (by_ x)) = Ps.rowIs X s k := by
 rcases k with _ | _ | _ | _ | _ | k
 ·rfl
 ·rfl
 ·rfl
 ·rfl
 ·rfl
 ·omega
theorem row_lt {X : Ps.Src} {s : Ps.St} {k : Nat} (h : Ps.rowIs X s k = true) : s.i < X.toks.length := by
 obtain ⟨x, hx, hi⟩ := List.any_eq_true.1 h;exact isK_lt X s x hi
theorem expr_end0 {X : Ps.Src} {n k : Nat} {s s' : Ps.St} {v : List Nat} (h : Ps.run X n (.expr k) s = .ok v s') : Ps.lev X s' ≤ k := by
 cases n with
 | zero => cases h
 | succ n => exact Ps.expr_end h
/-- The contract of a level. -/
def LvOk (X : Ps.Src) (S : ByteArray) (k : Nat) (plain : Ps.St → Ps.Res) : Prop :=
 ∀ (N p : Nat) (w : World) (s : Ps.St) (tv nv : Value) (D : List (Ps.Nd × Value)), PSt N p w X S s tv nv D → plain s ≠ .out → Calls Tryz.prog 241 #[.pointer (some ⟨p, 0, none⟩), .int .i64 (k : Int)] w (Out N p X S w tv nv D oneV (plain s))
set_option maxRecDepth 100000 in
set_option maxHeartbeats 1000000 in
theorem splevel_five (n : Nat) (HU : Hid (POk X S 259 oneV (Ps.run X n .unary))) : LvOk X S 5 (Ps.run X (n + 1) (.expr 5)) := by
 intro N p w s tv nv D h hne;have HG := zh (Go.start h);have HNE := zh hne;have HPE : Hid (Ps.run X (n + 1) (.expr 5) s = Ps.run X n .unary s) := zh (Ps.expr_five X n s);clear h hne
 go_enter Tryz.func241, Tryz.ntmps241
 have kk : (((5 : Nat) : Int) == 5) = true := rfl;go_wp2_with fail
 refine (splevels_any w).mono ?_;rintro e w1 ⟨rfl, rfl⟩;replace HG := zh (HG.out.new (lvW_below w));generalize lvW w = w2 at *;go_wp2_with fail
 refine (HU.out _ _ _ _ _ _ _ HG.out.st (fun e => HNE.out (HPE.out.trans e))).mono ?_;rintro e w6 hq;rcases hq.parts (fun e => HNE.out (HPE.out.trans e)) with ⟨c, q, hr, rfl, hb⟩ | ⟨v, s6, n6, E6, hr, rfl, h1, h2, h3⟩
 ·skip
  have HE : Hid (Out N p X S w tv nv D oneV (Ps.run X (n + 1) (.expr 5) s) (thrownS c q) w6) := zh (HG.out.bad hb (by simp [HPE.out, hr]));clear hq hr hb;unfold thrownS;go_wp2
  exact ⟨rfl, HE.out⟩
 obtain ⟨a6, rfl⟩ := Ps.run_ones X n .unary rfl _ _ _ hr;have HR6 := zh hr;replace HG := zh (HG.out.then h1 h2 h3);clear hq hr h1 h2 h3;unfold oneV;have HE : Hid (Out N p X S w tv nv D oneV (Ps.run X (n + 1) (.expr 5) s) (.returned (.int .i64 (a6 : Int))) w6) := zh (HG.out.out (v := [a6]) (by simp [HPE.out, HR6.out]) rfl);go_wp2
 go_returns
 exact HE.out
set_option maxRecDepth 100000 in
set_option maxHeartbeats 1000000 in
theorem splevel_low (k : Nat) (hk : k < 5) (n : Nat) (HN : Hid (LvOk X S (k + 1) (Ps.run X (n + 1) (.expr (k + 1))))) (HM2 : Hid (∀ m, m < n → LvOk X S (k + 1) (Ps.run X m (.expr (k + 1))))) : LvOk X S k (Ps.run X (n + 1) (.expr k)) := by
 intro N p w s tv nv D h hne;have HG := zh (Go.start h);have HNE := zh hne;have HSP : Hid (Ps.run X (n + 1) (.expr k) s = (Ps.run X (n + 1) (.expr (k + 1)) s).bind fun e s1 => Ps.run X n (.climb k (e.getD 0 0)) s1) := zh (Ps.expr_split n s hne);clear h hne
 go_enter Tryz.func241, Tryz.ntmps241
 have b0 : (0 : Int) ≤ (k : Int) := by omega
 have b1 : (k : Int) < 5 := by omega
 have kk : ((k : Int) == 5) = false := by simp; omega
 have wk1 : IntKind.i64.wrap ((k : Int) + 1) = ((k + 1 : Nat) : Int) := by rw [IntWalk.i64_in _ (by omega)]; rfl
 go_wp2_with fail
 refine (splevels_any w).mono ?_;rintro e w1 ⟨rfl, rfl⟩;have HLV := zh (LvV.new HG.out);replace HG := zh (HG.out.new (lvW_below w));generalize hlv : lvW w = w2 at *;clear hlv;go_wp2_with fail
 refine (HN.out _ _ _ _ _ _ _ HG.out.st (fun e => HNE.out (by simp [HSP.out, e, Ps.Res.bind]))).mono ?_;rintro e w6 hq;rcases hq.parts (fun e => HNE.out (by simp [HSP.out, e, Ps.Res.bind])) with ⟨c, q, hr, rfl, hb⟩ | ⟨v, s6, n6, E6, hr, rfl, h1, h2, h3⟩
 ·skip
  have HE : Hid (Out N p X S w tv nv D oneV (Ps.run X (n + 1) (.expr k) s) (thrownS c q) w6) := zh (HG.out.bad hb (by simp [HSP.out, hr, Ps.Res.bind]));clear hq hr hb;unfold thrownS;go_wp2
  exact ⟨rfl, HE.out⟩
 obtain ⟨a6, rfl⟩ := Ps.run_ones X (n + 1) (.expr (k + 1)) rfl _ _ _ hr;have HR6 := zh hr;replace HLV := zh (HLV.out.mv HG.out.pl h2);replace HG := zh (HG.out.then h1 h2 h3);clear hq hr h1 h2 h3;unfold oneV;have HPR : Hid (Ps.run X (n + 1) (.expr k) s = Ps.run X n (.climb k a6) s6) := zh (by rw [HSP.out, HR6.out]; rfl);have HLE : Hid (Ps.lev X s6 ≤ k + 1) := zh (expr_end0 HR6.out);go_wp2_with fail
 go_loopg [6] n (fun m e wr => ∃ (a : Nat) (sk : Ps.St) (nk : Value) (E : List (Ps.Nd × Value)), e = .int .i64 (a : Int) ∧ Hid (Go N p X S w tv nv D wr sk nk E) ∧ Hid (LvV w wr nk w.heap.size) ∧ m ≤ n ∧ Hid (Ps.lev X sk ≤ k + 1) ∧ Hid (Ps.run X (n + 1) (.expr k) s = Ps.run X m (.climb k a) sk))
 case atStart => exact ⟨a6, s6, n6, _, rfl, HG, HLV, Nat.le_refl _, HLE, HPR⟩
 case round =>
  clear HG HPR HR6 HLV HLE HSP;obtain ⟨a, sk, nk, E, rfl, HG, HLV, hm, HLE, HPR⟩ := hrel;obtain ⟨m, rfl⟩ : ∃ m, gk = m + 1 := by
   cases gk with
   | zero => exact absurd HPR.out HNE.out
   | succ m => exact ⟨m, rfl⟩
  have hmn : m < n := by omega
  obtain ⟨hc, hs⟩ := HLV.out.at hk;have HST := zh hs;clear hs
  cases hb : Ps.rowIs X sk k with
  | false =>
   have HM : Hid (Ps.run X (n + 1) (.expr k) s = .ok [a] sk) := zh (HPR.out.trans (Ps.climb_over hb HLE.out));have KB : Hid (((lvB.getD k []).any fun x => Ps.isK X sk (by_ x)) = false) := zh ((lvB_is X sk hk).trans hb)
   skip
   clear hb HPR;go_wp2_with fail
   refine (spany_is HG.out.st (lvU w.heap.size k) (lvB.getD k []) HST.out false KB).mono ?_;rintro e w7 ⟨rfl, hb⟩;replace HLV := zh (HLV.out.below hb);replace HG := zh (HG.out.new hb);clear hb;clear hc HST;have HE : Hid (Out N p X S w tv nv D oneV (Ps.run X (n + 1) (.expr k) s) (.returned (.int .i64 (a : Int))) w7) := zh (HG.out.out (v := [a]) HM.out rfl);go_wp2
   go_returns
   exact HE.out
  | true =>
   have HM : Hid (Ps.run X (n + 1) (.expr k) s = (Ps.run X m (.expr (k + 1)) (Ps.adv sk)).bind fun b s1 => (Ps.put ⟨46, (Ps.now X sk).pos, 0, (Ps.now X sk).text, a :: b⟩ s1).bind fun e s2 => Ps.run X m (.climb k (e.getD 0 0)) s2) := zh (HPR.out.trans (Ps.climb_round hk hb));have KB : Hid (((lvB.getD k []).any fun x => Ps.isK X sk (by_ x)) = true) := zh ((lvB_is X sk hk).trans hb);have hlt : sk.i < X.toks.length := row_lt hb;clear hb HPR;go_wp2_with fail
   refine (spany_is HG.out.st (lvU w.heap.size k) (lvB.getD k []) HST.out true KB).mono ?_;rintro e w8 ⟨rfl, hb⟩;replace HLV := zh (HLV.out.below hb);replace HG := zh (HG.out.new hb);clear hb;clear hc HST;go_wp2_with fail
   refine (spnow_any HG.out.st).mono ?_;rintro e w9 ⟨rfl, hb⟩;replace HLV := zh (HLV.out.below hb);replace HG := zh (HG.out.new hb);clear hb;generalize hnow : Ps.now X sk = t at *;have HNOWt := zh hnow;clear hnow;unfold tokVal tokCells;have hdHLVHBt : (w.heap.size + 5) ≠ w9.heap.size := Nat.ne_of_lt HLV.out.lt;have HBt := zh (Bx.new HG.out #[.int .i64 t.kind, .string (str t.text), .int .i64 t.num, .int .i64 (t.pos : Int)] 95);replace HG := zh (HG.out.alloc (.cells #[.int .i64 t.kind, .string (str t.text), .int .i64 t.num, .int .i64 (t.pos : Int)] 95));replace HLV := zh (HLV.out.alloc (.cells #[.int .i64 t.kind, .string (str t.text), .int .i64 t.num, .int .i64 (t.pos : Int)] 95));have ii0 : sk.i + 1 ≤ X.toks.length := by omega
   have ii1 := HG.out.st.src.few;have dc := HG.out.st.c2;have df := HG.out.st.free 2;have dl := HG.out.st.lt;have iw : IntKind.i64.wrap ((sk.i : Int) + 1) = (sk.i : Int) + 1 := IntWalk.i64_in _ (by omega);replace HLV := zh (HLV.out.farP HG.out.pl 2 (.int .i64 ((sk.i : Int) + 1)));replace HBt := zh (HBt.out.farP HG.out.pl 2 (.int .i64 ((sk.i : Int) + 1)));replace HG : Hid (Go N p X S w tv nv D ((w9.alloc (.cells #[.int .i64 t.kind, .string (str t.text), .int .i64 t.num, .int .i64 (t.pos : Int)] 95)).setCell ⟨p, 2, none⟩ (.int .i64 ((sk.i : Int) + 1))) (Ps.adv sk) nk _) := zh (HG.out.adv ii0);go_wp2_with fail
   clear dc df dl ii0 ii1 iw;generalize ((w9.alloc (.cells #[.int .i64 t.kind, .string (str t.text), .int .i64 t.num, .int .i64 (t.pos : Int)] 95)).setCell ⟨p, 2, none⟩ (.int .i64 ((sk.i : Int) + 1))) = w10 at *
   skip
   go_wp2_with fail
   refine (HM2.out m hmn _ _ _ _ _ _ _ HG.out.st (fun e => HNE.out (by simp [HM.out, e, Ps.Res.bind]))).mono ?_;rintro e w11 hq;rcases hq.parts (fun e => HNE.out (by simp [HM.out, e, Ps.Res.bind])) with ⟨c, q, hr, rfl, hb⟩ | ⟨v, s11, n11, E11, hr, rfl, h1, h2, h3⟩
   ·skip
    have HE : Hid (Out N p X S w tv nv D oneV (Ps.run X (n + 1) (.expr k) s) (thrownS c q) w11) := zh (HG.out.bad hb (by simp [HM.out, hr, Ps.Res.bind]));clear hq hr hb;unfold thrownS;go_wp2
    exact ⟨rfl, HE.out⟩
   obtain ⟨a11, rfl⟩ := Ps.run_ones X m (.expr (k + 1)) rfl _ _ _ hr;have HR11 := zh hr;replace HLV := zh (HLV.out.mv HG.out.pl h2);replace HBt := zh (HBt.out.mv HG.out.pl h2);replace HG := zh (HG.out.then h1 h2 h3);clear hq hr h1 h2 h3;unfold oneV;have HLE2 : Hid (Ps.lev X s11 ≤ k + 1) := zh (expr_end0 HR11.out);have cHBt1 : w11.cell? ⟨w9.heap.size, 1, none⟩ = some (.string (str t.text)) := HBt.out.cell 1;have cHBt3 : w11.cell? ⟨w9.heap.size, 3, none⟩ = some (.int .i64 (t.pos : Int)) := HBt.out.cell 3;have lHBt := HBt.out.lt;go_wp2_with fail
   clear cHBt1 cHBt3 lHBt;have HK : Hid (Kd N w (w11.alloc (.cells #[.int .i64 (a : Int), .int .i64 (a11 : Int)] 3)) _ (.slice (some ⟨w11.heap.size, 0, none⟩) 2 2) [a, a11]) := zh (Kd.new HG.out [a, a11] (by simp));replace HG := zh (HG.out.alloc (.cells #[.int .i64 (a : Int), .int .i64 (a11 : Int)] 3));replace HLV := zh (HLV.out.alloc (.cells #[.int .i64 (a : Int), .int .i64 (a11 : Int)] 3));replace HBt := zh (HBt.out.alloc (.cells #[.int .i64 (a : Int), .int .i64 (a11 : Int)] 3));generalize hw12 : (w11.alloc (.cells #[.int .i64 (a : Int), .int .i64 (a11 : Int)] 3)) = w12 at *;have hkl12 : w11.heap.size < w12.heap.size := by rw [← hw12]; simp
   clear hw12;have cHBt1 : w12.cell? ⟨w9.heap.size, 1, none⟩ = some (.string (str t.text)) := HBt.out.cell 1;have cHBt3 : w12.cell? ⟨w9.heap.size, 3, none⟩ = some (.int .i64 (t.pos : Int)) := HBt.out.cell 3;have lHBt := HBt.out.lt;go_wp2_with fail
   clear cHBt1 cHBt3 lHBt;have hpn : Ps.put ⟨46, t.pos, 0, t.text, [a, a11]⟩ s11 ≠ .out := fun e => HNE.out (by simp [HM.out, HR11.out, e, Ps.Res.bind])
   have hf := put_few hpn;have HP13 := zh (put_is hpn);clear hpn;refine (spput_any HG.out.st ⟨46, t.pos, 0, t.text, [a, a11]⟩ (.slice (some ⟨w11.heap.size, 0, none⟩) 2 2) HK.out.row hf).mono ?_;rintro e w13 ⟨rfl, n13, h1, h2⟩;replace HLV := zh (HLV.out.mv HG.out.pl h2);replace HBt := zh (HBt.out.mv HG.out.pl h2);replace HG := zh (HG.out.put h1 h2 HK.out.lo);clear h1 h2 hf;have HPR2 : Hid (Ps.run X (n + 1) (.expr k) s = Ps.run X m (.climb k s11.nodes.length) (putSt ⟨46, t.pos, 0, t.text, [a, a11]⟩ s11)) := zh (by simp [HM.out, HR11.out, HP13.out, Ps.Res.bind]);have HLE3 : Hid (Ps.lev X (putSt ⟨46, t.pos, 0, t.text, [a, a11]⟩ s11) ≤ k + 1) := HLE2;go_wp2
   go_roundg m
   case rel => exact ⟨_, _, _, _, rfl, HG, HLV, by omega, HLE3, HPR2⟩
   case measure => omega
set_option maxRecDepth 100000 in
set_option maxHeartbeats 1000000 in
theorem spexpr_any (n : Nat) (HL0 : Hid (LvOk X S 0 (Ps.run X n (.expr 0)))) : POk X S 201 oneV (Ps.run X n (.expr 0)) := by
 intro N p w s tv nv D h hne;have HG := zh (Go.start h);have HNE := zh hne;clear h hne
 go_enter Tryz.func201, Tryz.ntmps201
 go_wp2_with fail
 refine (HL0.out _ _ _ _ _ _ _ HG.out.st HNE.out).mono ?_;rintro e w1 hq;rcases hq.parts (HNE.out) with ⟨c, q, hr, rfl, hb⟩ | ⟨v, s1, n1, E1, hr, rfl, h1, h2, h3⟩
 ·skip
  have HE : Hid (Out N p X S w tv nv D oneV (Ps.run X n (.expr 0) s) (thrownS c q) w1) := zh (HG.out.bad hb (by simp [hr]));clear hq hr hb;unfold thrownS;go_wp2
  exact ⟨rfl, HE.out⟩
 obtain ⟨a1, rfl⟩ := Ps.run_ones X n (.expr 0) rfl _ _ _ hr;have HR1 := zh hr;replace HG := zh (HG.out.then h1 h2 h3);clear hq hr h1 h2 h3;unfold oneV;have HE : Hid (Out N p X S w tv nv D oneV (Ps.run X n (.expr 0) s) (.returned (.int .i64 (a1 : Int))) w1) := zh (HG.out.out (v := [a1]) (by simp [HR1.out]) rfl);go_wp2
 go_returns
 exact HE.out
end
end Go.Proofs.YtjickecdkmljpaaGreatDoor
namespace Go.Proofs.YtjickecdkmljpaaGreatDoor
open Go.RowKit

section
variable {N p : Nat} {w : World} {X : Ps.Src} {S : ByteArray} {s : Ps.St} {tv nv : Value} {D : List (Ps.Nd × Value)}
set_option maxRecDepth 100000 in
set_option maxHeartbeats 1000000 in
theorem spmsig_any (rec : Ps.Rec) (HS : Hid (POk X S 99 oneV (Ps.sig X rec))) (w0 : World) (hp0 : p < w0.heap.size) (qq : Nat) (h : PSt N p w X S s tv nv D) (hx : Bx w0 w nv qq #[.pointer (some ⟨p, 0, none⟩)] 61) (hne : Ps.msig X rec s ≠ .out) : Calls Tryz.prog 149 #[.pointer (some ⟨qq, 0, none⟩)] w (Out N p X S w tv nv D oneV (Ps.msig X rec s)) := by
 have HX := zh hx;clear hx;have HG := zh (Go.start h);have HNE := zh hne;clear h hne
 go_enter Tryz.func149, Tryz.ntmps149
 have cHX0 : w.cell? ⟨qq, 0, none⟩ = some (.pointer (some ⟨p, 0, none⟩)) := HX.out.cell 0;have lHX := HX.out.lt;go_wp2_with fail
 refine (spname_any HG.out.st).mono ?_;rintro e w1 hq;rcases hq.parts (name_ne _ _) with ⟨c, q, hr, rfl, hb⟩ | ⟨v, s1, n1, E1, hr, rfl, h1, h2, h3⟩
 ·skip
  have HE : Hid (Out N p X S w tv nv D oneV (Ps.msig X rec s) (thrownS c q) w1) := zh (HG.out.bad hb (by simp [Ps.msig, hr, Ps.Res.bind]));clear hq hr hb;unfold thrownS;go_wp2
  exact ⟨rfl, HE.out⟩
 have HR1 := zh hr;replace HX := zh (HX.out.mv hp0 h2);replace HG := zh (HG.out.then h1 h2 h3);clear hq hr h1 h2 h3;clear cHX0 lHX;generalize hnow : Ps.now X s = t at *;have HNOWt := zh hnow;clear hnow;have hdHXHBt : qq ≠ w1.heap.size := Nat.ne_of_lt HX.out.lt;unfold tokVal tokCells;go_wp2_with fail
 have HBt := zh (Bx.new HG.out #[.int .i64 t.kind, .string (str t.text), .int .i64 t.num, .int .i64 (t.pos : Int)] 95);replace HG := zh (HG.out.alloc (.cells #[.int .i64 t.kind, .string (str t.text), .int .i64 t.num, .int .i64 (t.pos : Int)] 95));replace HX := zh (HX.out.alloc (.cells #[.int .i64 t.kind, .string (str t.text), .int .i64 t.num, .int .i64 (t.pos : Int)] 95));generalize hw2 : (w1.alloc (.cells #[.int .i64 t.kind, .string (str t.text), .int .i64 t.num, .int .i64 (t.pos : Int)] 95)) = w2 at *;have hql := HBt.out.lt;clear hw2;have cHX0 : w2.cell? ⟨qq, 0, none⟩ = some (.pointer (some ⟨p, 0, none⟩)) := HX.out.cell 0;have lHX := HX.out.lt;go_wp2_with fail
 clear cHX0 lHX;refine wp_region_held_drew (S := fun w' => w'.cell? ⟨w1.heap.size, 3, none⟩ = some (.int .i64 (t.pos : Int)) ∧ w'.cell? ⟨w1.heap.size, 1, none⟩ = some (.string (str t.text)) ∧ w'.cell? ⟨qq, 0, none⟩ = some (.pointer (some ⟨p, 0, none⟩))) (by kernel_rfl) ⟨HBt.out.drew.cell 3, HBt.out.drew.cell 1, HX.out.drew.cell 0⟩ (fun hHeld => ?_);replace HX := zh (HX.out.drew);replace HBt := zh (HBt.out.drew);replace HG := zh (HG.out.drew1);generalize w2.drew = w3 at *;refine tk 0 ?_;refine tk 1 ?_;refine tk 2 ?_;refine tk 3 ?_;refine tk 4 ?_;refine tk 5 ?_;clear hHeld;refine wpAnyH_ready (rs := [6]) (by kernel_rfl) (by simp) ?_;refine AllReadyH.cons rfl (fun K hK => ?_) AllReadyH.nil
 go_simp
 refine (HS.out _ _ _ _ _ _ _ HG.out.st (fun e => HNE.out (by simp [Ps.msig, HR1.out, e, Ps.Res.bind]))).mono ?_;rintro e w4 hq;rcases hq.parts (fun e => HNE.out (by simp [Ps.msig, HR1.out, e, Ps.Res.bind])) with ⟨c, q, hr, rfl, hb⟩ | ⟨v, s4, n4, E4, hr, rfl, h1, h2, h3⟩
 ·skip
  have HE : Hid (Out N p X S w tv nv D oneV (Ps.msig X rec s) (thrownS c q) w4) := zh (HG.out.bad hb (by simp [Ps.msig, HR1.out, hr, Ps.Res.bind]));clear hq hr hb;unfold thrownS;go_wp2
  exact ⟨rfl, HE.out⟩
 obtain ⟨a4, rfl⟩ := Ps.sig_one _ _ _ hr;have HR4 := zh hr;replace HX := zh (HX.out.mv hp0 h2);replace HBt := zh (HBt.out.mv HG.out.pl h2);replace HG := zh (HG.out.then h1 h2 h3);clear hq hr h1 h2 h3;unfold oneV;go_wp2_with fail
 refine hK.out _ _ (⟨HBt.out.cell 3, HBt.out.cell 1, HX.out.cell 0⟩) (fun hHeld => ?_);clear hK K;clear hHeld;refine wpAnyH_ready (rs := [7]) (by kernel_rfl) (by simp) ?_;refine AllReadyH.cons rfl (fun K hK => ?_) AllReadyH.nil
 go_simp
 have HK : Hid (Kd N w (w4.alloc (.cells #[.int .i64 (a4 : Int)] 3)) _ (.slice (some ⟨w4.heap.size, 0, none⟩) 1 1) [a4]) := zh (Kd.new HG.out [a4] (by simp));replace HG := zh (HG.out.alloc (.cells #[.int .i64 (a4 : Int)] 3));replace HX := zh (HX.out.alloc (.cells #[.int .i64 (a4 : Int)] 3));replace HBt := zh (HBt.out.alloc (.cells #[.int .i64 (a4 : Int)] 3));generalize hw5 : (w4.alloc (.cells #[.int .i64 (a4 : Int)] 3)) = w5 at *;have hkl5 : w4.heap.size < w5.heap.size := by rw [← hw5]; simp
 clear hw5;refine hK.out _ _ (⟨HBt.out.cell 3, HBt.out.cell 1, HX.out.cell 0⟩) (fun hHeld => ?_);clear hK K;refine tk 8 ?_;have HPL : Hid (Ps.msig X rec s = Ps.put ⟨11, t.pos, 0, t.text, [a4]⟩ s4) := zh (by simp [Ps.msig, HR1.out, HNOWt.out, HR4.out, Ps.Res.bind]);have hne2 := HNE.out;rw [HPL.out] at hne2;have hf := put_few hne2;have HPI := zh (put_is hne2);clear hne2;clear hHeld;refine wpAnyH_ready (rs := [9]) (by kernel_rfl) (by simp) ?_;refine AllReadyH.cons rfl (fun K hK => ?_) AllReadyH.nil
 go_simp
 refine (spput_any HG.out.st ⟨11, t.pos, 0, t.text, [a4]⟩ (.slice (some ⟨w4.heap.size, 0, none⟩) 1 1) HK.out.row hf).mono ?_;rintro e w6 ⟨rfl, n6, h1, h2⟩;have HE : Hid (Out N p X S w tv nv D oneV (Ps.msig X rec s) (.returned (.int .i64 (s4.nodes.length : Int))) w6) := zh ((HG.out.put h1 h2 HK.out.lo).out (by rw [HPL.out, HPI.out]) rfl);replace HX := zh (HX.out.mv hp0 h2);replace HBt := zh (HBt.out.mv HG.out.pl h2);clear h1 h2;go_wp2_with fail
 refine hK.out _ _ (⟨HBt.out.cell 3, HBt.out.cell 1, HX.out.cell 0⟩) (fun hHeld => ?_);clear hK K;refine tk 10 ?_;refine wpAnyH_done (by kernel_rfl) ?_ _;go_wp2
 go_returns
 exact HE.out
end
end Go.Proofs.YtjickecdkmljpaaGreatDoor
