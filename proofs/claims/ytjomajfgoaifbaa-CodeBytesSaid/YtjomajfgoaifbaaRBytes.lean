/-
  PROVED HERE: the reference's Bytes writes code as chapter 16 says (Rd.putCode). No condition beyond the lemmas' own premises.
-/
import Derived.Test.YtjomajfgoaifbaaRPut
import Derived.Test.YtjomajfgoaifbaaPPut
import Derived.Test.YtjomajfgoaifbaaSame
import Derived.Test.YtjomajfgoaifbaaRCheck
namespace Go.Proofs.Ytjomajfgoaifbaa
open Go.RowKit

/-- Code of no more than so much. -/
structure Small (C : Cd.GCode) : Prop where
  ops : C.ops.length ≤ 8000
  fns : C.fns.length ≤ 1200
  kinds : C.kinds.length ≤ 1200
  takes : ∀ f ∈ C.fns, f.takes.length ≤ 1200
  kind : ∀ l ∈ C.kinds, l.length ≤ 1200
theorem check_small {C : Cd.GCode} (h : Cd.check C = 0) : Small C := by
  cases hs : Cd.sizeBad C with
  | true => unfold Cd.check at h; rw [hs] at h; simp at h
  | false =>
    cases h1 : C.fns.all (Cd.fnOK C.ops.length) with
    | false => rw [check_fns hs h1] at h; simp at h
    | true =>
      cases h2 : C.kinds.all (Cd.kindOK C.fns.length) with
      | false => rw [check_kinds hs h2] at h; simp at h
      | true =>
        unfold Cd.sizeBad at hs
        simp at hs
        rw [List.all_eq_true] at h1 h2
        refine ⟨by omega, by omega, by omega, fun f hf => ?_, fun l hl => ?_⟩
        · have := h1 f hf
          rw [fnOK_parts] at this
          simp [Cd.inB] at this
          omega
        · have := h2 l hl
          unfold Cd.kindOK at this
          simp at this
          omega

theorem getD_mem {α : Type} {l : List α} {i : Nat} {d : α} (h : i < l.length) : l.getD i d ∈ l := by
  rw [List.getD_eq_getElem?_getD, List.getElem?_eq_getElem h]
  simp
theorem take_flat {α β : Type} {l : List α} {k : Nat} {d : α} (f : α → List β) (h : k < l.length) : (l.take (k + 1)).flatMap f = (l.take k).flatMap f ++ f (l.getD k d) := by
  rw [List.take_succ_eq_append_getElem h, List.flatMap_append]
  simp [List.getElem?_eq_getElem h]
theorem put_len2 {bs : List UInt8} {n : Int} {m : Nat} (h : I64 n) (hb : bs.length ≤ m) : (bs ++ Rd.putI n).length ≤ m + 10 := by
  have := Rd.putI_len h
  simp only [List.length_append]
  omega
def hdr (C : Cd.GCode) : List UInt8 := Rd.putI C.ops.length ++ Rd.putI C.fns.length ++ Rd.putI C.kinds.length

/-- What a writer reads as it goes, and what it has laid. -/
structure WbSt (n B : Nat) (w wr : World) (vo vf vk : Value) (C : Cd.GCode) (v : Value) (bs : List UInt8) : Prop where
  a0 : wr.cell? ⟨n, 0, none⟩ = some vo
  a1 : wr.cell? ⟨n, 1, none⟩ = some vf
  a2 : wr.cell? ⟨n, 2, none⟩ = some vk
  ca : CodeV B wr vo vf vk C
  bel : Below n w wr
  lt : n < wr.heap.size
  buf : BufV (n + 1) wr v bs
theorem WbSt.step {n B : Nat} {w wr wx : World} {vo vf vk v v' : Value} {C : Cd.GCode} {bs bs' : List UInt8} (h : WbSt n B w wr vo vf vk C v bs) (hB : B ≤ n) (ho : Below (n + 1) wr wx) (hb : BufV (n + 1) wx v' bs') : WbSt n B w wx vo vf vk C v' bs' := by
  have hl := h.lt
  have hs := ho.size
  have k : ∀ o, wx.cell? ⟨n, o, none⟩ = wr.cell? ⟨n, o, none⟩ := fun o => ho.cell (p := ⟨n, o, none⟩) (by show n < _; omega)
  exact ⟨(k _).trans h.a0, (k _).trans h.a1, (k _).trans h.a2, h.ca.below ho (by omega), h.bel.trans (ho.mono (by omega)), by omega, hb⟩

def OpAt (n : Nat) (W : World) (vo : Value) (b o k : Nat) (x : Cd.GOp) : Prop := W.cell? ⟨n, 0, none⟩ = some vo ∧ W.cell? ⟨b, o + k * 3, none⟩ = some (.int .i64 x.d) ∧ W.cell? ⟨b, o + k * 3 + 1, none⟩ = some (.int .i64 x.a) ∧ W.cell? ⟨b, o + k * 3 + 2, none⟩ = some (.int .i64 x.b)
theorem OpAt.below {n b o k N : Nat} {W W' : World} {vo : Value} {x : Cd.GOp} (h : OpAt n W vo b o k x) (hb : Below N W W') (hn : n < N) (hbn : b < N) : OpAt n W' vo b o k x :=
  ⟨(hb.cell (p := ⟨n, 0, none⟩) hn).trans h.1, (hb.cell (p := ⟨b, _, none⟩) hbn).trans h.2.1, (hb.cell (p := ⟨b, _, none⟩) hbn).trans h.2.2.1, (hb.cell (p := ⟨b, _, none⟩) hbn).trans h.2.2.2⟩

theorem rput_p {n : Nat} {w : World} {v : Value} {bs : List UInt8} {x : Int} (hv : Hid (BufV (n + 1) w v bs)) (hN : n + 1 ≤ w.heap.size) (hn : I64 x) (hl : bs.length ≤ 1000000000) :
    Calls Try.prog 34 #[v, .int .i64 x] w fun e w' => ∃ v', e = .returned v' ∧ Hid (BufV (n + 1) w' v' (bs ++ Rd.putI x)) ∧ Hid (Onto (n + 1) w w') := rput_any (n + 1) w v bs x hv.out hN hn hl
theorem natI {n : Nat} (h : n ≤ 1000000) : I64 (n : Int) := by unfold I64; omega

set_option maxRecDepth 100000 in
set_option maxHeartbeats 4000000 in
theorem rbytes_any (B : Nat) (w : World) (vo vf vk : Value) (C : Cd.GCode) (hC : CodeV B w vo vf vk C) (hB : B ≤ w.heap.size) (hS : Small C) :
    Calls Try.prog 14 #[.agg #[vo, vf, vk]] w fun e w' => ∃ v', e = .returned v' ∧ BufV w.heap.size w' v' (Rd.putCode C) ∧ Below w.heap.size w w' := by
  have hW : Below w.heap.size w (w.alloc (.cells #[vo, vf, vk] 30)) := by go_grown
  have hS0 : WbSt w.heap.size B w (w.alloc (.cells #[vo, vf, vk] 30)) vo vf vk C (.slice none 0 0) [] := by
    have e1 := blk_new w (.cells #[vo, vf, vk] 30)
    exact ⟨by rw [blk_cell e1]; rfl, by rw [blk_cell e1]; rfl, by rw [blk_cell e1]; rfl, hC.below hW hB, hW, by simp, BufV.nil _ _⟩
  have HS := Lib.hid hS0
  have HM := Lib.hid hS
  have m1 := hS.ops
  have m2 := hS.fns
  have m3 := hS.kinds
  obtain ⟨q1, ao, bo, oo, co, rfl, q2, q3, q4, q5⟩ := hC.ops
  obtain ⟨q6, af, bf, of_, cf, rfl, q7, q8, q9, q10⟩ := hC.fns
  obtain ⟨ak, bk, ok, ck, rfl, q11, q12, q13, q14⟩ := hC.kinds
  clear hC hW hS0 hS q1 q4 q5 q6 q9 q10 q13 q14
  have a0 := HS.out.a0
  have a1 := HS.out.a1
  have a2 := HS.out.a2
  have hlt := HS.out.lt
  go_enter Try.func14, Try.ntmps14
  go_wp2_with fail
  generalize (w.alloc (.cells #[.slice ao C.ops.length co, .slice af C.fns.length cf, .slice ak C.kinds.length ck] 30)) = W1 at *
  refine (rput_p (n := w.heap.size) (bs := []) (Lib.hid HS.out.buf) hlt (natI (by omega)) (by simp)).mono ?_
  rintro e w2 ⟨v1, rfl, V1, O1⟩
  have HS1 := Lib.hid (HS.out.step hB O1.out.low V1.out)
  clear HS V1 O1 a0 a1 a2 hlt
  have a0 := HS1.out.a0
  have a1 := HS1.out.a1
  have a2 := HS1.out.a2
  have hlt := HS1.out.lt
  have hl1 := put_len2 (bs := []) (m := 0) (natI (n := C.ops.length) (by omega)) (by simp)
  go_wp2_with fail
  refine (rput_p (n := w.heap.size) (Lib.hid HS1.out.buf) hlt (natI (by omega)) (by omega)).mono ?_
  rintro e w3 ⟨v2, rfl, V1, O1⟩
  have HS2 := Lib.hid (HS1.out.step hB O1.out.low V1.out)
  clear HS1 V1 O1 a0 a1 a2 hlt
  have a0 := HS2.out.a0
  have a1 := HS2.out.a1
  have a2 := HS2.out.a2
  have hlt := HS2.out.lt
  have hl2 := put_len2 (natI (n := C.fns.length) (by omega)) hl1
  go_wp2_with fail
  refine (rput_p (n := w.heap.size) (Lib.hid HS2.out.buf) hlt (natI (by omega)) (by omega)).mono ?_
  rintro e w4 ⟨v3, rfl, V1, O1⟩
  have HS3 := Lib.hid (HS2.out.step hB O1.out.low V1.out)
  clear HS2 V1 O1 a0 a1 a2 hlt
  have hl3 := put_len2 (natI (n := C.kinds.length) (by omega)) hl2
  have HH : Hid ([] ++ Rd.putI C.ops.length ++ Rd.putI C.fns.length ++ Rd.putI C.kinds.length = hdr C ++ (C.ops.take 0).flatMap Rd.putOp) := Lib.hid (by simp [hdr])
  generalize [] ++ Rd.putI C.ops.length ++ Rd.putI C.fns.length ++ Rd.putI C.kinds.length = bs3 at *
  clear hl1 hl2
  go_wp2_with fail
  go_loopw [3, 4] (fun v i wr => ∃ (k : Nat) (bs : List UInt8), k ≤ C.ops.length ∧ i = .int .i64 k ∧ bs.length ≤ 30 + 30 * k ∧ Hid (bs = hdr C ++ (C.ops.take k).flatMap Rd.putOp) ∧ Hid (WbSt w.heap.size B w wr (.slice ao C.ops.length co) (.slice af C.fns.length cf) (.slice ak C.kinds.length ck) C v bs)) (fun _ i _ => C.ops.length - (intOf i).toNat)
  case atStart => exact ⟨0, bs3, by omega, rfl, by omega, HH, HS3⟩
  case round =>
    clear HS3 HH hl3
    obtain ⟨k, bs, hk, rfl, hbl, HE, HS⟩ := hrel
    have a0 := HS.out.a0
    have hN := HS.out.lt
    by_cases hlt : k < C.ops.length
    · have hi := HS.out.ca.ops.1 _ (getD_mem (d := ⟨0, 0, 0⟩) hlt)
      have HT := Lib.hid (take_flat (d := ⟨0, 0, 0⟩) Rd.putOp hlt)
      obtain ⟨cb1, cb2, cb3, e1, hbB, hlen, x1, x2, x3⟩ := HS.out.ca.ops.at' hlt
      cases e1
      generalize C.ops.getD k ⟨0, 0, 0⟩ = x at *
      have HI := Lib.hid hi
      have HOp : Hid (OpAt w.heap.size wr (.slice (some ⟨cb1, cb2, none⟩) C.ops.length co) cb1 cb2 k x) := Lib.hid ⟨a0, x1, x2, x3⟩
      have hi0 : (0 : Int) ≤ (k : Int) := by omega
      have hi1 : (k : Int) < (C.ops.length : Int) := by omega
      clear hi
      go_wp2_with fail
      refine (rput_p (n := w.heap.size) (Lib.hid HS.out.buf) hN HI.out.1 (by omega)).mono ?_
      rintro e w5 ⟨v5, rfl, V5, O5⟩
      clear a0 x1 x2 x3
      obtain ⟨a0, x1, x2, x3⟩ := HOp.out.below O5.out.low (by omega) (by omega)
      have hs5 := O5.out.low.size
      have hl5 := put_len2 HI.out.1 hbl
      go_wp2_with fail
      refine (rput_p (n := w.heap.size) V5 (by omega) HI.out.2.1 (by omega)).mono ?_
      rintro e w6 ⟨v6, rfl, V6, O6⟩
      have O56 := Lib.hid (O5.out.trans O6.out)
      clear a0 x1 x2 x3 O5 O6
      obtain ⟨a0, x1, x2, x3⟩ := HOp.out.below O56.out.low (by omega) (by omega)
      have hs6 := O56.out.low.size
      have hl6 := put_len2 HI.out.2.1 hl5
      go_wp2_with fail
      refine (rput_p (n := w.heap.size) V6 (by omega) HI.out.2.2 (by omega)).mono ?_
      rintro e w7 ⟨v7, rfl, V7, O7⟩
      have HS' := Lib.hid (HS.out.step hB (O56.out.trans O7.out).low V7.out)
      have hl7 := put_len2 HI.out.2.2 hl6
      clear a0 x1 x2 x3 O56 O7 V5 V6 V7 HS
      go_wp2
      go_roundw
      case rel => exact ⟨k + 1, _, by omega, by go_num, by omega, Lib.hid (by rw [HT.out, HE.out]; simp [Rd.putOp]), HS'⟩
      case measure => simp [intOf]; omega
    · obtain rfl : k = C.ops.length := by omega
      have hbl0 : bs.length ≤ 240030 := by omega
      have HE2 : Hid (bs = hdr C ++ C.ops.flatMap Rd.putOp ++ (C.fns.take 0).flatMap Rd.putFn) := Lib.hid (by rw [HE.out, List.take_length]; simp)
      clear HE hbl
      obtain ⟨wo, rfl⟩ : ∃ wo : World, wo = wr := ⟨_, rfl⟩
      go_wp2_with fail
      go_loopw [3, 5] (fun v i wr => ∃ (k : Nat) (bs : List UInt8), k ≤ C.fns.length ∧ i = .int .i64 k ∧ bs.length ≤ 240030 + 12050 * k ∧ Hid (bs = hdr C ++ C.ops.flatMap Rd.putOp ++ (C.fns.take k).flatMap Rd.putFn) ∧ Hid (WbSt w.heap.size B w wr (.slice ao C.ops.length co) (.slice af C.fns.length cf) (.slice ak C.kinds.length ck) C v bs)) (fun _ i _ => C.fns.length - (intOf i).toNat)
      case atStart => exact ⟨0, bs, by omega, rfl, by omega, HE2, HS⟩
      case round =>
        clear HS HE2 hbl0 a0
        obtain ⟨k, bs, hk, rfl, hbl, HE, HS⟩ := hrel
        have a1 := HS.out.a1
        have hN := HS.out.lt
        by_cases hlt : k < C.fns.length
        · have hi := HS.out.ca.fns.1 _ (getD_mem (d := ⟨0, 0, 0, []⟩) hlt)
          have ht := HM.out.takes _ (getD_mem (d := ⟨0, 0, 0, []⟩) hlt)
          have HT := Lib.hid (take_flat (d := ⟨0, 0, 0, []⟩) Rd.putFn hlt)
          obtain ⟨cb1, cb2, cb3, u, e1, hbB, hlen, x1, x2, x3, x4, hu⟩ := HS.out.ca.fns.at' hlt
          cases e1
          have hi0 : (0 : Int) ≤ (k : Int) := by omega
          have hi1 : (k : Int) < (C.fns.length : Int) := by omega
          generalize C.fns.getD k ⟨0, 0, 0, []⟩ = f at *
          obtain ⟨ua, uc, rfl⟩ := hu.lit
          have HI := Lib.hid hi
          have HU := Lib.hid hu
          have hlb : cb1 < wr.heap.size := by omega
          obtain ⟨wq, rfl⟩ : ∃ wq : World, wq = wr := ⟨_, rfl⟩
          have O0 : Hid (Onto (w.heap.size + 1) wq (wq.alloc (.cells #[.int .i64 f.params, .int .i64 f.slots, .int .i64 f.start, .slice ua f.takes.length uc] 61))) := Lib.hid ((Onto.refl _ _).alloc hN _)
          have B0 := Lib.hid (blk_new wq (.cells #[.int .i64 f.params, .int .i64 f.slots, .int .i64 f.start, .slice ua f.takes.length uc] 61))
          have V0 : Hid (BufV (w.heap.size + 1) (wq.alloc (.cells #[.int .i64 f.params, .int .i64 f.slots, .int .i64 f.start, .slice ua f.takes.length uc] 61)) _ bs) := Lib.hid (HS.out.buf.onto_alloc _)
          clear hi hu
          go_wp2_with fail
          refine (rput_p (n := w.heap.size) V0 (by simp; omega) HI.out.1 (by omega)).mono ?_
          rintro e w5 ⟨v5, rfl, V5, O5⟩
          have P5 := Lib.hid (O0.out.trans O5.out)
          have B5 := Lib.hid (O5.out.kept _ _ _ B0.out (by decide) (by decide))
          have hl5 := put_len2 HI.out.1 hbl
          have hs5 := P5.out.low.size
          clear V0 O0 B0 O5 a1 x1 x2 x3 x4
          have b1 := blk_cell B5.out 1
          have hb1 := blk_lt B5.out
          simp only [List.getElem?_toArray, List.getElem?_cons_zero, List.getElem?_cons_succ] at b1
          go_wp2_with fail
          refine (rput_p (n := w.heap.size) V5 (by omega) HI.out.2.1 (by omega)).mono ?_
          rintro e w6 ⟨v6, rfl, V6, O6⟩
          have P6 := Lib.hid (P5.out.trans O6.out)
          have B6 := Lib.hid (O6.out.kept _ _ _ B5.out (by decide) (by decide))
          have hl6 := put_len2 HI.out.2.1 hl5
          have hs6 := P6.out.low.size
          clear V5 P5 B5 O6 b1 hb1
          have b2 := blk_cell B6.out 2
          have hb1 := blk_lt B6.out
          simp only [List.getElem?_toArray, List.getElem?_cons_zero, List.getElem?_cons_succ] at b2
          go_wp2_with fail
          refine (rput_p (n := w.heap.size) V6 (by omega) HI.out.2.2 (by omega)).mono ?_
          rintro e w7 ⟨v7, rfl, V7, O7⟩
          have P7 := Lib.hid (P6.out.trans O7.out)
          have B7 := Lib.hid (O7.out.kept _ _ _ B6.out (by decide) (by decide))
          have hl7 := put_len2 HI.out.2.2 hl6
          have hs7 := P7.out.low.size
          clear V6 P6 B6 O7 b2 hb1
          have b3 := blk_cell B7.out 3
          have hb1 := blk_lt B7.out
          simp only [List.getElem?_toArray, List.getElem?_cons_zero, List.getElem?_cons_succ] at b3
          go_wp2_with fail
          refine (rput_p (n := w.heap.size) V7 (by omega) (natI (by omega)) (by omega)).mono ?_
          rintro e w8 ⟨v8, rfl, V8, O8⟩
          have P8 := Lib.hid (P7.out.trans O8.out)
          have B8 := Lib.hid (O8.out.kept _ _ _ B7.out (by decide) (by decide))
          have hl8 := put_len2 (natI (n := f.takes.length) (by omega)) hl7
          have HE8 : Hid (bs ++ Rd.putI f.params ++ Rd.putI f.slots ++ Rd.putI f.start ++ Rd.putI f.takes.length = bs ++ Rd.putI f.params ++ Rd.putI f.slots ++ Rd.putI f.start ++ Rd.putI f.takes.length ++ Rd.putIs (f.takes.take 0)) := Lib.hid (by simp [Rd.putIs])
          clear V7 P7 B7 O8 b3 hb1 hs5 hs6 hs7
          go_wp2_with fail
          go_loopw [3, 7] (fun v i wr => ∃ (j : Nat) (cs : List UInt8), j ≤ f.takes.length ∧ i = .int .i64 j ∧ cs.length ≤ 240030 + 12050 * k + 40 + 10 * j ∧ Hid (cs = bs ++ Rd.putI f.params ++ Rd.putI f.slots ++ Rd.putI f.start ++ Rd.putI f.takes.length ++ Rd.putIs (f.takes.take j)) ∧ Hid (BufV (w.heap.size + 1) wr v cs) ∧ Hid (Onto (w.heap.size + 1) wq wr) ∧ Hid (wr.heap[wq.heap.size]? = some (.cells #[.int .i64 f.params, .int .i64 f.slots, .int .i64 f.start, .slice ua f.takes.length uc] 61 (0, 0)))) (fun _ i _ => f.takes.length - (intOf i).toNat)
          case atStart => exact ⟨0, _, by omega, rfl, by omega, HE8, V8, P8, B8⟩
          case round =>
            clear HE8 V8 P8 B8 hl5 hl6 hl7 hl8
            obtain ⟨j, cs, hj, rfl, hcl, HE8, HV, HP, HB⟩ := hrel
            have b3 := blk_cell HB.out 3
            have hb1 := blk_lt HB.out
            have hs5 := HP.out.low.size
            simp only [List.getElem?_toArray, List.getElem?_cons_zero, List.getElem?_cons_succ] at b3
            by_cases hjt : j < f.takes.length
            · obtain ⟨h1, ha, hb, ho, hc, e1, h2, ⟨h3, h4⟩, h5, h6⟩ := HU.out.below HP.out.low (by omega)
              obtain ⟨rfl, hbB2⟩ := h5 (by omega)
              cases e1
              have hcell := h6 j hjt
              have hxI := h1 _ (iAt_mem hjt)
              have HK := Lib.hid (putIs_take hjt)
              have hj0 : (0 : Int) ≤ (j : Int) := by omega
              have hj1 : (j : Int) < (f.takes.length : Int) := by omega
              generalize iAt f.takes j = x at *
              have HXI := Lib.hid hxI
              clear h5 h6 h1 hxI
              go_wp2_with fail
              refine (rput_p (n := w.heap.size) HV (by omega) HXI.out (by omega)).mono ?_
              rintro e w9 ⟨v9, rfl, V9, O9⟩
              have P9 := Lib.hid (HP.out.trans O9.out)
              have B9 := Lib.hid (O9.out.kept _ _ _ HB.out (by decide) (by decide))
              have hl9 := put_len2 HXI.out hcl
              clear HP HV HB O9 hcell b3
              go_wp2
              go_roundw
              case rel => exact ⟨j + 1, _, by omega, by go_num, by omega, Lib.hid (by rw [HK.out, HE8.out]; simp), V9, P9, B9⟩
              case measure => simp [intOf]; omega
            · obtain rfl : j = f.takes.length := by omega
              have HS' := Lib.hid (HS.out.step hB HP.out.low HV.out)
              have HE9 : Hid (cs = hdr C ++ C.ops.flatMap Rd.putOp ++ (C.fns.take (k + 1)).flatMap Rd.putFn) := Lib.hid (by rw [HT.out, HE8.out, HE.out, List.take_length]; simp [Rd.putFn, Rd.putL])
              clear HE8 HE HP HV HB HS
              go_wp2_with fail
              go_roundw
              case rel => exact ⟨k + 1, cs, by omega, by go_num, by omega, HE9, HS'⟩
              case measure => simp [intOf]; omega
        · obtain rfl : k = C.fns.length := by omega
          have hbl0 : bs.length ≤ 14700030 := by omega
          have HE2 : Hid (bs = hdr C ++ C.ops.flatMap Rd.putOp ++ C.fns.flatMap Rd.putFn ++ (C.kinds.take 0).flatMap Rd.putL) := Lib.hid (by rw [HE.out, List.take_length]; simp)
          clear HE hbl
          obtain ⟨wo2, rfl⟩ : ∃ wo : World, wo = wr := ⟨_, rfl⟩
          go_wp2_with fail
          go_loopw [3, 8] (fun v i wr => ∃ (k : Nat) (bs : List UInt8), k ≤ C.kinds.length ∧ i = .int .i64 k ∧ bs.length ≤ 14700030 + 12010 * k ∧ Hid (bs = hdr C ++ C.ops.flatMap Rd.putOp ++ C.fns.flatMap Rd.putFn ++ (C.kinds.take k).flatMap Rd.putL) ∧ Hid (WbSt w.heap.size B w wr (.slice ao C.ops.length co) (.slice af C.fns.length cf) (.slice ak C.kinds.length ck) C v bs)) (fun _ i _ => C.kinds.length - (intOf i).toNat)
          case atStart => exact ⟨0, bs, by omega, rfl, by omega, HE2, HS⟩
          case round =>
            clear HS HE2 hbl0 a1
            obtain ⟨k, bs, hk, rfl, hbl, HE, HS⟩ := hrel
            have a2 := HS.out.a2
            have hN := HS.out.lt
            by_cases hlt : k < C.kinds.length
            · have ht := HM.out.kind _ (getD_mem (d := []) hlt)
              have HT := Lib.hid (take_flat (d := []) Rd.putL hlt)
              obtain ⟨cb1, cb2, cb3, u, e1, hbB, hlen, x1, hu⟩ := HS.out.ca.kinds.at' hlt
              cases e1
              have hi0 : (0 : Int) ≤ (k : Int) := by omega
              have hi1 : (k : Int) < (C.kinds.length : Int) := by omega
              generalize C.kinds.getD k [] = l at *
              obtain ⟨ua, uc, rfl⟩ := hu.lit
              have HU := Lib.hid hu
              have HX := Lib.hid x1
              obtain ⟨wq, rfl⟩ : ∃ wq : World, wq = wr := ⟨_, rfl⟩
              clear hu
              go_wp2_with fail
              refine (rput_p (n := w.heap.size) (Lib.hid HS.out.buf) hN (natI (by omega)) (by omega)).mono ?_
              rintro e w5 ⟨v5, rfl, V5, O5⟩
              have hl5 := put_len2 (natI (n := l.length) (by omega)) hbl
              have HE8 : Hid (bs ++ Rd.putI l.length = bs ++ Rd.putI l.length ++ Rd.putIs (l.take 0)) := Lib.hid (by simp [Rd.putIs])
              have HSq := HS
              clear a2 x1
              go_wp2_with fail
              go_loopw [3, 9] (fun v i wr => ∃ (j : Nat) (cs : List UInt8), j ≤ l.length ∧ i = .int .i64 j ∧ cs.length ≤ 14700030 + 12010 * k + 10 + 10 * j ∧ Hid (cs = bs ++ Rd.putI l.length ++ Rd.putIs (l.take j)) ∧ Hid (BufV (w.heap.size + 1) wr v cs) ∧ Hid (Onto (w.heap.size + 1) wq wr)) (fun _ i _ => l.length - (intOf i).toNat)
              case atStart => exact ⟨0, _, by omega, rfl, by omega, HE8, V5, O5⟩
              case round =>
                clear HE8 V5 O5 hl5
                obtain ⟨j, cs, hj, rfl, hcl, HE8, HV, HP⟩ := hrel
                have HS' := Lib.hid (HS.out.step hB HP.out.low HV.out)
                have a2 := HS'.out.a2
                have hN2 := HS'.out.lt
                have x1 := (HP.out.low.cell (p := ⟨cb1, cb2 + k, none⟩) (by show cb1 < _; omega)).trans HX.out
                have hlb : cb1 < wr.heap.size := by omega
                by_cases hjt : j < l.length
                · obtain ⟨h1, ha, hb, ho, hc, e1, h2, ⟨h3, h4⟩, h5, h6⟩ := HU.out.below HP.out.low (by omega)
                  obtain ⟨rfl, hbB2⟩ := h5 (by omega)
                  cases e1
                  have hcell := h6 j hjt
                  have hxI := h1 _ (iAt_mem hjt)
                  have HK := Lib.hid (putIs_take hjt)
                  have hj0 : (0 : Int) ≤ (j : Int) := by omega
                  have hj1 : (j : Int) < (l.length : Int) := by omega
                  generalize iAt l j = x at *
                  have HXI := Lib.hid hxI
                  clear h5 h6 h1 hxI
                  go_wp2_with fail
                  refine (rput_p (n := w.heap.size) HV (by omega) HXI.out (by omega)).mono ?_
                  rintro e w9 ⟨v9, rfl, V9, O9⟩
                  have P9 := Lib.hid (HP.out.trans O9.out)
                  have hl9 := put_len2 HXI.out hcl
                  clear HP HV O9 hcell a2 x1 HS'
                  go_wp2
                  go_roundw
                  case rel => exact ⟨j + 1, _, by omega, by go_num, by omega, Lib.hid (by rw [HK.out, HE8.out]; simp), V9, P9⟩
                  case measure => simp [intOf]; omega
                · obtain rfl : j = l.length := by omega
                  have HE9 : Hid (cs = hdr C ++ C.ops.flatMap Rd.putOp ++ C.fns.flatMap Rd.putFn ++ (C.kinds.take (k + 1)).flatMap Rd.putL) := Lib.hid (by rw [HT.out, HE8.out, HE.out, List.take_length]; simp [Rd.putL])
                  clear HE8 HE HP HV
                  go_wp2_with fail
                  go_roundw
                  case rel => exact ⟨k + 1, cs, by omega, by go_num, by omega, HE9, HS'⟩
                  case measure => simp [intOf]; omega
            · obtain rfl : k = C.kinds.length := by omega
              have HE2 : Hid (bs = Rd.putCode C) := Lib.hid (by rw [HE.out, List.take_length]; rfl)
              clear HE hbl
              go_wp2
              go_returns
              exact ⟨_, rfl, by rw [← HE2.out]; exact own_lower HS.out.buf (by omega), HS.out.bel⟩
end Go.Proofs.Ytjomajfgoaifbaa
