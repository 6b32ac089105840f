/-
  PROVED HERE: the program's Bytes writes code that may be as chapter 16 says (Rd.putCode), and says of other code what is wrong. No condition beyond the lemmas' own premises.
-/
import Derived.Test.YtjomajfgoaifbaaRBytes
import Derived.Test.YtjomajfgoaifbaaPCheck2
namespace Go.Proofs.Ytjomajfgoaifbaa
open Go.RowKit

theorem ints_blk {N q : Nat} {w : World} {l : List Int} (h : w.heap[q]? = some (.cells (l.map (Value.int .i64)).toArray 3 (0, 0))) (hI : ∀ x ∈ l, I64 x) (hl : l.length ≤ 1000) : ∀ w', Onto N w w' → IntsV w'.heap.size w' (.slice (some ⟨q, 0, none⟩) l.length l.length) l := by
  intro w' ho
  have h' := ho.kept q _ _ h (by decide) (by decide)
  refine ⟨hI, _, q, 0, l.length, rfl, Nat.le_refl _, by omega, fun _ => ⟨rfl, blk_lt h'⟩, fun i hi => ?_⟩
  rw [blk_cell h']
  simp [iAt, List.getElem?_eq_getElem hi]
theorem ints_low {N B : Nat} {w : World} {u : Value} {l : List Int} (h : IntsV B w u l) (hB : B ≤ N) (hs : B ≤ w.heap.size) : ∀ w', Onto N w w' → IntsV w'.heap.size w' u l := fun w' ho => by
  have h2 := h.below ho.low hB
  have := ho.low.size
  exact ⟨h2.1, h2.2.mono (by omega) fun _ _ _ hc => hc⟩

theorem pput_p {N p : Nat} {w : World} {u : Value} {bs : List UInt8} {l : List Int} (hv : Hid (BoxV N p w bs)) (hN : N ≤ p) (hu : Hid (∀ w', Onto N w w' → IntsV w'.heap.size w' u l)) (hl : bs.length + 10 * l.length ≤ 1000000000) :
    Calls Try.prog 33 #[u, .pointer (some ⟨p, 0, none⟩)] w fun e w' => e = .returned (.tuple #[]) ∧ Hid (BoxV N p w' (bs ++ Rd.putIs l)) ∧ Hid (Onto N w w') := pput_any N p w u bs l hv.out hN hu.out hl
theorem puts_len2 {bs : List UInt8} {l : List Int} {m : Nat} (h : ∀ x ∈ l, I64 x) (hb : bs.length ≤ m) : (bs ++ Rd.putIs l).length ≤ m + 10 * l.length := by
  have := putIs_len h
  simp only [List.length_append]
  omega
theorem BoxV.onto_alloc {N p : Nat} {w : World} {bs : List UInt8} (h : BoxV N p w bs) (o : Obj) : BoxV N p (w.alloc o) bs := by
  obtain ⟨v, h1, h2⟩ := h
  exact ⟨v, blk_alloc h1 o, h2.onto_alloc o⟩
theorem i64_3 {a b c : Int} (h : I64 a ∧ I64 b ∧ I64 c) : ∀ x ∈ [a, b, c], I64 x := by
  intro x hx
  simp only [List.mem_cons, List.not_mem_nil, or_false] at hx
  rcases hx with rfl | rfl | rfl
  · exact h.1
  · exact h.2.1
  · exact h.2.2
theorem i64_4 {a b c d : Int} (h : I64 a ∧ I64 b ∧ I64 c) (hd : I64 d) : ∀ x ∈ [a, b, c, d], I64 x := by
  intro x hx
  simp only [List.mem_cons, List.not_mem_nil, or_false] at hx
  rcases hx with rfl | rfl | rfl | rfl
  · exact h.1
  · exact h.2.1
  · exact h.2.2
  · exact hd

/-- What the program's Bytes reads as it goes, and what it has laid. -/
structure PbSt (n B p : Nat) (w wr : World) (vo vf vk : Value) (C : Cd.GCode) (bs : List UInt8) : Prop where
  a0 : wr.cell? ⟨n, 0, none⟩ = some vo
  a1 : wr.cell? ⟨n, 1, none⟩ = some vf
  a2 : wr.cell? ⟨n, 2, none⟩ = some vk
  ca : CodeV B wr vo vf vk C
  bel : Below n w wr
  lt : n < p
  lp : p < wr.heap.size
  box : BoxV p p wr bs
theorem PbSt.step {n B p : Nat} {w wr wx : World} {vo vf vk : Value} {C : Cd.GCode} {bs bs' : List UInt8} (h : PbSt n B p w wr vo vf vk C bs) (hB : B ≤ n) (ho : Below p wr wx) (hb : BoxV p p wx bs') : PbSt n B p w wx vo vf vk C bs' := by
  have hl := h.lt
  have hp := h.lp
  have hs := ho.size
  have k : ∀ o, wx.cell? ⟨n, o, none⟩ = wr.cell? ⟨n, o, none⟩ := fun o => ho.cell (p := ⟨n, o, none⟩) (by show n < _; omega)
  exact ⟨(k _).trans h.a0, (k _).trans h.a1, (k _).trans h.a2, h.ca.below ho (by omega), h.bel.trans (ho.mono (by omega)), hl, by omega, hb⟩

/-- What the program's Bytes leaves. -/
def PbPost (w : World) (C : Cd.GCode) (e : Ending) (w' : World) : Prop :=
  Below w.heap.size w w' ∧ ((Cd.check C = 0 ∧ ∃ v', e = .returned (.tuple #[v', .int .i64 0]) ∧ BufV w.heap.size w' v' (Rd.putCode C)) ∨ (Cd.check C ≠ 0 ∧ e = .returned (.tuple #[.slice none 0 0, .int .i64 (Cd.check C)])))

set_option maxRecDepth 100000 in
set_option maxHeartbeats 4000000 in
theorem pbytes_any (B : Nat) (w : World) (vo vf vk : Value) (C : Cd.GCode) (hC : CodeV B w vo vf vk C) (hB : B ≤ w.heap.size) :
    Calls Try.prog 13 #[.agg #[vo, vf, vk]] w (PbPost w C) := by
  have hW : Below w.heap.size w (w.alloc (.cells #[vo, vf, vk] 30)) := by go_grown
  have e1 := blk_new w (.cells #[vo, vf, vk] 30)
  have HC := Lib.hid (hC.below hW hB)
  have HE := Lib.hid e1
  have HW := Lib.hid hW
  have hl1 := blk_lt e1
  obtain ⟨q1, ao, bo, oo, co, rfl, q2, q3, q4, q5⟩ := hC.ops
  obtain ⟨q6, af, bf, of_, cf, rfl, q7, q8, q9, q10⟩ := hC.fns
  obtain ⟨ak, bk, ok, ck, rfl, q11, q12, q13, q14⟩ := hC.kinds
  clear hC hW e1 q1 q4 q5 q6 q9 q10 q13 q14
  go_enter Try.func13, Try.ntmps13
  go_wp2_with fail
  generalize (w.alloc (.cells #[.slice ao C.ops.length co, .slice af C.fns.length cf, .slice ak C.kinds.length ck] 30)) = W1 at *
  refine (pcheck_any B _ _ _ _ C HC.out (by omega)).mono ?_
  rintro e w1 ⟨rfl, hb1⟩
  have e1 := blk_below HE.out hb1 hl1
  have a0 := blk_cell e1 0
  have a1 := blk_cell e1 1
  have a2 := blk_cell e1 2
  have hl2 := blk_lt e1
  simp only [List.getElem?_toArray, List.getElem?_cons_zero, List.getElem?_cons_succ] at a0 a1 a2
  have HC1 := Lib.hid (HC.out.below hb1 (by omega))
  have HB1 := Lib.hid (HW.out.trans (hb1.mono (by omega)))
  clear hb1 e1 HC HE HW
  by_cases hz : Cd.check C = 0
  · have HM := Lib.hid (check_small hz)
    have HZ := Lib.hid hz
    have m1 := HM.out.ops
    have m2 := HM.out.fns
    have m3 := HM.out.kinds
    rw [hz]
    clear hz
    have HX : Hid (PbSt w.heap.size B w1.heap.size w (w1.alloc (.cells #[.slice none 0 0] 33)) (.slice ao C.ops.length co) (.slice af C.fns.length cf) (.slice ak C.kinds.length ck) C []) := by
      have hw1 : Below w1.heap.size w1 (w1.alloc (.cells #[.slice none 0 0] 33)) := by go_grown
      have k : ∀ o, (w1.alloc (.cells #[.slice none 0 0] 33)).cell? ⟨w.heap.size, o, none⟩ = w1.cell? ⟨w.heap.size, o, none⟩ := fun o => hw1.cell (p := ⟨w.heap.size, o, none⟩) hl2
      exact Lib.hid ⟨(k _).trans a0, (k _).trans a1, (k _).trans a2, HC1.out.below hw1 (by omega), HB1.out.trans (hw1.mono (by omega)), hl2, by simp, ⟨_, blk_new _ _, BufV.nil _ _⟩⟩
    have hI3 : Hid (∀ x ∈ [(C.ops.length : Int), (C.fns.length : Int), (C.kinds.length : Int)], I64 x) := Lib.hid (i64_3 ⟨natI (by omega), natI (by omega), natI (by omega)⟩)
    go_wp2_with fail
    have HX2 := Lib.hid (HX.out.step hB (wx := ((w1.alloc (.cells #[.slice none 0 0] 33)).alloc (.cells #[.int .i64 C.ops.length, .int .i64 C.fns.length, .int .i64 C.kinds.length] 3))) (by go_grown) (HX.out.box.onto_alloc _))
    have hbl0 := blk_new (w1.alloc (.cells #[.slice none 0 0] 33)) (.cells #[.int .i64 C.ops.length, .int .i64 C.fns.length, .int .i64 C.kinds.length] 3)
    have hN2 : w1.heap.size + 1 = (w1.alloc (.cells #[.slice none 0 0] 33)).heap.size := by simp
    rw [← hN2] at hbl0
    refine (pput_p (p := w1.heap.size) (N := w1.heap.size) (bs := []) (l := [(C.ops.length : Int), (C.fns.length : Int), (C.kinds.length : Int)]) (Lib.hid HX2.out.box) (Nat.le_refl _) (Lib.hid (ints_blk hbl0 hI3.out (by simp))) (by simp)).mono ?_
    rintro e w4 ⟨rfl, V4, O4⟩
    have HX4 := Lib.hid (HX2.out.step hB O4.out.low V4.out)
    have hl3 := puts_len2 (bs := []) (m := 0) hI3.out (by simp)
    have HH : Hid ([] ++ Rd.putIs [(C.ops.length : Int), (C.fns.length : Int), (C.kinds.length : Int)] = hdr C ++ (C.ops.take 0).flatMap Rd.putOp) := Lib.hid (by simp [hdr, Rd.putIs])
    simp only [List.length_cons, List.length_nil] at hl3
    generalize [] ++ Rd.putIs [(C.ops.length : Int), (C.fns.length : Int), (C.kinds.length : Int)] = bs3 at *
    have p0 := HX4.out.a0
    generalize w1.heap.size = p at *
    clear hbl0 hN2 HX HX2 V4 O4 hI3 a0 a1 a2
    go_wp2_with fail
    go_loopw [34] (fun i wr => ∃ (k : Nat) (bs : List UInt8), k ≤ C.ops.length ∧ i = .int .i64 k ∧ bs.length ≤ 30 + 30 * k ∧ Hid (bs = hdr C ++ (C.ops.take k).flatMap Rd.putOp) ∧ Hid (PbSt w.heap.size B p w wr (.slice ao C.ops.length co) (.slice af C.fns.length cf) (.slice ak C.kinds.length ck) C bs)) (fun i _ => C.ops.length - (intOf i).toNat)
    case atStart => exact ⟨0, bs3, by omega, rfl, by omega, HH, HX4⟩
    case round =>
      clear HX4 HH hl3 p0
      obtain ⟨k, bs, hk, rfl, hbl, HE, HS⟩ := hrel
      have a0 := HS.out.a0
      have hN := HS.out.lp
      have hnp := HS.out.lt
      by_cases hlt : k < C.ops.length
      · have hi := HS.out.ca.ops.1 _ (getD_mem (d := ⟨0, 0, 0⟩) hlt)
        have HT := Lib.hid (take_flat (d := ⟨0, 0, 0⟩) Rd.putOp hlt)
        obtain ⟨cb1, cb2, cb3, e1, hbB, hlen, x1, x2, x3⟩ := HS.out.ca.ops.at' hlt
        cases e1
        generalize C.ops.getD k ⟨0, 0, 0⟩ = x at *
        have HI := Lib.hid (i64_3 hi)
        have hi0 : (0 : Int) ≤ (k : Int) := by omega
        have hi1 : (k : Int) < (C.ops.length : Int) := by omega
        have hlb : cb1 < wr.heap.size := by omega
        have O0 : Hid (Onto p wr ((wr.alloc (.cells #[.int .i64 x.d, .int .i64 x.a, .int .i64 x.b] 68)).alloc (.cells #[.int .i64 x.d, .int .i64 x.a, .int .i64 x.b] 3))) := Lib.hid (((Onto.refl _ _).alloc (by omega) _).alloc (by simp; omega) _)
        have hbk := blk_new (wr.alloc (.cells #[.int .i64 x.d, .int .i64 x.a, .int .i64 x.b] 68)) (.cells #[.int .i64 x.d, .int .i64 x.a, .int .i64 x.b] 3)
        have hsz : wr.heap.size + 1 = (wr.alloc (.cells #[.int .i64 x.d, .int .i64 x.a, .int .i64 x.b] 68)).heap.size := by simp
        rw [← hsz] at hbk
        have HQ := Lib.hid (ints_blk (N := p) (l := [x.d, x.a, x.b]) hbk HI.out (by simp))
        clear hi hbk hsz
        go_wp2_with fail
        refine (pput_p (p := p) (N := p) (bs := bs) (l := [x.d, x.a, x.b]) (Lib.hid ((HS.out.box.onto_alloc _).onto_alloc _)) (Nat.le_refl _) HQ (by simp; omega)).mono ?_
        rintro e w5 ⟨rfl, V5, O5⟩
        have HS' := Lib.hid (HS.out.step hB (O0.out.trans O5.out).low V5.out)
        have hl5 := puts_len2 HI.out hbl
        simp only [List.length_cons, List.length_nil] at hl5
        clear a0 x1 x2 x3 O0 O5 V5 HS HQ
        go_wp2
        go_roundw
        case rel => exact ⟨k + 1, _, by omega, by go_num, by omega, Lib.hid (by rw [HT.out, HE.out]; simp [Rd.putOp, Rd.putIs]), HS'⟩
        case measure => simp [intOf]; omega
      · obtain rfl : k = C.ops.length := by omega
        have hbl0 : bs.length ≤ 240030 := by omega
        have HE2 : Hid (bs = hdr C ++ C.ops.flatMap Rd.putOp ++ (C.fns.take 0).flatMap Rd.putFn) := Lib.hid (by rw [HE.out, List.take_length]; simp)
        have a1 := HS.out.a1
        clear HE hbl a0
        obtain ⟨wo, rfl⟩ : ∃ wo : World, wo = wr := ⟨_, rfl⟩
        go_wp2_with fail
        go_loopw [51] (fun i wr => ∃ (k : Nat) (bs : List UInt8), k ≤ C.fns.length ∧ i = .int .i64 k ∧ bs.length ≤ 240030 + 12050 * k ∧ Hid (bs = hdr C ++ C.ops.flatMap Rd.putOp ++ (C.fns.take k).flatMap Rd.putFn) ∧ Hid (PbSt w.heap.size B p w wr (.slice ao C.ops.length co) (.slice af C.fns.length cf) (.slice ak C.kinds.length ck) C bs)) (fun i _ => C.fns.length - (intOf i).toNat)
        case atStart => exact ⟨0, bs, by omega, rfl, by omega, HE2, HS⟩
        case round =>
          clear HS HE2 hbl0 a1
          obtain ⟨k, bs, hk, rfl, hbl, HE, HS⟩ := hrel
          have hN := HS.out.lp
          have hnp := HS.out.lt
          by_cases hlt : k < C.fns.length
          · have hi := HS.out.ca.fns.1 _ (getD_mem (d := ⟨0, 0, 0, []⟩) hlt)
            have ht := HM.out.takes _ (getD_mem (d := ⟨0, 0, 0, []⟩) hlt)
            have HT := Lib.hid (take_flat (d := ⟨0, 0, 0, []⟩) Rd.putFn hlt)
            obtain ⟨cb1, cb2, cb3, u, e1, hbB, hlen, x1, x2, x3, x4, hu⟩ := HS.out.ca.fns.at' hlt
            cases e1
            have hi0 : (0 : Int) ≤ (k : Int) := by omega
            have hi1 : (k : Int) < (C.fns.length : Int) := by omega
            generalize C.fns.getD k ⟨0, 0, 0, []⟩ = f at *
            obtain ⟨ua, uc, rfl⟩ := hu.lit
            have HI := Lib.hid (i64_4 hi (natI (n := f.takes.length) (by omega)))
            have HU := Lib.hid hu
            have hlb : cb1 < wr.heap.size := by omega
            have O0 : Hid (Onto p wr ((wr.alloc (.cells #[.int .i64 f.params, .int .i64 f.slots, .int .i64 f.start, .slice ua f.takes.length uc] 61)).alloc (.cells #[.int .i64 f.params, .int .i64 f.slots, .int .i64 f.start, .int .i64 f.takes.length] 3))) := Lib.hid (((Onto.refl _ _).alloc (by omega) _).alloc (by simp; omega) _)
            have B0 := blk_alloc (blk_new wr (.cells #[.int .i64 f.params, .int .i64 f.slots, .int .i64 f.start, .slice ua f.takes.length uc] 61)) (.cells #[.int .i64 f.params, .int .i64 f.slots, .int .i64 f.start, .int .i64 f.takes.length] 3)
            have HB0 := Lib.hid B0
            have hbk := blk_new (wr.alloc (.cells #[.int .i64 f.params, .int .i64 f.slots, .int .i64 f.start, .slice ua f.takes.length uc] 61)) (.cells #[.int .i64 f.params, .int .i64 f.slots, .int .i64 f.start, .int .i64 f.takes.length] 3)
            have hsz : wr.heap.size + 1 = (wr.alloc (.cells #[.int .i64 f.params, .int .i64 f.slots, .int .i64 f.start, .slice ua f.takes.length uc] 61)).heap.size := by simp
            rw [← hsz] at hbk
            have HQ := Lib.hid (ints_blk (N := p) (l := [f.params, f.slots, f.start, (f.takes.length : Int)]) hbk HI.out (by simp))
            clear hi hbk hsz hu B0
            go_wp2_with fail
            refine (pput_p (p := p) (N := p) (bs := bs) (l := [f.params, f.slots, f.start, (f.takes.length : Int)]) (Lib.hid ((HS.out.box.onto_alloc _).onto_alloc _)) (Nat.le_refl _) HQ (by simp; omega)).mono ?_
            rintro e w5 ⟨rfl, V5, O5⟩
            have O05 := Lib.hid (O0.out.trans O5.out)
            have hl5 := puts_len2 HI.out hbl
            have b0 := O5.out.kept _ _ _ HB0.out (by decide) (by decide)
            have b3 := blk_cell b0 3
            have hb3 := blk_lt b0
            simp only [List.getElem?_toArray, List.getElem?_cons_zero, List.getElem?_cons_succ] at b3
            simp only [List.length_cons, List.length_nil] at hl5
            have hu5 := HU.out.below O05.out.low (by omega)
            have HQ2 := Lib.hid (ints_low (N := p) hu5 (by omega) (by omega))
            have HUI := Lib.hid hu5.1
            clear x1 x2 x3 x4 O0 O5 HQ HB0 b0 hu5
            go_wp2_with fail
            refine (pput_p (p := p) (N := p) (l := f.takes) V5 (Nat.le_refl _) HQ2 (by omega)).mono ?_
            rintro e w6 ⟨rfl, V6, O6⟩
            have hl6 := puts_len2 HUI.out hl5
            have HS' := Lib.hid (HS.out.step hB (O05.out.trans O6.out).low V6.out)
            clear O05 O6 V5 V6 HS HQ2 HUI HU b3
            go_wp2
            go_roundw
            case rel => exact ⟨k + 1, _, by omega, by go_num, by omega, Lib.hid (by rw [HT.out, HE.out]; simp [Rd.putFn, Rd.putL, Rd.putIs]), HS'⟩
            case measure => simp [intOf]; omega
          · obtain rfl : k = C.fns.length := by omega
            have hbl0 : bs.length ≤ 14700030 := by omega
            have HE2 : Hid (bs = hdr C ++ C.ops.flatMap Rd.putOp ++ C.fns.flatMap Rd.putFn ++ (C.kinds.take 0).flatMap Rd.putL) := Lib.hid (by rw [HE.out, List.take_length]; simp)
            have a2 := HS.out.a2
            clear HE hbl
            obtain ⟨wo2, rfl⟩ : ∃ wo : World, wo = wr := ⟨_, rfl⟩
            go_wp2_with fail
            go_loopw [75] (fun i wr => ∃ (k : Nat) (bs : List UInt8), k ≤ C.kinds.length ∧ i = .int .i64 k ∧ bs.length ≤ 14700030 + 12010 * k ∧ Hid (bs = hdr C ++ C.ops.flatMap Rd.putOp ++ C.fns.flatMap Rd.putFn ++ (C.kinds.take k).flatMap Rd.putL) ∧ Hid (PbSt w.heap.size B p w wr (.slice ao C.ops.length co) (.slice af C.fns.length cf) (.slice ak C.kinds.length ck) C bs)) (fun i _ => C.kinds.length - (intOf i).toNat)
            case atStart => exact ⟨0, bs, by omega, rfl, by omega, HE2, HS⟩
            case round =>
              clear HS HE2 hbl0 a2
              obtain ⟨k, bs, hk, rfl, hbl, HE, HS⟩ := hrel
              have hN := HS.out.lp
              have hnp := HS.out.lt
              by_cases hlt : k < C.kinds.length
              · have ht := HM.out.kind _ (getD_mem (d := []) hlt)
                have HT := Lib.hid (take_flat (d := []) Rd.putL hlt)
                obtain ⟨cb1, cb2, cb3, u, e1, hbB, hlen, x1, hu⟩ := HS.out.ca.kinds.at' hlt
                cases e1
                have hi0 : (0 : Int) ≤ (k : Int) := by omega
                have hi1 : (k : Int) < (C.kinds.length : Int) := by omega
                generalize C.kinds.getD k [] = l at *
                obtain ⟨ua, uc, rfl⟩ := hu.lit
                have HI : Hid (∀ x ∈ [(l.length : Int)], I64 x) := Lib.hid (fun x hx => by rw [List.mem_singleton.1 hx]; exact natI (by omega))
                have HU := Lib.hid hu
                have hlb : cb1 < wr.heap.size := by omega
                have O0 : Hid (Onto p wr (wr.alloc (.cells #[.int .i64 l.length] 3))) := Lib.hid ((Onto.refl _ _).alloc (by omega) _)
                have HQ := Lib.hid (ints_blk (N := p) (l := [(l.length : Int)]) (blk_new wr (.cells #[.int .i64 l.length] 3)) HI.out (by simp))
                clear hu
                go_wp2_with fail
                refine (pput_p (p := p) (N := p) (bs := bs) (l := [(l.length : Int)]) (Lib.hid (HS.out.box.onto_alloc _)) (Nat.le_refl _) HQ (by simp; omega)).mono ?_
                rintro e w5 ⟨rfl, V5, O5⟩
                have O05 := Lib.hid (O0.out.trans O5.out)
                have hl5 := puts_len2 HI.out hbl
                simp only [List.length_cons, List.length_nil] at hl5
                have hs5 := O05.out.low.size
                have hu5 := HU.out.below O05.out.low (by omega)
                have HQ2 := Lib.hid (ints_low (N := p) hu5 (by omega) (by omega))
                have HUI := Lib.hid hu5.1
                clear x1 O0 O5 HQ hu5
                go_wp2_with fail
                refine (pput_p (p := p) (N := p) (l := l) V5 (Nat.le_refl _) HQ2 (by omega)).mono ?_
                rintro e w6 ⟨rfl, V6, O6⟩
                have hl6 := puts_len2 HUI.out hl5
                have HS' := Lib.hid (HS.out.step hB (O05.out.trans O6.out).low V6.out)
                clear O05 O6 V5 V6 HS HQ2 HUI HU
                go_wp2
                go_roundw
                case rel => exact ⟨k + 1, _, by omega, by go_num, by omega, Lib.hid (by rw [HT.out, HE.out]; simp [Rd.putL, Rd.putIs]), HS'⟩
                case measure => simp [intOf]; omega
              · obtain rfl : k = C.kinds.length := by omega
                have HE2 : Hid (bs = Rd.putCode C) := Lib.hid (by rw [HE.out, List.take_length]; rfl)
                obtain ⟨v, hbx, hbv⟩ := HS.out.box
                have b0 := blk_cell hbx 0
                simp only [List.getElem?_toArray, List.getElem?_cons_zero] at b0
                have HP : Hid (PbPost w C (.returned (.tuple #[v, .int .i64 0])) wr) := Lib.hid ⟨HS.out.bel, Or.inl ⟨HZ.out, v, rfl, by rw [← HE2.out]; exact own_lower hbv (by omega)⟩⟩
                clear HE hbl HS hbx hbv HE2
                go_wp2
                exact bodyPost_ret (v := .tuple #[v, .int .i64 0]) (by simp [results, Try.results13, go_sem]) rfl HP.out
  · have hzb : (Cd.check C != 0) = true := by simpa using hz
    have HZ := Lib.hid hz
    have HP : Hid (PbPost w C (.returned (.tuple #[.slice none 0 0, .int .i64 (Cd.check C)])) w1) := Lib.hid ⟨HB1.out, Or.inr ⟨hz, rfl⟩⟩
    clear hz
    generalize Cd.check C = cc at *
    go_wp2
    exact bodyPost_ret (v := .tuple #[.slice none 0 0, .int .i64 cc]) (by simp [results, Try.results13, go_sem]) rfl HP.out
end Go.Proofs.Ytjomajfgoaifbaa
