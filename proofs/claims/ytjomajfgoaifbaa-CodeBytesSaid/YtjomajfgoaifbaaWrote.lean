/-
  PROVED HERE: the given statement CodeBytesSaid, the law CodeBytes returns true for all code, in whatever memory it is called. No condition.
-/
import Derived.Test.YtjomajfgoaifbaaPBytes
import Derived.Test.YtjomajfgoaifbaaPRead
import Derived.Test.YtjomajfgoaifbaaOpen
import Derived.Laws.BytesArg
namespace Go.Proofs.Ytjomajfgoaifbaa
open Go.ChangeShapes Go.WideShapes Go.ChangeAt Go.RowKit

theorem code_good {B : Nat} {w : World} {vo vf vk : Value} {C : Cd.GCode} (h : CodeV B w vo vf vk C) (hs : Small C) : Rd.Good Rd.codeP (Rd.putCode C) C := by
  have m1 := hs.ops
  have m2 := hs.fns
  have m3 := hs.kinds
  refine Rd.good_code (by omega) (by omega) (by omega) (fun o ho => Rd.good_op (h.ops.1 o ho)) (fun f hf => ?_) (fun l hl => ?_)
  · obtain ⟨i, hi, rfl⟩ := List.mem_iff_getElem.1 hf
    have ht := hs.takes _ hf
    obtain ⟨_, _, _, u, _, _, _, _, _, _, _, hu⟩ := h.fns.at' hi
    have e : C.fns.getD i ⟨0, 0, 0, []⟩ = C.fns[i] := by simp [List.getElem?_eq_getElem hi]
    rw [e] at hu
    exact Rd.good_fn (h.fns.1 _ hf) (by omega) hu.1
  · obtain ⟨i, hi, rfl⟩ := List.mem_iff_getElem.1 hl
    have ht := hs.kind _ hl
    obtain ⟨_, _, _, u, _, _, _, _, hu⟩ := h.kinds.at' hi
    have e : C.kinds.getD i [] = C.kinds[i] := by simp [List.getElem?_eq_getElem hi]
    rw [e] at hu
    exact Rd.good_list (by omega) hu.1
theorem putI_pos (n : Int) : 0 < (Rd.putI n).length := by
  unfold Rd.putI
  rw [Rd.putF]
  split <;> simp
theorem putCode_pos (C : Cd.GCode) : 0 < (Rd.putCode C).length := by
  have := putI_pos C.ops.length
  unfold Rd.putCode
  simp only [List.length_append]
  omega
def strOf (bs : List UInt8) : ByteArray := strOfNums (bs.map fun x => (x.toNat : Int))
theorem BufV.cell {N : Nat} {w : World} {g n cap : Nat} {bs : List UInt8} (h : BufV N w (.slice (some ⟨g, 0, none⟩) n cap) bs) : n = bs.length ∧ g < w.heap.size ∧ n ≤ cap ∧ cap ≤ 9223372036854775807 ∧ ∀ i, i < n → w.cell? ⟨g, i, none⟩ = some (.int .u8 ((bs.getD i 0).toNat : Int)) := by
  have hr : w.ownsRow N 5 1 (.slice (some ⟨g, 0, none⟩) n cap) bs.length (bs.map byteV) := h
  rcases hr.2 with ⟨h0, _⟩ | ⟨g', cap', cur, hu, _, hg, hn, hcap, hcur, hx⟩
  · cases h0
  · cases hu
    refine ⟨rfl, blk_lt hg, hn, by unfold maxLen at hcap; omega, fun i hi => ?_⟩
    rw [blk_cell hg]
    have e : cur.toList[i]? = (bs.map byteV)[i]? := by
      rw [← hx, List.getElem?_take, if_pos (by omega)]
    rw [← Array.getElem?_toList, e]
    simp [hi, byteV]
theorem putIs_len3 {α : Type} {f : α → List UInt8} {m : Nat} : ∀ {l : List α}, (∀ x ∈ l, (f x).length ≤ m) → (l.flatMap f).length ≤ m * l.length
  | [], _ => by simp
  | x :: l, h => by
    have h1 := h x (by simp)
    have h2 := putIs_len3 (l := l) (fun y hy => h y (by simp [hy]))
    simp only [List.flatMap_cons, List.length_append, List.length_cons, Nat.mul_add]
    omega
theorem BufV.bytes2 {N : Nat} {w : World} {g n cap : Nat} {bs : List UInt8} (hlen : bs.length ≤ 1000000000) (h : BufV N w (.slice (some ⟨g, 0, none⟩) n cap) bs) : BytesV w.heap.size w (.slice (some ⟨g, 0, none⟩) n cap) bs := by
  obtain ⟨rfl, h1, h2, h3, h4⟩ := h.cell
  exact ⟨_, g, 0, cap, rfl, h2, by omega, fun _ => ⟨rfl, h1⟩, fun i hi => by rw [Nat.zero_add]; exact h4 i hi⟩
theorem IntsV.wider2 {B B' : Nat} {w : World} {v : Value} {l : List Int} (h : IntsV B w v l) (hB : B ≤ B') : IntsV B' w v l := ⟨h.1, h.2.mono hB fun _ _ _ hc => hc⟩
theorem CodeV.wider2 {B B' : Nat} {w : World} {vo vf vk : Value} {C : Cd.GCode} (h : CodeV B w vo vf vk C) (hB : B ≤ B') : CodeV B' w vo vf vk C :=
  ⟨⟨h.ops.1, h.ops.2.mono hB fun _ _ _ hc => hc⟩, ⟨h.fns.1, h.fns.2.mono hB fun _ _ _ hc i hi => by
    obtain ⟨c1, c2, c3, u, c4, c5⟩ := hc i hi
    exact ⟨c1, c2, c3, u, c4, c5.wider2 hB⟩⟩, SlV.mono h.kinds hB fun _ _ _ hc i hi => by
    obtain ⟨u, c4, c5⟩ := hc i hi
    exact ⟨u, c4, c5.wider2 hB⟩⟩
theorem cd_open2 {b : List UInt8} {w w' : World} {e : Ending} {x : Int} {C : Cd.GCode} (hx : Rd.readF b = (x, C)) (h : CdPost b w e w') :
    ∃ ao co af cf ak ck, e = .returned (.tuple #[.agg #[.slice ao C.ops.length co, .slice af C.fns.length cf, .slice ak C.kinds.length ck], .int .i64 x]) ∧ Hid (CodeV w'.heap.size w' (.slice ao C.ops.length co) (.slice af C.fns.length cf) (.slice ak C.kinds.length ck) C) ∧ Hid (Below w.heap.size w w') := by
  obtain ⟨vo, vf, vk, rfl, hC, hb⟩ := h
  rw [hx] at hC ⊢
  have HC := hC
  obtain ⟨_, ao, _, _, co, rfl, _⟩ := hC.ops
  obtain ⟨_, af, _, _, cf, rfl, _⟩ := hC.fns
  obtain ⟨ak, _, _, ck, rfl, _⟩ := hC.kinds
  exact ⟨_, _, _, _, _, _, rfl, Lib.hid HC, Lib.hid hb⟩
theorem putCode_len {B : Nat} {w : World} {vo vf vk : Value} {C : Cd.GCode} (h : CodeV B w vo vf vk C) (hs : Small C) : (Rd.putCode C).length ≤ 1000000000 := by
  have m1 := hs.ops
  have m2 := hs.fns
  have m3 := hs.kinds
  have a1 := Rd.putI_len (natI (n := C.ops.length) (by omega))
  have a2 := Rd.putI_len (natI (n := C.fns.length) (by omega))
  have a3 := Rd.putI_len (natI (n := C.kinds.length) (by omega))
  have k1 : (C.ops.flatMap Rd.putOp).length ≤ 30 * C.ops.length := putIs_len3 fun o ho => by
    obtain ⟨h1, h2, h3⟩ := h.ops.1 o ho
    have := Rd.putI_len h1
    have := Rd.putI_len h2
    have := Rd.putI_len h3
    unfold Rd.putOp
    simp only [List.length_append]
    omega
  have kl : ∀ l : List Int, l.length ≤ 1200 → (∀ x ∈ l, I64 x) → (Rd.putL l).length ≤ 12010 := fun l hl hI => by
    have h1 := Rd.putI_len (natI (n := l.length) (by omega))
    have h2 := putIs_len hI
    unfold Rd.putL
    simp only [List.length_append]
    omega
  have k2 : (C.fns.flatMap Rd.putFn).length ≤ 12040 * C.fns.length := putIs_len3 fun f hf => by
    obtain ⟨h1, h2, h3⟩ := h.fns.1 f hf
    have := Rd.putI_len h1
    have := Rd.putI_len h2
    have := Rd.putI_len h3
    have ht := hs.takes _ hf
    obtain ⟨i, hi, rfl⟩ := List.mem_iff_getElem.1 hf
    obtain ⟨_, _, _, u, _, _, _, _, _, _, _, hu⟩ := h.fns.at' hi
    have e : C.fns.getD i ⟨0, 0, 0, []⟩ = C.fns[i] := by simp [List.getElem?_eq_getElem hi]
    rw [e] at hu
    have := kl _ ht hu.1
    unfold Rd.putFn
    simp only [List.length_append]
    omega
  have k3 : (C.kinds.flatMap Rd.putL).length ≤ 12010 * C.kinds.length := putIs_len3 fun l hl => by
    have ht := hs.kind _ hl
    obtain ⟨i, hi, rfl⟩ := List.mem_iff_getElem.1 hl
    obtain ⟨_, _, _, u, _, _, _, _, hu⟩ := h.kinds.at' hi
    have e : C.kinds.getD i [] = C.kinds[i] := by simp [List.getElem?_eq_getElem hi]
    rw [e] at hu
    exact kl _ ht hu.1
  unfold Rd.putCode
  simp only [List.length_append]
  omega
theorem BufV.conv {N : Nat} {w : World} {g n cap : Nat} {bs : List UInt8} (h : BufV N w (.slice (some ⟨g, 0, none⟩) n cap) bs) : (convert 33 9 (.slice (some ⟨g, 0, none⟩) n cap)).run Try.prog w = .ok (.string (strOf bs)) w := by
  obtain ⟨rfl, h1, h2, h3, h4⟩ := h.cell
  refine run_convert_bytes_arg w 33 5 Try.underlying33 Try.underlying5 g 0 _ cap _ (by simp) (fun i hi => ?_) 9 Try.underlying9
  rw [Nat.zero_add, h4 i hi]
  simp [hi]

set_option maxRecDepth 100000 in
set_option maxHeartbeats 1000000 in
theorem wrote_walk (B : Nat) (w : World) (vo vf vk : Value) (C : Cd.GCode) (hC : CodeV B w vo vf vk C) (hB : B ≤ w.heap.size) :
    Calls Try.prog 6 #[.agg #[vo, vf, vk]] w fun e w' => e = .returned (.bool true) ∧ Below w.heap.size w w' := by
  have hW : Below w.heap.size w (w.alloc (.cells #[vo, vf, vk] 30)) := by go_grown
  have e1 := blk_new w (.cells #[vo, vf, vk] 30)
  have HC := Lib.hid (hC.below hW hB)
  have HE := Lib.hid e1
  have HW := Lib.hid hW
  have hl1 := blk_lt e1
  obtain ⟨q1, ao, bo, oo, co, rfl, q2, q3, q4, q5⟩ := hC.ops
  obtain ⟨q6, af, bf, of_, cf, rfl, q7, q8, q9, q10⟩ := hC.fns
  obtain ⟨ak, bk, ok, ck, rfl, q11, q12, q13, q14⟩ := hC.kinds
  clear hC hW e1 q1 q4 q5 q6 q9 q10 q13 q14
  go_enter Try.func6, Try.ntmps6
  go_wp2_with fail
  generalize (w.alloc (.cells #[.slice ao C.ops.length co, .slice af C.fns.length cf, .slice ak C.kinds.length ck] 30)) = W1 at *
  refine (pbytes_any B _ _ _ _ C HC.out (by omega)).mono ?_
  rintro e w1 ⟨hb1, ⟨hz, v1, rfl, hv1⟩ | ⟨hz, rfl⟩⟩
  · have HM := Lib.hid (check_small hz)
    have HZ := Lib.hid hz
    have HG := Lib.hid (Rd.read_back (code_good HC.out HM.out) hz)
    obtain ⟨g1, c1, rfl⟩ := own_lit2 hv1 (putCode_pos C)
    have HV1 := Lib.hid hv1
    have e1 := blk_below HE.out hb1 hl1
    have E1 := Lib.hid e1
    have a0 := blk_cell e1 0
    have a1 := blk_cell e1 1
    have a2 := blk_cell e1 2
    have hl2 := blk_lt e1
    simp only [List.getElem?_toArray, List.getElem?_cons_zero, List.getElem?_cons_succ] at a0 a1 a2
    have HC1 := Lib.hid (HC.out.below hb1 (by omega))
    have HB1 := Lib.hid (HW.out.trans (hb1.mono (by omega)))
    have hg1 := (hv1.lt g1 rfl).2
    clear hb1 e1 HC HE HW hz hv1
    go_wp2_with fail
    refine (rcheck_any B _ _ _ _ C HC1.out (by omega)).mono ?_
    rintro e w2 ⟨rfl, hb2⟩
    have e1 := blk_below E1.out hb2 hl2
    have E2 := Lib.hid e1
    clear a0 a1 a2
    have a0 := blk_cell e1 0
    have a1 := blk_cell e1 1
    have a2 := blk_cell e1 2
    have hl3 := blk_lt e1
    simp only [List.getElem?_toArray, List.getElem?_cons_zero, List.getElem?_cons_succ] at a0 a1 a2
    have HC2 := Lib.hid (HC1.out.below hb2 (by omega))
    have HB2 := Lib.hid (HB1.out.trans (hb2.mono (by omega)))
    have HV2 := Lib.hid (own_below HV1.out hb2 (fun k hk => by cases hk; exact hg1))
    have hg2 := (HV2.out.lt g1 rfl).2
    clear hb2 e1 E1 HC1 HB1 HV1
    rw [HZ.out]
    go_wp2_with fail
    refine (rbytes_any B _ _ _ _ C HC2.out (by omega) HM.out).mono ?_
    rintro e w3 ⟨v2, rfl, hv2, hb3⟩
    obtain ⟨g2, c2, rfl⟩ := own_lit2 hv2 (putCode_pos C)
    have e1 := blk_below E2.out hb3 hl3
    have E3 := Lib.hid e1
    have hl4 := blk_lt e1
    have HC3 := Lib.hid (HC2.out.below hb3 (by omega))
    have HB3 := Lib.hid (HB2.out.trans (hb3.mono (by omega)))
    have HV3 := Lib.hid (own_below HV2.out hb3 (fun k hk => by cases hk; exact hg2))
    have hcv1 := BufV.conv HV3.out
    have hcv2 := BufV.conv hv2
    have hs3 := hb3.size
    clear hb3 e1 E2 HC2 HB2 HV2 a0 a1 a2 hv2
    go_wp2_with fail
    refine (pread_any (Lib.hid pcheck_any) w3 _ (Rd.putCode C) (BufV.bytes2 (putCode_len HC3.out HM.out) HV3.out)).mono ?_
    intro e w4 hp
    obtain ⟨ao2, co2, af2, cf2, ak2, ck2, rfl, HC4, HB4⟩ := cd_open2 HG.out hp
    have hs4 := HB4.out.size
    have e1 := blk_below E3.out HB4.out hl4
    have hl5 := blk_lt e1
    have a0 := blk_cell e1 0
    have a1 := blk_cell e1 1
    have a2 := blk_cell e1 2
    simp only [List.getElem?_toArray, List.getElem?_cons_zero, List.getElem?_cons_succ] at a0 a1 a2
    have HO : Below w4.heap.size w4 (w4.alloc (.cells #[.slice ao2 C.ops.length co2, .slice af2 C.fns.length cf2, .slice ak2 C.kinds.length ck2] 30)) := by go_grown
    have HC6 := Lib.hid (((HC3.out.below HB4.out (by omega)).below HO (by omega)).wider2 (B' := w4.heap.size) (by omega))
    have HC5 := Lib.hid (HC4.out.below HO (Nat.le_refl _))
    have HB5 := Lib.hid ((HB3.out.trans (HB4.out.mono (by omega))).trans (HO.mono (by omega)))
    clear HO HC3 HC4 HB3 HB4 hp e1 E3 HV3 hcv1 hcv2
    go_wp2_with fail
    refine (same_any w4.heap.size _ _ _ _ _ _ _ C HC6.out HC5.out (by simp)).mono ?_
    rintro e w5 ⟨rfl, hb5⟩
    have HB6 := Lib.hid (HB5.out.trans (hb5.mono (by simp; omega)))
    clear hb5
    go_wp2
    go_returns
    exact ⟨rfl, HB6.out⟩
  · have hzb : (Cd.check C != 0) = true := by simpa using hz
    have hxx : (Cd.check C == Cd.check C) = true := by simp
    have e1 := blk_below HE.out hb1 hl1
    have a0 := blk_cell e1 0
    have a1 := blk_cell e1 1
    have a2 := blk_cell e1 2
    have hl2 := blk_lt e1
    simp only [List.getElem?_toArray, List.getElem?_cons_zero, List.getElem?_cons_succ] at a0 a1 a2
    have HC1 := Lib.hid (HC.out.below hb1 (by omega))
    have HB1 := Lib.hid (HW.out.trans (hb1.mono (by omega)))
    clear hb1 e1 HC HE HW hz
    go_wp2_with fail
    refine (rcheck_any B _ _ _ _ C HC1.out (by omega)).mono ?_
    rintro e w2 ⟨rfl, hb2⟩
    have HB2 := Lib.hid (HB1.out.trans (hb2.mono (by omega)))
    clear hb2 HC1 HB1 a0 a1 a2
    generalize Cd.check C = cc at *
    go_wp2
    go_returns
    exact ⟨rfl, HB2.out⟩
end Go.Proofs.Ytjomajfgoaifbaa
namespace Go.Proofs.Ytjomajfgoaifbaa.WroteP
open Go.ChangeShapes Go.WideShapes Go.ChangeAt Go.RowKit
set_option maxRecDepth 100000 in
theorem lifted (os : Os) (started : os.Started) (H : Type) (enc : TypeId × Value → H) :
    ReturnsInHanded {} Try.checked os 6 .any (Rows.codeBytesSpec.pre6 enc Try.prog Try.f6 Rows.codeBytesRow.domain false) (Rows.codeBytesSpec.post enc Try.prog Try.f6 false true false false) := by
  refine returnsInHanded_of_change_sized (C := Try.checked) Try.own started (by kernel_rfl) Try.func6
    (ChangeSpec.witness6 (enc := enc) (C := Try.checked) false ⟨#[], #[.agg #[.slice none 0 0, .slice none 0 0, .slice none 0 0]], []⟩ 8 (by kernel_rfl) (by kernel_rfl) (by kernel_rfl) (by kernel_rfl)) ?_
  intro W base args ds gs before hval0 hW hcnd hsz0 _
  have hval : ∀ (j : Nat) t v, Try.f6.params[j]? = some t → args[j]? = some v → Value.okWide Try.prog W .any base t v := hval0
  have hW' := hW
  obtain ⟨p, q, hA0, hV, rfl, hfz, hnd⟩ := hW
  have hA : DataW.TrodAll enc Try.prog W 0 (fun _ => true) true Try.f6.params.toList args.toList ds p := hA0
  rw [Try.params6] at hA hval
  obtain ⟨v0, vs0, d0, ds0, p0, q0, h1, rfl, rfl, h0, r0⟩ := trodAll_cons hA
  obtain ⟨h2, rfl, rfl⟩ := trodAll_nil r0
  obtain rfl : args = #[v0] := by
    have e : args.toList = [v0] := by rw [h1, h2]
    exact Array.toList_inj.1 (by simpa using e)
  obtain ⟨rfl, rfl⟩ := trodVars_none hV
  have hs : Sz 30 d0 := by
    have hsz : (DataW.weightsEach Try.prog (Try.f6.params.toList ++ Rows.codeBytesSpec.plain.varTypes Try.prog) ([d0] ++ [])).all (· ≤ reachBytes) = true := hsz0
    rw [Try.params6] at hsz
    exact sz_each hsz 0 30 d0 rfl rfl
  obtain ⟨vo, vf, vk, C, rfl, hC⟩ := code_open (hval 0 30 v0 rfl rfl) h0 hs
  refine (wrote_walk W.heap.size W vo vf vk C hC (Nat.le_refl _)).mono fun e W' ⟨he, hg⟩ => ?_
  subst he
  refine ⟨_, rfl, post_law rfl hW' (by
    rw [Try.params6]
    intro t h
    obtain rfl : t = 30 := by simpa using h
    exact ⟨by kernel_rfl, of_decide_eq_true (by kernel_rfl)⟩) (by kernel_rfl) rfl hg⟩

theorem proved : Rows.CodeBytesSaid :=
  OpenClaim.holds_of_wide 6 Try.f6 rfl rfl rfl rfl rfl rfl rfl ⟨rfl, rfl, rfl, rfl, rfl⟩ rfl rfl rfl rfl rfl (by kernel_rfl) Try.func6 (by kernel_rfl)
    (of_decide_eq_true (by kernel_rfl)) (by unfold Func.isWrapper; first | (rw [if_pos (by decide +kernel)]; kernel_rfl) | (rw [if_neg (by decide +kernel)]; exact ⟨rfl, rfl⟩))
    (fun os started H enc _ => lifted os started H enc)
#print axioms proved
end Go.Proofs.Ytjomajfgoaifbaa.WroteP

