/-
  PROVED HERE: the given statement CodeReadsSaid, the law CodeReads returns true for all bytes, in whatever memory it is called. No condition.
-/
import Derived.Test.YtjomajfgoaifbaaPRead
import Derived.Test.YtjomajfgoaifbaaRRead
import Derived.Test.YtjomajfgoaifbaaPCheck2
import Derived.Test.YtjomajfgoaifbaaSame
import Derived.Test.YtjomajfgoaifbaaOpen
namespace Go.Proofs.Ytjomajfgoaifbaa
open Go.ChangeShapes Go.WideShapes Go.ChangeAt Go.RowKit

theorem Try.cells5 : Try.prog.cellsOf 5 = 1 := by kernel_rfl
theorem Try.bytes5 : Try.prog.bytesOf 5 = 1 := by kernel_rfl

section
variable {H : Type} {enc : TypeId × Value → H} {w : World} {held : Bool}
set_option maxRecDepth 100000 in
theorem bytes_open {n : Nat} {v : Value} {y : DataW H × List MemPlace} (h : DataW.trod enc Try.prog w 0 (fun _ => true) held n 33 [v] = some y) (hs : Sz 33 y.1) : ∃ l, BytesV w.heap.size w v l := by
  rcases open_ints Try.underlying33 Try.underlying5 Try.cells5 h with ⟨h1, _⟩ | ⟨a, len, cap, zs, h1, _, h2, _, h3, h4, h5, h6⟩
  · cases h1
    exact ⟨[], none, 0, 0, 0, rfl, Nat.le_refl _, by simp, fun h => absurd h (by simp), fun i hi => absurd hi (by simp)⟩
  · cases h1
    simp only [if_true] at h3
    subst h4
    have hz := (sz_slice Try.underlying33 hs).1
    rw [Try.bytes5, reach_num] at hz
    simp only [lits, List.length_map, List.length_take, List.length_drop] at hz
    have hb8 : ∀ i, i < zs.length → 0 ≤ zs.getD i 0 ∧ zs.getD i 0 < 256 := by
      intro i hi
      have e : zs.getD i 0 = zs[i] := by simp [List.getD_eq_getElem?_getD, List.getElem?_eq_getElem hi]
      have := h6 zs[i] (List.getElem_mem hi)
      rw [e]
      have h8 := bounds_u8 this
      omega
    refine ⟨(List.range len).map fun i => UInt8.ofNat (zs.getD i 0).toNat, ?_⟩
    by_cases h0 : 0 < len
    · obtain ⟨b, o, rfl, hb⟩ := plain_of (h5 0 (by omega)) rfl
      refine ⟨_, b, o, cap, by simp, by simpa using h2, by simp; omega, fun _ => ⟨rfl, hb⟩, fun i hi => ?_⟩
      simp only [List.length_map, List.length_range] at hi
      have := h5 i (by omega)
      rw [Go.WideShapes.add_plain] at this
      rw [this]
      have hb' := hb8 i (by omega)
      have e : ((List.range len).map fun i => UInt8.ofNat (zs.getD i 0).toNat).getD i 0 = UInt8.ofNat (zs.getD i 0).toNat := by
        simp [List.getD_eq_getElem?_getD, hi]
      rw [e, UInt8.toNat_ofNat']
      congr 2
      omega
    · obtain rfl : len = 0 := by omega
      exact ⟨some a, 0, 0, cap, by simp, by simp, by simp; omega, fun h => absurd h (by simp), fun i hi => absurd hi (by simp)⟩
end

theorem BytesV.wider {B B' : Nat} {w : World} {v : Value} {l : List UInt8} (h : BytesV B w v l) (hB : B ≤ B') : BytesV B' w v l := SlV.mono h hB fun _ _ _ hc => hc
theorem IntsV.wider {B B' : Nat} {w : World} {v : Value} {l : List Int} (h : IntsV B w v l) (hB : B ≤ B') : IntsV B' w v l := ⟨h.1, h.2.mono hB fun _ _ _ hc => hc⟩
theorem CodeV.wider {B B' : Nat} {w : World} {vo vf vk : Value} {C : Cd.GCode} (h : CodeV B w vo vf vk C) (hB : B ≤ B') : CodeV B' w vo vf vk C :=
  ⟨⟨h.ops.1, h.ops.2.mono hB fun _ _ _ hc => hc⟩, ⟨h.fns.1, h.fns.2.mono hB fun _ _ _ hc i hi => by
    obtain ⟨c1, c2, c3, u, c4, c5⟩ := hc i hi
    exact ⟨c1, c2, c3, u, c4, c5.wider hB⟩⟩, SlV.mono h.kinds hB fun _ _ _ hc i hi => by
    obtain ⟨u, c4, c5⟩ := hc i hi
    exact ⟨u, c4, c5.wider hB⟩⟩
theorem cd_open {b : List UInt8} {w w' : World} {e : Ending} {x : Int} {C : Cd.GCode} (hx : Rd.readF b = (x, C)) (h : CdPost b w e w') :
    ∃ ao co af cf ak ck, e = .returned (.tuple #[.agg #[.slice ao C.ops.length co, .slice af C.fns.length cf, .slice ak C.kinds.length ck], .int .i64 x]) ∧ Hid (CodeV w'.heap.size w' (.slice ao C.ops.length co) (.slice af C.fns.length cf) (.slice ak C.kinds.length ck) C) ∧ Hid (Below w.heap.size w w') := by
  obtain ⟨vo, vf, vk, rfl, hC, hb⟩ := h
  rw [hx] at hC ⊢
  have HC := hC
  obtain ⟨_, ao, _, _, co, rfl, _⟩ := hC.ops
  obtain ⟨_, af, _, _, cf, rfl, _⟩ := hC.fns
  obtain ⟨ak, _, _, ck, rfl, _⟩ := hC.kinds
  exact ⟨_, _, _, _, _, _, rfl, Lib.hid HC, Lib.hid hb⟩

set_option maxRecDepth 100000 in
set_option maxHeartbeats 1000000 in
theorem reads_walk (w : World) (v : Value) (b : List UInt8) (hv : BytesV w.heap.size w v b) :
    Calls Try.prog 5 #[v] w fun e w' => e = .returned (.bool true) ∧ Below w.heap.size w w' := by
  have Hv := Lib.hid hv
  obtain ⟨va, vb, vo, vc, rfl, hv1, hv2, hv3, hv4⟩ := hv
  obtain ⟨x, C, hx⟩ : ∃ x C, Rd.readF b = (x, C) := ⟨_, _, rfl⟩
  have Hx := Lib.hid hx
  clear hv1 hv2 hv3 hv4 hx
  go_enter Try.func5, Try.ntmps5
  go_wp2_with fail
  refine (pread_any (Lib.hid pcheck_any) w _ b Hv.out).mono ?_
  intro e w1 hp
  obtain ⟨ao, co, af, cf, ak, ck, rfl, HC, HB⟩ := cd_open Hx.out hp
  clear hp
  have hs1 := HB.out.size
  go_wp2_with fail
  have HO : Below w1.heap.size w1 (w1.alloc (.cells #[.slice ao C.ops.length co, .slice af C.fns.length cf, .slice ak C.kinds.length ck] 30)) := by go_grown
  have hbox := blk_new w1 (.cells #[.slice ao C.ops.length co, .slice af C.fns.length cf, .slice ak C.kinds.length ck] 30)
  generalize (w1.alloc (.cells #[.slice ao C.ops.length co, .slice af C.fns.length cf, .slice ak C.kinds.length ck] 30)) = w2 at *
  have HB2 := Lib.hid (HB.out.trans (HO.mono hs1))
  have HC2 := Lib.hid (HC.out.below HO (Nat.le_refl _))
  have Hbox := Lib.hid hbox
  have hs2 : w1.heap.size < w2.heap.size := blk_lt hbox
  have Hv2 := Lib.hid (Hv.out.below (HB.out.trans (HO.mono hs1)) (Nat.le_refl _))
  clear HO hbox HB HC Hv
  refine (rread_any w2 _ b (Hv2.out.wider (by omega))).mono ?_
  intro e w3 hp
  obtain ⟨ao2, co2, af2, cf2, ak2, ck2, rfl, HC3, HB3⟩ := cd_open Hx.out hp
  clear hp
  have hs3 := HB3.out.size
  have hbox3 := blk_below Hbox.out HB3.out hs2
  have k0 := blk_cell hbox3 0
  have k1 := blk_cell hbox3 1
  have k2 := blk_cell hbox3 2
  have hl3 := blk_lt hbox3
  simp only [List.getElem?_toArray, List.getElem?_cons_zero, List.getElem?_cons_succ] at k0 k1 k2
  have Hbox3 := Lib.hid hbox3
  clear hbox3
  have HO : Below w3.heap.size w3 (w3.alloc (.cells #[.slice ao2 C.ops.length co2, .slice af2 C.fns.length cf2, .slice ak2 C.kinds.length ck2] 30)) := by go_grown
  have HC4 := Lib.hid (((HC2.out.below HB3.out (by omega)).below HO (by omega)).wider (B' := w3.heap.size) (by omega))
  have HC5 := Lib.hid (HC3.out.below HO (Nat.le_refl _))
  have HB5 := Lib.hid ((HB2.out.trans (HB3.out.mono (by omega))).trans (HO.mono (by omega)))
  clear HO HC2 HC3 HB2 HB3 Hv2
  go_wp2_with fail
  refine (same_any w3.heap.size _ _ _ _ _ _ _ C HC4.out HC5.out (by simp)).mono ?_
  rintro e w4 ⟨rfl, hb4⟩
  have hxx : (x == x) = true := by simp
  have HB6 := Lib.hid (HB5.out.trans (hb4.mono (by simp; omega)))
  clear hb4
  go_wp2
  go_returns
  exact ⟨rfl, HB6.out⟩
end Go.Proofs.Ytjomajfgoaifbaa
namespace Go.Proofs.Ytjomajfgoaifbaa.ReadsP
open Go.ChangeShapes Go.WideShapes Go.ChangeAt Go.RowKit
set_option maxRecDepth 100000 in
theorem lifted (os : Os) (started : os.Started) (H : Type) (enc : TypeId × Value → H) :
    ReturnsInHanded {} Try.checked os 5 .any (Rows.codeReadsSpec.pre6 enc Try.prog Try.f5 Rows.codeReadsRow.domain false) (Rows.codeReadsSpec.post enc Try.prog Try.f5 false true false false) := by
  refine returnsInHanded_of_change_sized (C := Try.checked) Try.own started (by kernel_rfl) Try.func5
    (ChangeSpec.witness6 (enc := enc) (C := Try.checked) false ⟨#[], #[.slice none 0 0], []⟩ 8 (by kernel_rfl) (by kernel_rfl) (by kernel_rfl) (by kernel_rfl)) ?_
  intro W base args ds gs before hval0 hW hcnd hsz0 _
  have hval : ∀ (j : Nat) t v, Try.f5.params[j]? = some t → args[j]? = some v → Value.okWide Try.prog W .any base t v := hval0
  have hW' := hW
  obtain ⟨p, q, hA0, hV, rfl, hfz, hnd⟩ := hW
  have hA : DataW.TrodAll enc Try.prog W 0 (fun _ => true) true Try.f5.params.toList args.toList ds p := hA0
  rw [Try.params5] at hA hval
  obtain ⟨v0, vs0, d0, ds0, p0, q0, h1, rfl, rfl, h0, r0⟩ := trodAll_cons hA
  obtain ⟨h2, rfl, rfl⟩ := trodAll_nil r0
  obtain rfl : args = #[v0] := by
    have e : args.toList = [v0] := by rw [h1, h2]
    exact Array.toList_inj.1 (by simpa using e)
  obtain ⟨rfl, rfl⟩ := trodVars_none hV
  have hs : Sz 33 d0 := by
    have hsz : (DataW.weightsEach Try.prog (Try.f5.params.toList ++ Rows.codeReadsSpec.plain.varTypes Try.prog) ([d0] ++ [])).all (· ≤ reachBytes) = true := hsz0
    rw [Try.params5] at hsz
    exact sz_each hsz 0 33 d0 rfl rfl
  obtain ⟨l, hl⟩ : ∃ l, BytesV W.heap.size W v0 l := by
    obtain ⟨a, len, cap, rfl⟩ := okWide_slice Try.underlying33 (hval 0 33 v0 rfl rfl)
    obtain ⟨n, hy⟩ := h0
    exact bytes_open (y := (d0, p0)) (by simpa [Value.cells] using hy) hs
  refine (reads_walk W v0 l hl).mono fun e W' ⟨he, hg⟩ => ?_
  subst he
  refine ⟨_, rfl, post_law rfl hW' (by
    rw [Try.params5]
    intro t h
    obtain rfl : t = 33 := by simpa using h
    exact ⟨by kernel_rfl, of_decide_eq_true (by kernel_rfl)⟩) (by kernel_rfl) rfl hg⟩

theorem proved : Rows.CodeReadsSaid :=
  OpenClaim.holds_of_wide 5 Try.f5 rfl rfl rfl rfl rfl rfl rfl ⟨rfl, rfl, rfl, rfl, rfl⟩ rfl rfl rfl rfl rfl (by kernel_rfl) Try.func5 (by kernel_rfl)
    (of_decide_eq_true (by kernel_rfl)) (by unfold Func.isWrapper; first | (rw [if_pos (by decide +kernel)]; kernel_rfl) | (rw [if_neg (by decide +kernel)]; exact ⟨rfl, rfl⟩))
    (fun os started H enc _ => lifted os started H enc)
#print axioms proved
end Go.Proofs.Ytjomajfgoaifbaa.ReadsP
