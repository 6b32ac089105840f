/-
  PROVED HERE: what the reference's Walk.choose does to a walk's memory. No condition beyond the lemmas' own premises.
-/
import Derived.Test.YtjomajfgoaifbaaRPlain
import Derived.Deep.Light
namespace Go.Proofs.Ytjomajfgoaifbaa
open Go.RowKit

theorem WalkAt.below {B p : Nat} {w w' : World} {vo vf vk : Value} {D R : List Int} {bad : Bool} (h : WalkAt B w p vo vf vk D R bad) (hb : Below w.heap.size w w') : WalkAt B w' p vo vf vk D R bad := by
  obtain ⟨hp, hf, g, cap, vr, hb1, hd, hr⟩ := h
  exact ⟨hp, hf, g, cap, vr, blk_below hb1 hb (blk_lt hb1), own_below hd hb (fun k hk => (hd.lt k hk).2), own_below hr hb (fun k hk => (hr.lt k hk).2)⟩
theorem WalkAt.alloc {B p : Nat} {w : World} {vo vf vk : Value} {D R : List Int} {bad : Bool} (h : WalkAt B w p vo vf vk D R bad) (o : Obj) : WalkAt B (w.alloc o) p vo vf vk D R bad :=
  h.below ((Below.refl _ _).alloc (Nat.le_refl _) o)
theorem WalkAt.lt {B p : Nat} {w : World} {vo vf vk : Value} {D R : List Int} {bad : Bool} (h : WalkAt B w p vo vf vk D R bad) : p < w.heap.size := by
  obtain ⟨hp, hf, g, cap, vr, hb1, hd, hr⟩ := h
  exact blk_lt hb1
theorem WalkAt.look {B p : Nat} {w : World} {vo vf vk : Value} {D R : List Int} {bad : Bool} (h : WalkAt B w p vo vf vk D R bad) :
    w.cell? ⟨p, 0, none⟩ = some vo ∧ w.cell? ⟨p, 1, none⟩ = some vf ∧ w.cell? ⟨p, 2, none⟩ = some vk ∧ w.cell? ⟨p, 5, none⟩ = some (.bool bad) ∧ w.frozen? ⟨p, 5, none⟩ = false := by
  obtain ⟨hp, hf, g, cap, vr, hb, hd, hr⟩ := h
  exact ⟨by rw [blk_cell hb]; rfl, by rw [blk_cell hb]; rfl, by rw [blk_cell hb]; rfl, by rw [blk_cell hb]; rfl, blk_free hb 5⟩

theorem rlead_int (B p : Nat) (w : World) (vo vf vk : Value) (ops : List Cd.GOp) (D R : List Int) (bad : Bool) (t d : Int) (hW : WalkAt B w p vo vf vk D R bad) (hops : OpsV B w vo ops) (hn : D.length = ops.length) (h8 : ops.length ≤ 8000) (ht0 : 0 ≤ t) (hd0 : 0 ≤ d) :
    Calls Try.prog 61 #[.pointer (some ⟨p, 0, none⟩), .int .i64 t, .int .i64 d] w fun e w' => e = .returned (.tuple #[]) ∧ WalkAt B w' p vo vf vk (rD D t d) (rR D R t d) (rBad D bad t d) ∧ Below B w w' := by
  obtain ⟨n, rfl⟩ := Int.eq_ofNat_of_zero_le ht0
  exact rlead_any B p w vo vf vk ops D R bad n d hW hops hn h8 hd0

def ChoosePost (B p : Nat) (vo vf vk : Value) (o : Option (List (Int × Int))) (D R : List Int) (w w' : World) : Prop :=
  (∃ D' R' bad', WalkAt B w' p vo vf vk D' R' bad' ∧ OrdPost o D R D' R' bad') ∧ Below B w w'

set_option maxRecDepth 100000 in
set_option maxHeartbeats 2000000 in
theorem rchoose_any (B p : Nat) (w : World) (vo vf vk : Value) (C : Cd.GCode) (D R : List Int) (at_ : Nat) (deep : Int) (hW : WalkAt B w p vo vf vk D R false) (hops : OpsV B w vo C.ops) (hn : D.length = C.ops.length) (h8 : C.ops.length ≤ 8000)
    (hr : ∀ o ∈ C.ops, Cd.rangeB C.ops.length C.fns.length C.kinds.length o = true) (hat : at_ < C.ops.length) (hd28 : (Cd.opAt C at_).d = 28) (hd0 : 0 ≤ deep) (hd1 : deep ≤ 1200) :
    Calls Try.prog 82 #[.pointer (some ⟨p, 0, none⟩), .int .i64 at_, .int .i64 deep] w fun e w' => e = .returned (.tuple #[]) ∧ ChoosePost B p vo vf vk (Cd.chooseF C at_ deep) D R w w' := by
  have HW := Lib.hid hW
  have Hops := Lib.hid hops
  obtain ⟨c0, c1, c2, c5, f5⟩ := hW.look
  have hpl := hW.lt
  have hpB := hW.1
  obtain ⟨hI, a, b, o, co, rfl, hco, hco2, hab, hc⟩ := hops
  obtain ⟨rfl, hbB⟩ := hab (by omega)
  obtain ⟨n, hna⟩ : ∃ n : Nat, (Cd.opAt C at_).a = n := Int.eq_ofNat_of_zero_le ((Cd.rangeB_pos (hr _ (opAt_mem hat))).2.2.1 (Or.inl hd28)).1
  have hn12 : n ≤ 1200 := by have := ((Cd.rangeB_pos (hr _ (opAt_mem hat))).2.2.1 (Or.inl hd28)).2; omega
  have ha := (hc at_ hat).2.1
  rw [show (C.ops.getD at_ ⟨0, 0, 0⟩).a = n from hna] at ha
  have Hna := Lib.hid hna
  have Hn := Lib.hid hn
  have H28 := Lib.hid hd28
  have Hr := Lib.hid hr
  have HI := Lib.hid hI
  have Hc := Lib.hid hc
  have hbl : b < w.heap.size := by omega
  clear hna hn hd28 hr hI hc hW hab
  go_enter Try.func82, Try.ntmps82
  go_wp2
  go_loopw [2, 7, 8] (fun dp ot i wr => Below w.heap.size w wr ∧ ∃ j : Nat, at_ + 1 ≤ j ∧ j ≤ at_ + 1 + n ∧ j ≤ C.ops.length ∧ i = .int .i64 j ∧ ot = .int .i64 (Cd.othersOf (casesN C at_ (j - (at_ + 1)))) ∧ dp = .int .i64 (Cd.restDeep deep (casesN C at_ (j - (at_ + 1)))) ∧
      Hid (∀ o ∈ casesN C at_ (j - (at_ + 1)), o.d = 29 ∨ o.d = 30)) (fun _ _ i _ => at_ + 1 + n - (intOf i).toNat)
  case atStart => exact ⟨Below.refl _ _, at_ + 1, by omega, by omega, by omega, by go_num, by simp [casesN, Cd.othersOf], by simp [casesN, Cd.restDeep], Lib.hid (by simp [casesN])⟩
  case round =>
    obtain ⟨hbel, j, hj1, hj2, hj3, rfl, rfl, rfl, Hall⟩ := hrel
    have c0' := (hbel.cell (p := ⟨p, 0, none⟩) hpl).trans c0
    have c5' := (hbel.cell (p := ⟨p, 5, none⟩) hpl).trans c5
    have f5' := (hbel.frozen (p := ⟨p, 5, none⟩) hpl).trans f5
    have hz := hbel.size
    have hplr : p < wr.heap.size := by omega
    have hblr : b < wr.heap.size := by omega
    clear c0 c1 c2 c5 f5
    by_cases hjn : j ≤ at_ + n
    · by_cases hjo : j < C.ops.length
      · obtain ⟨e1, e2, e3⟩ := Hc.out j hjo
        have k1 := (hbel.cell (p := ⟨b, o + j * 3, none⟩) hbl).trans e1
        have k2 := (hbel.cell (p := ⟨b, o + j * 3 + 1, none⟩) hbl).trans e2
        have k3 := (hbel.cell (p := ⟨b, o + j * 3 + 2, none⟩) hbl).trans e3
        have hoa := (Cd.rangeB_pos (Hr.out _ (opAt_mem hjo))).2.1
        have hlen : (casesN C at_ (j - (at_ + 1))).length = j - (at_ + 1) := casesN_length (by omega)
        have hsucc : casesN C at_ (j + 1 - (at_ + 1)) = casesN C at_ (j - (at_ + 1)) ++ [Cd.opAt C j] := by
          have := casesN_succ (C := C) (at_ := at_) (k := j - (at_ + 1)) (by omega)
          rw [show at_ + 1 + (j - (at_ + 1)) = j by omega] at this
          rw [show j + 1 - (at_ + 1) = j - (at_ + 1) + 1 by omega]; exact this
        have hol := othersOf_le (casesN C at_ (j - (at_ + 1)))
        have hrd := restDeep_bd (casesN C at_ (j - (at_ + 1))) deep (fun y hy h29 => by have := (Cd.rangeB_pos (Hr.out _ (casesN_mem hy))).2.1 (Or.inl h29); omega)
        have hos := othersOf_snoc (casesN C at_ (j - (at_ + 1))) (Cd.opAt C j)
        have hrs := restDeep_snoc (casesN C at_ (j - (at_ + 1))) deep (Cd.opAt C j)
        have hall2 : (Cd.opAt C j).d = 29 ∨ (Cd.opAt C j).d = 30 → ∀ y ∈ casesN C at_ (j - (at_ + 1)) ++ [Cd.opAt C j], y.d = 29 ∨ y.d = 30 := by
          intro h y hy
          rcases List.mem_append.1 hy with hy | hy
          · exact Hall.out y hy
          · obtain rfl : y = _ := by simpa using hy
            exact h
        have hbad : (Cd.opAt C j).d ≠ 29 → (Cd.opAt C j).d ≠ 30 → Cd.chooseF C at_ deep = none := by
          intro h1 h2
          have := Hna.out
          refine choose_other (k := j - (at_ + 1)) (by omega) (by omega) (by omega) ?_ ?_ <;> rw [show at_ + 1 + (j - (at_ + 1)) = j by omega] <;> assumption
        rw [hlen] at hol hrd
        change wr.cell? _ = some (.int .i64 (Cd.opAt C j).d) at k1
        change wr.cell? _ = some (.int .i64 (Cd.opAt C j).a) at k2
        change wr.cell? _ = some (.int .i64 (Cd.opAt C j).b) at k3
        generalize Cd.othersOf (casesN C at_ (j - (at_ + 1))) = x at *
        generalize Cd.restDeep deep (casesN C at_ (j - (at_ + 1))) = y at *
        have Hsucc := Lib.hid hsucc
        have Hos := Lib.hid hos
        have Hrs := Lib.hid hrs
        have Hall2 := Lib.hid hall2
        have Hbad := Lib.hid hbad
        clear e1 e2 e3 hlen hsucc hos hrs hall2 hbad
        by_cases h30 : (Cd.opAt C j).d = 30
        · have h30b : ((Cd.opAt C j).d == 30) = true := by simp [h30]
          have H30 := Lib.hid h30
          clear h30 hoa
          go_wp2
          go_roundw
          case rel => exact ⟨hbel.alloc hz _, j + 1, by omega, by omega, by omega, by go_num, by rw [Hsucc.out, Hos.out, if_pos H30.out]; go_num, by rw [Hsucc.out, Hrs.out, if_neg (by rw [H30.out]; decide)], Lib.hid (by rw [Hsucc.out]; exact Hall2.out (Or.inr H30.out))⟩
          case measure => simp [intOf]; omega
        · by_cases h29 : (Cd.opAt C j).d = 29
          · obtain ⟨_, _, a0, a1⟩ := hoa (Or.inl h29)
            have h30b : ((Cd.opAt C j).d == 30) = false := by simp [h30]
            have h29b : ((Cd.opAt C j).d == 29) = true := by simp [h29]
            have H29 := Lib.hid h29
            clear h30 h29 hoa
            go_wp2
            go_roundw
            case rel => exact ⟨hbel.alloc hz _, j + 1, by omega, by omega, by omega, by go_num, by rw [Hsucc.out, Hos.out, if_neg (by rw [H29.out]; decide)]; go_num, by rw [Hsucc.out, Hrs.out, if_pos H29.out]; go_num, Lib.hid (by rw [Hsucc.out]; exact Hall2.out (Or.inl H29.out))⟩
            case measure => simp [intOf]; omega
          · have h30b : ((Cd.opAt C j).d == 30) = false := by simp [h30]
            have h29b : ((Cd.opAt C j).d == 29) = false := by simp [h29]
            have hn0 := Lib.hid (Hbad.out h29 h30)
            clear h30 h29 hoa
            go_wp2
            go_returns
            refine ⟨rfl, ⟨D, R, true, ((HW.out.below hbel).setBad true).alloc _, ?_⟩, ((hbel.mono (by omega)).setCell hpB _).alloc (by simp; omega) _⟩
            rw [hn0.out]
            exact OrdPost.of_none rfl
      · go_wp2
        go_returns
        refine ⟨rfl, ⟨D, R, true, (HW.out.below hbel).setBad true, ?_⟩, (hbel.mono (by omega)).setCell hpB _⟩
        rw [choose_short (by have := Hna.out; omega)]
        exact OrdPost.of_none rfl
    · obtain rfl : j = at_ + 1 + n := by omega
      have hcs : casesN C at_ (at_ + 1 + n - (at_ + 1)) = Cd.casesOf C at_ := by rw [casesN_all, Hna.out, Int.toNat_natCast]; congr 1; omega
      rw [hcs] at Hall
      have Hcs := Lib.hid hcs
      have hlen : (Cd.casesOf C at_).length = n := by rw [← hcs]; rw [casesN_length (by omega)]; omega
      have hol := othersOf_le (Cd.casesOf C at_)
      have hrd := restDeep_bd (Cd.casesOf C at_) deep (fun y hy h29 => by rw [casesN_all] at hy; have := (Cd.rangeB_pos (Hr.out _ (casesN_mem hy))).2.1 (Or.inl h29); omega)
      rw [hlen] at hol hrd
      have Hlen := Lib.hid hlen
      rw [hcs]
      clear hcs hlen
      have hmany := @choose_many C at_ deep
      have hsome := @choose_some C at_ deep (by have := Hna.out; omega) Hall.out
      generalize Cd.othersOf (Cd.casesOf C at_) = x at *
      generalize hy : Cd.restDeep deep (Cd.casesOf C at_) = y at *
      have Hy := Lib.hid hy
      have Hmany := Lib.hid hmany
      have Hsome := Lib.hid hsome
      clear hy hmany hsome
      by_cases hx1 : 1 < x
      · go_wp2
        go_returns
        refine ⟨rfl, ⟨D, R, true, (HW.out.below hbel).setBad true, ?_⟩, (hbel.mono (by omega)).setCell hpB _⟩
        rw [Hmany.out (Or.inl hx1)]
        exact OrdPost.of_none rfl
      by_cases hy0 : y < 0
      · go_wp2
        go_returns
        refine ⟨rfl, ⟨D, R, true, (HW.out.below hbel).setBad true, ?_⟩, (hbel.mono (by omega)).setCell hpB _⟩
        rw [Hmany.out (Or.inr hy0)]
        exact OrdPost.of_none rfl
      have Hres := Lib.hid (Hsome.out hx1 hy0)
      go_wp2
      obtain ⟨wo, rfl⟩ : ∃ wo : World, wo = wr := ⟨_, rfl⟩
      go_loopw [10] (fun i wr => ∃ j : Nat, at_ + 1 ≤ j ∧ j ≤ at_ + 1 + n ∧ i = .int .i64 j ∧ Below B w wr ∧ w.heap.size ≤ wr.heap.size ∧ ∃ Dk Rk bk, WalkAt B wr p (.slice (some ⟨b, o, none⟩) C.ops.length co) vf vk Dk Rk bk ∧ LeadPost D R ((casesN C at_ (j - (at_ + 1))).map (Cd.caseTo y)) Dk Rk bk) (fun i _ => at_ + 1 + n - (intOf i).toNat)
      case atStart => exact ⟨at_ + 1, by omega, by omega, by go_num, hbel.mono (by omega), hz, D, R, false, HW.out.below hbel, by simp [casesN]; exact LeadPost.nil D R⟩
      case round =>
        clear c0' c5' f5' hplr hblr
        obtain ⟨j, hj1, hj2, rfl, hb2, hz2, Dk, Rk, bk, hWk, hL⟩ := hrel
        obtain ⟨c0, c1, c2, c5, f5⟩ := hWk.look
        have hplr := hWk.lt
        have hblr : b < wr.heap.size := by omega
        have HWk := Lib.hid hWk
        have HL := Lib.hid hL
        clear hWk hL c1 c2
        by_cases hjn : j ≤ at_ + n
        · obtain ⟨e1, e2, e3⟩ := Hc.out j (by omega)
          have k1 := (hb2.cell (p := ⟨b, o + j * 3, none⟩) hbB).trans e1
          have k2 := (hb2.cell (p := ⟨b, o + j * 3 + 1, none⟩) hbB).trans e2
          have k3 := (hb2.cell (p := ⟨b, o + j * 3 + 2, none⟩) hbB).trans e3
          change wr.cell? _ = some (.int .i64 (Cd.opAt C j).d) at k1
          change wr.cell? _ = some (.int .i64 (Cd.opAt C j).a) at k2
          change wr.cell? _ = some (.int .i64 (Cd.opAt C j).b) at k3
          have hsucc : casesN C at_ (j + 1 - (at_ + 1)) = casesN C at_ (j - (at_ + 1)) ++ [Cd.opAt C j] := by
            have := casesN_succ (C := C) (at_ := at_) (k := j - (at_ + 1)) (by omega)
            rw [show at_ + 1 + (j - (at_ + 1)) = j by omega] at this
            rw [show j + 1 - (at_ + 1) = j - (at_ + 1) + 1 by omega]; exact this
          have hin : Cd.opAt C j ∈ Cd.casesOf C at_ := by
            have hm : Cd.opAt C j ∈ casesN C at_ (j + 1 - (at_ + 1)) := by rw [hsucc]; simp
            rw [casesN_all]
            unfold casesN at hm ⊢
            exact List.mem_of_mem_take (i := j + 1 - (at_ + 1)) (by rw [List.take_take, Nat.min_eq_left (by have := Hna.out; omega)]; exact hm)
          have Hsnoc : Hid (LeadPost D R ((casesN C at_ (j + 1 - (at_ + 1))).map (Cd.caseTo y)) (rD Dk (Cd.caseTo y (Cd.opAt C j)).1 (Cd.caseTo y (Cd.opAt C j)).2) (rR Dk Rk (Cd.caseTo y (Cd.opAt C j)).1 (Cd.caseTo y (Cd.opAt C j)).2) (rBad Dk bk (Cd.caseTo y (Cd.opAt C j)).1 (Cd.caseTo y (Cd.opAt C j)).2)) :=
            Lib.hid (by rw [hsucc, List.map_append]; exact HL.out.snoc (Cd.caseTo y (Cd.opAt C j)))
          obtain ⟨b0, b1, a0, a1⟩ := (Cd.rangeB_pos (Hr.out _ (opAt_mem (C := C) (i := j) (by omega)))).2.1 (Hall.out _ hin)
          have hDk : Dk.length = C.ops.length := by rw [HL.out.1]; exact Hn.out
          have HDk := Lib.hid hDk
          clear hsucc hin e1 e2 e3 hDk
          have hops2 := Lib.hid (Hops.out.below hb2 (Nat.le_refl B))
          by_cases hc : (Cd.opAt C j).d = 29 ∧ (Cd.opAt C j).a = 0
          · obtain ⟨hc1, hc2⟩ := hc
            have h29b : ((Cd.opAt C j).d == 29) = true := by simp [hc1]
            have ha0b : ((Cd.opAt C j).a == 0) = true := by simp [hc2]
            have ecase : Hid (Cd.caseTo y (Cd.opAt C j) = ((Cd.opAt C j).b, y + 1)) := Lib.hid (by unfold Cd.caseTo; rw [if_pos ⟨hc1, hc2⟩])
            clear hc1 hc2
            go_wp2_with (go_at_call 61; refine (rlead_int B p _ _ vf vk C.ops Dk Rk bk _ _ (HWk.out.alloc _) (hops2.out.below ((Below.refl _ _).alloc (Nat.le_refl _) _) (by omega)) HDk.out h8 b0 (by omega)).mono ?_; rintro e w3 ⟨rfl, hW3, hb3⟩; have HW3 := Lib.hid hW3; clear hW3)
            go_roundw
            case rel => exact ⟨j + 1, by omega, by omega, by go_num, hb2.trans (((Below.refl _ _).alloc (by omega) _).trans hb3), by have := hb3.size; simp at this; omega, _, _, _, HW3.out, by have := Hsnoc.out; rw [ecase.out] at this; exact this⟩
            case measure => simp [intOf]; omega
          · have ecase : Hid (Cd.caseTo y (Cd.opAt C j) = ((Cd.opAt C j).b, y)) := Lib.hid (by unfold Cd.caseTo; rw [if_neg hc]; simp)
            by_cases h29 : (Cd.opAt C j).d = 29
            · have h29b : ((Cd.opAt C j).d == 29) = true := by simp [h29]
              have ha0b : ((Cd.opAt C j).a == 0) = false := by simp; exact fun h => hc ⟨h29, h⟩
              clear h29 hc
              go_wp2_with (go_at_call 61; refine (rlead_int B p _ _ vf vk C.ops Dk Rk bk _ _ (HWk.out.alloc _) (hops2.out.below ((Below.refl _ _).alloc (Nat.le_refl _) _) (by omega)) HDk.out h8 b0 (by omega)).mono ?_; rintro e w3 ⟨rfl, hW3, hb3⟩; have HW3 := Lib.hid hW3; clear hW3)
              go_roundw
              case rel => exact ⟨j + 1, by omega, by omega, by go_num, hb2.trans (((Below.refl _ _).alloc (by omega) _).trans hb3), by have := hb3.size; simp at this; omega, _, _, _, HW3.out, by have := Hsnoc.out; rw [ecase.out] at this; exact this⟩
              case measure => simp [intOf]; omega
            · have h29b : ((Cd.opAt C j).d == 29) = false := by simp [h29]
              clear h29 hc
              go_wp2_with (go_at_call 61; refine (rlead_int B p _ _ vf vk C.ops Dk Rk bk _ _ (HWk.out.alloc _) (hops2.out.below ((Below.refl _ _).alloc (Nat.le_refl _) _) (by omega)) HDk.out h8 b0 (by omega)).mono ?_; rintro e w3 ⟨rfl, hW3, hb3⟩; have HW3 := Lib.hid hW3; clear hW3)
              go_roundw
              case rel => exact ⟨j + 1, by omega, by omega, by go_num, hb2.trans (((Below.refl _ _).alloc (by omega) _).trans hb3), by have := hb3.size; simp at this; omega, _, _, _, HW3.out, by have := Hsnoc.out; rw [ecase.out] at this; exact this⟩
              case measure => simp [intOf]; omega
        · obtain rfl : j = at_ + 1 + n := by omega
          go_wp2
          go_returns
          refine ⟨rfl, ⟨Dk, Rk, bk, HWk.out, ?_⟩, hb2⟩
          rw [Hres.out]
          have := HL.out
          rw [Hcs.out] at this
          exact OrdPost.of_some this
end Go.Proofs.Ytjomajfgoaifbaa
