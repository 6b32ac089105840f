/-
  PROVED HERE: what the reference's reader makes of bytes: a number, or what is wrong. No condition beyond the lemmas' own premises.
-/
import Derived.Test.YtjomajfgoaifbaaPCount
namespace Go.Proofs.Ytjomajfgoaifbaa
open Go.RowKit

/-- The reference's reader, in block p: what is left of b, or what is wrong. -/
def RrAt (B p : Nat) (b : List UInt8) (x : Except Int (List UInt8)) (w : World) : Prop := match x with
  | .ok r => ∃ (v : Value) (i : Nat), w.heap[p]? = some (.cells #[v, .int .i64 i, .int .i64 0] 79 (0, 0)) ∧ BytesV B w v b ∧ i ≤ b.length ∧ r = b.drop i
  | .error c => ∃ (a : Option Addr) (n cap : Nat) (i : Int), c ≠ 0 ∧ w.heap[p]? = some (.cells #[.slice a n cap, .int .i64 i, .int .i64 c] 79 (0, 0))

theorem Only.drewN {p : Nat} {a b : World} (h : Only p a b) (n : Nat) : Only p a (b.drewN n) := ⟨⟨h.low.os, h.low.tape, h.low.output, h.low.size, h.low.block⟩, h.size, h.kept⟩

def numX (x : Except Int (List UInt8)) : Int × Except Int (List UInt8) := match x with
  | .error c => (0, .error c)
  | .ok r => match Rd.num r with
    | .error c => (0, .error c)
    | .ok (n, r') => (n, .ok r')

def NumXPost (B p : Nat) (b : List UInt8) (x : Except Int (List UInt8)) (w : World) (e : Ending) (w' : World) : Prop :=
  Only p w w' ∧ e = .returned (.int .i64 (numX x).1) ∧ RrAt B p b (numX x).2 w'

set_option maxRecDepth 100000 in
set_option maxHeartbeats 1000000 in
theorem rnum_err (B p : Nat) (w : World) (b : List UInt8) (c : Int) (hp : RrAt B p b (.error c) w) : Calls Try.prog 31 #[.pointer (some ⟨p, 0, none⟩)] w (NumXPost B p b (.error c) w) := by
  obtain ⟨a, n, cap, i, hc, hb⟩ := hp
  have HR : Hid (RrAt B p b (.error c) w) := Lib.hid ⟨a, n, cap, i, hc, hb⟩
  have c2 := blk_cell hb 2
  simp only [List.getElem?_toArray, List.getElem?_cons_zero, List.getElem?_cons_succ] at c2
  have hcb : (c != 0) = true := by simpa using hc
  clear hb hc
  go_enter Try.func31, Try.ntmps31
  go_wp2
  go_returns
  exact ⟨Only.refl _ _, rfl, HR.out⟩

theorem rdone_bad {B p : Nat} {b l : List UInt8} {w W : World} {a : Option Addr} {n cap : Nat} {i : Int} (ho : Only p w W) (h : Rd.num l = .error 3) (hp : W.heap[p]? = some (.cells #[.slice a n cap, .int .i64 i, .int .i64 0] 79 (0, 0))) :
    NumXPost B p b (.ok l) w (.returned (.int .i64 0)) (W.setCell ⟨p, 2, none⟩ (.int .i64 3)) := by
  have e : numX (.ok l) = (0, .error 3) := by unfold numX; simp only [h]
  refine ⟨ho.trans (Only.set p 2 W _), by rw [e], ?_⟩
  rw [e]
  exact ⟨a, n, cap, i, by omega, by rw [blk_set hp]; rfl⟩
theorem rdone_ok {B p k : Nat} {b l : List UInt8} {w W : World} {v : Value} {n m : Int} (ho : Only p w W) (h : Rd.num l = .ok (n, b.drop k)) (hm : m = n) (hp : W.heap[p]? = some (.cells #[v, .int .i64 k, .int .i64 0] 79 (0, 0))) (hv : BytesV B w v b) (hB : B ≤ p) (hk : k ≤ b.length) :
    NumXPost B p b (.ok l) w (.returned (.int .i64 m)) W := by
  have e : numX (.ok l) = (n, .ok (b.drop k)) := by unfold numX; simp only [h]
  refine ⟨ho, by rw [e, hm], ?_⟩
  rw [e]
  exact ⟨v, k, hp, hv.only ho hB, hk, rfl⟩
theorem rval_odd {U : Nat} (h : ((U : Int) % 2 == 1) = true) : -((U : Int) / 2) - 1 = Rd.valOf U := by
  have h : (U : Int) % 2 = 1 := by simpa using h
  unfold Rd.valOf
  rw [if_pos (by omega)]
  omega
theorem rval_even {U : Nat} (h : ((U : Int) % 2 == 1) = false) : (U : Int) / 2 = Rd.valOf U := by
  have h : ¬ (U : Int) % 2 = 1 := by simpa using h
  unfold Rd.valOf
  rw [if_neg (by omega)]
  omega

set_option maxRecDepth 100000 in
set_option maxHeartbeats 4000000 in
theorem rnum_ok (B p : Nat) (w : World) (b r : List UInt8) (hp : RrAt B p b (.ok r) w) (hB : B ≤ p) : Calls Try.prog 31 #[.pointer (some ⟨p, 0, none⟩)] w (NumXPost B p b (.ok r) w) := by
  obtain ⟨v, i, hb, hv, hi, rfl⟩ := hp
  have c2 := blk_cell hb 2
  simp only [List.getElem?_toArray, List.getElem?_cons_zero, List.getElem?_cons_succ] at c2
  have Hb := Lib.hid hb
  have Hv := Lib.hid hv
  have HS : Hid (NumSt (b.drop i) 0 0 (b.drop i)) := Lib.hid ⟨0, rfl, by omega, by simp, rfl⟩
  clear hb hv
  go_enter Try.func31, Try.ntmps31
  go_wp2
  go_loopw [3, 4] (fun u k wr => ∃ (j x i' : Nat), u = .int .u64 x ∧ k = .int .i64 j ∧ j ≤ 9 ∧ i' ≤ b.length ∧ Hid (NumSt (b.drop i) (7 * j) x (b.drop i')) ∧ Hid (Only p w wr) ∧ Hid (wr.heap[p]? = some (.cells #[v, .int .i64 i', .int .i64 0] 79 (0, 0)))) (fun _ k _ => 10 - (intOf k).toNat)
  case atStart => exact ⟨0, 0, i, rfl, rfl, by omega, hi, HS, Lib.hid (Only.refl _ _), Hb⟩
  case round =>
    obtain ⟨j, u, i', rfl, rfl, hj, hi', HS', HO, Hp⟩ := hrel
    have d0 := blk_cell Hp.out 0
    have d1 := blk_cell Hp.out 1
    have d2 := blk_cell Hp.out 2
    have f1 := blk_free Hp.out 1
    have f2 := blk_free Hp.out 2
    have hpl := blk_lt Hp.out
    simp only [List.getElem?_toArray, List.getElem?_cons_zero, List.getElem?_cons_succ] at d0 d1 d2
    have hj10 : (j : Int) < 10 := by omega
    by_cases hlt : i' < b.length
    · have hne : ((i' : Int) == (b.length : Int)) = false := by simp; omega
      obtain ⟨a, bb, o, cap, rfl, hn1, ⟨hn2, hn3⟩, hab, hcell⟩ := Hv.out
      obtain ⟨rfl, hbB⟩ := hab (by omega)
      have hx := (HO.out.low.cell (p := ⟨bb, o + i', none⟩) (by show bb < p; omega)).trans (hcell i' hlt)
      have hsz := HO.out.size
      have hbbl : bb < wr.heap.size := by omega
      have hdrop : b.drop i' = b.getD i' 0 :: b.drop (i' + 1) := by
        rw [List.drop_eq_getElem_cons hlt]
        simp [List.getElem?_eq_getElem hlt]
      generalize b.getD i' 0 = x at *
      clear hab hcell c2
      go_wp2_with fail
      go_quiet (fail)
      obtain ⟨n1, hn1'⟩ : ∃ n1, n1 = nq := ⟨_, rfl⟩
      rw [← hn1']
      clear hn1'
      go_wp2_with fail
      go_quiet (fail)
      obtain ⟨wd, hwd⟩ : ∃ wd, wd = (wr.drewN n1).drewN nq := ⟨_, rfl⟩
      rw [← hwd]
      have HOd : Hid (Only p w wd) := Lib.hid (by rw [hwd]; exact (HO.out.drewN n1).drewN nq)
      have hpd : wd.heap[p]? = some (.cells #[.slice (some ⟨bb, o, none⟩) b.length cap, .int .i64 i', .int .i64 0] 79 (0, 0)) := by rw [hwd]; exact Hp.out
      clear hwd d0 d1 d2 f1 f2 hpl hx HO Hp
      have d1 := blk_cell hpd 1
      have d2 := blk_cell hpd 2
      have f1 := blk_free hpd 1
      have f2 := blk_free hpd 2
      have hpl := blk_lt hpd
      simp only [List.getElem?_toArray, List.getElem?_cons_zero, List.getElem?_cons_succ] at d1 d2
      have HO2 := Lib.hid (HOd.out.trans (Only.set p 1 wd (.int .i64 ((i' : Int) + 1))))
      have Hp2 : Hid ((wd.setCell ⟨p, 1, none⟩ (.int .i64 ((i' : Int) + 1))).heap[p]? = some (.cells #[.slice (some ⟨bb, o, none⟩) b.length cap, .int .i64 ((i' + 1 : Nat) : Int), .int .i64 0] 79 (0, 0))) := Lib.hid (by rw [blk_set hpd]; rfl)
      clear hpd
      obtain ⟨j0, hj0, hj9, hu, hat⟩ := HS'.out
      obtain rfl : j0 = j := by omega
      rw [hdrop] at hat
      have hx256 : x.toNat < 256 := x.toNat_lt
      have hj63 : (0 : Int) ≤ j0 := by omega
      cases hbad : Rd.badB j0 x.toNat with
      | true =>
        have hno : Hid (Rd.num (b.drop i) = .error 3) := Lib.hid (num_none (by rw [hat, numAt_bad hbad]))
        have hb2 := of_decide_eq_true hbad
        clear hbad hat
        have g1 := blk_cell Hp2.out 2
        have g2 := blk_free Hp2.out 2
        have g3 := blk_lt Hp2.out
        simp only [List.getElem?_toArray, List.getElem?_cons_zero, List.getElem?_cons_succ] at g1
        by_cases h9 : j0 = 9 ∧ 1 < x.toNat
        · obtain ⟨h9, hx1⟩ := h9
          have hk : ((j0 : Int) == 9) = true := by simp; omega
          clear hj0 hb2 h9
          go_wp2
          go_returns
          exact rdone_bad HO2.out hno.out Hp2.out
        · have hx0 : x.toNat = 0 := by omega
          have hj0p : 0 < j0 := by omega
          have hxb : ((x.toNat : Int) == 0) = true := by simp [hx0]
          have hx1 : (x.toNat : Int) ≤ 1 := by omega
          by_cases h9 : j0 = 9
          · have hk : ((j0 : Int) == 9) = true := by simp; omega
            clear hj0 hb2 h9 hx0
            go_wp2
            go_returns
            exact rdone_bad HO2.out hno.out Hp2.out
          · have hk : ((j0 : Int) == 9) = false := by simp; omega
            clear hj0 hb2 h9 hx0
            go_wp2
            go_returns
            exact rdone_bad HO2.out hno.out Hp2.out
      | false =>
        have hb2 := of_decide_eq_false hbad
        have hq := or_upd2 j0 u x.toNat hj9 hu hx256 (fun h => by omega)
        have hU := upd_lt64 (j := j0) (u := u) (x := x.toNat) hj9 hu (fun h => by omega)
        have hend := Lib.hid (fun h : x.toNat < 128 => num_some (hat.trans (numAt_end hbad h)))
        have hnext := Lib.hid (fun (h9 : j0 ≠ 9) (h : ¬ x.toNat < 128) => (show NumSt (b.drop i) (7 * (j0 + 1)) (Rd.upd j0 u x.toNat) (b.drop (i' + 1)) from ⟨j0 + 1, rfl, by omega, Rd.upd_lt hu, hat.trans (numAt_next hbad h)⟩))
        have hbig : ¬ x.toNat < 128 → (128 : Int) ≤ x.toNat := fun h => by omega
        have hsml : x.toNat < 128 → (x.toNat : Int) < 128 := fun h => by omega
        generalize Rd.upd j0 u x.toNat = U at *
        clear hbad hat
        by_cases h9 : j0 = 9
        · have hk : ((j0 : Int) == 9) = true := by simp; omega
          have hk0 : 0 < j0 := by omega
          have hx1 : x.toNat = 1 := by omega
          have hxb : ((x.toNat : Int) == 0) = false := by simp; omega
          have hx2 : (x.toNat : Int) ≤ 1 := by omega
          have hx8 : x.toNat < 128 := by omega
          have hx8i := hsml hx8
          clear hj0 hb2 h9 hx1 hbig hsml
          cases hpb : ((U : Int) % 2 == 1) with
          | true =>
            go_wp2
            go_returns
            exact rdone_ok HO2.out (hend.out hx8) (rval_odd hpb) Hp2.out Hv.out hB (by omega)
          | false =>
            go_wp2
            go_returns
            exact rdone_ok HO2.out (hend.out hx8) (rval_even hpb) Hp2.out Hv.out hB (by omega)
        · have hk : ((j0 : Int) == 9) = false := by simp; omega
          by_cases hj0p : 0 < j0
          · have hxb : ((x.toNat : Int) == 0) = false := by simp; omega
            have Hne := Lib.hid h9
            clear hj0 hb2 h9
            by_cases hx8 : x.toNat < 128
            · have hx8i := hsml hx8
              clear hbig hsml
              cases hpb : ((U : Int) % 2 == 1) with
              | true =>
                go_wp2
                go_returns
                exact rdone_ok HO2.out (hend.out hx8) (rval_odd hpb) Hp2.out Hv.out hB (by omega)
              | false =>
                go_wp2
                go_returns
                exact rdone_ok HO2.out (hend.out hx8) (rval_even hpb) Hp2.out Hv.out hB (by omega)
            · have hx8i := hbig hx8
              have hn := Lib.hid (hnext.out Hne.out hx8)
              have hj8 : j0 + 1 ≤ 9 := by have := Hne.out; omega
              clear hbig hsml
              go_wp2
              go_roundw
              case rel => exact ⟨j0 + 1, U, i' + 1, rfl, by go_num, hj8, by omega, hn, HO2, Hp2⟩
              case measure => simp [intOf]; omega
          · have hk0 : decide (0 < (j0 : Int)) = false := by simpa using hj0p
            have hk1 : decide (0 < j0) = false := by simpa using hj0p
            have Hne := Lib.hid h9
            clear hj0 hb2 h9 hj0p
            by_cases hx8 : x.toNat < 128
            · have hx8i := hsml hx8
              clear hbig hsml
              cases hpb : ((U : Int) % 2 == 1) with
              | true =>
                go_wp2
                go_returns
                exact rdone_ok HO2.out (hend.out hx8) (rval_odd hpb) Hp2.out Hv.out hB (by omega)
              | false =>
                go_wp2
                go_returns
                exact rdone_ok HO2.out (hend.out hx8) (rval_even hpb) Hp2.out Hv.out hB (by omega)
            · have hx8i := hbig hx8
              have hn := Lib.hid (hnext.out Hne.out hx8)
              have hj8 : j0 + 1 ≤ 9 := by have := Hne.out; omega
              clear hbig hsml
              go_wp2
              go_roundw
              case rel => exact ⟨j0 + 1, U, i' + 1, rfl, by go_num, hj8, by omega, hn, HO2, Hp2⟩
              case measure => simp [intOf]; omega
    · have hie : i' = b.length := by omega
      have heq : ((i' : Int) == (b.length : Int)) = true := by simp; omega
      have hno : Hid (Rd.num (b.drop i) = .error 3) := Lib.hid (by
        obtain ⟨j0, _, _, _, h⟩ := HS'.out
        rw [hie, List.drop_length] at h
        exact num_none (by rw [h, Rd.numAt]))
      obtain ⟨a, bb, o, cap, rfl, hn1, ⟨hn2, hn3⟩, hab, hcell⟩ := Hv.out
      clear hab hcell c2 hie
      go_wp2_with fail
      go_quiet (fail)
      obtain ⟨wd, hwd⟩ : ∃ wd, wd = wr.drewN nq := ⟨_, rfl⟩
      rw [← hwd]
      have HOd : Hid (Only p w wd) := Lib.hid (by rw [hwd]; exact HO.out.drewN nq)
      have hpd : wd.heap[p]? = some (.cells #[.slice a b.length cap, .int .i64 i', .int .i64 0] 79 (0, 0)) := by rw [hwd]; exact Hp.out
      clear hwd d0 d1 d2 f1 f2 hpl HO Hp
      have d2 := blk_cell hpd 2
      have f2 := blk_free hpd 2
      have hpl := blk_lt hpd
      simp only [List.getElem?_toArray, List.getElem?_cons_zero, List.getElem?_cons_succ] at d2
      have Hpd := Lib.hid hpd
      clear hpd
      go_wp2
      go_returns
      exact rdone_bad HOd.out hno.out Hpd.out
end Go.Proofs.Ytjomajfgoaifbaa
