/-
  PROVED HERE: what the reference's reader makes of bytes: how many there are. No condition beyond the lemmas' own premises.
-/
import Derived.Test.YtjomajfgoaifbaaRNum
import Derived.Test.YtjomajfgoaifbaaRdRows
namespace Go.Proofs.Ytjomajfgoaifbaa
open Go.RowKit

theorem rnum_any (B p : Nat) (w : World) (b : List UInt8) (x : Except Int (List UInt8)) (hp : RrAt B p b x w) (hB : B ≤ p) : Calls Try.prog 31 #[.pointer (some ⟨p, 0, none⟩)] w (NumXPost B p b x w) := by
  cases x with
  | error c => exact rnum_err B p w b c hp
  | ok r => exact rnum_ok B p w b r hp hB

def countX (x : Except Int (List UInt8)) : Int × Except Int (List UInt8) := match numX x with
  | (n, .error c) => (n, .error c)
  | (n, .ok r) => if n < 0 ∨ 10000 < n then (n, .error 1) else (n, .ok r)

def CountXPost (B p : Nat) (b : List UInt8) (x : Except Int (List UInt8)) (w : World) (e : Ending) (w' : World) : Prop :=
  Only p w w' ∧ e = .returned (.int .i64 (countX x).1) ∧ RrAt B p b (countX x).2 w'

theorem countX_err {x : Except Int (List UInt8)} {n c : Int} (h : numX x = (n, .error c)) : countX x = (n, .error c) := by unfold countX; rw [h]
theorem countX_bad {x : Except Int (List UInt8)} {n : Int} {r : List UInt8} (h : numX x = (n, .ok r)) (hn : n < 0 ∨ 10000 < n) : countX x = (n, .error 1) := by unfold countX; rw [h]; exact if_pos hn
theorem countX_ok {x : Except Int (List UInt8)} {n : Int} {r : List UInt8} (h : numX x = (n, .ok r)) (hn : ¬ (n < 0 ∨ 10000 < n)) : countX x = (n, .ok r) := by unfold countX; rw [h]; exact if_neg hn

theorem numX_bd (x : Except Int (List UInt8)) : -9223372036854775808 ≤ (numX x).1 ∧ (numX x).1 ≤ 9223372036854775807 := by
  cases x with
  | error c => exact ⟨by show (-9223372036854775808 : Int) ≤ 0; omega, by show (0 : Int) ≤ _; omega⟩
  | ok r =>
    unfold numX
    cases h : Rd.num r with
    | error c => simp only [h]; omega
    | ok y =>
      simp only [h]
      exact Rd.num_bd h

set_option maxRecDepth 100000 in
set_option maxHeartbeats 1000000 in
theorem rcount_any (B p : Nat) (w : World) (b : List UInt8) (x : Except Int (List UInt8)) (hp : RrAt B p b x w) (hB : B ≤ p) : Calls Try.prog 30 #[.pointer (some ⟨p, 0, none⟩)] w (CountXPost B p b x w) := by
  have HP := Lib.hid hp
  clear hp
  have hbd := numX_bd x
  go_enter Try.func30, Try.ntmps30
  go_wp2_with fail
  refine (rnum_any B p w b x HP.out hB).mono ?_
  rintro e w1 ⟨ho, rfl, hr⟩
  have HO := Lib.hid ho
  clear ho
  cases hx : numX x with
  | mk n y =>
    rw [hx] at hr hbd
    rw [show (n, y).1 = n from rfl] at *
    rw [show (n, y).2 = y from rfl] at *
    cases y with
    | error c =>
      obtain ⟨a, m, cap, i, hc, hb⟩ := hr
      have c2 := blk_cell hb 2
      simp only [List.getElem?_toArray, List.getElem?_cons_zero, List.getElem?_cons_succ] at c2
      have hcb : (c == 0) = false := by simpa using hc
      have HR : Hid (RrAt B p b (.error c) w1) := Lib.hid ⟨a, m, cap, i, hc, hb⟩
      have HX := Lib.hid (countX_err hx)
      clear hb hc hx
      go_wp2
      go_returns
      refine ⟨HO.out, by rw [HX.out]; rfl, by rw [HX.out]; exact HR.out⟩
    | ok r =>
      have HR : Hid (RrAt B p b (.ok r) w1) := Lib.hid hr
      obtain ⟨v, i, hb, hv, hi, hri⟩ := hr
      obtain ⟨a, _, _, cap, rfl, _⟩ := hv
      have c2 := blk_cell hb 2
      have f2 := blk_free hb 2
      have hl := blk_lt hb
      simp only [List.getElem?_toArray, List.getElem?_cons_zero, List.getElem?_cons_succ] at c2
      have Hb := Lib.hid hb
      have Hx := Lib.hid hx
      clear hb hx hri
      by_cases h0 : n < 0
      · go_wp2
        go_returns
        have HX := countX_bad Hx.out (Or.inl h0)
        refine ⟨HO.out.trans (Only.set p 2 w1 _), by rw [HX]; rfl, ?_⟩
        rw [HX]
        exact ⟨_, _, _, _, by omega, by rw [blk_set Hb.out]; rfl⟩
      · by_cases h1 : 10000 < n
        · go_wp2
          go_returns
          have HX := countX_bad Hx.out (Or.inr h1)
          refine ⟨HO.out.trans (Only.set p 2 w1 _), by rw [HX]; rfl, ?_⟩
          rw [HX]
          exact ⟨_, _, _, _, by omega, by rw [blk_set Hb.out]; rfl⟩
        · go_wp2
          go_returns
          have HX := countX_ok Hx.out (by omega)
          exact ⟨HO.out, by rw [HX]; rfl, by rw [HX]; exact HR.out⟩
end Go.Proofs.Ytjomajfgoaifbaa
