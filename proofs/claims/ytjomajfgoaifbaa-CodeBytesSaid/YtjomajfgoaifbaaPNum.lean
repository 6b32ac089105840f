/-
  PROVED HERE: what the program's reader makes of bytes: a number, or it gives up. No condition beyond the lemmas' own premises.
-/
import Derived.Test.YtjomajfgoaifbaaBytes
namespace Go.Proofs.Ytjomajfgoaifbaa
open Go.RowKit

/-- What the program throws. -/
def thrown (e : Int) : Ending := .panicked [{ v := .iface 71 (.agg #[.int .i64 e]), recovered := false }]

/-- The program's reader, in block p: l is left. -/
def RdAt (B p : Nat) (l : List UInt8) (w : World) : Prop := ∃ v, w.heap[p]? = some (.cells #[v] 74 (0, 0)) ∧ BytesV B w v l

/-- A reading of the program's. -/
def RdPost {α : Type} (V : α → Value) (B p : Nat) (x : Except Int (α × List UInt8)) (w : World) (e : Ending) (w' : World) : Prop :=
  Only p w w' ∧ ((∃ c, x = .error c ∧ e = thrown c) ∨ ∃ a r, x = .ok (a, r) ∧ e = .returned (V a) ∧ RdAt B p r w')

theorem numAt_bad {j u : Nat} {x : UInt8} {r : List UInt8} (h : Rd.badB j x.toNat = true) : Rd.numAt j u (x :: r) = none := by rw [Rd.numAt, if_pos h]
theorem numAt_end {j u : Nat} {x : UInt8} {r : List UInt8} (h : Rd.badB j x.toNat = false) (h2 : x.toNat < 128) : Rd.numAt j u (x :: r) = some (Rd.valOf (Rd.upd j u x.toNat), r) := by rw [Rd.numAt, h, if_neg (by simp), if_pos h2]
theorem numAt_next {j u : Nat} {x : UInt8} {r : List UInt8} (h : Rd.badB j x.toNat = false) (h2 : ¬ x.toNat < 128) : Rd.numAt j u (x :: r) = Rd.numAt (j + 1) (Rd.upd j u x.toNat) r := by rw [Rd.numAt, h, if_neg (by simp), if_neg h2]

/-- Where a reading of a number stands. -/
structure NumSt (l : List UInt8) (k u : Nat) (r : List UInt8) : Prop where
  at_ : ∃ j, k = 7 * j ∧ j ≤ 9 ∧ u < 2 ^ (7 * j) ∧ Rd.numAt 0 0 l = Rd.numAt j u r

theorem num_none {l : List UInt8} (h : Rd.numAt 0 0 l = none) : Rd.num l = .error 3 := by unfold Rd.num; rw [h]
theorem num_some {l r : List UInt8} {n : Int} (h : Rd.numAt 0 0 l = some (n, r)) : Rd.num l = .ok (n, r) := by unfold Rd.num; rw [h]

theorem done_bad {B p : Nat} {l : List UInt8} {w w' : World} (ho : Only p w w') (h : Rd.num l = .error 3) : RdPost (Value.int .i64) B p (Rd.num l) w (thrown 3) w' := ⟨ho, Or.inl ⟨3, h, rfl⟩⟩
theorem done_ok {B p : Nat} {l r : List UInt8} {w w' : World} {n : Int} (ho : Only p w w') (h : Rd.num l = .ok (n, r)) (hr : RdAt B p r w') : RdPost (Value.int .i64) B p (Rd.num l) w (.returned (.int .i64 n)) w' := ⟨ho, Or.inr ⟨n, r, h, rfl, hr⟩⟩

/-- A byte taken. -/
theorem take_byte {B p : Nat} {w wr : World} {v v2 : Value} {r : List UInt8} (hB : B ≤ p) (ho : Only p w wr) (hp : wr.heap[p]? = some (.cells #[v] 74 (0, 0))) (hr : BytesV B wr v2 r) :
    Only p w (wr.setCell ⟨p, 0, none⟩ v2) ∧ (wr.setCell ⟨p, 0, none⟩ v2).heap[p]? = some (.cells #[v2] 74 (0, 0)) ∧ BytesV B (wr.setCell ⟨p, 0, none⟩ v2) v2 r :=
  ⟨ho.trans (Only.set p 0 wr v2), by rw [blk_set hp]; rfl, hr.only (Only.set p 0 wr v2) hB⟩

set_option maxRecDepth 100000 in
set_option maxHeartbeats 4000000 in
theorem pnum_any (B p : Nat) (w : World) (l : List UInt8) (hp : RdAt B p l w) (hB : B ≤ p) :
    Calls Try.prog 28 #[.pointer (some ⟨p, 0, none⟩)] w (RdPost (Value.int .i64) B p (Rd.num l) w) := by
  obtain ⟨v, hp, hl⟩ := hp
  have HP := Lib.hid hp
  have HL := Lib.hid hl
  have HS : Hid (NumSt l 0 0 l) := Lib.hid ⟨0, rfl, by omega, by simp, rfl⟩
  clear hp hl
  go_enter Try.func28, Try.ntmps28
  go_wp2
  go_loopg [3, 4] l.length (fun m u s wr => ∃ (k x : Nat) (r : List UInt8) (v' : Value), u = .int .u64 x ∧ s = .int .i64 k ∧ r.length ≤ m ∧ Hid (NumSt l k x r) ∧ Hid (Only p w wr) ∧ Hid (wr.heap[p]? = some (.cells #[v'] 74 (0, 0))) ∧ Hid (BytesV B wr v' r))
  case atStart => exact ⟨0, 0, l, v, rfl, rfl, Nat.le_refl _, HS, Lib.hid (Only.refl _ _), HP, HL⟩
  case round =>
    clear HP HL HS
    obtain ⟨k, u, r, v', rfl, rfl, hm, HS, HO, Hp, Hv⟩ := hrel
    have c0 := blk_cell Hp.out 0
    have f0 := blk_free Hp.out 0
    have hpl := blk_lt Hp.out
    simp only [List.getElem?_toArray, List.getElem?_cons_zero] at c0
    cases r with
    | nil =>
      obtain ⟨a, cap, rfl⟩ := Hv.out.nil
      have hno : Hid (Rd.num l = .error 3) := Lib.hid (by
        obtain ⟨j, _, _, _, h⟩ := HS.out
        exact num_none (by rw [h, Rd.numAt]))
      go_wp2
      exact ⟨rfl, done_bad HO.out hno.out⟩
    | cons x r =>
      obtain ⟨b, o, cap, rfl, hb, h1, h2, hx, hcap⟩ := Hv.out.uncons
      obtain ⟨j, hk, hj9, hu, hat⟩ := HS.out
      have hx256 : x.toNat < 256 := x.toNat_lt
      have hr1 : ((r.length : Int) + 1 == 0) = false := by simp; omega
      have hk63 : (k : Int) ≤ 63 := by omega
      rw [List.length_cons] at hm
      have hbl : b < wr.heap.size := by have := HO.out.size; omega
      rcases hcap with ⟨hc, hr⟩ | ⟨hc, hr⟩
      all_goals
        obtain ⟨t1, t2, t3⟩ := take_byte hB HO.out Hp.out hr
        have T1 := Lib.hid t1
        have T2 := Lib.hid t2
        have T3 := Lib.hid t3
        have HAt := Lib.hid hat
        clear t1 t2 t3 hr hat
        cases hbad : Rd.badB j x.toNat with
        | true =>
          have hno : Hid (Rd.num l = .error 3) := Lib.hid (num_none (by rw [HAt.out, numAt_bad hbad]))
          have hb2 := of_decide_eq_true hbad
          clear hbad
          by_cases h9 : j = 9 ∧ 1 < x.toNat
          · obtain ⟨h9, hx1⟩ := h9
            obtain rfl : k = 63 := by omega
            clear hk hb2 h9
            go_wp2
            exact ⟨rfl, done_bad T1.out hno.out⟩
          · have hx0 : x.toNat = 0 := by omega
            have hj0 : 0 < k := by omega
            have hxb : ((x.toNat : Int) == 0) = true := by simp [hx0]
            have hx1 : (x.toNat : Int) ≤ 1 := by omega
            by_cases h9 : j = 9
            · obtain rfl : k = 63 := by omega
              clear hk hb2 h9 hx0
              go_wp2
              exact ⟨rfl, done_bad T1.out hno.out⟩
            · have hk6 : ((k : Int) == 63) = false := by simp; omega
              clear hk hb2 h9 hx0
              go_wp2
              exact ⟨rfl, done_bad T1.out hno.out⟩
        | false =>
          have hb2 := of_decide_eq_false hbad
          have hq := or_upd j u x.toNat hj9 hu hx256 (fun h => by omega)
          rw [← hk] at hq
          have hU : Rd.upd j u x.toNat < 18446744073709551616 := by
            have e64 := pow_num
            by_cases h9 : j = 9
            · have := Rd.upd_lt9 (u := u) (x := x.toNat) (by rw [h9] at hu; exact hu) (by omega)
              rw [h9]
              omega
            · have := Nat.lt_of_lt_of_le (Rd.upd_lt (x := x.toNat) hu) (Nat.pow_le_pow_right (n := 2) (i := 7 * (j + 1)) (j := 64) (by omega) (by omega))
              omega
          have hpar := and_one (Rd.upd j u x.toNat) hU
          have hend := Lib.hid (fun h : x.toNat < 128 => num_some (HAt.out.trans (numAt_end hbad h)))
          have hnext := Lib.hid (fun h : ¬ x.toNat < 128 => (show NumSt l (k + 7) (Rd.upd j u x.toNat) r from ⟨j + 1, by omega, by omega, Rd.upd_lt hu, HAt.out.trans (numAt_next hbad h)⟩))
          generalize Rd.upd j u x.toNat = U at *
          clear hbad HAt
          have hodd := Lib.hid (fun h : U % 2 = 1 => val_odd U hU h)
          have heven := Lib.hid (fun h : ¬ U % 2 = 1 => val_even U h)
          have hbig : ¬ x.toNat < 128 → (128 : Int) ≤ x.toNat := fun h => by omega
          have hsml : x.toNat < 128 → (x.toNat : Int) < 128 := fun h => by omega
          by_cases h9 : j = 9
          · have hk6 : ((k : Int) == 63) = true := by simp; omega
            have hk0 : 0 < k := by omega
            have hx1 : x.toNat = 1 := by omega
            have hxb : ((x.toNat : Int) == 0) = false := by simp; omega
            have hx2 : (x.toNat : Int) ≤ 1 := by omega
            have hx8 : x.toNat < 128 := by omega
            have hx8i := hsml hx8
            clear hk hb2 h9 hx1 hbig hsml
            by_cases ho : U % 2 = 1
            · have hpb : (((U % 2 : Nat) : Int) == 1) = true := by simp [ho]
              have ho2 := Lib.hid ho
              clear ho
              go_wp2
              go_returns
              rw [hodd.out ho2.out]
              exact done_ok T1.out (hend.out hx8) ⟨_, T2.out, T3.out⟩
            · have hpb : (((U % 2 : Nat) : Int) == 1) = false := by simp; omega
              have ho2 := Lib.hid ho
              clear ho
              go_wp2
              go_returns
              rw [heven.out ho2.out]
              exact done_ok T1.out (hend.out hx8) ⟨_, T2.out, T3.out⟩
          · have hk6 : ((k : Int) == 63) = false := by simp; omega
            by_cases hj0 : 0 < k
            · have hxb : ((x.toNat : Int) == 0) = false := by simp; omega
              clear hk hb2 h9
              by_cases hx8 : x.toNat < 128
              · have hx8i := hsml hx8
                clear hbig hsml
                by_cases ho : U % 2 = 1
                · have hpb : (((U % 2 : Nat) : Int) == 1) = true := by simp [ho]
                  have ho2 := Lib.hid ho
                  clear ho
                  go_wp2
                  go_returns
                  rw [hodd.out ho2.out]
                  exact done_ok T1.out (hend.out hx8) ⟨_, T2.out, T3.out⟩
                · have hpb : (((U % 2 : Nat) : Int) == 1) = false := by simp; omega
                  have ho2 := Lib.hid ho
                  clear ho
                  go_wp2
                  go_returns
                  rw [heven.out ho2.out]
                  exact done_ok T1.out (hend.out hx8) ⟨_, T2.out, T3.out⟩
              · have hx8i := hbig hx8
                have hn := Lib.hid (hnext.out hx8)
                clear hbig hsml
                go_wp2
                go_roundg r.length
                case measure => omega
                case rel => exact ⟨k + 7, U, r, _, rfl, by go_num, Nat.le_refl _, hn, T1, T2, T3⟩
            · have hk0 : decide (0 < (k : Int)) = false := by simpa using hj0
              have hk1 : decide (0 < k) = false := by simpa using hj0
              clear hk hb2 h9 hj0
              by_cases hx8 : x.toNat < 128
              · have hx8i := hsml hx8
                clear hbig hsml
                by_cases ho : U % 2 = 1
                · have hpb : (((U % 2 : Nat) : Int) == 1) = true := by simp [ho]
                  have ho2 := Lib.hid ho
                  clear ho
                  go_wp2
                  go_returns
                  rw [hodd.out ho2.out]
                  exact done_ok T1.out (hend.out hx8) ⟨_, T2.out, T3.out⟩
                · have hpb : (((U % 2 : Nat) : Int) == 1) = false := by simp; omega
                  have ho2 := Lib.hid ho
                  clear ho
                  go_wp2
                  go_returns
                  rw [heven.out ho2.out]
                  exact done_ok T1.out (hend.out hx8) ⟨_, T2.out, T3.out⟩
              · have hx8i := hbig hx8
                have hn := Lib.hid (hnext.out hx8)
                clear hbig hsml
                go_wp2
                go_roundg r.length
                case measure => omega
                case rel => exact ⟨k + 7, U, r, _, rfl, by go_num, Nat.le_refl _, hn, T1, T2, T3⟩
end Go.Proofs.Ytjomajfgoaifbaa
