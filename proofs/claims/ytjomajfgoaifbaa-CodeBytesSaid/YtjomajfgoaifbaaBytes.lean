/-
  PROVED HERE: how bytes lie in memory; small facts on the bits of a number as bytes tell it. No condition beyond the lemmas' own premises.
-/
import Derived.Test.YtjomajfgoaifbaaMem
import Derived.Test.YtjomajfgoaifbaaRows
import Derived.Test.YtjomajfgoaifbaaRd
import Derived.LoopTactic
import Derived.Outline
import Derived.Deep.QuietTactic
import Derived.BigQuiet
import Derived.Lib.Hide
import Derived.WalkSpells
import Derived.WalkLawsBesides
import Derived.IntWalk
import Derived.Handy
import Derived.Deep.LoopGhost
import Derived.Laws.Bits64b
import Derived.Laws.ShiftsVarLaws
import Derived.Laws.DeepNot64
namespace Go.Proofs.Ytjomajfgoaifbaa
open Go.RowKit

def BytesV (B : Nat) (w : World) (v : Value) (l : List UInt8) : Prop :=
  SlV B v l.length 1 fun b o => ∀ i, i < l.length → w.cell? ⟨b, o + i, none⟩ = some (.int .u8 ((l.getD i 0).toNat : Int))

theorem BytesV.below {B N : Nat} {w w' : World} {v : Value} {l : List UInt8} (h : BytesV B w v l) (hb : Below N w w') (hN : B ≤ N) : BytesV B w' v l :=
  SlV.mono h (Nat.le_refl _) fun b o hlt hc i hi => by rw [hb.cell (by show b < N; have := hlt (by omega); omega)]; exact hc i hi

theorem BytesV.nil {B : Nat} {w : World} {v : Value} (h : BytesV B w v []) : ∃ a cap, v = .slice a 0 cap := by
  obtain ⟨a, b, o, cap, rfl, _⟩ := h
  exact ⟨a, cap, rfl⟩

/-- The first byte, and what is left: 's[1:]' keeps its place where nothing is left of the array. -/
theorem BytesV.cons {B : Nat} {w : World} {v : Value} {x : UInt8} {l : List UInt8} (h : BytesV B w v (x :: l)) :
    ∃ b o cap, v = .slice (some ⟨b, o, none⟩) (l.length + 1) cap ∧ b < B ∧ l.length + 1 ≤ cap ∧ cap ≤ 9223372036854775807 ∧ w.cell? ⟨b, o, none⟩ = some (.int .u8 (x.toNat : Int)) ∧
      BytesV B w (.slice (if cap = 1 then some ⟨b, o, none⟩ else some ⟨b, o + 1, none⟩) l.length (cap - 1)) l := by
  obtain ⟨a, b, o, cap, rfl, h1, h2, h3, h4⟩ := h
  obtain ⟨rfl, hb⟩ := h3 (by simp)
  simp only [List.length_cons] at h1 h2 h4
  have h0 := h4 0 (by omega)
  refine ⟨b, o, cap, rfl, hb, h1, by omega, by simpa using h0, ?_⟩
  by_cases hc : cap = 1
  · subst hc
    have hl : l = [] := List.eq_nil_of_length_eq_zero (by omega)
    subst hl
    exact ⟨some ⟨b, o, none⟩, b, o, 0, by simp, by simp, by omega, fun h => absurd h (by simp), fun i hi => absurd hi (by simp)⟩
  · rw [if_neg hc]
    refine ⟨_, b, o + 1, cap - 1, rfl, by omega, by omega, fun _ => ⟨rfl, hb⟩, fun i hi => ?_⟩
    have := h4 (i + 1) (by omega)
    rw [List.getD_cons_succ] at this
    rw [Nat.add_assoc, Nat.add_comm 1 i]
    exact this

/-- The same, with the place of what is left named. -/
theorem BytesV.uncons {B : Nat} {w : World} {v : Value} {x : UInt8} {l : List UInt8} (h : BytesV B w v (x :: l)) :
    ∃ b o cap, v = .slice (some ⟨b, o, none⟩) (l.length + 1) cap ∧ b < B ∧ l.length + 1 ≤ cap ∧ cap ≤ 9223372036854775807 ∧ w.cell? ⟨b, o, none⟩ = some (.int .u8 (x.toNat : Int)) ∧
      ((cap = 1 ∧ BytesV B w (.slice (some ⟨b, o, none⟩) l.length 0) l) ∨ (¬ cap = 1 ∧ BytesV B w (.slice (some ⟨b, o + 1, none⟩) l.length (cap - 1)) l)) := by
  obtain ⟨b, o, cap, h1, h2, h3, h4, h5, h6⟩ := h.cons
  refine ⟨b, o, cap, h1, h2, h3, h4, h5, ?_⟩
  by_cases hc : cap = 1
  · rw [if_pos hc] at h6
    subst hc
    exact Or.inl ⟨rfl, h6⟩
  · rw [if_neg hc] at h6
    exact Or.inr ⟨hc, h6⟩

/-- One block alone may have turned. -/
structure Only (p : Nat) (w w' : World) : Prop where
  low : Below p w w'
  size : w'.heap.size = w.heap.size
  kept : ∀ k, k ≠ p → w'.heap[k]? = w.heap[k]?

theorem Only.refl (p : Nat) (w : World) : Only p w w := ⟨Below.refl _ _, rfl, fun _ _ => rfl⟩
theorem Only.trans {p : Nat} {a b c : World} (h : Only p a b) (k : Only p b c) : Only p a c :=
  ⟨h.low.trans k.low, k.size.trans h.size, fun i hi => (k.kept i hi).trans (h.kept i hi)⟩
theorem Only.set (p i : Nat) (w : World) (v : Value) : Only p w (w.setCell ⟨p, i, none⟩ v) :=
  ⟨(Below.refl p w).setCell (p := ⟨p, i, none⟩) (Nat.le_refl _) v, by simp, fun k hk => Below.heap_setCell w ⟨p, i, none⟩ v k hk⟩
theorem Only.drew {p : Nat} {a b : World} (h : Only p a b) : Only p a b.drew := ⟨h.low.drew, h.size, h.kept⟩
theorem BytesV.only {B p : Nat} {w w' : World} {v : Value} {l : List UInt8} (h : BytesV B w v l) (hb : Only p w w') (hN : B ≤ p) : BytesV B w' v l := h.below hb.low hN

/-! ### Bits -/
theorem pow_num : (2 : Nat) ^ 64 = 18446744073709551616 := by decide
theorem and127 (x : Nat) (hx : x < 256) : bits .and .u8 (x : Int) 127 = ((x % 128 : Nat) : Int) := by
  revert x
  decide +kernel

/-- What a byte adds. -/
theorem or_upd (j u x : Nat) (hj : j ≤ 9) (hu : u < 2 ^ (7 * j)) (hx : x < 256) (h9 : j = 9 → x ≤ 1) :
    bits .or .u64 (u : Int) (IntKind.u64.wrap (IntKind.u64.wrap (bits .and .u8 (x : Int) 127) * 2 ^ (7 * j))) = ((Rd.upd j u x : Nat) : Int) := by
  rw [and127 x hx]
  have e1 : IntKind.u64.wrap ((x % 128 : Nat) : Int) = ((x % 128 : Nat) : Int) := by rw [IntKind.wrap_u64]; omega
  rw [e1]
  have hlt : x % 128 * 2 ^ (7 * j) < 18446744073709551616 := by
    by_cases h : j = 9
    · subst h
      have := h9 rfl
      have e : (2 : Nat) ^ (7 * 9) = 9223372036854775808 := by decide
      rw [e, show x % 128 = x by omega]
      omega
    · have h2 : 2 ^ (7 * j) ≤ 2 ^ 56 := Nat.pow_le_pow_right (by omega) (by omega)
      have e : (2 : Nat) ^ 56 = 72057594037927936 := by decide
      rw [e] at h2
      calc x % 128 * 2 ^ (7 * j) ≤ 127 * 72057594037927936 := Nat.mul_le_mul (by omega) h2
        _ < 18446744073709551616 := by decide
  have e2 : ((x % 128 : Nat) : Int) * 2 ^ (7 * j) = ((x % 128 * 2 ^ (7 * j) : Nat) : Int) := by simp
  have e3 : IntKind.u64.wrap ((x % 128 * 2 ^ (7 * j) : Nat) : Int) = ((x % 128 * 2 ^ (7 * j) : Nat) : Int) := by
    rw [IntKind.wrap_u64]
    generalize x % 128 * 2 ^ (7 * j) = q at *
    omega
  have hu64 : u < 18446744073709551616 := by
    have h2 : 2 ^ (7 * j) ≤ 2 ^ 63 := Nat.pow_le_pow_right (by omega) (by omega)
    have e : (2 : Nat) ^ 63 = 9223372036854775808 := by decide
    rw [e] at h2
    omega
  rw [e2, e3, bits_or_u64_nat u _ hu64 hlt]
  have e4 : u ||| x % 128 * 2 ^ (7 * j) = x % 128 * 2 ^ (7 * j) + u := by
    rw [Nat.or_comm, Nat.mul_comm, Nat.two_pow_add_eq_or_of_lt hu]
  rw [e4]
  unfold Rd.upd
  rw [Nat.add_comm]

theorem and_one (u : Nat) (hu : u < 18446744073709551616) : bits .and .u64 (u : Int) 1 = ((u % 2 : Nat) : Int) := by
  have h := bits_and_u64_nat u 1 hu (by omega)
  have e : u &&& 1 = u % 2 := Nat.and_two_pow_sub_one_eq_mod u 1
  rw [e] at h
  exact h
theorem u64_not (a : Nat) (ha : a < 18446744073709551616) : bits .xor .u64 IntKind.u64.max (a : Int) = 18446744073709551615 - (a : Int) := by
  show IntKind.u64.wrap ((BitVec.ofInt 64 IntKind.u64.max ^^^ BitVec.ofInt 64 (a : Int)).toNat : Int) = _
  have h1 : BitVec.ofInt 64 IntKind.u64.max = BitVec.allOnes 64 := by decide
  rw [h1, BitVec.allOnes_xor, BitVec.toNat_not, ofInt_u64 a (by omega)]
  rw [IntKind.wrap_u64]
  simp
  omega
theorem val_odd (u : Nat) (hu : u < 18446744073709551616) (ho : u % 2 = 1) : wrap64 (bits .xor .u64 IntKind.u64.max ((u : Int) / 2)) = Rd.valOf u := by
  have e : ((u : Int) / 2) = ((u / 2 : Nat) : Int) := by omega
  rw [e, u64_not _ (by omega)]
  unfold Rd.valOf wrap64
  rw [if_pos ho]
  omega
theorem val_even (u : Nat) (ho : ¬ u % 2 = 1) : (u : Int) / 2 = Rd.valOf u := by
  unfold Rd.valOf
  rw [if_neg ho]
  omega
/-- The same, as the reference writes it. -/
theorem or_upd2 (j u x : Nat) (hj : j ≤ 9) (hu : u < 2 ^ (7 * j)) (hx : x < 256) (h9 : j = 9 → x ≤ 1) :
    bits .or .u64 (u : Int) (IntKind.u64.wrap ((x : Int) % 128 * 2 ^ (7 * j))) = ((Rd.upd j u x : Nat) : Int) := by
  have h := or_upd j u x hj hu hx h9
  rw [and127 x hx] at h
  have e1 : IntKind.u64.wrap ((x % 128 : Nat) : Int) = ((x % 128 : Nat) : Int) := by rw [IntKind.wrap_u64]; omega
  rw [e1] at h
  have e2 : (x : Int) % 128 = ((x % 128 : Nat) : Int) := by omega
  rw [e2]
  exact h
theorem upd_lt64 {j u x : Nat} (hj : j ≤ 9) (hu : u < 2 ^ (7 * j)) (h9 : j = 9 → x ≤ 1) : Rd.upd j u x < 18446744073709551616 := by
  have e64 := pow_num
  by_cases h : j = 9
  · have := Rd.upd_lt9 (u := u) (x := x) (by rw [h] at hu; exact hu) (h9 h)
    rw [h]
    omega
  · have := Nat.lt_of_lt_of_le (Rd.upd_lt (x := x) hu) (Nat.pow_le_pow_right (n := 2) (i := 7 * (j + 1)) (j := 64) (by omega) (by omega))
    omega
end Go.Proofs.Ytjomajfgoaifbaa
