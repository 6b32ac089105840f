/-
  PROVED HERE: bytes of the call's own, being laid; the writing of a number in steps. No condition beyond the lemmas' own premises.
-/
import Derived.Test.YtjomajfgoaifbaaPList
namespace Go.Proofs.Ytjomajfgoaifbaa
open Go.RowKit

def byteV (x : UInt8) : Value := .int .u8 (x.toNat : Int)
/-- Bytes of the call's own, being laid. -/
def BufV (N : Nat) (w : World) (v : Value) (bs : List UInt8) : Prop := w.ownsRow N 5 1 v bs.length (bs.map byteV)

/-- Below N all is as it was, and so are all blocks that are no bytes (and no variable of bytes). -/
structure Onto (N : Nat) (w w' : World) : Prop where
  low : Below N w w'
  kept : ∀ (k : Nat) (c : Array Value) (t : TypeId), w.heap[k]? = some (.cells c t (0, 0)) → t ≠ 5 → t ≠ 33 → w'.heap[k]? = some (.cells c t (0, 0))
theorem Onto.refl (N : Nat) (w : World) : Onto N w w := ⟨Below.refl _ _, fun _ _ _ h _ _ => h⟩
theorem Onto.trans {N : Nat} {a b c : World} (h : Onto N a b) (k : Onto N b c) : Onto N a c := ⟨h.low.trans k.low, fun i c t h1 h2 h3 => k.kept i c t (h.kept i c t h1 h2 h3) h2 h3⟩
theorem Onto.alloc {N : Nat} {a b : World} (h : Onto N a b) (hN : N ≤ b.heap.size) (o : Obj) : Onto N a (b.alloc o) :=
  ⟨h.low.alloc hN o, fun i c t h1 h2 h3 => blk_alloc (h.kept i c t h1 h2 h3) o⟩
theorem Onto.grown {N n size base : Nat} {a b c : World} {v : Value} {xs : List Value} (h : Onto N a b) (hN : N ≤ b.heap.size) (hb : N ≤ base) (hown : b.ownsRow base 5 size v n xs) (hg : b.grownBy c v.ownBlock) : Onto N a c :=
  ⟨Below.grown h.low hg hN (fun k hk => by have := (hown.lt k hk).1; omega), fun i c t h1 h2 h3 => blk_grown (h.kept i c t h1 h2 h3) hg (fun e => own_ne_blk hown (h.kept i c t h1 h2 h3) (fun e' => h2 e'.symm) e.symm)⟩
theorem Onto.set33 {N p i : Nat} {a b : World} {c0 : Array Value} (h : Onto N a b) (hN : N ≤ p) (hp : b.heap[p]? = some (.cells c0 33 (0, 0))) (v : Value) : Onto N a (b.setCell ⟨p, i, none⟩ v) :=
  ⟨h.low.setCell (p := ⟨p, i, none⟩) hN v, fun k c t h1 h2 h3 => by
    have h4 := h.kept k c t h1 h2 h3
    refine blk_set_other h4 ?_ i v
    rintro rfl
    rw [h4] at hp
    cases hp
    exact h3 rfl⟩
theorem BufV.onto_alloc {N : Nat} {w : World} {v : Value} {bs : List UInt8} (h : BufV N w v bs) (o : Obj) : BufV N (w.alloc o) v bs := World.ownsRow.alloc h o
theorem BufV.nil (N : Nat) (w : World) : BufV N w (.slice none 0 0) [] := World.ownsRow_nil _ _ _ _
theorem BufV.set33 {N p i : Nat} {w : World} {v u : Value} {bs : List UInt8} {c : Array Value} (h : BufV N w v bs) (hp : w.heap[p]? = some (.cells c 33 (0, 0))) : BufV N (w.setCell ⟨p, i, none⟩ u) v bs := own_set h hp (by decide)

theorem u8_one (n : Int) : ∀ u ∈ [Value.int .u8 n], u.oneCell' = true := by
  intro u hu
  obtain rfl : u = _ := by simpa using hu
  rfl
theorem buf_info5 : (Try.prog.info? 5).map (fun i => (i.zero, i.size, i.bytes)) = some (some (.int .u8 0), 1, 1) := by kernel_rfl

namespace Rd
theorem putF_len : ∀ (k u : Nat), u < 128 ^ (k + 1) → (putF u).length ≤ k + 1 := by
  intro k
  induction k with
  | zero => intro u h; rw [putF, dif_pos (by simpa using h)]; simp
  | succ k ih =>
    intro u h
    rw [putF]
    by_cases hu : u < 128
    · rw [dif_pos hu]; simp
    · rw [dif_neg hu, List.length_cons]
      have := ih (u / 128) (by rw [Nat.div_lt_iff_lt_mul (by omega)]; rw [Nat.pow_succ] at h; exact h)
      omega
theorem putI_len {n : Int} (h : -9223372036854775808 ≤ n ∧ n ≤ 9223372036854775807) : (putI n).length ≤ 10 :=
  putF_len 9 _ (Nat.lt_of_lt_of_le (zig_lt h) (by decide))
theorem putF_more {u : Nat} (h : 128 ≤ u) : putF u = UInt8.ofNat (u % 128 + 128) :: putF (u / 128) := by rw [putF, dif_neg (by omega)]
theorem putF_last {u : Nat} (h : u < 128) : putF u = [UInt8.ofNat u] := by rw [putF, dif_pos h]
end Rd
/-- A number being written: what has been laid, what is left of it. -/
structure PutSt (bs : List UInt8) (n : Int) (U : Nat) (cs : List UInt8) : Prop where
  eq : cs ++ Rd.putF U = bs ++ Rd.putI n
  lt : U < 2 ^ 64
theorem PutSt.start {n : Int} (h : I64 n) (bs : List UInt8) : PutSt bs n (Rd.zig n) bs := ⟨rfl, Rd.zig_lt h⟩
theorem PutSt.more {bs cs : List UInt8} {n : Int} {U : Nat} (h : PutSt bs n U cs) (hU : 128 ≤ U) : PutSt bs n (U / 128) (cs ++ [UInt8.ofNat (U % 128 + 128)]) :=
  ⟨by rw [← h.eq, Rd.putF_more hU]; simp, by have := h.lt; omega⟩
theorem PutSt.last {bs cs : List UInt8} {n : Int} {U : Nat} (h : PutSt bs n U cs) (hU : U < 128) : cs ++ [UInt8.ofNat U] = bs ++ Rd.putI n := by rw [← h.eq, Rd.putF_last hU]
theorem PutSt.len {bs cs : List UInt8} {n : Int} {U : Nat} (h : PutSt bs n U cs) (hn : I64 n) : cs.length ≤ bs.length + 10 := by
  have h1 := congrArg List.length h.eq
  have := Rd.putI_len hn
  simp only [List.length_append] at h1
  omega
theorem byte_more (U : Nat) : byteV (UInt8.ofNat (U % 128 + 128)) = .int .u8 ((U : Int) % 128 + 128) := by
  unfold byteV
  rw [UInt8.toNat_ofNat']
  congr 1
  omega
theorem byte_last {U : Nat} (h : U < 128) : byteV (UInt8.ofNat U) = .int .u8 (U : Int) := by
  unfold byteV
  rw [UInt8.toNat_ofNat']
  congr 1
  omega
theorem BufV.snoc {N : Nat} {w : World} {v u : Value} {bs : List UInt8} {x : UInt8} (h : w.ownsRow N 5 1 v (bs.length + 1) (bs.map byteV ++ [u])) (hu : byteV x = u) : BufV N w v (bs ++ [x]) := by
  subst hu
  unfold BufV
  simpa using h
end Go.Proofs.Ytjomajfgoaifbaa
