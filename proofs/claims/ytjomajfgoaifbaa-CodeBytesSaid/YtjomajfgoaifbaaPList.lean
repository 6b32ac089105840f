/-
  PROVED HERE: what the program's reader makes of bytes: a list of so many numbers. No condition beyond the lemmas' own premises.
-/
import Derived.Test.YtjomajfgoaifbaaRdRows
namespace Go.Proofs.Ytjomajfgoaifbaa
open Go.RowKit

theorem rd_info3 : (Try.prog.info? 3).map (fun i => (i.zero, i.size, i.bytes)) = some (some (.int .i64 0), 1, 8) := by kernel_rfl
theorem rd_int_one (n : Int) : ∀ u ∈ [Value.int .i64 n], u.oneCell' = true := by
  intro u hu
  obtain rfl : u = _ := by simpa using hu
  rfl

theorem RdAt.only {B p : Nat} {w w' : World} {l : List UInt8} (h : RdAt B p l w) (hp : w'.heap[p]? = w.heap[p]?) (hb : Below p w w') (hB : B ≤ p) : RdAt B p l w' := by
  obtain ⟨v, h1, h2⟩ := h
  exact ⟨v, hp.trans h1, h2.below hb hB⟩
theorem RdAt.lt {B p : Nat} {w : World} {l : List UInt8} (h : RdAt B p l w) : p < w.heap.size := by
  obtain ⟨v, h1, h2⟩ := h
  exact blk_lt h1
theorem RdAt.blk {B p : Nat} {w : World} {l : List UInt8} (h : RdAt B p l w) : ∃ c, w.heap[p]? = some (.cells c 74 (0, 0)) := by
  obtain ⟨v, h1, h2⟩ := h
  exact ⟨_, h1⟩

/-- A row of the call's own grown by what a block that was just made holds: the reader stays. -/
theorem But.grown {p base e size n : Nat} {w w1 w2 : World} {v : Value} {xs : List Value} {o : Obj} (h : But p w w1) (hp : p ≤ w.heap.size) (hown : w1.ownsRow base e size v n xs) (hbase : w.heap.size ≤ base) (hg : (w1.alloc o).grownBy w2 v.ownBlock) : But p w w2 := by
  have hs := h.low.size
  refine ⟨Below.grown (h.low.alloc (by omega) o) hg (by simp; omega) (fun k hk => by have := (hown.lt k hk).1; omega), fun k hk hne => ?_⟩
  refine ((hg.block k (by simp; omega) (fun e => by have := (hown.lt k e.symm).1; omega)).trans (Below.heap_alloc _ _ _ (by omega))).trans (h.kept k hk hne)
theorem RdAt.grown {B p base e size n : Nat} {w1 w2 : World} {v : Value} {xs : List Value} {l : List UInt8} {o : Obj} (h : RdAt B p l w1) (hB : B ≤ p) (hown : w1.ownsRow base e size v n xs) (hne : e ≠ 74) (hbase : p ≤ base) (hg : (w1.alloc o).grownBy w2 v.ownBlock) : RdAt B p l w2 := by
  obtain ⟨v0, h1, h2⟩ := h
  have hl := blk_lt h1
  refine ⟨v0, blk_grown (blk_alloc h1 o) hg (fun e => own_ne_blk hown h1 hne e.symm), h2.below (Below.grown ((Below.refl p w1).alloc (by omega) o) hg (by simp; omega) (fun k hk => by have := (hown.lt k hk).1; omega)) hB⟩

/-- What reading a list leaves. -/
def LsPost (B p : Nat) (x : Except Int (List Int × List UInt8)) (w : World) (e : Ending) (w' : World) : Prop :=
  But p w w' ∧ ((∃ c, x = .error c ∧ e = thrown c) ∨ ∃ xs r u, x = .ok (xs, r) ∧ e = .returned u ∧ RdAt B p r w' ∧ Own3 w' u xs)

set_option maxRecDepth 100000 in
set_option maxHeartbeats 1000000 in
theorem plist_any (B p n : Nat) (w : World) (l : List UInt8) (hp : RdAt B p l w) (hB : B ≤ p) (hn : n ≤ 10000) :
    Calls Try.prog 29 #[.pointer (some ⟨p, 0, none⟩), .int .i64 n] w (LsPost B p (Rd.rep Rd.num n l) w) := by
  have HP := Lib.hid hp
  have hpl := hp.lt
  obtain ⟨i0, hi, hz0, hz1, hz2⟩ := info_parts rd_info3
  clear hp
  go_enter Try.func29, Try.ntmps29
  go_wp2
  go_loopw [5, 7] (fun v i wr => ∃ (k : Nat) (xs : List Int) (r : List UInt8), k ≤ n ∧ i = .int .i64 k ∧ Hid (Rd.rep Rd.num k l = .ok (xs, r)) ∧ Hid (RdAt B p r wr) ∧ Hid (But p w wr) ∧ Hid (wr.ownsRow w.heap.size 3 1 v k (xs.map (Value.int .i64))) ∧ Hid (∀ x ∈ xs, I64 x)) (fun _ i _ => n - (intOf i).toNat)
  case atStart => exact ⟨0, [], l, by omega, rfl, Lib.hid rfl, HP, Lib.hid (But.refl _ _), Lib.hid (World.ownsRow_nil _ _ _ _), Lib.hid (fun x h => by simp at h)⟩
  case round =>
    clear HP
    obtain ⟨k, xs, r, hk, rfl, HX, HR, HBt, HO, HI⟩ := hrel
    by_cases hlt : k < n
    · go_wp2_with fail
      refine (pnum_any B p wr r HR.out hB).mono ?_
      rintro e w1 ⟨ho, ⟨c, hc, rfl⟩ | ⟨x, r', hx, rfl, hr⟩⟩
      · have HE : Hid (Rd.rep Rd.num n l = .error c) := Lib.hid (Rd.rep_error (k := k + 1) (by rw [Rd.rep_succ HX.out, hc]) (by omega))
        have HB1 := Lib.hid (HBt.out.trans ho.but)
        clear ho hc
        unfold thrown
        go_wp2
        exact ⟨rfl, HB1.out, Or.inl ⟨c, HE.out, rfl⟩⟩
      · have HE : Hid (Rd.rep Rd.num (k + 1) l = .ok (xs ++ [x], r')) := Lib.hid (by rw [Rd.rep_succ HX.out, hx])
        have hxb := Rd.num_bd hx
        have HB1 := Lib.hid (HBt.out.trans ho.but)
        obtain ⟨c0, hp0⟩ := HR.out.blk
        have hown := own_but HO.out ho.but hp0 (by decide)
        have HO1 := Lib.hid hown
        have HR1 := Lib.hid hr
        have hsz : w.heap.size ≤ w1.heap.size := HB1.out.low.size
        have hp1 : w.heap.size ≤ (w1.alloc (.cells #[.int .i64 x] 3)).heap.size := by simp; omega
        clear ho hx hown hr hp0
        go_wp2_with (at_builtin; refine wpList_append_own _ rfl _ _ 24 rfl w.heap.size 3 i0 (.int .i64 0) 1 8 Try.underlying24 hi hz0 hz1 hz2 rfl (by decide) _ _ _ rfl (HO1.out.alloc _) ⟨w1.heap.size, 0, none⟩ 1 1 [.int .i64 x] rfl rfl ?c1 (rd_int_one _) ?c3 ?c4 hp1 ?_; rotate_right; intro v' w2 hown' hgrow hnil; have HG := Lib.hid hgrow; have HO2 := Lib.hid hown'; clear hgrow hown' hnil)
        case c1 => exact cell_one_new _ _ _
        case c3 => unfold maxLen; omega
        case c4 => omega
        go_roundw
        case rel =>
          refine ⟨k + 1, xs ++ [x], r', by omega, by go_num, HE, Lib.hid (HR1.out.grown hB HO1.out (by decide) (by omega) HG.out), Lib.hid (HB1.out.grown (by omega) HO1.out (Nat.le_refl _) HG.out), Lib.hid (by simpa using HO2.out), Lib.hid ?_⟩
          intro y hy
          rcases List.mem_append.1 hy with hy | hy
          · exact HI.out y hy
          · rw [List.mem_singleton.1 hy]; exact hxb
        case measure => simp [intOf]; omega
    · obtain rfl : k = n := by omega
      go_wp2
      go_returns
      refine ⟨HBt.out, Or.inr ⟨xs, r, _, HX.out, rfl, HR.out, ⟨?_, HI.out, by rw [Rd.rep_length HX.out]; exact hn⟩⟩⟩
      have hl := Rd.rep_length HX.out
      rw [hl]
      exact own_lower HO.out (Nat.zero_le _)
end Go.Proofs.Ytjomajfgoaifbaa
