/-
  PROVED HERE: the reference's ints and Same say yes of two that hold the same. No condition beyond the lemmas' own premises.
-/
import Derived.Test.YtjomajfgoaifbaaMem
import Derived.Test.YtjomajfgoaifbaaRows
import Derived.LoopTactic
import Derived.Outline
import Derived.Deep.QuietTactic
import Derived.BigQuiet
import Derived.Lib.Hide
import Derived.WalkSpells
import Derived.WalkLawsBesides
import Derived.IntWalk
import Derived.Handy
namespace Go.Proofs.Ytjomajfgoaifbaa
open Go.RowKit

set_option maxRecDepth 100000 in
set_option maxHeartbeats 1000000 in
theorem ints_same (B : Nat) (w : World) (v u : Value) (l : List Int) (hv : IntsV B w v l) (hu : IntsV B w u l) (_hB : B ≤ w.heap.size) :
    Calls Try.prog 32 #[v, u] w fun e w' => e = .returned (.bool true) ∧ ∃ n, w' = w.drewN n := by
  obtain ⟨_, a, b, o, cap, rfl, h1, ⟨h2, h3⟩, h4, h5⟩ := hv
  obtain ⟨_, a', b', o', cap', rfl, g1, ⟨g2, g3⟩, g4, g5⟩ := hu
  have H4 := Lib.hid h4
  have H5 := Lib.hid h5
  have G4 := Lib.hid g4
  have G5 := Lib.hid g5
  clear h4 h5 g4 g5
  go_enter Try.func32, Try.ntmps32
  go_wp2
  go_loopw [5] (fun i wr => ∃ k : Nat, k ≤ l.length ∧ i = .int .i64 k ∧ Hid (∃ n, wr = w.drewN n)) (fun i _ => l.length - (intOf i).toNat)
  case atStart => exact ⟨0, by omega, rfl, Lib.hid ⟨0, rfl⟩⟩
  case round =>
    obtain ⟨k, hk, rfl, Hn⟩ := hrel
    have Hd : Hid (∀ m, ∃ n, wr.drewN m = w.drewN n) := Lib.hid fun m => by obtain ⟨n, e⟩ := Hn.out; exact ⟨n + m, by rw [e, World.drewN_drewN]⟩
    have hceq : ∀ a, wr.cell? a = w.cell? a := fun a => by obtain ⟨n, e⟩ := Hn.out; rw [e]; rfl
    by_cases hlt : k < l.length
    · obtain ⟨rfl, hb⟩ := H4.out (by omega)
      obtain ⟨rfl, hb'⟩ := G4.out (by omega)
      have x1 := (hceq _).trans (H5.out k hlt)
      have x2 := (hceq _).trans (G5.out k hlt)
      have hi0 : (0 : Int) ≤ (k : Int) := by omega
      have hi1 : (k : Int) < (l.length : Int) := by omega
      clear hceq
      generalize iAt l k = x at *
      go_wp2_with fail
      go_quiet (fail)
      go_wp2
      go_roundw
      case rel => exact ⟨k + 1, by omega, by go_num, Lib.hid (Hd.out _)⟩
      case measure => simp [intOf]; omega
    · obtain rfl : k = l.length := by omega
      clear hceq
      go_wp2
      go_returns
      exact ⟨rfl, Hd.out 0⟩
theorem OpsV.at' {B : Nat} {w : World} {v : Value} {l : List Cd.GOp} {i : Nat} (h : OpsV B w v l) (hi : i < l.length) : ∃ b o cap, v = .slice (some ⟨b, o, none⟩) l.length cap ∧ b < B ∧ l.length * 24 ≤ 140737488351232 ∧ w.cell? ⟨b, o + i * 3, none⟩ = some (.int .i64 (l.getD i ⟨0, 0, 0⟩).d) ∧ w.cell? ⟨b, o + i * 3 + 1, none⟩ = some (.int .i64 (l.getD i ⟨0, 0, 0⟩).a) ∧ w.cell? ⟨b, o + i * 3 + 2, none⟩ = some (.int .i64 (l.getD i ⟨0, 0, 0⟩).b) := by
  obtain ⟨_, a, b, o, cap, rfl, h1, ⟨h2, h3⟩, h4, h5⟩ := h
  obtain ⟨rfl, hb⟩ := h4 (by omega)
  obtain ⟨c1, c2, c3⟩ := h5 i hi
  exact ⟨b, o, cap, rfl, hb, h2, c1, c2, c3⟩
theorem FnsV.at' {B : Nat} {w : World} {v : Value} {l : List Cd.GFn} {i : Nat} (h : FnsV B w v l) (hi : i < l.length) : ∃ b o cap u, v = .slice (some ⟨b, o, none⟩) l.length cap ∧ b < B ∧ l.length * 48 ≤ 140737488351232 ∧ w.cell? ⟨b, o + i * 4, none⟩ = some (.int .i64 (l.getD i ⟨0, 0, 0, []⟩).params) ∧ w.cell? ⟨b, o + i * 4 + 1, none⟩ = some (.int .i64 (l.getD i ⟨0, 0, 0, []⟩).slots) ∧
    w.cell? ⟨b, o + i * 4 + 2, none⟩ = some (.int .i64 (l.getD i ⟨0, 0, 0, []⟩).start) ∧ w.cell? ⟨b, o + i * 4 + 3, none⟩ = some u ∧ IntsV B w u (l.getD i ⟨0, 0, 0, []⟩).takes := by
  obtain ⟨_, a, b, o, cap, rfl, h1, ⟨h2, h3⟩, h4, h5⟩ := h
  obtain ⟨rfl, hb⟩ := h4 (by omega)
  obtain ⟨c1, c2, c3, u, c4, c5⟩ := h5 i hi
  exact ⟨b, o, cap, u, rfl, hb, h2, c1, c2, c3, c4, c5⟩
theorem KindsV.at' {B : Nat} {w : World} {v : Value} {l : List (List Int)} {i : Nat} (h : KindsV B w v l) (hi : i < l.length) : ∃ b o cap u, v = .slice (some ⟨b, o, none⟩) l.length cap ∧ b < B ∧ l.length * 24 ≤ 140737488351232 ∧ w.cell? ⟨b, o + i, none⟩ = some u ∧ IntsV B w u (l.getD i []) := by
  obtain ⟨a, b, o, cap, rfl, h1, ⟨h2, h3⟩, h4, h5⟩ := h
  obtain ⟨rfl, hb⟩ := h4 (by omega)
  obtain ⟨u, c4, c5⟩ := h5 i hi
  exact ⟨b, o, cap, u, rfl, hb, h2, c4, c5⟩
theorem IntsV.lit {B : Nat} {w : World} {v : Value} {l : List Int} (h : IntsV B w v l) : ∃ a cap, v = .slice a l.length cap := by
  obtain ⟨_, a, b, o, cap, rfl, _⟩ := h
  exact ⟨a, cap, rfl⟩

/-- What Same reads as it goes. -/
structure SmSt (n B : Nat) (w wr : World) (vo vf vk uo uf uk : Value) (C : Cd.GCode) : Prop where
  a0 : wr.cell? ⟨n, 0, none⟩ = some vo
  a1 : wr.cell? ⟨n, 1, none⟩ = some vf
  a2 : wr.cell? ⟨n, 2, none⟩ = some vk
  b0 : wr.cell? ⟨n + 1, 0, none⟩ = some uo
  b1 : wr.cell? ⟨n + 1, 1, none⟩ = some uf
  b2 : wr.cell? ⟨n + 1, 2, none⟩ = some uk
  ca : CodeV B wr vo vf vk C
  cb : CodeV B wr uo uf uk C
  bel : Below n w wr
  lt : n + 1 < wr.heap.size
theorem SmSt.step {n B : Nat} {w wr wx : World} {vo vf vk uo uf uk : Value} {C : Cd.GCode} (h : SmSt n B w wr vo vf vk uo uf uk C) (hB : B ≤ n) (hb : Below wr.heap.size wr wx) : SmSt n B w wx vo vf vk uo uf uk C := by
  have hl := h.lt
  have hs := hb.size
  have k : ∀ b o, b ≤ n + 1 → wx.cell? ⟨b, o, none⟩ = wr.cell? ⟨b, o, none⟩ := fun b o hbn => hb.cell (p := ⟨b, o, none⟩) (by show b < _; omega)
  exact ⟨(k _ _ (by omega)).trans h.a0, (k _ _ (by omega)).trans h.a1, (k _ _ (by omega)).trans h.a2, (k _ _ (by omega)).trans h.b0, (k _ _ (by omega)).trans h.b1, (k _ _ (by omega)).trans h.b2, h.ca.below hb (by omega), h.cb.below hb (by omega), h.bel.trans (hb.mono (by omega)), by omega⟩

set_option maxRecDepth 100000 in
set_option maxHeartbeats 4000000 in
theorem same_any (B : Nat) (w : World) (vo vf vk uo uf uk : Value) (C : Cd.GCode) (ha : CodeV B w vo vf vk C) (hb : CodeV B w uo uf uk C) (hB : B ≤ w.heap.size) :
    Calls Try.prog 12 #[.agg #[vo, vf, vk], .agg #[uo, uf, uk]] w fun e w' => e = .returned (.bool true) ∧ Below w.heap.size w w' := by
  have hW : Below w.heap.size w ((w.alloc (.cells #[vo, vf, vk] 30)).alloc (.cells #[uo, uf, uk] 30)) := by go_grown
  have hS : SmSt w.heap.size B w ((w.alloc (.cells #[vo, vf, vk] 30)).alloc (.cells #[uo, uf, uk] 30)) vo vf vk uo uf uk C := by
    have e1 := blk_alloc (blk_new w (.cells #[vo, vf, vk] 30)) (.cells #[uo, uf, uk] 30)
    have e2 : ((w.alloc (.cells #[vo, vf, vk] 30)).alloc (.cells #[uo, uf, uk] 30)).heap[w.heap.size + 1]? = some (.cells #[uo, uf, uk] 30 (0, 0)) := by
      have := blk_new (w.alloc (.cells #[vo, vf, vk] 30)) (.cells #[uo, uf, uk] 30)
      simpa using this
    exact ⟨by rw [blk_cell e1]; rfl, by rw [blk_cell e1]; rfl, by rw [blk_cell e1]; rfl, by rw [blk_cell e2]; rfl, by rw [blk_cell e2]; rfl, by rw [blk_cell e2]; rfl, ha.below hW hB, hb.below hW hB, hW, by simp⟩
  have HS := Lib.hid hS
  obtain ⟨q1, ao, bo, oo, co, rfl, q2, q3, q4, q5⟩ := ha.ops
  obtain ⟨q6, af, bf, of_, cf, rfl, q7, q8, q9, q10⟩ := ha.fns
  obtain ⟨ak, bk, ok, ck, rfl, q11, q12, q13, q14⟩ := ha.kinds
  obtain ⟨r1, ao', bo', oo', co', rfl, r2, r3, r4, r5⟩ := hb.ops
  obtain ⟨r6, af', bf', of', cf', rfl, r7, r8, r9, r10⟩ := hb.fns
  obtain ⟨ak', bk', ok', ck', rfl, r11, r12, r13, r14⟩ := hb.kinds
  clear ha hb hW hS q1 q4 q5 q6 q9 q10 q13 q14 r1 r4 r5 r6 r9 r10 r13 r14
  go_enter Try.func12, Try.ntmps12
  go_wp2
  generalize ((w.alloc (.cells #[.slice ao C.ops.length co, .slice af C.fns.length cf, .slice ak C.kinds.length ck] 30)).alloc (.cells #[.slice ao' C.ops.length co', .slice af' C.fns.length cf', .slice ak' C.kinds.length ck'] 30)) = W1 at *
  go_loopw [5] (fun i wr => ∃ k : Nat, k ≤ C.ops.length ∧ i = .int .i64 k ∧ Hid (SmSt w.heap.size B w wr (.slice ao C.ops.length co) (.slice af C.fns.length cf) (.slice ak C.kinds.length ck) (.slice ao' C.ops.length co') (.slice af' C.fns.length cf') (.slice ak' C.kinds.length ck') C)) (fun i _ => C.ops.length - (intOf i).toNat)
  case atStart => exact ⟨0, by omega, rfl, HS⟩
  case round =>
    clear HS
    obtain ⟨k, hk, rfl, HS⟩ := hrel
    have a0 := HS.out.a0
    have b0 := HS.out.b0
    by_cases hlt : k < C.ops.length
    · obtain ⟨cb1, cb2, cb3, e1, hbB, hlen, x1, x2, x3⟩ := HS.out.ca.ops.at' hlt
      cases e1
      obtain ⟨db1, db2, db3, e1, hbB', hlen', y1, y2, y3⟩ := HS.out.cb.ops.at' hlt
      cases e1
      have hi0 : (0 : Int) ≤ (k : Int) := by omega
      have hi1 : (k : Int) < (C.ops.length : Int) := by omega
      generalize C.ops.getD k ⟨0, 0, 0⟩ = x at *
      go_wp2_with fail
      go_quiet (fail)
      go_wp2
      go_roundw
      case rel => exact ⟨k + 1, by omega, by go_num, Lib.hid (HS.out.step hB ⟨rfl, rfl, rfl, Nat.le_refl _, fun _ _ => rfl⟩)⟩
      case measure => simp [intOf]; omega
    · obtain rfl : k = C.ops.length := by omega
      obtain ⟨wo, rfl⟩ : ∃ wo : World, wo = wr := ⟨_, rfl⟩
      go_wp2
      go_loopw [6] (fun i wr => ∃ k : Nat, k ≤ C.fns.length ∧ i = .int .i64 k ∧ Hid (SmSt w.heap.size B w wr (.slice ao C.ops.length co) (.slice af C.fns.length cf) (.slice ak C.kinds.length ck) (.slice ao' C.ops.length co') (.slice af' C.fns.length cf') (.slice ak' C.kinds.length ck') C)) (fun i _ => C.fns.length - (intOf i).toNat)
      case atStart => exact ⟨0, by omega, rfl, HS⟩
      case round =>
        clear HS a0 b0
        obtain ⟨k, hk, rfl, HS⟩ := hrel
        have a1 := HS.out.a1
        have b1 := HS.out.b1
        have hlt' := HS.out.lt
        by_cases hlt : k < C.fns.length
        · obtain ⟨cb1, cb2, cb3, u1, e1, hbB, hlen, x1, x2, x3, x4, hu1⟩ := HS.out.ca.fns.at' hlt
          cases e1
          obtain ⟨db1, db2, db3, u2, e1, hbB', hlen', y1, y2, y3, y4, hu2⟩ := HS.out.cb.fns.at' hlt
          cases e1
          have hi0 : (0 : Int) ≤ (k : Int) := by omega
          have hi1 : (k : Int) < (C.fns.length : Int) := by omega
          have hl1 : cb1 < wr.heap.size := by omega
          have hl2 : db1 < wr.heap.size := by omega
          generalize C.fns.getD k ⟨0, 0, 0, []⟩ = f at *
          obtain ⟨ua, uc, rfl⟩ := hu1.lit
          obtain ⟨ua', uc', rfl⟩ := hu2.lit
          have hX : Below wr.heap.size wr ((wr.alloc (.cells #[.int .i64 f.params, .int .i64 f.slots, .int .i64 f.start, .slice ua f.takes.length uc] 61)).alloc (.cells #[.int .i64 f.params, .int .i64 f.slots, .int .i64 f.start, .slice ua' f.takes.length uc'] 61)) := by go_grown
          have U1 := Lib.hid (hu1.below hX (by omega))
          have U2 := Lib.hid (hu2.below hX (by omega))
          have HX := Lib.hid hX
          clear hu1 hu2 hX
          go_wp2_with fail
          refine (ints_same B _ _ _ _ U1.out U2.out (by simp; omega)).mono ?_
          rintro e w5 ⟨rfl, n, rfl⟩
          go_wp2
          go_roundw
          case rel => exact ⟨k + 1, by omega, by go_num, Lib.hid (HS.out.step hB ⟨HX.out.os, HX.out.tape, HX.out.output, HX.out.size, HX.out.block⟩)⟩
          case measure => simp [intOf]; omega
        · obtain rfl : k = C.fns.length := by omega
          obtain ⟨wo2, rfl⟩ : ∃ wo2 : World, wo2 = wr := ⟨_, rfl⟩
          go_wp2
          go_loopw [10] (fun i wr => ∃ k : Nat, k ≤ C.kinds.length ∧ i = .int .i64 k ∧ Hid (SmSt w.heap.size B w wr (.slice ao C.ops.length co) (.slice af C.fns.length cf) (.slice ak C.kinds.length ck) (.slice ao' C.ops.length co') (.slice af' C.fns.length cf') (.slice ak' C.kinds.length ck') C)) (fun i _ => C.kinds.length - (intOf i).toNat)
          case atStart => exact ⟨0, by omega, rfl, HS⟩
          case round =>
            clear HS a1 b1
            obtain ⟨k, hk, rfl, HS⟩ := hrel
            have a2 := HS.out.a2
            have b2 := HS.out.b2
            have hlt' := HS.out.lt
            by_cases hlt : k < C.kinds.length
            · obtain ⟨cb1, cb2, cb3, u1, e1, hbB, hlen, x1, hu1⟩ := HS.out.ca.kinds.at' hlt
              cases e1
              obtain ⟨db1, db2, db3, u2, e1, hbB', hlen', y1, hu2⟩ := HS.out.cb.kinds.at' hlt
              cases e1
              have hi0 : (0 : Int) ≤ (k : Int) := by omega
              have hi1 : (k : Int) < (C.kinds.length : Int) := by omega
              generalize C.kinds.getD k [] = l at *
              have U1 : Hid (∀ n, IntsV B (wr.drewN n) u1 l) := Lib.hid fun n => hu1.below (N := B) ⟨rfl, rfl, rfl, Nat.le_refl _, fun _ _ => rfl⟩ (Nat.le_refl _)
              have U2 : Hid (∀ n, IntsV B (wr.drewN n) u2 l) := Lib.hid fun n => hu2.below (N := B) ⟨rfl, rfl, rfl, Nat.le_refl _, fun _ _ => rfl⟩ (Nat.le_refl _)
              have hBs : Hid (∀ n, B ≤ (wr.drewN n).heap.size) := Lib.hid fun n => by show B ≤ wr.heap.size; omega
              clear hu1 hu2
              go_wp2_with fail
              go_quiet ((go_at_call 32; exact Calls.quiet_of (ints_same B _ _ _ _ (U1.out _) (U2.out _) (hBs.out _))))
              go_wp2
              go_roundw
              case rel => exact ⟨k + 1, by omega, by go_num, Lib.hid (HS.out.step hB ⟨rfl, rfl, rfl, Nat.le_refl _, fun _ _ => rfl⟩)⟩
              case measure => simp [intOf]; omega
            · obtain rfl : k = C.kinds.length := by omega
              go_wp2
              go_returns
              exact ⟨rfl, HS.out.bel⟩
end Go.Proofs.Ytjomajfgoaifbaa
