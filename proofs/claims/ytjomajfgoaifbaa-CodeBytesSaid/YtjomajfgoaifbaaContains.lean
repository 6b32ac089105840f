/-
  PROVED HERE: slices.IndexFunc and slices.ContainsFunc over numbers and over orders, whatever test is handed to them. No condition beyond the lemmas' own premises.
-/
import Derived.Test.YtjomajfgoaifbaaPRange
namespace Go.Proofs.Ytjomajfgoaifbaa
open Go.RowKit

/-- A function value that tells p of what it is given (as a value: V x), in whatever world behind w. -/
def TestV {α : Type} (w : World) (V : α → Value) (i : FuncId) (cs : Array Value) (p : α → Bool) : Prop :=
  (∀ args w, (callFunc i args).run Try.prog w = .ok (.enter i args) w) ∧ ∀ (x : α) (y : Held (Above w)), Calls Try.prog i (#[V x] ++ cs) y.val fun e w' => e = .returned (.bool (p x)) ∧ Below y.val.heap.size y.val w'

theorem TestV.up {α : Type} {w w' : World} {V : α → Value} {i : FuncId} {cs : Array Value} {p : α → Bool} (h : TestV w V i cs p) (hb : Below w.heap.size w w') : TestV w' V i cs p :=
  ⟨h.1, fun x y => h.2 x ⟨y.val, hb.trans (y.prop.mono hb.size)⟩⟩

def IdxPost (any : Bool) (w : World) (e : Ending) (w' : World) : Prop := (∃ n : Int, e = .returned (.int .i64 n) ∧ decide (0 ≤ n) = any) ∧ Below w.heap.size w w'

theorem iAt_get' {l : List Int} {j : Nat} (hj : j < l.length) : iAt l j = l[j] := by simp [iAt, List.getElem?_eq_getElem hj]
theorem any_none {α : Type} {l : List α} {p : α → Bool} (h : (l.take l.length).any p = false) : l.any p = false := by rwa [List.take_length] at h
theorem any_hit {α : Type} {l : List α} {p : α → Bool} {k : Nat} (hk : k < l.length) (h : p l[k] = true) : l.any p = true := List.any_eq_true.2 ⟨l[k], List.getElem_mem hk, h⟩
theorem any_miss {α : Type} {l : List α} {p : α → Bool} {k : Nat} (hk : k < l.length) (h0 : (l.take k).any p = false) (h : p l[k] = false) : (l.take (k + 1)).any p = false := by
  rw [List.take_succ_eq_append_getElem hk, List.any_append, h0]
  simp [h]

set_option maxRecDepth 100000 in
set_option maxHeartbeats 2000000 in
theorem index_ints (B : Nat) (w : World) (v : Value) (l : List Int) (i : FuncId) (cs : Array Value) (p : Int → Bool) (hl : IntsV B w v l) (hB : B ≤ w.heap.size) (hf : TestV w (Value.int .i64) i cs p) :
    Calls Try.prog 78 #[v, .func (.func i) #[] cs] w (IdxPost (l.any p) w) := by
  obtain ⟨_, a, b, o, cap, rfl, hn, hc, ha, hcell⟩ := hl
  have Ha := Lib.hid ha
  have Hcell := Lib.hid hcell
  have hcall := hf.1
  have Hf := Lib.hid hf.2
  have hlen : l.length ≤ 17592186043904 := by omega
  clear ha hcell hf
  go_enter Try.func78, Try.ntmps78
  go_wp2
  go_loopw [8] (fun i wr => Hid (Below w.heap.size w wr) ∧ ∃ k : Nat, k ≤ l.length ∧ i = .int .i64 k ∧ Hid ((l.take k).any p = false)) (fun i _ => l.length - (intOf i).toNat)
  case atStart => exact ⟨Lib.hid (Below.refl _ _), 0, by omega, rfl, Lib.hid (by simp)⟩
  case round =>
    obtain ⟨Hbel, k, hk, rfl, Hk⟩ := hrel
    by_cases hkl : k < l.length
    · obtain ⟨rfl, hbB⟩ := Ha.out (by omega)
      have ck := (Hbel.out.cell (p := ⟨b, o + k, none⟩) (by show b < _; omega)).trans (Hcell.out k hkl)
      have hit := Lib.hid (fun h : p (iAt l k) = true => any_hit hkl (by rw [← iAt_get' hkl]; exact h))
      have miss := Lib.hid (fun h : p (iAt l k) = false => any_miss hkl Hk.out (by rw [← iAt_get' hkl]; exact h))
      generalize iAt l k = x at *
      have hcx := Lib.hid (Hf.out x ⟨wr, Hbel.out⟩)
      cases hp : p x with
      | true =>
        rw [hp] at hcx
        have hh := Lib.hid (hit.out hp)
        go_wp2_with (refine hcx.out.mono ?_; rintro e w5 ⟨rfl, hb5⟩; have HB5 := Lib.hid hb5; clear hb5)
        go_returns
        exact ⟨⟨k, rfl, by rw [hh.out]; simp⟩, Hbel.out.trans (HB5.out.mono Hbel.out.size)⟩
      | false =>
        rw [hp] at hcx
        have hh := Lib.hid (miss.out hp)
        go_wp2_with (refine hcx.out.mono ?_; rintro e w5 ⟨rfl, hb5⟩; have HB5 := Lib.hid hb5; clear hb5)
        go_roundw
        case rel => exact ⟨Lib.hid (Hbel.out.trans (HB5.out.mono Hbel.out.size)), k + 1, by omega, by go_num, hh⟩
        case measure => simp [intOf]; omega
    · obtain rfl : k = l.length := by omega
      have hh := Lib.hid (any_none Hk.out)
      go_wp2
      go_returns
      exact ⟨⟨-1, rfl, by rw [hh.out]; rfl⟩, Hbel.out⟩

set_option maxRecDepth 100000 in
theorem contains_ints (B : Nat) (w : World) (v : Value) (l : List Int) (i : FuncId) (cs : Array Value) (p : Int → Bool) (hl : IntsV B w v l) (hB : B ≤ w.heap.size) (hf : TestV w (Value.int .i64) i cs p) :
    Calls Try.prog 53 #[v, .func (.func i) #[] cs] w fun e w' => e = .returned (.bool (l.any p)) ∧ Below w.heap.size w w' := by
  have Hl := Lib.hid hl
  have Hf := Lib.hid hf
  clear hl hf
  go_enter Try.func53, Try.ntmps53
  go_wp2_with (go_at_call 78; refine (index_ints B _ _ l i cs p Hl.out hB Hf.out).mono ?_; rintro e w5 ⟨⟨n, rfl, hn⟩, hb5⟩; have HB5 := Lib.hid hb5; have Hn := Lib.hid hn; clear hb5 hn)
  go_returns
  rw [← Hn.out]
  exact ⟨by simp, HB5.out⟩

def opV (o : Cd.GOp) : Value := .agg #[.int .i64 o.d, .int .i64 o.a, .int .i64 o.b]

set_option maxRecDepth 100000 in
set_option maxHeartbeats 2000000 in
theorem index_ops (B : Nat) (w : World) (v : Value) (l : List Cd.GOp) (i : FuncId) (cs : Array Value) (p : Cd.GOp → Bool) (hl : OpsV B w v l) (hB : B ≤ w.heap.size) (hf : TestV w opV i cs p) :
    Calls Try.prog 79 #[v, .func (.func i) #[] cs] w (IdxPost (l.any p) w) := by
  obtain ⟨_, a, b, o, cap, rfl, hn, hc, ha, hcell⟩ := hl
  have Ha := Lib.hid ha
  have Hcell := Lib.hid hcell
  have hcall := hf.1
  have Hf := Lib.hid hf.2
  have hlen : l.length ≤ 17592186043904 := by omega
  clear ha hcell hf
  go_enter Try.func79, Try.ntmps79
  go_wp2
  go_loopw [8] (fun i wr => Hid (Below w.heap.size w wr) ∧ ∃ k : Nat, k ≤ l.length ∧ i = .int .i64 k ∧ Hid ((l.take k).any p = false)) (fun i _ => l.length - (intOf i).toNat)
  case atStart => exact ⟨Lib.hid (Below.refl _ _), 0, by omega, rfl, Lib.hid (by simp)⟩
  case round =>
    obtain ⟨Hbel, k, hk, rfl, Hk⟩ := hrel
    by_cases hkl : k < l.length
    · obtain ⟨rfl, hbB⟩ := Ha.out (by omega)
      obtain ⟨q1, q2, q3⟩ := Hcell.out k hkl
      have c1 := (Hbel.out.cell (p := ⟨b, o + k * 3, none⟩) (by show b < _; omega)).trans q1
      have c2 := (Hbel.out.cell (p := ⟨b, o + k * 3 + 1, none⟩) (by show b < _; omega)).trans q2
      have c3 := (Hbel.out.cell (p := ⟨b, o + k * 3 + 2, none⟩) (by show b < _; omega)).trans q3
      have e1 : l.getD k ⟨0, 0, 0⟩ = l[k] := by simp [List.getElem?_eq_getElem hkl]
      rw [e1] at c1 c2 c3
      have hit := Lib.hid (fun h : p l[k] = true => any_hit hkl h)
      have miss := Lib.hid (fun h : p l[k] = false => any_miss hkl Hk.out h)
      clear q1 q2 q3 e1
      generalize l[k] = x at *
      have hcx := Lib.hid (Hf.out x ⟨wr, Hbel.out⟩)
      unfold opV at hcx
      cases hp : p x with
      | true =>
        rw [hp] at hcx
        have hh := Lib.hid (hit.out hp)
        go_wp2_with (refine hcx.out.mono ?_; rintro e w5 ⟨rfl, hb5⟩; have HB5 := Lib.hid hb5; clear hb5)
        go_returns
        exact ⟨⟨k, rfl, by rw [hh.out]; simp⟩, Hbel.out.trans (HB5.out.mono Hbel.out.size)⟩
      | false =>
        rw [hp] at hcx
        have hh := Lib.hid (miss.out hp)
        go_wp2_with (refine hcx.out.mono ?_; rintro e w5 ⟨rfl, hb5⟩; have HB5 := Lib.hid hb5; clear hb5)
        go_roundw
        case rel => exact ⟨Lib.hid (Hbel.out.trans (HB5.out.mono Hbel.out.size)), k + 1, by omega, by go_num, hh⟩
        case measure => simp [intOf]; omega
    · obtain rfl : k = l.length := by omega
      have hh := Lib.hid (any_none Hk.out)
      go_wp2
      go_returns
      exact ⟨⟨-1, rfl, by rw [hh.out]; rfl⟩, Hbel.out⟩

set_option maxRecDepth 100000 in
theorem contains_ops (B : Nat) (w : World) (v : Value) (l : List Cd.GOp) (i : FuncId) (cs : Array Value) (p : Cd.GOp → Bool) (hl : OpsV B w v l) (hB : B ≤ w.heap.size) (hf : TestV w opV i cs p) :
    Calls Try.prog 56 #[v, .func (.func i) #[] cs] w fun e w' => e = .returned (.bool (l.any p)) ∧ Below w.heap.size w w' := by
  have Hl := Lib.hid hl
  have Hf := Lib.hid hf
  clear hl hf
  go_enter Try.func56, Try.ntmps56
  go_wp2_with (go_at_call 79; refine (index_ops B _ _ l i cs p Hl.out hB Hf.out).mono ?_; rintro e w5 ⟨⟨n, rfl, hn⟩, hb5⟩; have HB5 := Lib.hid hb5; have Hn := Lib.hid hn; clear hb5 hn)
  go_returns
  rw [← Hn.out]
  exact ⟨by simp, HB5.out⟩
end Go.Proofs.Ytjomajfgoaifbaa
