/-
  PROVED HERE: the program's ranges tells whether all numbers of code may be. No condition beyond the lemmas' own premises.
-/
import Derived.Test.YtjomajfgoaifbaaContains
import Derived.Test.YtjomajfgoaifbaaRCheck
namespace Go.Proofs.Ytjomajfgoaifbaa
open Go.RowKit

theorem PredV.call0 {r no nf nk : Nat} {i : FuncId} {p : Int → Bool} (h : PredV r no nf nk i #[] p) (ao af ak : Option Addr) (co cf ck : Nat) (x : Int) (w : World) (hT : TabAt r w) :
    Calls Try.prog i #[.agg #[.slice ao no co, .slice af nf cf, .slice ak nk ck], .int .i64 x] w fun e w' => e = .returned (.bool (p x)) ∧ Below w.heap.size w w' := by
  have := h.2 ao af ak co cf ck x w hT
  rwa [Array.append_empty] at this

/-- The checker lies in block p (the code's three slices known by their lengths), a pointer to it in block cb, the table in r. -/
structure ChkAt (r no nf nk p cb : Nat) (ao af ak : Option Addr) (co cf ck : Nat) (vd vw : Value) (w : World) : Prop where
  tab : TabAt r w
  chk : w.heap[p]? = some (.cells #[.slice ao no co, .slice af nf cf, .slice ak nk ck, .map (some r), vd, vw] 59 (0, 0))
  box : w.heap[cb]? = some (.cells #[.pointer (some ⟨p, 0, none⟩)] 55 (0, 0))

section
variable {r no nf nk p cb : Nat} {ao af ak : Option Addr} {co cf ck : Nat} {vd vw : Value} {w : World}

theorem ChkAt.grow {w' : World} (h : ChkAt r no nf nk p cb ao af ak co cf ck vd vw w) (hb : Below w.heap.size w w') : ChkAt r no nf nk p cb ao af ak co cf ck vd vw w' :=
  ⟨h.tab.grow hb, blk_below h.chk hb (blk_lt h.chk), blk_below h.box hb (blk_lt h.box)⟩

theorem ChkAt.look (h : ChkAt r no nf nk p cb ao af ak co cf ck vd vw w) : w.cell? ⟨p, 0, none⟩ = some (.slice ao no co) ∧ w.cell? ⟨p, 1, none⟩ = some (.slice af nf cf) ∧ w.cell? ⟨p, 2, none⟩ = some (.slice ak nk ck) ∧ w.cell? ⟨cb, 0, none⟩ = some (.pointer (some ⟨p, 0, none⟩)) ∧ p < w.heap.size ∧ cb < w.heap.size :=
  ⟨by rw [blk_cell h.chk]; rfl, by rw [blk_cell h.chk]; rfl, by rw [blk_cell h.chk]; rfl, cell_of_one h.box, blk_lt h.chk, blk_lt h.box⟩

set_option maxRecDepth 100000 in
theorem test1 (h : ChkAt r no nf nk p cb ao af ak co cf ck vd vw w) : TestV w (Value.int .i64) 54 #[.pointer (some ⟨cb, 0, none⟩)] (fun x => !Cd.inB 0 1200 x) := by
  refine ⟨fun _ _ => by kernel_rfl, fun x y => ?_⟩
  have h2 := h.grow y.prop
  show Calls Try.prog 54 #[.int .i64 x, .pointer (some ⟨cb, 0, none⟩)] y.val _
  generalize y.val = W at *
  obtain ⟨c0, c1, c2, cc, hp, hc⟩ := h2.look
  have H2 := Lib.hid h2
  clear h h2 y
  go_enter Try.func54, Try.ntmps54
  go_wp2_with (go_at_call 47; refine ((some_v r no nf nk).call0 ao af ak co cf ck _ _ H2.out.tab).mono ?_; rintro e w5 ⟨rfl, hb5⟩; have HB5 := Lib.hid hb5; clear hb5)
  go_returns
  exact ⟨rfl, HB5.out⟩

set_option maxRecDepth 100000 in
theorem test2 (h : ChkAt r no nf nk p cb ao af ak co cf ck vd vw w) : TestV w (Value.int .i64) 55 #[.pointer (some ⟨cb, 0, none⟩)] (fun x => !Cd.inB (-1) (nf - 1) x) := by
  refine ⟨fun _ _ => by kernel_rfl, fun x y => ?_⟩
  have h2 := h.grow y.prop
  show Calls Try.prog 55 #[.int .i64 x, .pointer (some ⟨cb, 0, none⟩)] y.val _
  generalize y.val = W at *
  obtain ⟨c0, c1, c2, cc, hp, hc⟩ := h2.look
  have H2 := Lib.hid h2
  clear h h2 y
  by_cases hx : x = -1
  · subst hx
    go_enter Try.func55, Try.ntmps55
    go_wp2_with (go_at_call 48; refine ((function_v r no nf nk).call0 ao af ak co cf ck _ _ H2.out.tab).mono ?_; rintro e w5 ⟨rfl, hb5⟩; have HB5 := Lib.hid hb5; clear hb5)
    go_returns
    exact ⟨by simp [Cd.inB]; omega, Below.refl _ _⟩
  · have hxb : (x != -1) = true := by simpa using hx
    have e : Hid (Cd.inB (-1) (nf - 1) x = Cd.inB 0 (nf - 1) x) := Lib.hid (by unfold Cd.inB; congr 1; simp; omega)
    clear hx
    go_enter Try.func55, Try.ntmps55
    go_wp2_with (go_at_call 48; refine ((function_v r no nf nk).call0 ao af ak co cf ck _ _ H2.out.tab).mono ?_; rintro e w5 ⟨rfl, hb5⟩; have HB5 := Lib.hid hb5; clear hb5)
    go_returns
    rw [e.out]
    exact ⟨rfl, HB5.out⟩

theorem test3 (h : ChkAt r no nf nk p cb ao af ak co cf ck vd vw w) : TestV w opV 57 #[.pointer (some ⟨cb, 0, none⟩)] (fun o => !Cd.rangeB no nf nk o) := by
  refine ⟨fun _ _ => by kernel_rfl, fun x y => ?_⟩
  have h2 := h.grow y.prop
  exact prange3_any r no nf nk p cb ao af ak co cf ck vd vw x.d x.a x.b y.val h2.tab h2.chk h2.box
end
end Go.Proofs.Ytjomajfgoaifbaa
