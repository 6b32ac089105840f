/-
  PROVED HERE: where a function of the parser's stands, its own boxes and rows, and what it still has to do, in one; the steps of its walk by that. No condition beyond the lemmas' own premises.
-/
import Derived.Test.YtjickecdkmljpaaGreatDoorPsC
import Derived.Test.YtjickecdkmljpaaGreatDoorPsA
import Derived.Test.YtjickecdkmljpaaGreatDoorPsTk
import Derived.Deep.Upon
namespace Go.Proofs.YtjickecdkmljpaaGreatDoor
open Go.RowKit

/-- The contract of a call of 'list' with a function bound to the parser. -/
def LOk (X : Ps.Src) (S : ByteArray) (fid : FuncId) (plain : Ps.St → Ps.Res) : Prop :=
 ∀ (N p : Nat) (w : World) (s : Ps.St) (tv nv : Value) (D : List (Ps.Nd × Value)), PSt N p w X S s tv nv D → plain s ≠ .out → Calls Tryz.prog 153 #[.pointer (some ⟨p, 0, none⟩), .func (.func fid) #[.pointer (some ⟨p, 0, none⟩)] #[]] w (OutL N p X S w tv nv D (plain s))
/-- The same of 'items'. -/
def IOk (X : Ps.Src) (S : ByteArray) (fid : FuncId) (plain : Ps.St → Ps.Res) : Prop :=
 ∀ (N p : Nat) (w : World) (s : Ps.St) (tv nv : Value) (D : List (Ps.Nd × Value)), PSt N p w X S s tv nv D → plain s ≠ .out → Calls Tryz.prog 147 #[.pointer (some ⟨p, 0, none⟩), .func (.func fid) #[.pointer (some ⟨p, 0, none⟩)] #[]] w (OutL N p X S w tv nv D (plain s))
/-- The contract of a function of the parser's that takes a place besides. -/
def AtOk (X : Ps.Src) (S : ByteArray) (f : FuncId) (val : List Nat → Value) (plain : Nat → Ps.St → Ps.Res) : Prop :=
 ∀ (at_ N p : Nat) (w : World) (s : Ps.St) (tv nv : Value) (D : List (Ps.Nd × Value)), PSt N p w X S s tv nv D → plain at_ s ≠ .out → Calls Tryz.prog f #[.pointer (some ⟨p, 0, none⟩), .int .i64 (at_ : Int)] w (Out N p X S w tv nv D val (plain at_ s))
/-- The contract of a function of the parser's that answers one node, and keeps the depth. -/
def Cn (X : Ps.Src) (S : ByteArray) (f : FuncId) (pf : Ps.St → Ps.Res) (xs : List Value := []) : Prop :=
 (∀ (N p : Nat) (w : World) (s : Ps.St) (tv nv : Value) (D : List (Ps.Nd × Value)), PSt N p w X S s tv nv D → pf s ≠ .out → Calls Tryz.prog f (.pointer (some ⟨p, 0, none⟩) :: xs).toArray w (Out N p X S w tv nv D oneV (pf s))) ∧ (∀ s, Ps.One (pf s)) ∧ ∀ s, Ps.Dp (pf s) s.deep
/-- The same of one that answers a row. -/
def Ln (X : Ps.Src) (S : ByteArray) (f fid : FuncId) (pf : Ps.St → Ps.Res) : Prop :=
 (∀ (N p : Nat) (w : World) (s : Ps.St) (tv nv : Value) (D : List (Ps.Nd × Value)), PSt N p w X S s tv nv D → pf s ≠ .out → Calls Tryz.prog f #[.pointer (some ⟨p, 0, none⟩), .func (.func fid) #[.pointer (some ⟨p, 0, none⟩)] #[]] w (OutL N p X S w tv nv D (pf s))) ∧ ∀ s, Ps.Dp (pf s) s.deep
def Lo (X : Ps.Src) (S : ByteArray) (fid : FuncId) (pf : Ps.St → Ps.Res) : Prop := Ln X S 153 fid pf
def Io (X : Ps.Src) (S : ByteArray) (fid : FuncId) (pf : Ps.St → Ps.Res) : Prop := Ln X S 147 fid pf
theorem Kd.lift {N p : Nat} {w0 wk w2 : World} {X : Ps.Src} {S : ByteArray} {s : Ps.St} {tv nv nk u : Value} {D E E2 : List (Ps.Nd × Value)} {l : List Nat} (h : Kd N wk w2 ((D ++ E) ++ E2) u l) (hG : Go N p X S w0 tv nv D wk s nk E) : Kd N w0 w2 (D ++ (E ++ E2)) u l :=
 ⟨h.row, fun b hb => Nat.le_trans hG.size (h.lo b hb), by rw [← List.append_assoc]; exact h.ap⟩
section
variable {N p : Nat} {w : World} {X : Ps.Src} {S : ByteArray} {s : Ps.St} {tv nv : Value} {D : List (Ps.Nd × Value)}
theorem Go.adv2 {wk : World} {sk : Ps.St} {nk : Value} {E : List (Ps.Nd × Value)} (h : Go N p X S w tv nv D wk sk nk E) (hlt : sk.i + 2 ≤ X.toks.length) : Go N p X S w tv nv D (wk.setCell ⟨p, 2, none⟩ (.int .i64 ((sk.i : Int) + 2))) (Ps.adv2 sk) nk E := ⟨h.st.setI (j := sk.i + 2) hlt, h.mv.set h.st.hN 2 _, h.fr, h.tl, h.pl⟩
theorem spany_is (h : PSt N p w X S s tv nv D) (v : Value) (l : List ByteArray) (hl : StrsV w v l) (b : Bool) (hb : Hid ((l.any fun x => Ps.isK X s (by_ x)) = b)) : Calls Tryz.prog 199 #[.pointer (some ⟨p, 0, none⟩), v] w fun e w' => e = .returned (.bool b) ∧ Below w.heap.size w w' := by
 have := spany_any h v l hl;rw [hb.out] at this;exact this
theorem isNum_lt (X : Ps.Src) (s : Ps.St) (h : Ps.isNum X s = true) : s.i < X.toks.length := by
 refine Classical.byContradiction fun hn => ?_
 unfold Ps.isNum Ps.now Ps.noTok at h;rw [List.getD_eq_getElem?_getD, List.getElem?_eq_none (by omega)] at h;simp at h
theorem by_str_eq (a b : List UInt8) : ((str a).toList == b) = (a == b) := by rw [by_toList, by_str]
end

def b_case : ByteArray := ⟨#[99, 97, 115, 101]⟩
def b_dflt : ByteArray := ⟨#[100, 101, 102, 97, 117, 108, 116]⟩
def b_rb : ByteArray := ⟨#[125]⟩
def b_semi : ByteArray := ⟨#[59]⟩
theorem any2 {X : Ps.Src} {s : Ps.St} {a b : List UInt8} {x y : ByteArray} (hx : by_ x = a := by rfl) (hy : by_ y = b := by rfl) : (Ps.isK X s a = true ∨ Ps.isK X s b = true) ↔ ([x, y].any fun z => Ps.isK X s (by_ z)) = true := by
 subst hx hy;simp

section
variable {N : Nat}
/-- Nothing is appended. -/
theorem wpList_append_none {P : Program} (w : World) {ops : Array Oper} {rest : List Oper} {o : Oper} {a : Act} {Q : Exit → Act → World → Prop} (hgd : o.guard = none) (s x : Operand) (t e : TypeId) (ho : o.op = .call { callee := .builtin .append, args := #[s, x], argTypes := #[t, t] })
  (i : TypeInfo) (ht : P.underlying t = some (.slice e)) (hi : P.info? e = some i) (base : Option Addr) (sLen sCap : Nat) (hle : sLen ≤ sCap) (hs : a.eval s = .slice base sLen sCap) (ua : Option Addr) (uc : Nat) (hx : a.eval x = .slice ua 0 uc)
  (h : wpList P ops Q rest (a.put o.dst (.slice base sLen sCap)) w) : wpList P ops Q (o :: rest) a w := by
 refine wpList_plain hgd fun K hK => ?_
 have hsrc : Src P i.size t (.slice ua 0 uc) 0 [] w := by
  cases ua with
  | none => exact Src.ofNil w ht uc
  | some ad => exact Src.ofSlice w ht ad 0 uc [] (by simp) (by intro j u hu; cases hu) (by intro u hu; cases hu)
 have hr := run_append_nothing (P := P) w t t o.type e i ht hi base sLen sCap hle (.slice ua 0 uc) hsrc;unfold Oper.wp;simp only [execOp, ho, resolve, invoke, builtin, Sem.run_bind, Sem.run_pure, Result.andThen_ok, List.map_toArray, List.map_cons, List.map_nil, hs, hx, hr];exact hK _ _ h
theorem Kd.news {w0 wk : World} {F : List (Ps.Nd × Value)} {g n c : Nat} {l : List Nat} (h : Kd N w0 wk F (.slice (some ⟨g, 0, none⟩) n c) l) : ∀ j u, (kidVals l)[j]? = some u → wk.cell? ((⟨g, 0, none⟩ : Addr).add j) = some u := by
 intro j u hu;have hj : j < (kidVals l).length := (List.getElem?_eq_some_iff.1 hu).1;have hn : n = l.length := by
  rcases h.row.2 with ⟨h0, _⟩ | ⟨g', cap', cur, hv, _⟩
  ·cases h0
  ·cases hv; rfl
 have hl : (kidVals l).length = l.length := by simp [kidVals]
 subst hn;have hr : wk.ownsRow N 3 1 (.slice (some ⟨g, 0, none⟩) l.length c) l.length (kidVals l) := h.row;have hc := hr.cellAt j (by omega);have hadd : (⟨g, 0, none⟩ : Addr).add j = ⟨g, j, none⟩ := by unfold Addr.add; split <;> simp_all
 rw [hadd];exact hc.trans hu
end

/-- A box or a row of numbers of the function's own. -/
inductive It where
 | bx (q : Nat) (c : Array Value) (t : TypeId)
 | kd (u : Value) (l : List Nat)
def It.Ok (N : Nat) (w wk : World) (nk : Value) (F : List (Ps.Nd × Value)) : It → Prop
 | .bx q c t => Bx w wk nk q c t ∧ 3 ≠ t
 | .kd u l => Kd N w wk F u l
/-- Two boxes lie apart. -/
def It.Off : It → It → Prop
 | .bx q _ _, .bx q2 _ _ => q ≠ q2
 | _, _ => True
def bxs : List It → List It
 | [] => []
 | .bx q c t :: L => .bx q c t :: bxs L
 | .kd _ _ :: L => bxs L
structure Sy (N p : Nat) (X : Ps.Src) (S : ByteArray) (w : World) (tv nv : Value) (D : List (Ps.Nd × Value)) (val : List Nat → Value) (pl : Ps.Res) (dz : Int) (ko : Option Nat) (wk : World) (s : Ps.St) (nk : Value) (E : List (Ps.Nd × Value)) (L : List It) (r : Ps.Res) : Prop where
 go : Go N p X S w tv nv D wk s nk E
 its : ∀ x ∈ L, x.Ok N w wk nk (D ++ E)
 off : L.Pairwise It.Off
 eq : pl = r
 ne : pl ≠ .out
 d0 : 0 ≤ dz
 dp : ∀ k, ko = some k → s.deep = dz + (k : Int)
/-- WHERE THE WALK STANDS: the parser's state s, the own things L, the depth (if it is known), and the rest r of the plain answer. -/
def Sx (N p : Nat) (X : Ps.Src) (S : ByteArray) (w : World) (tv nv : Value) (D : List (Ps.Nd × Value)) (val : List Nat → Value) (pl : Ps.Res) (dz : Int) (ko : Option Nat) (wk : World) (s : Ps.St) (L : List It) (r : Ps.Res) : Prop :=
 ∃ nk E, Sy N p X S w tv nv D val pl dz ko wk s nk E L r
/-- What the boxes hold. -/
def AllC : List It → World → Prop
 | [], _ => True
 | .bx q c _ :: L, w => (∀ i, w.cell? ⟨q, i, none⟩ = c[i]?) ∧ AllC L w
 | .kd _ _ :: L, w => AllC L w

section
variable {N p : Nat} {w wk w2 : World} {X : Ps.Src} {S : ByteArray} {s s2 : Ps.St} {tv nv nk n2 : Value} {D E E2 : List (Ps.Nd × Value)} {val : List Nat → Value} {pl r r2 : Ps.Res} {dz : Int} {ko : Option Nat} {L : List It} {x : It}
theorem It.Ok.below {F : List (Ps.Nd × Value)} (h : x.Ok N w wk nk F) (hb : Below wk.heap.size wk w2) : x.Ok N w w2 nk F := by
 cases x with
 | bx q c t => exact ⟨h.1.below hb, h.2⟩
 | kd u l => exact Kd.below h hb
theorem It.Ok.mv (h : x.Ok N w wk nk (D ++ E)) (hG : Go N p X S w tv nv D wk s nk E) (m : Mv N p wk nk w2 n2) (hE : Fresh wk.heap.size E2) : x.Ok N w w2 n2 (D ++ (E ++ E2)) := by
 cases x with
 | bx q c t => exact ⟨h.1.mv hG.pl m, h.2⟩
 | kd u l => exact Kd.mv h hG m hE
theorem Sy.below (h : Sy N p X S w tv nv D val pl dz ko wk s nk E L r) (hb : Below wk.heap.size wk w2) : Sy N p X S w tv nv D val pl dz ko w2 s nk E L r :=
 ⟨h.go.new hb, fun x hx => (h.its x hx).below hb, h.off, h.eq, h.ne, h.d0, h.dp⟩
theorem Sy.mv {k2 : Option Nat} (h : Sy N p X S w tv nv D val pl dz ko wk s nk E L r) (h1 : PSt N p w2 X S s2 tv n2 ((D ++ E) ++ E2)) (h2 : Mv N p wk nk w2 n2) (h3 : Fresh wk.heap.size E2) (he : r = r2) (hd : ∀ k, k2 = some k → s2.deep = dz + (k : Int)) : Sy N p X S w tv nv D val pl dz k2 w2 s2 n2 (E ++ E2) L r2 :=
 ⟨h.go.then h1 h2 h3, fun x hx => (h.its x hx).mv h.go h2 h3, h.off, h.eq.trans he, h.ne, h.d0, hd⟩
theorem allC_of {F : List (Ps.Nd × Value)} : ∀ {L : List It}, (∀ x ∈ L, x.Ok N w wk nk F) → AllC L wk
 | [], _ => trivial
 | .bx q c t :: _L, h => ⟨(h (.bx q c t) (List.mem_cons_self ..)).1.cell, allC_of fun x hx => h x (List.mem_cons_of_mem _ hx)⟩
 | .kd _u _l :: L, h => allC_of (L := L) fun x hx => h x (List.mem_cons_of_mem _ hx)
theorem bk0 (h : Hid (Sx N p X S w tv nv D val pl dz ko wk s L r)) : AllC L wk := by
 obtain ⟨_, _, h⟩ := h.out;exact allC_of h.its
theorem bk1 (h : Hid (Sx N p X S w tv nv D val pl dz ko wk s (x :: L) r)) : AllC L wk := by
 obtain ⟨_, _, h⟩ := h.out;exact allC_of fun y hy => h.its y (List.mem_cons_of_mem _ hy)
theorem bk2 {y : It} (h : Hid (Sx N p X S w tv nv D val pl dz ko wk s (x :: y :: L) r)) : AllC L wk := by
 obtain ⟨_, _, h⟩ := h.out;exact allC_of fun z hz => h.its z (List.mem_cons_of_mem _ (List.mem_cons_of_mem _ hz))
theorem bk3 {y z : It} (h : Hid (Sx N p X S w tv nv D val pl dz ko wk s (x :: y :: z :: L) r)) : AllC L wk := by
 obtain ⟨_, _, h⟩ := h.out;exact allC_of fun v hv => h.its v (List.mem_cons_of_mem _ (List.mem_cons_of_mem _ (List.mem_cons_of_mem _ hv)))

/-- The beginning. -/
theorem x0 (val : List Nat → Value) (h : PSt N p w X S s tv nv D) (hne : pl ≠ .out) (e : pl = r) : Hid (Sx N p X S w tv nv D val pl s.deep (some 0) w s [] r) :=
 zh ⟨nv, [], Go.start h, fun _ hx => (by cases hx), .nil, e, hne, h.d0, fun k hk => by cases hk; simp⟩
/-- The end. -/
theorem fn {v : List Nat} (h : Hid (Sx N p X S w tv nv D val pl dz ko wk s L (.ok v s))) : Out N p X S w tv nv D val pl (.returned (val v)) wk := by
 obtain ⟨_, _, h⟩ := h.out;exact h.go.out h.eq rfl
theorem en {G : Prop} (k : G := by go_wp2; go_returns; exact fn HG) : G := k
/-- The rest is spelled otherwise. -/
theorem re (e : r = r2) (h : Hid (Sx N p X S w tv nv D val pl dz ko wk s L r)) : Hid (Sx N p X S w tv nv D val pl dz ko wk s L r2) := e ▸ h
theorem lo (h : Hid (Sx N p X S w tv nv D val pl dz ko wk s L r)) : Hid (Sx N p X S w tv nv D val pl dz none wk s L r) := by
 obtain ⟨nk, E, h⟩ := h.out;exact zh ⟨nk, E, h.go, h.its, h.off, h.eq, h.ne, h.d0, fun k hk => by cases hk⟩
/-- A world by a name of its own. -/
theorem gn (h : Hid (Sx N p X S w tv nv D val pl dz ko wk s L r)) : ∃ w2, wk = w2 ∧ Hid (Sx N p X S w tv nv D val pl dz ko w2 s L r) := ⟨wk, rfl, h⟩
theorem Sx.st (h : Hid (Sx N p X S w tv nv D val pl dz ko wk s L r)) : ∃ nk E, PSt N p wk X S s tv nk (D ++ E) := by
 obtain ⟨nk, E, h⟩ := h.out;exact ⟨nk, E, h.go.st⟩
/-- What the parser's own words are. -/
theorem pc (h : Hid (Sx N p X S w tv nv D val pl dz ko wk s L r)) : wk.cell? ⟨p, 1, none⟩ = some tv ∧ wk.cell? ⟨p, 2, none⟩ = some (.int .i64 (s.i : Int)) ∧ wk.cell? ⟨p, 3, none⟩ = some (.int .i64 s.deep) ∧ (∀ i, wk.frozen? ⟨p, i, none⟩ = false) ∧ p < wk.heap.size := by
 obtain ⟨nk, E, h⟩ := Sx.st h;exact ⟨h.c1, h.c2, h.c3, h.free, h.lt⟩
theorem pn (h : Hid (Sx N p X S w tv nv D val pl dz ko wk s L r)) : X.toks.length ≤ 12001 ∧ s.i ≤ X.toks.length := by
 obtain ⟨nk, E, h⟩ := Sx.st h;exact ⟨h.src.few, h.i⟩
theorem pdd {k : Nat} (h : Hid (Sx N p X S w tv nv D val pl dz (some (k + 1)) wk s L r)) : 1 ≤ s.deep ∧ s.deep ≤ 30 := by
 obtain ⟨nk, E, h⟩ := h.out;have h1 := h.dp _ rfl;have h2 := h.d0;have h3 := h.go.st.d1;exact ⟨by omega, h3⟩

/-! ### Calls -/
variable {Q : Ending → World → Prop} {K : List Nat → Ps.St → Ps.Res} {pfs : Ps.Res} {f : FuncId} {args : Array Value}
theorem now_ (h : ∀ w2, Hid (Sx N p X S w tv nv D val pl dz ko w2 s L r) → Q (.returned (.agg #[.int .i64 (Ps.now X s).kind, .string (str (Ps.now X s).text), .int .i64 (Ps.now X s).num, .int .i64 ((Ps.now X s).pos : Int)])) w2) : Hid (Sx N p X S w tv nv D val pl dz ko wk s L r) → Calls Tryz.prog 43 #[.pointer (some ⟨p, 0, none⟩)] wk Q := by
 intro HG;obtain ⟨nk, E, hG⟩ := HG.out;refine (spnow_any hG.go.st).mono ?_;rintro e w2 ⟨rfl, hb⟩;exact h w2 (zh ⟨nk, E, hG.below hb⟩)
theorem took (x : List UInt8) {Y : ByteArray} (h1 : ∀ w2, Hid (Ps.isK X s x = true) → Hid (Sx N p X S w tv nv D val pl dz ko w2 (Ps.adv s) L r) → Q (.returned (.bool true)) w2) (h0 : ∀ w2, Hid (Ps.isK X s x = false) → Hid (Sx N p X S w tv nv D val pl dz ko w2 s L r2) → Q (.returned (.bool false)) w2) (hY : by_ Y = x := by rfl) :
  Hid (Sx N p X S w tv nv D val pl dz ko wk s L (if Ps.isK X s x = true then r else r2)) → Calls Tryz.prog 94 #[.pointer (some ⟨p, 0, none⟩), .string Y] wk Q := by
 intro HG;obtain ⟨nk, E, hG⟩ := HG.out;subst hY
 cases hb : Ps.isK X s (by_ Y) with
 | true =>
  refine (sptook_any hG.go.st Y true (zh hb)).mono ?_;rintro e w2 ⟨rfl, h3, h4⟩;exact h1 w2 (zh hb) (zh ⟨nk, E ++ [], hG.mv (by rw [List.append_nil]; exact h3) h4 (Fresh.nil _) (if_pos hb) hG.dp⟩)
 | false =>
  refine (sptook_any hG.go.st Y false (zh hb)).mono ?_;rintro e w2 ⟨rfl, h3, h4⟩;exact h0 w2 (zh hb) (zh ⟨nk, E ++ [], hG.mv (by rw [List.append_nil]; exact h3) h4 (Fresh.nil _) (if_neg (by rw [hb]; decide)) hG.dp⟩)
theorem is_ (x : List UInt8) {Y : ByteArray} (h1 : ∀ w2, Hid (Ps.isK X s x = true) → Hid (Sx N p X S w tv nv D val pl dz ko w2 s L r) → Q (.returned (.bool true)) w2) (h0 : ∀ w2, Hid (Ps.isK X s x = false) → Hid (Sx N p X S w tv nv D val pl dz ko w2 s L r2) → Q (.returned (.bool false)) w2) (hY : by_ Y = x := by rfl) :
  Hid (Sx N p X S w tv nv D val pl dz ko wk s L (if Ps.isK X s x = true then r else r2)) → Calls Tryz.prog 96 #[.pointer (some ⟨p, 0, none⟩), .string Y] wk Q := by
 intro HG;obtain ⟨nk, E, hG⟩ := HG.out;subst hY
 cases hb : Ps.isK X s (by_ Y) with
 | true =>
  refine (spis_is hG.go.st Y true (zh hb)).mono ?_;rintro e w2 ⟨rfl, h3⟩;have h4 := hG.below h3;exact h1 w2 (zh hb) (zh ⟨nk, E, h4.go, h4.its, h4.off, h4.eq.trans (if_pos hb), h4.ne, h4.d0, h4.dp⟩)
 | false =>
  refine (spis_is hG.go.st Y false (zh hb)).mono ?_;rintro e w2 ⟨rfl, h3⟩;have h4 := hG.below h3;exact h0 w2 (zh hb) (zh ⟨nk, E, h4.go, h4.its, h4.off, h4.eq.trans (if_neg (by rw [hb]; decide)), h4.ne, h4.d0, h4.dp⟩)
theorem begins_ (h1 : ∀ w2, Hid (Sx N p X S w tv nv D val pl dz ko w2 s L r) → Q (.returned (.bool true)) w2) (h0 : ∀ w2, Hid (Sx N p X S w tv nv D val pl dz ko w2 s L r2) → Q (.returned (.bool false)) w2) :
  Hid (Sx N p X S w tv nv D val pl dz ko wk s L (if Ps.begins X s = true then r else r2)) → Calls Tryz.prog 155 #[.pointer (some ⟨p, 0, none⟩)] wk Q := by
 intro HG;obtain ⟨nk, E, hG⟩ := HG.out
 cases hb : Ps.begins X s with
 | true =>
  refine (spbegins_any hG.go.st true (zh hb)).mono ?_;rintro e w2 ⟨rfl, h3⟩;have h4 := hG.below h3;exact h1 w2 (zh ⟨nk, E, h4.go, h4.its, h4.off, h4.eq.trans (if_pos hb), h4.ne, h4.d0, h4.dp⟩)
 | false =>
  refine (spbegins_any hG.go.st false (zh hb)).mono ?_;rintro e w2 ⟨rfl, h3⟩;have h4 := hG.below h3;exact h0 w2 (zh ⟨nk, E, h4.go, h4.its, h4.off, h4.eq.trans (if_neg (by rw [hb]; decide)), h4.ne, h4.d0, h4.dp⟩)
/-- A test against a row that is built for it. -/
theorem any_ (l : List ByteArray) {c : Prop} [Decidable c] {cs : Array Value} {t : TypeId} {n : Nat} (h1 : ∀ w2, Hid c → Hid (Sx N p X S w tv nv D val pl dz ko w2 s L r) → Q (.returned (.bool true)) w2) (h0 : ∀ w2, Hid (¬ c) → Hid (Sx N p X S w tv nv D val pl dz ko w2 s L r2) → Q (.returned (.bool false)) w2) (hc : c ↔ (l.any fun x => Ps.isK X s (by_ x)) = true) (hl : l.length ≤ 100 := by decide) (hcs : (l.map Value.string).toArray = cs := by rfl) (hn : l.length = n := by rfl) :
  Hid (Sx N p X S w tv nv D val pl dz ko wk s L (if c then r else r2)) → Calls Tryz.prog 199 #[.pointer (some ⟨p, 0, none⟩), .slice (some ⟨wk.heap.size, 0, none⟩) n n] (wk.alloc (.cells cs t)) Q := by
 intro HG;obtain ⟨nk, E, hG⟩ := HG.out;subst hcs hn;have hA := hG.below ((Below.refl _ _).alloc (Nat.le_refl _) (.cells (l.map Value.string).toArray t))
 cases hb : (l.any fun x => Ps.isK X s (by_ x)) with
 | true =>
  refine (spany_is hA.go.st _ l (StrsV.new wk l hl t) true (zh hb)).mono ?_;rintro e w2 ⟨rfl, h3⟩;have h4 := hA.below h3;exact h1 w2 (zh (hc.2 hb)) (zh ⟨nk, E, h4.go, h4.its, h4.off, h4.eq.trans (if_pos (hc.2 hb)), h4.ne, h4.d0, h4.dp⟩)
 | false =>
  refine (spany_is hA.go.st _ l (StrsV.new wk l hl t) false (zh hb)).mono ?_;rintro e w2 ⟨rfl, h3⟩;have h4 := hA.below h3;have hn : ¬ c := fun h => by rw [hc.1 h] at hb; cases hb
  exact h0 w2 (zh hn) (zh ⟨nk, E, h4.go, h4.its, h4.off, h4.eq.trans (if_neg hn), h4.ne, h4.d0, h4.dp⟩)
/-- A call, whatever it answers. -/
theorem callG {k2 : Option Nat} {val2 : List Nat → Value} (HC : ∀ nk D2, PSt N p wk X S s tv nk D2 → pfs ≠ .out → Calls Tryz.prog f args wk (Out N p X S wk tv nk D2 val2 pfs)) (hd : ∀ v s2, pfs = .ok v s2 → (∀ k, ko = some k → s.deep = dz + (k : Int)) → ∀ k, k2 = some k → s2.deep = dz + (k : Int))
  (ok : ∀ v w2 s2, pfs = .ok v s2 → Hid (Sx N p X S w tv nv D val pl dz k2 w2 s2 L (K v s2)) → Q (.returned (val2 v)) w2) (bad : ∀ c q w2, Out N p X S w tv nv D val pl (thrownS c q) w2 → Q (thrownS c q) w2) :
  Hid (Sx N p X S w tv nv D val pl dz ko wk s L (pfs.bind K)) → Calls Tryz.prog f args wk Q := by
 intro HG;obtain ⟨nk, E, hG⟩ := HG.out;have hn : pfs ≠ .out := fun e => hG.ne (by rw [hG.eq, e]; rfl)
 refine (HC _ _ hG.go.st hn).mono ?_;rintro e w2 hq;rcases hq.parts hn with ⟨c, q, hr, rfl, hb⟩ | ⟨v, s2, n2, E2, hr, rfl, h1, h2, h3⟩
 ·exact bad c q w2 (hG.go.bad hb (by rw [hG.eq, hr]; rfl))
 ·exact ok v w2 s2 hr (zh ⟨n2, _, hG.mv h1 h2 h3 (by rw [hr]; rfl) (hd _ _ hr hG.dp)⟩)
variable {pf : Ps.St → Ps.Res} {xs : List Value}
/-- A call that answers one node. -/
theorem c1 (HC : Cn X S f pf xs) (ok : ∀ (a : Nat) w2 s2, Hid (Sx N p X S w tv nv D val pl dz ko w2 s2 L (K [a] s2)) → Q (.returned (.int .i64 (a : Int))) w2)
  (bad : ∀ c q w2, Out N p X S w tv nv D val pl (thrownS c q) w2 → Q (thrownS c q) w2 := by intro c q w2 HE; unfold thrownS; go_wp2; exact ⟨rfl, HE⟩) :
  Hid (Sx N p X S w tv nv D val pl dz ko wk s L ((pf s).bind K)) → Calls Tryz.prog f (.pointer (some ⟨p, 0, none⟩) :: xs).toArray wk Q :=
 callG (fun _ _ h => HC.1 _ _ _ _ _ _ _ h) (fun v s2 hr hk k e => (HC.2.2 _ v s2 hr).trans (hk k e)) (fun v w2 s2 hr HG => by
  obtain ⟨a, rfl⟩ := HC.2.1 _ v s2 hr;exact ok a w2 s2 HG) bad
/-- The function answers what the callee answers. -/
theorem tl (HC : Cn X S f pf xs) (HG : Hid (Sx N p X S w tv nv D oneV pl dz ko wk s L (pf s)))
  (ok : ∀ (a : Nat) w2, Out N p X S w tv nv D oneV pl (.returned (.int .i64 (a : Int))) w2 → Q (.returned (.int .i64 (a : Int))) w2 := by intro a w2 HE; go_wp2; go_returns; exact HE)
  (bad : ∀ c q w2, Out N p X S w tv nv D oneV pl (thrownS c q) w2 → Q (thrownS c q) w2 := by intro c q w2 HE; unfold thrownS; go_wp2; exact ⟨rfl, HE⟩) :
  Calls Tryz.prog f (.pointer (some ⟨p, 0, none⟩) :: xs).toArray wk Q :=
 callG (K := fun v s2 => .ok v s2) (k2 := none) (fun _ _ h => HC.1 _ _ _ _ _ _ _ h) (fun v s2 hr hk k e => by cases e) (fun v w2 s2 hr HG => by
  obtain ⟨a, rfl⟩ := HC.2.1 _ v s2 hr;exact ok a w2 (fn HG)) bad (re (by cases pf s <;> rfl) HG)
theorem name_ (ok : ∀ w2, Hid (Sx N p X S w tv nv D val pl dz ko w2 (Ps.adv s) L (K [] (Ps.adv s))) → Q (.returned (.agg #[.int .i64 (Ps.now X s).kind, .string (str (Ps.now X s).text), .int .i64 (Ps.now X s).num, .int .i64 ((Ps.now X s).pos : Int)])) w2)
  (bad : ∀ c q w2, Out N p X S w tv nv D val pl (thrownS c q) w2 → Q (thrownS c q) w2 := by intro c q w2 HE; unfold thrownS; go_wp2; exact ⟨rfl, HE⟩) :
  Hid (Sx N p X S w tv nv D val pl dz ko wk s L ((Ps.name X s).bind K)) → Calls Tryz.prog 98 #[.pointer (some ⟨p, 0, none⟩)] wk Q :=
 callG (fun _ _ h _ => spname_any h) (fun v s2 hr hk k e => (Ps.Dp.name X s v s2 hr).trans (hk k e)) (fun v w2 s2 hr HG => by
  unfold Ps.name Ps.fail at hr
  split at hr
  ·cases hr
   exact ok w2 HG
  ·cases hr) bad
theorem take_ (x : List UInt8) {Y : ByteArray} (ok : ∀ w2, Hid (Ps.isK X s x = true) → Hid (Sx N p X S w tv nv D val pl dz ko w2 (Ps.adv s) L (K [(Ps.now X s).pos] (Ps.adv s))) → Q (.returned (.int .i64 ((Ps.now X s).pos : Int))) w2) (hY : by_ Y = x := by rfl)
  (bad : ∀ c q w2, Out N p X S w tv nv D val pl (thrownS c q) w2 → Q (thrownS c q) w2 := by intro c q w2 HE; unfold thrownS; go_wp2; exact ⟨rfl, HE⟩) :
  Hid (Sx N p X S w tv nv D val pl dz ko wk s L ((Ps.take X x s).bind K)) → Calls Tryz.prog 45 #[.pointer (some ⟨p, 0, none⟩), .string Y] wk Q := by
 subst hY;exact callG (fun _ _ h _ => sptake_any h Y) (fun v s2 hr hk k e => (Ps.Dp.take X _ s v s2 hr).trans (hk k e)) (fun v w2 s2 hr HG => by
  obtain ⟨rfl, rfl, h3⟩ := take_ok hr;exact ok w2 (zh h3) HG) bad
theorem enter_ok {x : List UInt8} {v : List Nat} (hr : Ps.enter X x s = .ok v s2) : v = [(Ps.now X s).pos] ∧ s2 = Ps.up (Ps.adv s) ∧ Ps.isK X s x = true := by
 unfold Ps.enter at hr
 split at hr
 ·cases hr
 ·cases ht : Ps.take X x s with
  | out => rw [ht] at hr; cases hr
  | bad c q => rw [ht] at hr; cases hr
  | ok v3 s3 =>
   rw [ht] at hr;obtain ⟨rfl, rfl, h3⟩ := take_ok ht
   cases hr
   exact ⟨rfl, rfl, h3⟩
theorem enter_ (x : List UInt8) {Y : ByteArray} {k : Nat} (ok : ∀ w2, Hid (Ps.isK X s x = true) → Hid (Sx N p X S w tv nv D val pl dz (some (k + 1)) w2 (Ps.up (Ps.adv s)) L (K [(Ps.now X s).pos] (Ps.up (Ps.adv s)))) → Q (.returned (.int .i64 ((Ps.now X s).pos : Int))) w2) (hY : by_ Y = x := by rfl)
  (bad : ∀ c q w2, Out N p X S w tv nv D val pl (thrownS c q) w2 → Q (thrownS c q) w2 := by intro c q w2 HE; unfold thrownS; go_wp2; exact ⟨rfl, HE⟩) :
  Hid (Sx N p X S w tv nv D val pl dz (some k) wk s L ((Ps.enter X x s).bind K)) → Calls Tryz.prog 150 #[.pointer (some ⟨p, 0, none⟩), .string Y] wk Q := by
 subst hY;exact callG (k2 := some (k + 1)) (fun _ _ h _ => spenter_any h Y) (fun v s2 hr hk k2 e => by
  cases e
  have h3 := Ps.Dp.enter X _ s v s2 hr;have h4 := hk k rfl
  omega) (fun v w2 s2 hr HG => by
  obtain ⟨rfl, rfl, h3⟩ := enter_ok hr;exact ok w2 (zh h3) HG) bad
theorem leave_ok {x : List UInt8} {v : List Nat} (hr : Ps.leave X x s = .ok v s2) : v = [] ∧ s2 = Ps.down (Ps.adv s) := by
 unfold Ps.leave at hr
 cases ht : Ps.take X x s with
 | out => rw [ht] at hr; cases hr
 | bad c q => rw [ht] at hr; cases hr
 | ok v3 s3 =>
  rw [ht] at hr;obtain ⟨rfl, rfl, h3⟩ := take_ok ht
  cases hr
  exact ⟨rfl, rfl⟩
theorem leave_ (x : List UInt8) {Y : ByteArray} {k : Nat} (ok : ∀ w2, Hid (Sx N p X S w tv nv D val pl dz (some k) w2 (Ps.down (Ps.adv s)) L (K [] (Ps.down (Ps.adv s)))) → Q (.returned (.tuple #[])) w2) (hY : by_ Y = x := by rfl)
  (bad : ∀ c q w2, Out N p X S w tv nv D val pl (thrownS c q) w2 → Q (thrownS c q) w2 := by intro c q w2 HE; unfold thrownS; go_wp2; exact ⟨rfl, HE⟩) :
  Hid (Sx N p X S w tv nv D val pl dz (some (k + 1)) wk s L ((Ps.leave X x s).bind K)) → Calls Tryz.prog 152 #[.pointer (some ⟨p, 0, none⟩), .string Y] wk Q := by
 subst hY;intro HG;have h1 := pdd HG;exact callG (k2 := some k) (fun _ _ h _ => spleave_any h Y h1.1) (fun v s2 hr hk k2 e => by
  cases e
  have h3 := Ps.Dp.leave X _ s v s2 hr;have h4 := hk (k + 1) rfl
  omega) (fun v w2 s2 hr HG => by
  obtain ⟨rfl, rfl⟩ := leave_ok hr;exact ok w2 HG) bad HG
/-- A call that answers a row. -/
theorem cl_ {fid : FuncId} (HC : Ln X S f fid pf)
  (ok : ∀ (l : List Nat) (ua : Option Addr) (uc : Nat) w2 s2, l.length ≤ 1000000 → Hid (Sx N p X S w tv nv D val pl dz ko w2 s2 (.kd (.slice ua l.length uc) l :: L) (K l s2)) → Q (.returned (.slice ua l.length uc)) w2)
  (bad : ∀ c q w2, Out N p X S w tv nv D val pl (thrownS c q) w2 → Q (thrownS c q) w2 := by intro c q w2 HE; unfold thrownS; go_wp2; exact ⟨rfl, HE⟩) :
  Hid (Sx N p X S w tv nv D val pl dz ko wk s L ((pf s).bind K)) → Calls Tryz.prog f #[.pointer (some ⟨p, 0, none⟩), .func (.func fid) #[.pointer (some ⟨p, 0, none⟩)] #[]] wk Q := by
 intro HG;obtain ⟨nk, E, hG⟩ := HG.out;have hn : pf s ≠ .out := fun e => hG.ne (by rw [hG.eq, e]; rfl)
 refine (HC.1 _ _ _ _ _ _ _ hG.go.st hn).mono ?_;rintro e w2 hq;rcases hq.parts hn with ⟨c, q, hr, rfl, hb⟩ | ⟨v, s2, u, n2, E2, hr, rfl, h1, h2, h3, h4, h5⟩
 ·exact bad c q w2 (hG.go.bad hb (by rw [hG.eq, hr]; rfl))
 ·obtain ⟨ua, uc, rfl⟩ := own_slice h4.row rfl;have h6 := hG.mv h1 h2 h3 (r2 := K v s2) (by rw [hr]; rfl) (fun k e => (HC.2 _ _ _ hr).trans (hG.dp k e))
  exact ok v ua uc w2 s2 h5 (zh ⟨n2, _, h6.go, List.forall_mem_cons.2 ⟨h4.lift hG.go, h6.its⟩, List.pairwise_cons.2 ⟨fun y _ => by cases y <;> trivial, h6.off⟩, h6.eq, h6.ne, h6.d0, h6.dp⟩)

/-! ### Nodes -/
theorem bxs_mem : ∀ {L : List It} {y : It}, y ∈ bxs L → y ∈ L ∧ ∃ q c t, y = .bx q c t
 | .bx q c t :: L, y, h => by
  rcases List.mem_cons.1 h with rfl | h
  ·exact ⟨List.mem_cons_self .., q, c, t, rfl⟩
  ·exact ⟨List.mem_cons_of_mem _ (bxs_mem h).1, (bxs_mem h).2⟩
 | .kd u l :: L, y, h => ⟨List.mem_cons_of_mem _ (bxs_mem (L := L) h).1, (bxs_mem (L := L) h).2⟩
theorem bxs_off : ∀ {L : List It}, L.Pairwise It.Off → (bxs L).Pairwise It.Off
 | [], _ => .nil
 | .bx _q _c _t :: _L, h => List.pairwise_cons.2 ⟨fun y hy => (List.pairwise_cons.1 h).1 y (bxs_mem hy).1, bxs_off (List.pairwise_cons.1 h).2⟩
 | .kd _u _l :: L, h => bxs_off (L := L) (List.pairwise_cons.1 h).2
theorem putG {x : Ps.Nd} {u : Value} {l : List Nat} (hx : x.kids = l) (HC : ∀ nk D2, PSt N p wk X S s tv nk D2 → KidsV N wk u x.kids → s.nodes.length < 100000 → Calls Tryz.prog f args wk (PutOut N p X S wk tv nk D2 s x u))
  (ok : ∀ (a : Nat) w2 s2, Hid (Sx N p X S w tv nv D val pl dz ko w2 s2 (bxs L) (K [a] s2)) → Q (.returned (.int .i64 (a : Int))) w2) :
  Hid (Sx N p X S w tv nv D val pl dz ko wk s (.kd u l :: L) ((Ps.put x s).bind K)) → Calls Tryz.prog f args wk Q := by
 intro HG;obtain ⟨nk, E, hG⟩ := HG.out;subst hx;have hn : Ps.put x s ≠ .out := fun e => hG.ne (by rw [hG.eq, e]; rfl)
 have hk : Kd N w wk (D ++ E) u x.kids := hG.its _ (List.mem_cons_self ..);refine (HC _ _ hG.go.st hk.row (put_few hn)).mono ?_;rintro e w2 ⟨rfl, n2, h1, h2⟩;have hg := hG.go.put h1 h2 hk.lo;refine ok s.nodes.length w2 (putSt x s) (zh ⟨n2, E ++ [(x, u)], hg, fun y hy => ?_, bxs_off (List.pairwise_cons.1 hG.off).2, hG.eq.trans (by rw [put_is hn]; rfl), hG.ne, hG.d0, hG.dp⟩);obtain ⟨hy, q, c, t, rfl⟩ := bxs_mem hy;have h3 := hG.its _ (List.mem_cons_of_mem _ hy);exact ⟨h3.1.mv hG.go.pl h2, h3.2⟩
/-- 'p.put(..)', and the walk goes on. -/
theorem puK {x : Ps.Nd} {u : Value} {l : List Nat} (ok : ∀ (a : Nat) w2 s2, Hid (Sx N p X S w tv nv D val pl dz ko w2 s2 (bxs L) (K [a] s2)) → Q (.returned (.int .i64 (a : Int))) w2) (hx : x.kids = l := by rfl) :
  Hid (Sx N p X S w tv nv D val pl dz ko wk s (.kd u l :: L) ((Ps.put x s).bind K)) → Calls Tryz.prog 46 #[.pointer (some ⟨p, 0, none⟩), .agg #[.int .i64 x.kind, .int .i64 x.pos, .int .i64 x.num, .string (str x.text), u]] wk Q :=
 putG hx (fun _ _ h hu hf => spput_any h x u hu hf) ok
theorem wiK {kind : Int} {at_ : Nat} {u : Value} {l : List Nat} (ok : ∀ (a : Nat) w2 s2, Hid (Sx N p X S w tv nv D val pl dz ko w2 s2 (bxs L) (K [a] s2)) → Q (.returned (.int .i64 (a : Int))) w2) :
  Hid (Sx N p X S w tv nv D val pl dz ko wk s (.kd u l :: L) ((Ps.with_ kind at_ l s).bind K)) → Calls Tryz.prog 200 #[.pointer (some ⟨p, 0, none⟩), .int .i64 kind, .int .i64 (at_ : Int), u] wk Q :=
 putG (x := ⟨kind, at_, 0, [], l⟩) rfl (fun _ _ h hu hf => spwith_any h kind at_ l u hu hf) ok
theorem bind_self (r : Ps.Res) : r = r.bind fun v s => .ok v s := by cases r <;> rfl
/-- The last node. -/
theorem pu {x : Ps.Nd} {u : Value} {l : List Nat} (ok : ∀ (a : Nat) w2 s2, Hid (Sx N p X S w tv nv D val pl dz ko w2 s2 (bxs L) (.ok [a] s2)) → Q (.returned (.int .i64 (a : Int))) w2) (hx : x.kids = l := by rfl) :
  Hid (Sx N p X S w tv nv D val pl dz ko wk s (.kd u l :: L) (Ps.put x s)) → Calls Tryz.prog 46 #[.pointer (some ⟨p, 0, none⟩), .agg #[.int .i64 x.kind, .int .i64 x.pos, .int .i64 x.num, .string (str x.text), u]] wk Q := fun HG =>
 puK (K := fun v s => .ok v s) ok hx (re (bind_self _) HG)
theorem wi {kind : Int} {at_ : Nat} {u : Value} {l : List Nat} (ok : ∀ (a : Nat) w2 s2, Hid (Sx N p X S w tv nv D val pl dz ko w2 s2 (bxs L) (.ok [a] s2)) → Q (.returned (.int .i64 (a : Int))) w2) :
  Hid (Sx N p X S w tv nv D val pl dz ko wk s (.kd u l :: L) (Ps.with_ kind at_ l s)) → Calls Tryz.prog 200 #[.pointer (some ⟨p, 0, none⟩), .int .i64 kind, .int .i64 (at_ : Int), u] wk Q := fun HG =>
 wiK (K := fun v s => .ok v s) ok (re (bind_self _) HG)

/-- The contract of 'items' with the closure that reads methods' signatures. -/
def MOk (X : Ps.Src) (S : ByteArray) (plain : Ps.St → Ps.Res) : Prop :=
 ∀ (N p qq : Nat) (w0 w : World) (s : Ps.St) (tv nv : Value) (D : List (Ps.Nd × Value)), p < w0.heap.size → PSt N p w X S s tv nv D → Bx w0 w nv qq #[.pointer (some ⟨p, 0, none⟩)] 61 → plain s ≠ .out → Calls Tryz.prog 147 #[.pointer (some ⟨p, 0, none⟩), .func (.func 149) #[] #[.pointer (some ⟨qq, 0, none⟩)]] w (OutL N p X S w tv nv D (plain s))
theorem clM {qq : Nat} (HM : MOk X S pf) (hd : ∀ s, Ps.Dp (pf s) s.deep)
  (ok : ∀ (l : List Nat) (ua : Option Addr) (uc : Nat) w2 s2, l.length ≤ 1000000 → Hid (Sx N p X S w tv nv D val pl dz ko w2 s2 (.kd (.slice ua l.length uc) l :: x :: .bx qq #[.pointer (some ⟨p, 0, none⟩)] 61 :: L) (K l s2)) → Q (.returned (.slice ua l.length uc)) w2)
  (bad : ∀ c q w2, Out N p X S w tv nv D val pl (thrownS c q) w2 → Q (thrownS c q) w2 := by intro c q w2 HE; unfold thrownS; go_wp2; exact ⟨rfl, HE⟩) :
  Hid (Sx N p X S w tv nv D val pl dz ko wk s (x :: .bx qq #[.pointer (some ⟨p, 0, none⟩)] 61 :: L) ((pf s).bind K)) → Calls Tryz.prog 147 #[.pointer (some ⟨p, 0, none⟩), .func (.func 149) #[] #[.pointer (some ⟨qq, 0, none⟩)]] wk Q := by
 intro HG;obtain ⟨nk, E, hG⟩ := HG.out;have hn : pf s ≠ .out := fun e => hG.ne (by rw [hG.eq, e]; rfl)
 have hx : Bx w wk nk qq #[.pointer (some ⟨p, 0, none⟩)] 61 := (hG.its _ (List.mem_cons_of_mem _ (List.mem_cons_self ..))).1;refine (HM _ _ _ _ _ _ _ _ _ hG.go.pl hG.go.st hx hn).mono ?_;rintro e w2 hq;rcases hq.parts hn with ⟨c, q, hr, rfl, hb⟩ | ⟨v, s2, u, n2, E2, hr, rfl, h1, h2, h3, h4, h5⟩
 ·exact bad c q w2 (hG.go.bad hb (by rw [hG.eq, hr]; rfl))
 ·obtain ⟨ua, uc, rfl⟩ := own_slice h4.row rfl;have h6 := hG.mv h1 h2 h3 (r2 := K v s2) (by rw [hr]; rfl) (fun k e => (hd _ _ _ hr).trans (hG.dp k e))
  exact ok v ua uc w2 s2 h5 (zh ⟨n2, _, h6.go, List.forall_mem_cons.2 ⟨h4.lift hG.go, h6.its⟩, List.pairwise_cons.2 ⟨fun y _ => by cases y <;> trivial, h6.off⟩, h6.eq, h6.ne, h6.d0, h6.dp⟩)
/-- A call whose answer is known: nothing of the rest is used. -/
theorem isB {Y : ByteArray} {b : Bool} (hb : Hid (Ps.isK X s (by_ Y) = b)) (h1 : ∀ w2, Hid (Sx N p X S w tv nv D val pl dz ko w2 s L r) → Q (.returned (.bool b)) w2) : Hid (Sx N p X S w tv nv D val pl dz ko wk s L r) → Calls Tryz.prog 96 #[.pointer (some ⟨p, 0, none⟩), .string Y] wk Q := by
 intro HG;obtain ⟨nk, E, hG⟩ := HG.out;refine (spis_is hG.go.st Y b hb).mono ?_;rintro e w2 ⟨rfl, h3⟩;exact h1 w2 (zh ⟨nk, E, hG.below h3⟩)
theorem anyB {v : Value} {l : List ByteArray} {b : Bool} (hv : StrsV wk v l) (hb : Hid ((l.any fun x => Ps.isK X s (by_ x)) = b)) (h1 : ∀ w2, Hid (Sx N p X S w tv nv D val pl dz ko w2 s L r) → Q (.returned (.bool b)) w2) : Hid (Sx N p X S w tv nv D val pl dz ko wk s L r) → Calls Tryz.prog 199 #[.pointer (some ⟨p, 0, none⟩), v] wk Q := by
 intro HG;obtain ⟨nk, E, hG⟩ := HG.out;refine (spany_is hG.go.st v l hv b hb).mono ?_;rintro e w2 ⟨rfl, h3⟩;exact h1 w2 (zh ⟨nk, E, hG.below h3⟩)
/-- The fault is thrown. -/
theorem fail_ {c : Int} (HG : Hid (Sx N p X S w tv nv D val pl dz ko wk s L (Ps.fail X c s)))
  (bad : ∀ c q w2, Out N p X S w tv nv D val pl (thrownS c q) w2 → Q (thrownS c q) w2 := by intro c q w2 HE; unfold thrownS; go_wp2; exact ⟨rfl, HE⟩) : Calls Tryz.prog 27 #[.pointer (some ⟨p, 0, none⟩), .int .i64 c] wk Q := by
 obtain ⟨nk, E, hG⟩ := HG.out;refine (spfail_any hG.go.st c).mono ?_;rintro e w2 ⟨rfl, hb⟩;exact bad _ _ _ (hG.go.bad (hb.mono hG.go.st.nN) hG.eq)
theorem bind_ite {c : Prop} [Decidable c] (a b : Ps.Res) (g : List Nat → Ps.St → Ps.Res) : (if c then a else b).bind g = if c then a.bind g else b.bind g := by split <;> rfl
/-- A loop that reads by fuel: 'lp 0' is out; 'lp (m + 1)' answers 'acc' where 'c' is so, else it goes on. -/
def Lp (c : Ps.St → Bool) (lp : Nat → List Nat → Ps.St → Ps.Res) (m : Nat) (acc : List Nat) (s : Ps.St) : Ps.Res := if c s = true then .ok acc s else lp m acc s
theorem lpR {c : Ps.St → Bool} {lp : Nat → List Nat → Ps.St → Ps.Res} {m : Nat} {acc : List Nat} {g : List Nat → Ps.St → Ps.Res} : (Lp c lp m acc s).bind g = if c s = true then g acc s else (lp m acc s).bind g := bind_ite _ _ _
theorem lpN {lp : Nat → List Nat → Ps.St → Ps.Res} {m : Nat} {acc : List Nat} {g : List Nat → Ps.St → Ps.Res} (h0 : ∀ a s, lp 0 a s = .out) (h : Hid (Sx N p X S w tv nv D val pl dz ko wk s L ((lp m acc s).bind g))) : ∃ k, m = k + 1 := by
 obtain ⟨_, _, h⟩ := h.out
 cases m with
 | zero => exact absurd (h.eq.trans (by rw [h0]; rfl)) h.ne
 | succ k => exact ⟨k, rfl⟩
theorem lpT {c : Ps.St → Bool} {lp : Nat → List Nat → Ps.St → Ps.Res} {one : Nat → List Nat → Ps.St → Ps.Res} {m : Nat} {acc : List Nat} {g : List Nat → Ps.St → Ps.Res} (h0 : ∀ a s, lp 0 a s = .out) (hs : ∀ m a s, lp (m + 1) a s = if c s = true then .ok a s else one m a s) (h : Hid (Sx N p X S w tv nv D val pl dz ko wk s L ((lp m acc s).bind g))) : Hid (Sx N p X S w tv nv D val pl dz ko wk s L ((Lp c lp m acc s).bind g)) := by
 obtain ⟨k, rfl⟩ := lpN h0 h;refine re ?_ h;rw [lpR, hs, bind_ite]
 split <;> rfl

/-! ### Boxes, rows, words -/
theorem k0 (h : Hid (Sx N p X S w tv nv D val pl dz ko wk s L r)) : Hid (Sx N p X S w tv nv D val pl dz ko wk s (.kd (.slice none 0 0) [] :: L) r) := by
 obtain ⟨nk, E, h⟩ := h.out;exact zh ⟨nk, E, h.go, List.forall_mem_cons.2 ⟨Kd.nil _ _ _ _, h.its⟩, List.pairwise_cons.2 ⟨fun y _ => by cases y <;> trivial, h.off⟩, h.eq, h.ne, h.d0, h.dp⟩
/-- The first two change places. -/
theorem sw {y : It} (h : Hid (Sx N p X S w tv nv D val pl dz ko wk s (x :: y :: L) r)) : Hid (Sx N p X S w tv nv D val pl dz ko wk s (y :: x :: L) r) := by
 obtain ⟨nk, E, h⟩ := h.out;have h1 := List.pairwise_cons.1 h.off;have h2 := List.pairwise_cons.1 h1.2;refine zh ⟨nk, E, h.go, fun z hz => h.its z ?_, List.pairwise_cons.2 ⟨fun z hz => ?_, List.pairwise_cons.2 ⟨fun z hz => h1.1 z (List.mem_cons_of_mem _ hz), h2.2⟩⟩, h.eq, h.ne, h.d0, h.dp⟩
 ·rcases List.mem_cons.1 hz with rfl | hz
  ·exact List.mem_cons_of_mem _ (List.mem_cons_self ..)
  ·rcases List.mem_cons.1 hz with rfl | hz
   ·exact List.mem_cons_self ..
   ·exact List.mem_cons_of_mem _ (List.mem_cons_of_mem _ hz)
 ·rcases List.mem_cons.1 hz with rfl | hz
  ·have h3 := h1.1 y (List.mem_cons_self ..)
   cases z <;> cases y <;> first | trivial | exact fun e => h3 e.symm
  ·exact h2.1 z hz
/-- The first is wanted no more. -/
theorem po (h : Hid (Sx N p X S w tv nv D val pl dz ko wk s (x :: L) r)) : Hid (Sx N p X S w tv nv D val pl dz ko wk s L r) := by
 obtain ⟨nk, E, h⟩ := h.out;exact zh ⟨nk, E, h.go, (List.forall_mem_cons.1 h.its).2, (List.pairwise_cons.1 h.off).2, h.eq, h.ne, h.d0, h.dp⟩
theorem bn (c : Array Value) (t : TypeId) (h : Hid (Sx N p X S w tv nv D val pl dz ko wk s L r)) (ht : 3 ≠ t := by decide) : ∃ w2 q, wk.alloc (.cells c t) = w2 ∧ wk.heap.size = q ∧ q < w2.heap.size ∧ Hid (Sx N p X S w tv nv D val pl dz ko w2 s (.bx q c t :: L) r) := by
 obtain ⟨nk, E, h⟩ := h.out;have h2 := h.below ((Below.refl _ _).alloc (Nat.le_refl _) (.cells c t));refine ⟨_, _, rfl, rfl, by simp, zh ⟨nk, E, h2.go, List.forall_mem_cons.2 ⟨⟨Bx.new h.go c t, ht⟩, h2.its⟩, List.pairwise_cons.2 ⟨fun y hy => ?_, h.off⟩, h.eq, h.ne, h.d0, h.dp⟩⟩;have h3 := h.its y hy
 cases y with
 | bx q2 c2 t2 => exact fun e => absurd h3.1.lt (by rw [← e]; exact Nat.lt_irrefl _)
 | kd u l => trivial
theorem rn (l : List Nat) (hl : l.length ≤ 1000) (h : Hid (Sx N p X S w tv nv D val pl dz ko wk s L r)) : ∃ w2 q, wk.alloc (.cells (kidVals l).toArray 3) = w2 ∧ wk.heap.size = q ∧ q < w2.heap.size ∧ Hid (Sx N p X S w tv nv D val pl dz ko w2 s (.kd (.slice (some ⟨q, 0, none⟩) l.length l.length) l :: L) r) := by
 obtain ⟨nk, E, h⟩ := h.out;have h2 := h.below ((Below.refl _ _).alloc (Nat.le_refl _) (.cells (kidVals l).toArray 3));exact ⟨_, _, rfl, rfl, by simp, zh ⟨nk, E, h2.go, List.forall_mem_cons.2 ⟨Kd.new h.go l hl, h2.its⟩, List.pairwise_cons.2 ⟨fun y _ => by cases y <;> trivial, h.off⟩, h.eq, h.ne, h.d0, h.dp⟩⟩
theorem ro1 (a : Nat) (h : Hid (Sx N p X S w tv nv D val pl dz ko wk s L r)) : ∃ w2 q, wk.alloc (.cells #[.int .i64 (a : Int)] 3) = w2 ∧ wk.heap.size = q ∧ q < w2.heap.size ∧ Hid (Sx N p X S w tv nv D val pl dz ko w2 s (.kd (.slice (some ⟨q, 0, none⟩) 1 1) [a] :: L) r) := rn [a] (by simp) h
theorem ro2 (a b : Nat) (h : Hid (Sx N p X S w tv nv D val pl dz ko wk s L r)) : ∃ w2 q, wk.alloc (.cells #[.int .i64 (a : Int), .int .i64 (b : Int)] 3) = w2 ∧ wk.heap.size = q ∧ q < w2.heap.size ∧ Hid (Sx N p X S w tv nv D val pl dz ko w2 s (.kd (.slice (some ⟨q, 0, none⟩) 2 2) [a, b] :: L) r) := rn [a, b] (by simp) h
theorem ro3 (a b c : Nat) (h : Hid (Sx N p X S w tv nv D val pl dz ko wk s L r)) : ∃ w2 q, wk.alloc (.cells #[.int .i64 (a : Int), .int .i64 (b : Int), .int .i64 (c : Int)] 3) = w2 ∧ wk.heap.size = q ∧ q < w2.heap.size ∧ Hid (Sx N p X S w tv nv D val pl dz ko w2 s (.kd (.slice (some ⟨q, 0, none⟩) 3 3) [a, b, c] :: L) r) := rn [a, b, c] (by simp) h
theorem bt (t : Lx.Tok) (h : Hid (Sx N p X S w tv nv D val pl dz ko wk s L r)) : ∃ w2 q, wk.alloc (.cells #[.int .i64 t.kind, .string (str t.text), .int .i64 t.num, .int .i64 (t.pos : Int)] 95) = w2 ∧ wk.heap.size = q ∧ q < w2.heap.size ∧ Hid (Sx N p X S w tv nv D val pl dz ko w2 s (.bx q #[.int .i64 t.kind, .string (str t.text), .int .i64 t.num, .int .i64 (t.pos : Int)] 95 :: L) r) := bn _ _ h
/-- The same, the world left as it is spelled. -/
theorem bR (c : Array Value) (t : TypeId) (h : Hid (Sx N p X S w tv nv D val pl dz ko wk s L r)) (ht : 3 ≠ t := by decide) : Hid (Sx N p X S w tv nv D val pl dz ko (wk.alloc (.cells c t)) s (.bx wk.heap.size c t :: L) r) := by
 obtain ⟨_, _, rfl, rfl, _, h2⟩ := bn c t h ht;exact h2
theorem rR (a : Nat) (h : Hid (Sx N p X S w tv nv D val pl dz ko wk s L r)) : Hid (Sx N p X S w tv nv D val pl dz ko (wk.alloc (.cells #[.int .i64 (a : Int)] 3)) s (.kd (.slice (some ⟨wk.heap.size, 0, none⟩) 1 1) [a] :: L) r) := by
 obtain ⟨_, _, rfl, rfl, _, h2⟩ := ro1 a h;exact h2
theorem rR2 (a b : Nat) (h : Hid (Sx N p X S w tv nv D val pl dz ko wk s L r)) : Hid (Sx N p X S w tv nv D val pl dz ko (wk.alloc (.cells #[.int .i64 (a : Int), .int .i64 (b : Int)] 3)) s (.kd (.slice (some ⟨wk.heap.size, 0, none⟩) 2 2) [a, b] :: L) r) := by
 obtain ⟨_, _, rfl, rfl, _, h2⟩ := ro2 a b h;exact h2
theorem rbR (a : Nat) (c : Array Value) (t : TypeId) (h : Hid (Sx N p X S w tv nv D val pl dz ko wk s L r)) (ht : 3 ≠ t := by decide) : Hid (Sx N p X S w tv nv D val pl dz ko ((wk.alloc (.cells #[.int .i64 (a : Int)] 3)).alloc (.cells c t)) s (.bx (wk.heap.size + 1) c t :: .kd (.slice (some ⟨wk.heap.size, 0, none⟩) 1 1) [a] :: L) r) := by
 have h2 := bR c t (rR a h) ht
 rwa [show (wk.alloc (.cells #[.int .i64 (a : Int)] 3)).heap.size = wk.heap.size + 1 by simp] at h2
theorem gz {ad : Addr} {v : Value} (h : Hid (Sx N p X S w tv nv D val pl dz ko (wk.setCell ad v) s L r)) : ∃ w2, wk.setCell ad v = w2 ∧ wk.heap.size = w2.heap.size ∧ Hid (Sx N p X S w tv nv D val pl dz ko w2 s L r) := ⟨_, rfl, by simp, h⟩
variable {q : Nat} {c c2 : Array Value} {t : TypeId}
/-- What the first box (the second ..) holds. -/
theorem ce0 (h : Hid (Sx N p X S w tv nv D val pl dz ko wk s (.bx q c t :: L) r)) : (∀ i, wk.cell? ⟨q, i, none⟩ = c[i]?) ∧ (∀ i, wk.frozen? ⟨q, i, none⟩ = false) ∧ q < wk.heap.size := by
 obtain ⟨nk, E, h⟩ := h.out;have h1 : Bx w wk nk q c t := (h.its _ (List.mem_cons_self ..)).1;exact ⟨h1.cell, h1.free, h1.lt⟩
theorem ce1 (h : Hid (Sx N p X S w tv nv D val pl dz ko wk s (x :: .bx q c t :: L) r)) : (∀ i, wk.cell? ⟨q, i, none⟩ = c[i]?) ∧ (∀ i, wk.frozen? ⟨q, i, none⟩ = false) ∧ q < wk.heap.size := ce0 (po h)
theorem ce2 {y : It} (h : Hid (Sx N p X S w tv nv D val pl dz ko wk s (x :: y :: .bx q c t :: L) r)) : (∀ i, wk.cell? ⟨q, i, none⟩ = c[i]?) ∧ (∀ i, wk.frozen? ⟨q, i, none⟩ = false) ∧ q < wk.heap.size := ce1 (po h)
theorem so0 (i : Nat) (v : Value) (h : Hid (Sx N p X S w tv nv D val pl dz ko wk s (.bx q c t :: L) r)) (e : c.setIfInBounds i v = c2 := by simp only [List.setIfInBounds_toArray, List.set_cons_zero, List.set_cons_succ]; rfl) : Hid (Sx N p X S w tv nv D val pl dz ko (wk.setCell ⟨q, i, none⟩ v) s (.bx q c2 t :: L) r) := by
 obtain ⟨nk, E, h⟩ := h.out;subst e;have h1 : Bx w wk nk q c t ∧ 3 ≠ t := h.its _ (List.mem_cons_self ..);have h2 := List.pairwise_cons.1 h.off;refine zh ⟨nk, E, h1.1.go h.go h1.2 i v, List.forall_mem_cons.2 ⟨⟨h1.1.set i v, h1.2⟩, fun y hy => ?_⟩, List.pairwise_cons.2 ⟨fun y hy => ?_, h2.2⟩, h.eq, h.ne, h.d0, h.dp⟩
 ·have h3 := h.its y (List.mem_cons_of_mem _ hy);have h4 := h2.1 y hy
  cases y with
  | bx q3 c3 t3 => exact ⟨h3.1.far (fun e => h4 e.symm) i v, h3.2⟩
  | kd u l => exact Kd.set h3 h1.1.blk h1.2 i v
 ·have h4 := h2.1 y hy
  cases y with
  | bx q3 c3 t3 => exact h4
  | kd u l => trivial
theorem so1 (i : Nat) (v : Value) (h : Hid (Sx N p X S w tv nv D val pl dz ko wk s (x :: .bx q c t :: L) r)) (e : c.setIfInBounds i v = c2 := by simp only [List.setIfInBounds_toArray, List.set_cons_zero, List.set_cons_succ]; rfl) : Hid (Sx N p X S w tv nv D val pl dz ko (wk.setCell ⟨q, i, none⟩ v) s (x :: .bx q c2 t :: L) r) := sw (so0 i v (sw h) e)
theorem its_farP {F : List (Ps.Nd × Value)} (hG : Go N p X S w tv nv D wk s nk E) (h : ∀ x ∈ L, x.Ok N w wk nk F) (i : Nat) (v : Value) : ∀ x ∈ L, x.Ok N w (wk.setCell ⟨p, i, none⟩ v) nk F := fun y hy => by
 have h3 := h y hy
 cases y with
 | bx q3 c3 t3 => exact ⟨h3.1.farP hG.pl i v, h3.2⟩
 | kd u l => exact Kd.set h3 hG.st.blk (by decide) i v
/-- 'p.deep--' -/
theorem dd {k : Nat} (h : Hid (Sx N p X S w tv nv D val pl dz (some (k + 1)) wk s L r)) : Hid (Sx N p X S w tv nv D val pl dz (some k) (wk.setCell ⟨p, 3, none⟩ (.int .i64 (s.deep - 1))) (Ps.down s) L r) := by
 have h1 := pdd h;obtain ⟨nk, E, h⟩ := h.out;exact zh ⟨nk, E, h.go.deep (d := s.deep - 1) (by omega) (by omega), its_farP h.go h.its _ _, h.off, h.eq, h.ne, h.d0, fun k2 e => by
  cases e
  have h4 := h.dp _ rfl
  show s.deep - 1 = _
  omega⟩
/-- 'p.i++', 'p.i += 2' -/
theorem ia (hi : s.i < X.toks.length) (h : Hid (Sx N p X S w tv nv D val pl dz ko wk s L r)) : Hid (Sx N p X S w tv nv D val pl dz ko (wk.setCell ⟨p, 2, none⟩ (.int .i64 ((s.i : Int) + 1))) (Ps.adv s) L r) := by
 obtain ⟨nk, E, h⟩ := h.out;exact zh ⟨nk, E, h.go.adv hi, its_farP h.go h.its _ _, h.off, h.eq, h.ne, h.d0, h.dp⟩
theorem ia2 (hi : s.i + 2 ≤ X.toks.length) (h : Hid (Sx N p X S w tv nv D val pl dz ko wk s L r)) : Hid (Sx N p X S w tv nv D val pl dz ko (wk.setCell ⟨p, 2, none⟩ (.int .i64 ((s.i : Int) + 2))) (Ps.adv2 s) L r) := by
 obtain ⟨nk, E, h⟩ := h.out;exact zh ⟨nk, E, h.go.adv2 hi, its_farP h.go h.its _ _, h.off, h.eq, h.ne, h.d0, h.dp⟩
theorem iw (k : Nat) (hi : s.i + k ≤ X.toks.length) (h : Hid (Sx N p X S w tv nv D val pl dz ko wk s L r)) : IntKind.i64.wrap ((s.i : Int) + (k : Int)) = (s.i : Int) + (k : Int) := by
 have := pn h;exact IntWalk.i64_in _ (by omega)

theorem dw (h : Hid (Sx N p X S w tv nv D val pl dz ko wk s L r)) : Hid (Sx N p X S w tv nv D val pl dz ko wk.drew s L r) := by
 obtain ⟨nk, E, h⟩ := h.out;exact zh ⟨nk, E, h.below (Below.refl _ _).drew⟩
/-- The token behind, where there is one. -/
theorem nx1 (Y : List UInt8) (h : Hid (Sx N p X S w tv nv D val pl dz ko wk s L r)) (hj : s.i + 1 < X.toks.length) : ∃ (g gc : Nat) (tx : List UInt8), IntKind.i64.wrap ((s.i : Int) + 1) = ((s.i + 1 : Nat) : Int) ∧ (0 : Int) ≤ (s.i : Int) + 1 ∧ (s.i : Int) + 1 < (X.toks.length : Int) ∧ decide ((s.i : Int) + 1 < (X.toks.length : Int)) = true ∧
  wk.cell? ⟨p, 1, none⟩ = some (.slice (some ⟨g, 0, none⟩) X.toks.length gc) ∧ wk.cell? ⟨p, 2, none⟩ = some (.int .i64 (s.i : Int)) ∧ wk.cell? ⟨g, (s.i + 1) * 4 + 1, none⟩ = some (.string (str tx)) ∧ ((str tx).toList == Y) = Ps.nextK X s Y := by
 have h1 := pn h;obtain ⟨nk, E, h⟩ := Sx.st h;have ht := h.toks;have hc := h.c1;obtain ⟨g, gc, rfl⟩ := own_lit ht (by omega);refine ⟨g, gc, (X.toks.getD (s.i + 1) (Ps.noTok X)).text, by rw [IntWalk.i64_in _ (by omega)]; rfl, by omega, by omega, by simp; omega, hc, h.c2, (toks_get ht hj (Ps.noTok X)).2.1, ?_⟩;rw [by_str_eq];unfold Ps.nextK;simp [hj]
theorem nx0 (Y : List UInt8) (h : Hid (Sx N p X S w tv nv D val pl dz ko wk s L r)) (hj : ¬ s.i + 1 < X.toks.length) : ∃ ua uc, IntKind.i64.wrap ((s.i : Int) + 1) = ((s.i + 1 : Nat) : Int) ∧ decide ((s.i : Int) + 1 < (X.toks.length : Int)) = false ∧
  wk.cell? ⟨p, 1, none⟩ = some (.slice ua X.toks.length uc) ∧ wk.cell? ⟨p, 2, none⟩ = some (.int .i64 (s.i : Int)) ∧ Ps.nextK X s Y = false := by
 have h1 := pn h;obtain ⟨nk, E, h⟩ := Sx.st h;have hc := h.c1;obtain ⟨ua, uc, rfl⟩ := own_slice h.toks rfl;refine ⟨ua, uc, by rw [IntWalk.i64_in _ (by omega)]; rfl, by simp; omega, hc, h.c2, ?_⟩;unfold Ps.nextK;simp [hj]

theorem iw1 (hi : s.i < X.toks.length) (h : Hid (Sx N p X S w tv nv D val pl dz ko wk s L r)) : IntKind.i64.wrap ((s.i : Int) + 1) = (s.i : Int) + 1 := iw 1 hi h
theorem nextK_lt {Y : List UInt8} (h : Hid (Ps.nextK X s Y = true)) : s.i + 2 ≤ X.toks.length := by
 have h1 := h.out;unfold Ps.nextK at h1;simp only [Bool.and_eq_true, decide_eq_true_eq] at h1;omega
theorem iw2 {Y : List UInt8} (h : Hid (Ps.nextK X s Y = true)) (hG : Hid (Sx N p X S w tv nv D val pl dz ko wk s L r)) : IntKind.i64.wrap ((s.i : Int) + 2) = (s.i : Int) + 2 := iw 2 (nextK_lt h) hG

/-! ### Regions whose order is drawn -/
section
variable {id : Nat} {ops : Array Oper} {Z : Exit → Act → World → Prop} {a : Act} {md : Region.Mode} {fuel : Nat} {listed : Array Bool} {G : World → Prop}
/-- A region is entered; what is to be kept in it is named. -/
theorem hdS (G : World → Prop) (hS : ∀ w2, Hid (Sx N p X S w tv nv D val pl dz ko w2 s L r) → (∀ a, w2.cell? a = wk.cell? a) → G w2) (h : ∀ w2, Hid (Sx N p X S w tv nv D val pl dz ko w2 s L r) → G w2 → wpAnyH Tryz.prog .any ops Z G ops.size (Array.replicate ops.size false) a w2) (hm : Tryz.prog.follows .mixedOrders = true := by kernel_rfl) : Hid (Sx N p X S w tv nv D val pl dz ko wk s L r) → (Code.region id ops true).wp Tryz.prog Z a wk := by
 intro HG;obtain ⟨nk, E, h2⟩ := HG.out;have h3 : Hid (Sx N p X S w tv nv D val pl dz ko wk.drew s L r) := zh ⟨nk, E, h2.below (Below.refl _ _).drew⟩;exact wp_region_held_drew (S := G) hm (hS _ h3 fun _ => rfl) (fun hg => h _ h3 hg)
/-- The same: all boxes are kept. -/
theorem hd (h : ∀ w2, Hid (Sx N p X S w tv nv D val pl dz ko w2 s L r) → AllC L w2 → wpAnyH Tryz.prog .any ops Z (AllC L) ops.size (Array.replicate ops.size false) a w2) (hm : Tryz.prog.follows .mixedOrders = true := by kernel_rfl) : Hid (Sx N p X S w tv nv D val pl dz ko wk s L r) → (Code.region id ops true).wp Tryz.prog Z a wk :=
 hdS (AllC L) (fun _ h3 _ => bk0 h3) h hm
theorem ta (i : Nat) {oi : Oper} {v : Value} {l2 : Array Bool} {a2 : Act}
  (h : wpAnyH Tryz.prog md ops Z (AllC L) fuel l2 a2 wk)
  (hi : ops[i]? = some oi := by rfl) (hs : Region.noSelect ops = true := by kernel_rfl) (hf : Region.free md ops listed i = true := by kernel_rfl) (hr : (Region.ready md ops listed).contains i = true := by kernel_rfl)
  (hQ : ∀ c a w, Z (.panic c) (a.put oi.dst v) w → Z (.panic c) a w := by exact fun _ _ _ h => h)
  (hw : Region.wanted oi (yielded ops a.tmps) = true := by rfl)
  (hy : ∀ w, AllC L w → (execOp a.eval oi).run Tryz.prog w = .ok (.value v) w := by intro w hSw; simp only [AllC, and_true] at hSw; (first | (go_simp; done) | (go_simp; with_reducible rfl)))
  (hS : AllC L wk := by assumption)
  (ha : a.put oi.dst v = a2 := by simp only [Act.put, List.getElem_toArray, List.getElem_cons_succ, List.getElem_cons_zero, List.setIfInBounds_toArray, List.set_cons_zero, List.set_cons_succ]; rfl)
  (hl : listed.setIfInBounds i true = l2 := by first | (simp only [List.setIfInBounds_toArray, List.set_cons_zero, List.set_cons_succ]; rfl) | rfl) : wpAnyH Tryz.prog md ops Z (AllC L) (fuel + 1) listed a wk := by
 subst ha hl;exact wpAnyH_take hi hs hf hr hQ (Or.inl ⟨hw, hy⟩) hS h
theorem rd1 (i : Nat) {o : Oper} (h : ∀ K' : Act → World → Prop, Shut (∀ a w, G w → (G w → wpAnyH Tryz.prog md ops Z G fuel (listed.setIfInBounds i true) a w) → K' a w) → if Region.wanted o (yielded ops a.tmps) = true then Oper.wp Tryz.prog o a wk K' Z else K' (a.put o.dst undef) wk)
  (ho : ops[i]? = some o := by rfl) (hr : Region.ready md ops listed = [i] := by kernel_rfl) : wpAnyH Tryz.prog md ops Z G (fuel + 1) listed a wk :=
 wpAnyH_ready hr (by simp) (AllReadyH.cons ho h AllReadyH.nil)
theorem rd2 (i j : Nat) {o o2 : Oper} (h : ∀ K' : Act → World → Prop, Shut (∀ a w, G w → (G w → wpAnyH Tryz.prog md ops Z G fuel (listed.setIfInBounds i true) a w) → K' a w) → if Region.wanted o (yielded ops a.tmps) = true then Oper.wp Tryz.prog o a wk K' Z else K' (a.put o.dst undef) wk)
  (h2 : ∀ K' : Act → World → Prop, Shut (∀ a w, G w → (G w → wpAnyH Tryz.prog md ops Z G fuel (listed.setIfInBounds j true) a w) → K' a w) → if Region.wanted o2 (yielded ops a.tmps) = true then Oper.wp Tryz.prog o2 a wk K' Z else K' (a.put o2.dst undef) wk)
  (ho : ops[i]? = some o := by rfl) (ho2 : ops[j]? = some o2 := by rfl) (hr : Region.ready md ops listed = [i, j] := by kernel_rfl) : wpAnyH Tryz.prog md ops Z G (fuel + 1) listed a wk :=
 wpAnyH_ready hr (by simp) (AllReadyH.cons ho h (AllReadyH.cons ho2 h2 AllReadyH.nil))
theorem dn (h : Z .normal a wk) (hr : Region.ready md ops listed = [] := by kernel_rfl) : wpAnyH Tryz.prog md ops Z G fuel listed a wk := wpAnyH_done hr h _
theorem hdA (h : ∀ w2, Hid (Sx N p X S w tv nv D val pl dz ko w2 s L r) → wpAny Tryz.prog .any ops Z ops.size (Array.replicate ops.size false) a w2) (hm : Tryz.prog.follows .mixedOrders = true := by kernel_rfl) : Hid (Sx N p X S w tv nv D val pl dz ko wk s L r) → (Code.region id ops true).wp Tryz.prog Z a wk := fun HG =>
 wp_region_any hm (h _ (dw HG))
theorem tq (i : Nat) {oi : Oper} {v : Value} {l2 : Array Bool} {a2 : Act}
  (h : wpAny Tryz.prog md ops Z fuel l2 a2 wk)
  (hi : ops[i]? = some oi := by rfl) (hs : Region.noSelect ops = true := by kernel_rfl) (hf : Region.free md ops listed i = true := by kernel_rfl) (hr : (Region.ready md ops listed).contains i = true := by kernel_rfl)
  (hQ : ∀ c a w, Z (.panic c) (a.put oi.dst v) w → Z (.panic c) a w := by exact fun _ _ _ h => h)
  (hw : Region.wanted oi (yielded ops a.tmps) = true := by rfl)
  (hy : ∀ w, (execOp a.eval oi).run Tryz.prog w = .ok (.value v) w := by intro w; (first | (go_simp; done) | (go_simp; with_reducible rfl)))
  (ha : a.put oi.dst v = a2 := by simp only [Act.put, List.getElem_toArray, List.getElem_cons_succ, List.getElem_cons_zero, List.setIfInBounds_toArray, List.set_cons_zero, List.set_cons_succ]; rfl)
  (hl : listed.setIfInBounds i true = l2 := by first | (simp only [List.setIfInBounds_toArray, List.set_cons_zero, List.set_cons_succ]; rfl) | rfl) : wpAny Tryz.prog md ops Z (fuel + 1) listed a wk := by
 subst ha hl;exact wpAny_take hi hs hf hr hQ (Or.inl ⟨hw, hy⟩) h
theorem ra1 (i : Nat) {o : Oper} (h : ∀ K' : Act → World → Prop, (∀ a w, wpAny Tryz.prog md ops Z fuel (listed.setIfInBounds i true) a w → K' a w) → if Region.wanted o (yielded ops a.tmps) = true then Oper.wp Tryz.prog o a wk K' Z else K' (a.put o.dst undef) wk)
  (ho : ops[i]? = some o := by rfl) (hr : Region.ready md ops listed = [i] := by kernel_rfl) : wpAny Tryz.prog md ops Z (fuel + 1) listed a wk :=
 wpAny_ready hr (by simp) (AllReady.cons ho h AllReady.nil)
theorem ra2 (i j : Nat) {o o2 : Oper} (h : ∀ K' : Act → World → Prop, (∀ a w, wpAny Tryz.prog md ops Z fuel (listed.setIfInBounds i true) a w → K' a w) → if Region.wanted o (yielded ops a.tmps) = true then Oper.wp Tryz.prog o a wk K' Z else K' (a.put o.dst undef) wk)
  (h2 : ∀ K' : Act → World → Prop, (∀ a w, wpAny Tryz.prog md ops Z fuel (listed.setIfInBounds j true) a w → K' a w) → if Region.wanted o2 (yielded ops a.tmps) = true then Oper.wp Tryz.prog o2 a wk K' Z else K' (a.put o2.dst undef) wk)
  (ho : ops[i]? = some o := by rfl) (ho2 : ops[j]? = some o2 := by rfl) (hr : Region.ready md ops listed = [i, j] := by kernel_rfl) : wpAny Tryz.prog md ops Z (fuel + 1) listed a wk :=
 wpAny_ready hr (by simp) (AllReady.cons ho h (AllReady.cons ho2 h2 AllReady.nil))
theorem dA (h : Z .normal a wk) (hr : Region.ready md ops listed = [] := by kernel_rfl) : wpAny Tryz.prog md ops Z fuel listed a wk := wpAny_done hr h _
/-- One number more in the first row: as a step of a list, as a step of such a region. -/
theorem apG {u : Value} {l : List Nat} {k : Nat} {w8 : World} {g cap : Nat} (h : Hid (Sx N p X S w tv nv D val pl dz ko wk s (.kd u l :: L) r)) (hL : bxs L = L) (hown : w8.ownsRow N 3 1 (.slice (some ⟨g, 0, none⟩) (l.length + 1) cap) (l.length + 1) (kidVals l ++ kidVals [k])) (hgrow : (wk.alloc (.cells #[.int .i64 (k : Int)] 3)).grownBy w8 u.ownBlock) (hat : u.ownBlock = some g ∨ g = wk.heap.size + 1) :
  Hid (Sx N p X S w tv nv D val pl dz ko w8 s (.kd (.slice (some ⟨g, 0, none⟩) (l.length + 1) cap) (l ++ [k]) :: L) r) := by
 obtain ⟨nk, E, h⟩ := h.out;have hk : Kd N w wk (D ++ E) u l := h.its _ (List.mem_cons_self ..);obtain ⟨a1, a2, a3⟩ := hk.grown (l2 := [k]) h.go hown rfl hgrow hat;refine zh ⟨nk, E, a1, List.forall_mem_cons.2 ⟨a2, fun y hy => ?_⟩, List.pairwise_cons.2 ⟨fun y _ => by cases y <;> trivial, (List.pairwise_cons.1 h.off).2⟩, h.eq, h.ne, h.d0, h.dp⟩;obtain ⟨_, q, c, t, rfl⟩ := bxs_mem (hL ▸ hy);have h3 := h.its _ (List.mem_cons_of_mem _ hy);exact ⟨⟨(a3 q h3.1.lt (fun e => own_ne_blk hk.row h3.1.blk h3.2 e)).trans h3.1.blk, h3.1.lo, h3.1.ne⟩, h3.2⟩
theorem apL {u : Value} {l : List Nat} (k : Nat) {rest : List Oper} {o : Oper} {s0 x0 : Operand} (hl : l.length ≤ 1000000)
  (h : ∀ g cap w8, Hid (Sx N p X S w tv nv D val pl dz ko w8 s (.kd (.slice (some ⟨g, 0, none⟩) (l.length + 1) cap) (l ++ [k]) :: L) r) → wpList Tryz.prog ops Z rest (a.put o.dst (.slice (some ⟨g, 0, none⟩) (l.length + 1) cap)) w8)
  (hL : bxs L = L := by rfl) (hgd : o.guard = none := by rfl) (ho : o.op = .call { callee := .builtin .append, args := #[s0, x0], argTypes := #[39, 39] } := by rfl) (hs : a.eval s0 = u := by rfl) (hx : a.eval x0 = .slice (some ⟨wk.heap.size, 0, none⟩) 1 1 := by rfl) :
  Hid (Sx N p X S w tv nv D val pl dz ko wk s (.kd u l :: L) r) → wpList Tryz.prog ops Z (o :: rest) a (wk.alloc (.cells #[.int .i64 (k : Int)] 3)) := by
 intro HG;obtain ⟨nk, E, hG⟩ := HG.out;have hk : Kd N w wk (D ++ E) u l := hG.its _ (List.mem_cons_self ..);obtain ⟨i0, hi0, hz0, hz1, hz2⟩ := info_parts int_info;have hN := hG.go.st.nN;refine wpList_append_lies _ hgd s0 x0 39 ho N 3 i0 _ 1 8 Tryz.underlying39 hi0 hz0 hz1 hz2 rfl (by omega) u l.length (kidVals l) hs (hk.alloc _).row ⟨wk.heap.size, 0, none⟩ 1 1 [.int .i64 (k : Int)] hx rfl (World.news_of_block (cs := #[.int .i64 (k : Int)]) (t := 3) (fr := (0, 0)) (heap_alloc_new _ _)) (by intro x hx; simp at hx; subst hx; rfl) (by omega) (by unfold maxLen; omega) (by omega) (by simp; omega) (wk.heap.size + 1) (by simp) ?_;intro g cap w8 hown hgrow hat _;exact h g cap w8 (apG HG hL hown hgrow hat)
theorem apS {u : Value} {l : List Nat} (k : Nat) {o : Oper} {s0 x0 : Operand} {A : Prop} {K' : Act → World → Prop} (hl : l.length ≤ 1000000)
  (h : ∀ g cap w8, Hid (Sx N p X S w tv nv D val pl dz ko w8 s (.kd (.slice (some ⟨g, 0, none⟩) (l.length + 1) cap) (l ++ [k]) :: L) r) → K' (a.put o.dst (.slice (some ⟨g, 0, none⟩) (l.length + 1) cap)) w8)
  (hL : bxs L = L := by rfl) (hgd : o.guard = none := by rfl) (ho : o.op = .call { callee := .builtin .append, args := #[s0, x0], argTypes := #[39, 39] } := by rfl) (hs : a.eval s0 = u := by rfl) (hx : a.eval x0 = .slice (some ⟨wk.heap.size, 0, none⟩) 1 1 := by rfl) :
  Hid (Sx N p X S w tv nv D val pl dz ko wk s (.kd u l :: L) r) → if Region.wanted o (yielded ops a.tmps) = true then Oper.wp Tryz.prog o a (wk.alloc (.cells #[.int .i64 (k : Int)] 3)) K' Z else A := by
 intro HG;obtain ⟨nk, E, hG⟩ := HG.out;have hk : Kd N w wk (D ++ E) u l := hG.its _ (List.mem_cons_self ..);obtain ⟨i0, hi0, hz0, hz1, hz2⟩ := info_parts int_info;have hN := hG.go.st.nN;refine step_append_lies _ hgd s0 x0 39 ho N 3 i0 _ 1 8 Tryz.underlying39 hi0 hz0 hz1 hz2 rfl (by omega) u l.length (kidVals l) hs (hk.alloc _).row ⟨wk.heap.size, 0, none⟩ 1 1 [.int .i64 (k : Int)] hx rfl (World.news_of_block (cs := #[.int .i64 (k : Int)]) (t := 3) (fr := (0, 0)) (heap_alloc_new _ _)) (by intro x hx; simp at hx; subst hx; rfl) (by omega) (by unfold maxLen; omega) (by omega) (by simp; omega) (wk.heap.size + 1) (by simp) ?_;intro g cap w8 hown hgrow hat _;exact h g cap w8 (apG HG hL hown hgrow hat)
end
end
end Go.Proofs.YtjickecdkmljpaaGreatDoor
