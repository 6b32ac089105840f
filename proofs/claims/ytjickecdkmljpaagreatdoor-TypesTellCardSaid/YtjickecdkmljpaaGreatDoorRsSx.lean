/-
  PROVED HERE: where a function of the reference's parser stands, its own boxes and rows, and what it still has to do, in one; the steps of its walk by that. No condition beyond the lemmas' own premises.
-/
import Derived.Test.YtjickecdkmljpaaGreatDoorPsTk
import Derived.Test.YtjickecdkmljpaaGreatDoorPsSx
import Derived.Test.YtjickecdkmljpaaGreatDoorRsA
import Derived.Test.YtjickecdkmljpaaGreatDoorRsP3
namespace Go.Proofs.YtjickecdkmljpaaGreatDoor.R
open Go.RowKit

/-- The contract of a function of the parser's that answers one node. -/
def Cn (X : Ps.Src) (S : ByteArray) (f : FuncId) (pf : Rs.St → Rs.Res) (xs : List Value := []) : Prop :=
 (∀ (N p : Nat) (w : World) (s : Rs.St) (tv nv : Value) (D : List (Ps.Nd × Value)), PSt N p w X S s tv nv D → pf s ≠ .out → Calls Tryz.prog f (.pointer (some ⟨p, 0, none⟩) :: xs).toArray w (Out N p X S w tv nv D oneV (pf s))) ∧ ∀ s, Rs.One (pf s)
/-- The contract of 'list'. -/
def Ln (X : Ps.Src) (S : ByteArray) (k : Int) (pf : Rs.St → Rs.Res) : Prop :=
 ∀ (N p : Nat) (w : World) (s : Rs.St) (tv nv : Value) (D : List (Ps.Nd × Value)), PSt N p w X S s tv nv D → pf s ≠ .out → Calls Tryz.prog 159 #[.pointer (some ⟨p, 0, none⟩), .int .i64 k] w (OutL N p X S w tv nv D (pf s))
structure Sy (N p : Nat) (X : Ps.Src) (S : ByteArray) (w : World) (tv nv : Value) (D : List (Ps.Nd × Value)) (pl : Rs.Res) (wk : World) (s : Rs.St) (nk : Value) (E : List (Ps.Nd × Value)) (L : List It) (r : Rs.Res) : Prop where
 go : Go N p X S w tv nv D wk s nk E
 its : ∀ x ∈ L, x.Ok N w wk nk (D ++ E)
 off : L.Pairwise It.Off
 eq : pl = r
 ne : pl ≠ .out
/-- WHERE THE WALK STANDS: the parser's state s, the own things L, and the rest r of the plain answer. -/
def Sx (N p : Nat) (X : Ps.Src) (S : ByteArray) (w : World) (tv nv : Value) (D : List (Ps.Nd × Value)) (pl : Rs.Res) (wk : World) (s : Rs.St) (L : List It) (r : Rs.Res) : Prop :=
 ∃ nk E, Sy N p X S w tv nv D pl wk s nk E L r
theorem bind_assoc (r : Rs.Res) (f g : List Nat → Rs.St → Rs.Res) : (r.bind f).bind g = r.bind fun v s => (f v s).bind g := by cases r <;> rfl
theorem bind_ite {c : Prop} [Decidable c] (a b : Rs.Res) (g : List Nat → Rs.St → Rs.Res) : (if c then a else b).bind g = if c then a.bind g else b.bind g := by split <;> rfl
theorem bind_self (r : Rs.Res) : r = r.bind fun v s => .ok v s := by cases r <;> rfl

section
variable {N p : Nat} {w wk w2 : World} {X : Ps.Src} {S : ByteArray} {s s2 : Rs.St} {tv nv nk n2 : Value} {D E E2 : List (Ps.Nd × Value)} {pl r r2 : Rs.Res} {L : List It} {x : It}
theorem It.Ok.mv (h : x.Ok N w wk nk (D ++ E)) (hG : Go N p X S w tv nv D wk s nk E) (m : Mv N p wk nk w2 n2) (hE : Fresh wk.heap.size E2) : x.Ok N w w2 n2 (D ++ (E ++ E2)) := by
 cases x with
 | bx q c t => exact ⟨h.1.mv hG.pl m, h.2⟩
 | kd u l => exact Kd.mv h hG m hE
theorem Sy.below (h : Sy N p X S w tv nv D pl wk s nk E L r) (hb : Below wk.heap.size wk w2) : Sy N p X S w tv nv D pl w2 s nk E L r :=
 ⟨h.go.new hb, fun x hx => (h.its x hx).below hb, h.off, h.eq, h.ne⟩
theorem Sy.mv (h : Sy N p X S w tv nv D pl wk s nk E L r) (h1 : PSt N p w2 X S s2 tv n2 ((D ++ E) ++ E2)) (h2 : Mv N p wk nk w2 n2) (h3 : Fresh wk.heap.size E2) (he : r = r2) : Sy N p X S w tv nv D pl w2 s2 n2 (E ++ E2) L r2 :=
 ⟨h.go.then h1 h2 h3, fun x hx => It.Ok.mv (h.its x hx) h.go h2 h3, h.off, h.eq.trans he, h.ne⟩
/-- The beginning. -/
theorem x0 (h : PSt N p w X S s tv nv D) (hne : pl ≠ .out) (e : pl = r) : Hid (Sx N p X S w tv nv D pl w s [] r) :=
 zh ⟨nv, [], Go.start h, fun _ hx => (by cases hx), .nil, e, hne⟩
/-- The end. -/
theorem fn {val : List Nat → Value} {v : List Nat} (h : Hid (Sx N p X S w tv nv D pl wk s L (.ok v s))) : Out N p X S w tv nv D val pl (.returned (val v)) wk := by
 obtain ⟨_, _, h⟩ := h.out;exact h.go.out h.eq rfl
theorem fnL {u : Value} {l : List Nat} (hl : l.length ≤ 1000000) (h : Hid (Sx N p X S w tv nv D pl wk s (.kd u l :: L) (.ok l s))) : OutL N p X S w tv nv D pl (.returned u) wk := by
 obtain ⟨_, _, h⟩ := h.out;have hk : Kd N w wk (D ++ _) u l := h.its _ (List.mem_cons_self ..);exact h.go.outL hk hl h.eq
theorem en {G : Prop} (k : G := by go_wp2; go_returns; exact fn HG) : G := k
/-- The rest is spelled otherwise. -/
theorem re (e : r = r2) (h : Hid (Sx N p X S w tv nv D pl wk s L r)) : Hid (Sx N p X S w tv nv D pl wk s L r2) := e ▸ h
/-- A world by a name of its own. -/
theorem gn (h : Hid (Sx N p X S w tv nv D pl wk s L r)) : ∃ w2, wk = w2 ∧ Hid (Sx N p X S w tv nv D pl w2 s L r) := ⟨wk, rfl, h⟩
theorem Sx.st (h : Hid (Sx N p X S w tv nv D pl wk s L r)) : ∃ nk E, PSt N p wk X S s tv nk (D ++ E) := by
 obtain ⟨nk, E, h⟩ := h.out;exact ⟨nk, E, h.go.st⟩
/-- What the parser's own words are. -/
theorem pc (h : Hid (Sx N p X S w tv nv D pl wk s L r)) : wk.cell? ⟨p, 1, none⟩ = some tv ∧ wk.cell? ⟨p, 2, none⟩ = some (.int .i64 (s.p.i : Int)) ∧ wk.cell? ⟨p, 3, none⟩ = some (.int .i64 s.p.deep) ∧ wk.cell? ⟨p, 7, none⟩ = some (.bool (Rs.isWrong s)) ∧ (∀ i, wk.frozen? ⟨p, i, none⟩ = false) ∧ p < wk.heap.size := by
 obtain ⟨nk, E, h⟩ := Sx.st h;exact ⟨h.c1, h.c2, h.c3, h.c7, h.free, h.lt⟩
theorem pn (h : Hid (Sx N p X S w tv nv D pl wk s L r)) : X.toks.length ≤ 12001 ∧ s.p.i ≤ X.toks.length := by
 obtain ⟨nk, E, h⟩ := Sx.st h;exact ⟨h.src.few, h.i⟩
/-- How many tokens there are. -/
theorem tl_ (h : Hid (Sx N p X S w tv nv D pl wk s L r)) : ∃ ua uc, tv = .slice ua X.toks.length uc := by
 obtain ⟨nk, E, h⟩ := Sx.st h;exact own_slice h.toks rfl

/-! ### Calls -/
variable {Q : Ending → World → Prop} {K : List Nat → Rs.St → Rs.Res} {pfs : Rs.Res} {f : FuncId} {args : Array Value}
theorem below_ (HC : ∀ nk D2, PSt N p wk X S s tv nk D2 → ∃ v, Calls Tryz.prog f args wk (fun e w2 => e = .returned v ∧ Below wk.heap.size wk w2) ∧ ∀ w2, Hid (Sx N p X S w tv nv D pl w2 s L r) → Q (.returned v) w2) (HG : Hid (Sx N p X S w tv nv D pl wk s L r)) : Calls Tryz.prog f args wk Q := by
 obtain ⟨nk, E, hG⟩ := HG.out;obtain ⟨v, h1, h2⟩ := HC _ _ hG.go.st;refine h1.mono ?_;rintro e w2 ⟨rfl, hb⟩;exact h2 w2 (zh ⟨nk, E, hG.below hb⟩)
theorem now_ (h : ∀ w2, Hid (Sx N p X S w tv nv D pl w2 s L r) → Q (.returned (.agg #[.int .i64 (Rs.now X s).kind, .string (str (Rs.now X s).text), .int .i64 (Rs.now X s).num, .int .i64 ((Rs.now X s).pos : Int)])) w2) : Hid (Sx N p X S w tv nv D pl wk s L r) → Calls Tryz.prog 55 #[.pointer (some ⟨p, 0, none⟩)] wk Q :=
 below_ fun _ _ h1 => ⟨_, rpnow_any h1, h⟩
/-- A test whose answer is kept. -/
theorem isV (x : List UInt8) {Y : ByteArray} (h : ∀ b w2, Hid (Rs.isK X s x = b) → Hid (Sx N p X S w tv nv D pl w2 s L r) → Q (.returned (.bool b)) w2) (hY : by_ Y = x := by rfl) : Hid (Sx N p X S w tv nv D pl wk s L r) → Calls Tryz.prog 105 #[.pointer (some ⟨p, 0, none⟩), .string Y] wk Q := by
 subst hY;exact below_ fun _ _ h1 => ⟨_, rpis_is h1 Y _ (zh rfl), fun w2 => h _ w2 (zh rfl)⟩
theorem nextV (x : List UInt8) {Y : ByteArray} (h : ∀ b w2, Hid (Rs.nextK X s x = b) → Hid (Sx N p X S w tv nv D pl w2 s L r) → Q (.returned (.bool b)) w2) (hY : by_ Y = x := by rfl) : Hid (Sx N p X S w tv nv D pl wk s L r) → Calls Tryz.prog 209 #[.pointer (some ⟨p, 0, none⟩), .string Y] wk Q := by
 subst hY;exact below_ fun _ _ h1 => ⟨_, rpnext_any h1 Y _ (zh rfl), fun w2 => h _ w2 (zh rfl)⟩
theorem endsV (h : ∀ b w2, Hid (Rs.endsC X s = b) → Hid (Sx N p X S w tv nv D pl w2 s L r) → Q (.returned (.bool b)) w2) : Hid (Sx N p X S w tv nv D pl wk s L r) → Calls Tryz.prog 244 #[.pointer (some ⟨p, 0, none⟩)] wk Q :=
 below_ fun _ _ h1 => ⟨_, rpends_any h1 _ (zh rfl), fun w2 => h _ w2 (zh rfl)⟩
/-- A test that turns the rest. -/
theorem is_ (x : List UInt8) {Y : ByteArray} (h1 : ∀ w2, Hid (Rs.isK X s x = true) → Hid (Sx N p X S w tv nv D pl w2 s L r) → Q (.returned (.bool true)) w2) (h0 : ∀ w2, Hid (Rs.isK X s x = false) → Hid (Sx N p X S w tv nv D pl w2 s L r2) → Q (.returned (.bool false)) w2) (hY : by_ Y = x := by rfl) :
  Hid (Sx N p X S w tv nv D pl wk s L (if Rs.isK X s x = true then r else r2)) → Calls Tryz.prog 105 #[.pointer (some ⟨p, 0, none⟩), .string Y] wk Q := by
 refine isV x (fun b w2 hb HG => ?_) hY
 cases b with
 | true => exact h1 w2 hb (re (if_pos hb.out) HG)
 | false => exact h0 w2 hb (re (if_neg (by rw [hb.out]; decide)) HG)
theorem begins_ (h1 : ∀ w2, Hid (Sx N p X S w tv nv D pl w2 s L r) → Q (.returned (.bool true)) w2) (h0 : ∀ w2, Hid (Sx N p X S w tv nv D pl w2 s L r2) → Q (.returned (.bool false)) w2) :
  Hid (Sx N p X S w tv nv D pl wk s L (if Rs.begins X s = true then r else r2)) → Calls Tryz.prog 160 #[.pointer (some ⟨p, 0, none⟩)] wk Q := by
 refine below_ fun _ _ h => ⟨_, rpbegins_any h _ (zh rfl), fun w2 HG => ?_⟩
 cases hb : Rs.begins X s with
 | true => exact h1 w2 (re (if_pos hb) HG)
 | false => exact h0 w2 (re (if_neg (by rw [hb]; decide)) HG)
theorem took (x : List UInt8) {Y : ByteArray} (h1 : ∀ w2, Hid (Rs.isK X s x = true) → Hid (Sx N p X S w tv nv D pl w2 (Rs.adv s) L r) → Q (.returned (.bool true)) w2) (h0 : ∀ w2, Hid (Rs.isK X s x = false) → Hid (Sx N p X S w tv nv D pl w2 s L r2) → Q (.returned (.bool false)) w2) (hY : by_ Y = x := by rfl) :
  Hid (Sx N p X S w tv nv D pl wk s L (if Rs.isK X s x = true then r else r2)) → Calls Tryz.prog 102 #[.pointer (some ⟨p, 0, none⟩), .string Y] wk Q := by
 intro HG;obtain ⟨nk, E, hG⟩ := HG.out;subst hY
 cases hb : Rs.isK X s (by_ Y) with
 | true =>
  refine (rptook_any hG.go.st Y true (zh hb)).mono ?_;rintro e w2 ⟨rfl, h3, h4⟩;exact h1 w2 (zh hb) (zh ⟨nk, E ++ [], hG.mv (by rw [List.append_nil]; exact h3) h4 (Fresh.nil _) (if_pos hb)⟩)
 | false =>
  refine (rptook_any hG.go.st Y false (zh hb)).mono ?_;rintro e w2 ⟨rfl, h3, h4⟩;exact h0 w2 (zh hb) (zh ⟨nk, E ++ [], hG.mv (by rw [List.append_nil]; exact h3) h4 (Fresh.nil _) (if_neg (by rw [hb]; decide))⟩)
/-- The same, the answer kept. -/
theorem tookV (x : List UInt8) {Y : ByteArray} (h : ∀ b w2, Hid (Rs.isK X s x = b) → Hid (Sx N p X S w tv nv D pl w2 (cond b (Rs.adv s) s) L r) → Q (.returned (.bool b)) w2) (hY : by_ Y = x := by rfl) :
  Hid (Sx N p X S w tv nv D pl wk s L r) → Calls Tryz.prog 102 #[.pointer (some ⟨p, 0, none⟩), .string Y] wk Q := by
 intro HG;subst hY;refine took (r := r) (r2 := r) _ (fun w2 hb H => h true w2 hb H) (fun w2 hb H => h false w2 hb H) rfl (re (by split <;> rfl) HG)
theorem c_1 {s1 s0 : Rs.St} (h : Hid (Sx N p X S w tv nv D pl wk (cond true s1 s0) L r)) : Hid (Sx N p X S w tv nv D pl wk s1 L r) := h
theorem c_0 {s1 s0 : Rs.St} (h : Hid (Sx N p X S w tv nv D pl wk (cond false s1 s0) L r)) : Hid (Sx N p X S w tv nv D pl wk s0 L r) := h
/-- A call, whatever it answers. -/
theorem callG {val2 : List Nat → Value} (HC : ∀ nk D2, PSt N p wk X S s tv nk D2 → pfs ≠ .out → Calls Tryz.prog f args wk (Out N p X S wk tv nk D2 val2 pfs))
  (ok : ∀ v w2 s2, pfs = .ok v s2 → Hid (Sx N p X S w tv nv D pl w2 s2 L (K v s2)) → Q (.returned (val2 v)) w2) :
  Hid (Sx N p X S w tv nv D pl wk s L (pfs.bind K)) → Calls Tryz.prog f args wk Q := by
 intro HG;obtain ⟨nk, E, hG⟩ := HG.out;have hn : pfs ≠ .out := fun e => hG.ne (by rw [hG.eq, e]; rfl)
 refine (HC _ _ hG.go.st hn).mono ?_;rintro e w2 hq;obtain ⟨v, s2, n2, E2, hr, rfl, h1, h2, h3⟩ := hq.parts hn;exact ok v w2 s2 hr (zh ⟨n2, _, hG.mv h1 h2 h3 (by rw [hr]; rfl)⟩)
variable {pf : Rs.St → Rs.Res} {xs : List Value}
/-- A call that answers one node. -/
theorem c1 (HC : Cn X S f pf xs) (ok : ∀ (a : Nat) w2 s2, Hid (Sx N p X S w tv nv D pl w2 s2 L (K [a] s2)) → Q (.returned (.int .i64 (a : Int))) w2) :
  Hid (Sx N p X S w tv nv D pl wk s L ((pf s).bind K)) → Calls Tryz.prog f (.pointer (some ⟨p, 0, none⟩) :: xs).toArray wk Q :=
 callG (fun _ _ h => HC.1 _ _ _ _ _ _ _ h) fun v w2 s2 hr HG => by
  obtain ⟨a, rfl⟩ := HC.2 _ v s2 hr;exact ok a w2 s2 HG
/-- The function answers what the callee answers. -/
theorem tl (HC : Cn X S f pf xs) (HG : Hid (Sx N p X S w tv nv D pl wk s L (pf s)))
  (ok : ∀ (a : Nat) w2, Out N p X S w tv nv D oneV pl (.returned (.int .i64 (a : Int))) w2 → Q (.returned (.int .i64 (a : Int))) w2 := by intro a w2 HE; go_wp2; go_returns; exact HE) :
  Calls Tryz.prog f (.pointer (some ⟨p, 0, none⟩) :: xs).toArray wk Q :=
 c1 (K := fun v s2 => .ok v s2) HC (fun a w2 _s2 HG => ok a w2 (fn HG)) (re (bind_self _) HG)
theorem name_ (ok : ∀ w2 s2, Hid (Sx N p X S w tv nv D pl w2 s2 L (K [] s2)) → Q (.returned (.string (str (Rs.nameT X s)))) w2) :
  Hid (Sx N p X S w tv nv D pl wk s L ((Rs.name X s).bind K)) → Calls Tryz.prog 103 #[.pointer (some ⟨p, 0, none⟩)] wk Q :=
 callG (fun _ _ h _ => rpname_any h) fun v w2 s2 hr HG => by cases hr; exact ok w2 _ HG
theorem take_ (x : List UInt8) {Y : ByteArray} (ok : ∀ w2 s2, Hid (Sx N p X S w tv nv D pl w2 s2 L (K [(Rs.now X s).pos] s2)) → Q (.returned (.int .i64 ((Rs.now X s).pos : Int))) w2) (hY : by_ Y = x := by rfl) :
  Hid (Sx N p X S w tv nv D pl wk s L ((Rs.take X x s).bind K)) → Calls Tryz.prog 57 #[.pointer (some ⟨p, 0, none⟩), .string Y] wk Q := by
 subst hY;exact callG (fun _ _ h _ => rptake_any h Y) fun v w2 s2 hr HG => by cases hr; exact ok w2 _ HG
theorem enter_ (x : List UInt8) {Y : ByteArray} (ok : ∀ w2 s2, Hid (Sx N p X S w tv nv D pl w2 s2 L (K [(Rs.now X s).pos] s2)) → Q (.returned (.int .i64 ((Rs.now X s).pos : Int))) w2) (hY : by_ Y = x := by rfl) :
  Hid (Sx N p X S w tv nv D pl wk s L ((Rs.enter X x s).bind K)) → Calls Tryz.prog 104 #[.pointer (some ⟨p, 0, none⟩), .string Y] wk Q := by
 subst hY;exact callG (fun _ _ h _ => rpenter_any h Y) fun v w2 s2 hr HG => by cases hr; exact ok w2 _ HG
theorem leave_ (x : List UInt8) {Y : ByteArray} (ok : ∀ w2 s2, Hid (Sx N p X S w tv nv D pl w2 s2 L (K [] s2)) → Q (.returned (.tuple #[])) w2) (hY : by_ Y = x := by rfl) :
  Hid (Sx N p X S w tv nv D pl wk s L ((Rs.leave X x s).bind K)) → Calls Tryz.prog 108 #[.pointer (some ⟨p, 0, none⟩), .string Y] wk Q := by
 subst hY;exact callG (fun _ _ h _ => rpleave_any h Y) fun v w2 s2 hr HG => by cases hr; exact ok w2 _ HG
theorem fail_ {c : Int} (ok : ∀ w2, Hid (Sx N p X S w tv nv D pl w2 (Rs.stop X c s) L r) → Q (.returned (.tuple #[])) w2) :
  Hid (Sx N p X S w tv nv D pl wk s L r) → Calls Tryz.prog 111 #[.pointer (some ⟨p, 0, none⟩), .int .i64 c] wk Q := fun HG =>
 callG (pfs := .ok [] (Rs.stop X c s)) (K := fun _ _ => r) (fun _ _ h _ => rpfail_any h c) (fun v w2 s2 hr HG => by cases hr; exact ok w2 HG) HG
/-- A call that answers a row. -/
theorem cl_ {k : Int} (HC : Ln X S k pf)
  (ok : ∀ (l : List Nat) (ua : Option Addr) (uc : Nat) w2 s2, l.length ≤ 1000000 → Hid (Sx N p X S w tv nv D pl w2 s2 (.kd (.slice ua l.length uc) l :: L) (K l s2)) → Q (.returned (.slice ua l.length uc)) w2) :
  Hid (Sx N p X S w tv nv D pl wk s L ((pf s).bind K)) → Calls Tryz.prog 159 #[.pointer (some ⟨p, 0, none⟩), .int .i64 k] wk Q := by
 intro HG;obtain ⟨nk, E, hG⟩ := HG.out;have hn : pf s ≠ .out := fun e => hG.ne (by rw [hG.eq, e]; rfl)
 refine (HC _ _ _ _ _ _ _ hG.go.st hn).mono ?_;rintro e w2 hq;obtain ⟨v, s2, u, n2, E2, hr, rfl, h1, h2, h3, h4, h5⟩ := hq.parts hn;obtain ⟨ua, uc, rfl⟩ := own_slice h4.row rfl;have h6 := hG.mv h1 h2 h3 (r2 := K v s2) (by rw [hr]; rfl);exact ok v ua uc w2 s2 h5 (zh ⟨n2, _, h6.go, List.forall_mem_cons.2 ⟨Kd.lift h4 hG.go, h6.its⟩, List.pairwise_cons.2 ⟨fun y _ => by cases y <;> trivial, h6.off⟩, h6.eq, h6.ne⟩)

/-- A part of the walk as if a function began. -/
theorem ph (HG : Hid (Sx N p X S w tv nv D pl wk s L (pfs.bind K))) : ∃ nk D2, Hid (Sx N p X S wk tv nk D2 pfs wk s [] pfs) ∧ ∀ v w2 s2 L2, Hid (Sx N p X S wk tv nk D2 pfs w2 s2 L2 (.ok v s2)) → Hid (Sx N p X S w tv nv D pl w2 s2 L (K v s2)) := by
 obtain ⟨nk, E, hG⟩ := HG.out;have hn : pfs ≠ .out := fun e => hG.ne (by rw [hG.eq, e]; rfl)
 refine ⟨nk, D ++ E, x0 hG.go.st hn rfl, fun v w2 s2 L2 H => ?_⟩;obtain ⟨n2, E2, h⟩ := H.out;exact zh ⟨n2, E ++ E2, hG.mv h.go.st h.go.mv h.go.fr (by rw [h.eq]; rfl)⟩
/-- Has a fault been met? -/
theorem wg (h : Hid (Sx N p X S w tv nv D pl wk s L (if Rs.isWrong s = true then r else r2))) : (Rs.isWrong s = true ∧ Hid (Sx N p X S w tv nv D pl wk s L r)) ∨ (Rs.isWrong s = false ∧ Hid (Sx N p X S w tv nv D pl wk s L r2)) := by
 cases hb : Rs.isWrong s with
 | true => exact .inl ⟨rfl, re (if_pos hb) h⟩
 | false => exact .inr ⟨rfl, re (if_neg (by rw [hb]; decide)) h⟩

/-! ### Nodes -/
theorem putG {x : Ps.Nd} {u : Value} {l : List Nat} (hx : x.kids = l) (HC : ∀ nk D2, PSt N p wk X S s tv nk D2 → KidsV N wk u x.kids → s.p.nodes.length < Rs.room → Calls Tryz.prog f args wk (PutOut N p X S wk tv nk D2 s x u))
  (ok : ∀ (a : Nat) w2 s2, Hid (Sx N p X S w tv nv D pl w2 s2 (bxs L) (K [a] s2)) → Q (.returned (.int .i64 (a : Int))) w2) :
  Hid (Sx N p X S w tv nv D pl wk s (.kd u l :: L) ((Rs.put x s).bind K)) → Calls Tryz.prog f args wk Q := by
 intro HG;obtain ⟨nk, E, hG⟩ := HG.out;subst hx;have hn : Rs.put x s ≠ .out := fun e => hG.ne (by rw [hG.eq, e]; rfl)
 have hk : Kd N w wk (D ++ E) u x.kids := hG.its _ (List.mem_cons_self ..);refine (HC _ _ hG.go.st hk.row (put_few hn)).mono ?_;rintro e w2 ⟨rfl, n2, h1, h2⟩;have hg := hG.go.put_ h1 h2 hk.lo;refine ok s.p.nodes.length w2 (putSt x s) (zh ⟨n2, E ++ [(x, u)], hg, fun y hy => ?_, bxs_off (List.pairwise_cons.1 hG.off).2, hG.eq.trans (by rw [put_is hn]; rfl), hG.ne⟩);obtain ⟨hy, q, c, t, rfl⟩ := bxs_mem hy;have h3 := hG.its _ (List.mem_cons_of_mem _ hy);exact ⟨h3.1.mv hG.go.pl h2, h3.2⟩
/-- 'p.put(..)', and the walk goes on. -/
theorem puK {x : Ps.Nd} {u : Value} {l : List Nat} (ok : ∀ (a : Nat) w2 s2, Hid (Sx N p X S w tv nv D pl w2 s2 (bxs L) (K [a] s2)) → Q (.returned (.int .i64 (a : Int))) w2) (hx : x.kids = l := by rfl) :
  Hid (Sx N p X S w tv nv D pl wk s (.kd u l :: L) ((Rs.put x s).bind K)) → Calls Tryz.prog 58 #[.pointer (some ⟨p, 0, none⟩), .agg #[.int .i64 x.kind, .int .i64 x.pos, .int .i64 x.num, .string (str x.text), u]] wk Q :=
 putG hx (fun _ _ h hu hf => rpput_any h x u hu hf) ok
theorem wiK {kind : Int} {at_ : Nat} {u : Value} {l : List Nat} (ok : ∀ (a : Nat) w2 s2, Hid (Sx N p X S w tv nv D pl w2 s2 (bxs L) (K [a] s2)) → Q (.returned (.int .i64 (a : Int))) w2) :
  Hid (Sx N p X S w tv nv D pl wk s (.kd u l :: L) ((Rs.with_ kind at_ l s).bind K)) → Calls Tryz.prog 206 #[.pointer (some ⟨p, 0, none⟩), .int .i64 kind, .int .i64 (at_ : Int), u] wk Q :=
 putG (x := ⟨kind, at_, 0, [], l⟩) rfl (fun _ _ h hu hf => rpwith_any h kind at_ l u hu hf) ok
/-- The last node. -/
theorem pu {x : Ps.Nd} {u : Value} {l : List Nat} (ok : ∀ (a : Nat) w2 s2, Hid (Sx N p X S w tv nv D pl w2 s2 (bxs L) (.ok [a] s2)) → Q (.returned (.int .i64 (a : Int))) w2) (hx : x.kids = l := by rfl) :
  Hid (Sx N p X S w tv nv D pl wk s (.kd u l :: L) (Rs.put x s)) → Calls Tryz.prog 58 #[.pointer (some ⟨p, 0, none⟩), .agg #[.int .i64 x.kind, .int .i64 x.pos, .int .i64 x.num, .string (str x.text), u]] wk Q := fun HG =>
 puK (K := fun v s => .ok v s) ok hx (re (bind_self _) HG)
theorem wi {kind : Int} {at_ : Nat} {u : Value} {l : List Nat} (ok : ∀ (a : Nat) w2 s2, Hid (Sx N p X S w tv nv D pl w2 s2 (bxs L) (.ok [a] s2)) → Q (.returned (.int .i64 (a : Int))) w2) :
  Hid (Sx N p X S w tv nv D pl wk s (.kd u l :: L) (Rs.with_ kind at_ l s)) → Calls Tryz.prog 206 #[.pointer (some ⟨p, 0, none⟩), .int .i64 kind, .int .i64 (at_ : Int), u] wk Q := fun HG =>
 wiK (K := fun v s => .ok v s) ok (re (bind_self _) HG)

/-! ### Loops -/
/-- What a loop still has to do: nothing where its test says so. -/
def Lp (t : Rs.St → Bool) (lp : Nat → List Nat → Rs.St → Rs.Res) (m : Nat) (acc : List Nat) (s : Rs.St) : Rs.Res := if t s = true then .ok acc s else lp m acc s
variable {t : Rs.St → Bool} {lp : Nat → List Nat → Rs.St → Rs.Res} {m : Nat} {acc : List Nat} {g : List Nat → Rs.St → Rs.Res}
theorem lpN (h0 : ∀ a s, lp 0 a s = .out) (h : Hid (Sx N p X S w tv nv D pl wk s L ((lp m acc s).bind g))) : ∃ k, m = k + 1 := by
 obtain ⟨_, _, h⟩ := h.out
 cases m with
 | zero => exact absurd (h.eq.trans (by rw [h0]; rfl)) h.ne
 | succ k => exact ⟨k, rfl⟩
theorem lpI (h0 : ∀ a s, lp 0 a s = .out) (hx : ∀ m a s, t s = true → lp (m + 1) a s = .ok a s) (h : Hid (Sx N p X S w tv nv D pl wk s L ((lp m acc s).bind g))) : Hid (Sx N p X S w tv nv D pl wk s L ((Lp t lp m acc s).bind g)) := by
 obtain ⟨k, rfl⟩ := lpN h0 h;refine re ?_ h;unfold Lp
 by_cases hb : t s = true
 ·rw [if_pos hb, hx _ _ _ hb]
 ·rw [if_neg hb]
theorem lpE (hb : t s = true) (h : Hid (Sx N p X S w tv nv D pl wk s L (g acc s))) : Hid (Sx N p X S w tv nv D pl wk s L ((Lp t lp m acc s).bind g)) := re (by unfold Lp; rw [if_pos hb]; rfl) h
theorem lpO (hb : t s = true) (h : Hid (Sx N p X S w tv nv D pl wk s L ((Lp t lp m acc s).bind g))) : Hid (Sx N p X S w tv nv D pl wk s L (g acc s)) := re (by unfold Lp; rw [if_pos hb]; rfl) h
theorem lpG (hb : t s = false) (h : Hid (Sx N p X S w tv nv D pl wk s L ((Lp t lp m acc s).bind g))) : Hid (Sx N p X S w tv nv D pl wk s L ((lp m acc s).bind g)) := re (by unfold Lp; rw [if_neg (by rw [hb]; decide)]) h
theorem lpS {c : Bool} {a1 b1 : Rs.Res} (hs : lp (m + 1) acc s = if c = true then a1 else b1) (hc : c = false) (h : Hid (Sx N p X S w tv nv D pl wk s L ((lp (m + 1) acc s).bind g))) : Hid (Sx N p X S w tv nv D pl wk s L (b1.bind g)) := re (by rw [hs, if_neg (by rw [hc]; decide)]) h
theorem stop_isK (X : Ps.Src) (c : Int) (s : Rs.St) (k : List UInt8) : Rs.isK X (Rs.stop X c s) k = false := by
 show Ps.isK X (Rs.stop X c s).p k = false
 unfold Rs.stop Ps.isK Ps.now;dsimp only;rw [List.getD_eq_getElem?_getD, List.getElem?_eq_none (Nat.le_refl _)];simp [Ps.noTok]

/-! ### Items -/
/-- Are the items over? -/
def itT (X : Ps.Src) (s : Rs.St) : Bool := Rs.isK X s Ps.k_rb || Rs.isWrong s
/-- The end of items. -/
def itF (X : Ps.Src) (g : List Nat → Rs.St → Rs.Res) (l : List Nat) (s : Rs.St) : Rs.Res := (Rs.leave X Ps.k_rb s).bind fun _ s3 => g l s3
theorem itB {loop : Rs.St → Rs.Res} (h : Hid (Sx N p X S w tv nv D pl wk s L ((Rs.items X loop s).bind g))) : Hid (Sx N p X S w tv nv D pl wk s L ((Rs.enter X Ps.k_lb s).bind fun _ s1 => (loop s1).bind (itF X g))) :=
 re (bind_assoc (loop (Rs.enterS X Ps.k_lb s)) (fun l s2 => (Rs.leave X Ps.k_rb s2).bind fun _ s3 => .ok l s3) g) h
theorem itG {one : Nat → Rs.St → Rs.Res} (h0 : ∀ a s, lp 0 a s = .out) (hs : ∀ m a s, lp (m + 1) a s = Rs.itemsL X (one m) (lp m) a s) (hb : itT X s = false) (h : Hid (Sx N p X S w tv nv D pl wk s L ((Lp (itT X) lp m acc s).bind (itF X g)))) :
  ∃ k, m = k + 1 ∧ Hid (Sx N p X S w tv nv D pl wk s L ((one k s).bind fun v s1 => if Rs.isK X s1 Ps.k_rb = true then itF X g (acc ++ v) s1 else (Rs.take X Ps.k_semi s1).bind fun _ s2 => (lp k (acc ++ v) s2).bind (itF X g))) := by
 replace h := lpG hb h;obtain ⟨k, rfl⟩ := lpN h0 h;refine ⟨k, rfl, re ?_ h⟩;rw [hs, Rs.itemsL, if_neg (show ¬ (Rs.isK X s Ps.k_rb || Rs.isWrong s) = true by rw [show (Rs.isK X s Ps.k_rb || Rs.isWrong s) = false from hb]; decide), bind_assoc];refine congrArg _ (funext fun v => funext fun s1 => ?_);rw [bind_ite]
 rfl

/-! ### Boxes, rows, words -/
theorem k0 (h : Hid (Sx N p X S w tv nv D pl wk s L r)) : Hid (Sx N p X S w tv nv D pl wk s (.kd (.slice none 0 0) [] :: L) r) := by
 obtain ⟨nk, E, h⟩ := h.out;exact zh ⟨nk, E, h.go, List.forall_mem_cons.2 ⟨Kd.nil _ _ _ _, h.its⟩, List.pairwise_cons.2 ⟨fun y _ => by cases y <;> trivial, h.off⟩, h.eq, h.ne⟩
/-- The first two change places. -/
theorem sw {y : It} (h : Hid (Sx N p X S w tv nv D pl wk s (x :: y :: L) r)) : Hid (Sx N p X S w tv nv D pl wk s (y :: x :: L) r) := by
 obtain ⟨nk, E, h⟩ := h.out;have h1 := List.pairwise_cons.1 h.off;have h2 := List.pairwise_cons.1 h1.2;refine zh ⟨nk, E, h.go, fun z hz => h.its z ?_, List.pairwise_cons.2 ⟨fun z hz => ?_, List.pairwise_cons.2 ⟨fun z hz => h1.1 z (List.mem_cons_of_mem _ hz), h2.2⟩⟩, h.eq, h.ne⟩
 ·rcases List.mem_cons.1 hz with rfl | hz
  ·exact List.mem_cons_of_mem _ (List.mem_cons_self ..)
  ·rcases List.mem_cons.1 hz with rfl | hz
   ·exact List.mem_cons_self ..
   ·exact List.mem_cons_of_mem _ (List.mem_cons_of_mem _ hz)
 ·rcases List.mem_cons.1 hz with rfl | hz
  ·have h3 := h1.1 y (List.mem_cons_self ..)
   cases z <;> cases y <;> first | trivial | exact fun e => h3 e.symm
  ·exact h2.1 z hz
/-- The first is wanted no more. -/
theorem po (h : Hid (Sx N p X S w tv nv D pl wk s (x :: L) r)) : Hid (Sx N p X S w tv nv D pl wk s L r) := by
 obtain ⟨nk, E, h⟩ := h.out;exact zh ⟨nk, E, h.go, (List.forall_mem_cons.1 h.its).2, (List.pairwise_cons.1 h.off).2, h.eq, h.ne⟩
theorem bn (c : Array Value) (t : TypeId) (h : Hid (Sx N p X S w tv nv D pl wk s L r)) (ht : 3 ≠ t := by decide) : ∃ w2 q, wk.alloc (.cells c t) = w2 ∧ wk.heap.size = q ∧ q < w2.heap.size ∧ Hid (Sx N p X S w tv nv D pl w2 s (.bx q c t :: L) r) := by
 obtain ⟨nk, E, h⟩ := h.out;have h2 := h.below ((Below.refl _ _).alloc (Nat.le_refl _) (.cells c t));refine ⟨_, _, rfl, rfl, by simp, zh ⟨nk, E, h2.go, List.forall_mem_cons.2 ⟨⟨Bx.new h.go c t, ht⟩, h2.its⟩, List.pairwise_cons.2 ⟨fun y hy => ?_, h.off⟩, h.eq, h.ne⟩⟩;have h3 := h.its y hy
 cases y with
 | bx q2 c2 t2 => exact fun e => absurd h3.1.lt (by rw [← e]; exact Nat.lt_irrefl _)
 | kd u l => trivial
theorem rn (l : List Nat) (hl : l.length ≤ 1000) (h : Hid (Sx N p X S w tv nv D pl wk s L r)) : ∃ w2 q, wk.alloc (.cells (kidVals l).toArray 3) = w2 ∧ wk.heap.size = q ∧ q < w2.heap.size ∧ Hid (Sx N p X S w tv nv D pl w2 s (.kd (.slice (some ⟨q, 0, none⟩) l.length l.length) l :: L) r) := by
 obtain ⟨nk, E, h⟩ := h.out;have h2 := h.below ((Below.refl _ _).alloc (Nat.le_refl _) (.cells (kidVals l).toArray 3));exact ⟨_, _, rfl, rfl, by simp, zh ⟨nk, E, h2.go, List.forall_mem_cons.2 ⟨Kd.new h.go l hl, h2.its⟩, List.pairwise_cons.2 ⟨fun y _ => by cases y <;> trivial, h.off⟩, h.eq, h.ne⟩⟩
theorem ro1 (a : Nat) (h : Hid (Sx N p X S w tv nv D pl wk s L r)) : ∃ w2 q, wk.alloc (.cells #[.int .i64 (a : Int)] 3) = w2 ∧ wk.heap.size = q ∧ q < w2.heap.size ∧ Hid (Sx N p X S w tv nv D pl w2 s (.kd (.slice (some ⟨q, 0, none⟩) 1 1) [a] :: L) r) := rn [a] (by simp) h
theorem ro2 (a b : Nat) (h : Hid (Sx N p X S w tv nv D pl wk s L r)) : ∃ w2 q, wk.alloc (.cells #[.int .i64 (a : Int), .int .i64 (b : Int)] 3) = w2 ∧ wk.heap.size = q ∧ q < w2.heap.size ∧ Hid (Sx N p X S w tv nv D pl w2 s (.kd (.slice (some ⟨q, 0, none⟩) 2 2) [a, b] :: L) r) := rn [a, b] (by simp) h
theorem ro3 (a b c : Nat) (h : Hid (Sx N p X S w tv nv D pl wk s L r)) : ∃ w2 q, wk.alloc (.cells #[.int .i64 (a : Int), .int .i64 (b : Int), .int .i64 (c : Int)] 3) = w2 ∧ wk.heap.size = q ∧ q < w2.heap.size ∧ Hid (Sx N p X S w tv nv D pl w2 s (.kd (.slice (some ⟨q, 0, none⟩) 3 3) [a, b, c] :: L) r) := rn [a, b, c] (by simp) h
theorem ro0 (h : Hid (Sx N p X S w tv nv D pl wk s L r)) : ∃ w2 q, wk.alloc (.cells #[.int .i64 0] 3) = w2 ∧ wk.heap.size = q ∧ q < w2.heap.size ∧ Hid (Sx N p X S w tv nv D pl w2 s (.kd (.slice (some ⟨q, 0, none⟩) 1 1) [0] :: L) r) := rn [0] (by simp) h
theorem bt (t : Lx.Tok) (h : Hid (Sx N p X S w tv nv D pl wk s L r)) : ∃ w2 q, wk.alloc (.cells #[.int .i64 t.kind, .string (str t.text), .int .i64 t.num, .int .i64 (t.pos : Int)] 95) = w2 ∧ wk.heap.size = q ∧ q < w2.heap.size ∧ Hid (Sx N p X S w tv nv D pl w2 s (.bx q #[.int .i64 t.kind, .string (str t.text), .int .i64 t.num, .int .i64 (t.pos : Int)] 95 :: L) r) := bn _ _ h
/-- The same, the world left as it is spelled. -/
theorem bR (c : Array Value) (t : TypeId) (h : Hid (Sx N p X S w tv nv D pl wk s L r)) (ht : 3 ≠ t := by decide) : Hid (Sx N p X S w tv nv D pl (wk.alloc (.cells c t)) s (.bx wk.heap.size c t :: L) r) := by
 obtain ⟨_, _, rfl, rfl, _, h2⟩ := bn c t h ht;exact h2
theorem rR (a : Nat) (h : Hid (Sx N p X S w tv nv D pl wk s L r)) : Hid (Sx N p X S w tv nv D pl (wk.alloc (.cells #[.int .i64 (a : Int)] 3)) s (.kd (.slice (some ⟨wk.heap.size, 0, none⟩) 1 1) [a] :: L) r) := by
 obtain ⟨_, _, rfl, rfl, _, h2⟩ := ro1 a h;exact h2
theorem rR2 (a b : Nat) (h : Hid (Sx N p X S w tv nv D pl wk s L r)) : Hid (Sx N p X S w tv nv D pl (wk.alloc (.cells #[.int .i64 (a : Int), .int .i64 (b : Int)] 3)) s (.kd (.slice (some ⟨wk.heap.size, 0, none⟩) 2 2) [a, b] :: L) r) := by
 obtain ⟨_, _, rfl, rfl, _, h2⟩ := ro2 a b h;exact h2
theorem rbR (a : Nat) (c : Array Value) (t : TypeId) (h : Hid (Sx N p X S w tv nv D pl wk s L r)) (ht : 3 ≠ t := by decide) : Hid (Sx N p X S w tv nv D pl ((wk.alloc (.cells #[.int .i64 (a : Int)] 3)).alloc (.cells c t)) s (.bx (wk.heap.size + 1) c t :: .kd (.slice (some ⟨wk.heap.size, 0, none⟩) 1 1) [a] :: L) r) := by
 have h2 := bR c t (rR a h) ht
 rwa [show (wk.alloc (.cells #[.int .i64 (a : Int)] 3)).heap.size = wk.heap.size + 1 by simp] at h2
theorem gz {ad : Addr} {v : Value} (h : Hid (Sx N p X S w tv nv D pl (wk.setCell ad v) s L r)) : ∃ w2, wk.setCell ad v = w2 ∧ wk.heap.size = w2.heap.size ∧ Hid (Sx N p X S w tv nv D pl w2 s L r) := ⟨_, rfl, by simp, h⟩
variable {q : Nat} {c c2 : Array Value} {t : TypeId}
/-- What the first box (the second ..) holds. -/
theorem ce0 (h : Hid (Sx N p X S w tv nv D pl wk s (.bx q c t :: L) r)) : (∀ i, wk.cell? ⟨q, i, none⟩ = c[i]?) ∧ (∀ i, wk.frozen? ⟨q, i, none⟩ = false) ∧ q < wk.heap.size := by
 obtain ⟨nk, E, h⟩ := h.out;have h1 : Bx w wk nk q c t := (h.its _ (List.mem_cons_self ..)).1;exact ⟨h1.cell, h1.free, h1.lt⟩
theorem ce1 (h : Hid (Sx N p X S w tv nv D pl wk s (x :: .bx q c t :: L) r)) : (∀ i, wk.cell? ⟨q, i, none⟩ = c[i]?) ∧ (∀ i, wk.frozen? ⟨q, i, none⟩ = false) ∧ q < wk.heap.size := ce0 (po h)
theorem ce2 {y : It} (h : Hid (Sx N p X S w tv nv D pl wk s (x :: y :: .bx q c t :: L) r)) : (∀ i, wk.cell? ⟨q, i, none⟩ = c[i]?) ∧ (∀ i, wk.frozen? ⟨q, i, none⟩ = false) ∧ q < wk.heap.size := ce1 (po h)
theorem so0 (i : Nat) (v : Value) (h : Hid (Sx N p X S w tv nv D pl wk s (.bx q c t :: L) r)) (e : c.setIfInBounds i v = c2 := by simp only [List.setIfInBounds_toArray, List.set_cons_zero, List.set_cons_succ]; rfl) : Hid (Sx N p X S w tv nv D pl (wk.setCell ⟨q, i, none⟩ v) s (.bx q c2 t :: L) r) := by
 obtain ⟨nk, E, h⟩ := h.out;subst e;have h1 : Bx w wk nk q c t ∧ 3 ≠ t := h.its _ (List.mem_cons_self ..);have h2 := List.pairwise_cons.1 h.off;refine zh ⟨nk, E, Bx.go h1.1 h.go h1.2 i v, List.forall_mem_cons.2 ⟨⟨h1.1.set i v, h1.2⟩, fun y hy => ?_⟩, List.pairwise_cons.2 ⟨fun y hy => ?_, h2.2⟩, h.eq, h.ne⟩
 ·have h3 := h.its y (List.mem_cons_of_mem _ hy);have h4 := h2.1 y hy
  cases y with
  | bx q3 c3 t3 => exact ⟨h3.1.far (fun e => h4 e.symm) i v, h3.2⟩
  | kd u l => exact Kd.set h3 h1.1.blk h1.2 i v
 ·have h4 := h2.1 y hy
  cases y with
  | bx q3 c3 t3 => exact h4
  | kd u l => trivial
theorem so1 (i : Nat) (v : Value) (h : Hid (Sx N p X S w tv nv D pl wk s (x :: .bx q c t :: L) r)) (e : c.setIfInBounds i v = c2 := by simp only [List.setIfInBounds_toArray, List.set_cons_zero, List.set_cons_succ]; rfl) : Hid (Sx N p X S w tv nv D pl (wk.setCell ⟨q, i, none⟩ v) s (x :: .bx q c2 t :: L) r) := sw (so0 i v (sw h) e)
theorem its_farP {F : List (Ps.Nd × Value)} (hG : Go N p X S w tv nv D wk s nk E) (h : ∀ x ∈ L, x.Ok N w wk nk F) (i : Nat) (v : Value) : ∀ x ∈ L, x.Ok N w (wk.setCell ⟨p, i, none⟩ v) nk F := fun y hy => by
 have h3 := h y hy
 cases y with
 | bx q3 c3 t3 => exact ⟨h3.1.farP hG.pl i v, h3.2⟩
 | kd u l => exact Kd.set h3 hG.st.blk (by decide) i v
theorem dw (h : Hid (Sx N p X S w tv nv D pl wk s L r)) : Hid (Sx N p X S w tv nv D pl wk.drew s L r) := by
 obtain ⟨nk, E, h⟩ := h.out;exact zh ⟨nk, E, h.below (Below.refl _ _).drew⟩
/-- 'p.Deep--' -/
theorem dd {d : Int} (hd : IntKind.i64.wrap (s.p.deep - 1) = d) (h : Hid (Sx N p X S w tv nv D pl wk s L r)) : Hid (Sx N p X S w tv nv D pl (wk.setCell ⟨p, 3, none⟩ (.int .i64 d)) (Rs.down s) L r) := by
 obtain ⟨nk, E, h⟩ := h.out;subst hd;exact zh ⟨nk, E, h.go.deep _, its_farP h.go h.its _ _, h.off, h.eq, h.ne⟩
/-- 'p.I++', 'p.I = p.I + 2' -/
theorem ia (hi : s.p.i < X.toks.length) (h : Hid (Sx N p X S w tv nv D pl wk s L r)) : Hid (Sx N p X S w tv nv D pl (wk.setCell ⟨p, 2, none⟩ (.int .i64 ((s.p.i : Int) + 1))) (Rs.adv s) L r) := by
 obtain ⟨nk, E, h⟩ := h.out;exact zh ⟨nk, E, h.go.adv hi, its_farP h.go h.its _ _, h.off, h.eq, h.ne⟩
theorem ia2 (hi : s.p.i + 2 ≤ X.toks.length) (h : Hid (Sx N p X S w tv nv D pl wk s L r)) : Hid (Sx N p X S w tv nv D pl (wk.setCell ⟨p, 2, none⟩ (.int .i64 ((s.p.i : Int) + 2))) (Rs.adv2 s) L r) := by
 obtain ⟨nk, E, h⟩ := h.out;exact zh ⟨nk, E, h.go.adv2 hi, its_farP h.go h.its _ _, h.off, h.eq, h.ne⟩
theorem iw (k : Nat) (hi : s.p.i + k ≤ X.toks.length) (h : Hid (Sx N p X S w tv nv D pl wk s L r)) : IntKind.i64.wrap ((s.p.i : Int) + (k : Int)) = (s.p.i : Int) + (k : Int) := by
 have := pn h;exact IntWalk.i64_in _ (by omega)
theorem iw1 (hi : s.p.i < X.toks.length) (h : Hid (Sx N p X S w tv nv D pl wk s L r)) : IntKind.i64.wrap ((s.p.i : Int) + 1) = (s.p.i : Int) + 1 := iw 1 hi h
theorem nextK_lt {Y : List UInt8} (h : Hid (Rs.nextK X s Y = true)) : s.p.i + 2 ≤ X.toks.length := by
 have h1 : Ps.nextK X s.p Y = true := h.out;unfold Ps.nextK at h1;simp only [Bool.and_eq_true, decide_eq_true_eq] at h1;omega
theorem iw2 (hi : s.p.i + 2 ≤ X.toks.length) (hG : Hid (Sx N p X S w tv nv D pl wk s L r)) : IntKind.i64.wrap ((s.p.i : Int) + 2) = (s.p.i : Int) + 2 := iw 2 hi hG
/-- A box lies apart from the parser. -/
theorem bp0 (h : Hid (Sx N p X S w tv nv D pl wk s (.bx q c t :: L) r)) : q ≠ p ∧ p ≠ q := by
 obtain ⟨nk, E, h⟩ := h.out;have h1 : Bx w wk nk q c t := (h.its _ (List.mem_cons_self ..)).1;have h2 := h1.lo;have h3 := h.go.pl;exact ⟨by omega, by omega⟩
theorem bp1 (h : Hid (Sx N p X S w tv nv D pl wk s (x :: .bx q c t :: L) r)) : q ≠ p ∧ p ≠ q := bp0 (po h)
/-- A token's box, a box behind it. -/
theorem tbR (t : Lx.Tok) (c : Array Value) (ty : TypeId) (h : Hid (Sx N p X S w tv nv D pl wk s L r)) (ht : 3 ≠ ty := by decide) : Hid (Sx N p X S w tv nv D pl ((wk.alloc (.cells #[.int .i64 t.kind, .string (str t.text), .int .i64 t.num, .int .i64 (t.pos : Int)] 95)).alloc (.cells c ty)) s (.bx (wk.heap.size + 1) c ty :: .bx wk.heap.size #[.int .i64 t.kind, .string (str t.text), .int .i64 t.num, .int .i64 (t.pos : Int)] 95 :: L) r) := by
 have h2 := bR c ty (bR #[.int .i64 t.kind, .string (str t.text), .int .i64 t.num, .int .i64 (t.pos : Int)] 95 h) ht
 rwa [show (wk.alloc (.cells #[.int .i64 t.kind, .string (str t.text), .int .i64 t.num, .int .i64 (t.pos : Int)] 95)).heap.size = wk.heap.size + 1 by simp] at h2

/-- A token's box, 'p.I++', a box behind it. -/
theorem trR {t : Lx.Tok} (c : Array Value) (hi : s.p.i < X.toks.length) (h : Hid (Sx N p X S w tv nv D pl (wk.alloc (.cells #[.int .i64 t.kind, .string (str t.text), .int .i64 t.num, .int .i64 (t.pos : Int)] 95)) s (.bx wk.heap.size #[.int .i64 t.kind, .string (str t.text), .int .i64 t.num, .int .i64 (t.pos : Int)] 95 :: L) r)) : Hid (Sx N p X S w tv nv D pl (((wk.alloc (.cells #[.int .i64 t.kind, .string (str t.text), .int .i64 t.num, .int .i64 (t.pos : Int)] 95)).setCell ⟨p, 2, none⟩ (.int .i64 ((s.p.i : Int) + 1))).alloc (.cells c 41)) (Rs.adv s) (.bx (wk.heap.size + 1) c 41 :: .bx wk.heap.size #[.int .i64 t.kind, .string (str t.text), .int .i64 t.num, .int .i64 (t.pos : Int)] 95 :: L) r) := by
 have h2 := bR c 41 (ia hi h)
 rwa [show ((wk.alloc (.cells #[.int .i64 t.kind, .string (str t.text), .int .i64 t.num, .int .i64 (t.pos : Int)] 95)).setCell ⟨p, 2, none⟩ (.int .i64 ((s.p.i : Int) + 1))).heap.size = wk.heap.size + 1 by simp] at h2

/-! ### Words, signs, numbers -/
section
variable {t : Lx.Tok}
theorem wd (y : List UInt8) (hn : Hid (Rs.now X s = t)) (h4 : Hid ((t.kind == 4) = true)) (h : Hid (Sx N p X S w tv nv D pl wk s L (if Rs.isW X s y = true then r else r2))) :
  (((str t.text).toList == y) = true ∧ s.p.i < X.toks.length ∧ Hid (Sx N p X S w tv nv D pl wk s L r)) ∨ (((str t.text).toList == y) = false ∧ Hid (Sx N p X S w tv nv D pl wk s L r2)) := by
 have e : Rs.isW X s y = ((str t.text).toList == y) := by unfold Rs.isW; rw [hn.out, h4.out, Bool.true_and, by_str_eq]
 cases hb : ((str t.text).toList == y) with
 | true =>
  refine .inl ⟨rfl, ?_, re (if_pos (by rw [e, hb])) h⟩;refine Classical.byContradiction fun hc => ?_
  have h5 := h4.out;rw [← hn.out] at h5;unfold Rs.now Ps.now Ps.noTok at h5;rw [List.getD_eq_getElem?_getD, List.getElem?_eq_none (by omega)] at h5;simp at h5
 | false => exact .inr ⟨rfl, re (if_neg (by rw [e, hb]; decide)) h⟩
theorem wn {y : List UInt8} (hn : Hid (Rs.now X s = t)) (h4 : Hid ((t.kind == 4) = false)) (h : Hid (Sx N p X S w tv nv D pl wk s L (if Rs.isW X s y = true then r else r2))) : Hid (Sx N p X S w tv nv D pl wk s L r2) :=
 re (if_neg (by unfold Rs.isW; rw [hn.out, h4.out, Bool.false_and]; decide)) h
theorem sg (y : List UInt8) (hn : Hid (Rs.now X s = t)) (h3 : Hid ((t.kind == 3) = true)) (h : Hid (Sx N p X S w tv nv D pl wk s L (if Rs.isS X s y = true then r else r2))) :
  (((str t.text).toList == y) = true ∧ str t.text = str y ∧ Hid (Sx N p X S w tv nv D pl wk s L r)) ∨ (((str t.text).toList == y) = false ∧ Hid (Sx N p X S w tv nv D pl wk s L r2)) := by
 have e : Rs.isS X s y = ((str t.text).toList == y) := by unfold Rs.isS; rw [hn.out, h3.out, Bool.true_and, by_str_eq]
 cases hb : ((str t.text).toList == y) with
 | true => exact .inl ⟨rfl, by rw [by_str_eq] at hb; rw [eq_of_beq hb], re (if_pos (by rw [e, hb])) h⟩
 | false => exact .inr ⟨rfl, re (if_neg (by rw [e, hb]; decide)) h⟩
theorem sn {y : List UInt8} (hn : Hid (Rs.now X s = t)) (h3 : Hid ((t.kind == 3) = false)) (h : Hid (Sx N p X S w tv nv D pl wk s L (if Rs.isS X s y = true then r else r2))) : Hid (Sx N p X S w tv nv D pl wk s L r2) :=
 re (if_neg (by unfold Rs.isS; rw [hn.out, h3.out, Bool.false_and]; decide)) h
theorem nm (hn : Hid (Rs.now X s = t)) (h : Hid (Sx N p X S w tv nv D pl wk s L (if Rs.isNum X s = true then r else r2))) :
  ((t.kind == 2) = true ∧ s.p.i < X.toks.length ∧ Hid (Sx N p X S w tv nv D pl wk s L r)) ∨ ((t.kind == 2) = false ∧ Hid (Sx N p X S w tv nv D pl wk s L r2)) := by
 have e : Rs.isNum X s = (t.kind == 2) := by show ((Rs.now X s).kind == 2) = _; rw [hn.out]
 cases hb : (t.kind == 2) with
 | true => exact .inl ⟨rfl, YtjickecdkmljpaaGreatDoor.isNum_lt X s.p (e.trans hb), re (if_pos (e.trans hb)) h⟩
 | false => exact .inr ⟨rfl, re (if_neg (by rw [e, hb]; decide)) h⟩
/-- 't.Kind == api.TokName && p.next(Y)', both known. -/
theorem nn {y : List UInt8} {b : Bool} (hn : Hid (Rs.now X s = t)) (hb : Hid (Rs.nextK X s y = b)) (h : Hid (Sx N p X S w tv nv D pl wk s L (if Rs.isName X s = true ∧ Rs.nextK X s y = true then r else r2))) :
  ((t.kind == 1) = true ∧ b = true ∧ s.p.i + 2 ≤ X.toks.length ∧ Hid (Sx N p X S w tv nv D pl wk s L r)) ∨ (((t.kind == 1) = false ∨ b = false) ∧ Hid (Sx N p X S w tv nv D pl wk s L r2)) := by
 have e : Rs.isName X s = (t.kind == 1) := by show ((Rs.now X s).kind == 1) = _; rw [hn.out]
 cases hk : (t.kind == 1) with
 | false => exact .inr ⟨.inl rfl, re (if_neg (by rw [e, hk]; simp)) h⟩
 | true =>
  cases b with
  | false => exact .inr ⟨.inr rfl, re (if_neg (by rw [hb.out]; simp)) h⟩
  | true => exact .inl ⟨rfl, rfl, nextK_lt hb, re (if_pos ⟨e.trans hk, hb.out⟩) h⟩
end
section
variable {ops : Array Oper} {rest : List Oper} {o : Oper} {s0 x0 : Operand} {Z : Exit → Act → World → Prop} {a : Act} {u : Value} {l : List Nat}
/-- Numbers more in the first row. -/
theorem apN (ks : List Nat) (m : Nat) (hm : ks.length = m) (hm1 : 1 ≤ m) (hm2 : m ≤ 1000) (hl : l.length ≤ 1000000)
  (h : ∀ g cap w8, Hid (Sx N p X S w tv nv D pl w8 s (.kd (.slice (some ⟨g, 0, none⟩) (l.length + m) cap) (l ++ ks) :: L) r) → wpList Tryz.prog ops Z rest (a.put o.dst (.slice (some ⟨g, 0, none⟩) (l.length + m) cap)) w8)
  (hL : bxs L = L) (hgd : o.guard = none) (ho : o.op = .call { callee := .builtin .append, args := #[s0, x0], argTypes := #[39, 39] }) (hs : a.eval s0 = u) (hx : a.eval x0 = .slice (some ⟨wk.heap.size, 0, none⟩) m m)
  (HG : Hid (Sx N p X S w tv nv D pl wk s (.kd u l :: L) r)) : wpList Tryz.prog ops Z (o :: rest) a (wk.alloc (.cells (kidVals ks).toArray 3)) := by
 obtain ⟨nk, E, hG⟩ := HG.out;have hk : Kd N w wk (D ++ E) u l := hG.its _ (List.mem_cons_self ..);obtain ⟨i0, hi0, hz0, hz1, hz2⟩ := info_parts int_info;have hN := hG.go.st.nN;refine wpList_append_lies _ hgd s0 x0 39 ho N 3 i0 _ 1 8 Tryz.underlying39 hi0 hz0 hz1 hz2 rfl (by omega) u l.length (kidVals l) hs (hk.alloc _).row ⟨wk.heap.size, 0, none⟩ m m (kidVals ks) hx (by simp [kidVals]; omega) (World.news_of_block (cs := (kidVals ks).toArray) (t := 3) (fr := (0, 0)) (heap_alloc_new _ _)) (kidVals_one ks) (by omega) (by unfold maxLen; omega) (by omega) (by simp; omega) (wk.heap.size + 1) (by simp) ?_;intro g cap w8 hown hgrow hat _;obtain ⟨a1, a2, a3⟩ := Kd.grown hk (l2 := ks) hG.go hown hm hgrow hat;refine h g cap w8 (zh ⟨nk, E, a1, List.forall_mem_cons.2 ⟨a2, fun y hy => ?_⟩, List.pairwise_cons.2 ⟨fun y _ => by cases y <;> trivial, (List.pairwise_cons.1 hG.off).2⟩, hG.eq, hG.ne⟩);obtain ⟨_, q, c, t, rfl⟩ := bxs_mem (hL ▸ hy)
 have h3 := hG.its _ (List.mem_cons_of_mem _ hy);exact ⟨⟨(a3 q h3.1.lt (fun e => own_ne_blk hk.row h3.1.blk h3.2 e)).trans h3.1.blk, h3.1.lo, h3.1.ne⟩, h3.2⟩
theorem apL (k : Nat) (hl : l.length ≤ 1000000)
  (h : ∀ g cap w8, Hid (Sx N p X S w tv nv D pl w8 s (.kd (.slice (some ⟨g, 0, none⟩) (l.length + 1) cap) (l ++ [k]) :: L) r) → wpList Tryz.prog ops Z rest (a.put o.dst (.slice (some ⟨g, 0, none⟩) (l.length + 1) cap)) w8)
  (hL : bxs L = L := by rfl) (hgd : o.guard = none := by rfl) (ho : o.op = .call { callee := .builtin .append, args := #[s0, x0], argTypes := #[39, 39] } := by rfl) (hs : a.eval s0 = u := by rfl) (hx : a.eval x0 = .slice (some ⟨wk.heap.size, 0, none⟩) 1 1 := by rfl) :
  Hid (Sx N p X S w tv nv D pl wk s (.kd u l :: L) r) → wpList Tryz.prog ops Z (o :: rest) a (wk.alloc (.cells #[.int .i64 (k : Int)] 3)) := apN [k] 1 rfl (by omega) (by omega) hl h hL hgd ho hs hx
theorem apL2 (k j : Nat) (hl : l.length ≤ 1000000)
  (h : ∀ g cap w8, Hid (Sx N p X S w tv nv D pl w8 s (.kd (.slice (some ⟨g, 0, none⟩) (l.length + 2) cap) (l ++ [k, j]) :: L) r) → wpList Tryz.prog ops Z rest (a.put o.dst (.slice (some ⟨g, 0, none⟩) (l.length + 2) cap)) w8)
  (hL : bxs L = L := by rfl) (hgd : o.guard = none := by rfl) (ho : o.op = .call { callee := .builtin .append, args := #[s0, x0], argTypes := #[39, 39] } := by rfl) (hs : a.eval s0 = u := by rfl) (hx : a.eval x0 = .slice (some ⟨wk.heap.size, 0, none⟩) 2 2 := by rfl) :
  Hid (Sx N p X S w tv nv D pl wk s (.kd u l :: L) r) → wpList Tryz.prog ops Z (o :: rest) a (wk.alloc (.cells #[.int .i64 (k : Int), .int .i64 (j : Int)] 3)) := apN [k, j] 2 rfl (by omega) (by omega) hl h hL hgd ho hs hx
/-- A whole row is appended to a row. -/
theorem apW {e q : Nat} {ua : Option Addr} {uc : Nat} (hl : l.length ≤ 1000000)
  (h : ∀ ub uc2 w8, Hid (Sx N p X S w tv nv D pl w8 s (.kd (.slice ub (l.length + 1) uc2) (e :: l) :: L) r) → wpList Tryz.prog ops Z rest (a.put o.dst (.slice ub (l.length + 1) uc2)) w8)
  (hL : bxs L = L := by rfl) (hgd : o.guard = none := by rfl) (ho : o.op = .call { callee := .builtin .append, args := #[s0, x0], argTypes := #[39, 39] } := by rfl) (hs : a.eval s0 = .slice (some ⟨q, 0, none⟩) 1 1 := by rfl) (hx : a.eval x0 = .slice ua l.length uc := by rfl) :
  Hid (Sx N p X S w tv nv D pl wk s (.kd (.slice ua l.length uc) l :: .kd (.slice (some ⟨q, 0, none⟩) 1 1) [e] :: L) r) → wpList Tryz.prog ops Z (o :: rest) a wk := by
 intro HG;obtain ⟨i0, hi0, hz0, hz1, hz2⟩ := info_parts int_info
 cases l with
 | nil => exact wpList_append_none wk hgd s0 x0 39 3 ho i0 Tryz.underlying39 hi0 _ 1 1 (Nat.le_refl _) hs ua uc hx (h _ _ _ (po HG))
 | cons b0 l0 =>
  obtain ⟨nk, E, hG⟩ := HG.out;have hk : Kd N w wk (D ++ E) (.slice ua (b0 :: l0).length uc) (b0 :: l0) := hG.its _ (List.mem_cons_self ..);have hA : Kd N w wk (D ++ E) (.slice (some ⟨q, 0, none⟩) 1 1) [e] := hG.its _ (List.mem_cons_of_mem _ (List.mem_cons_self ..));have hN := hG.go.st.nN;obtain ⟨gg, gc, hgg⟩ := own_lit hk.row (by simp)
  cases hgg
  refine wpList_append_lies _ hgd s0 x0 39 ho N 3 i0 _ 1 8 Tryz.underlying39 hi0 hz0 hz1 hz2 rfl (by omega) _ [e].length (kidVals [e]) hs hA.row ⟨gg, 0, none⟩ (b0 :: l0).length uc (kidVals (b0 :: l0)) hx (by simp [kidVals]) (Kd.news hk) (kidVals_one _) (by simp) (by unfold maxLen; simp at hl ⊢; omega) (by simp at hl ⊢; omega) (by omega) wk.heap.size rfl ?_;intro g cap w8 hown hgrow hat _;obtain ⟨a1, a2⟩ := Kd.grown0 hA (l2 := b0 :: l0) hG.go hown rfl hgrow hat;have a3 : ∀ k, k < wk.heap.size → (Value.slice (some ⟨q, 0, none⟩) 1 1).ownBlock ≠ some k → w8.heap[k]? = wk.heap[k]? := fun k h1 h2 => hgrow.block k h1 (fun e => h2 e.symm)
  have e1 : [e].length + (b0 :: l0).length = (b0 :: l0).length + 1 := by simp; omega
  rw [e1] at a2 ⊢;refine h _ _ _ (zh ⟨nk, E, a1, List.forall_mem_cons.2 ⟨a2, fun y hy => ?_⟩, List.pairwise_cons.2 ⟨fun y _ => by cases y <;> trivial, (List.pairwise_cons.1 (List.pairwise_cons.1 hG.off).2).2⟩, hG.eq, hG.ne⟩);obtain ⟨_, q3, c, t, rfl⟩ := bxs_mem (hL ▸ hy);have h3 := hG.its _ (List.mem_cons_of_mem _ (List.mem_cons_of_mem _ hy));exact ⟨⟨(a3 q3 h3.1.lt (fun e => own_ne_blk hA.row h3.1.blk h3.2 e)).trans h3.1.blk, h3.1.lo, h3.1.ne⟩, h3.2⟩
end
end
end Go.Proofs.YtjickecdkmljpaaGreatDoor.R
