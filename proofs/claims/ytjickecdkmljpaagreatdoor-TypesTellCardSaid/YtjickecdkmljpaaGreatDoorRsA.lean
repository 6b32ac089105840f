/-
  PROVED HERE: how the reference reads tokens as nodes: a reader with fuel that goes on behind a fault, with nothing left to read. what gives one node to the reference's reader gives just one. the reference's reader tells what the program's reader tells. how the tokens of a text can be: a sign's text is one of the signs, a word's one of the words, a number begins with a digit. No condition beyond the lemmas' own premises.
-/
import Derived.Test.YtjickecdkmljpaaGreatDoorPsA
namespace Go.Proofs.YtjickecdkmljpaaGreatDoor.Rs
open Ps (Nd Src)
open Lx (Tok)
/-- The reader; the first fault. -/
structure St where
 p : Ps.St
 w : Option (Int × Nat)
inductive Res where
 | out
 | ok (v : List Nat) (s : St)
def Res.bind (r : Res) (f : List Nat → St → Res) : Res :=
 match r with
 | .out => .out
 | .ok v s => f v s
theorem bind_out (f : List Nat → St → Res) : Res.out.bind f = .out := rfl
theorem bind_ok (v : List Nat) (s : St) (f : List Nat → St → Res) : (Res.ok v s).bind f = f v s := rfl
def now (X : Src) (s : St) : Tok := Ps.now X s.p
def isK (X : Src) (s : St) (x : List UInt8) : Bool := Ps.isK X s.p x
/-- Is it this word? -/
def isW (X : Src) (s : St) (x : List UInt8) : Bool := (now X s).kind == 4 && (now X s).text == x
/-- Is it this sign? -/
def isS (X : Src) (s : St) (x : List UInt8) : Bool := (now X s).kind == 3 && (now X s).text == x
def isName (X : Src) (s : St) : Bool := Ps.isName X s.p
def isNum (X : Src) (s : St) : Bool := Ps.isNum X s.p
def nextK (X : Src) (s : St) (x : List UInt8) : Bool := Ps.nextK X s.p x
def adv (s : St) : St := { s with p := Ps.adv s.p }
def adv2 (s : St) : St := { s with p := Ps.adv2 s.p }
def up (s : St) : St := { s with p := { s.p with deep := IntKind.i64.wrap (s.p.deep + 1) } }
def down (s : St) : St := { s with p := { s.p with deep := IntKind.i64.wrap (s.p.deep - 1) } }
/-- Nothing is read any more. -/
def stop (X : Src) (c : Int) (s : St) : St := ⟨{ s.p with i := X.toks.length }, some (s.w.getD (c, (now X s).pos))⟩
def takeS (X : Src) (x : List UInt8) (s : St) : St := if isK X s x then adv s else stop X 3 s
def take (X : Src) (x : List UInt8) (s : St) : Res := .ok [(now X s).pos] (takeS X x s)
def tookS (X : Src) (x : List UInt8) (s : St) : St := if isK X s x then adv s else s
def nameS (X : Src) (s : St) : St := if isName X s then adv s else stop X 3 s
def nameT (X : Src) (s : St) : List UInt8 := if isName X s then (now X s).text else []
def name (X : Src) (s : St) : Res := .ok [] (nameS X s)
def enterS (X : Src) (x : List UInt8) (s : St) : St := if isK X s x = true ∧ s.p.deep = 30 then stop X 4 s else takeS X x (up s)
def enter (X : Src) (x : List UInt8) (s : St) : Res := .ok [(now X s).pos] (enterS X x s)
def leaveS (X : Src) (x : List UInt8) (s : St) : St := down (takeS X x s)
def leave (X : Src) (x : List UInt8) (s : St) : Res := .ok [] (leaveS X x s)
def room : Nat := 20000000
def put (nd : Nd) (s : St) : Res := if s.p.nodes.length < room then .ok [s.p.nodes.length] { s with p := { s.p with nodes := s.p.nodes ++ [nd] } } else .out
def typeWords : List (List UInt8) := [Ps.k_int, Ps.k_bool, Ps.k_chan, Ps.k_func, Ps.k_star]
def begins (X : Src) (s : St) : Bool := (typeWords.contains (now X s).text && (now X s).kind != 1) || (now X s).kind == 1
/-- How tight a sign binds. -/
def level (t : List UInt8) : Nat := Ps.levT t
def lev (X : Src) (s : St) : Nat := if (now X s).kind = 3 then level (now X s).text else 0
def isWrong (s : St) : Bool := s.w.isSome

abbrev Rec := Ps.Fn → St → Res
def with_ (kind : Int) (at_ : Nat) (kids : List Nat) (s : St) : Res := put ⟨kind, at_, 0, [], kids⟩ s
def listL (X : Src) (one : St → Res) (again : List Nat → St → Res) (acc : List Nat) (s : St) : Res :=
 if isK X s Ps.k_rp || isWrong s then .ok acc s
 else (one s).bind fun k s1 =>
  if isK X s1 Ps.k_rp then .ok (acc ++ k) s1
  else (take X Ps.k_com s1).bind fun _ s2 => again (acc ++ k) (if isK X s2 Ps.k_rp then stop X 3 s2 else s2)
def list (X : Src) (loop : St → Res) (s : St) : Res := (enter X Ps.k_lp s).bind fun _ s1 => (loop s1).bind fun l s2 => (leave X Ps.k_rp s2).bind fun _ s3 => .ok l s3
def itemsL (X : Src) (one : St → Res) (again : List Nat → St → Res) (acc : List Nat) (s : St) : Res :=
 if isK X s Ps.k_rb || isWrong s then .ok acc s
 else (one s).bind fun k s1 =>
  if isK X s1 Ps.k_rb then .ok (acc ++ k) s1
  else (take X Ps.k_semi s1).bind fun _ s2 => again (acc ++ k) s2
def items (X : Src) (loop : St → Res) (s : St) : Res := (enter X Ps.k_lb s).bind fun _ s1 => (loop s1).bind fun l s2 => (leave X Ps.k_rb s2).bind fun _ s3 => .ok l s3
def named (X : Src) (rec : Rec) (kind : Int) (s : St) : Res := (name X s).bind fun _ s1 => (rec .typ s1).bind fun k s2 => put ⟨kind, (now X s).pos, 0, nameT X s, k⟩ s2
def pointer (X : Src) (s : St) : Res := (take X Ps.k_star s).bind fun _ s1 => (name X s1).bind fun _ s2 => put ⟨4, (now X s).pos, 0, nameT X s1, []⟩ s2
def result (X : Src) (rec : Rec) (kind : Int) (at_ : Nat) (l : List Nat) (s : St) (fin : St → St) : Res :=
 if begins X s then (rec .typ s).bind fun k s1 => put ⟨kind, at_, l.length, [], l ++ k⟩ (fin s1) else put ⟨kind, at_, l.length, [], l⟩ (fin s)
def sig (X : Src) (rec : Rec) (s : St) : Res := (list X (rec (.params [])) s).bind fun l s1 => result X rec 8 (now X s).pos l s1 id
def typF (X : Src) (rec : Rec) (s : St) : Res :=
 if isK X s Ps.k_int then put ⟨1, (now X s).pos, 0, [], []⟩ (adv s)
 else if isK X s Ps.k_bool then put ⟨2, (now X s).pos, 0, [], []⟩ (adv s)
 else if isK X s Ps.k_star then pointer X s
 else if isK X s Ps.k_chan then (enter X Ps.k_chan s).bind fun _ s1 => (rec .typ s1).bind fun k s2 => put ⟨5, (now X s).pos, 0, [], k⟩ (down s2)
 else if isK X s Ps.k_func then (enter X Ps.k_func s).bind fun _ s1 => (list X (rec (.typs [])) s1).bind fun l s2 => result X rec 6 (now X s).pos l s2 down
 else (name X s).bind fun _ s1 => put ⟨3, (now X s).pos, 0, nameT X s, []⟩ s1
def blockF (X : Src) (rec : Rec) (s : St) : Res := (items X (rec (.stmts [])) s).bind fun l s1 => put ⟨16, (now X s).pos, 0, [], l⟩ s1
def bracketed (X : Src) (rec : Rec) (kind : Int) (at_ : Nat) (s : St) : Res := (enter X Ps.k_lp s).bind fun _ s1 => (rec (.expr 0) s1).bind fun e s2 => (leave X Ps.k_rp s2).bind fun _ s3 => with_ kind at_ e s3
/-- Does the token end a case? -/
def endsC (X : Src) (s : St) : Bool := isK X s Ps.k_case_ || isK X s Ps.k_dflt || isK X s Ps.k_rb
def bodyF (X : Src) (rec : Rec) (s : St) : Res := (take X Ps.k_col s).bind fun _ s1 => (rec (.body []) s1).bind fun l s2 => put ⟨16, (now X s).pos, 0, [], l⟩ s2
def caseF (X : Src) (rec : Rec) (s : St) : Res :=
 if isK X s Ps.k_dflt then (bodyF X rec (adv s)).bind fun b s1 => with_ 29 (now X s).pos b s1
 else (take X Ps.k_case_ s).bind fun _ s1 =>
  if isName X s1 = true ∧ nextK X s1 Ps.k_def_ = true then
   (take X Ps.k_arr (adv2 s1)).bind fun _ s2 => (rec (.expr 0) s2).bind fun c s3 => (bodyF X rec s3).bind fun b s4 => put ⟨27, (now X s).pos, 0, (now X s1).text, c ++ b⟩ s4
  else if isK X s1 Ps.k_arr then (rec (.expr 0) (adv s1)).bind fun c s3 => (bodyF X rec s3).bind fun b s4 => put ⟨27, (now X s).pos, 0, [], c ++ b⟩ s4
  else (rec (.expr 0) s1).bind fun c s2 => (take X Ps.k_arr s2).bind fun _ s3 => (rec (.expr 0) s3).bind fun v s4 => (bodyF X rec s4).bind fun b s5 => with_ 28 (now X s).pos (c ++ v ++ b) s5
def choice (X : Src) (rec : Rec) (at_ : Nat) (s : St) : Res := (enter X Ps.k_lb s).bind fun _ s1 => (rec (.cases []) s1).bind fun l s2 => (leave X Ps.k_rb s2).bind fun _ s3 => put ⟨26, at_, 0, [], l⟩ s3
def stmtF (X : Src) (rec : Rec) (s : St) : Res :=
 if isW X s Ps.k_go_ then (rec (.expr 0) (adv s)).bind fun e s1 => with_ 21 (now X s).pos e s1
 else if isW X s Ps.k_close then bracketed X rec 30 (now X s).pos (adv s)
 else if isW X s Ps.k_panic then bracketed X rec 31 (now X s).pos (adv s)
 else if isW X s Ps.k_print then bracketed X rec 32 (now X s).pos (adv s)
 else if isW X s Ps.k_if_ then rec .branch s
 else if isW X s Ps.k_for_ then (rec (.expr 0) (adv s)).bind fun c s1 => (rec .block s1).bind fun b s2 => with_ 23 (now X s).pos (c ++ b) s2
 else if isW X s Ps.k_ret then
  if isK X (adv s) Ps.k_semi = true ∨ isK X (adv s) Ps.k_rb = true then with_ 24 (now X s).pos [] (adv s)
  else (rec (.expr 0) (adv s)).bind fun e s1 => with_ 24 (now X s).pos e s1
 else if isW X s Ps.k_brk then with_ 25 (now X s).pos [] (adv s)
 else if isW X s Ps.k_select then choice X rec (now X s).pos (adv s)
 else if isName X s = true ∧ nextK X s Ps.k_def_ = true then (rec (.expr 0) (adv2 s)).bind fun e s1 => put ⟨17, (now X s).pos, 0, (now X s).text, e⟩ s1
 else (rec (.expr 0) s).bind fun a s1 =>
  if isK X s1 Ps.k_asg then (rec (.expr 0) (adv s1)).bind fun b s2 => with_ 18 (now X s).pos (a ++ b) s2
  else if isK X s1 Ps.k_arr then (rec (.expr 0) (adv s1)).bind fun b s2 => with_ 20 (now X s).pos (a ++ b) s2
  else with_ 19 (now X s).pos a s1
def branchF (X : Src) (rec : Rec) (s : St) : Res :=
 (take X Ps.k_if_ s).bind fun _ s1 => (rec (.expr 0) s1).bind fun c s2 => (rec .block s2).bind fun b s3 =>
  if isK X s3 Ps.k_else_ then
   if nextK X s3 Ps.k_if_ then (enter X Ps.k_else_ s3).bind fun _ s4 => (rec .branch s4).bind fun e s5 => with_ 22 (now X s).pos (c ++ b ++ e) (down s5)
   else (take X Ps.k_else_ s3).bind fun _ s4 => (rec .block s4).bind fun e s5 => with_ 22 (now X s).pos (c ++ b ++ e) s5
  else with_ 22 (now X s).pos (c ++ b) s3
def climbF (X : Src) (rec : Rec) (k a : Nat) (s : St) : Res :=
 if isWrong s then .ok [a] s
 else if k < lev X s then (rec (.expr (lev X s)) (adv s)).bind fun b s1 => (put ⟨46, (now X s).pos, 0, (now X s).text, a :: b⟩ s1).bind fun e s2 => rec (.climb k (e.getD 0 0)) s2
 else .ok [a] s
def made (X : Src) (rec : Rec) (at_ : Nat) (s : St) : Res :=
 (enter X Ps.k_lp s).bind fun _ s1 => (enter X Ps.k_chan s1).bind fun _ s2 => (rec .typ s2).bind fun k s3 =>
  if isK X (down s3) Ps.k_com then
   if isNum X (adv (down s3)) then (leave X Ps.k_rp (adv (adv (down s3)))).bind fun _ s5 => put ⟨42, at_, (now X (adv (down s3))).num, [], k⟩ s5
   else (leave X Ps.k_rp (stop X 3 (adv (down s3)))).bind fun _ s5 => put ⟨42, at_, 0, [], k⟩ s5
  else (leave X Ps.k_rp (down s3)).bind fun _ s5 => put ⟨42, at_, 0, [], k⟩ s5
def firstF (X : Src) (rec : Rec) (s : St) : Res :=
 if isNum X s then put ⟨33, (now X s).pos, (now X s).num, [], []⟩ (adv s)
 else if isW X s Ps.k_true_ then put ⟨34, (now X s).pos, 1, [], []⟩ (adv s)
 else if isW X s Ps.k_false_ then put ⟨34, (now X s).pos, 0, [], []⟩ (adv s)
 else if isW X s Ps.k_nil then put ⟨35, (now X s).pos, 0, [], []⟩ (adv s)
 else if isW X s Ps.k_func then (sig X rec (adv s)).bind fun g s1 => (rec .block s1).bind fun b s2 => with_ 40 (now X s).pos (g ++ b) s2
 else if isW X s Ps.k_new then (enter X Ps.k_lp (adv s)).bind fun _ s1 => (name X s1).bind fun _ s2 => (leave X Ps.k_rp s2).bind fun _ s3 => put ⟨41, (now X s).pos, 0, nameT X s1, []⟩ s3
 else if isW X s Ps.k_make then made X rec (now X s).pos (adv s)
 else if isK X s Ps.k_lp then (enter X Ps.k_lp s).bind fun _ s1 => (rec (.expr 0) s1).bind fun e s2 => (leave X Ps.k_rp s2).bind fun _ s3 => .ok e s3
 else (name X s).bind fun _ s1 => put ⟨36, (now X s).pos, 0, nameT X s, []⟩ s1
def prefixed (X : Src) (rec : Rec) (x : List UInt8) (kind : Int) (s : St) : Res :=
 (enter X x s).bind fun _ s1 => (if isWrong s1 then .ok [0] s1 else rec .unary s1).bind fun e s2 => with_ kind (now X s).pos e (down s2)
def unaryF (X : Src) (rec : Rec) (s : St) : Res :=
 if isS X s Ps.k_bang then prefixed X rec Ps.k_bang 43 s
 else if isS X s Ps.k_minus then prefixed X rec Ps.k_minus 44 s
 else if isS X s Ps.k_arr then prefixed X rec Ps.k_arr 45 s
 else (firstF X rec s).bind fun e s1 => rec (.part (e.getD 0 0)) s1
def partF (X : Src) (rec : Rec) (e : Nat) (s : St) : Res :=
 if isWrong s then .ok [e] s
 else if isK X s Ps.k_lp then (list X (rec (.exprs [])) s).bind fun l s1 => (with_ 38 (now X s).pos (e :: l) s1).bind fun e1 s2 => rec (.part (e1.getD 0 0)) s2
 else if isK X s Ps.k_dot then
  if isK X (adv s) Ps.k_lp then (enter X Ps.k_lp (adv s)).bind fun _ s1 => (rec .typ s1).bind fun t s2 => (leave X Ps.k_rp s2).bind fun _ s3 => (with_ 39 (now X s).pos (e :: t) s3).bind fun e1 s4 => rec (.part (e1.getD 0 0)) s4
  else (name X (adv s)).bind fun _ s1 => (put ⟨37, (now X s).pos, 0, nameT X (adv s), [e]⟩ s1).bind fun e1 s2 => rec (.part (e1.getD 0 0)) s2
 else .ok [e] s
def msig (X : Src) (rec : Rec) (s : St) : Res := (name X s).bind fun _ s1 => (sig X rec s1).bind fun g s2 => put ⟨11, (now X s).pos, 0, nameT X s, g⟩ s2
def typed (X : Src) (rec : Rec) (at_ : Nat) (s : St) : Res :=
 (name X s).bind fun _ s1 =>
  if isK X s1 Ps.k_struct then (items X (rec (.fields [])) (adv s1)).bind fun l s2 => put ⟨10, at_, 0, nameT X s, l⟩ s2
  else (take X Ps.k_interface s1).bind fun _ s2 => (items X (rec (.msigs [])) s2).bind fun l s3 => put ⟨12, at_, 0, nameT X s, l⟩ s3
def method (X : Src) (rec : Rec) (at_ : Nat) (s : St) : Res :=
 (enter X Ps.k_lp s).bind fun _ s1 => (name X s1).bind fun _ s2 => (pointer X s2).bind fun p s3 => (leave X Ps.k_rp s3).bind fun _ s4 =>
  (put ⟨7, (now X s1).pos, 0, nameT X s1, p⟩ s4).bind fun self s5 => (name X s5).bind fun _ s6 => (sig X rec s6).bind fun g s7 => (rec .block s7).bind fun b s8 => put ⟨14, at_, 0, nameT X s5, self ++ g ++ b⟩ s8
def declF (X : Src) (rec : Rec) (s : St) : Res :=
 if isK X s Ps.k_type then typed X rec (now X s).pos (adv s)
 else (take X Ps.k_func s).bind fun _ s1 =>
  if isK X s1 Ps.k_lp then method X rec (now X s).pos s1
  else (name X s1).bind fun _ s2 => (sig X rec s2).bind fun g s3 => (rec .block s3).bind fun b s4 => put ⟨13, (now X s).pos, 0, nameT X s1, g ++ b⟩ s4
def bodyR (X : Src) (rec : Rec) : Ps.Fn → St → Res
 | .typ, s => typF X rec s
 | .block, s => blockF X rec s
 | .stmt, s => stmtF X rec s
 | .branch, s => branchF X rec s
 | .expr k, s => (rec .unary s).bind fun e s1 => rec (.climb k (e.getD 0 0)) s1
 | .climb k a, s => climbF X rec k a s
 | .unary, s => unaryF X rec s
 | .part e, s => partF X rec e s
 | .typs acc, s => listL X (rec .typ) (fun a => rec (.typs a)) acc s
 | .params acc, s => listL X (named X rec 7) (fun a => rec (.params a)) acc s
 | .exprs acc, s => listL X (rec (.expr 0)) (fun a => rec (.exprs a)) acc s
 | .stmts acc, s => itemsL X (rec .stmt) (fun a => rec (.stmts a)) acc s
 | .body acc, s => if endsC X s || isWrong s then .ok acc s else (rec .stmt s).bind fun k s1 => if isK X s1 Ps.k_rb then .ok (acc ++ k) s1 else (take X Ps.k_semi s1).bind fun _ s2 => rec (.body (acc ++ k)) s2
 | .cases acc, s => if isK X s Ps.k_rb || isWrong s then .ok acc s else (caseF X rec s).bind fun k s1 => rec (.cases (acc ++ k)) s1
 | .fields acc, s => itemsL X (named X rec 9) (fun a => rec (.fields a)) acc s
 | .msigs acc, s => itemsL X (msig X rec) (fun a => rec (.msigs a)) acc s
 | .decls acc, s =>
  if decide (s.p.i < X.toks.length) && !isWrong s then (declF X rec s).bind fun k s1 => if s1.p.i < X.toks.length then (take X Ps.k_semi s1).bind fun _ s2 => rec (.decls (acc ++ k)) s2 else rec (.decls (acc ++ k)) s1
  else .ok acc s
def run (X : Src) : Nat → Rec
 | 0, _, _ => .out
 | n + 1, f, s => bodyR X (run X n) f s
def start : St := ⟨Ps.start, none⟩
def program (X : Src) (n : Nat) : Res := (run X n (.decls []) start).bind fun l s => put ⟨15, (now X start).pos, 0, [], l⟩ s
end Go.Proofs.YtjickecdkmljpaaGreatDoor.Rs
namespace Go.Proofs.YtjickecdkmljpaaGreatDoor.Rs
open Ps (oneFn Nd Src)
def One (r : Res) : Prop := ∀ v s', r = .ok v s' → ∃ a, v = [a]
def Ones (rec : Rec) : Prop := ∀ f, oneFn f = true → ∀ s, One (rec f s)
theorem One.bind {r : Res} {f : List Nat → St → Res} (hf : ∀ v s, One (f v s)) : One (r.bind f) := by
 intro v s' h
 cases r with
 | out => cases h
 | ok v1 s1 => exact hf v1 s1 v s' h
theorem One.ite {c : Prop} [Decidable c] {a b : Res} (h1 : One a) (h2 : One b) : One (if c then a else b) := by
 split
 ·exact h1
 ·exact h2
theorem One.put (nd : Nd) (s : St) : One (put nd s) := by
 intro v s' h;unfold Rs.put at h
 split at h
 ·cases h; exact ⟨_, rfl⟩
 ·cases h
theorem One.one (a : Nat) (s : St) : One (.ok [a] s) := fun v s' h => by cases h; exact ⟨_, rfl⟩
section
variable {X : Src} {rec : Rec} (h : Ones rec)
theorem pointer_one (s : St) : One (pointer X s) := One.bind fun _ _ => One.bind fun _ _ => One.put _ _
theorem named_one (kind : Int) (s : St) : One (named X rec kind s) := One.bind fun _ _ => One.bind fun _ _ => One.put _ _
theorem result_one (kind : Int) (at_ : Nat) (l : List Nat) (s : St) (fin : St → St) : One (result X rec kind at_ l s fin) := One.ite (One.bind fun _ _ => One.put _ _) (One.put _ _)
theorem sig_one (s : St) : One (sig X rec s) := One.bind fun _ _ => result_one _ _ _ _ _
theorem typF_one (s : St) : One (typF X rec s) := One.ite (One.put _ _) (One.ite (One.put _ _) (One.ite (pointer_one _) (One.ite (One.bind fun _ _ => One.bind fun _ _ => One.put _ _) (One.ite (One.bind fun _ _ => One.bind fun _ _ => result_one _ _ _ _ _) (One.bind fun _ _ => One.put _ _)))))
theorem blockF_one (s : St) : One (blockF X rec s) := One.bind fun _ _ => One.put _ _
theorem bracketed_one (kind : Int) (at_ : Nat) (s : St) : One (bracketed X rec kind at_ s) := One.bind fun _ _ => One.bind fun _ _ => One.bind fun _ _ => One.put _ _
theorem bodyF_one (s : St) : One (bodyF X rec s) := One.bind fun _ _ => One.bind fun _ _ => One.put _ _
theorem caseF_one (s : St) : One (caseF X rec s) :=
 One.ite (One.bind fun _ _ => One.put _ _) (One.bind fun _ _ => One.ite (One.bind fun _ _ => One.bind fun _ _ => One.bind fun _ _ => One.put _ _) (One.ite (One.bind fun _ _ => One.bind fun _ _ => One.put _ _) (One.bind fun _ _ => One.bind fun _ _ => One.bind fun _ _ => One.bind fun _ _ => One.put _ _)))
theorem choice_one (at_ : Nat) (s : St) : One (choice X rec at_ s) := One.bind fun _ _ => One.bind fun _ _ => One.bind fun _ _ => One.put _ _
theorem made_one (at_ : Nat) (s : St) : One (made X rec at_ s) :=
 One.bind fun _ _ => One.bind fun _ _ => One.bind fun _ _ => One.ite (One.ite (One.bind fun _ _ => One.put _ _) (One.bind fun _ _ => One.put _ _)) (One.bind fun _ _ => One.put _ _)
theorem prefixed_one (x : List UInt8) (kind : Int) (s : St) : One (prefixed X rec x kind s) := One.bind fun _ _ => One.bind fun _ _ => One.put _ _
theorem msig_one (s : St) : One (msig X rec s) := One.bind fun _ _ => One.bind fun _ _ => One.put _ _
theorem typed_one (at_ : Nat) (s : St) : One (typed X rec at_ s) := One.bind fun _ _ => One.ite (One.bind fun _ _ => One.put _ _) (One.bind fun _ _ => One.bind fun _ _ => One.put _ _)
theorem method_one (at_ : Nat) (s : St) : One (method X rec at_ s) :=
 One.bind fun _ _ => One.bind fun _ _ => One.bind fun _ _ => One.bind fun _ _ => One.bind fun _ _ => One.bind fun _ _ => One.bind fun _ _ => One.bind fun _ _ => One.put _ _
theorem declF_one (s : St) : One (declF X rec s) := One.ite (typed_one _ _) (One.bind fun _ _ => One.ite (method_one _ _) (One.bind fun _ _ => One.bind fun _ _ => One.bind fun _ _ => One.put _ _))
theorem branchF_one (s : St) : One (branchF X rec s) :=
 One.bind fun _ _ => One.bind fun _ _ => One.bind fun _ _ => One.ite (One.ite (One.bind fun _ _ => One.bind fun _ _ => One.put _ _) (One.bind fun _ _ => One.bind fun _ _ => One.put _ _)) (One.put _ _)
include h
theorem stmtF_one (s : St) : One (stmtF X rec s) := by
 unfold stmtF;refine One.ite (One.bind fun _ _ => One.put _ _) (One.ite (bracketed_one _ _ _) (One.ite (bracketed_one _ _ _) (One.ite (bracketed_one _ _ _) (One.ite (h _ rfl _) (One.ite (One.bind fun _ _ => One.bind fun _ _ => One.put _ _) (One.ite (One.ite (One.put _ _) (One.bind fun _ _ => One.put _ _)) (One.ite (One.put _ _) (One.ite (choice_one _ _) (One.ite (One.bind fun _ _ => One.put _ _) (One.bind fun _ _ => ?_))))))))));exact One.ite (One.bind fun _ _ => One.put _ _) (One.ite (One.bind fun _ _ => One.put _ _) (One.put _ _))
theorem climbF_one (k a : Nat) (s : St) : One (climbF X rec k a s) := One.ite (One.one _ _) (One.ite (One.bind fun _ _ => One.bind fun _ _ => h _ rfl _) (One.one _ _))
theorem firstF_one (s : St) : One (firstF X rec s) := by
 unfold firstF;refine One.ite (One.put _ _) (One.ite (One.put _ _) (One.ite (One.put _ _) (One.ite (One.put _ _) (One.ite (One.bind fun _ _ => One.bind fun _ _ => One.put _ _) (One.ite (One.bind fun _ _ => One.bind fun _ _ => One.bind fun _ _ => One.put _ _) (One.ite (made_one _ _) (One.ite ?_ (One.bind fun _ _ => One.put _ _))))))));refine One.bind fun _ s1 => ?_
 intro v s' hv
 cases h2 : rec (.expr 0) s1 with
 | out => rw [h2] at hv; cases hv
 | ok v2 s2 =>
  obtain ⟨a, rfl⟩ := h (.expr 0) rfl s1 v2 s2 h2;rw [h2, bind_ok] at hv
  cases hv
  exact ⟨a, rfl⟩
theorem unaryF_one (s : St) : One (unaryF X rec s) := One.ite (prefixed_one _ _ _) (One.ite (prefixed_one _ _ _) (One.ite (prefixed_one _ _ _) (One.bind fun _ _ => h _ rfl _)))
theorem partF_one (e : Nat) (s : St) : One (partF X rec e s) :=
 One.ite (One.one _ _) (One.ite (One.bind fun _ _ => One.bind fun _ _ => h _ rfl _) (One.ite (One.ite (One.bind fun _ _ => One.bind fun _ _ => One.bind fun _ _ => One.bind fun _ _ => h _ rfl _) (One.bind fun _ _ => One.bind fun _ _ => h _ rfl _)) (One.one _ _)))
end
theorem run_ones (X : Src) (n : Nat) : Ones (run X n) := by
 induction n with
 | zero => intro f _ s v s' h; cases h
 | succ n ih =>
  intro f hf s
  cases f with
  | typ => exact typF_one s
  | block => exact blockF_one s
  | stmt => exact stmtF_one ih s
  | branch => exact branchF_one s
  | expr k => exact One.bind fun _ _ => ih _ rfl _
  | climb k a => exact climbF_one ih k a s
  | unary => exact unaryF_one ih s
  | part e => exact partF_one ih e s
  | typs acc => cases hf
  | params acc => cases hf
  | exprs acc => cases hf
  | stmts acc => cases hf
  | body acc => cases hf
  | cases acc => cases hf
  | fields acc => cases hf
  | msigs acc => cases hf
  | decls acc => cases hf
end Go.Proofs.YtjickecdkmljpaaGreatDoor.Rs
namespace Go.Proofs.YtjickecdkmljpaaGreatDoor.Rs
open Ps (Nd Src Gn Gr)
open Lx (Tok)
/-- A state with a fault: nothing is left to read. -/
structure Wr (X : Src) (x : Int × Nat) (b : Nat) (s : St) : Prop where
 w : s.w = some x
 i : s.p.i = X.toks.length
 n : s.p.nodes.length ≤ b
/-- It ends with that fault, and no more nodes than these. -/
def Wk (X : Src) (r : Res) (x : Int × Nat) (b : Nat) : Prop := ∃ v s, r = .ok v s ∧ Wr X x b s
section
variable {X : Src} {x : Int × Nat} {b b1 b2 : Nat} {s : St} {r : Res} {f : List Nat → St → Res}
theorem Wr.to (h : Wr X x b s) (hb : b ≤ b1) : Wr X x b1 s := ⟨h.w, h.i, Nat.le_trans h.n hb⟩
theorem Wk.to (h : Wk X r x b) (hb : b ≤ b1) : Wk X r x b1 := by
 obtain ⟨v, s, h1, h2⟩ := h;exact ⟨v, s, h1, h2.to hb⟩
theorem Wk.bind (h : Wk X r x b) (hf : ∀ v s, Wr X x b s → Wk X (f v s) x b2) : Wk X (r.bind f) x b2 := by
 obtain ⟨v, s, rfl, h2⟩ := h;exact hf v s h2
theorem Wk.ok (h : Wr X x b s) (v : List Nat) : Wk X (.ok v s) x b := ⟨v, s, rfl, h⟩
theorem Wr.now (h : Wr X x b s) : now X s = Ps.noTok X := by
 unfold Rs.now Ps.now;rw [h.i, List.getD_eq_getElem?_getD, List.getElem?_eq_none (by omega)]
 rfl
theorem Wr.isK (h : Wr X x b s) (k : List UInt8) : isK X s k = false := by
 have e : Ps.now X s.p = Ps.noTok X := h.now;unfold Rs.isK Ps.isK;rw [e];simp [Ps.noTok]
theorem Wr.isW (h : Wr X x b s) (k : List UInt8) : isW X s k = false := by unfold Rs.isW; rw [h.now]; simp [Ps.noTok]
theorem Wr.isS (h : Wr X x b s) (k : List UInt8) : isS X s k = false := by unfold Rs.isS; rw [h.now]; simp [Ps.noTok]
theorem Wr.isName (h : Wr X x b s) : isName X s = false := by
 have e : Ps.now X s.p = Ps.noTok X := h.now;unfold Rs.isName Ps.isName;rw [e];simp [Ps.noTok]
theorem Wr.isNum (h : Wr X x b s) : isNum X s = false := by
 have e : Ps.now X s.p = Ps.noTok X := h.now;unfold Rs.isNum Ps.isNum;rw [e];simp [Ps.noTok]
theorem Wr.begins (h : Wr X x b s) : begins X s = false := by unfold Rs.begins; rw [h.now]; rfl
theorem Wr.wrong (h : Wr X x b s) : isWrong s = true := by unfold isWrong; rw [h.w]; rfl
theorem Wr.ends (h : Wr X x b s) : endsC X s = false := by unfold endsC; rw [h.isK, h.isK, h.isK]; rfl
theorem Wr.stop (h : Wr X x b s) (c : Int) : Wr X x b (stop X c s) := ⟨by unfold Rs.stop; rw [h.w]; rfl, rfl, h.n⟩
theorem Wr.down (h : Wr X x b s) : Wr X x b (down s) := ⟨h.w, h.i, h.n⟩
theorem Wr.up (h : Wr X x b s) : Wr X x b (up s) := ⟨h.w, h.i, h.n⟩
theorem Wr.takeS (h : Wr X x b s) (k : List UInt8) : Wr X x b (takeS X k s) := by unfold Rs.takeS; rw [h.isK]; exact h.stop 3
theorem Wr.enterS (h : Wr X x b s) (k : List UInt8) : Wr X x b (enterS X k s) := by unfold Rs.enterS; rw [if_neg (by rw [h.isK]; simp)]; exact h.up.takeS k
theorem Wr.nameS (h : Wr X x b s) : Wr X x b (nameS X s) := by unfold Rs.nameS; rw [h.isName]; exact h.stop 3
theorem take_wk (h : Wr X x b s) (k : List UInt8) : Wk X (take X k s) x b := Wk.ok (h.takeS k) _
theorem enter_wk (h : Wr X x b s) (k : List UInt8) : Wk X (enter X k s) x b := Wk.ok (h.enterS k) _
theorem leave_wk (h : Wr X x b s) (k : List UInt8) : Wk X (leave X k s) x b := Wk.ok (h.takeS k).down _
theorem name_wk (h : Wr X x b s) : Wk X (name X s) x b := Wk.ok h.nameS _
theorem put_wk (h : Wr X x b s) (hb : b < room) (nd : Nd) : Wk X (put nd s) x (b + 1) := by
 unfold put;rw [if_pos (Nat.lt_of_le_of_lt h.n hb)];have h2 : (s.p.nodes ++ [nd]).length ≤ b + 1 := by rw [List.length_append]; have := h.n; simp; omega
 exact ⟨_, _, rfl, h.w, h.i, h2⟩
theorem Wk.els {c : Prop} [Decidable c] {y z : Res} (hc : ¬ c) (h : Wk X z x b) : Wk X (if c then y else z) x b := by rw [if_neg hc]; exact h
theorem Wk.thn {c : Prop} [Decidable c] {y z : Res} (hc : c) (h : Wk X y x b) : Wk X (if c then y else z) x b := by rw [if_pos hc]; exact h
end

/-- How a token can be. -/
structure Wf (t : Tok) : Prop where
 num : t.kind ≠ 1 → t.kind ≠ 3 → t.kind ≠ 4 → typeWords.contains t.text = false
 sign : t.kind = 3 → Lx.signs.contains t.text = true
 word : t.kind = 4 → Lx.words.contains t.text = true
/-- A state without a fault. -/
def em (s : Ps.St) : St := ⟨s, none⟩
def Sim (X : Src) (b : Nat) (r : Ps.Res) (q : Res) : Prop :=
 match r with
 | .out => True
 | .bad c j => Wk X q (c, j) b
 | .ok v s => q = .ok v (em s)
/-- What a function that begins at a state may count on. -/
structure Sx (X : Src) (rp : Ps.Rec) (rr : Rec) (B : Nat) (s0 : Ps.St) : Prop where
 sim : ∀ f s, Ps.Qs X s → 0 ≤ s.deep → s.deep ≤ 30 → Sim X B (rp f s) (rr f (em s))
 wk : ∀ f s x b, Wr X x b s → b + 43 ≤ room → Wk X (rr f s) x (b + 3)
 gr : Ps.Grow X rp
 kp : Ps.Keep rp
 few : X.toks.length ≤ 12001
 wf : ∀ t ∈ X.toks, Wf t
 q : Ps.Qs X s0
 lo : 100000 ≤ B
 room : B + 60 ≤ room
section
variable {X : Src} {rp : Ps.Rec} {rr : Rec} {B b1 b2 : Nat} {s0 s : Ps.St} {r : Ps.Res} {q : Res} {a a0 : Nat} {b b0 : Int} {d : Int} {f : List Nat → Ps.St → Ps.Res} {g : List Nat → St → Res}
theorem Sim.mono (h : Sim X b1 r q) (hb : b1 ≤ b2) : Sim X b2 r q := by
 cases r with
 | out => trivial
 | bad c j => exact Wk.to h hb
 | ok v s => exact h
theorem Sim.bind (h : Sim X b1 r q) (hd : Ps.Dp r d) (hg : Gr X r s a b) (h0 : Gn X s0 s a0 b0) (hf : ∀ v s1, Gn X s0 s1 (a0 + a) (b0 + b) → s1.deep = d → Sim X b2 (f v s1) (g v (em s1))) (hw : ∀ v s x, Wr X x b1 s → Wk X (g v s) x b2) : Sim X b2 (r.bind f) (q.bind g) := by
 cases r with
 | out => trivial
 | bad c j => exact Wk.bind h fun v s hs => hw v s _ hs
 | ok v s1 =>
  have e : q = .ok v (em s1) := h;subst e;exact hf v s1 (h0.trans (hg v s1 rfl)) (hd v s1 rfl)
theorem Sim.ite {c : Prop} [Decidable c] {x y : Ps.Res} {x' y' : Res} (h1 : c → Sim X b1 x x') (h2 : ¬ c → Sim X b1 y y') : Sim X b1 (if c then x else y) (if c then x' else y') := by
 split
 ·rename_i h; exact h1 h
 ·rename_i h; exact h2 h
theorem Sim.ite2 {c c' : Prop} [Decidable c] [Decidable c'] {x y : Ps.Res} {x' y' : Res} (hc : c ↔ c') (h1 : c → Sim X b1 x x') (h2 : ¬ c → Sim X b1 y y') : Sim X b1 (if c then x else y) (if c' then x' else y') := by
 by_cases h : c
 ·rw [if_pos h, if_pos (hc.1 h)]; exact h1 h
 ·rw [if_neg h, if_neg (fun e => h (hc.2 e))]; exact h2 h
theorem Sim.put (nd : Nd) : Sim X b1 (Ps.put nd s) (Rs.put nd (em s)) := by
 unfold Ps.put
 split
 ·show Rs.put nd (em s) = _
  unfold Rs.put;rw [if_pos (by show s.nodes.length < room; unfold Rs.room; omega)]
  rfl
 ·trivial
theorem Sx.few1 (c : Sx X rp rr B s0) (h : Gn X s0 s a b) (hb : -1 ≤ b := by omega) : s.nodes.length ≤ B := by
 have h2 := h.g;have h3 := h.le c.q.le;have h4 := c.q.few;have h5 := c.few;have h6 := c.lo;omega
theorem Sx.stop (c : Sx X rp rr B s0) (h : Gn X s0 s a b) (e : Int) (hb : -1 ≤ b := by omega) : Wr X (e, (Ps.now X s).pos) B (Rs.stop X e (em s)) := ⟨rfl, rfl, show s.nodes.length ≤ B from c.few1 h⟩
theorem Sx.take (c : Sx X rp rr B s0) (h : Gn X s0 s a b) (k : List UInt8) (hb : -1 ≤ b := by omega) : Sim X B (Ps.take X k s) (Rs.take X k (em s)) := by
 unfold Ps.take
 split
 ·rename_i e
  show Rs.take X k (em s) = _
  unfold Rs.take takeS;rw [if_pos (show isK X (em s) k = true from e)]
  rfl
 ·rename_i e
  show Wk X _ _ _
  unfold Rs.take takeS;rw [if_neg (show ¬ isK X (em s) k = true from e)];exact Wk.ok (c.stop h 3) _
theorem down_em (h0 : -5 ≤ s.deep) (h1 : s.deep ≤ 35) : down (em s) = em (Ps.down s) := by
 unfold down em Ps.down;have : IntKind.i64.wrap (s.deep - 1) = s.deep - 1 := IntWalk.i64_in _ (by omega);simp only [this]
theorem up_em (h0 : -5 ≤ s.deep) (h1 : s.deep ≤ 35) : up (em s) = em (Ps.up s) := by
 unfold up em Ps.up;have : IntKind.i64.wrap (s.deep + 1) = s.deep + 1 := IntWalk.i64_in _ (by omega);simp only [this]
theorem Sx.leave (c : Sx X rp rr B s0) (h : Gn X s0 s a b) (k : List UInt8) (hb : -1 ≤ b := by omega) (h0 : 0 ≤ s.deep := by omega) (h1 : s.deep ≤ 30 := by omega) : Sim X B (Ps.leave X k s) (Rs.leave X k (em s)) := by
 unfold Ps.leave Ps.take
 split
 ·rename_i e
  show Rs.leave X k (em s) = _
  unfold Rs.leave leaveS takeS;rw [if_pos (show isK X (em s) k = true from e)]
  show Res.ok [] (down (em (Ps.adv s))) = _
  rw [down_em (by show -5 ≤ s.deep; omega) (by show s.deep ≤ 35; omega)]
 ·rename_i e
  show Wk X _ _ _
  unfold Rs.leave leaveS takeS;rw [if_neg (show ¬ isK X (em s) k = true from e)];exact Wk.ok (c.stop h 3).down _
theorem Sim.enter (c : Sx X rp rr B s0) (h : Gn X s0 s a0 b0) {k : List UInt8} (hf : ∀ v s1, Gn X s0 s1 (a0 + 1) (b0 + 2) → s1.deep = s.deep + 1 → s1.deep ≤ 30 → Sim X b2 (f v s1) (g v (em s1))) (hw : ∀ v s x, Wr X x B s → Wk X (g v s) x b2) (hb : -1 ≤ b0 := by omega) (h0 : 0 ≤ s.deep := by omega) (h1 : s.deep ≤ 30 := by omega) : Sim X b2 ((Ps.enter X k s).bind f) ((Rs.enter X k (em s)).bind g) := by
 have hg := Gr.enter (X := X) k s;have hd := Ps.Dp.enter X k s;unfold Ps.enter at hg hd ⊢;unfold Rs.enter enterS
 by_cases e : Ps.isK X s k = true ∧ s.deep = 30
 ·rw [if_pos e, if_pos (show isK X (em s) k = true ∧ (em s).p.deep = 30 from e)];exact hw _ _ _ (c.stop h 4)
 ·rw [if_neg e] at hg hd ⊢;rw [if_neg (show ¬ (isK X (em s) k = true ∧ (em s).p.deep = 30) from e), up_em (by omega) (by omega)]
  unfold Ps.take at hg hd ⊢;unfold takeS
  by_cases e2 : Ps.isK X s k = true
  ·rw [if_pos e2] at hg hd ⊢;rw [if_pos (show isK X (em (Ps.up s)) k = true from e2)]
   have g1 := hg _ _ rfl;have d1 := hd _ _ rfl;have e3 : s.deep ≠ 30 := fun e4 => e ⟨e2, e4⟩
   exact hf _ _ (h.trans g1) d1 (by rw [d1]; omega)
  ·rw [if_neg e2];rw [if_neg (show ¬ isK X (em (Ps.up s)) k = true from e2)]
   exact hw _ _ _ ⟨rfl, rfl, show s.nodes.length ≤ B from c.few1 h⟩
theorem Sim.name (c : Sx X rp rr B s0) (h : Gn X s0 s a0 b0) (hf : Ps.isName X s = true → nameT X (em s) = (Ps.now X s).text → Gn X s0 (Ps.adv s) (a0 + 1) (b0 + 2) → (Ps.adv s).deep = s.deep → Sim X b2 (f [] (Ps.adv s)) (g [] (em (Ps.adv s)))) (hw : ∀ v s x, Wr X x B s → Wk X (g v s) x b2) (hb : -1 ≤ b0 := by omega) : Sim X b2 ((Ps.name X s).bind f) ((Rs.name X (em s)).bind g) := by
 unfold Ps.name Rs.name nameS
 by_cases e : Ps.isName X s = true
 ·rw [if_pos e, if_pos (show isName X (em s) = true from e)];exact hf e (by unfold nameT; rw [if_pos (show isName X (em s) = true from e)]; rfl) (h.trans (Gn.adv (Ps.name_lt e))) rfl
 ·rw [if_neg e, if_neg (show ¬ isName X (em s) = true from e)];exact hw _ _ _ (c.stop h 3)
theorem Sx.go (c : Sx X rp rr B s0) (h : Gn X s0 s a b) (f : Ps.Fn) (hb : 0 ≤ b := by omega) (h0 : 0 ≤ s.deep := by omega) (h1 : s.deep ≤ 30 := by omega) : Sim X B (rp f s) (rr f (em s)) := by
 have h2 := h.g;have h4 := c.q.few;exact c.sim f s ⟨h.le c.q.le, by omega⟩ h0 h1
theorem Sx.now (c : Sx X rp rr B s0) (s : Ps.St) : Wf (Ps.now X s) := by
 unfold Ps.now;rw [List.getD_eq_getElem?_getD]
 cases e : X.toks[s.i]? with
 | none => exact ⟨fun _ _ _ => rfl, fun h => absurd (show (0 : Int) = 3 from h) (by decide), fun h => absurd (show (0 : Int) = 4 from h) (by decide)⟩
 | some t => exact c.wf t (List.mem_of_getElem? e)
theorem no_sign : ∀ t ∈ Lx.signs, Lx.words.contains t = false := by decide
theorem no_word : ∀ t ∈ Lx.words, Lx.signs.contains t = false := by decide
theorem Sx.isW (c : Sx X rp rr B s0) (s : Ps.St) {k : List UInt8} (hk : Lx.words.contains k = true) : isW X (em s) k = Ps.isK X s k := by
 have h := c.now s;unfold Rs.isW Ps.isK
 show ((Ps.now X s).kind == 4 && (Ps.now X s).text == k) = ((Ps.now X s).text == k && ((Ps.now X s).kind == 3 || (Ps.now X s).kind == 4))
 cases e : ((Ps.now X s).text == k) with
 | false => rw [Bool.and_false, Bool.false_and]
 | true =>
  by_cases e4 : (Ps.now X s).kind = 4
  ·rw [e4]; rfl
  ·by_cases e3 : (Ps.now X s).kind = 3
   ·have h1 := h.sign e3;rw [eq_of_beq e] at h1
    have h2 := no_word k (List.contains_iff_mem.1 hk);rw [h1] at h2
    cases h2
   ·have f3 : ((Ps.now X s).kind == 3) = false := by simpa using e3
    have f4 : ((Ps.now X s).kind == 4) = false := by simpa using e4
    rw [f3, f4]
    rfl
theorem Sx.isS (c : Sx X rp rr B s0) (s : Ps.St) {k : List UInt8} (hk : Lx.signs.contains k = true) : isS X (em s) k = Ps.isK X s k := by
 have h := c.now s;unfold Rs.isS Ps.isK
 show ((Ps.now X s).kind == 3 && (Ps.now X s).text == k) = ((Ps.now X s).text == k && ((Ps.now X s).kind == 3 || (Ps.now X s).kind == 4))
 cases e : ((Ps.now X s).text == k) with
 | false => rw [Bool.and_false, Bool.false_and]
 | true =>
  by_cases e3 : (Ps.now X s).kind = 3
  ·rw [e3]; rfl
  ·by_cases e4 : (Ps.now X s).kind = 4
   ·have h1 := h.word e4;rw [eq_of_beq e] at h1
    have h2 := no_sign k (List.contains_iff_mem.1 hk);rw [h1] at h2
    cases h2
   ·have f3 : ((Ps.now X s).kind == 3) = false := by simpa using e3
    have f4 : ((Ps.now X s).kind == 4) = false := by simpa using e4
    rw [f3, f4]
    rfl
theorem Sx.begins (c : Sx X rp rr B s0) (s : Ps.St) : begins X (em s) = Ps.begins X s := by
 have h := c.now s;unfold Rs.begins Ps.begins
 show (typeWords.contains (Ps.now X s).text && (Ps.now X s).kind != 1 || (Ps.now X s).kind == 1) = (Ps.anyK X s typeWords || (Ps.now X s).kind == 1)
 by_cases e1 : (Ps.now X s).kind = 1
 ·simp [e1]
 ·have e2 : Ps.anyK X s typeWords = (typeWords.contains (Ps.now X s).text && ((Ps.now X s).kind == 3 || (Ps.now X s).kind == 4)) := by
   unfold Ps.anyK Ps.isK typeWords;generalize ((Ps.now X s).kind == 3 || (Ps.now X s).kind == 4) = z;generalize (Ps.now X s).text = t
   cases z
   ·simp
   ·simp only [Bool.and_true, List.any_cons, List.any_nil, Bool.or_false, List.contains_cons, List.contains_nil]
  rw [e2]
  by_cases e3 : (Ps.now X s).kind = 3
  ·simp [e3]
  ·by_cases e4 : (Ps.now X s).kind = 4
   ·simp [e4]
   ·have h1 := h.num e1 e3 e4;rw [h1]
    rfl
theorem Sim.iteW (c : Sx X rp rr B s0) {k : List UInt8} {x y : Ps.Res} {x' y' : Res} (hk : Lx.words.contains k = true) (h1 : Ps.isK X s k = true → Sim X b1 x x') (h2 : ¬ Ps.isK X s k = true → Sim X b1 y y') : Sim X b1 (if Ps.isK X s k then x else y) (if isW X (em s) k then x' else y') :=
 Sim.ite2 (by rw [c.isW s hk]) h1 h2
theorem Sim.iteS (c : Sx X rp rr B s0) {k : List UInt8} {x y : Ps.Res} {x' y' : Res} (hk : Lx.signs.contains k = true) (h1 : Ps.isK X s k = true → Sim X b1 x x') (h2 : ¬ Ps.isK X s k = true → Sim X b1 y y') : Sim X b1 (if Ps.isK X s k then x else y) (if isS X (em s) k then x' else y') :=
 Sim.ite2 (by rw [c.isS s hk]) h1 h2
theorem Sim.iteB (c : Sx X rp rr B s0) {x y : Ps.Res} {x' y' : Res} (h1 : Ps.begins X s = true → Sim X b1 x x') (h2 : ¬ Ps.begins X s = true → Sim X b1 y y') : Sim X b1 (if Ps.begins X s then x else y) (if begins X (em s) then x' else y') :=
 Sim.ite2 (by rw [c.begins s]) h1 h2
theorem Sx.gtyp (c : Sx X rp rr B s0) (s : Ps.St) : Gr X (rp .typ s) s 1 1 := c.gr .typ s
theorem Sx.gx (c : Sx X rp rr B s0) (k : Nat) (s : Ps.St) : Gr X (rp (.expr k) s) s 1 1 := c.gr (.expr k) s
theorem Sx.gblk (c : Sx X rp rr B s0) (s : Ps.St) : Gr X (rp .block s) s 1 1 := c.gr .block s
theorem Sx.gbr (c : Sx X rp rr B s0) (s : Ps.St) : Gr X (rp .branch s) s 1 1 := c.gr .branch s
theorem Sx.gun (c : Sx X rp rr B s0) (s : Ps.St) : Gr X (rp .unary s) s 1 1 := c.gr .unary s
theorem Sx.gst (c : Sx X rp rr B s0) (s : Ps.St) : Gr X (rp .stmt s) s 1 0 := c.gr .stmt s
theorem list_wk (hrec : ∀ f s x b, Wr X x b s → b + 43 ≤ room → Wk X (rr f s) x (b + 3)) {s : St} {x : Int × Nat} {b : Nat} (h : Wr X x b s) (hb : b + 43 ≤ room) {f : Ps.Fn} : Wk X (list X (rr f) s) x (b + 3) := by
 unfold list;refine Wk.bind (enter_wk h _) (fun v z1 w1 => ?_);refine Wk.bind (hrec _ _ _ _ w1 (by omega)) (fun v z2 w2 => ?_);refine Wk.bind (leave_wk w2 _) (fun v z3 w3 => ?_);exact Wk.ok w3 _
theorem list_sim (c : Sx X rp rr B s0) (h : Gn X s0 s a0 b0) {f : Ps.Fn} (hl : ∀ s, Gr X (rp f s) s 0 0) (hb0 : 0 ≤ b0 := by omega) (hd0 : 0 ≤ s.deep := by omega) (hd1 : s.deep ≤ 30 := by omega) : Sim X (B + 3) (Ps.list X (rp f) s) (list X (rr f) (em s)) := by
 have hroom := c.room;have hrec := c.wk;unfold Ps.list list;refine Sim.enter c h (fun v s1 h1 d1 r1 => ?_) (fun v z1 x w1 => ?_)
 ·refine Sim.bind (c.go h1 _) (c.kp _ _) (hl _) h1 (fun v s2 h2 d2 => ?_) (fun v z2 x w2 => ?_)
  ·refine Sim.bind (c.leave h2 _) (Ps.Dp.leave X _ _) (Gr.leave _ _) h2 (fun v s3 h3 d3 => ?_) (fun v z3 x w3 => ?_)
   ·rfl
   ·exact (Wk.ok w3 _).to (by omega)
  ·refine Wk.bind (leave_wk w2 _) (fun v z3 w3 => ?_);exact (Wk.ok w3 _).to (by omega)
 ·refine Wk.bind (hrec _ _ _ _ w1 (by omega)) (fun v z2 w2 => ?_);refine Wk.bind (leave_wk w2 _) (fun v z3 w3 => ?_)
  exact Wk.ok w3 _
theorem items_wk (hrec : ∀ f s x b, Wr X x b s → b + 43 ≤ room → Wk X (rr f s) x (b + 3)) {s : St} {x : Int × Nat} {b : Nat} (h : Wr X x b s) (hb : b + 43 ≤ room) {f : Ps.Fn} : Wk X (items X (rr f) s) x (b + 3) := by
 unfold items;refine Wk.bind (enter_wk h _) (fun v z1 w1 => ?_);refine Wk.bind (hrec _ _ _ _ w1 (by omega)) (fun v z2 w2 => ?_);refine Wk.bind (leave_wk w2 _) (fun v z3 w3 => ?_);exact Wk.ok w3 _
theorem items_sim (c : Sx X rp rr B s0) (h : Gn X s0 s a0 b0) {f : Ps.Fn} (hl : ∀ s, Gr X (rp f s) s 0 0) (hb0 : 0 ≤ b0 := by omega) (hd0 : 0 ≤ s.deep := by omega) (hd1 : s.deep ≤ 30 := by omega) : Sim X (B + 3) (Ps.items X (rp f) s) (items X (rr f) (em s)) := by
 have hroom := c.room;have hrec := c.wk;unfold Ps.items items;refine Sim.enter c h (fun v s1 h1 d1 r1 => ?_) (fun v z1 x w1 => ?_)
 ·refine Sim.bind (c.go h1 _) (c.kp _ _) (hl _) h1 (fun v s2 h2 d2 => ?_) (fun v z2 x w2 => ?_)
  ·refine Sim.bind (c.leave h2 _) (Ps.Dp.leave X _ _) (Gr.leave _ _) h2 (fun v s3 h3 d3 => ?_) (fun v z3 x w3 => ?_)
   ·rfl
   ·exact (Wk.ok w3 _).to (by omega)
  ·refine Wk.bind (leave_wk w2 _) (fun v z3 w3 => ?_);exact (Wk.ok w3 _).to (by omega)
 ·refine Wk.bind (hrec _ _ _ _ w1 (by omega)) (fun v z2 w2 => ?_);refine Wk.bind (leave_wk w2 _) (fun v z3 w3 => ?_)
  exact Wk.ok w3 _
theorem listL_sim (c : Sx X rp rr B s0) (h : Gn X s0 s a0 b0) {o : Ps.St → Ps.Res} {o' : St → Res} {g : List Nat → Ps.St → Ps.Res} {g' : List Nat → St → Res} (acc : List Nat) (ho : Sim X (B + 8) (o s) (o' (em s))) (gd : Ps.Dp (o s) s.deep) (go : Gr X (o s) s 1 0)
  (hg : ∀ a s1, Gn X s0 s1 a0 b0 → 0 ≤ s1.deep → s1.deep ≤ 30 → Sim X B (g a s1) (g' a (em s1))) (hgw : ∀ a s x b, Wr X x b s → b + 43 ≤ room → Wk X (g' a s) x (b + 3)) (hb0 : 0 ≤ b0 := by omega) (hd0 : 0 ≤ s.deep := by omega) (hd1 : s.deep ≤ 30 := by omega) : Sim X (B + 11) (Ps.listL X o g acc s) (listL X o' g' acc (em s)) := by
 have hroom := c.room;unfold Ps.listL listL;refine Sim.ite2 (by show _ ↔ ((Ps.isK X s Ps.k_rp || false) = true); rw [Bool.or_false]) (fun _ => rfl) (fun _ => ?_);refine Sim.bind ho gd go h (fun v s1 h1 d1 => ?_) (fun v z1 x w1 => ?_)
 ·refine Sim.ite (fun _ => rfl) (fun _ => ?_)
  ·refine Sim.bind (c.take h1 _) (Ps.Dp.take X _ _) (Gr.take _ _) h1 (fun v s2 h2 d2 => ?_) (fun v z2 x w2 => ?_)
   ·by_cases e : Ps.isK X s2 Ps.k_rp = true
    ·rw [if_pos e, if_pos (show isK X (em s2) Ps.k_rp = true from e)];exact (hgw _ _ _ _ (c.stop h2 3) (by omega)).to (by omega)
    ·rw [if_neg e, if_neg (show ¬ isK X (em s2) Ps.k_rp = true from e)];exact (hg _ _ h2.to (by omega) (by omega)).mono (by omega)
   ·rw [if_neg (by rw [w2.isK]; simp)];exact (hgw _ _ _ _ w2 (by omega)).to (by omega)
 ·refine Wk.els (by rw [w1.isK]; simp) ?_;refine Wk.bind (take_wk w1 _) (fun v z2 w2 => ?_)
  rw [if_neg (by rw [w2.isK]; simp)];exact (hgw _ _ _ _ w2 (by omega)).to (by omega)
theorem itemsL_sim (c : Sx X rp rr B s0) (h : Gn X s0 s a0 b0) {o : Ps.St → Ps.Res} {o' : St → Res} {g : List Nat → Ps.St → Ps.Res} {g' : List Nat → St → Res} (acc : List Nat) (ho : Sim X (B + 8) (o s) (o' (em s))) (gd : Ps.Dp (o s) s.deep) (go : Gr X (o s) s 1 0)
  (hg : ∀ a s1, Gn X s0 s1 a0 b0 → 0 ≤ s1.deep → s1.deep ≤ 30 → Sim X B (g a s1) (g' a (em s1))) (hgw : ∀ a s x b, Wr X x b s → b + 43 ≤ room → Wk X (g' a s) x (b + 3)) (hb0 : 0 ≤ b0 := by omega) (hd0 : 0 ≤ s.deep := by omega) (hd1 : s.deep ≤ 30 := by omega) : Sim X (B + 11) (Ps.itemsL X o g acc s) (itemsL X o' g' acc (em s)) := by
 have hroom := c.room;unfold Ps.itemsL itemsL;refine Sim.ite2 (by show _ ↔ ((Ps.isK X s Ps.k_rb || false) = true); rw [Bool.or_false]) (fun _ => rfl) (fun _ => ?_);refine Sim.bind ho gd go h (fun v s1 h1 d1 => ?_) (fun v z1 x w1 => ?_)
 ·refine Sim.ite (fun _ => rfl) (fun _ => ?_)
  ·refine Sim.bind (c.take h1 _) (Ps.Dp.take X _ _) (Gr.take _ _) h1 (fun v s2 h2 d2 => ?_) (fun v z2 x w2 => ?_)
   ·exact (hg _ _ h2.to (by omega) (by omega)).mono (by omega)
   ·exact (hgw _ _ _ _ w2 (by omega)).to (by omega)
 ·refine Wk.els (by rw [w1.isK]; simp) ?_;refine Wk.bind (take_wk w1 _) (fun v z2 w2 => ?_)
  exact (hgw _ _ _ _ w2 (by omega)).to (by omega)
theorem pointer_wk {s : St} {x : Int × Nat} {b : Nat} (h : Wr X x b s) (hb : b + 41 ≤ room) : Wk X (pointer X s) x (b + 1) := by
 unfold pointer;refine Wk.bind (take_wk h _) (fun v z1 w1 => ?_);refine Wk.bind (name_wk w1) (fun v z2 w2 => ?_);exact (put_wk w2 (by omega) _).to (by omega)
theorem pointer_sim (c : Sx X rp rr B s0) (h : Gn X s0 s a0 b0) (hb0 : 0 ≤ b0 := by omega) (_hd0 : 0 ≤ s.deep := by omega) (_hd1 : s.deep ≤ 30 := by omega) : Sim X (B + 1) (Ps.pointer X s) (pointer X (em s)) := by
 have hroom := c.room;have hrec := c.wk;unfold Ps.pointer pointer;refine Sim.bind (c.take h _) (Ps.Dp.take X _ _) (Gr.take _ _) h (fun v s1 h1 d1 => ?_) (fun v z1 x w1 => ?_)
 ·skip
  refine Sim.name c h1 (fun e2 t2 h2 d2 => ?_) (fun v z2 x w2 => ?_)
  ·skip
   rw [t2];exact Sim.put _
  ·skip
   exact (put_wk w2 (by omega) _).to (by omega)
 ·skip
  refine Wk.bind (name_wk w1) (fun v z5 w5 => ?_);exact (put_wk w5 (by omega) _).to (by omega)
theorem named_wk (hrec : ∀ f s x b, Wr X x b s → b + 43 ≤ room → Wk X (rr f s) x (b + 3)) {s : St} {x : Int × Nat} {b : Nat} (h : Wr X x b s) (hb : b + 44 ≤ room) {kind : Int} : Wk X (named X rr kind s) x (b + 4) := by
 unfold named;refine Wk.bind (name_wk h) (fun v z7 w7 => ?_);refine Wk.bind (hrec _ _ _ _ w7 (by omega)) (fun v z8 w8 => ?_);exact (put_wk w8 (by omega) _).to (by omega)
theorem named_sim (c : Sx X rp rr B s0) (h : Gn X s0 s a0 b0) (kind : Int) (hb0 : 0 ≤ b0 := by omega) (hd0 : 0 ≤ s.deep := by omega) (hd1 : s.deep ≤ 30 := by omega) : Sim X (B + 4) (Ps.named X rp kind s) (named X rr kind (em s)) := by
 have hroom := c.room;have hrec := c.wk;unfold Ps.named named;refine Sim.name c h (fun e4 t4 h4 d4 => ?_) (fun v z4 x w4 => ?_)
 ·skip
  rw [t4];refine Sim.bind (c.go h4 _) (c.kp _ _) (c.gtyp _) h4 (fun v s5 h5 d5 => ?_) (fun v z5 x w5 => ?_)
  ·skip
   exact Sim.put _
  ·skip
   exact (put_wk w5 (by omega) _).to (by omega)
 ·skip
  refine Wk.bind (hrec _ _ _ _ w4 (by omega)) (fun v z11 w11 => ?_);exact (put_wk w11 (by omega) _).to (by omega)
theorem sig_wk (hrec : ∀ f s x b, Wr X x b s → b + 43 ≤ room → Wk X (rr f s) x (b + 3)) {s : St} {x : Int × Nat} {b : Nat} (h : Wr X x b s) (hb : b + 44 ≤ room) : Wk X (sig X rr s) x (b + 4) := by
 unfold sig;refine Wk.bind (list_wk hrec h (by omega)) (fun v z13 w13 => ?_);unfold result;refine Wk.els (by rw [w13.begins]; simp) ?_;exact (put_wk w13 (by omega) _).to (by omega)
theorem sig_sim (c : Sx X rp rr B s0) (h : Gn X s0 s a0 b0) (hb0 : 0 ≤ b0 := by omega) (hd0 : 0 ≤ s.deep := by omega) (hd1 : s.deep ≤ 30 := by omega) : Sim X (B + 4) (Ps.sig X rp s) (sig X rr (em s)) := by
 have hroom := c.room;have hrec := c.wk;unfold Ps.sig sig;refine Sim.bind (list_sim c h (fun s => c.gr _ s)) (Ps.list_dp (fun s => c.kp _ s) _) (Ps.list_gr (fun s => c.gr _ s) _) h (fun v s7 h7 d7 => ?_) (fun v z7 x w7 => ?_)
 ·skip
  unfold Ps.result result;refine Sim.iteB c (fun e => ?_) (fun _ => ?_)
  ·skip
   refine Sim.bind (c.go h7 _) (c.kp _ _) (c.gtyp _) h7 (fun v s10 h10 d10 => ?_) (fun v z10 x w10 => ?_)
   ·skip
    exact Sim.put _
   ·skip
    exact (put_wk w10 (by omega) _).to (by omega)
  ·skip
   exact Sim.put _
 ·skip
  unfold result;refine Wk.els (by rw [w7.begins]; simp) ?_;exact (put_wk w7 (by omega) _).to (by omega)
theorem typF_wk {rr : Rec} {s : St} {x : Int × Nat} {b : Nat} (h : Wr X x b s) (hb : b + 41 ≤ room) : Wk X (typF X rr s) x (b + 1) := by
 unfold typF;refine Wk.els (by rw [h.isK]; simp) ?_;refine Wk.els (by rw [h.isK]; simp) ?_;refine Wk.els (by rw [h.isK]; simp) ?_;refine Wk.els (by rw [h.isK]; simp) ?_;refine Wk.els (by rw [h.isK]; simp) ?_;refine Wk.bind (name_wk h) (fun v z26 w26 => ?_);exact (put_wk w26 (by omega) _).to (by omega)
theorem typF_sim (c : Sx X rp rr B s0) (h : Gn X s0 s a0 b0) (hb0 : 0 ≤ b0 := by omega) (hd0 : 0 ≤ s.deep := by omega) (hd1 : s.deep ≤ 30 := by omega) : Sim X (B + 4) (Ps.typF X rp s) (typF X rr (em s)) := by
 have hroom := c.room;have hrec := c.wk;unfold Ps.typF typF;refine Sim.ite (fun e => ?_) (fun _ => ?_)
 ·skip
  have h14 := h.trans (Gn.adv (Ps.key_lt e));have d14 : (Ps.adv s).deep = s.deep := rfl;exact Sim.put _
 ·skip
  refine Sim.ite (fun e => ?_) (fun _ => ?_)
  ·skip
   have h17 := h.trans (Gn.adv (Ps.key_lt e));have d17 : (Ps.adv s).deep = s.deep := rfl;exact Sim.put _
  ·skip
   refine Sim.ite (fun e => ?_) (fun _ => ?_)
   ·skip
    exact (pointer_sim c h).mono (by omega)
   ·skip
    refine Sim.ite (fun e => ?_) (fun _ => ?_)
    ·skip
     refine Sim.enter c h (fun v s22 h22 d22 r22 => ?_) (fun v z22 x w22 => ?_)
     ·skip
      refine Sim.bind (c.go h22 _) (c.kp _ _) (c.gtyp _) h22 (fun v s23 h23 d23 => ?_) (fun v z23 x w23 => ?_)
      ·skip
       have h24 := h23.down;have d24 : (Ps.down s23).deep = s23.deep - 1 := rfl;rw [down_em (by omega) (by omega)];exact Sim.put _
      ·skip
       exact (put_wk w23.down (by omega) _).to (by omega)
     ·skip
      refine Wk.bind (hrec _ _ _ _ w22 (by omega)) (fun v z30 w30 => ?_);exact (put_wk w30.down (by omega) _).to (by omega)
    ·skip
     refine Sim.ite (fun e => ?_) (fun _ => ?_)
     ·skip
      refine Sim.enter c h (fun v s27 h27 d27 r27 => ?_) (fun v z27 x w27 => ?_)
      ·skip
       refine Sim.bind (list_sim c h27 (fun s => c.gr _ s)) (Ps.list_dp (fun s => c.kp _ s) _) (Ps.list_gr (fun s => c.gr _ s) _) h27 (fun v s28 h28 d28 => ?_) (fun v z28 x w28 => ?_)
       ·skip
        unfold Ps.result result;refine Sim.iteB c (fun e => ?_) (fun _ => ?_)
        ·skip
         refine Sim.bind (c.go h28 _) (c.kp _ _) (c.gtyp _) h28 (fun v s31 h31 d31 => ?_) (fun v z31 x w31 => ?_)
         ·skip
          have h32 := h31.down;have d32 : (Ps.down s31).deep = s31.deep - 1 := rfl;rw [down_em (by omega) (by omega)];exact Sim.put _
         ·skip
          exact (put_wk w31.down (by omega) _).to (by omega)
        ·skip
         have h34 := h28.down;have d34 : (Ps.down s28).deep = s28.deep - 1 := rfl;rw [down_em (by omega) (by omega)];exact Sim.put _
       ·skip
        unfold result;refine Wk.els (by rw [w28.begins]; simp) ?_;exact (put_wk w28.down (by omega) _).to (by omega)
      ·skip
       refine Wk.bind (list_wk hrec w27 (by omega)) (fun v z39 w39 => ?_);unfold result;refine Wk.els (by rw [w39.begins]; simp) ?_;exact (put_wk w39.down (by omega) _).to (by omega)
     ·skip
      refine Sim.name c h (fun e36 t36 h36 d36 => ?_) (fun v z36 x w36 => ?_)
      ·skip
       rw [t36];exact Sim.put _
      ·skip
       exact (put_wk w36 (by omega) _).to (by omega)
theorem blockF_wk (hrec : ∀ f s x b, Wr X x b s → b + 43 ≤ room → Wk X (rr f s) x (b + 3)) {s : St} {x : Int × Nat} {b : Nat} (h : Wr X x b s) (hb : b + 44 ≤ room) : Wk X (blockF X rr s) x (b + 4) := by
 unfold blockF;refine Wk.bind (items_wk hrec h (by omega)) (fun v z45 w45 => ?_);exact (put_wk w45 (by omega) _).to (by omega)
theorem blockF_sim (c : Sx X rp rr B s0) (h : Gn X s0 s a0 b0) (hb0 : 0 ≤ b0 := by omega) (hd0 : 0 ≤ s.deep := by omega) (hd1 : s.deep ≤ 30 := by omega) : Sim X (B + 4) (Ps.blockF X rp s) (blockF X rr (em s)) := by
 have hroom := c.room;have hrec := c.wk;unfold Ps.blockF blockF;refine Sim.bind (items_sim c h (fun s => c.gr _ s)) (Ps.items_dp (fun s => c.kp _ s) _) (Ps.items_gr (fun s => c.gr _ s) _) h (fun v s38 h38 d38 => ?_) (fun v z38 x w38 => ?_)
 ·skip
  exact Sim.put _
 ·skip
  exact (put_wk w38 (by omega) _).to (by omega)
theorem bracketed_wk (hrec : ∀ f s x b, Wr X x b s → b + 43 ≤ room → Wk X (rr f s) x (b + 3)) {s : St} {x : Int × Nat} {b : Nat} (h : Wr X x b s) (hb : b + 44 ≤ room) {kind : Int} {at_ : Nat} : Wk X (bracketed X rr kind at_ s) x (b + 4) := by
 unfold bracketed;refine Wk.bind (enter_wk h _) (fun v z48 w48 => ?_);refine Wk.bind (hrec _ _ _ _ w48 (by omega)) (fun v z49 w49 => ?_);refine Wk.bind (leave_wk w49 _) (fun v z50 w50 => ?_);exact (put_wk w50 (by omega) _).to (by omega)
theorem bracketed_sim (c : Sx X rp rr B s0) (h : Gn X s0 s a0 b0) (kind : Int) (at_ : Nat) (hb0 : 0 ≤ b0 := by omega) (hd0 : 0 ≤ s.deep := by omega) (hd1 : s.deep ≤ 30 := by omega) : Sim X (B + 4) (Ps.bracketed X rp kind at_ s) (bracketed X rr kind at_ (em s)) := by
 have hroom := c.room;have hrec := c.wk;unfold Ps.bracketed bracketed;refine Sim.enter c h (fun v s40 h40 d40 r40 => ?_) (fun v z40 x w40 => ?_)
 ·skip
  refine Sim.bind (c.go h40 _) (c.kp _ _) (c.gx _ _) h40 (fun v s41 h41 d41 => ?_) (fun v z41 x w41 => ?_)
  ·skip
   refine Sim.bind (c.leave h41 _) (Ps.Dp.leave X _ _) (Gr.leave _ _) h41 (fun v s42 h42 d42 => ?_) (fun v z42 x w42 => ?_)
   ·skip
    exact Sim.put _
   ·skip
    exact (put_wk w42 (by omega) _).to (by omega)
  ·skip
   refine Wk.bind (leave_wk w41 _) (fun v z53 w53 => ?_);exact (put_wk w53 (by omega) _).to (by omega)
 ·skip
  refine Wk.bind (hrec _ _ _ _ w40 (by omega)) (fun v z55 w55 => ?_);refine Wk.bind (leave_wk w55 _) (fun v z56 w56 => ?_);exact (put_wk w56 (by omega) _).to (by omega)
theorem bodyF_wk (hrec : ∀ f s x b, Wr X x b s → b + 43 ≤ room → Wk X (rr f s) x (b + 3)) {s : St} {x : Int × Nat} {b : Nat} (h : Wr X x b s) (hb : b + 44 ≤ room) : Wk X (bodyF X rr s) x (b + 4) := by
 unfold bodyF;refine Wk.bind (take_wk h _) (fun v z58 w58 => ?_);refine Wk.bind (hrec _ _ _ _ w58 (by omega)) (fun v z59 w59 => ?_);exact (put_wk w59 (by omega) _).to (by omega)
theorem bodyF_sim (c : Sx X rp rr B s0) (h : Gn X s0 s a0 b0) (hb0 : 0 ≤ b0 := by omega) (hd0 : 0 ≤ s.deep := by omega) (hd1 : s.deep ≤ 30 := by omega) : Sim X (B + 4) (Ps.bodyF X rp s) (bodyF X rr (em s)) := by
 have hroom := c.room;have hrec := c.wk;unfold Ps.bodyF bodyF;refine Sim.bind (c.take h _) (Ps.Dp.take X _ _) (Gr.take _ _) h (fun v s44 h44 d44 => ?_) (fun v z44 x w44 => ?_)
 ·skip
  refine Sim.bind (c.go h44 _) (c.kp _ _) (show Gr X _ _ 0 0 from c.gr _ _) h44 (fun v s45 h45 d45 => ?_) (fun v z45 x w45 => ?_)
  ·skip
   exact Sim.put _
  ·skip
   exact (put_wk w45 (by omega) _).to (by omega)
 ·skip
  refine Wk.bind (hrec _ _ _ _ w44 (by omega)) (fun v z62 w62 => ?_);exact (put_wk w62 (by omega) _).to (by omega)
theorem caseF_wk (hrec : ∀ f s x b, Wr X x b s → b + 43 ≤ room → Wk X (rr f s) x (b + 3)) {s : St} {x : Int × Nat} {b : Nat} (h : Wr X x b s) (hb : b + 51 ≤ room) : Wk X (caseF X rr s) x (b + 11) := by
 unfold caseF;refine Wk.els (by rw [h.isK]; simp) ?_;refine Wk.bind (take_wk h _) (fun v z65 w65 => ?_);refine Wk.els (by rw [w65.isName]; simp) ?_;refine Wk.els (by rw [w65.isK]; simp) ?_;refine Wk.bind (hrec _ _ _ _ w65 (by omega)) (fun v z68 w68 => ?_);refine Wk.bind (take_wk w68 _) (fun v z69 w69 => ?_);refine Wk.bind (hrec _ _ _ _ w69 (by omega)) (fun v z70 w70 => ?_);refine Wk.bind (bodyF_wk hrec w70 (by omega)) (fun v z71 w71 => ?_);exact (put_wk w71 (by omega) _).to (by omega)
theorem caseF_sim (c : Sx X rp rr B s0) (h : Gn X s0 s a0 b0) (hb0 : 0 ≤ b0 := by omega) (hd0 : 0 ≤ s.deep := by omega) (hd1 : s.deep ≤ 30 := by omega) : Sim X (B + 11) (Ps.caseF X rp s) (caseF X rr (em s)) := by
 have hroom := c.room;have hrec := c.wk;unfold Ps.caseF caseF;refine Sim.ite (fun e => ?_) (fun _ => ?_)
 ·skip
  have h48 := h.trans (Gn.adv (Ps.key_lt e));have d48 : (Ps.adv s).deep = s.deep := rfl;refine Sim.bind (bodyF_sim c h48) (Ps.bodyF_dp c.kp _) (Ps.bodyF_gr c.gr _) h48 (fun v s49 h49 d49 => ?_) (fun v z49 x w49 => ?_)
  ·skip
   exact Sim.put _
  ·skip
   exact (put_wk w49 (by omega) _).to (by omega)
 ·skip
  refine Sim.bind (c.take h _) (Ps.Dp.take X _ _) (Gr.take _ _) h (fun v s51 h51 d51 => ?_) (fun v z51 x w51 => ?_)
  ·skip
   refine Sim.ite (fun e => ?_) (fun _ => ?_)
   ·skip
    have h53 := h51.trans (Gn.adv2 (Ps.next_lt e.2));have d53 : (Ps.adv2 s51).deep = s51.deep := rfl;refine Sim.bind (c.take h53 _) (Ps.Dp.take X _ _) (Gr.take _ _) h53 (fun v s54 h54 d54 => ?_) (fun v z54 x w54 => ?_)
    ·skip
     refine Sim.bind (c.go h54 _) (c.kp _ _) (c.gx _ _) h54 (fun v s55 h55 d55 => ?_) (fun v z55 x w55 => ?_)
     ·skip
      refine Sim.bind (bodyF_sim c h55) (Ps.bodyF_dp c.kp _) (Ps.bodyF_gr c.gr _) h55 (fun v s56 h56 d56 => ?_) (fun v z56 x w56 => ?_)
      ·skip
       exact Sim.put _
      ·skip
       exact (put_wk w56 (by omega) _).to (by omega)
     ·skip
      refine Wk.bind (bodyF_wk hrec w55 (by omega)) (fun v z75 w75 => ?_);exact (put_wk w75 (by omega) _).to (by omega)
    ·skip
     refine Wk.bind (hrec _ _ _ _ w54 (by omega)) (fun v z77 w77 => ?_);refine Wk.bind (bodyF_wk hrec w77 (by omega)) (fun v z78 w78 => ?_);exact (put_wk w78 (by omega) _).to (by omega)
   ·skip
    refine Sim.ite (fun e => ?_) (fun _ => ?_)
    ·skip
     have h59 := h51.trans (Gn.adv (Ps.key_lt e));have d59 : (Ps.adv s51).deep = s51.deep := rfl;refine Sim.bind (c.go h59 _) (c.kp _ _) (c.gx _ _) h59 (fun v s60 h60 d60 => ?_) (fun v z60 x w60 => ?_)
     ·skip
      refine Sim.bind (bodyF_sim c h60) (Ps.bodyF_dp c.kp _) (Ps.bodyF_gr c.gr _) h60 (fun v s61 h61 d61 => ?_) (fun v z61 x w61 => ?_)
      ·skip
       exact Sim.put _
      ·skip
       exact (put_wk w61 (by omega) _).to (by omega)
     ·skip
      refine Wk.bind (bodyF_wk hrec w60 (by omega)) (fun v z81 w81 => ?_);exact (put_wk w81 (by omega) _).to (by omega)
    ·skip
     refine Sim.bind (c.go h51 _) (c.kp _ _) (c.gx _ _) h51 (fun v s63 h63 d63 => ?_) (fun v z63 x w63 => ?_)
     ·skip
      refine Sim.bind (c.take h63 _) (Ps.Dp.take X _ _) (Gr.take _ _) h63 (fun v s64 h64 d64 => ?_) (fun v z64 x w64 => ?_)
      ·skip
       refine Sim.bind (c.go h64 _) (c.kp _ _) (c.gx _ _) h64 (fun v s65 h65 d65 => ?_) (fun v z65 x w65 => ?_)
       ·skip
        refine Sim.bind (bodyF_sim c h65) (Ps.bodyF_dp c.kp _) (Ps.bodyF_gr c.gr _) h65 (fun v s66 h66 d66 => ?_) (fun v z66 x w66 => ?_)
        ·skip
         exact Sim.put _
        ·skip
         exact (put_wk w66 (by omega) _).to (by omega)
       ·skip
        refine Wk.bind (bodyF_wk hrec w65 (by omega)) (fun v z84 w84 => ?_);exact (put_wk w84 (by omega) _).to (by omega)
      ·skip
       refine Wk.bind (hrec _ _ _ _ w64 (by omega)) (fun v z86 w86 => ?_);refine Wk.bind (bodyF_wk hrec w86 (by omega)) (fun v z87 w87 => ?_);exact (put_wk w87 (by omega) _).to (by omega)
     ·skip
      refine Wk.bind (take_wk w63 _) (fun v z89 w89 => ?_);refine Wk.bind (hrec _ _ _ _ w89 (by omega)) (fun v z90 w90 => ?_);refine Wk.bind (bodyF_wk hrec w90 (by omega)) (fun v z91 w91 => ?_);exact (put_wk w91 (by omega) _).to (by omega)
  ·skip
   refine Wk.els (by rw [w51.isName]; simp) ?_;refine Wk.els (by rw [w51.isK]; simp) ?_;refine Wk.bind (hrec _ _ _ _ w51 (by omega)) (fun v z95 w95 => ?_);refine Wk.bind (take_wk w95 _) (fun v z96 w96 => ?_);refine Wk.bind (hrec _ _ _ _ w96 (by omega)) (fun v z97 w97 => ?_);refine Wk.bind (bodyF_wk hrec w97 (by omega)) (fun v z98 w98 => ?_);exact (put_wk w98 (by omega) _).to (by omega)
theorem choice_wk (hrec : ∀ f s x b, Wr X x b s → b + 43 ≤ room → Wk X (rr f s) x (b + 3)) {s : St} {x : Int × Nat} {b : Nat} (h : Wr X x b s) (hb : b + 44 ≤ room) {at_ : Nat} : Wk X (choice X rr at_ s) x (b + 4) := by
 unfold choice;refine Wk.bind (enter_wk h _) (fun v z100 w100 => ?_);refine Wk.bind (hrec _ _ _ _ w100 (by omega)) (fun v z101 w101 => ?_);refine Wk.bind (leave_wk w101 _) (fun v z102 w102 => ?_);exact (put_wk w102 (by omega) _).to (by omega)
theorem choice_sim (c : Sx X rp rr B s0) (h : Gn X s0 s a0 b0) (at_ : Nat) (hb0 : 0 ≤ b0 := by omega) (hd0 : 0 ≤ s.deep := by omega) (hd1 : s.deep ≤ 30 := by omega) : Sim X (B + 4) (Ps.choice X rp at_ s) (choice X rr at_ (em s)) := by
 have hroom := c.room;have hrec := c.wk;unfold Ps.choice choice;refine Sim.enter c h (fun v s68 h68 d68 r68 => ?_) (fun v z68 x w68 => ?_)
 ·skip
  refine Sim.bind (c.go h68 _) (c.kp _ _) (show Gr X _ _ 0 0 from c.gr _ _) h68 (fun v s69 h69 d69 => ?_) (fun v z69 x w69 => ?_)
  ·skip
   refine Sim.bind (c.leave h69 _) (Ps.Dp.leave X _ _) (Gr.leave _ _) h69 (fun v s70 h70 d70 => ?_) (fun v z70 x w70 => ?_)
   ·skip
    exact Sim.put _
   ·skip
    exact (put_wk w70 (by omega) _).to (by omega)
  ·skip
   refine Wk.bind (leave_wk w69 _) (fun v z105 w105 => ?_);exact (put_wk w105 (by omega) _).to (by omega)
 ·skip
  refine Wk.bind (hrec _ _ _ _ w68 (by omega)) (fun v z107 w107 => ?_);refine Wk.bind (leave_wk w107 _) (fun v z108 w108 => ?_);exact (put_wk w108 (by omega) _).to (by omega)
theorem stmtF_wk (hrec : ∀ f s x b, Wr X x b s → b + 43 ≤ room → Wk X (rr f s) x (b + 3)) {s : St} {x : Int × Nat} {b : Nat} (h : Wr X x b s) (hb : b + 44 ≤ room) : Wk X (stmtF X rr s) x (b + 4) := by
 unfold stmtF;refine Wk.els (by rw [h.isW]; simp) ?_;refine Wk.els (by rw [h.isW]; simp) ?_;refine Wk.els (by rw [h.isW]; simp) ?_;refine Wk.els (by rw [h.isW]; simp) ?_;refine Wk.els (by rw [h.isW]; simp) ?_;refine Wk.els (by rw [h.isW]; simp) ?_;refine Wk.els (by rw [h.isW]; simp) ?_;refine Wk.els (by rw [h.isW]; simp) ?_;refine Wk.els (by rw [h.isW]; simp) ?_;refine Wk.els (by rw [h.isName]; simp) ?_;refine Wk.bind (hrec _ _ _ _ h (by omega)) (fun v z120 w120 => ?_);refine Wk.els (by rw [w120.isK]; simp) ?_;refine Wk.els (by rw [w120.isK]; simp) ?_;exact (put_wk w120 (by omega) _).to (by omega)
theorem stmtF_sim (c : Sx X rp rr B s0) (h : Gn X s0 s a0 b0) (hb0 : 0 ≤ b0 := by omega) (hd0 : 0 ≤ s.deep := by omega) (hd1 : s.deep ≤ 30 := by omega) : Sim X (B + 4) (Ps.stmtF X rp s) (stmtF X rr (em s)) := by
 have hroom := c.room;have hrec := c.wk;unfold Ps.stmtF stmtF;refine Sim.iteW c (by decide) (fun e => ?_) (fun _ => ?_)
 ·skip
  have h73 := h.trans (Gn.adv (Ps.key_lt e));have d73 : (Ps.adv s).deep = s.deep := rfl;refine Sim.bind (c.go h73 _) (c.kp _ _) (c.gx _ _) h73 (fun v s74 h74 d74 => ?_) (fun v z74 x w74 => ?_)
  ·skip
   exact Sim.put _
  ·skip
   exact (put_wk w74 (by omega) _).to (by omega)
 ·skip
  refine Sim.iteW c (by decide) (fun e => ?_) (fun _ => ?_)
  ·skip
   have h77 := h.trans (Gn.adv (Ps.key_lt e));have d77 : (Ps.adv s).deep = s.deep := rfl;exact (bracketed_sim c h77 _ _).mono (by omega)
  ·skip
   refine Sim.iteW c (by decide) (fun e => ?_) (fun _ => ?_)
   ·skip
    have h80 := h.trans (Gn.adv (Ps.key_lt e));have d80 : (Ps.adv s).deep = s.deep := rfl;exact (bracketed_sim c h80 _ _).mono (by omega)
   ·skip
    refine Sim.iteW c (by decide) (fun e => ?_) (fun _ => ?_)
    ·skip
     have h83 := h.trans (Gn.adv (Ps.key_lt e));have d83 : (Ps.adv s).deep = s.deep := rfl;exact (bracketed_sim c h83 _ _).mono (by omega)
    ·skip
     refine Sim.iteW c (by decide) (fun e => ?_) (fun _ => ?_)
     ·skip
      exact (c.go h _).mono (by omega)
     ·skip
      refine Sim.iteW c (by decide) (fun e => ?_) (fun _ => ?_)
      ·skip
       have h88 := h.trans (Gn.adv (Ps.key_lt e));have d88 : (Ps.adv s).deep = s.deep := rfl;refine Sim.bind (c.go h88 _) (c.kp _ _) (c.gx _ _) h88 (fun v s89 h89 d89 => ?_) (fun v z89 x w89 => ?_)
       ·skip
        refine Sim.bind (c.go h89 _) (c.kp _ _) (c.gblk _) h89 (fun v s90 h90 d90 => ?_) (fun v z90 x w90 => ?_)
        ·skip
         exact Sim.put _
        ·skip
         exact (put_wk w90 (by omega) _).to (by omega)
       ·skip
        refine Wk.bind (hrec _ _ _ _ w89 (by omega)) (fun v z126 w126 => ?_);exact (put_wk w126 (by omega) _).to (by omega)
      ·skip
       refine Sim.iteW c (by decide) (fun e => ?_) (fun _ => ?_)
       ·skip
        have h93 := h.trans (Gn.adv (Ps.key_lt e));have d93 : (Ps.adv s).deep = s.deep := rfl;refine Sim.ite (fun e => ?_) (fun _ => ?_)
        ·skip
         exact Sim.put _
        ·skip
         refine Sim.bind (c.go h93 _) (c.kp _ _) (c.gx _ _) h93 (fun v s96 h96 d96 => ?_) (fun v z96 x w96 => ?_)
         ·skip
          exact Sim.put _
         ·skip
          exact (put_wk w96 (by omega) _).to (by omega)
       ·skip
        refine Sim.iteW c (by decide) (fun e => ?_) (fun _ => ?_)
        ·skip
         have h99 := h.trans (Gn.adv (Ps.key_lt e));have d99 : (Ps.adv s).deep = s.deep := rfl;exact Sim.put _
        ·skip
         refine Sim.iteW c (by decide) (fun e => ?_) (fun _ => ?_)
         ·skip
          have h102 := h.trans (Gn.adv (Ps.key_lt e));have d102 : (Ps.adv s).deep = s.deep := rfl;exact (choice_sim c h102 _).mono (by omega)
         ·skip
          refine Sim.ite (fun e => ?_) (fun _ => ?_)
          ·skip
           have h105 := h.trans (Gn.adv2 (Ps.next_lt e.2));have d105 : (Ps.adv2 s).deep = s.deep := rfl;refine Sim.bind (c.go h105 _) (c.kp _ _) (c.gx _ _) h105 (fun v s106 h106 d106 => ?_) (fun v z106 x w106 => ?_)
           ·skip
            exact Sim.put _
           ·skip
            exact (put_wk w106 (by omega) _).to (by omega)
          ·skip
           refine Sim.bind (c.go h _) (c.kp _ _) (c.gx _ _) h (fun v s108 h108 d108 => ?_) (fun v z108 x w108 => ?_)
           ·skip
            refine Sim.ite (fun e => ?_) (fun _ => ?_)
            ·skip
             have h110 := h108.trans (Gn.adv (Ps.key_lt e));have d110 : (Ps.adv s108).deep = s108.deep := rfl;refine Sim.bind (c.go h110 _) (c.kp _ _) (c.gx _ _) h110 (fun v s111 h111 d111 => ?_) (fun v z111 x w111 => ?_)
             ·skip
              exact Sim.put _
             ·skip
              exact (put_wk w111 (by omega) _).to (by omega)
            ·skip
             refine Sim.ite (fun e => ?_) (fun _ => ?_)
             ·skip
              have h114 := h108.trans (Gn.adv (Ps.key_lt e));have d114 : (Ps.adv s108).deep = s108.deep := rfl;refine Sim.bind (c.go h114 _) (c.kp _ _) (c.gx _ _) h114 (fun v s115 h115 d115 => ?_) (fun v z115 x w115 => ?_)
              ·skip
               exact Sim.put _
              ·skip
               exact (put_wk w115 (by omega) _).to (by omega)
             ·skip
              exact Sim.put _
           ·skip
            refine Wk.els (by rw [w108.isK]; simp) ?_;refine Wk.els (by rw [w108.isK]; simp) ?_;exact (put_wk w108 (by omega) _).to (by omega)
theorem branchF_wk (hrec : ∀ f s x b, Wr X x b s → b + 43 ≤ room → Wk X (rr f s) x (b + 3)) {s : St} {x : Int × Nat} {b : Nat} (h : Wr X x b s) (hb : b + 47 ≤ room) : Wk X (branchF X rr s) x (b + 7) := by
 unfold branchF;refine Wk.bind (take_wk h _) (fun v z135 w135 => ?_);refine Wk.bind (hrec _ _ _ _ w135 (by omega)) (fun v z136 w136 => ?_);refine Wk.bind (hrec _ _ _ _ w136 (by omega)) (fun v z137 w137 => ?_);refine Wk.els (by rw [w137.isK]; simp) ?_;exact (put_wk w137 (by omega) _).to (by omega)
theorem branchF_sim (c : Sx X rp rr B s0) (h : Gn X s0 s a0 b0) (hb0 : 0 ≤ b0 := by omega) (hd0 : 0 ≤ s.deep := by omega) (hd1 : s.deep ≤ 30 := by omega) : Sim X (B + 7) (Ps.branchF X rp s) (branchF X rr (em s)) := by
 have hroom := c.room;have hrec := c.wk;unfold Ps.branchF branchF;refine Sim.bind (c.take h _) (Ps.Dp.take X _ _) (Gr.take _ _) h (fun v s118 h118 d118 => ?_) (fun v z118 x w118 => ?_)
 ·skip
  refine Sim.bind (c.go h118 _) (c.kp _ _) (c.gx _ _) h118 (fun v s119 h119 d119 => ?_) (fun v z119 x w119 => ?_)
  ·skip
   refine Sim.bind (c.go h119 _) (c.kp _ _) (c.gblk _) h119 (fun v s120 h120 d120 => ?_) (fun v z120 x w120 => ?_)
   ·skip
    refine Sim.ite (fun e => ?_) (fun _ => ?_)
    ·skip
     refine Sim.ite (fun e2 => ?_) (fun _ => ?_)
     ·skip
      refine Sim.enter c h120 (fun v s123 h123 d123 r123 => ?_) (fun v z123 x w123 => ?_)
      ·skip
       refine Sim.bind (c.go h123 _) (c.kp _ _) (c.gbr _) h123 (fun v s124 h124 d124 => ?_) (fun v z124 x w124 => ?_)
       ·skip
        have h125 := h124.down;have d125 : (Ps.down s124).deep = s124.deep - 1 := rfl;rw [down_em (by omega) (by omega)];exact Sim.put _
       ·skip
        exact (put_wk w124.down (by omega) _).to (by omega)
      ·skip
       refine Wk.bind (hrec _ _ _ _ w123 (by omega)) (fun v z142 w142 => ?_);exact (put_wk w142.down (by omega) _).to (by omega)
     ·skip
      rw [show take X _ (em s120) = .ok [(Ps.now X s120).pos] (em (Ps.adv s120)) by unfold take takeS; rw [if_pos (show isK X (em s120) _ = true from e)]; rfl, bind_ok];have h127 := h120.trans (Gn.adv (Ps.key_lt e));have d127 : (Ps.adv s120).deep = s120.deep := rfl;refine Sim.bind (c.go h127 _) (c.kp _ _) (c.gblk _) h127 (fun v s128 h128 d128 => ?_) (fun v z128 x w128 => ?_)
      ·skip
       exact Sim.put _
      ·skip
       exact (put_wk w128 (by omega) _).to (by omega)
    ·skip
     exact Sim.put _
   ·skip
    refine Wk.els (by rw [w120.isK]; simp) ?_;exact (put_wk w120 (by omega) _).to (by omega)
  ·skip
   refine Wk.bind (hrec _ _ _ _ w119 (by omega)) (fun v z148 w148 => ?_);refine Wk.els (by rw [w148.isK]; simp) ?_;exact (put_wk w148 (by omega) _).to (by omega)
 ·skip
  refine Wk.bind (hrec _ _ _ _ w118 (by omega)) (fun v z151 w151 => ?_);refine Wk.bind (hrec _ _ _ _ w151 (by omega)) (fun v z152 w152 => ?_);refine Wk.els (by rw [w152.isK]; simp) ?_;exact (put_wk w152 (by omega) _).to (by omega)
theorem made_wk (hrec : ∀ f s x b, Wr X x b s → b + 43 ≤ room → Wk X (rr f s) x (b + 3)) {s : St} {x : Int × Nat} {b : Nat} (h : Wr X x b s) (hb : b + 44 ≤ room) {at_ : Nat} : Wk X (made X rr at_ s) x (b + 4) := by
 unfold made;refine Wk.bind (enter_wk h _) (fun v z155 w155 => ?_);refine Wk.bind (enter_wk w155 _) (fun v z156 w156 => ?_);refine Wk.bind (hrec _ _ _ _ w156 (by omega)) (fun v z157 w157 => ?_);refine Wk.els (by rw [w157.down.isK]; simp) ?_;refine Wk.bind (leave_wk w157.down _) (fun v z160 w160 => ?_);exact (put_wk w160 (by omega) _).to (by omega)
theorem made_sim (c : Sx X rp rr B s0) (h : Gn X s0 s a0 b0) (at_ : Nat) (hb0 : 0 ≤ b0 := by omega) (hd0 : 0 ≤ s.deep := by omega) (hd1 : s.deep ≤ 30 := by omega) : Sim X (B + 4) (Ps.made X rp at_ s) (made X rr at_ (em s)) := by
 have hroom := c.room;have hrec := c.wk;unfold Ps.made made;refine Sim.enter c h (fun v s131 h131 d131 r131 => ?_) (fun v z131 x w131 => ?_)
 ·skip
  refine Sim.enter c h131 (fun v s132 h132 d132 r132 => ?_) (fun v z132 x w132 => ?_)
  ·skip
   refine Sim.bind (c.go h132 _) (c.kp _ _) (c.gtyp _) h132 (fun v s133 h133 d133 => ?_) (fun v z133 x w133 => ?_)
   ·skip
    have h134 := h133.down;have d134 : (Ps.down s133).deep = s133.deep - 1 := rfl;rw [down_em (by omega) (by omega)];refine Sim.ite (fun e => ?_) (fun _ => ?_)
    ·skip
     have h136 := h134.trans (Gn.adv (Ps.key_lt e));have d136 : (Ps.adv (Ps.down s133)).deep = (Ps.down s133).deep := rfl;refine Sim.ite (fun e2 => ?_) (fun _ => ?_)
     ·skip
      have h138 := h136.trans (Gn.adv (Ps.num_lt e2));have d138 : (Ps.adv (Ps.adv (Ps.down s133))).deep = (Ps.adv (Ps.down s133)).deep := rfl;refine Sim.bind (c.leave h138 _) (Ps.Dp.leave X _ _) (Gr.leave _ _) h138 (fun v s139 h139 d139 => ?_) (fun v z139 x w139 => ?_)
      ·skip
       exact Sim.put _
      ·skip
       exact (put_wk w139 (by omega) _).to (by omega)
     ·refine Wk.bind (leave_wk (c.stop h136 3) _) (fun v z w => ?_);exact (put_wk w (by omega) _).to (by omega)
    ·skip
     refine Sim.bind (c.leave h134 _) (Ps.Dp.leave X _ _) (Gr.leave _ _) h134 (fun v s141 h141 d141 => ?_) (fun v z141 x w141 => ?_)
     ·skip
      exact Sim.put _
     ·skip
      exact (put_wk w141 (by omega) _).to (by omega)
   ·skip
    refine Wk.els (by rw [w133.down.isK]; simp) ?_;refine Wk.bind (leave_wk w133.down _) (fun v z166 w166 => ?_);exact (put_wk w166 (by omega) _).to (by omega)
  ·skip
   refine Wk.bind (hrec _ _ _ _ w132 (by omega)) (fun v z168 w168 => ?_);refine Wk.els (by rw [w168.down.isK]; simp) ?_;refine Wk.bind (leave_wk w168.down _) (fun v z171 w171 => ?_);exact (put_wk w171 (by omega) _).to (by omega)
 ·skip
  refine Wk.bind (enter_wk w131 _) (fun v z173 w173 => ?_);refine Wk.bind (hrec _ _ _ _ w173 (by omega)) (fun v z174 w174 => ?_);refine Wk.els (by rw [w174.down.isK]; simp) ?_;refine Wk.bind (leave_wk w174.down _) (fun v z177 w177 => ?_);exact (put_wk w177 (by omega) _).to (by omega)
theorem firstF_wk {rr : Rec} {s : St} {x : Int × Nat} {b : Nat} (h : Wr X x b s) (hb : b + 41 ≤ room) : Wk X (firstF X rr s) x (b + 1) := by
 unfold firstF;refine Wk.els (by rw [h.isNum]; simp) ?_;refine Wk.els (by rw [h.isW]; simp) ?_;refine Wk.els (by rw [h.isW]; simp) ?_;refine Wk.els (by rw [h.isW]; simp) ?_;refine Wk.els (by rw [h.isW]; simp) ?_;refine Wk.els (by rw [h.isW]; simp) ?_;refine Wk.els (by rw [h.isW]; simp) ?_;refine Wk.els (by rw [h.isK]; simp) ?_;refine Wk.bind (name_wk h) (fun v z187 w187 => ?_);exact (put_wk w187 (by omega) _).to (by omega)
theorem firstF_sim (c : Sx X rp rr B s0) (h : Gn X s0 s a0 b0) (hb0 : 0 ≤ b0 := by omega) (hd0 : 0 ≤ s.deep := by omega) (hd1 : s.deep ≤ 30 := by omega) : Sim X (B + 8) (Ps.firstF X rp s) (firstF X rr (em s)) := by
 have hroom := c.room;have hrec := c.wk;unfold Ps.firstF firstF;refine Sim.ite (fun e => ?_) (fun _ => ?_)
 ·skip
  have h144 := h.trans (Gn.adv (Ps.num_lt e));have d144 : (Ps.adv s).deep = s.deep := rfl;exact Sim.put _
 ·skip
  refine Sim.iteW c (by decide) (fun e => ?_) (fun _ => ?_)
  ·skip
   have h147 := h.trans (Gn.adv (Ps.key_lt e));have d147 : (Ps.adv s).deep = s.deep := rfl;exact Sim.put _
  ·skip
   refine Sim.iteW c (by decide) (fun e => ?_) (fun _ => ?_)
   ·skip
    have h150 := h.trans (Gn.adv (Ps.key_lt e));have d150 : (Ps.adv s).deep = s.deep := rfl;exact Sim.put _
   ·skip
    refine Sim.iteW c (by decide) (fun e => ?_) (fun _ => ?_)
    ·skip
     have h153 := h.trans (Gn.adv (Ps.key_lt e));have d153 : (Ps.adv s).deep = s.deep := rfl;exact Sim.put _
    ·skip
     refine Sim.iteW c (by decide) (fun e => ?_) (fun _ => ?_)
     ·skip
      have h156 := h.trans (Gn.adv (Ps.key_lt e));have d156 : (Ps.adv s).deep = s.deep := rfl;refine Sim.bind (sig_sim c h156) (Ps.sig_dp c.kp _) (Ps.sig_gr c.gr _) h156 (fun v s157 h157 d157 => ?_) (fun v z157 x w157 => ?_)
      ·skip
       refine Sim.bind (c.go h157 _) (c.kp _ _) (c.gblk _) h157 (fun v s158 h158 d158 => ?_) (fun v z158 x w158 => ?_)
       ·skip
        exact Sim.put _
       ·skip
        exact (put_wk w158 (by omega) _).to (by omega)
      ·skip
       refine Wk.bind (hrec _ _ _ _ w157 (by omega)) (fun v z190 w190 => ?_);exact (put_wk w190 (by omega) _).to (by omega)
     ·skip
      refine Sim.iteW c (by decide) (fun e => ?_) (fun _ => ?_)
      ·skip
       have h161 := h.trans (Gn.adv (Ps.key_lt e));have d161 : (Ps.adv s).deep = s.deep := rfl;refine Sim.enter c h161 (fun v s162 h162 d162 r162 => ?_) (fun v z162 x w162 => ?_)
       ·skip
        refine Sim.name c h162 (fun e163 t163 h163 d163 => ?_) (fun v z163 x w163 => ?_)
        ·skip
         rw [t163];refine Sim.bind (c.leave h163 _) (Ps.Dp.leave X _ _) (Gr.leave _ _) h163 (fun v s164 h164 d164 => ?_) (fun v z164 x w164 => ?_)
         ·skip
          exact Sim.put _
         ·skip
          exact (put_wk w164 (by omega) _).to (by omega)
        ·skip
         refine Wk.bind (leave_wk w163 _) (fun v z193 w193 => ?_);exact (put_wk w193 (by omega) _).to (by omega)
       ·skip
        refine Wk.bind (name_wk w162) (fun v z195 w195 => ?_);refine Wk.bind (leave_wk w195 _) (fun v z196 w196 => ?_);exact (put_wk w196 (by omega) _).to (by omega)
      ·skip
       refine Sim.iteW c (by decide) (fun e => ?_) (fun _ => ?_)
       ·skip
        have h167 := h.trans (Gn.adv (Ps.key_lt e));have d167 : (Ps.adv s).deep = s.deep := rfl;exact (made_sim c h167 _).mono (by omega)
       ·skip
        refine Sim.ite (fun e => ?_) (fun _ => ?_)
        ·skip
         refine Sim.enter c h (fun v s170 h170 d170 r170 => ?_) (fun v z170 x w170 => ?_)
         ·skip
          refine Sim.bind (c.go h170 _) (c.kp _ _) (c.gx _ _) h170 (fun v s171 h171 d171 => ?_) (fun v z171 x w171 => ?_)
          ·skip
           refine Sim.bind (c.leave h171 _) (Ps.Dp.leave X _ _) (Gr.leave _ _) h171 (fun v s172 h172 d172 => ?_) (fun v z172 x w172 => ?_)
           ·skip
            rfl
           ·skip
            exact (Wk.ok w172 _).to (by omega)
          ·skip
           refine Wk.bind (leave_wk w171 _) (fun v z199 w199 => ?_);exact (Wk.ok w199 _).to (by omega)
         ·skip
          refine Wk.bind (hrec _ _ _ _ w170 (by omega)) (fun v z201 w201 => ?_);refine Wk.bind (leave_wk w201 _) (fun v z202 w202 => ?_);exact (Wk.ok w202 _).to (by omega)
        ·skip
         refine Sim.name c h (fun e174 t174 h174 d174 => ?_) (fun v z174 x w174 => ?_)
         ·skip
          rw [t174];exact Sim.put _
         ·skip
          exact (put_wk w174 (by omega) _).to (by omega)
theorem prefixed_wk {rr : Rec} {s : St} {x : Int × Nat} {b : Nat} (h : Wr X x b s) (hb : b + 44 ≤ room) {y : List UInt8} {kind : Int} : Wk X (prefixed X rr y kind s) x (b + 4) := by
 unfold prefixed;refine Wk.bind (enter_wk h _) (fun v z205 w205 => ?_);refine Wk.bind (Wk.thn w205.wrong (Wk.ok w205 _)) (fun v z207 w207 => ?_);exact (put_wk w207.down (by omega) _).to (by omega)
theorem prefixed_sim (c : Sx X rp rr B s0) (h : Gn X s0 s a0 b0) (y : List UInt8) (kind : Int) (hb0 : 0 ≤ b0 := by omega) (hd0 : 0 ≤ s.deep := by omega) (hd1 : s.deep ≤ 30 := by omega) : Sim X (B + 4) (Ps.prefixed X rp y kind s) (prefixed X rr y kind (em s)) := by
 have hroom := c.room;have hrec := c.wk;unfold Ps.prefixed prefixed;refine Sim.enter c h (fun v s176 h176 d176 r176 => ?_) (fun v z176 x w176 => ?_)
 ·skip
  rw [if_neg (show ¬ isWrong (em s176) = true by simp [isWrong, em])];refine Sim.bind (c.go h176 _) (c.kp _ _) (c.gun _) h176 (fun v s178 h178 d178 => ?_) (fun v z178 x w178 => ?_)
  ·skip
   have h179 := h178.down;have d179 : (Ps.down s178).deep = s178.deep - 1 := rfl;rw [down_em (by omega) (by omega)];exact Sim.put _
  ·skip
   exact (put_wk w178.down (by omega) _).to (by omega)
 ·skip
  refine Wk.bind (Wk.thn w176.wrong (Wk.ok w176 _)) (fun v z213 w213 => ?_);exact (put_wk w213.down (by omega) _).to (by omega)
theorem unaryF_wk (hrec : ∀ f s x b, Wr X x b s → b + 43 ≤ room → Wk X (rr f s) x (b + 3)) {s : St} {x : Int × Nat} {b : Nat} (h : Wr X x b s) (hb : b + 44 ≤ room) : Wk X (unaryF X rr s) x (b + 4) := by
 unfold unaryF;refine Wk.els (by rw [h.isS]; simp) ?_;refine Wk.els (by rw [h.isS]; simp) ?_;refine Wk.els (by rw [h.isS]; simp) ?_;refine Wk.bind (firstF_wk h (by omega)) (fun v z219 w219 => ?_);exact (hrec _ _ _ _ w219 (by omega)).to (by omega)
theorem unaryF_sim (c : Sx X rp rr B s0) (h : Gn X s0 s a0 b0) (hb0 : 0 ≤ b0 := by omega) (hd0 : 0 ≤ s.deep := by omega) (hd1 : s.deep ≤ 30 := by omega) : Sim X (B + 11) (Ps.unaryF X rp s) (unaryF X rr (em s)) := by
 have hroom := c.room;have hrec := c.wk;unfold Ps.unaryF unaryF;refine Sim.iteS c (by decide) (fun e => ?_) (fun _ => ?_)
 ·skip
  exact (prefixed_sim c h _ _).mono (by omega)
 ·skip
  refine Sim.iteS c (by decide) (fun e => ?_) (fun _ => ?_)
  ·skip
   exact (prefixed_sim c h _ _).mono (by omega)
  ·skip
   refine Sim.iteS c (by decide) (fun e => ?_) (fun _ => ?_)
   ·skip
    exact (prefixed_sim c h _ _).mono (by omega)
   ·skip
    refine Sim.bind (firstF_sim c h) (Ps.firstF_dp c.kp _) (Ps.firstF_gr c.gr _) h (fun v s187 h187 d187 => ?_) (fun v z187 x w187 => ?_)
    ·skip
     exact (c.go h187 _).mono (by omega)
    ·skip
     exact (hrec _ _ _ _ w187 (by omega)).to (by omega)
theorem partF_wk {rr : Rec} {s : St} {x : Int × Nat} {b : Nat} (h : Wr X x b s) (_hb : b + 40 ≤ room) {e : Nat} : Wk X (partF X rr e s) x (b + 0) := by
 unfold partF;exact (Wk.thn h.wrong (Wk.ok h _)).to (by omega)
theorem partF_sim (c : Sx X rp rr B s0) (h : Gn X s0 s a0 b0) (e : Nat) (hb0 : 0 ≤ b0 := by omega) (hd0 : 0 ≤ s.deep := by omega) (hd1 : s.deep ≤ 30 := by omega) : Sim X (B + 7) (Ps.partF X rp e s) (partF X rr e (em s)) := by
 have hroom := c.room;have hrec := c.wk;unfold Ps.partF partF;rw [if_neg (show ¬ isWrong (em s) = true by simp [isWrong, em])];refine Sim.ite (fun e => ?_) (fun _ => ?_)
 ·skip
  refine Sim.bind (list_sim c h (fun s => c.gr _ s)) (Ps.list_dp (fun s => c.kp _ s) _) (Ps.list_gr (fun s => c.gr _ s) _) h (fun v s191 h191 d191 => ?_) (fun v z191 x w191 => ?_)
  ·skip
   refine Sim.bind (b1 := B) (Sim.put _) (Ps.Dp.put _ _) (Gr.put _) h191 (fun v s192 h192 d192 => ?_) (fun v z192 x w192 => ?_)
   ·skip
    exact (c.go h192 _).mono (by omega)
   ·skip
    exact (hrec _ _ _ _ w192 (by omega)).to (by omega)
  ·skip
   refine Wk.bind (put_wk w191 (by omega) _) (fun v z224 w224 => ?_);exact (hrec _ _ _ _ w224 (by omega)).to (by omega)
 ·skip
  refine Sim.ite (fun e => ?_) (fun _ => ?_)
  ·skip
   have h195 := h.trans (Gn.adv (Ps.key_lt e));have d195 : (Ps.adv s).deep = s.deep := rfl;refine Sim.ite (fun e => ?_) (fun _ => ?_)
   ·skip
    refine Sim.enter c h195 (fun v s197 h197 d197 r197 => ?_) (fun v z197 x w197 => ?_)
    ·skip
     refine Sim.bind (c.go h197 _) (c.kp _ _) (c.gtyp _) h197 (fun v s198 h198 d198 => ?_) (fun v z198 x w198 => ?_)
     ·skip
      refine Sim.bind (c.leave h198 _) (Ps.Dp.leave X _ _) (Gr.leave _ _) h198 (fun v s199 h199 d199 => ?_) (fun v z199 x w199 => ?_)
      ·skip
       refine Sim.bind (b1 := B) (Sim.put _) (Ps.Dp.put _ _) (Gr.put _) h199 (fun v s200 h200 d200 => ?_) (fun v z200 x w200 => ?_)
       ·skip
        exact (c.go h200 _).mono (by omega)
       ·skip
        exact (hrec _ _ _ _ w200 (by omega)).to (by omega)
      ·skip
       refine Wk.bind (put_wk w199 (by omega) _) (fun v z227 w227 => ?_);exact (hrec _ _ _ _ w227 (by omega)).to (by omega)
     ·skip
      refine Wk.bind (leave_wk w198 _) (fun v z229 w229 => ?_);refine Wk.bind (put_wk w229 (by omega) _) (fun v z230 w230 => ?_);exact (hrec _ _ _ _ w230 (by omega)).to (by omega)
    ·skip
     refine Wk.bind (hrec _ _ _ _ w197 (by omega)) (fun v z232 w232 => ?_);refine Wk.bind (leave_wk w232 _) (fun v z233 w233 => ?_);refine Wk.bind (put_wk w233 (by omega) _) (fun v z234 w234 => ?_);exact (hrec _ _ _ _ w234 (by omega)).to (by omega)
   ·skip
    refine Sim.name c h195 (fun e202 t202 h202 d202 => ?_) (fun v z202 x w202 => ?_)
    ·skip
     first | rw [t202] | rw [show nameT X (adv (em s)) = _ from t202]
     refine Sim.bind (b1 := B) (Sim.put _) (Ps.Dp.put _ _) (Gr.put _) h202 (fun v s203 h203 d203 => ?_) (fun v z203 x w203 => ?_)
     ·skip
      exact (c.go h203 _).mono (by omega)
     ·skip
      exact (hrec _ _ _ _ w203 (by omega)).to (by omega)
    ·skip
     refine Wk.bind (put_wk w202 (by omega) _) (fun v z237 w237 => ?_);exact (hrec _ _ _ _ w237 (by omega)).to (by omega)
  ·skip
   rfl
theorem msig_wk (hrec : ∀ f s x b, Wr X x b s → b + 43 ≤ room → Wk X (rr f s) x (b + 3)) {s : St} {x : Int × Nat} {b : Nat} (h : Wr X x b s) (hb : b + 45 ≤ room) : Wk X (msig X rr s) x (b + 5) := by
 unfold msig;refine Wk.bind (name_wk h) (fun v z239 w239 => ?_);refine Wk.bind (sig_wk hrec w239 (by omega)) (fun v z240 w240 => ?_);exact (put_wk w240 (by omega) _).to (by omega)
theorem msig_sim (c : Sx X rp rr B s0) (h : Gn X s0 s a0 b0) (hb0 : 0 ≤ b0 := by omega) (hd0 : 0 ≤ s.deep := by omega) (hd1 : s.deep ≤ 30 := by omega) : Sim X (B + 5) (Ps.msig X rp s) (msig X rr (em s)) := by
 have hroom := c.room;have hrec := c.wk;unfold Ps.msig msig;refine Sim.name c h (fun e206 t206 h206 d206 => ?_) (fun v z206 x w206 => ?_)
 ·skip
  rw [t206];refine Sim.bind (sig_sim c h206) (Ps.sig_dp c.kp _) (Ps.sig_gr c.gr _) h206 (fun v s207 h207 d207 => ?_) (fun v z207 x w207 => ?_)
  ·skip
   exact Sim.put _
  ·skip
   exact (put_wk w207 (by omega) _).to (by omega)
 ·skip
  refine Wk.bind (sig_wk hrec w206 (by omega)) (fun v z243 w243 => ?_);exact (put_wk w243 (by omega) _).to (by omega)
theorem typed_wk (hrec : ∀ f s x b, Wr X x b s → b + 43 ≤ room → Wk X (rr f s) x (b + 3)) {s : St} {x : Int × Nat} {b : Nat} (h : Wr X x b s) (hb : b + 44 ≤ room) {at_ : Nat} : Wk X (typed X rr at_ s) x (b + 4) := by
 unfold typed;refine Wk.bind (name_wk h) (fun v z245 w245 => ?_);refine Wk.els (by rw [w245.isK]; simp) ?_;refine Wk.bind (take_wk w245 _) (fun v z247 w247 => ?_);refine Wk.bind (items_wk hrec w247 (by omega)) (fun v z248 w248 => ?_);exact (put_wk w248 (by omega) _).to (by omega)
theorem typed_sim (c : Sx X rp rr B s0) (h : Gn X s0 s a0 b0) (at_ : Nat) (hb0 : 0 ≤ b0 := by omega) (hd0 : 0 ≤ s.deep := by omega) (hd1 : s.deep ≤ 30 := by omega) : Sim X (B + 4) (Ps.typed X rp at_ s) (typed X rr at_ (em s)) := by
 have hroom := c.room;have hrec := c.wk;unfold Ps.typed typed;refine Sim.name c h (fun e209 t209 h209 d209 => ?_) (fun v z209 x w209 => ?_)
 ·skip
  rw [t209];refine Sim.ite (fun e => ?_) (fun _ => ?_)
  ·skip
   have h211 := h209.trans (Gn.adv (Ps.key_lt e));have d211 : (Ps.adv (Ps.adv s)).deep = (Ps.adv s).deep := rfl;refine Sim.bind (items_sim c h211 (fun s => c.gr _ s)) (Ps.items_dp (fun s => c.kp _ s) _) (Ps.items_gr (fun s => c.gr _ s) _) h211 (fun v s212 h212 d212 => ?_) (fun v z212 x w212 => ?_)
   ·skip
    exact Sim.put _
   ·skip
    exact (put_wk w212 (by omega) _).to (by omega)
  ·skip
   refine Sim.bind (c.take h209 _) (Ps.Dp.take X _ _) (Gr.take _ _) h209 (fun v s214 h214 d214 => ?_) (fun v z214 x w214 => ?_)
   ·skip
    refine Sim.bind (items_sim c h214 (fun s => c.gr _ s)) (Ps.items_dp (fun s => c.kp _ s) _) (Ps.items_gr (fun s => c.gr _ s) _) h214 (fun v s215 h215 d215 => ?_) (fun v z215 x w215 => ?_)
    ·skip
     exact Sim.put _
    ·skip
     exact (put_wk w215 (by omega) _).to (by omega)
   ·skip
    refine Wk.bind (items_wk hrec w214 (by omega)) (fun v z252 w252 => ?_);exact (put_wk w252 (by omega) _).to (by omega)
 ·skip
  refine Wk.els (by rw [w209.isK]; simp) ?_;refine Wk.bind (take_wk w209 _) (fun v z255 w255 => ?_);refine Wk.bind (items_wk hrec w255 (by omega)) (fun v z256 w256 => ?_);exact (put_wk w256 (by omega) _).to (by omega)
theorem method_wk (hrec : ∀ f s x b, Wr X x b s → b + 43 ≤ room → Wk X (rr f s) x (b + 3)) {s : St} {x : Int × Nat} {b : Nat} (h : Wr X x b s) (hb : b + 50 ≤ room) {at_ : Nat} : Wk X (method X rr at_ s) x (b + 10) := by
 unfold method;refine Wk.bind (enter_wk h _) (fun v z258 w258 => ?_);refine Wk.bind (name_wk w258) (fun v z259 w259 => ?_);refine Wk.bind (pointer_wk w259 (by omega)) (fun v z260 w260 => ?_);refine Wk.bind (leave_wk w260 _) (fun v z261 w261 => ?_);refine Wk.bind (put_wk w261 (by omega) _) (fun v z262 w262 => ?_);refine Wk.bind (name_wk w262) (fun v z263 w263 => ?_);refine Wk.bind (sig_wk hrec w263 (by omega)) (fun v z264 w264 => ?_);refine Wk.bind (hrec _ _ _ _ w264 (by omega)) (fun v z265 w265 => ?_);exact (put_wk w265 (by omega) _).to (by omega)
theorem method_sim (c : Sx X rp rr B s0) (h : Gn X s0 s a0 b0) (at_ : Nat) (hb0 : 0 ≤ b0 := by omega) (hd0 : 0 ≤ s.deep := by omega) (hd1 : s.deep ≤ 30 := by omega) : Sim X (B + 10) (Ps.method X rp at_ s) (method X rr at_ (em s)) := by
 have hroom := c.room;have hrec := c.wk;unfold Ps.method method;refine Sim.enter c h (fun v s217 h217 d217 r217 => ?_) (fun v z217 x w217 => ?_)
 ·skip
  refine Sim.name c h217 (fun e218 t218 h218 d218 => ?_) (fun v z218 x w218 => ?_)
  ·skip
   rw [t218];refine Sim.bind (pointer_sim c h218) (Ps.pointer_dp _) (Ps.pointer_gr _) h218 (fun v s219 h219 d219 => ?_) (fun v z219 x w219 => ?_)
   ·skip
    refine Sim.bind (c.leave h219 _) (Ps.Dp.leave X _ _) (Gr.leave _ _) h219 (fun v s220 h220 d220 => ?_) (fun v z220 x w220 => ?_)
    ·skip
     refine Sim.bind (b1 := B) (Sim.put _) (Ps.Dp.put _ _) (Gr.put _) h220 (fun v s221 h221 d221 => ?_) (fun v z221 x w221 => ?_)
     ·skip
      refine Sim.name c h221 (fun e222 t222 h222 d222 => ?_) (fun v z222 x w222 => ?_)
      ·skip
       rw [t222];refine Sim.bind (sig_sim c h222) (Ps.sig_dp c.kp _) (Ps.sig_gr c.gr _) h222 (fun v s223 h223 d223 => ?_) (fun v z223 x w223 => ?_)
       ·skip
        refine Sim.bind (c.go h223 _) (c.kp _ _) (c.gblk _) h223 (fun v s224 h224 d224 => ?_) (fun v z224 x w224 => ?_)
        ·skip
         exact Sim.put _
        ·skip
         exact (put_wk w224 (by omega) _).to (by omega)
       ·skip
        refine Wk.bind (hrec _ _ _ _ w223 (by omega)) (fun v z268 w268 => ?_);exact (put_wk w268 (by omega) _).to (by omega)
      ·skip
       refine Wk.bind (sig_wk hrec w222 (by omega)) (fun v z270 w270 => ?_);refine Wk.bind (hrec _ _ _ _ w270 (by omega)) (fun v z271 w271 => ?_);exact (put_wk w271 (by omega) _).to (by omega)
     ·skip
      refine Wk.bind (name_wk w221) (fun v z273 w273 => ?_);refine Wk.bind (sig_wk hrec w273 (by omega)) (fun v z274 w274 => ?_);refine Wk.bind (hrec _ _ _ _ w274 (by omega)) (fun v z275 w275 => ?_);exact (put_wk w275 (by omega) _).to (by omega)
    ·skip
     refine Wk.bind (put_wk w220 (by omega) _) (fun v z277 w277 => ?_);refine Wk.bind (name_wk w277) (fun v z278 w278 => ?_);refine Wk.bind (sig_wk hrec w278 (by omega)) (fun v z279 w279 => ?_);refine Wk.bind (hrec _ _ _ _ w279 (by omega)) (fun v z280 w280 => ?_);exact (put_wk w280 (by omega) _).to (by omega)
   ·skip
    refine Wk.bind (leave_wk w219 _) (fun v z282 w282 => ?_);refine Wk.bind (put_wk w282 (by omega) _) (fun v z283 w283 => ?_);refine Wk.bind (name_wk w283) (fun v z284 w284 => ?_);refine Wk.bind (sig_wk hrec w284 (by omega)) (fun v z285 w285 => ?_);refine Wk.bind (hrec _ _ _ _ w285 (by omega)) (fun v z286 w286 => ?_);exact (put_wk w286 (by omega) _).to (by omega)
  ·skip
   refine Wk.bind (pointer_wk w218 (by omega)) (fun v z288 w288 => ?_);refine Wk.bind (leave_wk w288 _) (fun v z289 w289 => ?_);refine Wk.bind (put_wk w289 (by omega) _) (fun v z290 w290 => ?_);refine Wk.bind (name_wk w290) (fun v z291 w291 => ?_);refine Wk.bind (sig_wk hrec w291 (by omega)) (fun v z292 w292 => ?_);refine Wk.bind (hrec _ _ _ _ w292 (by omega)) (fun v z293 w293 => ?_);exact (put_wk w293 (by omega) _).to (by omega)
 ·skip
  refine Wk.bind (name_wk w217) (fun v z295 w295 => ?_);refine Wk.bind (pointer_wk w295 (by omega)) (fun v z296 w296 => ?_);refine Wk.bind (leave_wk w296 _) (fun v z297 w297 => ?_);refine Wk.bind (put_wk w297 (by omega) _) (fun v z298 w298 => ?_);refine Wk.bind (name_wk w298) (fun v z299 w299 => ?_);refine Wk.bind (sig_wk hrec w299 (by omega)) (fun v z300 w300 => ?_);refine Wk.bind (hrec _ _ _ _ w300 (by omega)) (fun v z301 w301 => ?_);exact (put_wk w301 (by omega) _).to (by omega)
theorem declF_wk (hrec : ∀ f s x b, Wr X x b s → b + 43 ≤ room → Wk X (rr f s) x (b + 3)) {s : St} {x : Int × Nat} {b : Nat} (h : Wr X x b s) (hb : b + 48 ≤ room) : Wk X (declF X rr s) x (b + 8) := by
 unfold declF;refine Wk.els (by rw [h.isK]; simp) ?_;refine Wk.bind (take_wk h _) (fun v z304 w304 => ?_);refine Wk.els (by rw [w304.isK]; simp) ?_;refine Wk.bind (name_wk w304) (fun v z306 w306 => ?_);refine Wk.bind (sig_wk hrec w306 (by omega)) (fun v z307 w307 => ?_);refine Wk.bind (hrec _ _ _ _ w307 (by omega)) (fun v z308 w308 => ?_);exact (put_wk w308 (by omega) _).to (by omega)
theorem declF_sim (c : Sx X rp rr B s0) (h : Gn X s0 s a0 b0) (hb0 : 0 ≤ b0 := by omega) (hd0 : 0 ≤ s.deep := by omega) (hd1 : s.deep ≤ 30 := by omega) : Sim X (B + 10) (Ps.declF X rp s) (declF X rr (em s)) := by
 have hroom := c.room;have hrec := c.wk;unfold Ps.declF declF;refine Sim.ite (fun e => ?_) (fun _ => ?_)
 ·skip
  have h227 := h.trans (Gn.adv (Ps.key_lt e));have d227 : (Ps.adv s).deep = s.deep := rfl;exact (typed_sim c h227 _).mono (by omega)
 ·skip
  refine Sim.bind (c.take h _) (Ps.Dp.take X _ _) (Gr.take _ _) h (fun v s229 h229 d229 => ?_) (fun v z229 x w229 => ?_)
  ·skip
   refine Sim.ite (fun e => ?_) (fun _ => ?_)
   ·skip
    exact (method_sim c h229 _).mono (by omega)
   ·skip
    refine Sim.name c h229 (fun e232 t232 h232 d232 => ?_) (fun v z232 x w232 => ?_)
    ·skip
     rw [t232];refine Sim.bind (sig_sim c h232) (Ps.sig_dp c.kp _) (Ps.sig_gr c.gr _) h232 (fun v s233 h233 d233 => ?_) (fun v z233 x w233 => ?_)
     ·skip
      refine Sim.bind (c.go h233 _) (c.kp _ _) (c.gblk _) h233 (fun v s234 h234 d234 => ?_) (fun v z234 x w234 => ?_)
      ·skip
       exact Sim.put _
      ·skip
       exact (put_wk w234 (by omega) _).to (by omega)
     ·skip
      refine Wk.bind (hrec _ _ _ _ w233 (by omega)) (fun v z311 w311 => ?_);exact (put_wk w311 (by omega) _).to (by omega)
    ·skip
     refine Wk.bind (sig_wk hrec w232 (by omega)) (fun v z313 w313 => ?_);refine Wk.bind (hrec _ _ _ _ w313 (by omega)) (fun v z314 w314 => ?_);exact (put_wk w314 (by omega) _).to (by omega)
  ·skip
   refine Wk.els (by rw [w229.isK]; simp) ?_;refine Wk.bind (name_wk w229) (fun v z317 w317 => ?_);refine Wk.bind (sig_wk hrec w317 (by omega)) (fun v z318 w318 => ?_);refine Wk.bind (hrec _ _ _ _ w318 (by omega)) (fun v z319 w319 => ?_);exact (put_wk w319 (by omega) _).to (by omega)
theorem no_lev : ∀ t ∈ Lx.words, Ps.levT t = 0 := by decide
theorem Sx.lev (c : Sx X rp rr B s0) (s : Ps.St) : lev X (em s) = Ps.lev X s := by
 have h := c.now s;have e : ∀ k, Ps.isK X s k = ((Ps.now X s).text == k && ((Ps.now X s).kind == 3 || (Ps.now X s).kind == 4)) := fun _ => rfl
 unfold Rs.lev level
 show (if (Ps.now X s).kind = 3 then Ps.levT (Ps.now X s).text else 0) = _
 by_cases e3 : (Ps.now X s).kind = 3
 ·rw [if_pos e3];unfold Ps.lev Ps.anyK Ps.levT
  simp only [e, e3];simp
 ·rw [if_neg e3]
  by_cases e4 : (Ps.now X s).kind = 4
  ·have h1 := no_lev _ (List.contains_iff_mem.1 (h.word e4));rw [← h1]
   unfold Ps.lev Ps.anyK Ps.levT;simp only [e, e4];simp
  ·have e5 : ∀ k, Ps.isK X s k = false := fun k => by rw [e]; simp [e3, e4]
   unfold Ps.lev Ps.anyK;simp [e5]
theorem climbF_sim (c : Sx X rp rr B s) (h : Gn X s s a0 b0) (k a : Nat) (hb0 : 0 ≤ b0 := by omega) (hd0 : 0 ≤ s.deep := by omega) (hd1 : s.deep ≤ 30 := by omega) : Sim X (B + 4) (Ps.climbF X rp k a s) (climbF X rr k a (em s)) := by
 have hroom := c.room;have hrec := c.wk;unfold Ps.climbF climbF;rw [if_neg (show ¬ isWrong (em s) = true by simp [isWrong, em]), c.lev s];refine Sim.ite (fun e => ?_) (fun _ => rfl);have h1 := h.trans (Gn.adv (Ps.lev_lt e));have d1 : (Ps.adv s).deep = s.deep := rfl;refine Sim.bind (c.go h1 _) (c.kp _ _) (c.gx _ _) h1 (fun v s2 h2 d2 => ?_) (fun v z2 x w2 => ?_)
 ·refine Sim.bind (b1 := B) (Sim.put _) (Ps.Dp.put _ _) (Gr.put _) h2 (fun v s3 h3 d3 => ?_) (fun v z3 x w3 => ?_)
  ·exact (c.go h3 _).mono (by omega)
  ·exact (hrec _ _ _ _ w3 (by omega)).to (by omega)
 ·refine Wk.bind (put_wk w2 (by omega) _) (fun v z3 w3 => ?_);exact (hrec _ _ _ _ w3 (by omega)).to (by omega)
theorem bodyR_sim (c : Sx X rp rr B s) (f : Ps.Fn) (hd0 : 0 ≤ s.deep) (hd1 : s.deep ≤ 30) : Sim X (B + 20) (Ps.bodyR X rp f s) (bodyR X rr f (em s)) := by
 have hroom := c.room;have hrec := c.wk;have h := Gn.refl X s;have hx : ∀ s1, Gr X (rp (.expr 0) s1) s1 1 1 := fun s1 => c.gr (.expr 0) s1
 cases f with
 | typ => exact (typF_sim c h).mono (by omega)
 | block => exact (blockF_sim c h).mono (by omega)
 | stmt => exact (stmtF_sim c h).mono (by omega)
 | branch => exact (branchF_sim c h).mono (by omega)
 | expr k =>
  refine Sim.bind (c.go h .unary) (c.kp _ _) (c.gun _) h (fun v s1 h1 d1 => ?_) (fun v z1 x w1 => ?_)
  ·exact (c.go h1 _).mono (by omega)
  ·exact (hrec _ _ _ _ w1 (by omega)).to (by omega)
 | climb k a => exact (climbF_sim c h k a).mono (by omega)
 | unary => exact (unaryF_sim c h).mono (by omega)
 | part e => exact (partF_sim c h e).mono (by omega)
 | typs acc => exact (listL_sim c h acc ((c.go h .typ).mono (by omega)) (c.kp _ _) (Gr.to (c.gtyp _) (by omega) (by omega)) (fun a s1 h1 e1 e2 => c.go h1 (.typs a)) (fun a s x b hw hb => hrec _ _ _ _ hw hb)).mono (by omega)
 | params acc => exact (listL_sim c h acc ((named_sim c h 7).mono (by omega)) (Ps.named_dp c.kp _ _) (Gr.to (Ps.named_gr c.gr _ _) (by omega) (by omega)) (fun a s1 h1 e1 e2 => c.go h1 (.params a)) (fun a s x b hw hb => hrec _ _ _ _ hw hb)).mono (by omega)
 | exprs acc => exact (listL_sim c h acc ((c.go h (.expr 0)).mono (by omega)) (c.kp _ _) (Gr.to (hx _) (by omega) (by omega)) (fun a s1 h1 e1 e2 => c.go h1 (.exprs a)) (fun a s x b hw hb => hrec _ _ _ _ hw hb)).mono (by omega)
 | stmts acc => exact (itemsL_sim c h acc ((c.go h .stmt).mono (by omega)) (c.kp _ _) (c.gst _) (fun a s1 h1 e1 e2 => c.go h1 (.stmts a)) (fun a s x b hw hb => hrec _ _ _ _ hw hb)).mono (by omega)
 | body acc =>
  refine Sim.ite2 ?_ (fun _ => rfl) (fun _ => ?_)
  ·show Ps.anyK X s [Ps.k_case_, Ps.k_dflt, Ps.k_rb] = true ↔ ((Ps.isK X s Ps.k_case_ || Ps.isK X s Ps.k_dflt || Ps.isK X s Ps.k_rb) || false) = true
   unfold Ps.anyK;simp [or_assoc]
  refine Sim.bind (c.go h .stmt) (c.kp _ _) (c.gst _) h (fun v s1 h1 d1 => ?_) (fun v z1 x w1 => ?_)
  ·refine Sim.ite (fun _ => rfl) (fun _ => ?_);refine Sim.bind (c.take h1 _) (Ps.Dp.take X _ _) (Gr.take _ _) h1 (fun v s2 h2 d2 => ?_) (fun v z2 x w2 => ?_)
   ·exact (c.go h2 _).mono (by omega)
   ·exact (hrec _ _ _ _ w2 (by omega)).to (by omega)
  ·refine Wk.els (by rw [w1.isK]; simp) ?_;refine Wk.bind (take_wk w1 _) (fun v z2 w2 => ?_)
   exact (hrec _ _ _ _ w2 (by omega)).to (by omega)
 | cases acc =>
  refine Sim.ite2 (by show _ ↔ ((Ps.isK X s Ps.k_rb || false) = true); rw [Bool.or_false]) (fun _ => rfl) (fun _ => ?_);refine Sim.bind (caseF_sim c h) (Ps.caseF_dp c.kp _) (Ps.caseF_gr c.gr _) h (fun v s1 h1 d1 => ?_) (fun v z1 x w1 => ?_)
  ·exact (c.go h1 _).mono (by omega)
  ·exact (hrec _ _ _ _ w1 (by omega)).to (by omega)
 | fields acc => exact (itemsL_sim c h acc ((named_sim c h 9).mono (by omega)) (Ps.named_dp c.kp _ _) (Gr.to (Ps.named_gr c.gr _ _) (by omega) (by omega)) (fun a s1 h1 e1 e2 => c.go h1 (.fields a)) (fun a s x b hw hb => hrec _ _ _ _ hw hb)).mono (by omega)
 | msigs acc => exact (itemsL_sim c h acc ((msig_sim c h).mono (by omega)) (Ps.msig_dp c.kp _) (Gr.to (Ps.msig_gr c.gr _) (by omega) (by omega)) (fun a s1 h1 e1 e2 => c.go h1 (.msigs a)) (fun a s x b hw hb => hrec _ _ _ _ hw hb)).mono (by omega)
 | decls acc =>
  refine Sim.ite2 (by show _ ↔ ((decide (s.i < X.toks.length) && !false) = true); simp) (fun _ => ?_) (fun _ => rfl);refine Sim.bind (declF_sim c h) (Ps.declF_dp c.kp _) (Ps.declF_gr c.gr _) h (fun v s1 h1 d1 => ?_) (fun v z1 x w1 => ?_)
  ·refine Sim.ite (fun _ => ?_) (fun _ => ?_)
   ·refine Sim.bind (c.take h1 _) (Ps.Dp.take X _ _) (Gr.take _ _) h1 (fun v s2 h2 d2 => ?_) (fun v z2 x w2 => ?_)
    ·exact (c.go h2 _).mono (by omega)
    ·exact (hrec _ _ _ _ w2 (by omega)).to (by omega)
   ·exact (c.go h1 _).mono (by omega)
  ·rw [if_neg (by rw [w1.i]; omega)];exact (hrec _ _ _ _ w1 (by omega)).to (by omega)
end
section
variable {X : Src} {x : Int × Nat} {b : Nat} {s : St}
def isLoop : Ps.Fn → Bool
 | .typ => false
 | .block => false
 | .stmt => false
 | .branch => false
 | .expr _ => false
 | .unary => false
 | _ => true
theorem loop_wk (h : Wr X x b s) (m : Nat) (f : Ps.Fn) (hf : isLoop f = true) : Wk X (run X (m + 1) f s) x b := by
 cases f with
 | typ => cases hf
 | block => cases hf
 | stmt => cases hf
 | branch => cases hf
 | expr k => cases hf
 | unary => cases hf
 | climb k a => exact Wk.thn h.wrong (Wk.ok h _)
 | part e => exact Wk.thn h.wrong (Wk.ok h _)
 | typs acc => exact Wk.thn (by rw [h.isK, h.wrong]; rfl) (Wk.ok h _)
 | params acc => exact Wk.thn (by rw [h.isK, h.wrong]; rfl) (Wk.ok h _)
 | exprs acc => exact Wk.thn (by rw [h.isK, h.wrong]; rfl) (Wk.ok h _)
 | stmts acc => exact Wk.thn (by rw [h.isK, h.wrong]; rfl) (Wk.ok h _)
 | body acc => exact Wk.thn (by rw [h.ends, h.wrong]; rfl) (Wk.ok h _)
 | cases acc => exact Wk.thn (by rw [h.isK, h.wrong]; rfl) (Wk.ok h _)
 | fields acc => exact Wk.thn (by rw [h.isK, h.wrong]; rfl) (Wk.ok h _)
 | msigs acc => exact Wk.thn (by rw [h.isK, h.wrong]; rfl) (Wk.ok h _)
 | decls acc => exact Wk.els (by rw [h.wrong]; simp) (Wk.ok h _)
theorem unary_wk (h : Wr X x b s) (hb : b + 41 ≤ room) (m : Nat) : Wk X (run X (m + 2) .unary s) x (b + 1) := by
 show Wk X (unaryF X (run X (m + 1)) s) x (b + 1)
 unfold unaryF;refine Wk.els (by rw [h.isS]; simp) ?_;refine Wk.els (by rw [h.isS]; simp) ?_;refine Wk.els (by rw [h.isS]; simp) ?_;refine Wk.bind (firstF_wk h (by omega)) (fun v z w => ?_);exact (loop_wk w m (.part _) rfl).to (by omega)
theorem expr_wk (h : Wr X x b s) (hb : b + 41 ≤ room) (m k : Nat) : Wk X (run X (m + 3) (.expr k) s) x (b + 1) := by
 refine Wk.bind (unary_wk h (by omega) m) (fun v z w => ?_);exact loop_wk w (m + 1) (.climb _ _) rfl
theorem block_wk (h : Wr X x b s) (hb : b + 41 ≤ room) (m : Nat) : Wk X (run X (m + 2) .block s) x (b + 1) := by
 show Wk X (blockF X (run X (m + 1)) s) x (b + 1)
 unfold blockF;refine Wk.bind (b := b) ?_ (fun v z w => put_wk w (by omega) _);unfold items;refine Wk.bind (enter_wk h _) (fun v z1 w1 => ?_);refine Wk.bind (loop_wk w1 m (.stmts []) rfl) (fun v z2 w2 => ?_);refine Wk.bind (leave_wk w2 _) (fun v z3 w3 => ?_);exact Wk.ok w3 _
theorem run_wk (m : Nat) (f : Ps.Fn) (s : St) (x : Int × Nat) (b : Nat) (h : Wr X x b s) (hb : b + 43 ≤ room) : Wk X (run X (m + 4) f s) x (b + 3) := by
 cases f with
 | typ => exact (typF_wk (rr := run X (m + 3)) h (by omega)).to (by omega)
 | block => exact (block_wk h (by omega) (m + 2)).to (by omega)
 | expr k => exact (expr_wk h (by omega) (m + 1) k).to (by omega)
 | unary => exact (unary_wk h (by omega) (m + 2)).to (by omega)
 | stmt =>
  show Wk X (stmtF X (run X (m + 3)) s) x (b + 3)
  unfold stmtF;refine Wk.els (by rw [h.isW]; simp) ?_;refine Wk.els (by rw [h.isW]; simp) ?_;refine Wk.els (by rw [h.isW]; simp) ?_;refine Wk.els (by rw [h.isW]; simp) ?_;refine Wk.els (by rw [h.isW]; simp) ?_;refine Wk.els (by rw [h.isW]; simp) ?_;refine Wk.els (by rw [h.isW]; simp) ?_;refine Wk.els (by rw [h.isW]; simp) ?_;refine Wk.els (by rw [h.isW]; simp) ?_;refine Wk.els (by rw [h.isName]; simp) ?_;refine Wk.bind (expr_wk h (by omega) m 0) (fun v z w => ?_);refine Wk.els (by rw [w.isK]; simp) ?_;refine Wk.els (by rw [w.isK]; simp) ?_;exact (put_wk w (by omega) _).to (by omega)
 | branch =>
  show Wk X (branchF X (run X (m + 3)) s) x (b + 3)
  unfold branchF;refine Wk.bind (take_wk h _) (fun v z1 w1 => ?_);refine Wk.bind (expr_wk w1 (by omega) m 0) (fun v z2 w2 => ?_);refine Wk.bind (block_wk w2 (by omega) (m + 1)) (fun v z3 w3 => ?_);refine Wk.els (by rw [w3.isK]; simp) ?_;exact (put_wk w3 (by omega) _).to (by omega)
 | climb k a => exact (loop_wk h (m + 3) (.climb k a) rfl).to (by omega)
 | part e => exact (loop_wk h (m + 3) (.part e) rfl).to (by omega)
 | typs acc => exact (loop_wk h (m + 3) (.typs acc) rfl).to (by omega)
 | params acc => exact (loop_wk h (m + 3) (.params acc) rfl).to (by omega)
 | exprs acc => exact (loop_wk h (m + 3) (.exprs acc) rfl).to (by omega)
 | stmts acc => exact (loop_wk h (m + 3) (.stmts acc) rfl).to (by omega)
 | body acc => exact (loop_wk h (m + 3) (.body acc) rfl).to (by omega)
 | cases acc => exact (loop_wk h (m + 3) (.cases acc) rfl).to (by omega)
 | fields acc => exact (loop_wk h (m + 3) (.fields acc) rfl).to (by omega)
 | msigs acc => exact (loop_wk h (m + 3) (.msigs acc) rfl).to (by omega)
 | decls acc => exact (loop_wk h (m + 3) (.decls acc) rfl).to (by omega)
end
theorem run_sim {X : Src} (hl : X.toks.length ≤ 12001) (hwf : ∀ t ∈ X.toks, Wf t) (n : Nat) (hn : n ≤ 500000) (f : Ps.Fn) (s : Ps.St) (q : Ps.Qs X s) (h0 : 0 ≤ s.deep) (h1 : s.deep ≤ 30) : Sim X (100000 + 20 * n) (Ps.run X n f s) (run X (n + 4) f (em s)) := by
 induction n generalizing f s with
 | zero => trivial
 | succ n ih =>
  have hr : room = 20000000 := rfl;exact (bodyR_sim (rp := Ps.run X n) (rr := run X (n + 4)) (B := 100000 + 20 * n) ⟨fun f s q h0 h1 => ih (by omega) f s q h0 h1, fun f s x b hw hb => run_wk n f s x b hw (by omega), Ps.run_grow X n, Ps.run_keep X n, hl, hwf, q, by omega, by omega⟩ f h0 h1).mono (by omega)
theorem program_sim {X : Src} (hl : X.toks.length ≤ 12001) (hwf : ∀ t ∈ X.toks, Wf t) : Sim X 1200000 (Ps.program X Ps.fuel) (program X (Ps.fuel + 4)) := by
 have h := run_sim hl hwf Ps.fuel (by unfold Ps.fuel; omega) (.decls []) Ps.start ⟨by show 0 ≤ _; omega, by show 0 ≤ _; omega⟩ (by decide) (by decide);unfold Ps.program program
 cases e : Ps.run X Ps.fuel (.decls []) Ps.start with
 | out => trivial
 | bad c j =>
  rw [e] at h;exact Wk.bind h fun v s hs => (put_wk hs (by unfold Rs.room Ps.fuel; omega) _).to (by unfold Ps.fuel; omega)
 | ok v s =>
  rw [e] at h;have e2 : run X (Ps.fuel + 4) (.decls []) start = .ok v (em s) := h;rw [e2];exact Sim.put _
end Go.Proofs.YtjickecdkmljpaaGreatDoor.Rs
namespace Go.Proofs.YtjickecdkmljpaaGreatDoor.Rs
open Lx (Tok)
theorem cut_head {s : List UInt8} {i j : Nat} (hi : i < s.length) (hj : i < j) : ∃ r, Lx.cut s i j = s.getD i 0 :: r := by
 unfold Lx.cut;rw [List.drop_eq_getElem_cons hi];obtain ⟨m, hm⟩ : ∃ m, j - i = m + 1 := ⟨j - i - 1, by omega⟩;rw [hm, List.take_succ_cons];refine ⟨(s.drop (i + 1)).take m, ?_⟩;rw [List.getD_eq_getElem?_getD, List.getElem?_eq_getElem hi]
 rfl
theorem digit_no {c : UInt8} {r : List UInt8} (h : Lx.digit c = true) : typeWords.contains (c :: r) = false := by
 have hc : ∀ x : UInt8, Lx.digit x = false → ∀ q, ((c :: r : List UInt8) == x :: q) = false := by
  intro x hx q;refine beq_eq_false_iff_ne.2 fun e => ?_
  rw [(List.cons.inj e).1, hx] at h
  cases h
 unfold typeWords Ps.k_int Ps.k_bool Ps.k_chan Ps.k_func Ps.k_star;rw [List.contains_cons, List.contains_cons, List.contains_cons, List.contains_cons, List.contains_cons, hc 105 (by decide), hc 98 (by decide), hc 99 (by decide), hc 102 (by decide), hc 42 (by decide)]
 rfl
theorem semi_wf (i : Nat) : Wf (Lx.semi i) := ⟨fun _ h => absurd rfl h, fun _ => show Lx.signs.contains ([59] : List UInt8) = true by decide, fun h => absurd (show (3 : Int) = 4 from h) (by decide)⟩
theorem step_wf {s : List UInt8} {i to : Nat} {t : Tok} (hi : i < s.length) (h : Lx.stepAt s i = .tok t to) : Wf t := by
 unfold Lx.stepAt at h
 split at h
 ·cases h
 ·split at h
  ·split at h <;> cases h
  ·split at h
   ·cases h
    by_cases hw : Lx.words.contains (Lx.cut s i (Lx.spanEnd Lx.wordC s i)) = true
    ·refine ⟨fun _ _ h4 => ?_, fun h3 => ?_, fun _ => hw⟩
     ·dsimp only at h4;rw [if_pos hw] at h4
      exact absurd rfl h4
     ·dsimp only at h3;rw [if_pos hw] at h3
      exact absurd h3 (by decide)
    ·refine ⟨fun h1 => ?_, fun h3 => ?_, fun h4 => ?_⟩
     ·dsimp only at h1;rw [if_neg hw] at h1
      exact absurd rfl h1
     ·dsimp only at h3;rw [if_neg hw] at h3
      exact absurd h3 (by decide)
     ·dsimp only at h4;rw [if_neg hw] at h4
      exact absurd h4 (by decide)
   ·split at h
    ·rename_i hd
     split at h
     ·cases h
     ·cases h
      refine ⟨fun _ _ _ => ?_, fun h3 => absurd (show (2 : Int) = 3 from h3) (by decide), fun h4 => absurd (show (2 : Int) = 4 from h4) (by decide)⟩;obtain ⟨r, hr⟩ := cut_head hi (Lx.spanEnd_gt hi hd);dsimp only;rw [hr];exact digit_no hd
    ·split at h
     ·cases h
     ·rename_i g hg
      cases h
      exact ⟨fun _ h3 => absurd rfl h3, fun _ => List.contains_iff_mem.2 (List.mem_of_find?_eq_some hg), fun h4 => absurd (show (3 : Int) = 4 from h4) (by decide)⟩
theorem close_wf {acc : List Tok} (line : Bool) (i : Nat) (h : ∀ t ∈ acc, Wf t) : ∀ t ∈ Lx.close acc line i, Wf t := by
 unfold Lx.close
 split
 ·split
  ·split
   ·intro t ht;rcases List.mem_append.1 ht with ht | ht
    ·exact h t ht
    ·obtain rfl : t = Lx.semi i := by simpa using ht
     exact semi_wf i
   ·exact h
  ·exact h
 ·exact h
theorem go_wf (s : List UInt8) (k : Nat) : ∀ (i : Nat) (line : Bool) (acc l : List Tok), s.length - i ≤ k → (∀ t ∈ acc, Wf t) → Lx.go s i line acc = .ok l → ∀ t ∈ l, Wf t := by
 induction k with
 | zero =>
  intro i line acc l hk ha hg;rw [Lx.go_end (by omega)] at hg
  cases hg
  exact close_wf line i ha
 | succ k ih =>
  intro i line acc l hk ha hg
  by_cases hi : i < s.length
  ·by_cases h10 : s.getD i 0 = 10
   ·rw [Lx.go_feed hi h10] at hg;exact ih _ _ _ _ (by omega) (close_wf line i ha) hg
   ·cases hs : Lx.stepAt s i with
    | bad c j =>
     rw [Lx.go_bad hi h10 hs] at hg
     cases hg
    | skip to =>
     rw [Lx.go, if_pos hi, if_neg h10, hs] at hg;exact ih _ _ _ _ (by omega) ha hg
    | tok t to =>
     rw [Lx.go, if_pos hi, if_neg h10, hs] at hg;refine ih _ _ _ _ (by omega) (fun u hu => ?_) hg;rcases List.mem_append.1 hu with hu | hu
     ·exact ha u hu
     ·obtain rfl : u = t := by simpa using hu
      exact step_wf hi hs
  ·rw [Lx.go_end hi] at hg
   cases hg
   exact close_wf line i ha
theorem scan_wf {s : List UInt8} {l : List Tok} (h : Lx.scan s = .ok l) : ∀ t ∈ l, Wf t := by
 unfold Lx.scan at h
 split at h
 ·cases h
 ·exact go_wf s s.length 0 false [] l (by omega) (fun t ht => by cases ht) h
end Go.Proofs.YtjickecdkmljpaaGreatDoor.Rs
