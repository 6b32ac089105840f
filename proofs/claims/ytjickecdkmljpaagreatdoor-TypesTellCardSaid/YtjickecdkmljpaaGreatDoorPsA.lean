/-
  PROVED HERE: how tokens are read as nodes (chapter 2, B1 to B3): a reader with fuel. what gives one node gives just one. what is read whole leaves the depth as it was. levels of operators: what is read from one level is what is read from the next, and what goes on from there. what is read takes tokens; there are no more than two nodes for a token. with fuel enough every text of few tokens is read. No condition beyond the lemmas' own premises.
-/
import Derived.Test.YtjickecdkmljpaaGreatDoorLx
namespace Go.Proofs.YtjickecdkmljpaaGreatDoor.Ps
open Lx (Tok)

structure Nd where
 kind : Int
 pos : Int
 num : Int
 text : List UInt8
 kids : List Nat

/-- The tokens, and the text's length. -/
structure Src where
 toks : List Tok
 len : Nat
structure St where
 i : Nat
 deep : Int
 nodes : List Nd
inductive Res where
 | out
 | bad (c : Int) (p : Nat)
 | ok (v : List Nat) (s : St)
def Res.bind (r : Res) (f : List Nat → St → Res) : Res :=
 match r with
 | .out => .out
 | .bad c p => .bad c p
 | .ok v s => f v s
theorem bind_out (f : List Nat → St → Res) : Res.out.bind f = .out := rfl
theorem bind_bad (c : Int) (p : Nat) (f : List Nat → St → Res) : (Res.bad c p).bind f = .bad c p := rfl
theorem bind_ok (v : List Nat) (s : St) (f : List Nat → St → Res) : (Res.ok v s).bind f = f v s := rfl

def k_func : List UInt8 := [102, 117, 110, 99]
def k_type : List UInt8 := [116, 121, 112, 101]
def k_struct : List UInt8 := [115, 116, 114, 117, 99, 116]
def k_interface : List UInt8 := [105, 110, 116, 101, 114, 102, 97, 99, 101]
def k_if_ : List UInt8 := [105, 102]
def k_else_ : List UInt8 := [101, 108, 115, 101]
def k_for_ : List UInt8 := [102, 111, 114]
def k_ret : List UInt8 := [114, 101, 116, 117, 114, 110]
def k_brk : List UInt8 := [98, 114, 101, 97, 107]
def k_select : List UInt8 := [115, 101, 108, 101, 99, 116]
def k_case_ : List UInt8 := [99, 97, 115, 101]
def k_dflt : List UInt8 := [100, 101, 102, 97, 117, 108, 116]
def k_go_ : List UInt8 := [103, 111]
def k_close : List UInt8 := [99, 108, 111, 115, 101]
def k_panic : List UInt8 := [112, 97, 110, 105, 99]
def k_print : List UInt8 := [112, 114, 105, 110, 116]
def k_new : List UInt8 := [110, 101, 119]
def k_make : List UInt8 := [109, 97, 107, 101]
def k_chan : List UInt8 := [99, 104, 97, 110]
def k_int : List UInt8 := [105, 110, 116]
def k_bool : List UInt8 := [98, 111, 111, 108]
def k_nil : List UInt8 := [110, 105, 108]
def k_true_ : List UInt8 := [116, 114, 117, 101]
def k_false_ : List UInt8 := [102, 97, 108, 115, 101]
def k_lp : List UInt8 := [40]
def k_rp : List UInt8 := [41]
def k_lb : List UInt8 := [123]
def k_rb : List UInt8 := [125]
def k_com : List UInt8 := [44]
def k_semi : List UInt8 := [59]
def k_col : List UInt8 := [58]
def k_dot : List UInt8 := [46]
def k_star : List UInt8 := [42]
def k_asg : List UInt8 := [61]
def k_arr : List UInt8 := [60, 45]
def k_def_ : List UInt8 := [58, 61]
def k_bang : List UInt8 := [33]
def k_minus : List UInt8 := [45]
def opRows : List (List (List UInt8)) := [[[124, 124]], [[38, 38]], [[61, 61], [33, 61], [60], [60, 61], [62], [62, 61]], [[43], [45]], [[42], [47], [37]]]

def noTok (X : Src) : Tok := ⟨0, [], 0, X.len⟩
def now (X : Src) (s : St) : Tok := X.toks.getD s.i (noTok X)
def adv (s : St) : St := { s with i := s.i + 1 }
def adv2 (s : St) : St := { s with i := s.i + 2 }
def up (s : St) : St := { s with deep := s.deep + 1 }
def down (s : St) : St := { s with deep := s.deep - 1 }
def isK (X : Src) (s : St) (x : List UInt8) : Bool := (now X s).text == x && ((now X s).kind == 3 || (now X s).kind == 4)
def isName (X : Src) (s : St) : Bool := (now X s).kind == 1
def isNum (X : Src) (s : St) : Bool := (now X s).kind == 2
/-- Is the token behind it this one? -/
def nextK (X : Src) (s : St) (x : List UInt8) : Bool := decide (s.i + 1 < X.toks.length) && (X.toks.getD (s.i + 1) (noTok X)).text == x
def anyK (X : Src) (s : St) (l : List (List UInt8)) : Bool := l.any fun x => isK X s x
def fail (X : Src) (c : Int) (s : St) : Res := .bad c (now X s).pos
def take (X : Src) (x : List UInt8) (s : St) : Res := if isK X s x then .ok [(now X s).pos] (adv s) else fail X 3 s
/-- A name. -/
def name (X : Src) (s : St) : Res := if isName X s then .ok [] (adv s) else fail X 3 s
def enter (X : Src) (x : List UInt8) (s : St) : Res := if isK X s x = true ∧ s.deep = 30 then fail X 4 s else (take X x s).bind fun v s1 => .ok v (up s1)
def leave (X : Src) (x : List UInt8) (s : St) : Res := (take X x s).bind fun _ s1 => .ok [] (down s1)
/-- (No text is long enough for so many nodes: shown apart.) -/
def put (nd : Nd) (s : St) : Res := if s.nodes.length < 100000 then .ok [s.nodes.length] { s with nodes := s.nodes ++ [nd] } else .out
def begins (X : Src) (s : St) : Bool := anyK X s [k_int, k_bool, k_chan, k_func, k_star] || isName X s
/-- Which row of operators does the token belong to (1 to 5)? 0: none. -/
def lev (X : Src) (s : St) : Nat :=
 if anyK X s (opRows.getD 0 []) then 1 else if anyK X s (opRows.getD 1 []) then 2 else if anyK X s (opRows.getD 2 []) then 3 else if anyK X s (opRows.getD 3 []) then 4 else if anyK X s (opRows.getD 4 []) then 5 else 0

/-- What calls itself. -/
inductive Fn where
 | typ
 | block
 | stmt
 | branch
 | expr (k : Nat)
 | climb (k : Nat) (a : Nat)
 | unary
 | part (e : Nat)
 | typs (acc : List Nat)
 | params (acc : List Nat)
 | exprs (acc : List Nat)
 | stmts (acc : List Nat)
 | body (acc : List Nat)
 | cases (acc : List Nat)
 | fields (acc : List Nat)
 | msigs (acc : List Nat)
 | decls (acc : List Nat)

abbrev Rec := Fn → St → Res

/-! ### The parts, over what calls itself -/
def with_ (kind : Int) (at_ : Nat) (kids : List Nat) (s : St) : Res := put ⟨kind, at_, 0, [], kids⟩ s
/-- Things with commas between them, up to a bracket. -/
def listL (X : Src) (one : St → Res) (again : List Nat → St → Res) (acc : List Nat) (s : St) : Res :=
 if isK X s k_rp then .ok acc s
 else (one s).bind fun k s1 =>
  if isK X s1 k_rp then .ok (acc ++ k) s1
  else (take X k_com s1).bind fun _ s2 => if isK X s2 k_rp then fail X 3 s2 else again (acc ++ k) s2
def list (X : Src) (loop : St → Res) (s : St) : Res := (enter X k_lp s).bind fun _ s1 => (loop s1).bind fun l s2 => (leave X k_rp s2).bind fun _ s3 => .ok l s3
/-- Things with semicolons between them, up to a brace. -/
def itemsL (X : Src) (one : St → Res) (again : List Nat → St → Res) (acc : List Nat) (s : St) : Res :=
 if isK X s k_rb then .ok acc s
 else (one s).bind fun k s1 =>
  if isK X s1 k_rb then .ok (acc ++ k) s1
  else (take X k_semi s1).bind fun _ s2 => again (acc ++ k) s2
def items (X : Src) (loop : St → Res) (s : St) : Res := (enter X k_lb s).bind fun _ s1 => (loop s1).bind fun l s2 => (leave X k_rb s2).bind fun _ s3 => .ok l s3
def named (X : Src) (rec : Rec) (kind : Int) (s : St) : Res := (name X s).bind fun _ s1 => (rec .typ s1).bind fun k s2 => put ⟨kind, (now X s).pos, 0, (now X s).text, k⟩ s2
def pointer (X : Src) (s : St) : Res := (take X k_star s).bind fun _ s1 => (name X s1).bind fun _ s2 => put ⟨4, (now X s).pos, 0, (now X s1).text, []⟩ s2
def result (X : Src) (rec : Rec) (kind : Int) (at_ : Nat) (l : List Nat) (s : St) (fin : St → St) : Res :=
 if begins X s then (rec .typ s).bind fun k s1 => put ⟨kind, at_, l.length, [], l ++ k⟩ (fin s1) else put ⟨kind, at_, l.length, [], l⟩ (fin s)
def sig (X : Src) (rec : Rec) (s : St) : Res := (list X (rec (.params [])) s).bind fun l s1 => result X rec 8 (now X s).pos l s1 id
def typF (X : Src) (rec : Rec) (s : St) : Res :=
 if isK X s k_int then put ⟨1, (now X s).pos, 0, [], []⟩ (adv s)
 else if isK X s k_bool then put ⟨2, (now X s).pos, 0, [], []⟩ (adv s)
 else if isK X s k_star then pointer X s
 else if isK X s k_chan then (enter X k_chan s).bind fun _ s1 => (rec .typ s1).bind fun k s2 => put ⟨5, (now X s).pos, 0, [], k⟩ (down s2)
 else if isK X s k_func then (enter X k_func s).bind fun _ s1 => (list X (rec (.typs [])) s1).bind fun l s2 => result X rec 6 (now X s).pos l s2 down
 else (name X s).bind fun _ s1 => put ⟨3, (now X s).pos, 0, (now X s).text, []⟩ s1
def blockF (X : Src) (rec : Rec) (s : St) : Res := (items X (rec (.stmts [])) s).bind fun l s1 => put ⟨16, (now X s).pos, 0, [], l⟩ s1
def bracketed (X : Src) (rec : Rec) (kind : Int) (at_ : Nat) (s : St) : Res := (enter X k_lp s).bind fun _ s1 => (rec (.expr 0) s1).bind fun e s2 => (leave X k_rp s2).bind fun _ s3 => with_ kind at_ e s3
def bodyF (X : Src) (rec : Rec) (s : St) : Res := (take X k_col s).bind fun _ s1 => (rec (.body []) s1).bind fun l s2 => put ⟨16, (now X s).pos, 0, [], l⟩ s2
def caseF (X : Src) (rec : Rec) (s : St) : Res :=
 if isK X s k_dflt then (bodyF X rec (adv s)).bind fun b s1 => with_ 29 (now X s).pos b s1
 else (take X k_case_ s).bind fun _ s1 =>
  if isName X s1 = true ∧ nextK X s1 k_def_ = true then
   (take X k_arr (adv2 s1)).bind fun _ s2 => (rec (.expr 0) s2).bind fun c s3 => (bodyF X rec s3).bind fun b s4 => put ⟨27, (now X s).pos, 0, (now X s1).text, c ++ b⟩ s4
  else if isK X s1 k_arr then (rec (.expr 0) (adv s1)).bind fun c s3 => (bodyF X rec s3).bind fun b s4 => put ⟨27, (now X s).pos, 0, [], c ++ b⟩ s4
  else (rec (.expr 0) s1).bind fun c s2 => (take X k_arr s2).bind fun _ s3 => (rec (.expr 0) s3).bind fun v s4 => (bodyF X rec s4).bind fun b s5 => with_ 28 (now X s).pos (c ++ v ++ b) s5
def choice (X : Src) (rec : Rec) (at_ : Nat) (s : St) : Res := (enter X k_lb s).bind fun _ s1 => (rec (.cases []) s1).bind fun l s2 => (leave X k_rb s2).bind fun _ s3 => put ⟨26, at_, 0, [], l⟩ s3
def stmtF (X : Src) (rec : Rec) (s : St) : Res :=
 if isK X s k_go_ then (rec (.expr 0) (adv s)).bind fun e s1 => with_ 21 (now X s).pos e s1
 else if isK X s k_close then bracketed X rec 30 (now X s).pos (adv s)
 else if isK X s k_panic then bracketed X rec 31 (now X s).pos (adv s)
 else if isK X s k_print then bracketed X rec 32 (now X s).pos (adv s)
 else if isK X s k_if_ then rec .branch s
 else if isK X s k_for_ then (rec (.expr 0) (adv s)).bind fun c s1 => (rec .block s1).bind fun b s2 => with_ 23 (now X s).pos (c ++ b) s2
 else if isK X s k_ret then
  if isK X (adv s) k_semi = true ∨ isK X (adv s) k_rb = true then with_ 24 (now X s).pos [] (adv s)
  else (rec (.expr 0) (adv s)).bind fun e s1 => with_ 24 (now X s).pos e s1
 else if isK X s k_brk then with_ 25 (now X s).pos [] (adv s)
 else if isK X s k_select then choice X rec (now X s).pos (adv s)
 else if isName X s = true ∧ nextK X s k_def_ = true then (rec (.expr 0) (adv2 s)).bind fun e s1 => put ⟨17, (now X s).pos, 0, (now X s).text, e⟩ s1
 else (rec (.expr 0) s).bind fun a s1 =>
  if isK X s1 k_asg then (rec (.expr 0) (adv s1)).bind fun b s2 => with_ 18 (now X s).pos (a ++ b) s2
  else if isK X s1 k_arr then (rec (.expr 0) (adv s1)).bind fun b s2 => with_ 20 (now X s).pos (a ++ b) s2
  else with_ 19 (now X s).pos a s1
def branchF (X : Src) (rec : Rec) (s : St) : Res :=
 (take X k_if_ s).bind fun _ s1 => (rec (.expr 0) s1).bind fun c s2 => (rec .block s2).bind fun b s3 =>
  if isK X s3 k_else_ then
   if nextK X s3 k_if_ then (enter X k_else_ s3).bind fun _ s4 => (rec .branch s4).bind fun e s5 => with_ 22 (now X s).pos (c ++ b ++ e) (down s5)
   else (rec .block (adv s3)).bind fun e s5 => with_ 22 (now X s).pos (c ++ b ++ e) s5
  else with_ 22 (now X s).pos (c ++ b) s3
def climbF (X : Src) (rec : Rec) (k a : Nat) (s : St) : Res :=
 if k < lev X s then (rec (.expr (lev X s)) (adv s)).bind fun b s1 => (put ⟨46, (now X s).pos, 0, (now X s).text, a :: b⟩ s1).bind fun e s2 => rec (.climb k (e.getD 0 0)) s2
 else .ok [a] s
def made (X : Src) (rec : Rec) (at_ : Nat) (s : St) : Res :=
 (enter X k_lp s).bind fun _ s1 => (enter X k_chan s1).bind fun _ s2 => (rec .typ s2).bind fun k s3 =>
  if isK X (down s3) k_com then
   if isNum X (adv (down s3)) then (leave X k_rp (adv (adv (down s3)))).bind fun _ s5 => put ⟨42, at_, (now X (adv (down s3))).num, [], k⟩ s5
   else fail X 3 (adv (down s3))
  else (leave X k_rp (down s3)).bind fun _ s5 => put ⟨42, at_, 0, [], k⟩ s5
def firstF (X : Src) (rec : Rec) (s : St) : Res :=
 if isNum X s then put ⟨33, (now X s).pos, (now X s).num, [], []⟩ (adv s)
 else if isK X s k_true_ then put ⟨34, (now X s).pos, 1, [], []⟩ (adv s)
 else if isK X s k_false_ then with_ 34 (now X s).pos [] (adv s)
 else if isK X s k_nil then with_ 35 (now X s).pos [] (adv s)
 else if isK X s k_func then (sig X rec (adv s)).bind fun g s1 => (rec .block s1).bind fun b s2 => with_ 40 (now X s).pos (g ++ b) s2
 else if isK X s k_new then (enter X k_lp (adv s)).bind fun _ s1 => (name X s1).bind fun _ s2 => (leave X k_rp s2).bind fun _ s3 => put ⟨41, (now X s).pos, 0, (now X s1).text, []⟩ s3
 else if isK X s k_make then made X rec (now X s).pos (adv s)
 else if isK X s k_lp then (enter X k_lp s).bind fun _ s1 => (rec (.expr 0) s1).bind fun e s2 => (leave X k_rp s2).bind fun _ s3 => .ok e s3
 else (name X s).bind fun _ s1 => put ⟨36, (now X s).pos, 0, (now X s).text, []⟩ s1
def prefixed (X : Src) (rec : Rec) (x : List UInt8) (kind : Int) (s : St) : Res := (enter X x s).bind fun _ s1 => (rec .unary s1).bind fun e s2 => with_ kind (now X s).pos e (down s2)
def unaryF (X : Src) (rec : Rec) (s : St) : Res :=
 if isK X s k_bang then prefixed X rec k_bang 43 s
 else if isK X s k_minus then prefixed X rec k_minus 44 s
 else if isK X s k_arr then prefixed X rec k_arr 45 s
 else (firstF X rec s).bind fun e s1 => rec (.part (e.getD 0 0)) s1
def partF (X : Src) (rec : Rec) (e : Nat) (s : St) : Res :=
 if isK X s k_lp then (list X (rec (.exprs [])) s).bind fun l s1 => (with_ 38 (now X s).pos (e :: l) s1).bind fun e1 s2 => rec (.part (e1.getD 0 0)) s2
 else if isK X s k_dot then
  if isK X (adv s) k_lp then (enter X k_lp (adv s)).bind fun _ s1 => (rec .typ s1).bind fun t s2 => (leave X k_rp s2).bind fun _ s3 => (with_ 39 (now X s).pos (e :: t) s3).bind fun e1 s4 => rec (.part (e1.getD 0 0)) s4
  else (name X (adv s)).bind fun _ s1 => (put ⟨37, (now X s).pos, 0, (now X (adv s)).text, [e]⟩ s1).bind fun e1 s2 => rec (.part (e1.getD 0 0)) s2
 else .ok [e] s
def msig (X : Src) (rec : Rec) (s : St) : Res := (name X s).bind fun _ s1 => (sig X rec s1).bind fun g s2 => put ⟨11, (now X s).pos, 0, (now X s).text, g⟩ s2
def typed (X : Src) (rec : Rec) (at_ : Nat) (s : St) : Res :=
 (name X s).bind fun _ s1 =>
  if isK X s1 k_struct then (items X (rec (.fields [])) (adv s1)).bind fun l s2 => put ⟨10, at_, 0, (now X s).text, l⟩ s2
  else (take X k_interface s1).bind fun _ s2 => (items X (rec (.msigs [])) s2).bind fun l s3 => put ⟨12, at_, 0, (now X s).text, l⟩ s3
def method (X : Src) (rec : Rec) (at_ : Nat) (s : St) : Res :=
 (enter X k_lp s).bind fun _ s1 => (name X s1).bind fun _ s2 => (pointer X s2).bind fun p s3 => (leave X k_rp s3).bind fun _ s4 =>
  (put ⟨7, (now X s1).pos, 0, (now X s1).text, p⟩ s4).bind fun self s5 => (name X s5).bind fun _ s6 => (sig X rec s6).bind fun g s7 => (rec .block s7).bind fun b s8 => put ⟨14, at_, 0, (now X s5).text, self ++ g ++ b⟩ s8
def declF (X : Src) (rec : Rec) (s : St) : Res :=
 if isK X s k_type then typed X rec (now X s).pos (adv s)
 else (take X k_func s).bind fun _ s1 =>
  if isK X s1 k_lp then method X rec (now X s).pos s1
  else (name X s1).bind fun _ s2 => (sig X rec s2).bind fun g s3 => (rec .block s3).bind fun b s4 => put ⟨13, (now X s).pos, 0, (now X s1).text, g ++ b⟩ s4

/-- One step of what calls itself. -/
def bodyR (X : Src) (rec : Rec) : Fn → St → Res
 | .typ, s => typF X rec s
 | .block, s => blockF X rec s
 | .stmt, s => stmtF X rec s
 | .branch, s => branchF X rec s
 | .expr k, s => (rec .unary s).bind fun e s1 => rec (.climb k (e.getD 0 0)) s1
 | .climb k a, s => climbF X rec k a s
 | .unary, s => unaryF X rec s
 | .part e, s => partF X rec e s
 | .typs acc, s => listL X (rec .typ) (fun a => rec (.typs a)) acc s
 | .params acc, s => listL X (named X rec 7) (fun a => rec (.params a)) acc s
 | .exprs acc, s => listL X (rec (.expr 0)) (fun a => rec (.exprs a)) acc s
 | .stmts acc, s => itemsL X (rec .stmt) (fun a => rec (.stmts a)) acc s
 | .body acc, s =>
  if anyK X s [k_case_, k_dflt, k_rb] then .ok acc s
  else (rec .stmt s).bind fun k s1 => if isK X s1 k_rb then .ok (acc ++ k) s1 else (take X k_semi s1).bind fun _ s2 => rec (.body (acc ++ k)) s2
 | .cases acc, s => if isK X s k_rb then .ok acc s else (caseF X rec s).bind fun k s1 => rec (.cases (acc ++ k)) s1
 | .fields acc, s => itemsL X (named X rec 9) (fun a => rec (.fields a)) acc s
 | .msigs acc, s => itemsL X (msig X rec) (fun a => rec (.msigs a)) acc s
 | .decls acc, s =>
  if s.i < X.toks.length then (declF X rec s).bind fun k s1 => if s1.i < X.toks.length then (take X k_semi s1).bind fun _ s2 => rec (.decls (acc ++ k)) s2 else rec (.decls (acc ++ k)) s1
  else .ok acc s
def run (X : Src) : Nat → Rec
 | 0, _, _ => .out
 | n + 1, f, s => bodyR X (run X n) f s
def start : St := ⟨0, 0, []⟩
def program (X : Src) (n : Nat) : Res := (run X n (.decls []) start).bind fun l s => put ⟨15, (now X start).pos, 0, [], l⟩ s
def parse (X : Src) (n : Nat) : Res := (program X n).bind fun v s => if 1200 < s.nodes.length then .bad 5 X.len else .ok v s

/-! ### More fuel, the same -/
def Le (r r' : Res) : Prop := r ≠ .out → r' = r
theorem Le.refl (r : Res) : Le r r := fun _ => rfl
theorem Le.bind {r r' : Res} {f f' : List Nat → St → Res} (h : Le r r') (hf : ∀ v s, Le (f v s) (f' v s)) : Le (r.bind f) (r'.bind f') := by
 intro hne
 cases r with
 | out => exact absurd rfl hne
 | bad c p => rw [h (by simp)]; rfl
 | ok v s => rw [h (by simp)]; exact hf v s hne
theorem Le.ite {c : Prop} [Decidable c] {a a' b b' : Res} (h1 : Le a a') (h2 : Le b b') : Le (if c then a else b) (if c then a' else b') := by
 split
 ·exact h1
 ·exact h2
def LeR (rec rec' : Rec) : Prop := ∀ f s, Le (rec f s) (rec' f s)
section
variable {X : Src} {rec rec' : Rec} (h : LeR rec rec')
theorem list_le {l l' : St → Res} (hl : ∀ s, Le (l s) (l' s)) (s : St) : Le (list X l s) (list X l' s) := Le.bind (Le.refl _) fun _ _ => Le.bind (hl _) fun _ _ => Le.refl _
theorem items_le {l l' : St → Res} (hl : ∀ s, Le (l s) (l' s)) (s : St) : Le (items X l s) (items X l' s) := Le.bind (Le.refl _) fun _ _ => Le.bind (hl _) fun _ _ => Le.refl _
theorem listL_le {o o' : St → Res} {g g' : List Nat → St → Res} (ho : ∀ s, Le (o s) (o' s)) (hg : ∀ a s, Le (g a s) (g' a s)) (acc : List Nat) (s : St) : Le (listL X o g acc s) (listL X o' g' acc s) :=
 Le.ite (Le.refl _) (Le.bind (ho _) fun _ _ => Le.ite (Le.refl _) (Le.bind (Le.refl _) fun _ _ => Le.ite (Le.refl _) (hg _ _)))
theorem itemsL_le {o o' : St → Res} {g g' : List Nat → St → Res} (ho : ∀ s, Le (o s) (o' s)) (hg : ∀ a s, Le (g a s) (g' a s)) (acc : List Nat) (s : St) : Le (itemsL X o g acc s) (itemsL X o' g' acc s) :=
 Le.ite (Le.refl _) (Le.bind (ho _) fun _ _ => Le.ite (Le.refl _) (Le.bind (Le.refl _) fun _ _ => hg _ _))
include h
theorem named_le (kind : Int) (s : St) : Le (named X rec kind s) (named X rec' kind s) := Le.bind (Le.refl _) fun _ _ => Le.bind (h _ _) fun _ _ => Le.refl _
theorem result_le (kind : Int) (at_ : Nat) (l : List Nat) (s : St) (fin : St → St) : Le (result X rec kind at_ l s fin) (result X rec' kind at_ l s fin) := Le.ite (Le.bind (h _ _) fun _ _ => Le.refl _) (Le.refl _)
theorem sig_le (s : St) : Le (sig X rec s) (sig X rec' s) := Le.bind (list_le (fun _ => h _ _) _) fun _ _ => result_le h _ _ _ _ _
theorem typF_le (s : St) : Le (typF X rec s) (typF X rec' s) :=
 Le.ite (Le.refl _) (Le.ite (Le.refl _) (Le.ite (Le.refl _) (Le.ite (Le.bind (Le.refl _) fun _ _ => Le.bind (h _ _) fun _ _ => Le.refl _) (Le.ite (Le.bind (Le.refl _) fun _ _ => Le.bind (list_le (fun _ => h _ _) _) fun _ _ => result_le h _ _ _ _ _) (Le.refl _)))))
theorem blockF_le (s : St) : Le (blockF X rec s) (blockF X rec' s) := Le.bind (items_le (fun _ => h _ _) _) fun _ _ => Le.refl _
theorem bracketed_le (kind : Int) (at_ : Nat) (s : St) : Le (bracketed X rec kind at_ s) (bracketed X rec' kind at_ s) := Le.bind (Le.refl _) fun _ _ => Le.bind (h _ _) fun _ _ => Le.refl _
theorem bodyF_le (s : St) : Le (bodyF X rec s) (bodyF X rec' s) := Le.bind (Le.refl _) fun _ _ => Le.bind (h _ _) fun _ _ => Le.refl _
theorem caseF_le (s : St) : Le (caseF X rec s) (caseF X rec' s) :=
 Le.ite (Le.bind (bodyF_le h _) fun _ _ => Le.refl _) (Le.bind (Le.refl _) fun _ _ => Le.ite (Le.bind (Le.refl _) fun _ _ => Le.bind (h _ _) fun _ _ => Le.bind (bodyF_le h _) fun _ _ => Le.refl _)
  (Le.ite (Le.bind (h _ _) fun _ _ => Le.bind (bodyF_le h _) fun _ _ => Le.refl _) (Le.bind (h _ _) fun _ _ => Le.bind (Le.refl _) fun _ _ => Le.bind (h _ _) fun _ _ => Le.bind (bodyF_le h _) fun _ _ => Le.refl _)))
theorem choice_le (at_ : Nat) (s : St) : Le (choice X rec at_ s) (choice X rec' at_ s) := Le.bind (Le.refl _) fun _ _ => Le.bind (h _ _) fun _ _ => Le.refl _
theorem stmtF_le (s : St) : Le (stmtF X rec s) (stmtF X rec' s) := by
 unfold stmtF;refine Le.ite (Le.bind (h _ _) fun _ _ => Le.refl _) (Le.ite (bracketed_le h _ _ _) (Le.ite (bracketed_le h _ _ _) (Le.ite (bracketed_le h _ _ _) (Le.ite (h _ _) (Le.ite (Le.bind (h _ _) fun _ _ => Le.bind (h _ _) fun _ _ => Le.refl _) (Le.ite (Le.ite (Le.refl _) (Le.bind (h _ _) fun _ _ => Le.refl _)) (Le.ite (Le.refl _) (Le.ite (choice_le h _ _) (Le.ite (Le.bind (h _ _) fun _ _ => Le.refl _) (Le.bind (h _ _) fun _ _ => ?_))))))))));exact Le.ite (Le.bind (h _ _) fun _ _ => Le.refl _) (Le.ite (Le.bind (h _ _) fun _ _ => Le.refl _) (Le.refl _))
theorem branchF_le (s : St) : Le (branchF X rec s) (branchF X rec' s) :=
 Le.bind (Le.refl _) fun _ _ => Le.bind (h _ _) fun _ _ => Le.bind (h _ _) fun _ _ => Le.ite (Le.ite (Le.bind (Le.refl _) fun _ _ => Le.bind (h _ _) fun _ _ => Le.refl _) (Le.bind (h _ _) fun _ _ => Le.refl _)) (Le.refl _)
theorem climbF_le (k a : Nat) (s : St) : Le (climbF X rec k a s) (climbF X rec' k a s) := Le.ite (Le.bind (h _ _) fun _ _ => Le.bind (Le.refl _) fun _ _ => h _ _) (Le.refl _)
theorem made_le (at_ : Nat) (s : St) : Le (made X rec at_ s) (made X rec' at_ s) := Le.bind (Le.refl _) fun _ _ => Le.bind (Le.refl _) fun _ _ => Le.bind (h _ _) fun _ _ => Le.refl _
theorem firstF_le (s : St) : Le (firstF X rec s) (firstF X rec' s) :=
 Le.ite (Le.refl _) (Le.ite (Le.refl _) (Le.ite (Le.refl _) (Le.ite (Le.refl _) (Le.ite (Le.bind (sig_le h _) fun _ _ => Le.bind (h _ _) fun _ _ => Le.refl _) (Le.ite (Le.refl _) (Le.ite (made_le h _ _) (Le.ite (Le.bind (Le.refl _) fun _ _ => Le.bind (h _ _) fun _ _ => Le.refl _) (Le.refl _))))))))
theorem prefixed_le (x : List UInt8) (kind : Int) (s : St) : Le (prefixed X rec x kind s) (prefixed X rec' x kind s) := Le.bind (Le.refl _) fun _ _ => Le.bind (h _ _) fun _ _ => Le.refl _
theorem unaryF_le (s : St) : Le (unaryF X rec s) (unaryF X rec' s) := Le.ite (prefixed_le h _ _ _) (Le.ite (prefixed_le h _ _ _) (Le.ite (prefixed_le h _ _ _) (Le.bind (firstF_le h _) fun _ _ => h _ _)))
theorem partF_le (e : Nat) (s : St) : Le (partF X rec e s) (partF X rec' e s) :=
 Le.ite (Le.bind (list_le (fun _ => h _ _) _) fun _ _ => Le.bind (Le.refl _) fun _ _ => h _ _) (Le.ite (Le.ite (Le.bind (Le.refl _) fun _ _ => Le.bind (h _ _) fun _ _ => Le.bind (Le.refl _) fun _ _ => Le.bind (Le.refl _) fun _ _ => h _ _) (Le.bind (Le.refl _) fun _ _ => Le.bind (Le.refl _) fun _ _ => h _ _)) (Le.refl _))
theorem msig_le (s : St) : Le (msig X rec s) (msig X rec' s) := Le.bind (Le.refl _) fun _ _ => Le.bind (sig_le h _) fun _ _ => Le.refl _
theorem typed_le (at_ : Nat) (s : St) : Le (typed X rec at_ s) (typed X rec' at_ s) := Le.bind (Le.refl _) fun _ _ => Le.ite (Le.bind (items_le (fun _ => h _ _) _) fun _ _ => Le.refl _) (Le.bind (Le.refl _) fun _ _ => Le.bind (items_le (fun _ => h _ _) _) fun _ _ => Le.refl _)
theorem method_le (at_ : Nat) (s : St) : Le (method X rec at_ s) (method X rec' at_ s) :=
 Le.bind (Le.refl _) fun _ _ => Le.bind (Le.refl _) fun _ _ => Le.bind (Le.refl _) fun _ _ => Le.bind (Le.refl _) fun _ _ => Le.bind (Le.refl _) fun _ _ => Le.bind (Le.refl _) fun _ _ => Le.bind (sig_le h _) fun _ _ => Le.bind (h _ _) fun _ _ => Le.refl _
theorem declF_le (s : St) : Le (declF X rec s) (declF X rec' s) :=
 Le.ite (typed_le h _ _) (Le.bind (Le.refl _) fun _ _ => Le.ite (method_le h _ _) (Le.bind (Le.refl _) fun _ _ => Le.bind (sig_le h _) fun _ _ => Le.bind (h _ _) fun _ _ => Le.refl _))
theorem bodyR_le (f : Fn) (s : St) : Le (bodyR X rec f s) (bodyR X rec' f s) := by
 cases f with
 | typ => exact typF_le h s
 | block => exact blockF_le h s
 | stmt => exact stmtF_le h s
 | branch => exact branchF_le h s
 | expr k => exact Le.bind (h _ _) fun _ _ => h _ _
 | climb k a => exact climbF_le h k a s
 | unary => exact unaryF_le h s
 | part e => exact partF_le h e s
 | typs acc => exact listL_le (h .typ) (fun a => h (.typs a)) acc s
 | params acc => exact listL_le (named_le h 7) (fun a => h (.params a)) acc s
 | exprs acc => exact listL_le (h (.expr 0)) (fun a => h (.exprs a)) acc s
 | stmts acc => exact itemsL_le (h .stmt) (fun a => h (.stmts a)) acc s
 | body acc => exact Le.ite (Le.refl _) (Le.bind (h _ _) fun _ _ => Le.ite (Le.refl _) (Le.bind (Le.refl _) fun _ _ => h _ _))
 | cases acc => exact Le.ite (Le.refl _) (Le.bind (caseF_le h _) fun _ _ => h _ _)
 | fields acc => exact itemsL_le (named_le h 9) (fun a => h (.fields a)) acc s
 | msigs acc => exact itemsL_le (msig_le h) (fun a => h (.msigs a)) acc s
 | decls acc => exact Le.ite (Le.bind (declF_le h _) fun _ _ => Le.ite (Le.bind (Le.refl _) fun _ _ => h _ _) (h _ _)) (Le.refl _)
end
theorem run_succ (X : Src) (n : Nat) : LeR (run X n) (run X (n + 1)) := by
 induction n with
 | zero => intro f s hne; exact absurd rfl hne
 | succ n ih => intro f s; exact bodyR_le ih f s
theorem run_le (X : Src) {n m : Nat} (h : n ≤ m) : LeR (run X n) (run X m) := by
 induction m with
 | zero =>
  obtain rfl : n = 0 := by omega
  exact fun f s => Le.refl _
 | succ m ih =>
  by_cases e : n = m + 1
  ·subst e; exact fun f s => Le.refl _
  ·intro f s hne;have h1 := ih (by omega) f s hne
   have h2 := run_succ X m f s (by rw [h1]; exact hne);rw [h2, h1]
end Go.Proofs.YtjickecdkmljpaaGreatDoor.Ps
namespace Go.Proofs.YtjickecdkmljpaaGreatDoor.Ps
def oneFn : Fn → Bool
 | .typ => true
 | .block => true
 | .stmt => true
 | .branch => true
 | .expr _ => true
 | .climb _ _ => true
 | .unary => true
 | .part _ => true
 | _ => false
def One (r : Res) : Prop := ∀ v s', r = .ok v s' → ∃ a, v = [a]
def Ones (rec : Rec) : Prop := ∀ f, oneFn f = true → ∀ s, One (rec f s)
theorem One.bind {r : Res} {f : List Nat → St → Res} (hf : ∀ v s, One (f v s)) : One (r.bind f) := by
 intro v s' h
 cases r with
 | out => cases h
 | bad c p => cases h
 | ok v1 s1 => exact hf v1 s1 v s' h
theorem One.ite {c : Prop} [Decidable c] {a b : Res} (h1 : One a) (h2 : One b) : One (if c then a else b) := by
 split
 ·exact h1
 ·exact h2
theorem One.put (nd : Nd) (s : St) : One (put nd s) := by
 intro v s' h;unfold Ps.put at h
 split at h
 ·cases h; exact ⟨_, rfl⟩
 ·cases h
theorem One.fail (X : Src) (c : Int) (s : St) : One (fail X c s) := fun v s' h => by cases h
theorem One.one (a : Nat) (s : St) : One (.ok [a] s) := fun v s' h => by cases h; exact ⟨_, rfl⟩
section
variable {X : Src} {rec : Rec} (h : Ones rec)
theorem pointer_one (s : St) : One (pointer X s) := One.bind fun _ _ => One.bind fun _ _ => One.put _ _
theorem named_one (kind : Int) (s : St) : One (named X rec kind s) := One.bind fun _ _ => One.bind fun _ _ => One.put _ _
theorem result_one (kind : Int) (at_ : Nat) (l : List Nat) (s : St) (fin : St → St) : One (result X rec kind at_ l s fin) := One.ite (One.bind fun _ _ => One.put _ _) (One.put _ _)
theorem sig_one (s : St) : One (sig X rec s) := One.bind fun _ _ => result_one _ _ _ _ _
theorem typF_one (s : St) : One (typF X rec s) := One.ite (One.put _ _) (One.ite (One.put _ _) (One.ite (pointer_one _) (One.ite (One.bind fun _ _ => One.bind fun _ _ => One.put _ _) (One.ite (One.bind fun _ _ => One.bind fun _ _ => result_one _ _ _ _ _) (One.bind fun _ _ => One.put _ _)))))
theorem blockF_one (s : St) : One (blockF X rec s) := One.bind fun _ _ => One.put _ _
theorem bracketed_one (kind : Int) (at_ : Nat) (s : St) : One (bracketed X rec kind at_ s) := One.bind fun _ _ => One.bind fun _ _ => One.bind fun _ _ => One.put _ _
theorem bodyF_one (s : St) : One (bodyF X rec s) := One.bind fun _ _ => One.bind fun _ _ => One.put _ _
theorem caseF_one (s : St) : One (caseF X rec s) :=
 One.ite (One.bind fun _ _ => One.put _ _) (One.bind fun _ _ => One.ite (One.bind fun _ _ => One.bind fun _ _ => One.bind fun _ _ => One.put _ _) (One.ite (One.bind fun _ _ => One.bind fun _ _ => One.put _ _) (One.bind fun _ _ => One.bind fun _ _ => One.bind fun _ _ => One.bind fun _ _ => One.put _ _)))
theorem choice_one (at_ : Nat) (s : St) : One (choice X rec at_ s) := One.bind fun _ _ => One.bind fun _ _ => One.bind fun _ _ => One.put _ _
theorem made_one (at_ : Nat) (s : St) : One (made X rec at_ s) :=
 One.bind fun _ _ => One.bind fun _ _ => One.bind fun _ _ => One.ite (One.ite (One.bind fun _ _ => One.put _ _) (One.fail _ _ _)) (One.bind fun _ _ => One.put _ _)
theorem prefixed_one (x : List UInt8) (kind : Int) (s : St) : One (prefixed X rec x kind s) := One.bind fun _ _ => One.bind fun _ _ => One.put _ _
theorem msig_one (s : St) : One (msig X rec s) := One.bind fun _ _ => One.bind fun _ _ => One.put _ _
theorem typed_one (at_ : Nat) (s : St) : One (typed X rec at_ s) := One.bind fun _ _ => One.ite (One.bind fun _ _ => One.put _ _) (One.bind fun _ _ => One.bind fun _ _ => One.put _ _)
theorem method_one (at_ : Nat) (s : St) : One (method X rec at_ s) :=
 One.bind fun _ _ => One.bind fun _ _ => One.bind fun _ _ => One.bind fun _ _ => One.bind fun _ _ => One.bind fun _ _ => One.bind fun _ _ => One.bind fun _ _ => One.put _ _
theorem declF_one (s : St) : One (declF X rec s) := One.ite (typed_one _ _) (One.bind fun _ _ => One.ite (method_one _ _) (One.bind fun _ _ => One.bind fun _ _ => One.bind fun _ _ => One.put _ _))
theorem branchF_one (s : St) : One (branchF X rec s) :=
 One.bind fun _ _ => One.bind fun _ _ => One.bind fun _ _ => One.ite (One.ite (One.bind fun _ _ => One.bind fun _ _ => One.put _ _) (One.bind fun _ _ => One.put _ _)) (One.put _ _)
include h
theorem stmtF_one (s : St) : One (stmtF X rec s) := by
 unfold stmtF;refine One.ite (One.bind fun _ _ => One.put _ _) (One.ite (bracketed_one _ _ _) (One.ite (bracketed_one _ _ _) (One.ite (bracketed_one _ _ _) (One.ite (h _ rfl _) (One.ite (One.bind fun _ _ => One.bind fun _ _ => One.put _ _) (One.ite (One.ite (One.put _ _) (One.bind fun _ _ => One.put _ _)) (One.ite (One.put _ _) (One.ite (choice_one _ _) (One.ite (One.bind fun _ _ => One.put _ _) (One.bind fun _ _ => ?_))))))))));exact One.ite (One.bind fun _ _ => One.put _ _) (One.ite (One.bind fun _ _ => One.put _ _) (One.put _ _))
theorem climbF_one (k a : Nat) (s : St) : One (climbF X rec k a s) := One.ite (One.bind fun _ _ => One.bind fun _ _ => h _ rfl _) (One.one _ _)
theorem firstF_one (s : St) : One (firstF X rec s) := by
 unfold firstF;refine One.ite (One.put _ _) (One.ite (One.put _ _) (One.ite (One.put _ _) (One.ite (One.put _ _) (One.ite (One.bind fun _ _ => One.bind fun _ _ => One.put _ _) (One.ite (One.bind fun _ _ => One.bind fun _ _ => One.bind fun _ _ => One.put _ _) (One.ite (made_one _ _) (One.ite ?_ (One.bind fun _ _ => One.put _ _))))))));intro v s' hv
 cases h1 : enter X k_lp s with
 | out => rw [h1] at hv; cases hv
 | bad c p => rw [h1] at hv; cases hv
 | ok v1 s1 =>
  rw [h1, bind_ok] at hv
  cases h2 : rec (.expr 0) s1 with
  | out => rw [h2] at hv; cases hv
  | bad c p => rw [h2] at hv; cases hv
  | ok v2 s2 =>
   obtain ⟨a, rfl⟩ := h (.expr 0) rfl s1 v2 s2 h2;rw [h2, bind_ok] at hv
   cases h3 : leave X k_rp s2 with
   | out => rw [h3] at hv; cases hv
   | bad c p => rw [h3] at hv; cases hv
   | ok v3 s3 => rw [h3, bind_ok] at hv; cases hv; exact ⟨a, rfl⟩
theorem unaryF_one (s : St) : One (unaryF X rec s) := One.ite (prefixed_one _ _ _) (One.ite (prefixed_one _ _ _) (One.ite (prefixed_one _ _ _) (One.bind fun _ _ => h _ rfl _)))
theorem partF_one (e : Nat) (s : St) : One (partF X rec e s) :=
 One.ite (One.bind fun _ _ => One.bind fun _ _ => h _ rfl _) (One.ite (One.ite (One.bind fun _ _ => One.bind fun _ _ => One.bind fun _ _ => One.bind fun _ _ => h _ rfl _) (One.bind fun _ _ => One.bind fun _ _ => h _ rfl _)) (One.one _ _))
end
theorem run_ones (X : Src) (n : Nat) : Ones (run X n) := by
 induction n with
 | zero => intro f _ s v s' h; cases h
 | succ n ih =>
  intro f hf s
  cases f with
  | typ => exact typF_one s
  | block => exact blockF_one s
  | stmt => exact stmtF_one ih s
  | branch => exact branchF_one s
  | expr k => exact One.bind fun _ _ => ih _ rfl _
  | climb k a => exact climbF_one ih k a s
  | unary => exact unaryF_one ih s
  | part e => exact partF_one ih e s
  | typs acc => cases hf
  | params acc => cases hf
  | exprs acc => cases hf
  | stmts acc => cases hf
  | body acc => cases hf
  | cases acc => cases hf
  | fields acc => cases hf
  | msigs acc => cases hf
  | decls acc => cases hf
end Go.Proofs.YtjickecdkmljpaaGreatDoor.Ps
namespace Go.Proofs.YtjickecdkmljpaaGreatDoor.Ps
def Dp (r : Res) (d : Int) : Prop := ∀ v s', r = .ok v s' → s'.deep = d
def Keep (rec : Rec) : Prop := ∀ f s, Dp (rec f s) s.deep
theorem Dp.bind {r : Res} {d d2 : Int} {f : List Nat → St → Res} (h : Dp r d) (hf : ∀ v s, s.deep = d → Dp (f v s) d2) : Dp (r.bind f) d2 := by
 intro v s' he
 cases r with
 | out => cases he
 | bad c p => cases he
 | ok v1 s1 => exact hf v1 s1 (h v1 s1 rfl) v s' he
theorem Dp.ite {c : Prop} [Decidable c] {a b : Res} {d : Int} (h1 : Dp a d) (h2 : Dp b d) : Dp (if c then a else b) d := by
 split
 ·exact h1
 ·exact h2
theorem Dp.put (nd : Nd) (s : St) : Dp (put nd s) s.deep := by
 intro v s' h;unfold Ps.put at h
 split at h
 ·cases h; rfl
 ·cases h
theorem Dp.fail (X : Src) (c : Int) (s : St) (d : Int) : Dp (fail X c s) d := fun v s' h => by cases h
theorem Dp.ok (v : List Nat) (s : St) : Dp (.ok v s) s.deep := fun v s' h => by cases h; rfl
theorem Dp.take (X : Src) (x : List UInt8) (s : St) : Dp (take X x s) s.deep := Dp.ite (fun v s' h => by cases h; rfl) (Dp.fail _ _ _ _)
theorem Dp.name (X : Src) (s : St) : Dp (name X s) s.deep := Dp.ite (fun v s' h => by cases h; rfl) (Dp.fail _ _ _ _)
theorem Dp.enter (X : Src) (x : List UInt8) (s : St) : Dp (enter X x s) (s.deep + 1) := Dp.ite (Dp.fail _ _ _ _) (Dp.bind (Dp.take X x s) fun v s1 h v2 s2 h2 => by cases h2; show s1.deep + 1 = _; rw [h])
theorem Dp.leave (X : Src) (x : List UInt8) (s : St) : Dp (leave X x s) (s.deep - 1) := Dp.bind (Dp.take X x s) fun v s1 h v2 s2 h2 => by cases h2; show s1.deep - 1 = _; rw [h]
theorem Dp.to {r : Res} {d d2 : Int} (h : Dp r d) (e : d = d2) : Dp r d2 := e ▸ h
section
variable {X : Src} {rec : Rec} (h : Keep rec)
theorem list_dp {l : St → Res} (hl : ∀ s, Dp (l s) s.deep) (s : St) : Dp (list X l s) s.deep :=
 Dp.bind (Dp.enter X _ s) fun _ s1 e1 => Dp.bind (hl s1) fun _ s2 e2 => Dp.bind (Dp.leave X _ s2) fun v s3 e3 => (Dp.ok _ _).to (by omega)
theorem items_dp {l : St → Res} (hl : ∀ s, Dp (l s) s.deep) (s : St) : Dp (items X l s) s.deep :=
 Dp.bind (Dp.enter X _ s) fun _ s1 e1 => Dp.bind (hl s1) fun _ s2 e2 => Dp.bind (Dp.leave X _ s2) fun v s3 e3 => (Dp.ok _ _).to (by omega)
theorem listL_dp {o : St → Res} {g : List Nat → St → Res} (ho : ∀ s, Dp (o s) s.deep) (hg : ∀ a s, Dp (g a s) s.deep) (acc : List Nat) (s : St) : Dp (listL X o g acc s) s.deep :=
 Dp.ite (Dp.ok _ _) (Dp.bind (ho s) fun _ s1 e1 => Dp.ite ((Dp.ok _ _).to e1) (Dp.bind ((Dp.take X _ s1).to e1) fun _ s2 e2 => Dp.ite (Dp.fail _ _ _ _) ((hg _ s2).to e2)))
theorem itemsL_dp {o : St → Res} {g : List Nat → St → Res} (ho : ∀ s, Dp (o s) s.deep) (hg : ∀ a s, Dp (g a s) s.deep) (acc : List Nat) (s : St) : Dp (itemsL X o g acc s) s.deep :=
 Dp.ite (Dp.ok _ _) (Dp.bind (ho s) fun _ s1 e1 => Dp.ite ((Dp.ok _ _).to e1) (Dp.bind ((Dp.take X _ s1).to e1) fun _ s2 e2 => (hg _ s2).to e2))
theorem pointer_dp (s : St) : Dp (pointer X s) s.deep := Dp.bind (Dp.take X _ s) fun _ s1 e1 => Dp.bind ((Dp.name X s1).to e1) fun _ s2 e2 => (Dp.put _ s2).to e2
include h
theorem named_dp (kind : Int) (s : St) : Dp (named X rec kind s) s.deep := Dp.bind (Dp.name X s) fun _ s1 e1 => Dp.bind ((h _ s1).to e1) fun _ s2 e2 => (Dp.put _ s2).to e2
theorem result_dp (kind : Int) (at_ : Nat) (l : List Nat) (s : St) (fin : St → St) (d : Int) (hd : ∀ s' : St, s'.deep = s.deep → (fin s').deep = d) : Dp (result X rec kind at_ l s fin) d :=
 Dp.ite (Dp.bind (h _ s) fun _ s1 e1 => (Dp.put _ _).to (hd s1 e1)) ((Dp.put _ _).to (hd s rfl))
theorem sig_dp (s : St) : Dp (sig X rec s) s.deep := Dp.bind (list_dp (fun s => h _ s) s) fun _ s1 e1 => result_dp h _ _ _ s1 id s.deep (fun _s' e => e.trans e1)
theorem typF_dp (s : St) : Dp (typF X rec s) s.deep :=
 Dp.ite (Dp.put _ _) (Dp.ite (Dp.put _ _) (Dp.ite (pointer_dp s) (Dp.ite (Dp.bind (Dp.enter X _ s) fun _ s1 e1 => Dp.bind ((h _ s1).to e1) fun _ s2 e2 => (Dp.put _ _).to (by show s2.deep - 1 = _; omega))
  (Dp.ite (Dp.bind (Dp.enter X _ s) fun _ s1 e1 => Dp.bind ((list_dp (fun s => h _ s) s1).to e1) fun _ s2 e2 => result_dp h _ _ _ s2 down s.deep (fun s' e => by show s'.deep - 1 = _; omega)) (Dp.bind (Dp.name X s) fun _ s1 e1 => (Dp.put _ s1).to e1)))))
theorem blockF_dp (s : St) : Dp (blockF X rec s) s.deep := Dp.bind (items_dp (fun s => h _ s) s) fun _ s1 e1 => (Dp.put _ s1).to e1
theorem bracketed_dp (kind : Int) (at_ : Nat) (s : St) : Dp (bracketed X rec kind at_ s) s.deep :=
 Dp.bind (Dp.enter X _ s) fun _ s1 e1 => Dp.bind ((h _ s1).to e1) fun _ s2 e2 => Dp.bind (Dp.leave X _ s2) fun _ s3 e3 => (Dp.put _ s3).to (by omega)
theorem bodyF_dp (s : St) : Dp (bodyF X rec s) s.deep := Dp.bind (Dp.take X _ s) fun _ s1 e1 => Dp.bind ((h _ s1).to e1) fun _ s2 e2 => (Dp.put _ s2).to e2
theorem caseF_dp (s : St) : Dp (caseF X rec s) s.deep :=
 Dp.ite (Dp.bind (bodyF_dp h (adv s)) fun _ s1 e1 => (Dp.put _ s1).to e1)
  (Dp.bind (Dp.take X _ s) fun _ s1 e1 => Dp.ite (Dp.bind ((Dp.take X _ (adv2 s1)).to e1) fun _ s2 e2 => Dp.bind ((h _ s2).to e2) fun _ s3 e3 => Dp.bind ((bodyF_dp h s3).to e3) fun _ s4 e4 => (Dp.put _ s4).to e4)
   (Dp.ite (Dp.bind ((h _ (adv s1)).to e1) fun _ s3 e3 => Dp.bind ((bodyF_dp h s3).to e3) fun _ s4 e4 => (Dp.put _ s4).to e4)
    (Dp.bind ((h _ s1).to e1) fun _ s2 e2 => Dp.bind ((Dp.take X _ s2).to e2) fun _ s3 e3 => Dp.bind ((h _ s3).to e3) fun _ s4 e4 => Dp.bind ((bodyF_dp h s4).to e4) fun _ s5 e5 => (Dp.put _ s5).to e5)))
theorem choice_dp (at_ : Nat) (s : St) : Dp (choice X rec at_ s) s.deep :=
 Dp.bind (Dp.enter X _ s) fun _ s1 e1 => Dp.bind ((h _ s1).to e1) fun _ s2 e2 => Dp.bind (Dp.leave X _ s2) fun _ s3 e3 => (Dp.put _ s3).to (by omega)
theorem stmtF_dp (s : St) : Dp (stmtF X rec s) s.deep := by
 unfold stmtF;refine Dp.ite (Dp.bind (h _ (adv s)) fun _ s1 e1 => (Dp.put _ s1).to e1) (Dp.ite (bracketed_dp h _ _ (adv s)) (Dp.ite (bracketed_dp h _ _ (adv s)) (Dp.ite (bracketed_dp h _ _ (adv s)) (Dp.ite (h _ s) (Dp.ite (Dp.bind (h _ (adv s)) fun _ s1 e1 => Dp.bind ((h _ s1).to e1) fun _ s2 e2 => (Dp.put _ s2).to e2) (Dp.ite (Dp.ite (Dp.put _ (adv s)) (Dp.bind (h _ (adv s)) fun _ s1 e1 => (Dp.put _ s1).to e1)) (Dp.ite (Dp.put _ (adv s)) (Dp.ite (choice_dp h _ (adv s)) (Dp.ite (Dp.bind (h _ (adv2 s)) fun _ s1 e1 => (Dp.put _ s1).to e1) (Dp.bind (h _ s) fun _ s1 e1 => ?_))))))))));exact Dp.ite (Dp.bind ((h _ (adv s1)).to e1) fun _ s2 e2 => (Dp.put _ s2).to e2) (Dp.ite (Dp.bind ((h _ (adv s1)).to e1) fun _ s2 e2 => (Dp.put _ s2).to e2) ((Dp.put _ s1).to e1))
theorem branchF_dp (s : St) : Dp (branchF X rec s) s.deep :=
 Dp.bind (Dp.take X _ s) fun _ s1 e1 => Dp.bind ((h _ s1).to e1) fun _ s2 e2 => Dp.bind ((h _ s2).to e2) fun _ s3 e3 =>
  Dp.ite (Dp.ite (Dp.bind (Dp.enter X _ s3) fun _ s4 e4 => Dp.bind ((h _ s4).to e4) fun _ s5 e5 => (Dp.put _ _).to (by show s5.deep - 1 = _; omega)) (Dp.bind ((h _ (adv s3)).to e3) fun _ s5 e5 => (Dp.put _ s5).to e5)) ((Dp.put _ s3).to e3)
theorem climbF_dp (k a : Nat) (s : St) : Dp (climbF X rec k a s) s.deep := Dp.ite (Dp.bind (h _ (adv s)) fun _ s1 e1 => Dp.bind ((Dp.put _ s1).to e1) fun _ s2 e2 => (h _ s2).to e2) (Dp.ok _ _)
theorem made_dp (at_ : Nat) (s : St) : Dp (made X rec at_ s) s.deep :=
 Dp.bind (Dp.enter X _ s) fun _ s1 e1 => Dp.bind (Dp.enter X _ s1) fun _ s2 e2 => Dp.bind ((h _ s2).to e2) fun _ s3 e3 =>
  Dp.ite (Dp.ite (Dp.bind (Dp.leave X _ _) fun _ s5 e5 => (Dp.put _ s5).to (by have : s5.deep = s3.deep - 1 - 1 := e5; omega)) (Dp.fail _ _ _ _)) (Dp.bind (Dp.leave X _ _) fun _ s5 e5 => (Dp.put _ s5).to (by have : s5.deep = s3.deep - 1 - 1 := e5; omega))
theorem firstF_dp (s : St) : Dp (firstF X rec s) s.deep :=
 Dp.ite (Dp.put _ (adv s)) (Dp.ite (Dp.put _ (adv s)) (Dp.ite (Dp.put _ (adv s)) (Dp.ite (Dp.put _ (adv s)) (Dp.ite (Dp.bind (sig_dp h (adv s)) fun _ s1 e1 => Dp.bind ((h _ s1).to e1) fun _ s2 e2 => (Dp.put _ s2).to e2)
  (Dp.ite (Dp.bind (Dp.enter X _ (adv s)) fun _ s1 e1 => Dp.bind ((Dp.name X s1).to e1) fun _ s2 e2 => Dp.bind (Dp.leave X _ s2) fun _ s3 e3 => (Dp.put _ s3).to (by have : (adv s).deep = s.deep := rfl; omega)) (Dp.ite (made_dp h _ (adv s))
   (Dp.ite (Dp.bind (Dp.enter X _ s) fun _ s1 e1 => Dp.bind ((h _ s1).to e1) fun _ s2 e2 => Dp.bind (Dp.leave X _ s2) fun _ s3 e3 => (Dp.ok _ s3).to (by omega)) (Dp.bind (Dp.name X s) fun _ s1 e1 => (Dp.put _ s1).to e1))))))))
theorem prefixed_dp (x : List UInt8) (kind : Int) (s : St) : Dp (prefixed X rec x kind s) s.deep := Dp.bind (Dp.enter X _ s) fun _ s1 e1 => Dp.bind ((h _ s1).to e1) fun _ s2 e2 => (Dp.put _ _).to (by show s2.deep - 1 = _; omega)
theorem unaryF_dp (s : St) : Dp (unaryF X rec s) s.deep := Dp.ite (prefixed_dp h _ _ s) (Dp.ite (prefixed_dp h _ _ s) (Dp.ite (prefixed_dp h _ _ s) (Dp.bind (firstF_dp h s) fun _ s1 e1 => (h _ s1).to e1)))
theorem partF_dp (e : Nat) (s : St) : Dp (partF X rec e s) s.deep :=
 Dp.ite (Dp.bind (list_dp (fun s => h _ s) s) fun _ s1 e1 => Dp.bind ((Dp.put _ s1).to e1) fun _ s2 e2 => (h _ s2).to e2)
  (Dp.ite (Dp.ite (Dp.bind (Dp.enter X _ (adv s)) fun _ s1 e1 => Dp.bind ((h _ s1).to e1) fun _ s2 e2 => Dp.bind (Dp.leave X _ s2) fun _ s3 e3 => Dp.bind ((Dp.put _ s3).to e3) fun _ s4 e4 => (h _ s4).to (by have : (adv s).deep = s.deep := rfl; omega))
   (Dp.bind (Dp.name X (adv s)) fun _ s1 e1 => Dp.bind ((Dp.put _ s1).to e1) fun _ s2 e2 => (h _ s2).to e2)) (Dp.ok _ _))
theorem msig_dp (s : St) : Dp (msig X rec s) s.deep := Dp.bind (Dp.name X s) fun _ s1 e1 => Dp.bind ((sig_dp h s1).to e1) fun _ s2 e2 => (Dp.put _ s2).to e2
theorem typed_dp (at_ : Nat) (s : St) : Dp (typed X rec at_ s) s.deep :=
 Dp.bind (Dp.name X s) fun _ s1 e1 => Dp.ite (Dp.bind ((items_dp (fun s => h _ s) (adv s1)).to e1) fun _ s2 e2 => (Dp.put _ s2).to e2) (Dp.bind ((Dp.take X _ s1).to e1) fun _ s2 e2 => Dp.bind ((items_dp (fun s => h _ s) s2).to e2) fun _ s3 e3 => (Dp.put _ s3).to e3)
theorem method_dp (at_ : Nat) (s : St) : Dp (method X rec at_ s) s.deep :=
 Dp.bind (Dp.enter X _ s) fun _ s1 e1 => Dp.bind ((Dp.name X s1).to e1) fun _ s2 e2 => Dp.bind ((pointer_dp s2).to e2) fun _ s3 e3 => Dp.bind ((Dp.leave X _ s3).to (d2 := s.deep) (by omega)) fun _ s4 e4 => Dp.bind ((Dp.put _ s4).to e4) fun _ s5 e5 => Dp.bind ((Dp.name X s5).to e5) fun _ s6 e6 => Dp.bind ((sig_dp h s6).to e6) fun _ s7 e7 => Dp.bind ((h _ s7).to e7) fun _ s8 e8 => (Dp.put _ s8).to e8
theorem declF_dp (s : St) : Dp (declF X rec s) s.deep :=
 Dp.ite (typed_dp h _ (adv s)) (Dp.bind (Dp.take X _ s) fun _ s1 e1 => Dp.ite ((method_dp h _ s1).to e1) (Dp.bind ((Dp.name X s1).to e1) fun _ s2 e2 => Dp.bind ((sig_dp h s2).to e2) fun _ s3 e3 => Dp.bind ((h _ s3).to e3) fun _ s4 e4 => (Dp.put _ s4).to e4))
theorem bodyR_dp (f : Fn) (s : St) : Dp (bodyR X rec f s) s.deep := by
 cases f with
 | typ => exact typF_dp h s
 | block => exact blockF_dp h s
 | stmt => exact stmtF_dp h s
 | branch => exact branchF_dp h s
 | expr k => exact Dp.bind (h _ s) fun _ s1 e1 => (h _ s1).to e1
 | climb k a => exact climbF_dp h k a s
 | unary => exact unaryF_dp h s
 | part e => exact partF_dp h e s
 | typs acc => exact listL_dp (fun s => h .typ s) (fun a s => h (.typs a) s) acc s
 | params acc => exact listL_dp (fun s => named_dp h 7 s) (fun a s => h (.params a) s) acc s
 | exprs acc => exact listL_dp (fun s => h (.expr 0) s) (fun a s => h (.exprs a) s) acc s
 | stmts acc => exact itemsL_dp (fun s => h .stmt s) (fun a s => h (.stmts a) s) acc s
 | body acc => exact Dp.ite (Dp.ok _ _) (Dp.bind (h _ s) fun _ s1 e1 => Dp.ite ((Dp.ok _ _).to e1) (Dp.bind ((Dp.take X _ s1).to e1) fun _ s2 e2 => (h _ s2).to e2))
 | cases acc => exact Dp.ite (Dp.ok _ _) (Dp.bind (caseF_dp h s) fun _ s1 e1 => (h _ s1).to e1)
 | fields acc => exact itemsL_dp (fun s => named_dp h 9 s) (fun a s => h (.fields a) s) acc s
 | msigs acc => exact itemsL_dp (fun s => msig_dp h s) (fun a s => h (.msigs a) s) acc s
 | decls acc => exact Dp.ite (Dp.bind (declF_dp h s) fun _ s1 e1 => Dp.ite (Dp.bind ((Dp.take X _ s1).to e1) fun _ s2 e2 => (h _ s2).to e2) ((h _ s1).to e1)) (Dp.ok _ _)
end
theorem run_keep (X : Src) (n : Nat) : Keep (run X n) := by
 induction n with
 | zero => intro f s v s' h; cases h
 | succ n ih => exact fun f s => bodyR_dp ih f s
end Go.Proofs.YtjickecdkmljpaaGreatDoor.Ps
namespace Go.Proofs.YtjickecdkmljpaaGreatDoor.Ps
/-- Is the token an operator of this row? -/
def rowIs (X : Src) (s : St) (k : Nat) : Bool := anyK X s (opRows.getD k [])
def levT (t : List UInt8) : Nat :=
 if (opRows.getD 0 []).any (fun y => t == y) then 1 else if (opRows.getD 1 []).any (fun y => t == y) then 2 else if (opRows.getD 2 []).any (fun y => t == y) then 3 else if (opRows.getD 3 []).any (fun y => t == y) then 4 else if (opRows.getD 4 []).any (fun y => t == y) then 5 else 0
theorem isK_key {X : Src} {s : St} {x : List UInt8} (h : isK X s x = true) (y : List UInt8) : isK X s y = (x == y) := by
 unfold isK at h ⊢;rw [Bool.and_eq_true] at h;rw [eq_of_beq h.1, h.2, Bool.and_true]
theorem lev_key {X : Src} {s : St} {x : List UInt8} (h : isK X s x = true) : lev X s = levT x := by
 unfold lev anyK levT;simp only [isK_key h]
theorem lev_row {X : Src} {s : St} {k : Nat} (hk : k < 5) (h : rowIs X s k = true) : lev X s = k + 1 := by
 obtain ⟨x, hx, hi⟩ := List.any_eq_true.1 h;rw [lev_key hi];have key : ∀ k, k < 5 → ∀ x ∈ opRows.getD k [], levT x = k + 1 := by decide
 exact key k hk x hx
theorem row_lev {X : Src} {s : St} {k : Nat} (h : lev X s = k + 1) : rowIs X s k = true := by
 unfold lev at h
 split at h
 ·rename_i h1
  obtain rfl : k = 0 := by omega
  exact h1
 ·split at h
  ·rename_i h1
   obtain rfl : k = 1 := by omega
   exact h1
  ·split at h
   ·rename_i h1
    obtain rfl : k = 2 := by omega
    exact h1
   ·split at h
    ·rename_i h1
     obtain rfl : k = 3 := by omega
     exact h1
    ·split at h
     ·rename_i h1
      obtain rfl : k = 4 := by omega
      exact h1
     ·omega
theorem lev_le (X : Src) (s : St) : lev X s ≤ 5 := by
 cases h : lev X s with
 | zero => omega
 | succ k =>
  have h1 := row_lev h;refine Classical.byContradiction fun hn => ?_
  unfold rowIs at h1;rw [List.getD_eq_getElem?_getD, List.getElem?_eq_none (by simp [opRows]; omega)] at h1;simp [anyK] at h1
theorem bind_assoc (r : Res) (f g : List Nat → St → Res) : (r.bind f).bind g = r.bind fun v s => (f v s).bind g := by cases r <;> rfl
theorem lev_put {X : Src} {nd : Nd} {s s' : St} {v : List Nat} (h : put nd s = .ok v s') : lev X s' = lev X s := by
 unfold put at h
 split at h
 ·cases h; rfl
 ·cases h
theorem climb_end {X : Src} {n k a : Nat} {s s' : St} {v : List Nat} (h : run X n (.climb k a) s = .ok v s') : lev X s' ≤ k := by
 induction n generalizing a s with
 | zero => cases h
 | succ n ih =>
  have h0 : climbF X (run X n) k a s = .ok v s' := h;unfold climbF at h0
  split at h0
  ·cases h1 : run X n (.expr (lev X s)) (adv s) with
   | out => rw [h1] at h0; cases h0
   | bad c p => rw [h1] at h0; cases h0
   | ok v1 s1 =>
    rw [h1, bind_ok] at h0
    cases h2 : put ⟨46, (now X s).pos, 0, (now X s).text, a :: v1⟩ s1 with
    | out => rw [h2] at h0; cases h0
    | bad c p => rw [h2] at h0; cases h0
    | ok v2 s2 => rw [h2, bind_ok] at h0; exact ih h0
  ·cases h0; omega
theorem climb_on {X : Src} {n k a : Nat} {s : St} (h : k < lev X s) : run X (n + 1) (.climb k a) s = (run X n (.expr (lev X s)) (adv s)).bind fun b s1 => (put ⟨46, (now X s).pos, 0, (now X s).text, a :: b⟩ s1).bind fun e s2 => run X n (.climb k (e.getD 0 0)) s2 := by
 show climbF X (run X n) k a s = _
 unfold climbF;rw [if_pos h]
theorem climb_stop {X : Src} {n k a : Nat} {s : St} (h : ¬ k < lev X s) : run X (n + 1) (.climb k a) s = .ok [a] s := by
 show climbF X (run X n) k a s = _
 unfold climbF;rw [if_neg h]
theorem climb_split {X : Src} {k : Nat} (n a : Nat) (s : St) (hne : run X n (.climb k a) s ≠ .out) : run X n (.climb k a) s = (run X n (.climb (k + 1) a) s).bind fun e s1 => run X n (.climb k (e.getD 0 0)) s1 := by
 induction n generalizing a s with
 | zero => exact absurd rfl hne
 | succ n ih =>
  by_cases hl : k + 1 < lev X s
  ·rw [climb_on (show k < lev X s by omega)] at hne ⊢;rw [climb_on hl, bind_assoc]
   cases h1 : run X n (.expr (lev X s)) (adv s) with
   | out => rfl
   | bad c p => rfl
   | ok v1 s1 =>
    rw [h1, bind_ok] at hne;rw [bind_ok, bind_ok, bind_assoc]
    cases h2 : put ⟨46, (now X s).pos, 0, (now X s).text, a :: v1⟩ s1 with
    | out => rfl
    | bad c p => rfl
    | ok v2 s2 =>
     rw [h2, bind_ok] at hne;rw [bind_ok, bind_ok, ih _ _ hne];have hne2 := hne;rw [ih _ _ hne] at hne2
     cases h3 : run X n (.climb (k + 1) (v2.getD 0 0)) s2 with
     | out => rfl
     | bad c p => rfl
     | ok v3 s3 =>
      rw [h3, bind_ok] at hne2;exact (run_succ X n _ _ hne2).symm
  ·rw [climb_stop hl]
   rfl
theorem expr_is (X : Src) (n k : Nat) (s : St) : run X (n + 1) (.expr k) s = (run X n .unary s).bind fun e s1 => run X n (.climb k (e.getD 0 0)) s1 := rfl
theorem expr_split {X : Src} {k : Nat} (n : Nat) (s : St) (hne : run X (n + 1) (.expr k) s ≠ .out) : run X (n + 1) (.expr k) s = (run X (n + 1) (.expr (k + 1)) s).bind fun e s1 => run X n (.climb k (e.getD 0 0)) s1 := by
 rw [expr_is] at hne ⊢;rw [expr_is, bind_assoc]
 cases h : run X n .unary s with
 | out => rfl
 | bad c p => rfl
 | ok v s1 =>
  rw [h, bind_ok] at hne;exact climb_split _ _ _ hne
theorem expr_end {X : Src} {n k : Nat} {s s' : St} {v : List Nat} (h : run X (n + 1) (.expr k) s = .ok v s') : lev X s' ≤ k := by
 rw [expr_is] at h
 cases h1 : run X n .unary s with
 | out => rw [h1] at h; cases h
 | bad c p => rw [h1] at h; cases h
 | ok v1 s1 => rw [h1, bind_ok] at h; exact climb_end h
theorem expr_five (X : Src) (n : Nat) (s : St) : run X (n + 1) (.expr 5) s = run X n .unary s := by
 rw [expr_is]
 cases h : run X n .unary s with
 | out => rfl
 | bad c p => rfl
 | ok v s1 =>
  obtain ⟨a, rfl⟩ := run_ones X n .unary rfl s v s1 h
  cases n with
  | zero => cases h
  | succ n =>
   rw [bind_ok, climb_stop (by have := lev_le X s1; omega)]
   rfl
/-- The loop at a level, behind what the next level has read. -/
theorem climb_round {X : Src} {n k a : Nat} {s : St} (hk : k < 5) (h : rowIs X s k = true) : run X (n + 1) (.climb k a) s = (run X n (.expr (k + 1)) (adv s)).bind fun b s1 => (put ⟨46, (now X s).pos, 0, (now X s).text, a :: b⟩ s1).bind fun e s2 => run X n (.climb k (e.getD 0 0)) s2 := by
 have hl := lev_row hk h;rw [climb_on (by omega), hl]
theorem climb_over {X : Src} {n k a : Nat} {s : St} (h : rowIs X s k = false) (hl : lev X s ≤ k + 1) : run X (n + 1) (.climb k a) s = .ok [a] s := by
 refine climb_stop fun hn => ?_
 have h1 := row_lev (show lev X s = k + 1 by omega);rw [h] at h1
 cases h1
end Go.Proofs.YtjickecdkmljpaaGreatDoor.Ps
namespace Go.Proofs.YtjickecdkmljpaaGreatDoor.Ps
/-- From one state to another: how many tokens at least, and what is gained: two for a token, less one for a node. -/
structure Gn (X : Src) (s s' : St) (a : Nat) (b : Int) : Prop where
 i : s.i + a ≤ s'.i
 g : (s'.nodes.length : Int) + 2 * s.i + b ≤ s.nodes.length + 2 * s'.i
 le : s.i ≤ X.toks.length → s'.i ≤ X.toks.length
def Gr (X : Src) (r : Res) (s : St) (a : Nat) (b : Int) : Prop := ∀ v s', r = .ok v s' → Gn X s s' a b
section
variable {X : Src} {r : Res} {s s1 s2 : St} {a a1 a2 : Nat} {b b1 b2 : Int} {f : List Nat → St → Res}
theorem Gn.trans (h : Gn X s s1 a b) (h2 : Gn X s1 s2 a1 b1) : Gn X s s2 (a + a1) (b + b1) := ⟨by have := h.i; have := h2.i; omega, by have := h.g; have := h2.g; omega, fun h3 => h2.le (h.le h3)⟩
theorem Gn.to (h : Gn X s s1 a b) (ha : a1 ≤ a := by omega) (hb : b1 ≤ b := by omega) : Gn X s s1 a1 b1 := ⟨by have := h.i; omega, by have := h.g; omega, h.le⟩
theorem Gn.refl (X : Src) (s : St) : Gn X s s 0 0 := ⟨by omega, by omega, fun h => h⟩
theorem Gn.down (h : Gn X s s1 a b) : Gn X s (down s1) a b := ⟨h.i, h.g, h.le⟩
theorem Gn.dn (X : Src) (s : St) : Gn X s (Ps.down s) 0 0 := (Gn.refl X s).down
theorem Gr.to (h : Gr X r s a b) (ha : a1 ≤ a := by omega) (hb : b1 ≤ b := by omega) : Gr X r s a1 b1 := fun v s' e => (h v s' e).to ha hb
theorem Gr.bind (h : Gr X r s a b) (hf : ∀ v s1, Gn X s s1 a b → Gr X (f v s1) s1 a1 b1) : Gr X (r.bind f) s (a + a1) (b + b1) := by
 intro v s' he
 cases r with
 | out => cases he
 | bad c p => cases he
 | ok v1 s1 => exact (h v1 s1 rfl).trans (hf v1 s1 (h v1 s1 rfl) v s' he)
/-- Behind what has been gained already. -/
theorem Gr.from (h : Gr X r s1 a1 b1) (h0 : Gn X s s1 a b) : Gr X r s (a + a1) (b + b1) := fun v s' e => h0.trans (h v s' e)
theorem Gr.ite {c : Prop} [Decidable c] {x y : Res} (h1 : c → Gr X x s a b) (h2 : ¬ c → Gr X y s a b) : Gr X (if c then x else y) s a b := by
 split
 ·rename_i h; exact h1 h
 ·rename_i h; exact h2 h
theorem Gr.fail (c : Int) (s2 : St) : Gr X (Ps.fail X c s2) s a b := fun v s' h => by cases h
theorem Gr.ok (v : List Nat) (h : Gn X s s1 a b) : Gr X (.ok v s1) s a b := fun v' s' e => by cases e; exact h
theorem Gr.put (nd : Nd) : Gr X (put nd s) s 0 (-1) := by
 intro v s' h;unfold Ps.put at h
 split at h
 ·cases h
  exact ⟨by simp, by simp; omega, fun h => h⟩
 ·cases h
theorem key_lt {x : List UInt8} (h : isK X s x = true) : s.i < X.toks.length := by
 refine Classical.byContradiction fun hn => ?_
 unfold isK now noTok at h;rw [List.getD_eq_getElem?_getD, List.getElem?_eq_none (by omega)] at h;simp at h
theorem name_lt (h : isName X s = true) : s.i < X.toks.length := by
 refine Classical.byContradiction fun hn => ?_
 unfold isName now noTok at h;rw [List.getD_eq_getElem?_getD, List.getElem?_eq_none (by omega)] at h;simp at h
theorem num_lt (h : isNum X s = true) : s.i < X.toks.length := by
 refine Classical.byContradiction fun hn => ?_
 unfold isNum now noTok at h;rw [List.getD_eq_getElem?_getD, List.getElem?_eq_none (by omega)] at h;simp at h
theorem next_lt {x : List UInt8} (h : nextK X s x = true) : s.i + 1 < X.toks.length := by
 unfold nextK at h;rw [Bool.and_eq_true] at h;exact of_decide_eq_true h.1
theorem Gn.adv (h : s.i < X.toks.length) : Gn X s (adv s) 1 2 := ⟨Nat.le_refl _, by show ((s.nodes.length : Nat) : Int) + 2 * s.i + 2 ≤ s.nodes.length + 2 * ((s.i + 1 : Nat) : Int); omega, fun _ => h⟩
theorem Gn.adv2 (h : s.i + 1 < X.toks.length) : Gn X s (adv2 s) 2 4 := ⟨Nat.le_refl _, by show ((s.nodes.length : Nat) : Int) + 2 * s.i + 4 ≤ s.nodes.length + 2 * ((s.i + 2 : Nat) : Int); omega, fun _ => h⟩
theorem Gr.take (x : List UInt8) (s : St) : Gr X (take X x s) s 1 2 := Gr.ite (fun h => Gr.ok _ (Gn.adv (key_lt h))) (fun _ => Gr.fail _ _)
theorem Gr.name (s : St) : Gr X (name X s) s 1 2 := Gr.ite (fun h => Gr.ok _ (Gn.adv (name_lt h))) (fun _ => Gr.fail _ _)
theorem Gr.enter (x : List UInt8) (s : St) : Gr X (enter X x s) s 1 2 := Gr.ite (fun _ => Gr.fail _ _) (fun _ => Gr.to (Gr.bind (Gr.take x s) (a1 := 0) (b1 := 0) fun v s1 _ => Gr.ok (s1 := up s1) v ⟨by show s1.i + 0 ≤ s1.i; omega, by show ((s1.nodes.length : Nat) : Int) + 2 * s1.i + 0 ≤ s1.nodes.length + 2 * s1.i; omega, fun h => h⟩))
theorem Gr.leave (x : List UInt8) (s : St) : Gr X (leave X x s) s 1 2 := Gr.to (Gr.bind (Gr.take x s) (a1 := 0) (b1 := 0) fun v s1 _ => Gr.ok _ (Gn.dn X s1))
end
/-- What each function that calls itself takes and gains at least. -/
def needA : Fn → Nat
 | .typ => 1
 | .block => 1
 | .stmt => 1
 | .branch => 1
 | .expr _ => 1
 | .unary => 1
 | _ => 0
def needB : Fn → Int
 | .typ => 1
 | .block => 1
 | .branch => 1
 | .expr _ => 1
 | .unary => 1
 | _ => 0
def Grow (X : Src) (rec : Rec) : Prop := ∀ f s, Gr X (rec f s) s (needA f) (needB f)
section
variable {X : Src} {rec : Rec} (h : Grow X rec)
include h in
theorem gT (s : St) : Gr X (rec .typ s) s 1 1 := h .typ s
include h in
theorem gX (k : Nat) (s : St) : Gr X (rec (.expr k) s) s 1 1 := h (.expr k) s
include h in
theorem gB (s : St) : Gr X (rec .block s) s 1 1 := h .block s
include h in
theorem gBr (s : St) : Gr X (rec .branch s) s 1 1 := h .branch s
include h in
theorem gS (s : St) : Gr X (rec .stmt s) s 1 0 := h .stmt s
include h in
theorem gU (s : St) : Gr X (rec .unary s) s 1 1 := h .unary s
include h in
theorem gL (f : Fn) (s : St) (ha : needA f = 0 := by rfl) (hb : needB f = 0 := by rfl) : Gr X (rec f s) s 0 0 := by
 have h1 := h f s
 rwa [ha, hb] at h1
theorem list_gr {l : St → Res} (hl : ∀ s, Gr X (l s) s 0 0) (s : St) : Gr X (list X l s) s 2 4 :=
 Gr.to (Gr.bind (Gr.enter _ s) fun _ s1 _ => Gr.bind (hl s1) fun _ s2 _ => Gr.bind (Gr.leave _ s2) fun v s3 _ => Gr.ok (a := 0) (b := 0) _ (Gn.refl X s3))
theorem items_gr {l : St → Res} (hl : ∀ s, Gr X (l s) s 0 0) (s : St) : Gr X (items X l s) s 2 4 :=
 Gr.to (Gr.bind (Gr.enter _ s) fun _ s1 _ => Gr.bind (hl s1) fun _ s2 _ => Gr.bind (Gr.leave _ s2) fun v s3 _ => Gr.ok (a := 0) (b := 0) _ (Gn.refl X s3))
theorem listL_gr {o : St → Res} {g : List Nat → St → Res} (ho : ∀ s, Gr X (o s) s 1 0) (hg : ∀ a s, Gr X (g a s) s 0 0) (acc : List Nat) (s : St) : Gr X (listL X o g acc s) s 0 0 :=
 Gr.ite (fun _ => Gr.ok _ (Gn.refl X s)) fun _ => Gr.to (Gr.bind (ho s) (a1 := 0) (b1 := 0) fun _ s1 _ => Gr.ite (fun _ => Gr.ok _ (Gn.refl X s1)) fun _ => Gr.to (Gr.bind (Gr.take _ s1) (a1 := 0) (b1 := 0) fun _ s2 _ => Gr.ite (fun _ => Gr.fail _ _) fun _ => hg _ s2))
theorem itemsL_gr {o : St → Res} {g : List Nat → St → Res} (ho : ∀ s, Gr X (o s) s 1 0) (hg : ∀ a s, Gr X (g a s) s 0 0) (acc : List Nat) (s : St) : Gr X (itemsL X o g acc s) s 0 0 :=
 Gr.ite (fun _ => Gr.ok _ (Gn.refl X s)) fun _ => Gr.to (Gr.bind (ho s) (a1 := 0) (b1 := 0) fun _ s1 _ => Gr.ite (fun _ => Gr.ok _ (Gn.refl X s1)) fun _ => Gr.to (Gr.bind (Gr.take _ s1) (a1 := 0) (b1 := 0) fun _ s2 _ => hg _ s2))
theorem pointer_gr (s : St) : Gr X (pointer X s) s 2 3 := Gr.to (Gr.bind (Gr.take _ s) fun _ s1 _ => Gr.bind (Gr.name s1) fun _ s2 _ => Gr.put _)
include h
theorem named_gr (kind : Int) (s : St) : Gr X (named X rec kind s) s 2 2 := Gr.to (Gr.bind (Gr.name s) fun _ s1 _ => Gr.bind (gT h s1) fun _ s2 _ => Gr.put _)
theorem result_gr (kind : Int) (at_ : Nat) (l : List Nat) (s : St) (fin : St → St) (hf : ∀ s' : St, Gn X s' (fin s') 0 0) : Gr X (result X rec kind at_ l s fin) s 0 (-1) :=
 Gr.ite (fun _ => Gr.to (Gr.bind (gT h s) (a1 := 0) (b1 := -1) fun _ s1 _ => Gr.to (Gr.from (Gr.put (X := X) (s := fin s1) _) (hf s1)))) fun _ => Gr.to (Gr.from (Gr.put (X := X) (s := fin s) _) (hf s))
theorem sig_gr (s : St) : Gr X (sig X rec s) s 2 3 := Gr.to (Gr.bind (list_gr (fun s => gL h (.params []) s) s) fun _ s1 _ => result_gr h _ _ _ s1 id (fun s' => Gn.refl X s'))
theorem typF_gr (s : St) : Gr X (typF X rec s) s 1 1 :=
 Gr.ite (fun e => Gr.to (Gr.from (Gr.put _) (Gn.adv (key_lt e)))) fun _ => Gr.ite (fun e => Gr.to (Gr.from (Gr.put _) (Gn.adv (key_lt e)))) fun _ => Gr.ite (fun _ => Gr.to (pointer_gr s)) fun _ =>
  Gr.ite (fun _ => Gr.to (Gr.bind (Gr.enter _ s) fun _ s1 _ => Gr.bind (gT h s1) (a1 := 0) (b1 := -1) fun _ s2 _ => Gr.to (Gr.from (Gr.put (X := X) (s := down s2) _) (Gn.dn X s2)))) fun _ =>
  Gr.ite (fun _ => Gr.to (Gr.bind (Gr.enter _ s) fun _ s1 _ => Gr.bind (list_gr (fun s => gL h (.typs []) s) s1) fun _ s2 _ => result_gr h _ _ _ s2 down (fun s' => Gn.dn X s'))) fun _ =>
  Gr.to (Gr.bind (Gr.name s) fun _ s1 _ => Gr.put _)
theorem blockF_gr (s : St) : Gr X (blockF X rec s) s 1 1 := Gr.to (Gr.bind (items_gr (fun s => gL h (.stmts []) s) s) fun _ s1 _ => Gr.put _)
theorem bracketed_gr (kind : Int) (at_ : Nat) (s : St) : Gr X (bracketed X rec kind at_ s) s 2 3 :=
 Gr.to (Gr.bind (Gr.enter _ s) fun _ s1 _ => Gr.bind (gX h 0 s1) fun _ s2 _ => Gr.bind (Gr.leave _ s2) fun _ s3 _ => Gr.put _)
theorem bodyF_gr (s : St) : Gr X (bodyF X rec s) s 1 1 := Gr.to (Gr.bind (Gr.take _ s) fun _ s1 _ => Gr.bind (gL h (.body []) s1) fun _ s2 _ => Gr.put _)
theorem caseF_gr (s : St) : Gr X (caseF X rec s) s 1 0 :=
 Gr.ite (fun e => Gr.to (Gr.from (Gr.bind (bodyF_gr h (adv s)) fun _ s1 _ => Gr.put _) (Gn.adv (key_lt e)))) fun _ =>
  Gr.to (Gr.bind (Gr.take _ s) (a1 := 0) (b1 := 0) fun _ s1 _ =>
   Gr.ite (fun e => Gr.to (Gr.from (Gr.bind (Gr.take _ (adv2 s1)) fun _ s2 _ => Gr.bind (gX h 0 s2) fun _ s3 _ => Gr.bind (bodyF_gr h s3) fun _ s4 _ => Gr.put _) (Gn.adv2 (next_lt e.2)))) fun _ =>
   Gr.ite (fun e => Gr.to (Gr.from (Gr.bind (gX h 0 (adv s1)) fun _ s3 _ => Gr.bind (bodyF_gr h s3) fun _ s4 _ => Gr.put _) (Gn.adv (key_lt e)))) fun _ =>
   Gr.to (Gr.bind (gX h 0 s1) fun _ s2 _ => Gr.bind (Gr.take _ s2) fun _ s3 _ => Gr.bind (gX h 0 s3) fun _ s4 _ => Gr.bind (bodyF_gr h s4) fun _ s5 _ => Gr.put _))
theorem choice_gr (at_ : Nat) (s : St) : Gr X (choice X rec at_ s) s 2 3 := Gr.to (Gr.bind (Gr.enter _ s) fun _ s1 _ => Gr.bind (gL h (.cases []) s1) fun _ s2 _ => Gr.bind (Gr.leave _ s2) fun _ s3 _ => Gr.put _)
theorem branchF_gr (s : St) : Gr X (branchF X rec s) s 1 1 :=
 Gr.to (Gr.bind (Gr.take _ s) fun _ s1 _ => Gr.bind (gX h 0 s1) fun _ s2 _ => Gr.bind (gB h s2) (a1 := 0) (b1 := -1) fun _ s3 _ =>
  Gr.ite (fun e => Gr.ite (fun _ => Gr.to (Gr.bind (Gr.enter _ s3) fun _ s4 _ => Gr.bind (gBr h s4) (a1 := 0) (b1 := -1) fun _ s5 _ => Gr.to (Gr.from (Gr.put (X := X) (s := down s5) _) (Gn.dn X s5))))
   fun _ => Gr.to (Gr.from (Gr.bind (gB h (adv s3)) fun _ s5 _ => Gr.put _) (Gn.adv (key_lt e)))) fun _ => Gr.put _)
theorem stmtF_gr (s : St) : Gr X (stmtF X rec s) s 1 0 := by
 have hx : ∀ s1, Gr X (rec (.expr 0) s1) s1 1 1 := fun s1 => gX h 0 s1
 have hb : ∀ s1, Gr X (rec .block s1) s1 1 1 := fun s1 => gB h s1
 unfold stmtF;refine Gr.ite (fun e => Gr.to (Gr.from (Gr.bind (hx _) fun _ s1 _ => Gr.put _) (Gn.adv (key_lt e)))) fun _ => ?_
 refine Gr.ite (fun e => Gr.to (Gr.from (bracketed_gr h _ _ _) (Gn.adv (key_lt e)))) fun _ => ?_
 refine Gr.ite (fun e => Gr.to (Gr.from (bracketed_gr h _ _ _) (Gn.adv (key_lt e)))) fun _ => ?_
 refine Gr.ite (fun e => Gr.to (Gr.from (bracketed_gr h _ _ _) (Gn.adv (key_lt e)))) fun _ => ?_
 refine Gr.ite (fun _ => Gr.to (gBr h s)) fun _ => ?_
 refine Gr.ite (fun e => Gr.to (Gr.from (Gr.bind (hx _) fun _ s1 _ => Gr.bind (hb s1) fun _ s2 _ => Gr.put _) (Gn.adv (key_lt e)))) fun _ => ?_
 refine Gr.ite (fun e => Gr.ite (fun _ => Gr.to (Gr.from (Gr.put _) (Gn.adv (key_lt e)))) fun _ => Gr.to (Gr.from (Gr.bind (hx _) fun _ s1 _ => Gr.put _) (Gn.adv (key_lt e)))) fun _ => ?_
 refine Gr.ite (fun e => Gr.to (Gr.from (Gr.put _) (Gn.adv (key_lt e)))) fun _ => ?_
 refine Gr.ite (fun e => Gr.to (Gr.from (choice_gr h _ _) (Gn.adv (key_lt e)))) fun _ => ?_
 refine Gr.ite (fun e => Gr.to (Gr.from (Gr.bind (hx _) fun _ s1 _ => Gr.put _) (Gn.adv2 (next_lt e.2)))) fun _ => ?_
 refine Gr.to (Gr.bind (hx s) (a1 := 0) (b1 := -1) fun _ s1 _ => ?_);refine Gr.ite (fun e => Gr.to (Gr.from (Gr.bind (hx _) fun _ s1 _ => Gr.put _) (Gn.adv (key_lt e)))) fun _ => ?_
 exact Gr.ite (fun e => Gr.to (Gr.from (Gr.bind (hx _) fun _ s1 _ => Gr.put _) (Gn.adv (key_lt e)))) fun _ => Gr.put _
omit h in
theorem lev_lt {k : Nat} {s : St} (hk : k < lev X s) : s.i < X.toks.length := by
 have h1 := row_lev (X := X) (s := s) (k := lev X s - 1) (by omega);obtain ⟨x, hx, hi⟩ := List.any_eq_true.1 h1;exact key_lt hi
theorem climbF_gr (k a : Nat) (s : St) : Gr X (climbF X rec k a s) s 0 0 :=
 Gr.ite (fun e => Gr.to (Gr.from (Gr.bind (gX h _ _) fun _ s1 _ => Gr.bind (Gr.put _) fun _ s2 _ => gL h (.climb _ _) s2) (Gn.adv (lev_lt e)))) fun _ => Gr.ok _ (Gn.refl X s)
theorem made_gr (at_ : Nat) (s : St) : Gr X (made X rec at_ s) s 1 1 :=
 Gr.to (Gr.bind (Gr.enter _ s) fun _ s1 _ => Gr.bind (Gr.enter _ s1) fun _ s2 _ => Gr.bind (gT h s2) (a1 := 0) (b1 := -1) fun _ s3 _ =>
  Gr.ite (fun e => Gr.ite (fun e2 => Gr.to (Gr.from (Gr.bind (Gr.leave _ _) fun _ s5 _ => Gr.put _) ((Gn.dn X s3).trans ((Gn.adv (key_lt e)).trans (Gn.adv (num_lt e2)))))) fun _ => Gr.fail _ _)
   fun _ => Gr.to (Gr.from (Gr.bind (Gr.leave _ _) fun _ s5 _ => Gr.put _) (Gn.dn X s3)))
theorem firstF_gr (s : St) : Gr X (firstF X rec s) s 1 1 := by
 have hx : ∀ s1, Gr X (rec (.expr 0) s1) s1 1 1 := fun s1 => gX h 0 s1
 have hb : ∀ s1, Gr X (rec .block s1) s1 1 1 := fun s1 => gB h s1
 unfold firstF;refine Gr.ite (fun e => Gr.to (Gr.from (Gr.put _) (Gn.adv (num_lt e)))) fun _ => ?_
 refine Gr.ite (fun e => Gr.to (Gr.from (Gr.put _) (Gn.adv (key_lt e)))) fun _ => ?_
 refine Gr.ite (fun e => Gr.to (Gr.from (Gr.put _) (Gn.adv (key_lt e)))) fun _ => ?_
 refine Gr.ite (fun e => Gr.to (Gr.from (Gr.put _) (Gn.adv (key_lt e)))) fun _ => ?_
 refine Gr.ite (fun e => Gr.to (Gr.from (Gr.bind (sig_gr h _) fun _ s1 _ => Gr.bind (hb s1) fun _ s2 _ => Gr.put _) (Gn.adv (key_lt e)))) fun _ => ?_
 refine Gr.ite (fun e => Gr.to (Gr.from (Gr.bind (Gr.enter _ _) fun _ s1 _ => Gr.bind (Gr.name s1) fun _ s2 _ => Gr.bind (Gr.leave _ s2) fun _ s3 _ => Gr.put _) (Gn.adv (key_lt e)))) fun _ => ?_
 refine Gr.ite (fun e => Gr.to (Gr.from (made_gr h _ _) (Gn.adv (key_lt e)))) fun _ => ?_
 refine Gr.ite (fun _ => Gr.to (Gr.bind (Gr.enter _ _) fun _ s1 _ => Gr.bind (hx s1) fun _ s2 _ => Gr.bind (Gr.leave _ s2) fun _ s3 _ => Gr.ok (a := 0) (b := 0) _ (Gn.refl X s3))) fun _ => ?_
 exact Gr.to (Gr.bind (Gr.name s) fun _ s1 _ => Gr.put _)
theorem prefixed_gr (x : List UInt8) (kind : Int) (s : St) : Gr X (prefixed X rec x kind s) s 1 1 := Gr.to (Gr.bind (Gr.enter _ s) fun _ s1 _ => Gr.bind (gU h s1) (a1 := 0) (b1 := -1) fun _ s2 _ => Gr.to (Gr.from (Gr.put (X := X) (s := down s2) _) (Gn.dn X s2)))
theorem unaryF_gr (s : St) : Gr X (unaryF X rec s) s 1 1 := Gr.ite (fun _ => prefixed_gr h _ _ s) fun _ => Gr.ite (fun _ => prefixed_gr h _ _ s) fun _ => Gr.ite (fun _ => prefixed_gr h _ _ s) fun _ => Gr.to (Gr.bind (firstF_gr h s) fun _ s1 _ => gL h (.part _) s1)
theorem partF_gr (e : Nat) (s : St) : Gr X (partF X rec e s) s 0 0 :=
 Gr.ite (fun _ => Gr.to (Gr.bind (list_gr (fun s => gL h (.exprs []) s) s) fun _ s1 _ => Gr.bind (Gr.put _) fun _ s2 _ => gL h (.part _) s2)) fun _ =>
  Gr.ite (fun e => Gr.ite (fun _ => Gr.to (Gr.from (Gr.bind (Gr.enter _ _) fun _ s1 _ => Gr.bind (gT h s1) fun _ s2 _ => Gr.bind (Gr.leave _ s2) fun _ s3 _ => Gr.bind (Gr.put _) fun _ s4 _ => gL h (.part _) s4) (Gn.adv (key_lt e))))
   fun _ => Gr.to (Gr.from (Gr.bind (Gr.name _) fun _ s1 _ => Gr.bind (Gr.put _) fun _ s2 _ => gL h (.part _) s2) (Gn.adv (key_lt e)))) fun _ => Gr.ok _ (Gn.refl X s)
theorem msig_gr (s : St) : Gr X (msig X rec s) s 1 1 := Gr.to (Gr.bind (Gr.name s) fun _ s1 _ => Gr.bind (sig_gr h s1) fun _ s2 _ => Gr.put _)
theorem typed_gr (at_ : Nat) (s : St) : Gr X (typed X rec at_ s) s 1 1 :=
 Gr.to (Gr.bind (Gr.name s) (a1 := 0) (b1 := -1) fun _ s1 _ => Gr.ite (fun e => Gr.to (Gr.from (Gr.bind (items_gr (fun s => gL h (.fields []) s) (adv s1)) fun _ s2 _ => Gr.put _) (Gn.adv (key_lt e)))) fun _ => Gr.to (Gr.bind (Gr.take _ s1) fun _ s2 _ => Gr.bind (items_gr (fun s => gL h (.msigs []) s) s2) fun _ s3 _ => Gr.put _))
theorem method_gr (at_ : Nat) (s : St) : Gr X (method X rec at_ s) s 1 1 :=
 Gr.to (Gr.bind (Gr.enter _ s) fun _ s1 _ => Gr.bind (Gr.name s1) fun _ s2 _ => Gr.bind (pointer_gr s2) fun _ s3 _ => Gr.bind (Gr.leave _ s3) fun _ s4 _ => Gr.bind (Gr.put _) fun _ s5 _ => Gr.bind (Gr.name s5) fun _ s6 _ => Gr.bind (sig_gr h s6) fun _ s7 _ => Gr.bind (gB h s7) fun _ s8 _ => Gr.put _)
theorem declF_gr (s : St) : Gr X (declF X rec s) s 1 0 :=
 Gr.ite (fun e => Gr.to (Gr.from (typed_gr h _ (adv s)) (Gn.adv (key_lt e)))) fun _ => Gr.to (Gr.bind (Gr.take _ s) (a1 := 0) (b1 := 0) fun _ s1 _ => Gr.ite (fun _ => Gr.to (method_gr h _ s1)) fun _ => Gr.to (Gr.bind (Gr.name s1) fun _ s2 _ => Gr.bind (sig_gr h s2) fun _ s3 _ => Gr.bind (gB h s3) fun _ s4 _ => Gr.put _))
theorem bodyR_gr (f : Fn) (s : St) : Gr X (bodyR X rec f s) s (needA f) (needB f) := by
 have hx : ∀ s1, Gr X (rec (.expr 0) s1) s1 1 1 := fun s1 => gX h 0 s1
 cases f with
 | typ => exact typF_gr h s
 | block => exact blockF_gr h s
 | stmt => exact stmtF_gr h s
 | branch => exact branchF_gr h s
 | expr k =>
  show Gr X _ s 1 1
  exact Gr.to (Gr.bind (gU h s) fun _ s1 _ => gL h (.climb _ _) s1)
 | climb k a => exact climbF_gr h k a s
 | unary => exact unaryF_gr h s
 | part e => exact partF_gr h e s
 | typs acc => exact listL_gr (fun s => Gr.to (gT h s)) (fun a s => gL h (.typs a) s) acc s
 | params acc => exact listL_gr (fun s => Gr.to (named_gr h 7 s)) (fun a s => gL h (.params a) s) acc s
 | exprs acc => exact listL_gr (fun s => Gr.to (hx s)) (fun a s => gL h (.exprs a) s) acc s
 | stmts acc => exact itemsL_gr (fun s => gS h s) (fun a s => gL h (.stmts a) s) acc s
 | body acc =>
  show Gr X _ s 0 0
  exact Gr.ite (fun _ => Gr.ok _ (Gn.refl X s)) fun _ => Gr.to (Gr.bind (gS h s) (a1 := 0) (b1 := 0) fun _ s1 _ => Gr.ite (fun _ => Gr.ok _ (Gn.refl X s1)) fun _ => Gr.to (Gr.bind (Gr.take _ s1) fun _ s2 _ => gL h (.body _) s2))
 | cases acc =>
  show Gr X _ s 0 0
  exact Gr.ite (fun _ => Gr.ok _ (Gn.refl X s)) fun _ => Gr.to (Gr.bind (caseF_gr h s) fun _ s1 _ => gL h (.cases _) s1)
 | fields acc => exact itemsL_gr (fun s => Gr.to (named_gr h 9 s)) (fun a s => gL h (.fields a) s) acc s
 | msigs acc => exact itemsL_gr (fun s => Gr.to (msig_gr h s)) (fun a s => gL h (.msigs a) s) acc s
 | decls acc =>
  show Gr X _ s 0 0
  exact Gr.ite (fun _ => Gr.to (Gr.bind (declF_gr h s) (a1 := 0) (b1 := 0) fun _ s1 _ => Gr.ite (fun _ => Gr.to (Gr.bind (Gr.take _ s1) fun _ s2 _ => gL h (.decls _) s2)) fun _ => gL h (.decls _) s1)) fun _ => Gr.ok _ (Gn.refl X s)
end
theorem run_grow (X : Src) (n : Nat) : Grow X (run X n) := by
 induction n with
 | zero => intro f s v s' h; cases h
 | succ n ih => exact fun f s => bodyR_gr ih f s
end Go.Proofs.YtjickecdkmljpaaGreatDoor.Ps
namespace Go.Proofs.YtjickecdkmljpaaGreatDoor.Ps
def rank : Fn → Nat
 | .stmt => 2
 | .expr _ => 1
 | .exprs _ => 2
 | .typs _ => 1
 | .stmts _ => 3
 | .body _ => 3
 | _ => 0
theorem rank_le (f : Fn) : rank f ≤ 3 := by cases f <;> simp [rank]
/-- There is room for nodes. -/
structure Qs (X : Src) (s : St) : Prop where
 le : s.i ≤ X.toks.length
 few : s.nodes.length ≤ 2 * s.i
/-- What a function that begins at a state may count on. -/
structure Cx (X : Src) (rec : Rec) (n : Nat) (s0 : St) : Prop where
 ih : ∀ f s, Qs X s → 4 * (X.toks.length - s.i) + rank f < n → rec f s ≠ .out
 gr : Grow X rec
 few : X.toks.length ≤ 12001
 q : Qs X s0
 n : 4 * (X.toks.length - s0.i) ≤ n
theorem take_nt (X : Src) (x : List UInt8) (s : St) : take X x s ≠ .out := by unfold take fail; split <;> simp
theorem name_nt (X : Src) (s : St) : name X s ≠ .out := by unfold name fail; split <;> simp
theorem ok_nt (v : List Nat) (s : St) : Res.ok v s ≠ .out := by simp
theorem bind_nt {r : Res} {f : List Nat → St → Res} (hr : r ≠ .out) (hf : ∀ v s, f v s ≠ .out) : r.bind f ≠ .out := by
 cases r with
 | out => exact absurd rfl hr
 | bad c p => simp [Res.bind]
 | ok v s => exact hf v s
theorem enter_nt (X : Src) (x : List UInt8) (s : St) : enter X x s ≠ .out := by
 unfold enter
 split
 ·simp [fail]
 ·exact bind_nt (take_nt _ _ _) fun _ _ => ok_nt _ _
theorem leave_nt (X : Src) (x : List UInt8) (s : St) : leave X x s ≠ .out := bind_nt (take_nt _ _ _) fun _ _ => ok_nt _ _
theorem fail_nt (X : Src) (c : Int) (s : St) : fail X c s ≠ .out := by simp [fail]
theorem ite_nt {c : Prop} [Decidable c] {x y : Res} (h1 : c → x ≠ .out) (h2 : ¬ c → y ≠ .out) : (if c then x else y) ≠ .out := by
 split
 ·rename_i h; exact h1 h
 ·rename_i h; exact h2 h
section
variable {X : Src} {rec : Rec} {n : Nat} {s0 s s1 : St} {r : Res} {f : List Nat → St → Res} {a a0 : Nat} {b b0 : Int}
theorem Nt.bind (h0 : Gn X s0 s a0 b0) (hr : r ≠ .out) (g : Gr X r s a b) (hf : ∀ v s1, Gn X s0 s1 (a0 + a) (b0 + b) → f v s1 ≠ .out) : r.bind f ≠ .out := by
 cases r with
 | out => exact absurd rfl hr
 | bad c p => simp [Res.bind]
 | ok v s1 => exact hf v s1 (h0.trans (g v s1 rfl))
theorem Cx.go (c : Cx X rec n s0) (h : Gn X s0 s1 a b) (f : Fn) (ha : 1 ≤ a := by omega) (hb : 0 ≤ b := by omega) : rec f s1 ≠ .out := by
 have h1 := h.i;have h2 := h.g;have h3 := h.le c.q.le;have h4 := c.q.few;have h5 := c.n;have h6 := rank_le f;exact c.ih f s1 ⟨h3, by omega⟩ (by omega)
theorem Cx.put (c : Cx X rec n s0) (h : Gn X s0 s1 a b) {nd : Nd} (hb : -1 ≤ b := by omega) : put nd s1 ≠ .out := by
 have h2 := h.g;have h3 := h.le c.q.le;have h4 := c.q.few;have h5 := c.few;unfold Ps.put;rw [if_pos (by omega)];simp
theorem Cx.typ (c : Cx X rec n s0) (s : St) : Gr X (rec .typ s) s 1 1 := c.gr .typ s
theorem Cx.x (c : Cx X rec n s0) (s : St) (k : Nat := 0) : Gr X (rec (.expr k) s) s 1 1 := c.gr (.expr k) s
theorem Cx.blk (c : Cx X rec n s0) (s : St) : Gr X (rec .block s) s 1 1 := c.gr .block s
theorem Cx.st (c : Cx X rec n s0) (s : St) : Gr X (rec .stmt s) s 1 0 := c.gr .stmt s
theorem list_nt {l : St → Res} (h0 : Gn X s0 s a0 b0) (hl : ∀ s1, Gn X s0 s1 (a0 + 1) (b0 + 2) → l s1 ≠ .out) (gl : ∀ s, Gr X (l s) s 0 0) : list X l s ≠ .out :=
 Nt.bind h0 (enter_nt _ _ _) (Gr.enter _ s) fun _ s1 h1 => Nt.bind h1 (hl s1 h1) (gl s1) fun _ _s2 _ => bind_nt (leave_nt _ _ _) fun _ _ => ok_nt _ _
theorem items_nt {l : St → Res} (h0 : Gn X s0 s a0 b0) (hl : ∀ s1, Gn X s0 s1 (a0 + 1) (b0 + 2) → l s1 ≠ .out) (gl : ∀ s, Gr X (l s) s 0 0) : items X l s ≠ .out :=
 Nt.bind h0 (enter_nt _ _ _) (Gr.enter _ s) fun _ s1 h1 => Nt.bind h1 (hl s1 h1) (gl s1) fun _ _s2 _ => bind_nt (leave_nt _ _ _) fun _ _ => ok_nt _ _
theorem listL_nt {o : St → Res} {g : List Nat → St → Res} (ho : o s ≠ .out) (go : Gr X (o s) s 1 0) (hg : ∀ a s1, Gn X s s1 2 0 → g a s1 ≠ .out) (acc : List Nat) : listL X o g acc s ≠ .out :=
 ite_nt (fun _ => ok_nt _ _) fun _ => Nt.bind (Gn.refl X s) ho go fun _ s1 h1 => ite_nt (fun _ => ok_nt _ _) fun _ => Nt.bind h1 (take_nt _ _ _) (Gr.take _ s1) fun _ s2 h2 => ite_nt (fun _ => fail_nt _ _ _) fun _ => hg _ s2 h2.to
theorem itemsL_nt {o : St → Res} {g : List Nat → St → Res} (ho : o s ≠ .out) (go : Gr X (o s) s 1 0) (hg : ∀ a s1, Gn X s s1 2 0 → g a s1 ≠ .out) (acc : List Nat) : itemsL X o g acc s ≠ .out :=
 ite_nt (fun _ => ok_nt _ _) fun _ => Nt.bind (Gn.refl X s) ho go fun _ s1 h1 => ite_nt (fun _ => ok_nt _ _) fun _ => Nt.bind h1 (take_nt _ _ _) (Gr.take _ s1) fun _ s2 h2 => hg _ s2 h2.to
theorem pointer_nt (c : Cx X rec n s0) (h0 : Gn X s0 s a0 b0) (hb : 0 ≤ b0 := by omega) : pointer X s ≠ .out :=
 Nt.bind h0 (take_nt _ _ _) (Gr.take _ s) fun _ s1 h1 => Nt.bind h1 (name_nt _ _) (Gr.name s1) fun _ s2 h2 => c.put h2
theorem named_nt (c : Cx X rec n s) (kind : Int) : named X rec kind s ≠ .out :=
 Nt.bind (Gn.refl X s) (name_nt _ _) (Gr.name s) fun _ s1 h1 => Nt.bind h1 (c.go h1 .typ) (c.typ s1) fun _ s2 h2 => c.put h2
theorem result_nt (c : Cx X rec n s0) (h0 : Gn X s0 s a0 b0) (ha : 1 ≤ a0) (hb : 0 ≤ b0) (kind : Int) (at_ : Nat) (l : List Nat) (fin : St → St) (hf : ∀ s' : St, Gn X s' (fin s') 0 0) : result X rec kind at_ l s fin ≠ .out :=
 ite_nt (fun _ => Nt.bind h0 (c.go h0 .typ) (c.typ s) fun _ s1 h1 => c.put (h1.trans (hf s1))) fun _ => c.put (h0.trans (hf s))
theorem sig_nt (c : Cx X rec n s0) (h0 : Gn X s0 s a0 b0) (hb : 0 ≤ b0 := by omega) : sig X rec s ≠ .out :=
 Nt.bind h0 (list_nt h0 (fun s1 h1 => c.go h1 _) (fun s => c.gr (.params []) s)) (list_gr (fun s => c.gr (.params []) s) s) fun _ s1 h1 => result_nt c h1 (by omega) (by omega) _ _ _ id (fun s' => Gn.refl X s')
theorem typF_nt (c : Cx X rec n s) : typF X rec s ≠ .out :=
 ite_nt (fun e => c.put (Gn.adv (key_lt e))) fun _ => ite_nt (fun e => c.put (Gn.adv (key_lt e))) fun _ => ite_nt (fun _ => pointer_nt c (Gn.refl X s)) fun _ =>
  ite_nt (fun _ => Nt.bind (Gn.refl X s) (enter_nt _ _ _) (Gr.enter _ s) fun _ s1 h1 => Nt.bind h1 (c.go h1 .typ) (c.typ s1) fun _ s2 h2 => c.put h2.down) fun _ =>
  ite_nt (fun _ => Nt.bind (Gn.refl X s) (enter_nt _ _ _) (Gr.enter _ s) fun _ s1 h1 => Nt.bind h1 (list_nt h1 (fun s1 h1 => c.go h1 _) (fun s => c.gr (.typs []) s)) (list_gr (fun s => c.gr (.typs []) s) s1) fun _ s2 h2 => result_nt c h2 (by omega) (by omega) _ _ _ down (fun s' => Gn.dn X s')) fun _ =>
  Nt.bind (Gn.refl X s) (name_nt _ _) (Gr.name s) fun _ s1 h1 => c.put h1
theorem blockF_nt (c : Cx X rec n s) : blockF X rec s ≠ .out :=
 Nt.bind (Gn.refl X s) (items_nt (Gn.refl X s) (fun s1 h1 => c.go h1 _) (fun s => c.gr (.stmts []) s)) (items_gr (fun s => c.gr (.stmts []) s) s) fun _ s1 h1 => c.put h1
theorem bracketed_nt (c : Cx X rec n s0) (h0 : Gn X s0 s a0 b0) (kind : Int) (at_ : Nat) (hb : 0 ≤ b0 := by omega) : bracketed X rec kind at_ s ≠ .out :=
 Nt.bind h0 (enter_nt _ _ _) (Gr.enter _ s) fun _ s1 h1 => Nt.bind h1 (c.go h1 (.expr 0)) (c.x s1) fun _ s2 h2 => Nt.bind h2 (leave_nt _ _ _) (Gr.leave _ s2) fun _ s3 h3 => c.put h3
theorem bodyF_nt (c : Cx X rec n s0) (h0 : Gn X s0 s a0 b0) (hb : 0 ≤ b0 := by omega) : bodyF X rec s ≠ .out :=
 Nt.bind h0 (take_nt _ _ _) (Gr.take _ s) fun _ s1 h1 => Nt.bind h1 (c.go h1 (.body [])) (show Gr X _ s1 0 0 from c.gr (.body []) s1) fun _ s2 h2 => c.put h2
theorem caseF_nt (c : Cx X rec n s) : caseF X rec s ≠ .out :=
 ite_nt (fun e => Nt.bind (Gn.adv (key_lt e)) (bodyF_nt c (Gn.adv (key_lt e))) (bodyF_gr c.gr (adv s)) fun _ s1 h1 => c.put h1) fun _ =>
  Nt.bind (Gn.refl X s) (take_nt _ _ _) (Gr.take _ s) fun _ s1 h1 =>
   ite_nt (fun e => Nt.bind (h1.trans (Gn.adv2 (next_lt e.2))) (take_nt _ _ _) (Gr.take _ (adv2 s1)) fun _ s2 h2 => Nt.bind h2 (c.go h2 (.expr 0)) (c.x s2) fun _ s3 h3 => Nt.bind h3 (bodyF_nt c h3) (bodyF_gr c.gr s3) fun _ s4 h4 => c.put h4) fun _ =>
   ite_nt (fun e => Nt.bind (h1.trans (Gn.adv (key_lt e))) (c.go (h1.trans (Gn.adv (key_lt e))) (.expr 0)) (c.x (adv s1)) fun _ s3 h3 => Nt.bind h3 (bodyF_nt c h3) (bodyF_gr c.gr s3) fun _ s4 h4 => c.put h4) fun _ =>
   Nt.bind h1 (c.go h1 (.expr 0)) (c.x s1) fun _ s2 h2 => Nt.bind h2 (take_nt _ _ _) (Gr.take _ s2) fun _ s3 h3 => Nt.bind h3 (c.go h3 (.expr 0)) (c.x s3) fun _ s4 h4 => Nt.bind h4 (bodyF_nt c h4) (bodyF_gr c.gr s4) fun _ s5 h5 => c.put h5
theorem choice_nt (c : Cx X rec n s0) (h0 : Gn X s0 s a0 b0) (at_ : Nat) (hb : 0 ≤ b0 := by omega) : choice X rec at_ s ≠ .out :=
 Nt.bind h0 (enter_nt _ _ _) (Gr.enter _ s) fun _ s1 h1 => Nt.bind h1 (c.go h1 (.cases [])) (show Gr X _ s1 0 0 from c.gr (.cases []) s1) fun _ s2 h2 => Nt.bind h2 (leave_nt _ _ _) (Gr.leave _ s2) fun _ s3 h3 => c.put h3
theorem branchF_nt (c : Cx X rec n s) : branchF X rec s ≠ .out :=
 Nt.bind (Gn.refl X s) (take_nt _ _ _) (Gr.take _ s) fun _ s1 h1 => Nt.bind h1 (c.go h1 (.expr 0)) (c.x s1) fun _ s2 h2 => Nt.bind h2 (c.go h2 .block) (c.blk s2) fun _ s3 h3 =>
  ite_nt (fun e => ite_nt (fun _ => Nt.bind h3 (enter_nt _ _ _) (Gr.enter _ s3) fun _ s4 h4 => Nt.bind h4 (c.go h4 .branch) (show Gr X _ s4 1 1 from c.gr .branch s4) fun _ s5 h5 => c.put h5.down)
   fun _ => Nt.bind (h3.trans (Gn.adv (key_lt e))) (c.go (h3.trans (Gn.adv (key_lt e))) .block) (c.blk (adv s3)) fun _ s5 h5 => c.put h5) fun _ => c.put h3
theorem stmtF_nt (c : Cx X rec n s) (hx : rec (.expr 0) s ≠ .out) (hb : rec .branch s ≠ .out) : stmtF X rec s ≠ .out := by
 have g1 : ∀ {x : List UInt8}, isK X s x = true → Gn X s (adv s) 1 2 := fun e => Gn.adv (key_lt e)
 unfold stmtF;refine ite_nt (fun e => Nt.bind (g1 e) (c.go (g1 e) (.expr 0)) (c.x _) fun _ s1 h1 => c.put h1) fun _ => ?_
 refine ite_nt (fun e => bracketed_nt c (g1 e) _ _) fun _ => ?_
 refine ite_nt (fun e => bracketed_nt c (g1 e) _ _) fun _ => ?_
 refine ite_nt (fun e => bracketed_nt c (g1 e) _ _) fun _ => ?_
 refine ite_nt (fun _ => hb) fun _ => ?_
 refine ite_nt (fun e => Nt.bind (g1 e) (c.go (g1 e) (.expr 0)) (c.x _) fun _ s1 h1 => Nt.bind h1 (c.go h1 .block) (c.blk s1) fun _ s2 h2 => c.put h2) fun _ => ?_
 refine ite_nt (fun e => ite_nt (fun _ => c.put (g1 e)) fun _ => Nt.bind (g1 e) (c.go (g1 e) (.expr 0)) (c.x _) fun _ s1 h1 => c.put h1) fun _ => ?_
 refine ite_nt (fun e => c.put (g1 e)) fun _ => ?_
 refine ite_nt (fun e => choice_nt c (g1 e) _) fun _ => ?_
 refine ite_nt (fun e => Nt.bind (Gn.adv2 (next_lt e.2)) (c.go (Gn.adv2 (next_lt e.2)) (.expr 0)) (c.x _) fun _ s1 h1 => c.put h1) fun _ => ?_
 refine Nt.bind (Gn.refl X s) hx (c.x s) fun _ s1 h1 => ?_
 refine ite_nt (fun e => Nt.bind (h1.trans (Gn.adv (key_lt e))) (c.go (h1.trans (Gn.adv (key_lt e))) (.expr 0)) (c.x _) fun _ s2 h2 => c.put h2) fun _ => ?_
 exact ite_nt (fun e => Nt.bind (h1.trans (Gn.adv (key_lt e))) (c.go (h1.trans (Gn.adv (key_lt e))) (.expr 0)) (c.x _) fun _ s2 h2 => c.put h2) fun _ => c.put h1
theorem climbF_nt (c : Cx X rec n s) (k a : Nat) : climbF X rec k a s ≠ .out :=
 ite_nt (fun e => Nt.bind (Gn.adv (lev_lt e)) (c.go (Gn.adv (lev_lt e)) (.expr _)) (c.x _ _) fun _ s1 h1 => Nt.bind h1 (c.put h1) (Gr.put _) fun _ s2 h2 => c.go h2 (.climb _ _)) fun _ => ok_nt _ _
theorem made_nt (c : Cx X rec n s0) (h0 : Gn X s0 s a0 b0) (at_ : Nat) (hb : 0 ≤ b0 := by omega) : made X rec at_ s ≠ .out :=
 Nt.bind h0 (enter_nt _ _ _) (Gr.enter _ s) fun _ s1 h1 => Nt.bind h1 (enter_nt _ _ _) (Gr.enter _ s1) fun _ s2 h2 => Nt.bind h2 (c.go h2 .typ) (c.typ s2) fun _ s3 h3 =>
  ite_nt (fun e => ite_nt (fun e2 => Nt.bind ((h3.trans (Gn.dn X s3)).trans ((Gn.adv (key_lt e)).trans (Gn.adv (num_lt e2)))) (leave_nt _ _ _) (Gr.leave _ _) fun _ s5 h5 => c.put h5) fun _ => fail_nt _ _ _)
   fun _ => Nt.bind (h3.trans (Gn.dn X s3)) (leave_nt _ _ _) (Gr.leave _ _) fun _ s5 h5 => c.put h5
theorem firstF_nt (c : Cx X rec n s) : firstF X rec s ≠ .out := by
 have g1 : ∀ {x : List UInt8}, isK X s x = true → Gn X s (adv s) 1 2 := fun e => Gn.adv (key_lt e)
 unfold firstF;refine ite_nt (fun e => c.put (Gn.adv (num_lt e))) fun _ => ?_
 refine ite_nt (fun e => c.put (g1 e)) fun _ => ?_
 refine ite_nt (fun e => c.put (g1 e)) fun _ => ?_
 refine ite_nt (fun e => c.put (g1 e)) fun _ => ?_
 refine ite_nt (fun e => Nt.bind (g1 e) (sig_nt c (g1 e)) (sig_gr c.gr _) fun _ s1 h1 => Nt.bind h1 (c.go h1 .block) (c.blk s1) fun _ s2 h2 => c.put h2) fun _ => ?_
 refine ite_nt (fun e => Nt.bind (g1 e) (enter_nt _ _ _) (Gr.enter _ _) fun _ s1 h1 => Nt.bind h1 (name_nt _ _) (Gr.name s1) fun _ s2 h2 => Nt.bind h2 (leave_nt _ _ _) (Gr.leave _ s2) fun _ s3 h3 => c.put h3) fun _ => ?_
 refine ite_nt (fun e => made_nt c (g1 e) _) fun _ => ?_
 refine ite_nt (fun _ => Nt.bind (Gn.refl X s) (enter_nt _ _ _) (Gr.enter _ _) fun _ s1 h1 => Nt.bind h1 (c.go h1 (.expr 0)) (c.x s1) fun _ s2 _ => bind_nt (leave_nt _ _ _) fun _ _ => ok_nt _ _) fun _ => ?_
 exact Nt.bind (Gn.refl X s) (name_nt _ _) (Gr.name s) fun _ s1 h1 => c.put h1
theorem prefixed_nt (c : Cx X rec n s) (x : List UInt8) (kind : Int) : prefixed X rec x kind s ≠ .out :=
 Nt.bind (Gn.refl X s) (enter_nt _ _ _) (Gr.enter _ s) fun _ s1 h1 => Nt.bind h1 (c.go h1 .unary) (show Gr X _ s1 1 1 from c.gr .unary s1) fun _ s2 h2 => c.put h2.down
theorem unaryF_nt (c : Cx X rec n s) : unaryF X rec s ≠ .out :=
 ite_nt (fun _ => prefixed_nt c _ _) fun _ => ite_nt (fun _ => prefixed_nt c _ _) fun _ => ite_nt (fun _ => prefixed_nt c _ _) fun _ => Nt.bind (Gn.refl X s) (firstF_nt c) (firstF_gr c.gr s) fun _ s1 h1 => c.go h1 (.part _)
theorem partF_nt (c : Cx X rec n s) (e : Nat) : partF X rec e s ≠ .out :=
 ite_nt (fun _ => Nt.bind (Gn.refl X s) (list_nt (Gn.refl X s) (fun s1 h1 => c.go h1 _) (fun s => c.gr (.exprs []) s)) (list_gr (fun s => c.gr (.exprs []) s) s) fun _ s1 h1 => Nt.bind h1 (c.put h1) (Gr.put _) fun _ s2 h2 => c.go h2 (.part _)) fun _ =>
  ite_nt (fun e1 => ite_nt (fun _ => Nt.bind (Gn.adv (key_lt e1)) (enter_nt _ _ _) (Gr.enter _ _) fun _ s1 h1 => Nt.bind h1 (c.go h1 .typ) (c.typ s1) fun _ s2 h2 => Nt.bind h2 (leave_nt _ _ _) (Gr.leave _ s2) fun _ s3 h3 => Nt.bind h3 (c.put h3) (Gr.put _) fun _ s4 h4 => c.go h4 (.part _))
   fun _ => Nt.bind (Gn.adv (key_lt e1)) (name_nt _ _) (Gr.name _) fun _ s1 h1 => Nt.bind h1 (c.put h1) (Gr.put _) fun _ s2 h2 => c.go h2 (.part _)) fun _ => ok_nt _ _
theorem msig_nt (c : Cx X rec n s) : msig X rec s ≠ .out :=
 Nt.bind (Gn.refl X s) (name_nt _ _) (Gr.name s) fun _ s1 h1 => Nt.bind h1 (sig_nt c h1) (sig_gr c.gr s1) fun _ s2 h2 => c.put h2
theorem typed_nt (c : Cx X rec n s0) (h0 : Gn X s0 s a0 b0) (at_ : Nat) (hb : 0 ≤ b0 := by omega) : typed X rec at_ s ≠ .out :=
 Nt.bind h0 (name_nt _ _) (Gr.name s) fun _ s1 h1 => ite_nt (fun e => Nt.bind (h1.trans (Gn.adv (key_lt e))) (items_nt (h1.trans (Gn.adv (key_lt e))) (fun s1 h1 => c.go h1 _) (fun s => c.gr (.fields []) s)) (items_gr (fun s => c.gr (.fields []) s) _) fun _ s2 h2 => c.put h2) fun _ =>
  Nt.bind h1 (take_nt _ _ _) (Gr.take _ s1) fun _ s2 h2 => Nt.bind h2 (items_nt h2 (fun s1 h1 => c.go h1 _) (fun s => c.gr (.msigs []) s)) (items_gr (fun s => c.gr (.msigs []) s) s2) fun _ s3 h3 => c.put h3
theorem method_nt (c : Cx X rec n s0) (h0 : Gn X s0 s a0 b0) (at_ : Nat) (hb : 0 ≤ b0 := by omega) : method X rec at_ s ≠ .out :=
 Nt.bind h0 (enter_nt _ _ _) (Gr.enter _ s) fun _ s1 h1 => Nt.bind h1 (name_nt _ _) (Gr.name s1) fun _ s2 h2 => Nt.bind h2 (pointer_nt c h2) (pointer_gr s2) fun _ s3 h3 => Nt.bind h3 (leave_nt _ _ _) (Gr.leave _ s3) fun _ s4 h4 => Nt.bind h4 (c.put h4) (Gr.put _) fun _ s5 h5 =>
  Nt.bind h5 (name_nt _ _) (Gr.name s5) fun _ s6 h6 => Nt.bind h6 (sig_nt c h6) (sig_gr c.gr s6) fun _ s7 h7 => Nt.bind h7 (c.go h7 .block) (c.blk s7) fun _ s8 h8 => c.put h8
theorem declF_nt (c : Cx X rec n s) : declF X rec s ≠ .out :=
 ite_nt (fun e => typed_nt c (Gn.adv (key_lt e)) _) fun _ => Nt.bind (Gn.refl X s) (take_nt _ _ _) (Gr.take _ s) fun _ s1 h1 => ite_nt (fun _ => method_nt c h1 _) fun _ =>
  Nt.bind h1 (name_nt _ _) (Gr.name s1) fun _ s2 h2 => Nt.bind h2 (sig_nt c h2) (sig_gr c.gr s2) fun _ s3 h3 => Nt.bind h3 (c.go h3 .block) (c.blk s3) fun _ s4 h4 => c.put h4
/-- The same state, a lower rank. -/
theorem Cx.low (c : Cx X rec n s) {g : Fn} (f : Fn) (hn : 4 * (X.toks.length - s.i) + rank g < n + 1) (hr : rank f < rank g) : rec f s ≠ .out := c.ih f s c.q (by omega)
theorem bodyR_nt (c : Cx X rec n s) (f : Fn) (hn : 4 * (X.toks.length - s.i) + rank f < n + 1) : bodyR X rec f s ≠ .out := by
 cases f with
 | typ => exact typF_nt c
 | block => exact blockF_nt c
 | stmt => exact stmtF_nt c (c.low _ hn (by simp [rank])) (c.low _ hn (by simp [rank]))
 | branch => exact branchF_nt c
 | expr k => exact Nt.bind (Gn.refl X s) (c.low .unary hn (by simp [rank])) (show Gr X _ s 1 1 from c.gr .unary s) fun _ s1 h1 => c.go h1 (.climb _ _)
 | climb k a => exact climbF_nt c k a
 | unary => exact unaryF_nt c
 | part e => exact partF_nt c e
 | typs acc => exact listL_nt (c.low .typ hn (by simp [rank])) (c.typ s).to (fun a s1 h1 => c.go h1 (.typs a)) acc
 | params acc => exact listL_nt (named_nt c 7) (named_gr c.gr 7 s).to (fun a s1 h1 => c.go h1 (.params a)) acc
 | exprs acc => exact listL_nt (c.low (.expr 0) hn (by simp [rank])) (c.x s).to (fun a s1 h1 => c.go h1 (.exprs a)) acc
 | stmts acc => exact itemsL_nt (c.low .stmt hn (by simp [rank])) (c.st s) (fun a s1 h1 => c.go h1 (.stmts a)) acc
 | body acc => exact ite_nt (fun _ => ok_nt _ _) fun _ => Nt.bind (Gn.refl X s) (c.low .stmt hn (by simp [rank])) (c.st s) fun _ s1 h1 => ite_nt (fun _ => ok_nt _ _) fun _ => Nt.bind h1 (take_nt _ _ _) (Gr.take _ s1) fun _ s2 h2 => c.go h2 (.body _)
 | cases acc => exact ite_nt (fun _ => ok_nt _ _) fun _ => Nt.bind (Gn.refl X s) (caseF_nt c) (caseF_gr c.gr s) fun _ s1 h1 => c.go h1 (.cases _)
 | fields acc => exact itemsL_nt (named_nt c 9) (named_gr c.gr 9 s).to (fun a s1 h1 => c.go h1 (.fields a)) acc
 | msigs acc => exact itemsL_nt (msig_nt c) (msig_gr c.gr s).to (fun a s1 h1 => c.go h1 (.msigs a)) acc
 | decls acc => exact ite_nt (fun _ => Nt.bind (Gn.refl X s) (declF_nt c) (declF_gr c.gr s) fun _ s1 h1 => ite_nt (fun _ => Nt.bind h1 (take_nt _ _ _) (Gr.take _ s1) fun _ s2 h2 => c.go h2 (.decls _)) fun _ => c.go h1 (.decls _)) fun _ => ok_nt _ _
end
theorem run_nt {X : Src} (hl : X.toks.length ≤ 12001) (n : Nat) (f : Fn) (s : St) (q : Qs X s) (hn : 4 * (X.toks.length - s.i) + rank f < n) : run X n f s ≠ .out := by
 induction n generalizing f s with
 | zero => omega
 | succ n ih => exact bodyR_nt (n := n) ⟨ih, run_grow X n, hl, q, by omega⟩ f hn
def fuel : Nat := 50000
theorem program_nt {X : Src} (hl : X.toks.length ≤ 12001) : program X fuel ≠ .out := by
 have q : Qs X start := ⟨by show (0 : Nat) ≤ _; omega, by show (0 : Nat) ≤ _; omega⟩;have h1 := run_nt hl fuel (.decls []) start q (by show 4 * (X.toks.length - 0) + 0 < 50000; omega);unfold program
 cases h : run X fuel (.decls []) start with
 | out => exact absurd h h1
 | bad c p => simp [Res.bind]
 | ok v s =>
  have g : Gn X start s 0 0 := run_grow X fuel (.decls []) start v s h;have g2 := g.g;have g3 := g.le q.le;have e1 : start.nodes.length = 0 := rfl;have e2 : start.i = 0 := rfl;rw [bind_ok];unfold put;rw [if_pos (by omega)];simp
theorem parse_nt {X : Src} (hl : X.toks.length ≤ 12001) : parse X fuel ≠ .out := bind_nt (program_nt hl) fun v s => ite_nt (fun _ => by simp) fun _ => ok_nt _ _
end Go.Proofs.YtjickecdkmljpaaGreatDoor.Ps
