/-
  PROVED HERE, WITHOUT ANY PROGRAM IN SIGHT: how bytes tell code (chapter 16, Q4): the reading of a number, of a list, of code; how code is written as bytes; what is written is read back as it was. No condition beyond the lemmas' own premises.
-/
import Derived.Test.YtjomajfgoaifbaaCd
namespace Go.Proofs.Ytjomajfgoaifbaa.Rd
open Go.Proofs.Ytjomajfgoaifbaa.Cd

/-- The number that 64 bits tell. -/
def valOf (u : Nat) : Int := if u % 2 = 1 then -((u / 2 : Nat) : Int) - 1 else ((u / 2 : Nat) : Int)

/-- The k-th byte of a number (from nought on): may it stand? -/
def badB (k x : Nat) : Bool := decide ((k = 9 ∧ 1 < x) ∨ (0 < k ∧ x = 0))
def upd (k u x : Nat) : Nat := u + x % 128 * 2 ^ (7 * k)

def numAt : Nat → Nat → List UInt8 → Option (Int × List UInt8)
  | _, _, [] => none
  | k, u, x :: l => if badB k x.toNat = true then none else if x.toNat < 128 then some (valOf (upd k u x.toNat), l) else numAt (k + 1) (upd k u x.toNat) l

/-- A reading: what is wrong, or what is told and what is left. -/
abbrev P (α : Type) := List UInt8 → Except Int (α × List UInt8)

def andThen {α β : Type} (p : P α) (f : α → P β) : P β := fun l => match p l with
  | .error e => .error e
  | .ok (a, r) => f a r
def give {α : Type} (a : α) : P α := fun l => .ok (a, l)

def num : P Int := fun l => match numAt 0 0 l with
  | none => .error 3
  | some x => .ok x
def count : P Nat := fun l => match num l with
  | .error e => .error e
  | .ok (n, r) => if n < 0 ∨ 10000 < n then .error 1 else .ok (n.toNat, r)
def rep {α : Type} (p : P α) : Nat → P (List α)
  | 0 => give []
  | k + 1 => andThen (rep p k) fun xs => andThen p fun x => give (xs ++ [x])

def opP : P GOp := andThen num fun d => andThen num fun a => andThen num fun b => give ⟨d, a, b⟩
def listP : P (List Int) := andThen count fun n => rep num n
def fnP : P GFn := andThen num fun a => andThen num fun b => andThen num fun c => andThen listP fun l => give ⟨a, b, c, l⟩
def codeP : P GCode := andThen count fun no => andThen count fun nf => andThen count fun nk => andThen (rep opP no) fun os => andThen (rep fnP nf) fun fs => andThen (rep listP nk) fun ks => give ⟨os, fs, ks⟩

def noCode : GCode := ⟨[], [], []⟩
/-- What bytes tell: what is wrong (nought: nothing), and the code. -/
noncomputable def readF (l : List UInt8) : Int × GCode := match codeP l with
  | .error e => (e, noCode)
  | .ok (C, r) => if r ≠ [] then (3, noCode) else if check C ≠ 0 then (check C, noCode) else (0, C)

theorem rep_error {α : Type} {p : P α} {l : List UInt8} {e : Int} : ∀ {k n : Nat}, rep p k l = .error e → k ≤ n → rep p n l = .error e := by
  intro k n h hkn
  induction n with
  | zero => obtain rfl : k = 0 := by omega
            exact h
  | succ n ih =>
    by_cases hk : k = n + 1
    · subst hk; exact h
    · have := ih (by omega)
      show andThen (rep p n) _ l = _
      unfold andThen
      rw [this]

theorem rep_succ {α : Type} {p : P α} {l r : List UInt8} {k : Nat} {xs : List α} (h : rep p k l = .ok (xs, r)) :
    rep p (k + 1) l = match p r with
      | .error e => .error e
      | .ok (x, r') => .ok (xs ++ [x], r') := by
  show andThen (rep p k) _ l = _
  unfold andThen
  rw [h]
  dsimp only
  cases p r with
  | error e => rfl
  | ok y => rfl

theorem rep_length {α : Type} {p : P α} {l : List UInt8} : ∀ {k : Nat} {xs : List α} {r : List UInt8}, rep p k l = .ok (xs, r) → xs.length = k := by
  intro k
  induction k with
  | zero => intro xs r h; cases h; rfl
  | succ k ih =>
    intro xs r h
    cases hk : rep p k l with
    | error e => rw [rep_error hk (Nat.le_succ k)] at h; cases h
    | ok y =>
      obtain ⟨ys, s⟩ := y
      rw [rep_succ hk] at h
      have := ih hk
      revert h
      cases p s with
      | error e => intro h; cases h
      | ok z => intro h; cases h; simp [this]

/-! ### Bounds of what is told -/
theorem upd_lt {k u x : Nat} (hu : u < 2 ^ (7 * k)) : upd k u x < 2 ^ (7 * (k + 1)) := by
  unfold upd
  have h1 : x % 128 ≤ 127 := by omega
  have h2 : x % 128 * 2 ^ (7 * k) ≤ 127 * 2 ^ (7 * k) := Nat.mul_le_mul_right _ h1
  have e : 2 ^ (7 * (k + 1)) = 128 * 2 ^ (7 * k) := by rw [Nat.mul_add, Nat.pow_add, Nat.mul_comm]
  rw [e]
  omega

theorem upd_lt9 {u x : Nat} (hu : u < 2 ^ 63) (hx : x ≤ 1) : upd 9 u x < 2 ^ 64 := by
  unfold upd
  have e : x % 128 = x := by omega
  rw [e, show 7 * 9 = 63 from rfl]
  have e63 : (2 : Nat) ^ 63 = 9223372036854775808 := by decide
  have e64 : (2 : Nat) ^ 64 = 18446744073709551616 := by decide
  rw [e64]
  rw [e63] at hu ⊢
  omega

theorem valOf_bd {u : Nat} (h : u < 2 ^ 64) : -9223372036854775808 ≤ valOf u ∧ valOf u ≤ 9223372036854775807 := by
  have e64 : (2 : Nat) ^ 64 = 18446744073709551616 := by decide
  rw [e64] at h
  unfold valOf
  split <;> omega

theorem numAt_bd : ∀ (l : List UInt8) (k u : Nat), k ≤ 9 → u < 2 ^ (7 * k) → ∀ {n : Int} {r : List UInt8}, numAt k u l = some (n, r) → -9223372036854775808 ≤ n ∧ n ≤ 9223372036854775807
  | [], k, u, _, _, n, r, h => by simp [numAt] at h
  | x :: l, k, u, hk, hu, n, r, h => by
    rw [numAt] at h
    by_cases hb : badB k x.toNat = true
    · rw [if_pos hb] at h; cases h
    rw [if_neg hb] at h
    have hb' : badB k x.toNat = false := by simpa using hb
    have hb2 := of_decide_eq_false hb'
    have hlt : upd k u x.toNat < 2 ^ 64 := by
      by_cases h9 : k = 9
      · subst h9
        exact upd_lt9 hu (by omega)
      · exact Nat.lt_of_lt_of_le (upd_lt hu) (Nat.pow_le_pow_right (by omega) (by omega))
    by_cases hx : x.toNat < 128
    · rw [if_pos hx] at h
      cases h
      exact valOf_bd hlt
    · rw [if_neg hx] at h
      have h9 : k ≠ 9 := fun e => by omega
      exact numAt_bd l (k + 1) _ (by omega) (upd_lt hu) h

theorem num_bd {l r : List UInt8} {n : Int} (h : num l = .ok (n, r)) : -9223372036854775808 ≤ n ∧ n ≤ 9223372036854775807 := by
  unfold num at h
  cases hk : numAt 0 0 l with
  | none => rw [hk] at h; cases h
  | some x =>
    rw [hk] at h
    cases h
    exact numAt_bd l 0 0 (by omega) (by simp) hk

theorem count_bd {l r : List UInt8} {n : Nat} (h : count l = .ok (n, r)) : n ≤ 10000 := by
  unfold count at h
  cases hk : num l with
  | error e => rw [hk] at h; cases h
  | ok x =>
    obtain ⟨m, s⟩ := x
    rw [hk] at h
    dsimp only at h
    by_cases hm : m < 0 ∨ 10000 < m
    · rw [if_pos hm] at h; cases h
    · rw [if_neg hm] at h; cases h; omega

/-! ### Writing -/
/-- The 64 bits of a number. -/
def zig (n : Int) : Nat := if n < 0 then (-(n + 1)).toNat * 2 + 1 else n.toNat * 2
def putF (u : Nat) : List UInt8 := if h : u < 128 then [UInt8.ofNat u] else UInt8.ofNat (u % 128 + 128) :: putF (u / 128)
termination_by u
decreasing_by omega
def putI (n : Int) : List UInt8 := putF (zig n)
def putIs (l : List Int) : List UInt8 := l.flatMap putI
def putL (l : List Int) : List UInt8 := putI l.length ++ putIs l
def putOp (o : GOp) : List UInt8 := putI o.d ++ putI o.a ++ putI o.b
def putFn (f : GFn) : List UInt8 := putI f.params ++ putI f.slots ++ putI f.start ++ putL f.takes
def putCode (C : GCode) : List UInt8 := putI C.ops.length ++ putI C.fns.length ++ putI C.kinds.length ++ C.ops.flatMap putOp ++ C.fns.flatMap putFn ++ C.kinds.flatMap putL

theorem zig_lt {n : Int} (h : -9223372036854775808 ≤ n ∧ n ≤ 9223372036854775807) : zig n < 2 ^ 64 := by
  have e64 : (2 : Nat) ^ 64 = 18446744073709551616 := by decide
  rw [e64]
  unfold zig
  split <;> omega
theorem valOf_zig (n : Int) : valOf (zig n) = n := by
  unfold zig
  split
  · unfold valOf
    rw [if_pos (by omega)]
    omega
  · unfold valOf
    rw [if_neg (by omega)]
    omega

theorem numAt_put : ∀ (k u acc : Nat) (rest : List UInt8), k ≤ 9 → u < 2 ^ (64 - 7 * k) → (0 < k → 0 < u) → numAt k acc (putF u ++ rest) = some (valOf (acc + u * 2 ^ (7 * k)), rest) := by
  intro k u
  induction u using Nat.strongRecOn generalizing k with
  | _ u ih =>
    intro acc rest hk hu hpos
    rw [putF]
    by_cases h : u < 128
    · rw [dif_pos h]
      have e1 : (UInt8.ofNat u).toNat = u := by simp; omega
      show numAt k acc (UInt8.ofNat u :: rest) = _
      rw [numAt, e1]
      have hb : badB k u = false := by
        unfold badB
        refine decide_eq_false ?_
        rintro (⟨h1, h2⟩ | ⟨h1, h2⟩)
        · subst h1
          have : (2 : Nat) ^ (64 - 7 * 9) = 2 := by decide
          omega
        · have := hpos h1
          omega
      rw [hb, if_neg (by simp), if_pos h]
      unfold upd
      rw [Nat.mod_eq_of_lt h]
    · rw [dif_neg h]
      have e1 : (UInt8.ofNat (u % 128 + 128)).toNat = u % 128 + 128 := by simp; omega
      show numAt k acc (UInt8.ofNat (u % 128 + 128) :: (putF (u / 128) ++ rest)) = _
      rw [numAt, e1]
      have hk8 : k ≤ 8 := by
        refine Classical.byContradiction fun hn => ?_
        obtain rfl : k = 9 := by omega
        have : (2 : Nat) ^ (64 - 7 * 9) = 2 := by decide
        omega
      have hb : badB k (u % 128 + 128) = false := by
        unfold badB
        refine decide_eq_false ?_
        rintro (⟨h1, h2⟩ | ⟨h1, h2⟩) <;> omega
      rw [hb, if_neg (by simp), if_neg (by omega)]
      have hp : (2 : Nat) ^ (64 - 7 * k) = 128 * 2 ^ (64 - 7 * (k + 1)) := by
        have : 64 - 7 * k = (64 - 7 * (k + 1)) + 7 := by omega
        rw [this, Nat.pow_add, Nat.mul_comm]
      rw [hp] at hu
      rw [ih (u / 128) (by omega) (k + 1) _ rest (by omega) (by omega) (by omega)]
      have e2 : (2 : Nat) ^ (7 * (k + 1)) = 128 * 2 ^ (7 * k) := by rw [Nat.mul_add, Nat.pow_add, Nat.mul_comm]
      have e3 : upd k acc (u % 128 + 128) + u / 128 * 2 ^ (7 * (k + 1)) = acc + u * 2 ^ (7 * k) := by
        unfold upd
        rw [e2, show (u % 128 + 128) % 128 = u % 128 by omega, ← Nat.mul_assoc, Nat.add_assoc, ← Nat.add_mul]
        congr 2
        omega
      rw [e3]

/-- What is written is read back. -/
structure Good {α : Type} (p : P α) (b : List UInt8) (a : α) : Prop where
  back : ∀ rest, p (b ++ rest) = .ok (a, rest)

theorem good_num {n : Int} (h : -9223372036854775808 ≤ n ∧ n ≤ 9223372036854775807) : Good num (putI n) n := by
  refine ⟨fun rest => ?_⟩
  have := numAt_put 0 (zig n) 0 rest (by omega) (by simpa using zig_lt h) (by omega)
  unfold num putI
  rw [this]
  simp [valOf_zig]
theorem good_count {n : Nat} (h : n ≤ 10000) : Good count (putI n) n := by
  refine ⟨fun rest => ?_⟩
  unfold count
  rw [(good_num (n := (n : Int)) (by omega)).back rest]
  dsimp only
  rw [if_neg (by omega)]
  simp
theorem Good.then {α β : Type} {p : P α} {f : α → P β} {a : α} {b : β} {x y : List UInt8} (h : Good p x a) (h2 : Good (f a) y b) : Good (andThen p f) (x ++ y) b := by
  refine ⟨fun rest => ?_⟩
  unfold andThen
  rw [List.append_assoc, h.back]
  exact h2.back rest
theorem good_give {α : Type} (a : α) : Good (give a) [] a := ⟨fun _ => rfl⟩
theorem good_rep {α : Type} {p : P α} {f : α → List UInt8} (l : List α) (h : ∀ x ∈ l, Good p (f x) x) : Good (rep p l.length) (l.flatMap f) l := by
  suffices H : ∀ k, k ≤ l.length → Good (rep p k) ((l.take k).flatMap f) (l.take k) by
    have := H l.length (Nat.le_refl _)
    rwa [List.take_length] at this
  intro k
  induction k with
  | zero => intro _; exact good_give ([] : List α)
  | succ k ih =>
    intro hk
    have hk' : k < l.length := by omega
    refine ⟨fun rest => ?_⟩
    have e : l.take (k + 1) = l.take k ++ [l[k]] := by rw [List.take_succ_eq_append_getElem hk']
    rw [e]
    have hb := (ih (by omega)).back ((f l[k]) ++ rest)
    rw [List.flatMap_append, List.append_assoc]
    have e2 : [l[k]].flatMap f ++ rest = f l[k] ++ rest := by simp
    rw [e2, rep_succ hb, (h _ (List.getElem_mem hk')).back rest]

theorem good_list {l : List Int} (hl : l.length ≤ 10000) (h : ∀ x ∈ l, -9223372036854775808 ≤ x ∧ x ≤ 9223372036854775807) : Good listP (putL l) l :=
  (good_count hl).then (good_rep l fun x hx => good_num (h x hx))
theorem good_op {o : GOp} (h : (-9223372036854775808 ≤ o.d ∧ o.d ≤ 9223372036854775807) ∧ (-9223372036854775808 ≤ o.a ∧ o.a ≤ 9223372036854775807) ∧ (-9223372036854775808 ≤ o.b ∧ o.b ≤ 9223372036854775807)) : Good opP (putOp o) o := by
  have := (good_num h.1).then (f := fun d => andThen num fun a => andThen num fun b => give (⟨d, a, b⟩ : GOp)) ((good_num h.2.1).then (f := fun a => andThen num fun b => give (⟨o.d, a, b⟩ : GOp)) ((good_num h.2.2).then (f := fun b => give (⟨o.d, o.a, b⟩ : GOp)) (good_give _)))
  have e : putOp o = putI o.d ++ (putI o.a ++ (putI o.b ++ [])) := by simp [putOp]
  rw [e]
  exact this
theorem good_fn {f : GFn} (h : (-9223372036854775808 ≤ f.params ∧ f.params ≤ 9223372036854775807) ∧ (-9223372036854775808 ≤ f.slots ∧ f.slots ≤ 9223372036854775807) ∧ (-9223372036854775808 ≤ f.start ∧ f.start ≤ 9223372036854775807)) (hl : f.takes.length ≤ 10000) (ht : ∀ x ∈ f.takes, -9223372036854775808 ≤ x ∧ x ≤ 9223372036854775807) : Good fnP (putFn f) f := by
  have := (good_num h.1).then (f := fun a => andThen num fun b => andThen num fun c => andThen listP fun l => give (⟨a, b, c, l⟩ : GFn)) ((good_num h.2.1).then (f := fun b => andThen num fun c => andThen listP fun l => give (⟨f.params, b, c, l⟩ : GFn)) ((good_num h.2.2).then (f := fun c => andThen listP fun l => give (⟨f.params, f.slots, c, l⟩ : GFn)) ((good_list hl ht).then (f := fun l => give (⟨f.params, f.slots, f.start, l⟩ : GFn)) (good_give _))))
  have e : putFn f = putI f.params ++ (putI f.slots ++ (putI f.start ++ (putL f.takes ++ []))) := by simp [putFn]
  rw [e]
  exact this

theorem good_code {C : GCode} (h1 : C.ops.length ≤ 10000) (h2 : C.fns.length ≤ 10000) (h3 : C.kinds.length ≤ 10000) (ho : ∀ o ∈ C.ops, Good opP (putOp o) o) (hf : ∀ f ∈ C.fns, Good fnP (putFn f) f) (hk : ∀ k ∈ C.kinds, Good listP (putL k) k) : Good codeP (putCode C) C := by
  have := (good_count h1).then (f := fun no => andThen count fun nf => andThen count fun nk => andThen (rep opP no) fun os => andThen (rep fnP nf) fun fs => andThen (rep listP nk) fun ks => give (⟨os, fs, ks⟩ : GCode))
    ((good_count h2).then (f := fun nf => andThen count fun nk => andThen (rep opP C.ops.length) fun os => andThen (rep fnP nf) fun fs => andThen (rep listP nk) fun ks => give (⟨os, fs, ks⟩ : GCode))
    ((good_count h3).then (f := fun nk => andThen (rep opP C.ops.length) fun os => andThen (rep fnP C.fns.length) fun fs => andThen (rep listP nk) fun ks => give (⟨os, fs, ks⟩ : GCode))
    ((good_rep C.ops ho).then (f := fun os => andThen (rep fnP C.fns.length) fun fs => andThen (rep listP C.kinds.length) fun ks => give (⟨os, fs, ks⟩ : GCode))
    ((good_rep C.fns hf).then (f := fun fs => andThen (rep listP C.kinds.length) fun ks => give (⟨C.ops, fs, ks⟩ : GCode))
    ((good_rep C.kinds hk).then (f := fun ks => give (⟨C.ops, C.fns, ks⟩ : GCode)) (good_give _))))))
  have e : putCode C = putI C.ops.length ++ (putI C.fns.length ++ (putI C.kinds.length ++ (C.ops.flatMap putOp ++ (C.fns.flatMap putFn ++ (C.kinds.flatMap putL ++ []))))) := by simp [putCode]
  rw [e]
  exact this
theorem read_back {C : GCode} (h : Good codeP (putCode C) C) (hc : check C = 0) : readF (putCode C) = (0, C) := by
  have := h.back []
  rw [List.append_nil] at this
  unfold readF
  rw [this]
  dsimp only
  rw [if_neg (by simp), if_neg (by rw [hc]; simp)]
end Go.Proofs.Ytjomajfgoaifbaa.Rd
