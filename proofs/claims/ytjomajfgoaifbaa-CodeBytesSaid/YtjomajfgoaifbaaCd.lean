/-
  PROVED HERE, WITHOUT ANY PROGRAM IN SIGHT: what code is, what it means that code may be (chapter 16), and that a walk over a function's orders that marks each order with its depth and keeps a list of those still to be looked at tells whether there is a marking of all. No condition.
-/
namespace Go.Proofs.Ytjomajfgoaifbaa.Cd

structure GOp where
  d : Int
  a : Int
  b : Int
structure GFn where
  params : Int
  slots : Int
  start : Int
  takes : List Int
structure GCode where
  ops : List GOp
  fns : List GFn
  kinds : List (List Int)

def opAt (C : GCode) (i : Nat) : GOp := C.ops.getD i ⟨0, 0, 0⟩
def fnAt (C : GCode) (i : Nat) : GFn := C.fns.getD i ⟨0, 0, 0, []⟩
def kindAt (C : GCode) (i : Nat) : List Int := C.kinds.getD i []

def inB (lo hi x : Int) : Bool := decide (lo ≤ x ∧ x ≤ hi)

/-- Q1: may A and B of an order be? -/
def rangeB (no nf nk : Nat) (o : GOp) : Bool :=
  if o.d = 1 then o.b == 0
  else if o.d = 2 ∨ o.d = 3 ∨ o.d = 4 ∨ o.d = 8 ∨ o.d = 9 ∨ o.d = 11 ∨ o.d = 19 ∨ o.d = 27 ∨ o.d = 28 then inB 0 1200 o.a && o.b == 0
  else if o.d = 5 ∨ o.d = 10 then inB 0 (nf - 1) o.a && o.b == 0
  else if o.d = 6 ∨ o.d = 12 then inB 0 (nk - 1) o.a && o.b == 0
  else if o.d = 7 then inB 0 8 o.a && o.b == 0
  else if o.d = 15 then inB 0 10 o.a && o.b == 0
  else if o.d = 16 ∨ o.d = 17 then inB 0 (no - 1) o.a && o.b == 0
  else if o.d = 18 then inB 0 (no - 1) o.a && inB 0 1 o.b
  else if o.d = 29 then inB 0 1 o.a && inB 0 (no - 1) o.b
  else if o.d = 30 then o.a == 0 && inB 0 (no - 1) o.b
  else if o.d = 13 ∨ o.d = 14 ∨ o.d = 20 ∨ o.d = 21 ∨ o.d = 22 ∨ o.d = 23 ∨ o.d = 24 ∨ o.d = 25 ∨ o.d = 26 then o.a == 0 && o.b == 0
  else false

def fnOK (no : Nat) (f : GFn) : Bool := inB 0 1200 f.slots && inB 0 f.slots f.params && inB 0 (no - 1) f.start && decide ((f.takes.length : Int) ≤ f.slots - f.params) && f.takes.all (inB 0 1200)
def kindOK (nf : Nat) (l : List Int) : Bool := decide (1 ≤ l.length ∧ l.length ≤ 1200) && inB 0 1200 (l.getD 0 0) && (l.drop 1).all (inB (-1) (nf - 1))
def okAll (C : GCode) : Bool := C.fns.all (fnOK C.ops.length) && C.kinds.all (kindOK C.fns.length) && C.ops.all (rangeB C.ops.length C.fns.length C.kinds.length)

/-- How many values an order takes and puts (but OpSelect, OpCase, OpElse). -/
def takesPuts (o : GOp) : Int × Int :=
  if o.d = 1 ∨ o.d = 2 ∨ o.d = 5 ∨ o.d = 6 ∨ o.d = 7 then (0, 1)
  else if o.d = 8 ∨ o.d = 10 ∨ o.d = 11 ∨ o.d = 12 ∨ o.d = 13 ∨ o.d = 14 ∨ o.d = 24 then (1, 1)
  else if o.d = 9 ∨ o.d = 23 then (2, 0)
  else if o.d = 15 then (2, 1)
  else if o.d = 19 then (o.a + 1, 1)
  else if o.d = 27 then (o.a + 1, 0)
  else if o.d = 16 then (0, 0)
  else (1, 0)

/-- The cases of a select. -/
def casesOf (C : GCode) (at_ : Nat) : List GOp := (C.ops.drop (at_ + 1)).take (opAt C at_).a.toNat
def restDeep : Int → List GOp → Int
  | d, [] => d
  | d, o :: l => restDeep (if o.d = 29 then d - (1 + o.a) else d) l
def othersOf : List GOp → Nat
  | [] => 0
  | o :: l => (if o.d = 30 then 1 else 0) + othersOf l
def caseTo (deep : Int) (o : GOp) : Int × Int := (o.b, deep + if o.d = 29 ∧ o.a = 0 then 1 else 0)
def chooseF (C : GCode) (at_ : Nat) (deep : Int) : Option (List (Int × Int)) :=
  if (C.ops.length : Int) ≤ at_ + (opAt C at_).a then none
  else if (casesOf C at_).all (fun o => decide (o.d = 29 ∨ o.d = 30)) = false then none
  else if 1 < othersOf (casesOf C at_) ∨ restDeep deep (casesOf C at_) < 0 then none
  else some ((casesOf C at_).map (caseTo (restDeep deep (casesOf C at_))))

/-- Q2: where one goes on from an order, with how many values; none: it may not stand so. -/
def stepF (C : GCode) (slots : Int) (at_ : Nat) (deep : Int) : Option (List (Int × Int)) :=
  let o := opAt C at_
  if o.d = 29 ∨ o.d = 30 then none
  else if o.d = 28 then chooseF C at_ deep
  else if deep < (takesPuts o).1 then none
  else if (o.d = 2 ∨ o.d = 3 ∨ o.d = 4) ∧ slots ≤ o.a then none
  else if o.d = 5 ∧ (fnAt C o.a.toNat).takes.any (fun x => decide (slots ≤ x)) = true then none
  else if o.d = 20 ∨ o.d = 22 then some []
  else if o.d = 16 then some [(o.a, deep)]
  else if o.d = 17 then some [(o.a, deep - 1), ((at_ : Int) + 1, deep - 1)]
  else if o.d = 18 then some [(o.a, deep), ((at_ : Int) + 1, deep - 1)]
  else some [((at_ : Int) + 1, deep - (takesPuts o).1 + (takesPuts o).2)]

/-- A marking of a function's orders: each that is come to has its depth; -1: not come to. -/
structure Lab (C : GCode) (f : GFn) (L : Nat → Int) : Prop where
  root : L f.start.toNat = 0
  step : ∀ i, i < C.ops.length → 0 ≤ L i → ∃ l, stepF C f.slots i (L i) = some l ∧ ∀ x ∈ l, 0 ≤ x.1 ∧ x.1 < C.ops.length ∧ x.2 ≤ 1200 ∧ L x.1.toNat = x.2

open Classical in
noncomputable def formOK (C : GCode) (f : GFn) : Bool := decide (∃ L, Lab C f L)

theorem formOK_of {C : GCode} {f : GFn} (h : ∃ L, Lab C f L) : formOK C f = true := by unfold formOK; simpa using h
theorem formOK_not {C : GCode} {f : GFn} (h : ¬ ∃ L, Lab C f L) : formOK C f = false := by unfold formOK; simpa using h

def sizeBad (C : GCode) : Bool := decide (8000 < C.ops.length ∨ 1200 < C.fns.length ∨ 1200 < C.kinds.length ∨ C.fns.length = 0)
noncomputable def check (C : GCode) : Int := if sizeBad C then 1 else if okAll C = false then 11 else if C.fns.all (formOK C) then 0 else 12

/-! ### The walk's state: the depths D, the orders W still to be looked at -/

def dAt (D : List Int) (i : Nat) : Int := D.getD i (-1)
/-- Coming to order t with d values: does it go together with what is marked? -/
def leadOK (D : List Int) (t d : Int) : Bool := decide (t < D.length ∧ d ≤ 1200 ∧ (dAt D t.toNat < 0 ∨ dAt D t.toNat = d))
def leadD (D : List Int) (t d : Int) : List Int := if dAt D t.toNat < 0 then D.set t.toNat d else D
def leadW (D : List Int) (W : List Int) (t : Int) : List Int := if dAt D t.toNat < 0 then W ++ [t] else W

/-- How many are not marked. -/
def free (D : List Int) : Nat := D.countP (fun x => decide (x < 0))

theorem dAt_set (D : List Int) (i j : Nat) (d : Int) : dAt (D.set i d) j = if i = j ∧ j < D.length then d else dAt D j := by
  unfold dAt
  simp only [List.getD_eq_getElem?_getD, List.getElem?_set]
  by_cases h : i = j
  · subst h
    by_cases h2 : i < D.length <;> simp [h2]
  · simp [h]

theorem leadD_length (D : List Int) (t d : Int) : (leadD D t d).length = D.length := by
  unfold leadD; split <;> simp

theorem free_set : ∀ (D : List Int) (i : Nat) (d : Int), i < D.length → dAt D i < 0 → 0 ≤ d → free (D.set i d) + 1 = free D
  | [], i, d, h, _, _ => by simp at h
  | x :: D, 0, d, _, h, hd => by
    have hx : x < 0 := by simpa [dAt] using h
    have hd' : ¬ d < 0 := by omega
    simp [free, hx, hd']
  | x :: D, i + 1, d, hi, h, hd => by
    have := free_set D i d (by simpa using hi) (by simpa [dAt] using h) hd
    unfold free at this ⊢
    simp only [List.set_cons_succ, List.countP_cons]
    omega

/-- What is marked stays marked as it is. -/
def Ext (D D' : List Int) : Prop := D'.length = D.length ∧ ∀ i, 0 ≤ dAt D i → dAt D' i = dAt D i
theorem Ext.refl (D : List Int) : Ext D D := ⟨rfl, fun _ _ => rfl⟩
theorem Ext.trans {D D' D'' : List Int} (h : Ext D D') (h' : Ext D' D'') : Ext D D'' :=
  ⟨h'.1.trans h.1, fun i hi => by have e := h.2 i hi; rw [h'.2 i (by rw [e]; exact hi), e]⟩

/-- The invariant: S: the orders that have been looked at, W: those still to be; what is marked is in one of both; those in S lead where they have to; whatever marking there is, it goes together with D. -/
structure Inv (C : GCode) (f : GFn) (D : List Int) (S : Nat → Prop) (W : List Int) : Prop where
  len : D.length = C.ops.length
  le : ∀ i, dAt D i ≤ 1200
  root : dAt D f.start.toNat = 0
  mark : ∀ i, 0 ≤ dAt D i → S i ∨ (i : Int) ∈ W
  inW : ∀ x ∈ W, 0 ≤ x ∧ x < C.ops.length ∧ 0 ≤ dAt D x.toNat
  done : ∀ i, S i → 0 ≤ dAt D i ∧ ∃ l, stepF C f.slots i (dAt D i) = some l ∧ ∀ x ∈ l, 0 ≤ x.1 ∧ x.1 < C.ops.length ∧ x.2 ≤ 1200 ∧ 0 ≤ x.2 ∧ dAt D x.1.toNat = x.2
  sound : ∀ L, Lab C f L → ∀ i, 0 ≤ dAt D i → L i = dAt D i

theorem dAt_out {D : List Int} {i : Nat} (h : D.length ≤ i) : dAt D i = -1 := by
  unfold dAt; simp [List.getD_eq_getElem?_getD, List.getElem?_eq_none h]

/-- No order is left: there is a marking. -/
theorem Inv.good {C : GCode} {f : GFn} {D : List Int} {S : Nat → Prop} (h : Inv C f D S []) : formOK C f = true := by
  refine formOK_of ⟨dAt D, h.root, fun i hi hd => ?_⟩
  rcases h.mark i hd with hs | hw
  · obtain ⟨_, l, hl, hx⟩ := h.done i hs
    exact ⟨l, hl, fun x hm => let ⟨a, b, c, _, e⟩ := hx x hm; ⟨a, b, c, e⟩⟩
  · simp at hw

/-- The start. -/
theorem Inv.start {C : GCode} {f : GFn} (h0 : 0 ≤ f.start) (h1 : f.start < C.ops.length) : Inv C f ((List.replicate C.ops.length (-1)).set f.start.toNat 0) (fun _ => False) [f.start] := by
  have hd : ∀ i, dAt ((List.replicate C.ops.length (-1 : Int)).set f.start.toNat 0) i = if f.start.toNat = i then 0 else -1 := by
    intro i
    rw [dAt_set]
    have : dAt (List.replicate C.ops.length (-1 : Int)) i = -1 := by
      unfold dAt
      by_cases h : i < C.ops.length <;> simp [h]
    rw [this]
    by_cases h : f.start.toNat = i
    · subst h
      have : f.start.toNat < C.ops.length := by omega
      simp [this]
    · simp [h]
  refine ⟨by simp, (fun i => by rw [hd]; split <;> omega), by rw [hd]; simp, fun i hi => ?_, ?_, fun _ h => h.elim, fun L hL i hi => ?_⟩
  · rw [hd] at hi
    split at hi
    · rename_i e; subst e
      exact Or.inr (by simp; omega)
    · omega
  · intro x hx
    have : x = f.start := by simpa using hx
    subst this
    exact ⟨h0, h1, by rw [hd]; simp⟩
  · rw [hd] at hi ⊢
    split at hi
    · rename_i e; subst e
      simp [hL.root]
    · omega

/-- While the order i (marked, no more in W) is being looked at: W grows by what is newly marked. -/
structure Mid (C : GCode) (f : GFn) (D : List Int) (S : Nat → Prop) (W : List Int) (i : Nat) : Prop where
  len : D.length = C.ops.length
  le : ∀ i, dAt D i ≤ 1200
  root : dAt D f.start.toNat = 0
  mark : ∀ j, 0 ≤ dAt D j → S j ∨ (j : Int) ∈ W ∨ j = i
  inW : ∀ x ∈ W, 0 ≤ x ∧ x < C.ops.length ∧ 0 ≤ dAt D x.toNat
  done : ∀ j, S j → 0 ≤ dAt D j ∧ ∃ l, stepF C f.slots j (dAt D j) = some l ∧ ∀ x ∈ l, 0 ≤ x.1 ∧ x.1 < C.ops.length ∧ x.2 ≤ 1200 ∧ 0 ≤ x.2 ∧ dAt D x.1.toNat = x.2
  sound : ∀ L, Lab C f L → ∀ j, 0 ≤ dAt D j → L j = dAt D j
  here : 0 ≤ dAt D i ∧ i < C.ops.length

theorem Inv.mid {C : GCode} {f : GFn} {D : List Int} {S : Nat → Prop} {W W' : List Int} {x : Int} (h : Inv C f D S W) (hx : x ∈ W) (hW : ∀ y, y ∈ W → y = x ∨ y ∈ W') (hW' : ∀ y ∈ W', y ∈ W) : Mid C f D S W' x.toNat := by
  have hh := h.inW x hx
  refine ⟨h.len, h.le, h.root, fun j hj => ?_, fun y hy => h.inW y (hW' y hy), h.done, h.sound, hh.2.2, by omega⟩
  rcases h.mark j hj with hs | hw
  · exact Or.inl hs
  · rcases hW _ hw with e | hw'
    · exact Or.inr (Or.inr (by omega))
    · exact Or.inr (Or.inl hw')

theorem Mid.no {C : GCode} {f : GFn} {D : List Int} {S : Nat → Prop} {W : List Int} {i : Nat} (h : Mid C f D S W i) (hn : stepF C f.slots i (dAt D i) = none) : formOK C f = false := by
  refine formOK_not ?_
  rintro ⟨L, hL⟩
  have e := h.sound L hL i h.here.1
  obtain ⟨l, hl, _⟩ := hL.step i h.here.2 (by rw [e]; exact h.here.1)
  rw [e, hn] at hl
  cases hl

/-- An order that is come to from i but does not go together: no marking. -/
theorem Mid.bad {C : GCode} {f : GFn} {D D0 : List Int} {S : Nat → Prop} {W : List Int} {i : Nat} (h : Mid C f D S W i) (he : Ext D0 D) (h0 : 0 ≤ dAt D0 i) {l : List (Int × Int)} (hl : stepF C f.slots i (dAt D0 i) = some l) {x : Int × Int} (hx : x ∈ l) (hb : leadOK D x.1 x.2 = false) : formOK C f = false := by
  refine formOK_not ?_
  rintro ⟨L, hL⟩
  have e := h.sound L hL i h.here.1
  have e0 := he.2 i h0
  obtain ⟨l', hl', hst⟩ := hL.step i h.here.2 (by rw [e]; exact h.here.1)
  rw [e, e0, hl] at hl'
  cases hl'
  obtain ⟨a1, a2, a3, a4⟩ := hst x hx
  unfold leadOK at hb
  have hb := of_decide_eq_false hb
  apply hb
  refine ⟨by rw [h.len]; exact a2, a3, ?_⟩
  by_cases hd : dAt D x.1.toNat < 0
  · exact Or.inl hd
  · exact Or.inr (by rw [← h.sound L hL _ (by omega), a4])

theorem Mid.lead {C : GCode} {f : GFn} {D D0 : List Int} {S : Nat → Prop} {W : List Int} {i : Nat} (h : Mid C f D S W i) (he : Ext D0 D) (h0 : 0 ≤ dAt D0 i) {l : List (Int × Int)} (hl : stepF C f.slots i (dAt D0 i) = some l) {x : Int × Int} (hx : x ∈ l) (hx1 : 0 ≤ x.1) (hx2 : 0 ≤ x.2) (hb : leadOK D x.1 x.2 = true) :
    Mid C f (leadD D x.1 x.2) S (leadW D W x.1) i ∧ Ext D (leadD D x.1 x.2) ∧ dAt (leadD D x.1 x.2) x.1.toNat = x.2 ∧ 2 * free (leadD D x.1 x.2) + (leadW D W x.1).length ≤ 2 * free D + W.length := by
  have hb := of_decide_eq_true hb
  obtain ⟨b1, b2, b3⟩ := hb
  by_cases hd : dAt D x.1.toNat < 0
  · have e1 : leadD D x.1 x.2 = D.set x.1.toNat x.2 := by unfold leadD; rw [if_pos hd]
    have e2 : leadW D W x.1 = W ++ [x.1] := by unfold leadW; rw [if_pos hd]
    rw [e1, e2]
    have hlt : x.1.toNat < D.length := by omega
    have hat : ∀ j, dAt (D.set x.1.toNat x.2) j = if x.1.toNat = j then x.2 else dAt D j := by
      intro j
      rw [dAt_set]
      by_cases hj : x.1.toNat = j
      · subst hj; simp [hlt]
      · simp [hj]
    have hext : Ext D (D.set x.1.toNat x.2) := ⟨by simp, fun j hj => by
      rw [hat, if_neg]; intro e; subst e; omega⟩
    refine ⟨⟨by simpa using h.len, (fun j => by rw [hat]; have := h.le j; split <;> omega), ?_, ?_, ?_, ?_, ?_, ?_⟩, hext, by rw [hat]; simp, ?_⟩
    · rw [hext.2 _ (by rw [h.root]; omega)]; exact h.root
    · intro j hj
      rw [hat] at hj
      by_cases e : x.1.toNat = j
      · subst e; exact Or.inr (Or.inl (by simp; omega))
      · rw [if_neg e] at hj
        rcases h.mark j hj with a | a | a
        · exact Or.inl a
        · exact Or.inr (Or.inl (by simp [a]))
        · exact Or.inr (Or.inr a)
    · intro y hy
      rcases List.mem_append.1 hy with hy | hy
      · obtain ⟨c1, c2, c3⟩ := h.inW y hy
        exact ⟨c1, c2, by rw [hext.2 _ c3]; exact c3⟩
      · have : y = x.1 := by simpa using hy
        subst this
        exact ⟨hx1, by rw [← h.len]; exact b1, by rw [hat]; simp; exact hx2⟩
    · intro j hj
      obtain ⟨c1, l', c2, c3⟩ := h.done j hj
      refine ⟨by rw [hext.2 _ c1]; exact c1, l', by rw [hext.2 _ c1]; exact c2, fun y hy => ?_⟩
      obtain ⟨c4, c5, c6, c8, c7⟩ := c3 y hy
      exact ⟨c4, c5, c6, c8, by rw [hext.2 _ (by rw [c7]; exact c8)]; exact c7⟩
    · intro L hL j hj
      rw [hat] at hj ⊢
      by_cases e : x.1.toNat = j
      · subst e
        rw [if_pos rfl]
        have ei := h.sound L hL i h.here.1
        have e0 := he.2 i h0
        obtain ⟨l', hl', hst⟩ := hL.step i h.here.2 (by rw [ei]; exact h.here.1)
        rw [ei, e0, hl] at hl'
        cases hl'
        exact (hst x hx).2.2.2
      · rw [if_neg e] at hj ⊢
        exact h.sound L hL j hj
    · refine ⟨?_, h.here.2⟩
      rw [hext.2 _ h.here.1]; exact h.here.1
    · have := free_set D x.1.toNat x.2 hlt hd hx2
      simp
      omega
  · have e1 : leadD D x.1 x.2 = D := by unfold leadD; rw [if_neg hd]
    have e2 : leadW D W x.1 = W := by unfold leadW; rw [if_neg hd]
    rw [e1, e2]
    exact ⟨h, Ext.refl D, by rcases b3 with b3 | b3 <;> omega, by omega⟩

/-- Coming to several orders, one behind the other; it ends where one does not go together. -/
def leads : List Int → List Int → List (Int × Int) → Bool × List Int × List Int
  | D, W, [] => (true, D, W)
  | D, W, x :: l => if leadOK D x.1 x.2 = true then leads (leadD D x.1 x.2) (leadW D W x.1) l else (false, D, W)

theorem leads_mid {C : GCode} {f : GFn} {D0 : List Int} {S : Nat → Prop} {i : Nat} {l0 : List (Int × Int)} (h0 : 0 ≤ dAt D0 i) (hl0 : stepF C f.slots i (dAt D0 i) = some l0) (hpos : ∀ x ∈ l0, 0 ≤ x.1 ∧ 0 ≤ x.2) :
    ∀ (l done : List (Int × Int)) (D W : List Int), (∀ x ∈ l, x ∈ l0) → Mid C f D S W i → Ext D0 D → (∀ x ∈ done, 0 ≤ x.1 ∧ x.1 < C.ops.length ∧ x.2 ≤ 1200 ∧ 0 ≤ x.2 ∧ dAt D x.1.toNat = x.2) →
      ((leads D W l).1 = true → Mid C f (leads D W l).2.1 S (leads D W l).2.2 i ∧ Ext D0 (leads D W l).2.1 ∧ (∀ x ∈ done ++ l, 0 ≤ x.1 ∧ x.1 < C.ops.length ∧ x.2 ≤ 1200 ∧ 0 ≤ x.2 ∧ dAt (leads D W l).2.1 x.1.toNat = x.2) ∧
        2 * free (leads D W l).2.1 + (leads D W l).2.2.length ≤ 2 * free D + W.length) ∧
      ((leads D W l).1 = false → formOK C f = false)
  | [], done, D, W, hsub, hm, he, hd => by
    refine ⟨fun _ => ⟨hm, he, fun x hx => hd x (by simpa using hx), by simp [leads]⟩, fun h => by simp [leads] at h⟩
  | x :: l, done, D, W, hsub, hm, he, hd => by
    have hx := hsub x (by simp)
    obtain ⟨p1, p2⟩ := hpos x hx
    by_cases hb : leadOK D x.1 x.2 = true
    · obtain ⟨hm', he', hat, hms⟩ := hm.lead he h0 hl0 hx p1 p2 hb
      have hb' := of_decide_eq_true hb
      have ih := leads_mid h0 hl0 hpos l (done ++ [x]) (leadD D x.1 x.2) (leadW D W x.1) (fun y hy => hsub y (by simp [hy])) hm' (he.trans he') (by
        intro y hy
        rcases List.mem_append.1 hy with hy | hy
        · obtain ⟨c1, c2, c3, c4, c5⟩ := hd y hy
          exact ⟨c1, c2, c3, c4, by rw [he'.2 _ (by rw [c5]; exact c4)]; exact c5⟩
        · have : y = x := by simpa using hy
          subst this
          exact ⟨p1, by have := hm.len; omega, hb'.2.1, p2, hat⟩)
      have e : leads D W (x :: l) = leads (leadD D x.1 x.2) (leadW D W x.1) l := by rw [leads, if_pos hb]
      rw [e]
      refine ⟨fun h => ?_, ih.2⟩
      obtain ⟨a1, a2, a3, a4⟩ := ih.1 h
      exact ⟨a1, a2, fun y hy => a3 y (by simpa using hy), by omega⟩
    · have e : leads D W (x :: l) = (false, D, W) := by rw [leads, if_neg hb]
      rw [e]
      exact ⟨fun h => by simp at h, fun _ => hm.bad he h0 hl0 hx (by simpa using hb)⟩

theorem leads_inv {C : GCode} {f : GFn} {D : List Int} {S : Nat → Prop} {W : List Int} {i : Nat} {l : List (Int × Int)} (hm : Mid C f D S W i) (hl : stepF C f.slots i (dAt D i) = some l) (hpos : ∀ x ∈ l, 0 ≤ x.1 ∧ 0 ≤ x.2) :
    ((leads D W l).1 = true → Inv C f (leads D W l).2.1 (fun j => S j ∨ j = i) (leads D W l).2.2 ∧ 2 * free (leads D W l).2.1 + (leads D W l).2.2.length ≤ 2 * free D + W.length) ∧
    ((leads D W l).1 = false → formOK C f = false) := by
  have h := leads_mid hm.here.1 hl hpos l [] D W (fun _ h => h) hm (Ext.refl D) (by simp)
  refine ⟨fun hb => ?_, h.2⟩
  obtain ⟨a1, a2, a3, a4⟩ := h.1 hb
  refine ⟨⟨a1.len, a1.le, a1.root, fun j hj => ?_, a1.inW, fun j hj => ?_, a1.sound⟩, a4⟩
  · rcases a1.mark j hj with b | b | b
    · exact Or.inl (Or.inl b)
    · exact Or.inr b
    · exact Or.inl (Or.inr b)
  · rcases hj with b | b
    · exact a1.done j b
    · subst b
      have e := a2.2 j hm.here.1
      exact ⟨a1.here.1, l, by rw [e]; exact hl, fun x hx => a3 x (by simpa using hx)⟩

theorem rangeB_pos {no nf nk : Nat} {o : GOp} (h : rangeB no nf nk o = true) : (o.d = 16 ∨ o.d = 17 ∨ o.d = 18 → 0 ≤ o.a ∧ o.a < no) ∧ (o.d = 29 ∨ o.d = 30 → 0 ≤ o.b ∧ o.b < no ∧ 0 ≤ o.a ∧ o.a ≤ 1) ∧ (o.d = 28 ∨ o.d = 19 ∨ o.d = 27 ∨ o.d = 2 ∨ o.d = 3 ∨ o.d = 4 → 0 ≤ o.a ∧ o.a ≤ 1200) ∧ (o.d = 5 → 0 ≤ o.a ∧ o.a < nf) ∧ 1 ≤ o.d ∧ o.d ≤ 30 := by
  unfold rangeB at h
  refine ⟨fun e => ?_, fun e => ?_, fun e => ?_, fun e => ?_, ?_⟩
  · rcases e with e | e | e <;> simp [e, inB] at h <;> omega
  · rcases e with e | e <;> simp [e, inB] at h <;> omega
  · rcases e with e | e | e | e | e | e <;> simp [e, inB] at h <;> omega
  · simp [e, inB] at h; omega
  · refine Classical.byContradiction fun hn => ?_
    have k : ∀ n : Int, 1 ≤ n → n ≤ 30 → ¬ o.d = n := fun n _ _ e => hn (by omega)
    rw [if_neg (k 1 (by omega) (by omega)), if_neg (by omega), if_neg (by omega), if_neg (by omega), if_neg (by omega), if_neg (by omega), if_neg (by omega), if_neg (by omega), if_neg (by omega), if_neg (by omega), if_neg (by omega)] at h
    cases h

theorem restDeep_le : ∀ (l : List GOp) (d : Int), (∀ o ∈ l, o.d = 29 ∨ o.d = 30 → 0 ≤ o.a) → restDeep d l ≤ d
  | [], d, _ => by simp [restDeep]
  | o :: l, d, h => by
    rw [restDeep]
    have := restDeep_le l (if o.d = 29 then d - (1 + o.a) else d) (fun y hy => h y (by simp [hy]))
    split at this
    · rename_i e
      have := h o (by simp) (Or.inl e)
      rw [if_pos e]; omega
    · rename_i e
      rw [if_neg e]; exact this

/-- Where one goes on to is an order with a depth, neither negative. -/
theorem stepF_pos {C : GCode} {slots : Int} {i : Nat} {deep : Int} {l : List (Int × Int)} (hr : ∀ o ∈ C.ops, rangeB C.ops.length C.fns.length C.kinds.length o = true) (hi : i < C.ops.length) (hd : 0 ≤ deep) (h : stepF C slots i deep = some l) : ∀ x ∈ l, 0 ≤ x.1 ∧ 0 ≤ x.2 := by
  have ho : opAt C i ∈ C.ops := by
    unfold opAt
    rw [List.getD_eq_getElem?_getD, List.getElem?_eq_getElem hi]
    simp
  obtain ⟨r1, r2, r3, r4, r5, r6⟩ := rangeB_pos (hr _ ho)
  unfold stepF at h
  simp only at h
  by_cases c1 : (opAt C i).d = 29 ∨ (opAt C i).d = 30
  · rw [if_pos c1] at h; cases h
  rw [if_neg c1] at h
  by_cases c2 : (opAt C i).d = 28
  · rw [if_pos c2] at h
    unfold chooseF at h
    by_cases d1 : (C.ops.length : Int) ≤ i + (opAt C i).a
    · rw [if_pos d1] at h; cases h
    rw [if_neg d1] at h
    by_cases d2 : (casesOf C i).all (fun o => decide (o.d = 29 ∨ o.d = 30)) = false
    · rw [if_pos d2] at h; cases h
    rw [if_neg d2] at h
    by_cases d3 : 1 < othersOf (casesOf C i) ∨ restDeep deep (casesOf C i) < 0
    · rw [if_pos d3] at h; cases h
    rw [if_neg d3] at h
    cases h
    intro x hx
    obtain ⟨o, hoc, rfl⟩ := List.mem_map.1 hx
    have hom : o ∈ C.ops := List.mem_of_mem_drop (List.mem_of_mem_take hoc)
    have hall : (casesOf C i).all (fun o => decide (o.d = 29 ∨ o.d = 30)) = true := (Bool.not_eq_false _).mp d2
    have hk := of_decide_eq_true (List.all_eq_true.1 hall o hoc)
    have := (rangeB_pos (hr o hom)).2.1 hk
    unfold caseTo
    refine ⟨this.1, ?_⟩
    dsimp only
    split <;> omega
  rw [if_neg c2] at h
  by_cases c3 : deep < (takesPuts (opAt C i)).1
  · rw [if_pos c3] at h; cases h
  rw [if_neg c3] at h
  by_cases c4 : ((opAt C i).d = 2 ∨ (opAt C i).d = 3 ∨ (opAt C i).d = 4) ∧ slots ≤ (opAt C i).a
  · rw [if_pos c4] at h; cases h
  rw [if_neg c4] at h
  by_cases c5 : (opAt C i).d = 5 ∧ (fnAt C (opAt C i).a.toNat).takes.any (fun x => decide (slots ≤ x)) = true
  · rw [if_pos c5] at h; cases h
  rw [if_neg c5] at h
  by_cases c6 : (opAt C i).d = 20 ∨ (opAt C i).d = 22
  · rw [if_pos c6] at h; cases h; simp
  rw [if_neg c6] at h
  have hput : 0 ≤ (takesPuts (opAt C i)).2 := by
    unfold takesPuts
    repeat' split
    all_goals simp
  have htake : (opAt C i).d = 17 ∨ (opAt C i).d = 18 → (takesPuts (opAt C i)).1 = 1 := by
    intro e
    unfold takesPuts
    rcases e with e | e <;> simp [e]
  by_cases c7 : (opAt C i).d = 16
  · rw [if_pos c7] at h; cases h
    intro x hx
    obtain rfl : x = _ := by simpa using hx
    exact ⟨(r1 (Or.inl c7)).1, hd⟩
  rw [if_neg c7] at h
  by_cases c8 : (opAt C i).d = 17
  · rw [if_pos c8] at h; cases h
    have := htake (Or.inl c8)
    have := (r1 (Or.inr (Or.inl c8))).1
    intro x hx
    rcases (by simpa using hx : x = _ ∨ x = _) with rfl | rfl
    · exact ⟨by omega, by dsimp only; omega⟩
    · exact ⟨by dsimp only; omega, by dsimp only; omega⟩
  rw [if_neg c8] at h
  by_cases c9 : (opAt C i).d = 18
  · rw [if_pos c9] at h; cases h
    have := htake (Or.inr c9)
    have := (r1 (Or.inr (Or.inr c9))).1
    intro x hx
    rcases (by simpa using hx : x = _ ∨ x = _) with rfl | rfl
    · exact ⟨by omega, by dsimp only; omega⟩
    · exact ⟨by dsimp only; omega, by dsimp only; omega⟩
  rw [if_neg c9] at h
  cases h
  intro x hx
  obtain rfl : x = _ := by simpa using hx
  exact ⟨by dsimp only; omega, by dsimp only; omega⟩
end Go.Proofs.Ytjomajfgoaifbaa.Cd
