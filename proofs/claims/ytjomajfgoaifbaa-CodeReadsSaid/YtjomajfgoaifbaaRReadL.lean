/-
  PROVED HERE: plain facts for the walk of the reference's Read: what it has read, though it goes on behind what is wrong. No condition beyond the lemmas' own premises.
-/
import Derived.Test.YtjomajfgoaifbaaRCount
namespace Go.Proofs.Ytjomajfgoaifbaa
open Go.RowKit

/-- The bytes told so far, or that they are wrong. -/
def Lk (b : List UInt8) (x : Except Int (List UInt8)) (Z : List UInt8 → Prop) : Prop := match x with
  | .error c => Rd.codeP b = .error c
  | .ok r => Z r

def RepZ {α : Type} (b : List UInt8) (p : Rd.P α) (n1 : Int) (k : Nat) (os : List α) (Z : List α → List UInt8 → Prop) (r : List UInt8) : Prop :=
  ∃ (n : Nat) (r0 : List UInt8), n1 = n ∧ n ≤ 10000 ∧ k ≤ n ∧ Rd.rep p k r0 = .ok (os, r) ∧ (∀ c, Rd.rep p n r0 = .error c → Rd.codeP b = .error c) ∧ ∀ l' r', Rd.rep p n r0 = .ok (l', r') → Z l' r'
/-- A repeated reading under way. -/
def RepL {α : Type} (b : List UInt8) (p : Rd.P α) (n1 : Int) (k : Nat) (os : List α) (x : Except Int (List UInt8)) (Z : List α → List UInt8 → Prop) : Prop := Lk b x (RepZ b p n1 k os Z)

def errX (x : Except Int (List UInt8)) : Int := match x with
  | .ok _ => 0
  | .error c => c

theorem RrAt.blk {B p : Nat} {b : List UInt8} {x : Except Int (List UInt8)} {w : World} (h : RrAt B p b x w) : ∃ a n cap i, w.heap[p]? = some (.cells #[.slice a n cap, .int .i64 i, .int .i64 (errX x)] 79 (0, 0)) := by
  cases x with
  | ok r =>
    obtain ⟨v, i, h, hv, _, _⟩ := h
    obtain ⟨a, _, _, cap, rfl, _⟩ := hv
    exact ⟨_, _, _, _, h⟩
  | error c =>
    obtain ⟨a, n, cap, i, _, h⟩ := h
    exact ⟨a, n, cap, i, h⟩
theorem RrAt.ok {B p : Nat} {b : List UInt8} {x : Except Int (List UInt8)} {w : World} (h : RrAt B p b x w) (h0 : errX x = 0) : ∃ r, x = .ok r := by
  cases x with
  | ok r => exact ⟨r, rfl⟩
  | error c =>
    obtain ⟨a, n, cap, i, hc, _⟩ := h
    exact absurd h0 hc
theorem RrAt.lt {B p : Nat} {b : List UInt8} {x : Except Int (List UInt8)} {w : World} (h : RrAt B p b x w) : p < w.heap.size := by
  obtain ⟨a, n, cap, i, h⟩ := h.blk
  exact blk_lt h
theorem RrAt.keep {B p : Nat} {b : List UInt8} {x : Except Int (List UInt8)} {w w' : World} (h : RrAt B p b x w) (hk : w'.heap[p]? = w.heap[p]?) (hb : Below p w w') (hB : B ≤ p) : RrAt B p b x w' := by
  cases x with
  | ok r =>
    obtain ⟨v, i, h, hv, h1, h2⟩ := h
    exact ⟨v, i, hk.trans h, hv.below hb hB, h1, h2⟩
  | error c =>
    obtain ⟨a, n, cap, i, hc, h⟩ := h
    exact ⟨a, n, cap, i, hc, hk.trans h⟩

theorem numX_ok {r r' : List UInt8} {n : Int} (h : Rd.num r = .ok (n, r')) : numX (.ok r) = (n, .ok r') := by unfold numX; simp only [h]
theorem numX_er {r : List UInt8} {c : Int} (h : Rd.num r = .error c) : numX (.ok r) = (0, .error c) := by unfold numX; simp only [h]
theorem numX_bad (c : Int) : numX (.error c) = (0, .error c) := rfl
theorem countX_bade (c : Int) : countX (.error c) = (0, .error c) := rfl
theorem countX_okk {r r' : List UInt8} {n : Nat} (h : Rd.count r = .ok (n, r')) : countX (.ok r) = ((n : Int), .ok r') := by
  cases hx : Rd.num r with
  | error c =>
    rw [count_err hx] at h
    cases h
  | ok y =>
    obtain ⟨m, s⟩ := y
    by_cases hb : m < 0 ∨ 10000 < m
    · rw [count_bad hx hb] at h
      cases h
    · rw [count_ok hx hb] at h
      cases h
      rw [countX_ok (numX_ok hx) hb, Int.toNat_of_nonneg (by omega)]
theorem countX_er {r : List UInt8} {c : Int} (h : Rd.count r = .error c) : (countX (.ok r)).2 = .error c := by
  cases hx : Rd.num r with
  | error c' =>
    rw [count_err hx] at h
    cases h
    rw [countX_err (numX_er hx)]
  | ok y =>
    obtain ⟨m, s⟩ := y
    by_cases hb : m < 0 ∨ 10000 < m
    · rw [count_bad hx hb] at h
      cases h
      rw [countX_bad (numX_ok hx) hb]
    · rw [count_ok hx hb] at h
      cases h

/-- One reading more. -/
theorem RepL.step {α : Type} {b : List UInt8} {p : Rd.P α} {n1 : Int} {k : Nat} {os : List α} {r : List UInt8} {Z : List α → List UInt8 → Prop} (h : RepL b p n1 k os (.ok r) Z) (hk : (k : Int) < n1) :
    (∀ c, p r = .error c → Rd.codeP b = .error c) ∧ ∀ o r', p r = .ok (o, r') → RepL b p n1 (k + 1) (os ++ [o]) (.ok r') Z := by
  obtain ⟨n, r0, rfl, h1, h2, h3, h4, h5⟩ := h
  refine ⟨fun c hc => h4 c (Rd.rep_error (k := k + 1) (by rw [Rd.rep_succ h3, hc]) (by omega)), fun o r' ho => ?_⟩
  exact ⟨n, r0, rfl, h1, by omega, by rw [Rd.rep_succ h3, ho], h4, h5⟩
theorem RepL.bd {α : Type} {b : List UInt8} {p : Rd.P α} {n1 : Int} {k : Nat} {os : List α} {r : List UInt8} {Z : List α → List UInt8 → Prop} (h : RepL b p n1 k os (.ok r) Z) (hk : (k : Int) < n1) : k + 1 ≤ 10000 := by
  obtain ⟨n, r0, rfl, h1, h2, _⟩ := h
  omega
theorem RepL.done {α : Type} {b : List UInt8} {p : Rd.P α} {n1 : Int} {k : Nat} {os : List α} {x : Except Int (List UInt8)} {Z : List α → List UInt8 → Prop} (h : RepL b p n1 k os x Z) (hk : ¬ ((k : Int) < n1 ∧ errX x = 0)) : Lk b x (Z os) := by
  cases x with
  | error c => exact h
  | ok r =>
    obtain ⟨n, r0, rfl, h1, h2, h3, h4, h5⟩ := h
    have hkn : k = n := by
      have : ¬ (k : Int) < n := fun h0 => hk ⟨h0, rfl⟩
      omega
    subst hkn
    exact h5 os r h3
theorem Lk.rep {α : Type} {b : List UInt8} {p : Rd.P α} {n1 : Int} {k : Nat} {os : List α} {x : Except Int (List UInt8)} {Z : List α → List UInt8 → Prop} (h : Lk b x fun r => RepL b p n1 k os (.ok r) Z) : RepL b p n1 k os x Z := by
  cases x with
  | error c => exact h
  | ok r => exact h
theorem RepL.start {α : Type} {b r : List UInt8} {p : Rd.P α} {n : Nat} {Z : List α → List UInt8 → Prop} (hn : n ≤ 10000) (h1 : ∀ c, Rd.rep p n r = .error c → Rd.codeP b = .error c) (h2 : ∀ l r', Rd.rep p n r = .ok (l, r') → l.length ≤ 10000 → Z l r') : RepL b p n 0 [] (.ok r) Z :=
  ⟨n, r, rfl, hn, Nat.zero_le _, rfl, h1, fun l r' h => h2 l r' h (by rw [Rd.rep_length h]; exact hn)⟩

/-- A number more. -/
theorem RepL.num {b : List UInt8} {n1 : Int} {k : Nat} {os : List Int} {r : List UInt8} {Z : List Int → List UInt8 → Prop} (h : RepL b Rd.num n1 k os (.ok r) Z) (hk : (k : Int) < n1) :
    RepL b Rd.num n1 (k + 1) (os ++ [(numX (.ok r)).1]) (numX (.ok r)).2 Z := by
  obtain ⟨h1, h2⟩ := h.step hk
  cases hx : Rd.num r with
  | error c => rw [numX_er hx]; exact h1 c hx
  | ok y => rw [numX_ok hx]; exact h2 _ _ hx
/-- An order more. -/
theorem RepL.op {b : List UInt8} {n1 : Int} {k : Nat} {os : List Cd.GOp} {r : List UInt8} {x1 x2 x3 : Except Int (List UInt8)} {d a e : Int} {Z : List Cd.GOp → List UInt8 → Prop} (h : RepL b Rd.opP n1 k os (.ok r) Z) (hk : (k : Int) < n1)
    (e1 : numX (.ok r) = (d, x1)) (e2 : numX x1 = (a, x2)) (e3 : numX x2 = (e, x3)) : RepL b Rd.opP n1 (k + 1) (os ++ [⟨d, a, e⟩]) x3 Z := by
  obtain ⟨h1, h2⟩ := h.step hk
  cases hx : Rd.num r with
  | error c =>
    rw [numX_er hx] at e1
    cases e1
    cases e2
    cases e3
    exact h1 c (by simp only [Rd.opP, Rd.andThen, hx])
  | ok y =>
    obtain ⟨d', r1⟩ := y
    rw [numX_ok hx] at e1
    cases e1
    cases hy : Rd.num r1 with
    | error c =>
      rw [numX_er hy] at e2
      cases e2
      cases e3
      exact h1 c (by simp only [Rd.opP, Rd.andThen, hx, hy])
    | ok y =>
      obtain ⟨a', r2⟩ := y
      rw [numX_ok hy] at e2
      cases e2
      cases hz : Rd.num r2 with
      | error c =>
        rw [numX_er hz] at e3
        cases e3
        exact h1 c (by simp only [Rd.opP, Rd.andThen, hx, hy, hz])
      | ok y =>
        obtain ⟨a', r3⟩ := y
        rw [numX_ok hz] at e3
        cases e3
        exact h2 _ _ (by simp only [Rd.opP, Rd.andThen, hx, hy, hz, Rd.give])
/-- A list begun. -/
theorem RepL.list {b : List UInt8} {n1 m : Int} {k : Nat} {os : List (List Int)} {r : List UInt8} {x1 : Except Int (List UInt8)} {Z : List (List Int) → List UInt8 → Prop} (h : RepL b Rd.listP n1 k os (.ok r) Z) (hk : (k : Int) < n1) (e1 : countX (.ok r) = (m, x1)) :
    RepL b Rd.num m 0 [] x1 fun l r' => RepL b Rd.listP n1 (k + 1) (os ++ [l]) (.ok r') Z := by
  obtain ⟨h1, h2⟩ := h.step hk
  cases hx : Rd.count r with
  | error c =>
    have := countX_er hx
    rw [e1] at this
    obtain rfl : x1 = _ := this
    exact h1 c (by simp only [Rd.listP, Rd.andThen, hx])
  | ok y =>
    obtain ⟨n, r1⟩ := y
    rw [countX_okk hx] at e1
    cases e1
    exact RepL.start (Rd.count_bd hx) (fun c hc => h1 c (by simp only [Rd.listP, Rd.andThen, hx, hc])) (fun l r' hl _ => h2 l r' (by simp only [Rd.listP, Rd.andThen, hx, hl]))
/-- A function begun. -/
theorem RepL.fn {b : List UInt8} {n1 m : Int} {k : Nat} {os : List Cd.GFn} {r : List UInt8} {x1 x2 x3 x4 : Except Int (List UInt8)} {d a e : Int} {Z : List Cd.GFn → List UInt8 → Prop} (h : RepL b Rd.fnP n1 k os (.ok r) Z) (hk : (k : Int) < n1)
    (e1 : numX (.ok r) = (d, x1)) (e2 : numX x1 = (a, x2)) (e3 : numX x2 = (e, x3)) (e4 : countX x3 = (m, x4)) :
    RepL b Rd.num m 0 [] x4 fun l r' => RepL b Rd.fnP n1 (k + 1) (os ++ [⟨d, a, e, l⟩]) (.ok r') Z := by
  obtain ⟨h1, h2⟩ := h.step hk
  cases hx : Rd.num r with
  | error c =>
    rw [numX_er hx] at e1
    cases e1
    cases e2
    cases e3
    cases e4
    exact h1 c (by simp only [Rd.fnP, Rd.andThen, hx])
  | ok y =>
    obtain ⟨d', r1⟩ := y
    rw [numX_ok hx] at e1
    cases e1
    cases hy : Rd.num r1 with
    | error c =>
      rw [numX_er hy] at e2
      cases e2
      cases e3
      cases e4
      exact h1 c (by simp only [Rd.fnP, Rd.andThen, hx, hy])
    | ok y =>
      obtain ⟨a', r2⟩ := y
      rw [numX_ok hy] at e2
      cases e2
      cases hz : Rd.num r2 with
      | error c =>
        rw [numX_er hz] at e3
        cases e3
        cases e4
        exact h1 c (by simp only [Rd.fnP, Rd.andThen, hx, hy, hz])
      | ok y =>
        obtain ⟨a', r3⟩ := y
        rw [numX_ok hz] at e3
        cases e3
        cases hv : Rd.count r3 with
        | error c =>
          have := countX_er hv
          rw [e4] at this
          obtain rfl : x4 = _ := this
          exact h1 c (by simp only [Rd.fnP, Rd.listP, Rd.andThen, hx, hy, hz, hv])
        | ok y =>
          obtain ⟨n, r4⟩ := y
          rw [countX_okk hv] at e4
          cases e4
          exact RepL.start (Rd.count_bd hv) (fun c hc => h1 c (by simp only [Rd.fnP, Rd.listP, Rd.andThen, hx, hy, hz, hv, hc])) (fun l r' hl _ => h2 _ r' (by simp only [Rd.fnP, Rd.listP, Rd.andThen, hx, hy, hz, hv, hl, Rd.give]))

/-- All told. -/
def Told (b : List UInt8) (os : List Cd.GOp) (fs : List Cd.GFn) (ks : List (List Int)) (r : List UInt8) : Prop :=
  Rd.codeP b = .ok (⟨os, fs, ks⟩, r) ∧ os.length ≤ 10000 ∧ fs.length ≤ 10000 ∧ ks.length ≤ 10000
/-- The head told. -/
theorem heads_told {b : List UInt8} {n1 n2 n3 : Int} {x1 x2 x3 : Except Int (List UInt8)} (e1 : countX (.ok b) = (n1, x1)) (e2 : countX x1 = (n2, x2)) (e3 : countX x2 = (n3, x3)) :
    RepL b Rd.opP n1 0 [] x3 fun os r => RepL b Rd.fnP n2 0 [] (.ok r) fun fs r => RepL b Rd.listP n3 0 [] (.ok r) fun ks r => Told b os fs ks r := by
  cases hx : Rd.count b with
  | error c =>
    have := countX_er hx
    rw [e1] at this
    obtain rfl : x1 = _ := this
    cases e2
    cases e3
    show Rd.codeP b = .error c
    simp only [Rd.codeP, Rd.andThen, hx]
  | ok y =>
    obtain ⟨n, r1⟩ := y
    rw [countX_okk hx] at e1
    cases e1
    cases hy : Rd.count r1 with
    | error c =>
      have := countX_er hy
      rw [e2] at this
      obtain rfl : x2 = _ := this
      cases e3
      show Rd.codeP b = .error c
      simp only [Rd.codeP, Rd.andThen, hx, hy]
    | ok y =>
      obtain ⟨n', r2⟩ := y
      rw [countX_okk hy] at e2
      cases e2
      cases hz : Rd.count r2 with
      | error c =>
        have := countX_er hz
        rw [e3] at this
        obtain rfl : x3 = _ := this
        show Rd.codeP b = .error c
        simp only [Rd.codeP, Rd.andThen, hx, hy, hz]
      | ok y =>
        obtain ⟨n'', r3⟩ := y
        rw [countX_okk hz] at e3
        cases e3
        refine RepL.start (Rd.count_bd hx) (fun c hc => by simp only [Rd.codeP, Rd.andThen, hx, hy, hz, hc]) fun os r4 h4 l4 => ?_
        refine RepL.start (Rd.count_bd hy) (fun c hc => by simp only [Rd.codeP, Rd.andThen, hx, hy, hz, h4, hc]) fun fs r5 h5 l5 => ?_
        refine RepL.start (Rd.count_bd hz) (fun c hc => by simp only [Rd.codeP, Rd.andThen, hx, hy, hz, h4, h5, hc]) fun ks r6 h6 l6 => ?_
        exact ⟨by simp only [Rd.codeP, Rd.andThen, hx, hy, hz, h4, h5, h6, Rd.give], l4, l5, l6⟩
end Go.Proofs.Ytjomajfgoaifbaa
