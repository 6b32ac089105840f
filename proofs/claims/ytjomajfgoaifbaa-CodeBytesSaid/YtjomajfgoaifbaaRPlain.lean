/-
  PROVED HERE, WITHOUT A WALK: what coming to several orders, one behind the other, makes of the reference's walk; the cases of a select, one by one. No condition beyond the lemmas' own premises.
-/
import Derived.Test.YtjomajfgoaifbaaRLead
namespace Go.Proofs.Ytjomajfgoaifbaa
open Cd

def LeadPost (D R : List Int) (l : List (Int × Int)) (D' R' : List Int) (bad : Bool) : Prop :=
  D'.length = D.length ∧ ((leads D R l).1 = true → bad = false ∧ D' = (leads D R l).2.1 ∧ R' = (leads D R l).2.2) ∧ ((leads D R l).1 = false → bad = true)

theorem rD_length (D : List Int) (t d : Int) : (rD D t d).length = D.length := by
  unfold rD; split
  · exact leadD_length _ _ _
  · rfl

theorem leads_snoc : ∀ (l : List (Int × Int)) (D R : List Int) (x : Int × Int), (leads D R (l ++ [x])).1 = ((leads D R l).1 && leadOK (leads D R l).2.1 x.1 x.2) ∧
    ((leads D R (l ++ [x])).1 = true → (leads D R (l ++ [x])).2.1 = leadD (leads D R l).2.1 x.1 x.2 ∧ (leads D R (l ++ [x])).2.2 = leadW (leads D R l).2.1 (leads D R l).2.2 x.1)
  | [], D, R, x => by
    by_cases h : leadOK D x.1 x.2 = true
    · simp [leads, h]
    · simp [leads, h]
  | y :: l, D, R, x => by
    by_cases h : leadOK D y.1 y.2 = true
    · have ih := leads_snoc l (leadD D y.1 y.2) (leadW D R y.1) x
      simp only [List.cons_append, leads, if_pos h]
      exact ih
    · simp only [List.cons_append, leads, if_neg h]
      simp

theorem LeadPost.nil (D R : List Int) : LeadPost D R [] D R false := ⟨rfl, fun _ => ⟨rfl, rfl, rfl⟩, fun h => by simp [leads] at h⟩

theorem LeadPost.snoc {D R Dk Rk : List Int} {l : List (Int × Int)} {bk : Bool} (h : LeadPost D R l Dk Rk bk) (x : Int × Int) : LeadPost D R (l ++ [x]) (rD Dk x.1 x.2) (rR Dk Rk x.1 x.2) (rBad Dk bk x.1 x.2) := by
  obtain ⟨h1, h2, h3⟩ := h
  obtain ⟨s1, s2⟩ := leads_snoc l D R x
  refine ⟨by rw [rD_length]; exact h1, fun ht => ?_, fun hf => ?_⟩
  · rw [s1, Bool.and_eq_true] at ht
    obtain ⟨t1, t2⟩ := ht
    obtain ⟨rfl, rfl, rfl⟩ := h2 t1
    have ok := of_decide_eq_true t2
    have hc : x.1 < ((leads D R l).2.1).length ∧ x.2 ≤ 1200 := ⟨ok.1, ok.2.1⟩
    have e := s2 (by rw [s1, t1, t2]; rfl)
    refine ⟨by unfold rBad; rw [t2]; rfl, ?_, ?_⟩
    · rw [e.1]; unfold rD; rw [if_pos hc]
    · rw [e.2]; unfold rR; rw [if_pos hc]
  · rw [s1] at hf
    unfold rBad
    cases h4 : (leads D R l).1 with
    | false => rw [h3 h4]; rfl
    | true =>
      obtain ⟨rfl, rfl, rfl⟩ := h2 h4
      rw [h4, Bool.true_and] at hf
      rw [hf]; rfl

/-- What an order makes of the walk. -/
def OrdPost (o : Option (List (Int × Int))) (D R D' R' : List Int) (bad : Bool) : Prop :=
  D'.length = D.length ∧ (o = none → bad = true) ∧ ∀ l, o = some l → LeadPost D R l D' R' bad

theorem OrdPost.of_none {D R D' R' : List Int} (h : D'.length = D.length) : OrdPost none D R D' R' true := ⟨h, fun _ => rfl, fun l h => by cases h⟩
theorem OrdPost.of_some {D R D' R' : List Int} {l : List (Int × Int)} {bad : Bool} (h : LeadPost D R l D' R' bad) : OrdPost (some l) D R D' R' bad := ⟨h.1, (fun h => by cases h), (fun l' e => by cases e; exact h)⟩

/-! ### The cases of a select -/
def casesN (C : GCode) (at_ k : Nat) : List GOp := (C.ops.drop (at_ + 1)).take k
theorem casesN_succ {C : GCode} {at_ k : Nat} (h : at_ + 1 + k < C.ops.length) : casesN C at_ (k + 1) = casesN C at_ k ++ [opAt C (at_ + 1 + k)] := by
  unfold casesN opAt
  rw [List.take_succ_eq_append_getElem (by simp; omega)]
  simp [List.getElem?_eq_getElem h]
theorem casesN_all {C : GCode} {at_ : Nat} : casesOf C at_ = casesN C at_ (opAt C at_).a.toNat := rfl
theorem othersOf_snoc : ∀ (l : List GOp) (o : GOp), othersOf (l ++ [o]) = othersOf l + (if o.d = 30 then 1 else 0)
  | [], o => by simp [othersOf]
  | x :: l, o => by rw [List.cons_append, othersOf, othersOf_snoc l o, othersOf]; omega
theorem restDeep_snoc : ∀ (l : List GOp) (d : Int) (o : GOp), restDeep d (l ++ [o]) = if o.d = 29 then restDeep d l - (1 + o.a) else restDeep d l
  | [], d, o => by simp [restDeep]
  | x :: l, d, o => by rw [List.cons_append, restDeep, restDeep_snoc l _ o, restDeep]
theorem othersOf_le : ∀ (l : List GOp), othersOf l ≤ l.length
  | [] => by simp [othersOf]
  | o :: l => by have := othersOf_le l; rw [othersOf, List.length_cons]; split <;> omega
theorem restDeep_bd : ∀ (l : List GOp) (d : Int), (∀ o ∈ l, o.d = 29 → 0 ≤ o.a ∧ o.a ≤ 1) → d - 2 * l.length ≤ restDeep d l ∧ restDeep d l ≤ d
  | [], d, _ => by simp [restDeep]
  | o :: l, d, h => by
    have hh := h o (by simp)
    have ih := restDeep_bd l (if o.d = 29 then d - (1 + o.a) else d) (fun y hy => h y (by simp [hy]))
    rw [restDeep, List.length_cons]
    by_cases e : o.d = 29
    · have := hh e
      rw [if_pos e] at ih ⊢
      omega
    · rw [if_neg e] at ih ⊢
      omega
theorem opAt_mem {C : GCode} {i : Nat} (h : i < C.ops.length) : opAt C i ∈ C.ops := by
  unfold opAt
  rw [List.getD_eq_getElem?_getD, List.getElem?_eq_getElem h]
  simp
theorem casesN_mem {C : GCode} {at_ k : Nat} {o : GOp} (h : o ∈ casesN C at_ k) : o ∈ C.ops := List.mem_of_mem_drop (List.mem_of_mem_take h)
theorem casesN_length {C : GCode} {at_ k : Nat} (h : at_ + 1 + k ≤ C.ops.length) : (casesN C at_ k).length = k := by
  unfold casesN; simp; omega

theorem choose_short {C : GCode} {at_ : Nat} {deep : Int} (h : (C.ops.length : Int) ≤ at_ + (opAt C at_).a) : chooseF C at_ deep = none := by unfold chooseF; rw [if_pos h]
theorem choose_other {C : GCode} {at_ k : Nat} {deep : Int} (h0 : 0 ≤ (opAt C at_).a) (hk : k < (opAt C at_).a) (hl : at_ + 1 + k < C.ops.length) (h1 : (opAt C (at_ + 1 + k)).d ≠ 29) (h2 : (opAt C (at_ + 1 + k)).d ≠ 30) : chooseF C at_ deep = none := by
  unfold chooseF
  split
  · rfl
  · rename_i hs
    rw [if_pos]
    rw [List.all_eq_false]
    refine ⟨opAt C (at_ + 1 + k), ?_, by simp [h1, h2]⟩
    rw [casesN_all]
    have hm : opAt C (at_ + 1 + k) ∈ casesN C at_ (k + 1) := by rw [casesN_succ hl]; simp
    unfold casesN at hm ⊢
    exact List.mem_of_mem_take (i := k + 1) (by rw [List.take_take, Nat.min_eq_left (by omega)]; exact hm)
theorem choose_many {C : GCode} {at_ : Nat} {deep : Int} (h : 1 < othersOf (casesOf C at_) ∨ restDeep deep (casesOf C at_) < 0) : chooseF C at_ deep = none := by
  unfold chooseF
  split
  · rfl
  · split
    · rfl
    · first | rfl | rw [if_pos h]
theorem choose_some {C : GCode} {at_ : Nat} {deep : Int} (h : ¬ (C.ops.length : Int) ≤ at_ + (opAt C at_).a) (h1 : ∀ o ∈ casesOf C at_, o.d = 29 ∨ o.d = 30) (h2 : ¬ 1 < othersOf (casesOf C at_)) (h3 : ¬ restDeep deep (casesOf C at_) < 0) :
    chooseF C at_ deep = some ((casesOf C at_).map (caseTo (restDeep deep (casesOf C at_)))) := by
  unfold chooseF
  rw [if_neg h, if_neg, if_neg (by omega)]
  have : (casesOf C at_).all (fun o => decide (o.d = 29 ∨ o.d = 30)) = true := List.all_eq_true.2 fun o ho => decide_eq_true (h1 o ho)
  rw [this]
  simp
end Go.Proofs.Ytjomajfgoaifbaa
