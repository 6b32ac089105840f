/-
  PROVED HERE: the reference's parser: every function of it reads what its plain reader reads, with whatever fuel up to a million. No condition beyond the lemmas' own premises.
-/
import Derived.Test.YtjickecdkmljpaaGreatDoorPsTk
import Derived.Test.YtjickecdkmljpaaGreatDoorRsP13
import Derived.Test.YtjickecdkmljpaaGreatDoorRsP14
namespace Go.Proofs.YtjickecdkmljpaaGreatDoor.R
open Go.RowKit

section
variable {X : Ps.Src} {S : ByteArray}
/-- The contracts with one fuel. -/
structure Ct (X : Ps.Src) (S : ByteArray) (n : Nat) : Prop where
 typ : POk X S 158 oneV (Rs.run X n .typ)
 block : POk X S 110 oneV (Rs.run X n .block)
 stmt : POk X S 161 oneV (Rs.run X n .stmt)
 branch : POk X S 207 oneV (Rs.run X n .branch)
 unary : POk X S 243 oneV (Rs.run X n .unary)
 expr : ∀ k : Nat, NumOk X S 205 (k : Int) (Rs.run X n (.expr k))
theorem Ct.expr0 {n : Nat} (h : Ct X S n) : NumOk X S 205 0 (Rs.run X n (.expr 0)) := h.expr 0
section
variable {n : Nat} (hn : n ≤ 1000000) (h : ∀ m, m ≤ n → Ct X S m)
include hn h
theorem Ct.typs : LsOk X S 0 (Rs.list X (Rs.run X n (.typs []))) := rplist0_any n hn (zh (fun m hm => (h m (by omega)).typ))
theorem Ct.params : LsOk X S 1 (Rs.list X (Rs.run X n (.params []))) := rplist1_any n hn (zh (fun m hm => rpparam_any (Rs.run X m) (zh (Rs.run_ones X m)) (zh (h m (by omega)).typ) 7))
theorem Ct.exprs : LsOk X S 2 (Rs.list X (Rs.run X n (.exprs []))) := rplist2_any n hn (zh (fun m hm => (h m (by omega)).expr0))
theorem Ct.sig : POk X S 107 oneV (Rs.sig X (Rs.run X n)) := rpsig_any _ (zh (Rs.run_ones X n)) (zh (h n (Nat.le_refl _)).typ) (zh (Ct.params hn h))
theorem Ct.first : POk X S 261 oneV (Rs.firstF X (Rs.run X n)) := rpfirst_any _ (zh (Rs.run_ones X n)) (zh (Ct.sig hn h)) (zh (h n (Nat.le_refl _)).block) (zh (h n (Nat.le_refl _)).expr0) (zh (h n (Nat.le_refl _)).typ)
theorem Ct.choice : ChOk X S (Rs.choice X (Rs.run X n)) := rpchoice_any n hn (zh (fun m hm => (h m (by omega)).expr0)) (zh (fun m hm => (h m (by omega)).stmt))
theorem Ct.decl : POk X S 56 oneV (Rs.declF X (Rs.run X n)) :=
 rpdecl_any n hn (zh (Rs.run_ones X n)) (zh (fun m hm => rpparam_any (Rs.run X m) (zh (Rs.run_ones X m)) (zh (h m (by omega)).typ) 9)) (zh (fun m hm => Ct.sig (n := m) (by omega) (fun j hj => h j (by omega)))) (zh (Ct.sig hn h)) (zh (h n (Nat.le_refl _)).block)
theorem Ct.succ : Ct X S (n + 1) := by
 have HO := zh (Rs.run_ones X n);have h0 := h n (Nat.le_refl _);refine ⟨?_, ?_, ?_, ?_, ?_, fun k => ?_⟩
 ·exact rptyp_any _ HO (zh h0.typ) (zh (Ct.typs hn h))
 ·exact rpblock_any n hn (zh (fun m hm => (h m (by omega)).stmt))
 ·exact rpstmt_any _ HO (zh h0.expr0) (zh h0.block) (zh h0.branch) (zh (Ct.choice hn h))
 ·exact rpbranch_any _ HO (zh h0.expr0) (zh h0.block) (zh h0.branch)
 ·exact rpunary_any n (zh (Ct.first hn h)) (zh h0.unary) (zh (fun m hm => Ct.exprs (n := m) (by omega) (fun j hj => h j (by omega)))) (zh (fun m hm => (h m (by omega)).typ))
 ·exact rpexpr_any n k (zh h0.unary) (zh (fun m hm j => (h m (by omega)).expr j))
end
theorem ct_all (n : Nat) (hn : n ≤ 1000000) : ∀ m, m ≤ n → Ct X S m := by
 induction n with
 | zero =>
  intro m hm;obtain rfl : m = 0 := by omega
  exact ⟨fun _ _ _ _ _ _ _ _ h => absurd rfl h, fun _ _ _ _ _ _ _ _ h => absurd rfl h, fun _ _ _ _ _ _ _ _ h => absurd rfl h, fun _ _ _ _ _ _ _ _ h => absurd rfl h, fun _ _ _ _ _ _ _ _ h => absurd rfl h, fun _ _ _ _ _ _ _ _ _ h => absurd rfl h⟩
 | succ n ih =>
  intro m hm
  by_cases e : m = n + 1
  ·subst e;exact Ct.succ (by omega) (ih (by omega))
  ·exact ih (by omega) m (by omega)
/-- THE REFERENCE's PARSER: what it reads of tokens. -/
theorem rpprogram_is (n : Nat) (hn : n ≤ 1000000) : POk X S 29 unitV (programP X n) := rpprogram_any n hn (zh (fun m hm => Ct.decl (n := m) (by omega) (fun j hj => ct_all n hn j (by omega))))
end
end Go.Proofs.YtjickecdkmljpaaGreatDoor.R
