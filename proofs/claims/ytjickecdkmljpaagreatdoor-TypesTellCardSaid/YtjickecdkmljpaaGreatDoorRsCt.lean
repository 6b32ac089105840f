/-
  PROVED HERE: the reference's parser: every function of it reads what its plain reader reads, with whatever fuel up to a million. No condition beyond the lemmas' own premises.
-/
import Derived.Test.YtjickecdkmljpaaGreatDoorPsTk
import Derived.Test.YtjickecdkmljpaaGreatDoorRsD
import Derived.Test.YtjickecdkmljpaaGreatDoorRsC
import Derived.Test.YtjickecdkmljpaaGreatDoorRsQ6
import Derived.Test.YtjickecdkmljpaaGreatDoorRsQ8
namespace Go.Proofs.YtjickecdkmljpaaGreatDoor.R
open Go.RowKit

section
variable {X : Ps.Src} {S : ByteArray}
/-- The contracts with one fuel. -/
structure Ct (X : Ps.Src) (S : ByteArray) (n : Nat) : Prop where
 typ : POk X S 158 oneV (Rs.run X n .typ)
 block : POk X S 110 oneV (Rs.run X n .block)
 stmt : POk X S 161 oneV (Rs.run X n .stmt)
 branch : POk X S 207 oneV (Rs.run X n .branch)
 unary : POk X S 243 oneV (Rs.run X n .unary)
 expr : ∀ k : Nat, NumOk X S 205 (k : Int) (Rs.run X n (.expr k))
/-- The contracts as the short steps take them. -/
theorem POk.cn {f : FuncId} {pf : Rs.St → Rs.Res} (h : POk X S f oneV pf) (h1 : ∀ s, Rs.One (pf s)) : Hid (Cn X S f pf) := zh ⟨h, h1⟩
theorem NumOk.cn {f : FuncId} {k : Int} {pf : Rs.St → Rs.Res} (h : NumOk X S f k pf) (h1 : ∀ s, Rs.One (pf s)) : Hid (Cn X S f pf [.int .i64 k]) := zh ⟨h, h1⟩
theorem run_cn {n : Nat} {f : FuncId} {g : Ps.Fn} (h : POk X S f oneV (Rs.run X n g)) (hg : Ps.oneFn g = true := by rfl) : Hid (Cn X S f (Rs.run X n g)) := h.cn fun s => Rs.run_ones X n g hg s
theorem Ct.ex {n : Nat} (h : Ct X S n) (k : Nat) : Hid (Cn X S 205 (Rs.run X n (.expr k)) [.int .i64 (k : Int)]) := (h.expr k).cn fun s => Rs.run_ones X n (.expr k) rfl s
theorem Ct.ex0 {n : Nat} (h : Ct X S n) : Hid (Cn X S 205 (Rs.run X n (.expr 0)) [.int .i64 0]) := h.ex 0
theorem Ct.ty {n : Nat} (h : Ct X S n) : Hid (Cn X S 158 (Rs.run X n .typ)) := run_cn h.typ
theorem Ct.par {n : Nat} (h : Ct X S n) (k : Int) : Hid (Cn X S 106 (Rs.named X (Rs.run X n) k) [.int .i64 k]) := (rpparam_any (Rs.run X n) h.ty k).cn fun s => Rs.named_one k s
section
variable {n : Nat} (hn : n ≤ 1000000) (h : ∀ m, m ≤ n → Ct X S m)
include hn h
theorem Ct.typs : Ln X S 0 (Rs.list X (Rs.run X n (.typs []))) := rplist_any n hn 0 (fun m a => Rs.run X m (.typs a)) (fun m => Rs.run X m .typ) (fun _ _ => rfl) (fun _ _ _ => rfl) fun m hm => .inl ⟨rfl, (h m (by omega)).ty.out⟩
theorem Ct.params : Ln X S 1 (Rs.list X (Rs.run X n (.params []))) := rplist_any n hn 1 (fun m a => Rs.run X m (.params a)) (fun m => Rs.named X (Rs.run X m) 7) (fun _ _ => rfl) (fun _ _ _ => rfl) fun m hm => .inr (.inl ⟨rfl, ((h m (by omega)).par 7).out⟩)
theorem Ct.exprs : Ln X S 2 (Rs.list X (Rs.run X n (.exprs []))) := rplist_any n hn 2 (fun m a => Rs.run X m (.exprs a)) (fun m => Rs.run X m (.expr 0)) (fun _ _ => rfl) (fun _ _ _ => rfl) fun m hm => .inr (.inr ⟨rfl, (h m (by omega)).ex0.out⟩)
theorem Ct.sig : Hid (Cn X S 107 (Rs.sig X (Rs.run X n))) := (rpsig_any _ (h n (Nat.le_refl _)).ty (zh (Ct.params hn h))).cn fun s => Rs.sig_one s
omit hn in
theorem Ct.blk : Hid (Cn X S 110 (Rs.run X n .block)) := run_cn (h n (Nat.le_refl _)).block
theorem Ct.first : Hid (Cn X S 261 (Rs.firstF X (Rs.run X n))) := (rpfirst_any _ (Ct.sig hn h) (Ct.blk h) (h n (Nat.le_refl _)).ex0 (h n (Nat.le_refl _)).ty).cn fun s => Rs.firstF_one (Rs.run_ones X n) s
theorem Ct.decl : Hid (Cn X S 56 (Rs.declF X (Rs.run X n))) :=
 (rpdecl_any n hn (zh (fun m hm => ((h m (by omega)).par 9).out)) (zh (fun m hm => (Ct.sig (n := m) (by omega) (fun j hj => h j (by omega))).out)) (Ct.sig hn h) (Ct.blk h)).cn fun s => Rs.declF_one s
theorem Ct.succ : Ct X S (n + 1) := by
 have h0 := h n (Nat.le_refl _);have HST : Hid (∀ m, m < n → Cn X S 161 (Rs.run X m .stmt)) := zh fun m hm => (run_cn (h m (by omega)).stmt).out
 have HX : Hid (∀ m, m < n → Cn X S 205 (Rs.run X m (.expr 0)) [.int .i64 0]) := zh fun m hm => (h m (by omega)).ex0.out
 refine ⟨?_, ?_, ?_, ?_, ?_, fun k => ?_⟩
 ·exact rptyp_any _ h0.ty (zh (Ct.typs hn h))
 ·exact rpblock_any n hn HST
 ·exact rpstmt_any _ h0.ex0 (Ct.blk h) (run_cn h0.branch) (zh fun at_ => ⟨fun N p w s tv nv D hp hne => rpchoice_any n hn HX HST at_ hp hne, fun s => Rs.choice_one at_ s⟩)
 ·exact rpbranch_any _ h0.ex0 (Ct.blk h) (run_cn h0.branch)
 ·exact rpunary_any n (Ct.first hn h) (run_cn h0.unary) (zh (fun m hm => Ct.exprs (n := m) (by omega) (fun j hj => h j (by omega)))) (zh (fun m hm => (h m (by omega)).ty.out))
 ·exact rpexpr_any n k (run_cn h0.unary) (zh (fun m hm j => ((h m (by omega)).ex j).out))
end
theorem ct_all (n : Nat) (hn : n ≤ 1000000) : ∀ m, m ≤ n → Ct X S m := by
 induction n with
 | zero =>
  intro m hm;obtain rfl : m = 0 := by omega
  exact ⟨fun _ _ _ _ _ _ _ _ h => absurd rfl h, fun _ _ _ _ _ _ _ _ h => absurd rfl h, fun _ _ _ _ _ _ _ _ h => absurd rfl h, fun _ _ _ _ _ _ _ _ h => absurd rfl h, fun _ _ _ _ _ _ _ _ h => absurd rfl h, fun _ _ _ _ _ _ _ _ _ h => absurd rfl h⟩
 | succ n ih =>
  intro m hm
  by_cases e : m = n + 1
  ·subst e;exact Ct.succ (by omega) (ih (by omega))
  ·exact ih (by omega) m (by omega)
/-- THE REFERENCE's PARSER: what it reads of tokens. -/
theorem rpprogram_is (n : Nat) (hn : n ≤ 1000000) : POk X S 29 unitV (programP X n) := rpprogram_any n hn (zh (fun m hm => (Ct.decl (n := m) (by omega) (fun j hj => ct_all n hn j (by omega))).out))
end
end Go.Proofs.YtjickecdkmljpaaGreatDoor.R
