/-
  PROVED HERE: the program's parser: every function of it reads what the plain reader reads, with whatever fuel up to a million. No condition beyond the lemmas' own premises.
-/
import Derived.Test.YtjickecdkmljpaaGreatDoorPsTk
import Derived.Test.YtjickecdkmljpaaGreatDoorPsF
import Derived.Test.YtjickecdkmljpaaGreatDoorPsP25
import Derived.Test.YtjickecdkmljpaaGreatDoorPsE
namespace Go.Proofs.YtjickecdkmljpaaGreatDoor
open Go.RowKit

section
variable {X : Ps.Src} {S : ByteArray}
theorem enters_typ : ∀ args w, (callFunc 156 args).run Tryz.prog w = .ok (.enter 156 args) w := fun _ _ => by kernel_rfl
theorem enters_param : ∀ args w, (callFunc 154 args).run Tryz.prog w = .ok (.enter 154 args) w := fun _ _ => by kernel_rfl
theorem enters_expr : ∀ args w, (callFunc 201 args).run Tryz.prog w = .ok (.enter 201 args) w := fun _ _ => by kernel_rfl
theorem enters_stmt : ∀ args w, (callFunc 157 args).run Tryz.prog w = .ok (.enter 157 args) w := fun _ _ => by kernel_rfl
theorem enters_field : ∀ args w, (callFunc 148 args).run Tryz.prog w = .ok (.enter 148 args) w := fun _ _ => by kernel_rfl
/-- The contracts with one fuel. -/
structure Ct (X : Ps.Src) (S : ByteArray) (n : Nat) : Prop where
 typ : POk X S 156 oneV (Ps.run X n .typ)
 block : POk X S 100 oneV (Ps.run X n .block)
 stmt : POk X S 157 oneV (Ps.run X n .stmt)
 branch : POk X S 203 oneV (Ps.run X n .branch)
 unary : POk X S 259 oneV (Ps.run X n .unary)
 level : ∀ k, k ≤ 5 → LvOk X S k (Ps.run X n (.expr k))
/-- The contracts as the short steps take them. -/
theorem POk.cn {f : FuncId} {pf : Ps.St → Ps.Res} (h : POk X S f oneV pf) (h1 : ∀ s, Ps.One (pf s)) (h2 : ∀ s, Ps.Dp (pf s) s.deep) : Hid (Cn X S f pf) := zh ⟨h, h1, h2⟩
theorem AtOk.cn {f : FuncId} {pf : Nat → Ps.St → Ps.Res} (h : AtOk X S f oneV pf) (h1 : ∀ a s, Ps.One (pf a s)) (h2 : ∀ a s, Ps.Dp (pf a s) s.deep) : Hid (∀ at_ : Nat, Cn X S f (pf at_) [.int .i64 (at_ : Int)]) := zh fun a => ⟨h a, h1 a, h2 a⟩
theorem Ct.expr {n : Nat} (h : Ct X S n) : POk X S 201 oneV (Ps.run X n (.expr 0)) := spexpr_any n (zh (h.level 0 (by omega)))
theorem run_cn {n : Nat} {f : FuncId} {g : Ps.Fn} (h : POk X S f oneV (Ps.run X n g)) (hg : Ps.oneFn g = true := by rfl) : Hid (Cn X S f (Ps.run X n g)) := h.cn (fun s => Ps.run_ones X n g hg s) fun s => Ps.run_keep X n g s
section
variable {n : Nat} (hn : n ≤ 1000000) (h : ∀ m, m ≤ n → Ct X S m)
include hn h
theorem Ct.typs : Lo X S 156 (Ps.list X (Ps.run X n (.typs []))) := ⟨fun N p w s tv nv D hp hne =>
 splist_any n hn 156 enters_typ (fun m a s => Ps.run X m (.typs a) s) (fun m => Ps.run X m .typ) (fun _ _ => rfl) (fun _ _ _ => rfl) (fun m s => Ps.run_ones X m .typ rfl s) (fun m s => Ps.run_keep X m .typ s) (fun m hm => (h m (by omega)).typ) hp hne, fun s => Ps.list_dp (fun s => Ps.run_keep X n _ s) s⟩
theorem Ct.params : Lo X S 154 (Ps.list X (Ps.run X n (.params []))) := ⟨fun N p w s tv nv D hp hne =>
 splist_any n hn 154 enters_param (fun m a s => Ps.run X m (.params a) s) (fun m => Ps.named X (Ps.run X m) 7) (fun _ _ => rfl) (fun _ _ _ => rfl) (fun m s => Ps.named_one 7 s) (fun m s => Ps.named_dp (Ps.run_keep X m) 7 s)
  (fun m hm => spparam_any (Ps.run X m) (run_cn (h m (by omega)).typ)) hp hne, fun s => Ps.list_dp (fun s => Ps.run_keep X n _ s) s⟩
theorem Ct.exprs : Lo X S 201 (Ps.list X (Ps.run X n (.exprs []))) := ⟨fun N p w s tv nv D hp hne =>
 splist_any n hn 201 enters_expr (fun m a s => Ps.run X m (.exprs a) s) (fun m => Ps.run X m (.expr 0)) (fun _ _ => rfl) (fun _ _ _ => rfl) (fun m s => Ps.run_ones X m (.expr 0) rfl s) (fun m s => Ps.run_keep X m (.expr 0) s) (fun m hm => (h m (by omega)).expr) hp hne, fun s => Ps.list_dp (fun s => Ps.run_keep X n _ s) s⟩
theorem Ct.sig : Hid (Cn X S 99 (Ps.sig X (Ps.run X n))) := (spsig_any _ (run_cn (h n (Nat.le_refl _)).typ) (zh (Ct.params hn h))).cn (fun s => Ps.sig_one s) fun s => Ps.sig_dp (Ps.run_keep X n) s
theorem Ct.stmts : Io X S 157 (Ps.items X (Ps.run X n (.stmts []))) := ⟨fun N p w s tv nv D hp hne =>
 spitems_any n hn 157 enters_stmt (fun m a s => Ps.run X m (.stmts a) s) (fun m => Ps.run X m .stmt) (fun _ _ => rfl) (fun _ _ _ => rfl) (fun m s => Ps.run_ones X m .stmt rfl s) (fun m s => Ps.run_keep X m .stmt s) (fun m hm => (h m (by omega)).stmt) hp hne, fun s => Ps.items_dp (fun s => Ps.run_keep X n _ s) s⟩
theorem Ct.fields : Io X S 148 (Ps.items X (Ps.run X n (.fields []))) := ⟨fun N p w s tv nv D hp hne =>
 spitems_any n hn 148 enters_field (fun m a s => Ps.run X m (.fields a) s) (fun m => Ps.named X (Ps.run X m) 9) (fun _ _ => rfl) (fun _ _ _ => rfl) (fun m s => Ps.named_one 9 s) (fun m s => Ps.named_dp (Ps.run_keep X m) 9 s)
  (fun m hm => spfield_any (Ps.run X m) (run_cn (h m (by omega)).typ)) hp hne, fun s => Ps.items_dp (fun s => Ps.run_keep X n _ s) s⟩
theorem Ct.msigs : MOk X S (Ps.items X (Ps.run X n (.msigs []))) := fun N p qq w0 w s tv nv D hp0 hp hx hne =>
 spitems_box w0 hp0 qq n hn (fun m a s => Ps.run X m (.msigs a) s) (fun m => Ps.msig X (Ps.run X m)) (fun _ _ => rfl) (fun _ _ _ => rfl) (fun m s => Ps.msig_one s) (fun m s => Ps.msig_dp (Ps.run_keep X m) s)
  (fun m hm wk sk nk E hp2 hx2 hne2 => spmsig_any (Ps.run X m) (zh (Ct.sig (n := m) (by omega) (fun j hj => h j (by omega))).out.1) w0 hp0 qq hp2 hx2 hne2) hp hx hne
omit hn in
theorem Ct.made : AtOk X S 294 oneV (Ps.made X (Ps.run X n)) := spmade_any _ (run_cn (h n (Nat.le_refl _)).typ)
omit hn in
theorem Ct.blk : Hid (Cn X S 100 (Ps.run X n .block)) := run_cn (h n (Nat.le_refl _)).block
omit hn in
theorem Ct.ex : Hid (Cn X S 201 (Ps.run X n (.expr 0))) := run_cn (h n (Nat.le_refl _)).expr
theorem Ct.first : Hid (Cn X S 285 (Ps.firstF X (Ps.run X n))) := (spfirst_any _ (Ct.sig hn h) (Ct.blk h) (Ct.ex h) ((Ct.made h).cn (fun a s => Ps.made_one a s) fun a s => Ps.made_dp (Ps.run_keep X n) a s)).cn (fun s => Ps.firstF_one (Ps.run_ones X n) s) fun s => Ps.firstF_dp (Ps.run_keep X n) s
theorem Ct.part : POk X S 274 oneV (partP X n) := sppart_any n (Ct.first hn h) (zh (fun m hm => Ct.exprs (n := m) (by omega) (fun j hj => h j (by omega)))) (zh (fun m hm => (run_cn (h m (by omega)).typ).out))
theorem Ct.body : Hid (Cn X S 260 (Ps.bodyF X (Ps.run X n))) := POk.cn (fun N p w s tv nv D hp hne =>
 spbody_any n hn (fun m a s => Ps.run X m (.body a) s) (fun m => Ps.run X m .stmt) (fun _ _ => rfl) (fun _ _ _ => rfl) (fun m hm => (run_cn (h m (by omega)).stmt).out) hp hne) (fun s => Ps.bodyF_one s) fun s => Ps.bodyF_dp (Ps.run_keep X n) s
theorem Ct.one : Hid (Cn X S 242 (Ps.caseF X (Ps.run X n))) := (spone_any _ (Ct.ex h) (Ct.body hn h)).cn (fun s => Ps.caseF_one s) fun s => Ps.caseF_dp (Ps.run_keep X n) s
theorem Ct.choice : AtOk X S 204 oneV (Ps.choice X (Ps.run X n)) := fun at_ N p w s tv nv D hp hne =>
 spchoice_any n hn (fun m a s => Ps.run X m (.cases a) s) (fun m => Ps.caseF X (Ps.run X m)) (fun _ _ => rfl) (fun _ _ _ => rfl) (fun m hm => (Ct.one (n := m) (by omega) (fun j hj => h j (by omega))).out) at_ hp hne
theorem Ct.typed : AtOk X S 95 oneV (Ps.typed X (Ps.run X n)) := sptyped_any _ (zh (Ct.fields hn h)) (zh ⟨Ct.msigs hn h, fun s => Ps.items_dp (fun s => Ps.run_keep X n _ s) s⟩)
theorem Ct.method : AtOk X S 97 oneV (Ps.method X (Ps.run X n)) := spmethod_any _ (Ct.sig hn h) (Ct.blk h)
theorem Ct.decl : POk X S 44 oneV (Ps.declF X (Ps.run X n)) := spdecl_any _ (Ct.sig hn h) (Ct.blk h) ((Ct.typed hn h).cn (fun a s => Ps.typed_one a s) fun a s => Ps.typed_dp (Ps.run_keep X n) a s) ((Ct.method hn h).cn (fun a s => Ps.method_one a s) fun a s => Ps.method_dp (Ps.run_keep X n) a s)
theorem Ct.succ : Ct X S (n + 1) := by
 have h0 := h n (Nat.le_refl _);have hl : ∀ k, k ≤ 5 → LvOk X S (5 - k) (Ps.run X (n + 1) (.expr (5 - k))) := by
  intro k hk
  induction k with
  | zero => exact splevel_five n (zh h0.unary)
  | succ k ih =>
   have h1 := ih (by omega);have e : 5 - k = 5 - (k + 1) + 1 := by omega
   rw [e] at h1;exact splevel_low (5 - (k + 1)) (by omega) n (zh h1) (zh (fun m hm => (h m (by omega)).level _ (by omega)))
 refine ⟨?_, ?_, ?_, ?_, ?_, fun k hk => ?_⟩
 ·exact sptyp_any _ (run_cn h0.typ) (zh (Ct.typs hn h))
 ·exact spblock_any _ (zh (Ct.stmts hn h))
 ·exact spstmt_any _ (zh (Ps.run_keep X n)) (Ct.ex h) (Ct.blk h) (run_cn h0.branch) ((Ct.choice hn h).cn (fun a s => Ps.choice_one a s) fun a s => Ps.choice_dp (Ps.run_keep X n) a s)
 ·exact spbranch_any _ (Ct.ex h) (Ct.blk h) (run_cn h0.branch)
 ·exact spunary_any n (zh (Ct.part hn h)) (zh h0.unary)
 ·have h2 := hl (5 - k) (by omega)
  rwa [show 5 - (5 - k) = k by omega] at h2
end
theorem ct_all (n : Nat) (hn : n ≤ 1000000) : ∀ m, m ≤ n → Ct X S m := by
 induction n with
 | zero =>
  intro m hm;obtain rfl : m = 0 := by omega
  exact ⟨fun _ _ _ _ _ _ _ _ h => absurd rfl h, fun _ _ _ _ _ _ _ _ h => absurd rfl h, fun _ _ _ _ _ _ _ _ h => absurd rfl h, fun _ _ _ _ _ _ _ _ h => absurd rfl h, fun _ _ _ _ _ _ _ _ h => absurd rfl h, fun _ _ _ _ _ _ _ _ _ _ h => absurd rfl h⟩
 | succ n ih =>
  intro m hm
  by_cases e : m = n + 1
  ·subst e;exact Ct.succ (by omega) (ih (by omega))
  ·exact ih (by omega) m (by omega)
/-- THE PROGRAM's PARSER: what it reads of tokens. -/
theorem spprogram_is (n : Nat) (hn : n ≤ 1000000) : POk X S 26 unitV (programP X n) := spprogram_any n hn (zh (fun m hm => Ct.decl (n := m) (by omega) (fun j hj => ct_all n hn j (by omega))))
end
end Go.Proofs.YtjickecdkmljpaaGreatDoor
