/- PROVED HERE: the parser of the program, walked. No condition. -/
import Derived.Test.YtjfkhpkicioakaaGreatDoorZLx1
import Derived.Test.YtjfkhpkicioakaaGreatDoorZPs2
set_option linter.all false
open Go.Proofs.YtjfkhpkicioakaaGreatDoor.B
open Go.Proofs.Tryz
namespace Go.Proofs.YtjfkhpkicioakaaGreatDoor
open Go.RowKit
section
variable{X:B.Src}{S:ByteArray}
def ZD: ∀args w,(callFunc 147 args).run prog w= .ok (.enter 147 args) w:=λ_ _=>by kernel_rfl
def WX: ∀args w,(callFunc 145 args).run prog w= .ok (.enter 145 args) w:=λ_ _=>by kernel_rfl
def Xw: ∀args w,(callFunc 179 args).run prog w= .ok (.enter 179 args) w:=λ_ _=>by kernel_rfl
def Xx: ∀args w,(callFunc 148 args).run prog w= .ok (.enter 148 args) w:=λ_ _=>by kernel_rfl
def WY: ∀args w,(callFunc 139 args).run prog w= .ok (.enter 139 args) w:=λ_ _=>by kernel_rfl
structure ej (X:B.Src)(S:ByteArray)(n:Nat):Prop where
 typ:gg X S 147 cD (B.run X n .typ)
 block:gg X S 105 cD (B.run X n .block)
 stmt:gg X S 148 cD (B.run X n .stmt)
 branch:gg X S 181 cD (B.run X n .branch)
 unary:gg X S 225 cD (B.run X n .unary)
 level: ∀k,k<=5->zM X S k (B.run X n (.b6 k))
def gg.fs{f}{gm:B.ak->B.aV}(h:gg X S f cD gm)(R: ∀s,B.bn (gm s))(T: ∀s,dr (gm s) s.bR):Hid (ed X S f gm):=A ⟨h,R,T⟩
def x4.fs{f}{gm:Nat->B.ak->B.aV}(h:x4 X S f cD gm)(R: ∀a s,B.bn (gm a s))(T: ∀a s,dr (gm a s) s.bR):Hid (∀at_:Nat,ed X S f (gm at_) [at_]):=A λa=>⟨h a,R a,T a⟩
def ej.b6{n}(h:ej X S n):gg X S 179 cD (B.run X n (.b6 0)):=Ya n (A (h.level 0 J))
def oQ{n f g}(h:gg X S f cD (B.run X n g))(aB:GI g=true:=by rfl):Hid (ed X S f (B.run X n g)):=h.fs (λs=>B.p5 X n g aB s) λs=>mv X n g s
section
variable{n:Nat}(ax:n<=1000000)(h: ∀m,m<=n->ej X S m)
include ax h
theorem ej.jX:BM X S 147 (B.list X (B.run X n (.jX []))):=⟨λN p w s tv nv E aJ aZ=>
 OU n ax 147 ZD (λm a s=>B.run X m (.jX a) s) (λm=>B.run X m .typ) (λ_ _=>rfl) (λ_ _ _=>rfl) (λm s=>B.p5 X m .typ rfl s) (λm s=>mv X m .typ s) (λm hm=>(h m J).typ) aJ aZ,λs=>PZ (λs=>mv X n _ s) s⟩
theorem ej.params:BM X S 145 (B.list X (B.run X n (.params []))):=⟨λN p w s tv nv E aJ aZ=>
 OU n ax 145 WX (λm a s=>B.run X m (.params a) s) (λm=>B.named X (B.run X m) 7) (λ_ _=>rfl) (λ_ _ _=>rfl) (λm s=>B.JF 7 s) (λm s=>QD (mv X m) 7 s)
  (λm hm=>XF (B.run X m) (oQ (h m J).typ)) aJ aZ,λs=>PZ (λs=>mv X n _ s) s⟩
theorem ej.exprs:BM X S 179 (B.list X (B.run X n (.exprs []))):=⟨λN p w s tv nv E aJ aZ=>
 OU n ax 179 Xw (λm a s=>B.run X m (.exprs a) s) (λm=>B.run X m (.b6 0)) (λ_ _=>rfl) (λ_ _ _=>rfl) (λm s=>B.p5 X m (.b6 0) rfl s) (λm s=>mv X m (.b6 0) s) (λm hm=>(h m J).b6) aJ aZ,λs=>PZ (λs=>mv X n _ s) s⟩
theorem ej.sig:Hid (ed X S 104 (B.sig X (B.run X n))):=(aaH _ (oQ (h n (bD _)).typ) (A (ej.params ax h))).fs (λs=>B.C8 s) λs=>aem (mv X n) s
theorem ej.stmts:G3 X S 148 (B.items X (B.run X n (.stmts []))):=⟨λN p w s tv nv E aJ aZ=>
 VF n ax 148 Xx (λm a s=>B.run X m (.stmts a) s) (λm=>B.run X m .stmt) (λ_ _=>rfl) (λ_ _ _=>rfl) (λm s=>B.p5 X m .stmt rfl s) (λm s=>mv X m .stmt s) (λm hm=>(h m J).stmt) aJ aZ,λs=>PC (λs=>mv X n _ s) s⟩
theorem ej.fields:G3 X S 139 (B.items X (B.run X n (.fields []))):=⟨λN p w s tv nv E aJ aZ=>
 VF n ax 139 WY (λm a s=>B.run X m (.fields a) s) (λm=>B.named X (B.run X m) 9) (λ_ _=>rfl) (λ_ _ _=>rfl) (λm s=>B.JF 9 s) (λm s=>QD (mv X m) 9 s)
  (λm hm=>XG (B.run X m) (oQ (h m J).typ)) aJ aZ,λs=>PC (λs=>mv X n _ s) s⟩
theorem ej.j_:MX X S (B.items X (B.run X n (.j_ []))):=λN p nb w0 w s tv nv E vO aJ aF aZ=>
 W4 w0 vO nb n ax (λm a s=>B.run X m (.j_ a) s) (λm=>B.jY X (B.run X m)) (λ_ _=>rfl) (λ_ _ _=>rfl) (λm s=>B.QC s) (λm s=>adj (mv X m) s)
  (λm hm wk bf aW ar tb pe mV=>ZE (B.run X m) (A (ej.sig (n:=m) J (λj bg=>h j J)).o.1) w0 vO nb tb pe mV) aJ aF aZ
omit ax in
theorem ej.made:x4 X S 246 cD (B.made X (B.run X n)):=Yc _ (oQ (h n (bD _)).typ)
omit ax in
theorem ej.blk:Hid (ed X S 105 (B.run X n .block)):=oQ (h n (bD _)).block
omit ax in
theorem ej.ex:Hid (ed X S 179 (B.run X n (.b6 0))):=oQ (h n (bD _)).b6
theorem ej.first:Hid (ed X S 240 (B.kA X (B.run X n))):=(XE _ (ej.sig ax h) (ej.blk h) (ej.ex h) ((ej.made h).fs (λa s=>B.PB a s) λa s=>adi (mv X n) a s)).fs (λs=>B.Jp (B.p5 X n) s) λs=>Z5 (mv X n) s
theorem ej.part:gg X S 236 cD (xZ X n):=Yb n (ej.first ax h) (A (λm hm=>ej.exprs (n:=m) J (λj bg=>h j J))) (A (λm hm=>(oQ (h m J).typ).o))
theorem ej.body:Hid (ed X S 226 (B.kD X (B.run X n))):=gg.fs (λN p w s tv nv E aJ aZ=>
 ZF n ax (λm a s=>B.run X m (.body a) s) (λm=>B.run X m .stmt) (λ_ _=>rfl) (λ_ _ _=>rfl) (λm hm=>(oQ (h m J).stmt).o) aJ aZ) (λs=>B.Wt s) λs=>ab_ (mv X n) s
theorem ej.one:Hid (ed X S 209 (B.mz X (B.run X n))):=(aa2 _ (ej.ex h) (ej.body ax h)).fs (λs=>B.Wu s) λs=>aca (mv X n) s
theorem ej.choice:x4 X S 182 cD (B.choice X (B.run X n)):=λat_ N p w s tv nv E aJ aZ=>
 WZ n ax (λm a s=>B.run X m (.cases a) s) (λm=>B.mz X (B.run X m)) (λ_ _=>rfl) (λ_ _ _=>rfl) (λm hm=>(ej.one (n:=m) J (λj bg=>h j J)).o) at_ aJ aZ
theorem ej.typed:x4 X S 100 cD (B.typed X (B.run X n)):=XD _ (A (ej.fields ax h)) (A ⟨ej.j_ ax h,λs=>PC (λs=>mv X n _ s) s⟩)
theorem ej.method:x4 X S 102 cD (B.method X (B.run X n)):=WA _ (ej.sig ax h) (ej.blk h)
theorem ej.decl:gg X S 62 cD (B.j9 X (B.run X n)):=Yd _ (ej.sig ax h) (ej.blk h) ((ej.typed ax h).fs (λa s=>B.O8 a s) λa s=>acb (mv X n) a s) ((ej.method ax h).fs (λa s=>B.OZ a s) λa s=>Z6 (mv X n) a s)
theorem ej.succ:ej X S (n+1):=by
 have aH:=h n (bD _);have hl: ∀k,k<=5->zM X S (5-k) (B.run X (n+1) (.b6 (5-k))):=by
  intro k U
  induction k with
  |zero=>exact WM n (A aH.unary)
  |succ k cB=>
   have R:=cB J;have e:5-k=5-(k+1)+1:=J;rw[e] at R;exact XB (5-(k+1)) J n (A R) (A (λm hm=>(h m J).level _ J))
 refine⟨?_,?_,?_,?_,?_,λk U=>?_⟩
 .exact aaJ _ (oQ aH.typ) (A (ej.jX ax h))
 .exact Xy _ (A (ej.stmts ax h))
 .exact ZG _ (A (mv X n)) (ej.ex h) (ej.blk h) (oQ aH.branch) ((ej.choice ax h).fs (λa s=>B.Jr a s) λa s=>Z4 (mv X n) a s)
 .exact W0 _ (ej.ex h) (ej.blk h) (oQ aH.branch)
 .exact XC n (A (ej.part ax h)) (A aH.unary)
 .have T:=hl (5-k) J;rwa[show 5-(5-k)=k by omega] at T
end
def K0(n:Nat)(ax:n<=1000000): ∀m,m<=n->ej X S m:=by
 induction n with
 |zero=>
  intro m hm;obtain rfl:m=0:=J;exact⟨λ_ _ _ _ _ _ _ _ h=>absurd rfl h,λ_ _ _ _ _ _ _ _ h=>absurd rfl h,λ_ _ _ _ _ _ _ _ h=>absurd rfl h,λ_ _ _ _ _ _ _ _ h=>absurd rfl h,λ_ _ _ _ _ _ _ _ h=>absurd rfl h,λ_ _ _ _ _ _ _ _ _ _ h=>absurd rfl h⟩
 |succ n cB=>
  intro m hm;by_cases e:m=n+1
  .subst e;exact ej.succ J (cB J)
  .exact cB J m J
def WS(n)(ax:n<=1000000):gg X S 28 lk (iT X n):=Wy n ax (A (λm hm=>ej.decl (n:=m) J (λj bg=>K0 n ax j J)))
end
end Go.Proofs.YtjfkhpkicioakaaGreatDoor
