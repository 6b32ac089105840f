/- PROVED HERE: plain law of parsing, of types, of checking. No condition. -/
import Derived.Test.YtjfkhpkicioakaaGreatDoorZLx1
set_option maxHeartbeats 60000000
set_option linter.all false
open List renaming getD->Y,length->D
namespace Go.Proofs.YtjfkhpkicioakaaGreatDoor
open Go.RowKit
namespace B
open aa (Tok)
structure aP where
 j':Int
 an:Int
 aX:Int
 O:List UInt8
 I:List Nat
structure Src where
 bu:List Tok
 len:Nat
structure ak where
 i:Nat
 bR:Int
 aj:List aP
inductive aV where
 |o
 |bL (c:Int) (p:Nat)
 |ok (v:List Nat) (s:ak)
def aV.M(r:aV)(f:List Nat->ak->aV):aV:=
 match r with
 | .o=> .o
 | .bL c p=> .bL c p
 | .ok v s=>f v s
def ab9(f:List Nat->ak->aV):aV.o.M f= .o:=rfl
def jt(v:List Nat)(s)(f:List Nat->ak->aV):(aV.ok v s).M f=f v s:=rfl
def i'(r:aV)(f g:List Nat->ak->aV):(r.M f).M g=r.M λv s=>(f v s).M g:=by cases r<;>rfl
def n8{c} [Decidable c](a b:aV)(f:List Nat->ak->aV):(if c then a else b).M f=if c then a.M f else b.M f:=by split<;>rfl
def oR:List UInt8:=[102,117,110,99]
def Ke:List UInt8:=[116,121,112,101]
def JL:List UInt8:=[115,116,114,117,99,116]
def Jj:List UInt8:=[105,110,116,101,114,102,97,99,101]
def qJ:List UInt8:=[105,102]
def vg:List UInt8:=[101,108,115,101]
def KN:List UInt8:=[102,111,114]
def K8:List UInt8:=[114,101,116,117,114,110]
def K9:List UInt8:=[98,114,101,97,107]
def Pz:List UInt8:=[115,101,108,101,99,116]
def wo:List UInt8:=[99,97,115,101]
def wB:List UInt8:=[100,101,102,97,117,108,116]
def K':List UInt8:=[103,111]
def PV:List UInt8:=[99,108,111,115,101]
def PW:List UInt8:=[112,97,110,105,99]
def PX:List UInt8:=[112,114,105,110,116]
def K_:List UInt8:=[110,101,119]
def KO:List UInt8:=[109,97,107,101]
def qI:List UInt8:=[99,104,97,110]
def wH:List UInt8:=[105,110,116]
def wz:List UInt8:=[98,111,111,108]
def La:List UInt8:=[110,105,108]
def PY:List UInt8:=[116,114,117,101]
def PA:List UInt8:=[102,97,108,115,101]
def gK:List UInt8:=[40]
def eW:List UInt8:=[41]
def qM:List UInt8:=[123]
def dm:List UInt8:=[125]
def tV:List UInt8:=[44]
def hC:List UInt8:=[59]
def GH:List UInt8:=[58]
def Bg:List UInt8:=[46]
def sR:List UInt8:=[42]
def Bh:List UInt8:=[61]
def l4:List UInt8:=[60,45]
def p8:List UInt8:=[58,61]
def Bc:List UInt8:=[33]
def C9:List UInt8:=[45]
def mw:List (List (List UInt8)):=[[[124,124]],[[38,38]],[[61,61],[33,61],[60],[60,61],[62],[62,61]],[[43],[45]],[[42],[47],[37]]]
def iz (X:Src):Tok:=⟨0,[],0,X.len⟩
def aM (X:Src)(s:ak):Tok:=Y X.bu s.i (iz X)
def bs (s:ak):ak:={s with i:=s.i+1}
def ll (s:ak):ak:={s with i:=s.i+2}
def up (s:ak):ak:={s with bR:=s.bR+1}
def down (s:ak):ak:={s with bR:=s.bR- 1}
def bw (X:Src)(s:ak)(x:List UInt8):Bool:=(aM X s).O==x&&((aM X s).j'==3||(aM X s).j'==4)
def hZ(X:Src)(s:ak):Bool:=(aM X s).j'==1
def mB(X:Src)(s:ak):Bool:=(aM X s).j'==2
def ht (X:Src)(s:ak)(x:List UInt8):Bool:=decide (s.i+1<D X.bu)&&(Y X.bu (s.i+1) (iz X)).O==x
def nw (X:Src)(s:ak)(l:List (List UInt8)):Bool:=l.any λx=>bw X s x
def fail (X:Src)(c:Int)(s:ak):aV:= .bL c (aM X s).an
def JE(X:Src)(c:Int)(s)(f:List Nat->ak->aV):(fail X c s).M f=fail X c s:=rfl
def take (X:Src)(x:List UInt8)(s:ak):aV:=if bw X s x then .ok [(aM X s).an] (bs s) else fail X 3 s
def name (X:Src)(s:ak):aV:=if hZ X s then .ok [] (bs s) else fail X 3 s
def enter(X:Src)(x:List UInt8)(s:ak):aV:=if bw X s x=true/\s.bR=30 then fail X 4 s else(take X x s).M λv s1=> .ok v (up s1)
def dU(X:Src)(x:List UInt8)(s:ak):aV:=(take X x s).M λ_ s1=> .ok [] (down s1)
def put (Z:aP)(s:ak):aV:=if D s.aj<100000 then .ok [D s.aj] {s with aj:=s.aj++[Z]} else .o
def l0 (X:Src)(s:ak):Bool:=nw X s [wH,wz,qI,oR,sR]||hZ X s
def hn (X:Src)(s:ak):Nat:=
 if nw X s (Y mw 0 []) then 1 else if nw X s (Y mw 1 []) then 2 else if nw X s (Y mw 2 []) then 3 else if nw X s (Y mw 3 []) then 4 else if nw X s (Y mw 4 []) then 5 else 0
inductive Fn where
 |typ
 |block
 |stmt
 |branch
 |b6 (k:Nat)
 |iy (k:Nat) (a:Nat)
 |unary
 |part (e:Nat)
 |jX (d':List Nat)
 |params (d':List Nat)
 |exprs (d':List Nat)
 |stmts (d':List Nat)
 |body (d':List Nat)
 |cases(d':List Nat)
 |fields (d':List Nat)
 |j_ (d':List Nat)
 |decls (d':List Nat)
abbrev Rec:=Fn->ak->aV
def fL (j':Int)(at_:Nat)(I:List Nat)(s:ak):aV:=put ⟨j',at_,0,[],I⟩ s
def l3 (X:Src)(one:ak->aV)(again:List Nat->ak->aV)(d':List Nat)(s:ak):aV:=
 if bw X s eW then .ok d' s
 else(one s).M λk s1=>
  if bw X s1 eW then .ok (d'++k) s1
  else(take X tV s1).M λ_ s2=>if bw X s2 eW then fail X 3 s2 else again (d'++k) s2
def list (X:Src)(loop:ak->aV)(s:ak):aV:=(enter X gK s).M λ_ s1=>(loop s1).M λl s2=>(dU X eW s2).M λ_ aq=> .ok l aq
def kh (X:Src)(one:ak->aV)(again:List Nat->ak->aV)(d':List Nat)(s:ak):aV:=
 if bw X s dm then .ok d' s
 else(one s).M λk s1=>
  if bw X s1 dm then .ok (d'++k) s1
  else(take X hC s1).M λ_ s2=>again (d'++k) s2
def items(X:Src)(loop:ak->aV)(s:ak):aV:=(enter X qM s).M λ_ s1=>(loop s1).M λl s2=>(dU X dm s2).M λ_ aq=> .ok l aq
def named(X:Src)(E':Rec)(j':Int)(s:ak):aV:=(name X s).M λ_ s1=>(E' .typ s1).M λk s2=>put ⟨j',(aM X s).an,0,(aM X s).O,k⟩ s2
def pointer(X:Src)(s:ak):aV:=(take X sR s).M λ_ s1=>(name X s1).M λ_ s2=>put ⟨4,(aM X s).an,0,(aM X s1).O,[]⟩ s2
def result(X:Src)(E':Rec)(j':Int)(at_:Nat)(l:List Nat)(s:ak)(fin:ak->ak):aV:=
 if l0 X s then(E' .typ s).M λk s1=>put ⟨j',at_,D l,[],l++k⟩ (fin s1) else put ⟨j',at_,D l,[],l⟩ (fin s)
def sig (X:Src)(E':Rec)(s:ak):aV:=(list X (E' (.params [])) s).M λl s1=>result X E' 8 (aM X s).an l s1 id
def l5 (X:Src)(E':Rec)(s:ak):aV:=
 if bw X s wH then put ⟨1,(aM X s).an,0,[],[]⟩ (bs s)
 else if bw X s wz then put ⟨2,(aM X s).an,0,[],[]⟩ (bs s)
 else if bw X s sR then pointer X s
 else if bw X s qI then(enter X qI s).M λ_ s1=>(E' .typ s1).M λk s2=>put ⟨5,(aM X s).an,0,[],k⟩ (down s2)
 else if bw X s oR then(enter X oR s).M λ_ s1=>(list X (E' (.jX [])) s1).M λl s2=>result X E' 6 (aM X s).an l s2 down
 else(name X s).M λ_ s1=>put ⟨3,(aM X s).an,0,(aM X s).O,[]⟩ s1
def mQ (X:Src)(E':Rec)(s:ak):aV:=(items X (E' (.stmts [])) s).M λl s1=>put ⟨16,(aM X s).an,0,[],l⟩ s1
def bracketed(X:Src)(E':Rec)(j':Int)(at_:Nat)(s:ak):aV:=(enter X gK s).M λ_ s1=>(E' (.b6 0) s1).M λe s2=>(dU X eW s2).M λ_ aq=>fL j' at_ e aq
def kD (X:Src)(E':Rec)(s:ak):aV:=(take X GH s).M λ_ s1=>(E' (.body []) s1).M λl s2=>put ⟨16,(aM X s).an,0,[],l⟩ s2
def mz (X:Src)(E':Rec)(s:ak):aV:=
 if bw X s wB then(kD X E' (bs s)).M λb s1=>fL 29 (aM X s).an b s1
 else(take X wo s).M λ_ s1=>
  if hZ X s1=true/\ht X s1 p8=true then
   (take X l4 (ll s1)).M λ_ s2=>(E' (.b6 0) s2).M λc aq=>(kD X E' aq).M λb bA=>put ⟨27,(aM X s).an,0,(aM X s1).O,c++b⟩ bA
  else if bw X s1 l4 then(E' (.b6 0) (bs s1)).M λc aq=>(kD X E' aq).M λb bA=>put ⟨27,(aM X s).an,0,[],c++b⟩ bA
  else(E' (.b6 0) s1).M λc s2=>(take X l4 s2).M λ_ aq=>(E' (.b6 0) aq).M λv bA=>(kD X E' bA).M λb cm=>fL 28 (aM X s).an (c++v++b) cm
def choice(X:Src)(E':Rec)(at_:Nat)(s:ak):aV:=(enter X qM s).M λ_ s1=>(E' (.cases []) s1).M λl s2=>(dU X dm s2).M λ_ aq=>put ⟨26,at_,0,[],l⟩ aq
def ja (X:Src)(E':Rec)(s:ak):aV:=
 if bw X s K' then(E' (.b6 0) (bs s)).M λe s1=>fL 21 (aM X s).an e s1
 else if bw X s PV then bracketed X E' 30 (aM X s).an (bs s)
 else if bw X s PW then bracketed X E' 31 (aM X s).an (bs s)
 else if bw X s PX then bracketed X E' 32 (aM X s).an (bs s)
 else if bw X s qJ then E' .branch s
 else if bw X s KN then(E' (.b6 0) (bs s)).M λc s1=>(E' .block s1).M λb s2=>fL 23 (aM X s).an (c++b) s2
 else if bw X s K8 then
  if bw X (bs s) hC=true\/bw X (bs s) dm=true then fL 24 (aM X s).an [] (bs s)
  else(E' (.b6 0) (bs s)).M λe s1=>fL 24 (aM X s).an e s1
 else if bw X s K9 then fL 25 (aM X s).an [] (bs s)
 else if bw X s Pz then choice X E' (aM X s).an (bs s)
 else if hZ X s=true/\ht X s p8=true then(E' (.b6 0) (ll s)).M λe s1=>put ⟨17,(aM X s).an,0,(aM X s).O,e⟩ s1
 else(E' (.b6 0) s).M λa s1=>
  if bw X s1 Bh then(E' (.b6 0) (bs s1)).M λb s2=>fL 18 (aM X s).an (a++b) s2
  else if bw X s1 l4 then(E' (.b6 0) (bs s1)).M λb s2=>fL 20 (aM X s).an (a++b) s2
  else fL 19 (aM X s).an a s1
def oa (X:Src)(E':Rec)(s:ak):aV:=
 (take X qJ s).M λ_ s1=>(E' (.b6 0) s1).M λc s2=>(E' .block s2).M λb aq=>
  if bw X aq vg then
   if ht X aq qJ then(enter X vg aq).M λ_ bA=>(E' .branch bA).M λe cm=>fL 22 (aM X s).an (c++b++e) (down cm)
   else(E' .block (bs aq)).M λe cm=>fL 22 (aM X s).an (c++b++e) cm
  else fL 22 (aM X s).an (c++b) aq
def mS (X:Src)(E':Rec)(k a:Nat)(s:ak):aV:=
 if k<hn X s then(E' (.b6 (hn X s)) (bs s)).M λb s1=>(put ⟨46,(aM X s).an,0,(aM X s).O,a::b⟩ s1).M λe s2=>E' (.iy k (Y e 0 0)) s2
 else .ok [a] s
def made (X:Src)(E':Rec)(at_:Nat)(s:ak):aV:=
 (enter X gK s).M λ_ s1=>(enter X qI s1).M λ_ s2=>(E' .typ s2).M λk aq=>
  if bw X (down aq) tV then
   if mB X (bs (down aq)) then(dU X eW (bs (bs (down aq)))).M λ_ cm=>put ⟨42,at_,(aM X (bs (down aq))).aX,[],k⟩ cm
   else fail X 3 (bs (down aq))
  else(dU X eW (down aq)).M λ_ cm=>put ⟨42,at_,0,[],k⟩ cm
def kA (X:Src)(E':Rec)(s:ak):aV:=
 if mB X s then put ⟨33,(aM X s).an,(aM X s).aX,[],[]⟩ (bs s)
 else if bw X s PY then put ⟨34,(aM X s).an,1,[],[]⟩ (bs s)
 else if bw X s PA then fL 34 (aM X s).an [] (bs s)
 else if bw X s La then fL 35 (aM X s).an [] (bs s)
 else if bw X s oR then(sig X E' (bs s)).M λg s1=>(E' .block s1).M λb s2=>fL 40 (aM X s).an (g++b) s2
 else if bw X s K_ then(enter X gK (bs s)).M λ_ s1=>(name X s1).M λ_ s2=>(dU X eW s2).M λ_ aq=>put ⟨41,(aM X s).an,0,(aM X s1).O,[]⟩ aq
 else if bw X s KO then made X E' (aM X s).an (bs s)
 else if bw X s gK then(enter X gK s).M λ_ s1=>(E' (.b6 0) s1).M λe s2=>(dU X eW s2).M λ_ aq=> .ok e aq
 else(name X s).M λ_ s1=>put ⟨36,(aM X s).an,0,(aM X s).O,[]⟩ s1
def ky (X:Src)(E':Rec)(x:List UInt8)(j':Int)(s:ak):aV:=(enter X x s).M λ_ s1=>(E' .unary s1).M λe s2=>fL j' (aM X s).an e (down s2)
def jV (X:Src)(E':Rec)(s:ak):aV:=
 if bw X s Bc then ky X E' Bc 43 s
 else if bw X s C9 then ky X E' C9 44 s
 else if bw X s l4 then ky X E' l4 45 s
 else(kA X E' s).M λe s1=>E' (.part (Y e 0 0)) s1
def oU (X:Src)(E':Rec)(e:Nat)(s:ak):aV:=
 if bw X s gK then(list X (E' (.exprs [])) s).M λl s1=>(fL 38 (aM X s).an (e::l) s1).M λag s2=>E' (.part (Y ag 0 0)) s2
 else if bw X s Bg then
  if bw X (bs s) gK then(enter X gK (bs s)).M λ_ s1=>(E' .typ s1).M λt s2=>(dU X eW s2).M λ_ aq=>(fL 39 (aM X s).an (e::t) aq).M λag bA=>E' (.part (Y ag 0 0)) bA
  else(name X (bs s)).M λ_ s1=>(put ⟨37,(aM X s).an,0,(aM X (bs s)).O,[e]⟩ s1).M λag s2=>E' (.part (Y ag 0 0)) s2
 else .ok [e] s
def jY (X:Src)(E':Rec)(s:ak):aV:=(name X s).M λ_ s1=>(sig X E' s1).M λg s2=>put ⟨11,(aM X s).an,0,(aM X s).O,g⟩ s2
def typed(X:Src)(E':Rec)(at_:Nat)(s:ak):aV:=
 (name X s).M λ_ s1=>
  if bw X s1 JL then(items X (E' (.fields [])) (bs s1)).M λl s2=>put ⟨10,at_,0,(aM X s).O,l⟩ s2
  else(take X Jj s1).M λ_ s2=>(items X (E' (.j_ [])) s2).M λl aq=>put ⟨12,at_,0,(aM X s).O,l⟩ aq
def method(X:Src)(E':Rec)(at_:Nat)(s:ak):aV:=
 (enter X gK s).M λ_ s1=>(name X s1).M λ_ s2=>(pointer X s2).M λp aq=>(dU X eW aq).M λ_ bA=>
  (put ⟨7,(aM X s1).an,0,(aM X s1).O,p⟩ bA).M λself cm=>(name X cm).M λ_ ha=>(sig X E' ha).M λg mj=>(E' .block mj).M λb ik=>put ⟨14,at_,0,(aM X cm).O,self++g++b⟩ ik
def j9 (X:Src)(E':Rec)(s:ak):aV:=
 if bw X s Ke then typed X E' (aM X s).an (bs s)
 else(take X oR s).M λ_ s1=>
  if bw X s1 gK then method X E' (aM X s).an s1
  else(name X s1).M λ_ s2=>(sig X E' s2).M λg aq=>(E' .block aq).M λb bA=>put ⟨13,(aM X s).an,0,(aM X s1).O,g++b⟩ bA
def kE (X:Src)(E':Rec):Fn->ak->aV
 | .typ,s=>l5 X E' s
 | .block,s=>mQ X E' s
 | .stmt,s=>ja X E' s
 | .branch,s=>oa X E' s
 | .b6 k,s=>(E' .unary s).M λe s1=>E' (.iy k (Y e 0 0)) s1
 | .iy k a,s=>mS X E' k a s
 | .unary,s=>jV X E' s
 | .part e,s=>oU X E' e s
 | .jX d',s=>l3 X (E' .typ) (λa=>E' (.jX a)) d' s
 | .params d',s=>l3 X (named X E' 7) (λa=>E' (.params a)) d' s
 | .exprs d',s=>l3 X (E' (.b6 0)) (λa=>E' (.exprs a)) d' s
 | .stmts d',s=>kh X (E' .stmt) (λa=>E' (.stmts a)) d' s
 | .body d',s=>
  if nw X s [wo,wB,dm] then .ok d' s
  else(E' .stmt s).M λk s1=>if bw X s1 dm then .ok (d'++k) s1 else(take X hC s1).M λ_ s2=>E' (.body (d'++k)) s2
 | .cases d',s=>if bw X s dm then .ok d' s else(mz X E' s).M λk s1=>E' (.cases (d'++k)) s1
 | .fields d',s=>kh X (named X E' 9) (λa=>E' (.fields a)) d' s
 | .j_ d',s=>kh X (jY X E') (λa=>E' (.j_ a)) d' s
 | .decls d',s=>
  if s.i<D X.bu then(j9 X E' s).M λk s1=>if s1.i<D X.bu then(take X hC s1).M λ_ s2=>E' (.decls (d'++k)) s2 else E' (.decls (d'++k)) s1
  else .ok d' s
def run (X:Src):Nat->Rec
 |0,_,_=> .o
 |n+1,f,s=>kE X (run X n) f s
def start:ak:=⟨0,0,[]⟩
def program(X:Src)(n:Nat):aV:=(run X n (.decls []) start).M λl s=>put ⟨15,(aM X start).an,0,[],l⟩ s
def parse(X:Src)(n:Nat):aV:=(program X n).M λv s=>if 1200<D s.aj then .bL 5 X.len else .ok v s
def qw (r pJ:aV):Prop:=r≠ .o->pJ=r
def qw.refl(r:aV):qw r r:=λ_=>rfl
def qw.M{r pJ}{f mP:List Nat->ak->aV}(h:qw r pJ)(aI: ∀v s,qw (f v s) (mP v s)):qw (r.M f) (pJ.M mP):=by
 intro aZ;cases r with
 |o=>exact absurd rfl aZ
 |bL c p=>rw[h bT];rfl
 |ok v s=>rw[h bT];exact aI v s aZ
def qw.ite{c} [Decidable c]{a ni b oL}(R:qw a ni)(T:qw b oL):qw (if c then a else b) (if c then ni else oL):=by
 split
 .exact R
 .exact T
def TF (E' Dv:Rec):Prop:= ∀f s,qw (E' f s) (Dv f s)
def ab'{X E' Dv}(h:TF E' Dv)(f:Fn)(s:ak):qw (kE X E' f s) (kE X Dv f s):=by have h: ∀f s,qw (E' f s) (Dv f s):=h;cases f<;>dsimp only[kE,l5,mQ,ja,oa,mS,jV,oU,kA,ky,made,sig,result,list,items,l3,kh,named,bracketed,kD,mz,choice,jY,typed,method,j9]<;>with_reducible repeat' first|exact qw.refl _|exact h _ _|refine qw.ite ?_ ?_|refine qw.M ?_ λ_ _=>?_
def WU(X:Src)(n:Nat):TF (run X n) (run X (n+1)):=by
 induction n with
 |zero=>intro f s aZ;exact absurd rfl aZ
 |succ n cB=>intro f s;exact ab' cB f s
end B
namespace B
def GI:Fn->Bool
 | .typ=>true
 | .block=>true
 | .stmt=>true
 | .branch=>true
 | .b6 _=>true
 | .iy _ _=>true
 | .unary=>true
 | .part _=>true
 |_=>false
def bn (r:aV):Prop:= ∀v s',r= .ok v s'-> ∃a,v=[a]
abbrev By (E':Rec):Prop:= ∀f,GI f=true-> ∀s,bn (E' f s)
def bn.M{r:aV}{f:List Nat->ak->aV}(aI: ∀v s,bn (f v s)):bn (r.M f):=by
 intro v s' h;cases r with
 |o=>cases h
 |bL c p=>cases h
 |ok v1 s1=>exact aI v1 s1 v s' h
def bn.ite{c} [Decidable c]{a b}(R:bn a)(T:bn b):bn (if c then a else b):=by
 split
 .exact R
 .exact T
def bn.put(Z:aP)(s):bn (put Z s):=by
 intro v s' h;unfold B.put at h;split at h
 .cases h;exact⟨_,rfl⟩
 .cases h
def bn.fail(X:Src)(c:Int)(s):bn (fail X c s):=λv s' h=>by cases h
def bn.one(a s):bn (.ok [a] s):=λv s' h=>by cases h;exact⟨_,rfl⟩
def bn.Jg{r:aV}{f:List Nat->ak->aV}(aI: ∀v s,r= .ok v s->bn (f v s)):bn (r.M f):=by
 intro v s' h;cases r with
 |o=>cases h
 |bL c p=>cases h
 |ok v1 s1=>exact aI v1 s1 rfl v s' h
def one{r}(H:bn r:=by
 (try dsimp only[pointer,named,result,sig,l5,mQ,bracketed,kD,mz,choice,ja,oa,mS,made,kA,ky,jV,oU,jY,typed,method,j9,list,items,l3,kh,fL,kE])
 repeat' first
  |exact bn.put _ _
  |exact bn.fail _ _ _
  |exact bn.one _ _
  |refine bn.ite ?_ ?_
  |refine bn.Jg λ_ _ _=>?_
  |exact h _ rfl _
  |exact λ_ _ hJ=>by cases hJ;exact h _ rfl _ _ _ (by assumption)):bn r:=H
section
variable{X:Src}{E':Rec}(h:By E')
theorem FZ(s):bn (pointer X s):=one
theorem JF(j':Int)(s):bn (named X E' j' s):=one
theorem C8(s):bn (sig X E' s):=one
theorem FX(j':Int)(at_:Nat)(s):bn (bracketed X E' j' at_ s):=one
theorem Wt(s):bn (kD X E' s):=one
theorem Wu(s):bn (mz X E' s):=one
theorem Jr(at_:Nat)(s):bn (choice X E' at_ s):=one
theorem PB(at_:Nat)(s):bn (made X E' at_ s):=one
theorem QC(s):bn (jY X E' s):=one
theorem O8(at_:Nat)(s):bn (typed X E' at_ s):=one
theorem OZ(at_:Nat)(s):bn (method X E' at_ s):=one
theorem Jv(s):bn (j9 X E' s):=one
include h
theorem Jp(s):bn (kA X E' s):=one
end
def p5(X:Src)(n):By (run X n):=by
 induction n with
 |zero=>intro f _ s v s' h;cases h
 |succ n h=>
  intro f aI s;cases f<;>first
   |(cases aI;done)
   |(show bn (kE X (run X n) _ s);exact one)
end B
namespace B
def dr (r:aV)(d:Int):Prop:= ∀v s',r= .ok v s'->s'.bR=d
abbrev Dw (E':Rec):Prop:= ∀f s,dr (E' f s) s.bR
def dr.M{r d d2}{f:List Nat->ak->aV}(h:dr r d)(aI: ∀v s,s.bR=d->dr (f v s) d2):dr (r.M f) d2:=by
 intro v s' he;cases r with
 |o=>cases he
 |bL c p=>cases he
 |ok v1 s1=>exact aI v1 s1 (h v1 s1 rfl) v s' he
def dr.ite{c} [Decidable c]{a b d}(R:dr a d)(T:dr b d):dr (if c then a else b) d:=by
 split
 .exact R
 .exact T
def dr.put(Z:aP)(s:ak):dr (put Z s) s.bR:=by
 intro v s' h;unfold B.put at h;split at h
 .cases h;rfl
 .cases h
def dr.fail(X:Src)(c:Int)(s d):dr (fail X c s) d:=λv s' h=>by cases h
def dr.ok(v:List Nat)(s:ak):dr (.ok v s) s.bR:=λv s' h=>by cases h;rfl
def dr.take(X:Src)(x:List UInt8)(s:ak):dr (take X x s) s.bR:=dr.ite (λv s' h=>by cases h;rfl) (dr.fail _ _ _ _)
def dr.name(X:Src)(s:ak):dr (name X s) s.bR:=dr.ite (λv s' h=>by cases h;rfl) (dr.fail _ _ _ _)
def dr.enter(X:Src)(x:List UInt8)(s:ak):dr (enter X x s) (s.bR+1):=dr.ite (dr.fail _ _ _ _) (dr.M (dr.take X x s) λv s1 h v2 s2 T=>by cases T;show s1.bR+1=_;rw[h])
def dr.dU(X:Src)(x:List UInt8)(s:ak):dr (dU X x s) (s.bR- 1):=dr.M (dr.take X x s) λv s1 h v2 s2 T=>by cases T;show s1.bR- 1=_;rw[h]
def dr.to{r d d2}(h:dr r d)(e:d=d2):dr r d2:=e▸h
section
variable{X:Src}{E':Rec}(h:Dw E')
theorem PZ{l:ak->aV}(hl: ∀s,dr (l s) s.bR)(s:ak):dr (list X l s) s.bR:=
 dr.M (dr.enter X _ s) λ_ s1 ag=>dr.M (hl s1) λ_ s2 aE=>dr.M (dr.dU X _ s2) λv aq bU=>(dr.ok _ _).to J
theorem PC{l:ak->aV}(hl: ∀s,dr (l s) s.bR)(s:ak):dr (items X l s) s.bR:=
 dr.M (dr.enter X _ s) λ_ s1 ag=>dr.M (hl s1) λ_ s2 aE=>dr.M (dr.dU X _ s2) λv aq bU=>(dr.ok _ _).to J
theorem A3(s:ak):(bs s).bR=s.bR:=rfl
theorem AY(s:ak):(ll s).bR=s.bR:=rfl
theorem Jw(s:ak):(down s).bR=s.bR- 1:=rfl
theorem ib{r d}(H:dr r d:=by
 (try dsimp only[pointer,named,result,sig,l5,mQ,bracketed,kD,mz,choice,ja,oa,mS,made,kA,ky,jV,oU,jY,typed,method,j9,list,items,l3,kh,fL,kE,id])
 (try simp only[i',n8,jt,JE])
 with_reducible repeat' first
  |exact dr.fail _ _ _ _
  |refine dr.ite ?_ ?_
  |refine dr.M (dr.take _ _ _) λ_ _ _=>?_
  |refine dr.M (dr.enter _ _ _) λ_ _ _=>?_
  |refine dr.M (dr.dU _ _ _) λ_ _ _=>?_
  |refine dr.M (dr.name _ _) λ_ _ _=>?_
  |refine dr.M (dr.put _ _) λ_ _ _=>?_
  |refine dr.M (h _ _) λ_ _ _=>?_
  |exact(dr.put _ _).to (by first|exact A3 _|exact AY _|omega|(simp only[A3,AY,Jw] at*;omega))
  |exact(dr.ok _ _).to (by first|exact A3 _|exact AY _|omega|(simp only[A3,AY,Jw] at*;omega))
  |exact(h _ _).to (by first|exact A3 _|exact AY _|omega|(simp only[A3,AY,Jw] at*;omega))):dr r d:=H
theorem XS(s:ak):dr (pointer X s) s.bR:=ib
include h
theorem QD(j':Int)(s:ak):dr (named X E' j' s) s.bR:=ib
theorem aem(s:ak):dr (sig X E' s) s.bR:=ib
theorem WC(j':Int)(at_:Nat)(s:ak):dr (bracketed X E' j' at_ s) s.bR:=ib
theorem ab_(s:ak):dr (kD X E' s) s.bR:=ib
theorem aca(s:ak):dr (mz X E' s) s.bR:=ib
theorem Z4(at_:Nat)(s:ak):dr (choice X E' at_ s) s.bR:=ib
theorem adi(at_:Nat)(s:ak):dr (made X E' at_ s) s.bR:=ib
theorem Z5(s:ak):dr (kA X E' s) s.bR:=ib
theorem adj(s:ak):dr (jY X E' s) s.bR:=ib
theorem acb(at_:Nat)(s:ak):dr (typed X E' at_ s) s.bR:=ib
theorem Z6(at_:Nat)(s:ak):dr (method X E' at_ s) s.bR:=ib
theorem acd(f:Fn)(s:ak):dr (kE X E' f s) s.bR:=by cases f<;>exact ib
end
def mv(X:Src)(n):Dw (run X n):=by
 induction n with
 |zero=>intro f s v s' h;cases h
 |succ n cB=>exact λf s=>acd cB f s
end B
namespace B
def rowIs(X:Src)(s:ak)(k:Nat):Bool:=nw X s (Y mw k [])
def ub (t:List UInt8):Nat:=
 if(Y mw 0 []).any (λy=>t==y) then 1 else if(Y mw 1 []).any (λy=>t==y) then 2 else if(Y mw 2 []).any (λy=>t==y) then 3 else if(Y mw 3 []).any (λy=>t==y) then 4 else if(Y mw 4 []).any (λy=>t==y) then 5 else 0
def adk{X s x}(h:bw X s x=true)(y):bw X s y=(x==y):=by unfold bw at h|-;rw[pv] at h;rw[eq_of_beq h.1,h.2,Bool.and_true]
def adl{X s x}(h:bw X s x=true):hn X s=ub x:=by unfold hn nw ub;simp only[adk h]
def adm{X s k}(U:k<5)(h:rowIs X s k=true):hn X s=k+1:=by obtain⟨x,aF,ay⟩:=List.any_eq_true.1 h;rw[adl ay];have key: ∀k,k<5-> ∀x∈Y mw k [],ub x=k+1:=aN;exact key k U x aF
def P0{X s k}(h:hn X s=k+1):rowIs X s k=true:=by
 unfold hn at h;split at h
 .rename_i R;obtain rfl:k=0:=J;exact R
 .split at h
  .rename_i R;obtain rfl:k=1:=J;exact R
  .split at h
   .rename_i R;obtain rfl:k=2:=J;exact R
   .split at h
    .rename_i R;obtain rfl:k=3:=J;exact R
    .split at h
     .rename_i R;obtain rfl:k=4:=J;exact R
     .omega
def aen(X:Src)(s):hn X s<=5:=by
 cases h:hn X s with
 |zero=>omega
 |succ k=>
  have R:=P0 h;refine we λax=>?_;unfold rowIs at R;rw[cd,pr (by simp[mw];omega)] at R;simp[nw] at R
def Z7{X n k a s s' v}(h:run X n (.iy k a) s= .ok v s'):hn X s'<=k:=by
 induction n generalizing a s with
 |zero=>cases h
 |succ n cB=>
  have aH:mS X (run X n) k a s= .ok v s':=h;unfold mS at aH;split at aH
  .cases R:run X n (.b6 (hn X s)) (bs s) with
   |o=>rw[R] at aH;cases aH
   |bL c p=>rw[R] at aH;cases aH
   |ok v1 s1=>
    rw[R,jt] at aH;cases T:put ⟨46,(aM X s).an,0,(aM X s).O,a::v1⟩ s1 with
    |o=>rw[T] at aH;cases aH
    |bL c p=>rw[T] at aH;cases aH
    |ok v2 s2=>rw[T,jt] at aH;exact cB aH
  .cases aH;omega
def PD{X n k a s}(h:k<hn X s):run X (n+1) (.iy k a) s=(run X n (.b6 (hn X s)) (bs s)).M λb s1=>(put ⟨46,(aM X s).an,0,(aM X s).O,a::b⟩ s1).M λe s2=>run X n (.iy k (Y e 0 0)) s2:=by show mS X (run X n) k a s=_;unfold mS;rw[aS h]
def O1{X n k a s}(h: ¬k<hn X s):run X (n+1) (.iy k a) s= .ok [a] s:=by show mS X (run X n) k a s=_;unfold mS;rw[ao h]
def W7{X k}(n a:Nat)(s)(aZ:run X n (.iy k a) s≠ .o):run X n (.iy k a) s=(run X n (.iy (k+1) a) s).M λe s1=>run X n (.iy k (Y e 0 0)) s1:=by
 induction n generalizing a s with
 |zero=>exact absurd rfl aZ
 |succ n cB=>
  by_cases hl:k+1<hn X s
  .rw[PD (show k<hn X s by omega)] at aZ|-;rw[PD hl,i'];cases R:run X n (.b6 (hn X s)) (bs s) with
   |o=>rfl
   |bL c p=>rfl
   |ok v1 s1=>
    rw[R,jt] at aZ;rw[jt,jt,i'];cases T:put ⟨46,(aM X s).an,0,(aM X s).O,a::v1⟩ s1 with
    |o=>rfl
    |bL c p=>rfl
    |ok v2 s2=>
     rw[T,jt] at aZ;rw[jt,jt,cB _ _ aZ];have mV:=aZ;rw[cB _ _ aZ] at mV;cases ah:run X n (.iy (k+1) (Y v2 0 0)) s2 with
     |o=>rfl
     |bL c p=>rfl
     |ok v3 aq=>
      rw[ah,jt] at mV;exact(WU X n _ _ mV).symm
  .rw[O1 hl];rfl
def J'(X:Src)(n k:Nat)(s):run X (n+1) (.b6 k) s=(run X n .unary s).M λe s1=>run X n (.iy k (Y e 0 0)) s1:=rfl
def XT{X k}(n:Nat)(s)(aZ:run X (n+1) (.b6 k) s≠ .o):run X (n+1) (.b6 k) s=(run X (n+1) (.b6 (k+1)) s).M λe s1=>run X n (.iy k (Y e 0 0)) s1:=by
 rw[J'] at aZ|-;rw[J',i'];cases h:run X n .unary s with
 |o=>rfl
 |bL c p=>rfl
 |ok v s1=>
  rw[h,jt] at aZ;exact W7 _ _ _ aZ
def ace{X n k s s' v}(h:run X (n+1) (.b6 k) s= .ok v s'):hn X s'<=k:=by
 rw[J'] at h;cases R:run X n .unary s with
 |o=>rw[R] at h;cases h
 |bL c p=>rw[R] at h;cases h
 |ok v1 s1=>rw[R,jt] at h;exact Z7 h
def Z8(X:Src)(n:Nat)(s):run X (n+1) (.b6 5) s=run X n .unary s:=by
 rw[J'];cases h:run X n .unary s with
 |o=>rfl
 |bL c p=>rfl
 |ok v s1=>
  obtain⟨a,rfl⟩:=p5 X n .unary rfl s v s1 h;cases n with
  |zero=>cases h
  |succ n=>
   rw[jt,O1 (by have:=aen X s1;omega)];rfl
def W8{X n k a s}(U:k<5)(h:rowIs X s k=true):run X (n+1) (.iy k a) s=(run X n (.b6 (k+1)) (bs s)).M λb s1=>(put ⟨46,(aM X s).an,0,(aM X s).O,a::b⟩ s1).M λe s2=>run X n (.iy k (Y e 0 0)) s2:=by have hl:=adm U h;rw[PD J,hl]
def XU{X n k a s}(h:rowIs X s k=false)(hl:hn X s<=k+1):run X (n+1) (.iy k a) s= .ok [a] s:=by refine O1 λax=>?_;have R:=P0 (show hn X s=k+1 by omega);rw[h] at R;cases R
end B
namespace B
structure ez (X:Src)(s s':ak)(a:Nat)(b:Int):Prop where
 i:s.i+a<=s'.i
 g:(D s'.aj:Int)+2*s.i+b<=D s.aj+2*s'.i
 le:s.i<=D X.bu->s'.i<=D X.bu
def ee (X:Src)(r:aV)(s:ak)(a:Nat)(b:Int):Prop:= ∀v s',r= .ok v s'->ez X s s' a b
section
variable{X:Src}{r:aV}{s s1 s2:ak}{a a1 a2:Nat}{b b1 b2:Int}{f:List Nat->ak->aV}
def ez.trans(h:ez X s s1 a b)(T:ez X s1 s2 a1 b1):ez X s s2 (a+a1) (b+b1):=⟨by have:=h.i;have:=T.i;omega,by have:=h.g;have:=T.g;omega,λah=>T.le (h.le ah)⟩
def ez.to(h:ez X s s1 a b)(aR:a1<=a:=by omega)(G:b1<=b:=by omega):ez X s s1 a1 b1:=⟨by have:=h.i;omega,by have:=h.g;omega,h.le⟩
def ez.refl(X:Src)(s:ak):ez X s s 0 0:=⟨by omega,by omega,λh=>h⟩
def ez.down(h:ez X s s1 a b):ez X s (down s1) a b:=⟨h.i,h.g,h.le⟩
def ez.gz(X:Src)(s:ak):ez X s (B.down s) 0 0:=(ez.refl X s).down
def ee.to(h:ee X r s a b)(aR:a1<=a:=by omega)(G:b1<=b:=by omega):ee X r s a1 b1:=λv s' e=>(h v s' e).to aR G
def ee.M(h:ee X r s a b)(aI: ∀v s1,ez X s s1 a b->ee X (f v s1) s1 a1 b1):ee X (r.M f) s (a+a1) (b+b1):=by
 intro v s' he;cases r with
 |o=>cases he
 |bL c p=>cases he
 |ok v1 s1=>exact(h v1 s1 rfl).trans (aI v1 s1 (h v1 s1 rfl) v s' he)
def ee.from(h:ee X r s1 a1 b1)(aH:ez X s s1 a b):ee X r s (a+a1) (b+b1):=λv s' e=>aH.trans (h v s' e)
def ee.ite{c} [Decidable c]{x y}(R:c->ee X x s a b)(T: ¬c->ee X y s a b):ee X (if c then x else y) s a b:=by
 split
 .rename_i h;exact R h
 .rename_i h;exact T h
def ee.fail(c:Int)(s2):ee X (B.fail X c s2) s a b:=λv s' h=>by cases h
def ee.ok(v:List Nat)(h:ez X s s1 a b):ee X (.ok v s1) s a b:=λcc s' e=>by cases e;exact h
def ee.put(Z:aP):ee X (put Z s) s 0 (-1):=by
 intro v s' h;unfold B.put at h;split at h
 .cases h;exact⟨by simp,by simp;omega,λh=>h⟩
 .cases h
def KQ{x}(h:bw X s x=true):s.i<D X.bu:=by refine we λax=>?_;unfold bw aM iz at h;rw[cd,pr J] at h;simp at h
def QZ(h:hZ X s=true):s.i<D X.bu:=by refine we λax=>?_;unfold hZ aM iz at h;rw[cd,pr J] at h;simp at h
def aeo(h:mB X s=true):s.i<D X.bu:=by refine we λax=>?_;unfold mB aM iz at h;rw[cd,pr J] at h;simp at h
def adn{x}(h:ht X s x=true):s.i+1<D X.bu:=by unfold ht at h;rw[pv] at h;exact of_decide_eq_true h.1
def ez.bs(h:s.i<D X.bu):ez X s (bs s) 1 2:=⟨bD _,by show((D s.aj:Nat):Int)+2*s.i+2<=D s.aj+2*((s.i+1:Nat):Int);omega,λ_=>h⟩
def ez.ll(h:s.i+1<D X.bu):ez X s (ll s) 2 4:=⟨bD _,by show((D s.aj:Nat):Int)+2*s.i+4<=D s.aj+2*((s.i+2:Nat):Int);omega,λ_=>h⟩
def ee.take(x:List UInt8)(s:ak):ee X (take X x s) s 1 2:=ee.ite (λh=>ee.ok _ (ez.bs (KQ h))) (λ_=>ee.fail _ _)
def ee.name(s:ak):ee X (name X s) s 1 2:=ee.ite (λh=>ee.ok _ (ez.bs (QZ h))) (λ_=>ee.fail _ _)
def ee.enter(x:List UInt8)(s:ak):ee X (enter X x s) s 1 2:=ee.ite (λ_=>ee.fail _ _) (λ_=>ee.to (ee.M (ee.take x s) (a1:=0) (b1:=0) λv s1 _=>ee.ok (s1:=up s1) v ⟨by show s1.i+0<=s1.i;omega,by show((D s1.aj:Nat):Int)+2*s1.i+0<=D s1.aj+2*s1.i;omega,λh=>h⟩))
def ee.dU(x:List UInt8)(s:ak):ee X (dU X x s) s 1 2:=ee.to (ee.M (ee.take x s) (a1:=0) (b1:=0) λv s1 _=>ee.ok _ (ez.gz X s1))
end
def GB:Fn->Nat
 | .typ=>1
 | .block=>1
 | .stmt=>1
 | .branch=>1
 | .b6 _=>1
 | .unary=>1
 |_=>0
def GC:Fn->Int
 | .typ=>1
 | .block=>1
 | .branch=>1
 | .b6 _=>1
 | .unary=>1
 |_=>0
abbrev Grow (X:Src) (E':Rec):Prop:= ∀f s,ee X (E' f s) s (GB f) (GC f)
def KR{X k s}(U:k<hn X s):s.i<D X.bu:=by have R:=P0 (X:=X) (s:=s) (k:=hn X s- 1) J;obtain⟨x,aF,ay⟩:=List.any_eq_true.1 R;exact KQ ay
section
variable{X:Src}{r:aV}{s0 s s1:ak}{a a1 bP:Nat}{b b1 V:Int}{f:List Nat->ak->aV}
def aij{x}(h:ez X s s1 a b)(e:bw X s1 x=true):ez X s (bs s1) (a+1) (b+2):=h.trans (ez.bs (KQ e))
def ail(h:ez X s s1 a b)(e:mB X s1=true):ez X s (bs s1) (a+1) (b+2):=h.trans (ez.bs (aeo e))
def aik{k}(h:ez X s s1 a b)(e:k<hn X s1):ez X s (bs s1) (a+1) (b+2):=h.trans (ez.bs (KR e))
def aim{p x}(h:ez X s s1 a b)(e:p/\ht X s1 x=true):ez X s (ll s1) (a+2) (b+4):=h.trans (ez.ll (adn e.2))
def ch(H:ez X s s1 a b:=by
 with_reducible first
  |exact‹B.ez _ _ _ _ _›
  |exact B.ez.refl _ _
  |(apply B.aij;exact B.ch;assumption)
  |(apply B.ail;exact B.ch;assumption)
  |(apply B.aik;exact B.ch;assumption)
  |(apply B.aim;exact B.ch;assumption)
  |(apply B.ez.down;exact B.ch)):ez X s s1 a b:=H
def ee.step(g:ee X r s a1 b1)(aH:ez X s0 s a b)(aI: ∀v s1,ez X s0 s1 (a+a1) (b+b1)->ee X (f v s1) s0 bP V):ee X (r.M f) s0 bP V:=by
 intro v s' he;cases r with
 |o=>cases he
 |bL c p=>cases he
 |ok v1 s1=>exact aI v1 s1 (aH.trans (g v1 s1 rfl)) v s' he
def ee.leaf(g:ee X r s a1 b1)(aH:ez X s0 s a b)(aR:bP<=a+a1)(G:V<=b+b1):ee X r s0 bP V:=(g.from aH).to aR G
def ee.done(v:List Nat)(aH:ez X s0 s a b)(aR:bP<=a)(G:V<=b):ee X (.ok v s) s0 bP V:=ee.ok v (aH.to aR G)
end
section
variable{X:Src}{E':Rec}(h:Grow X E')
include h
theorem AT(f:Fn)(s:ak){a b}(aR:GB f=a:=by dsimp only[B.GB])(G:GC f=b:=by dsimp only[B.GC]):ee X (E' f s) s a b:=by subst aR G;exact h f s
theorem acf(f:Fn)(s:ak):ee X (kE X E' f s) s (GB f) (GC f):=by
 cases f<;>dsimp only[pointer,named,result,sig,l5,mQ,bracketed,kD,mz,choice,ja,oa,mS,made,kA,ky,jV,oU,jY,typed,method,j9,list,items,l3,kh,fL,kE,id,GB,GC]<;>(try simp only[i',n8,jt,JE])<;>with_reducible repeat' first
  |exact ee.fail _ _
  |refine ee.ite (λ_=>?_) (λ_=>?_)
  |(apply ee.step (ee.take _ _);exact ch;intro _ _ _)
  |(apply ee.step (ee.enter _ _);exact ch;intro _ _ _)
  |(apply ee.step (ee.dU _ _);exact ch;intro _ _ _)
  |(apply ee.step (ee.name _);exact ch;intro _ _ _)
  |(apply ee.step (ee.put _);exact ch;intro _ _ _)
  |(apply ee.step (AT h _ _);exact ch;intro _ _ _)
  |(apply ee.leaf (ee.put _);exact ch;omega;omega)
  |(apply ee.leaf (AT h _ _);exact ch;omega;omega)
  |(apply ee.done;exact ch;omega;omega)
end
def PE(X:Src)(n):Grow X (run X n):=by
 induction n with
 |zero=>intro f s v s' h;cases h
 |succ n cB=>exact λf s=>acf cB f s
end B
namespace B
def wN:Fn->Nat
 | .stmt=>2
 | .b6 _=>1
 | .exprs _=>2
 | .jX _=>1
 | .stmts _=>3
 | .body _=>3
 |_=>0
def ado(f:Fn):wN f<=3:=by cases f<;>simp[wN]
structure AP (X:Src)(s:ak):Prop where
 le:s.i<=D X.bu
 fA:D s.aj<=2*s.i
structure rb (X:Src)(E':Rec)(n:Nat)(s0:ak):Prop where
 cB: ∀f s,AP X s->4*(D X.bu-s.i)+wN f<n->E' f s≠ .o
 FW:Grow X E'
 fA:D X.bu<=12001
 q:AP X s0
 n:4*(D X.bu-s0.i)<=n
def PT(X:Src)(x:List UInt8)(s):take X x s≠ .o:=by unfold take fail;split<;>simp
def adp(X:Src)(s):name X s≠ .o:=by unfold name fail;split<;>simp
def GU(v:List Nat)(s):aV.ok v s≠ .o:=bT
def P1{r:aV}{f:List Nat->ak->aV}(au:r≠ .o)(aI: ∀v s,f v s≠ .o):r.M f≠ .o:=by
 cases r with
 |o=>exact absurd rfl au
 |bL c p=>simp[aV.M]
 |ok v s=>exact aI v s
def acg(X:Src)(x:List UInt8)(s):enter X x s≠ .o:=by
 unfold enter;split
 .simp[fail]
 .exact P1 (PT _ _ _) λ_ _=>GU _ _
def ach(X:Src)(x:List UInt8)(s):dU X x s≠ .o:=P1 (PT _ _ _) λ_ _=>GU _ _
def adq(X:Src)(c:Int)(s):fail X c s≠ .o:=by simp[fail]
def R4{c:Prop} [Decidable c]{x:aV}{y}(R:c->x≠ .o)(T: ¬c->y≠ .o):(if c then x else y)≠ .o:=by
 split
 .rename_i h;exact R h
 .rename_i h;exact T h
section
variable{X:Src}{E':Rec}{n:Nat}{s0 s s1:ak}{r:aV}{f:List Nat->ak->aV}{a a0:Nat}{b eS:Int}
def AO.M(au:r≠ .o)(g:ee X r s a b)(aH:ez X s0 s a0 eS)(aI: ∀v s1,ez X s0 s1 (a0+a) (eS+b)->f v s1≠ .o):r.M f≠ .o:=by
 cases r with
 |o=>exact absurd rfl au
 |bL c p=>simp[aV.M]
 |ok v s1=>exact aI v s1 (aH.trans (g v s1 rfl))
def rb.go(c:rb X E' n s0)(h:ez X s0 s1 a b)(f:Fn)(aR:1<=a)(G:0<=b):E' f s1≠ .o:=by have R:=h.i;have T:=h.g;have ah:=h.le c.q.le;have bJ:=c.q.fA;have dH:=c.n;have fE:=ado f;exact c.cB f s1 ⟨ah,by omega⟩ J
def rb.put(c:rb X E' n s0)(h:ez X s0 s1 a b){Z}(G: -1<=b):put Z s1≠ .o:=by have T:=h.g;have ah:=h.le c.q.le;have bJ:=c.q.fA;have dH:=c.fA;unfold B.put;rw[aS J];simp
def rb.ae5(c:rb X E' n s0){Z}(h:ez X s0 s a b)(G: -1<=b)(aI: ∀v s1,ez X s0 s1 (a+0) (b+ -1)->f v s1≠ .o):(B.put Z s).M f≠ .o:=AO.M (c.put h G) (ee.put Z) h aI
def rb.ae6(c:rb X E' n s0){g}(aB:ee X (E' g s) s a b)(h:ez X s0 s a0 eS)(aR:1<=a0)(G:0<=eS)(aI: ∀v s1,ez X s0 s1 (a0+a) (eS+b)->f v s1≠ .o):(E' g s).M f≠ .o:=AO.M (c.go h g aR G) aB h aI
def rb.low(c:rb X E' n s){g}(f:Fn)(ax:4*(D X.bu-s.i)+wN g<n+1)(au:wN f<wN g):E' f s≠ .o:=c.cB f s c.q J
def aci(c:rb X E' n s)(f:Fn)(ax:4*(D X.bu-s.i)+wN f<n+1):kE X E' f s≠ .o:=by
 cases f<;>dsimp only[pointer,named,result,sig,l5,mQ,bracketed,kD,mz,choice,ja,oa,mS,made,kA,ky,jV,oU,jY,typed,method,j9,list,items,l3,kh,fL,kE,id]<;>(try simp only[i',n8,jt,JE])<;>with_reducible repeat' first
  |exact GU _ _
  |exact adq _ _ _
  |refine R4 (λ_=>?_) (λ_=>?_)
  |(apply AO.M (s0:=s) (PT _ _ _) (ee.take _ _);exact ch;intro _ _ _)
  |(apply AO.M (s0:=s) (acg _ _ _) (ee.enter _ _);exact ch;intro _ _ _)
  |(apply AO.M (s0:=s) (ach _ _ _) (ee.dU _ _);exact ch;intro _ _ _)
  |(apply AO.M (s0:=s) (adp _ _) (ee.name _);exact ch;intro _ _ _)
  |(apply rb.ae5 c;exact ch;omega;intro _ _ _)
  |(apply rb.ae6 c (AT c.FW _ _);exact ch;omega;omega;intro _ _ _)
  |(apply AO.M (s0:=s) (c.low _ ax (by simp[wN])) (AT c.FW _ _);exact ch;intro _ _ _)
  |(apply rb.put c;exact ch;omega)
  |(apply rb.go c;exact ch;omega;omega)
  |exact c.low _ ax (by simp[wN])
end
def aep{X}(hl:D X.bu<=12001)(n:Nat)(f:Fn)(s:ak)(q:AP X s)(ax:4*(D X.bu-s.i)+wN f<n):run X n f s≠ .o:=by
 induction n generalizing f s with
 |zero=>omega
 |succ n cB=>exact aci (n:=n) ⟨cB,PE X n,hl,q,by omega⟩ f ax
def fuel:Nat:=50000
def O2{X}(hl:D X.bu<=12001):program X fuel≠ .o:=by
 have q:AP X start:=⟨by show(0:Nat)<=_;omega,by show(0:Nat)<=_;omega⟩;have R:=aep hl fuel (.decls []) start q (by show 4*(D X.bu- 0)+0<50000;omega);unfold program;cases h:run X fuel (.decls []) start with
 |o=>exact absurd h R
 |bL c p=>simp[aV.M]
 |ok v s=>
  have g:ez X start s 0 0:=PE X fuel (.decls []) start v s h;have g2:=g.g;have g3:=g.le q.le;have ag:D start.aj=0:=rfl;have aE:start.i=0:=rfl;rw[jt];unfold put;rw[aS J];simp
def acj{X}(hl:D X.bu<=12001):parse X fuel≠ .o:=P1 (O2 hl) λv s=>R4 (λ_=>by simp) λ_=>GU _ _
end B
namespace B
open aa (Tok)
def hE:List (List UInt8)->List UInt8
 |[]=>[]
 |[x]=>x
 |x::y::r=>x++44::hE (y::r)
def i_:List UInt8:=[99,104,97,110,32]
def f':List UInt8:=[102,117,110,99,40]
def eD:aP:=⟨0,0,0,[],[]⟩
def lH (L:List aP):Nat->Nat->List UInt8
 |0,_=>[]
 |f+1,k=>
  if(Y L k eD).j'=1 then wH
  else if(Y L k eD).j'=2 then wz
  else if(Y L k eD).j'=3 then(Y L k eD).O
  else if(Y L k eD).j'=4 then 42::(Y L k eD).O
  else if(Y L k eD).j'=5 then i_++lH L f ((Y L k eD).I.getD 0 0)
  else if(Y L k eD).j'=7 then lH L f ((Y L k eD).I.getD 0 0)
  else if(Y L k eD).j'=6\/(Y L k eD).j'=8 then
   f'++hE (((Y L k eD).I.take (Y L k eD).aX.toNat).map λj=>lH L f j)++41::(if(Y L k eD).aX.toNat<(Y L k eD).I.length then 32::lH L f ((Y L k eD).I.getD (Y L k eD).aX.toNat 0) else[])
  else[]
def O (L:List aP)(k:Nat):List UInt8:=lH L (k+1) k
structure oh (L:List aP)(k:Nat)(n:aP):Prop where
 lt: ∀j∈n.I,j<k
 one:n.j'=5\/n.j'=7\/n.j'=11->n.I≠[]
 aX:n.j'=6\/n.j'=8-> ∃m:Nat,n.aX=(m:Int)/\m<=D n.I
 self:n.j'=14-> ∃a b l,n.I=a::b::l/\(Y L a eD).I≠[]/\(Y L a eD).j'=7
 ms:n.j'=12-> ∀j∈n.I,(Y L j eD).I≠[]
def h1 (L:List aP):Prop:= ∀k n,L[k]?=some n->oh L k n
def mO{L k n}(h:L[k]?=some n):Y L k eD=n:=by rw[cd,h];rfl
def getD_none{L k}(h:D L<=k):Y L k eD=eD:=by rw[cd,pr h];rfl
def A2{L ar k}(h:k<D L):Y (L++ar) k eD=Y L k eD:=by rw[cd,cd,qz h]
def pw{l i}(h:i<D l):Y l i 0∈l:=by rw[cd,cE h];exact im h
def Ws{L iY f mP k}(ax:Y L k eD=Y iY k eD)(bX:oh L k (Y L k eD))(U: ∀j,j<k->lH L f j=lH iY mP j):lH L (f+1) k=lH iY (mP+1) k:=by
 unfold lH;rw[<-ax];generalize Y L k eD=n at*;have aH: ∀i,i<D n.I->lH L f (Y n.I i 0)=lH iY mP (Y n.I i 0):=λi ay=>U _ (bX.lt _ (pw ay));by_cases R:n.j'=1
 .simp only[R,if_true]
 by_cases T:n.j'=2
 .simp[T]
 by_cases ah:n.j'=3
 .simp[ah]
 by_cases bJ:n.j'=4
 .simp[bJ]
 rw[ao R,ao T,ao ah,ao bJ,ao R,ao T,ao ah,ao bJ];by_cases dH:n.j'=5
 .rw[aS dH,aS dH,aH 0 (by have:=bX.one (.inl dH);cases a_:n.I with|nil=>exact absurd a_ this|cons a l=>simp)]
 by_cases fW:n.j'=7
 .rw[ao dH,ao dH,aS fW,aS fW,aH 0 (by have:=bX.one (.inr (.inl fW));cases a_:n.I with|nil=>exact absurd a_ this|cons a l=>simp)]
 rw[ao dH,ao dH,ao fW,ao fW];by_cases fE:n.j'=6\/n.j'=8
 .rw[aS fE,aS fE];have ag:((n.I.take n.aX.toNat).map λj=>lH L f j)=(n.I.take n.aX.toNat).map λj=>lH iY mP j:=List.map_congr_left λj bg=>U _ (bX.lt _ (List.mem_of_mem_take bg));rw[ag];by_cases hl:n.aX.toNat<D n.I
  .rw[aS hl,aS hl,aH _ hl]
  .rw[ao hl,ao hl]
 .rw[ao fE,ao fE]
def ok_none(L:List aP)(k:Nat):oh L k eD:=⟨λj bg=>(by cases bg),λh=>(by rcases h with h|h|h<;>cases h),λh=>(by rcases h with h|h<;>cases h),λh=>(by cases h),λh=>(by cases h)⟩
def h1.at{L}(h:h1 L)(k:Nat):oh L k (Y L k eD):=by
 cases a_:L[k]? with
 |none=>
  rw[getD_none (by rw[List.getElem?_eq_none_iff] at a_;exact a_)];exact ok_none L k
 |some n=>rw[mO a_];exact h k n a_
def V6{L}(h:h1 L): ∀k f mP,k<f->k<mP->lH L f k=lH L mP k:=by
 intro k
 induction k using Nat.strongRecOn with
 |ind k cB=>
  intro f mP aI anj;obtain⟨g,rfl⟩: ∃g,f=g+1:=⟨f- 1,by omega⟩;obtain⟨h5,rfl⟩: ∃h5,mP=h5+1:=⟨mP- 1,by omega⟩;exact Ws rfl (h.at k) λj bg=>cB j bg g h5 J J
def Px{L}(h:h1 L)(ar:List aP): ∀k,k<D L->O (L++ar) k=O L k:=by
 have: ∀k f,k<D L->lH (L++ar) f k=lH L f k:=by
  intro k
  induction k using Nat.strongRecOn with
  |ind k cB=>
   intro f U;cases f with
   |zero=>rfl
   |succ f=>exact(Ws (A2 U).symm (h.at k) λj bg=>(cB j bg f J).symm).symm
 intro k U;exact this k _ U
def zd{L}(h:h1 L)(k:Nat):O L k=
  if(Y L k eD).j'=1 then wH
  else if(Y L k eD).j'=2 then wz
  else if(Y L k eD).j'=3 then(Y L k eD).O
  else if(Y L k eD).j'=4 then 42::(Y L k eD).O
  else if(Y L k eD).j'=5 then i_++O L ((Y L k eD).I.getD 0 0)
  else if(Y L k eD).j'=7 then O L ((Y L k eD).I.getD 0 0)
  else if(Y L k eD).j'=6\/(Y L k eD).j'=8 then
   f'++hE (((Y L k eD).I.take (Y L k eD).aX.toNat).map λj=>O L j)++41::(if(Y L k eD).aX.toNat<(Y L k eD).I.length then 32::O L ((Y L k eD).I.getD (Y L k eD).aX.toNat 0) else[])
  else[]:=by
 have bX:=h.at k;unfold O;show lH L (k+1) k=_;rw[lH];generalize Y L k eD=n at*;have aH: ∀i,i<D n.I->lH L k (Y n.I i 0)=lH L (Y n.I i 0+1) (Y n.I i 0):=λi ay=>V6 h _ _ _ (bX.lt _ (pw ay)) J;by_cases dH:n.j'=5
 .simp only[dH];rw[aH 0 (by have:=bX.one (.inl dH);cases a_:n.I with|nil=>exact absurd a_ this|cons a l=>simp)];simp
 by_cases fW:n.j'=7
 .simp only[fW];rw[aH 0 (by have:=bX.one (.inr (.inl fW));cases a_:n.I with|nil=>exact absurd a_ this|cons a l=>simp)];simp
 have ag:((n.I.take n.aX.toNat).map λj=>lH L k j)=(n.I.take n.aX.toNat).map λj=>lH L (j+1) j:=List.map_congr_left λj bg=>V6 h _ _ _ (bX.lt _ (List.mem_of_mem_take bg)) J;rw[ag,ao dH,ao dH,ao fW,ao fW];by_cases hl:n.aX.toNat<D n.I
 .rw[aS hl,aS hl,aH _ hl]
 .rw[ao hl,ao hl]
def h1.put{L}(h:h1 L){n}(ax:oh L (D L) n):h1 (L++[n]):=by
 intro k x aF;have Sm: ∀j,j<D L->Y (L++[n]) j eD=Y L j eD:=λj bg=>A2 bg;have up: ∀{m:Nat} {y:aP},m<=D L->oh L m y->oh (L++[n]) m y:=λ{m y} hm o=>
  ⟨o.lt,o.one,o.aX,λe=>by
   obtain⟨a,b,l,ag,aE⟩:=o.self e;exact⟨a,b,l,ag,by rw[Sm a (kv (o.lt a (by rw[ag];simp)) hm)];exact aE⟩,λe j bg=>by
   rw[Sm j (kv (o.lt j bg) hm)];exact o.ms e j bg⟩
 by_cases U:k<D L
 .rw[qz U] at aF;exact up J (h k x aF)
 .by_cases e:k=D L
  .subst e;rw[rU (bD _),Nat.sub_self] at aF;cases aF;exact up (bD _) ax
  .rw[pr (by rw[dW];simp;omega)] at aF;cases aF
def h1.nil:h1 []:=λk n h=>by simp at h
end B
namespace B
open aa (Tok)
def ew (v:List Nat)(L:List aP):Prop:= ∀a∈v,a<D L
def Ext (L iY:List aP):Prop:= ∃ar,iY=L++ar
def Fm (E:Nat)(L:List aP):Prop:= ∀k,k<D L->D (O L k)+1<=E*(k+1)
def In (E:Nat)(L:List aP):Prop:=h1 L/\Fm E L
def wt (L:List aP)(v:List Nat):Nat:=(v.map λa=>D (O L a)+1).sum
section
variable{E:Nat}
variable(E) in
def a8 (r:aV)(L:List aP)(Q:List Nat->List aP->Prop):Prop:=In E L-> ∀v s',r= .ok v s'->Ext L s'.aj/\In E s'.aj/\ew v s'.aj/\Q v s'.aj
def Any:List Nat->List aP->Prop:=λ_ _=>True
def cI (v:List Nat)(L:List aP):Prop:= ∀j∈v,(Y L j eD).I≠[]
theorem Ext.refl(L:List aP):Ext L L:=⟨[],by simp⟩
theorem Ext.trans{bP V C}(h:Ext bP V)(k:Ext V C):Ext bP C:=by obtain⟨ar,rfl⟩:=h;obtain⟨F,rfl⟩:=k;exact⟨ar++F,by simp⟩
theorem Ext.len{bP V}(h:Ext bP V):D bP<=D V:=by obtain⟨ar,rfl⟩:=h;simp
theorem ew.up{v bP V}(h:ew v bP)(e:Ext bP V):ew v V:=λa aR=>kv (h a aR) e.len
theorem ew.app{u v bP}(h:ew u bP)(k:ew v bP):ew (u++v) bP:=λa aR=>(List.mem_append.1 aR).elim (h a) (k a)
theorem ew.cons{a v bP}(h:a<D bP)(k:ew v bP):ew (a::v) bP:=λb G=>(List.mem_cons.1 G).elim (λe=>e▸h) (k b)
theorem ew.nil(bP):ew [] bP:=λa aR=>by cases aR
theorem cI.up{v bP V}(h:cI v bP)(bQ:ew v bP)(e:Ext bP V):cI v V:=λj bg=>by
 obtain⟨ar,rfl⟩:=e;rw[A2 (bQ j bg)];exact h j bg
theorem cI.app{u v bP}(h:cI u bP)(k:cI v bP):cI (u++v) bP:=λj bg=>(List.mem_append.1 bg).elim (h j) (k j)
theorem a8.mono{r L}{Q y1:List Nat->List aP->Prop}(h:a8 E r L Q)(a_: ∀v iY,ew v iY->Q v iY->y1 v iY):a8 E r L y1:=λw v s' e=>by
 obtain⟨a,b,c,d⟩:=h w v s' e;exact⟨a,b,c,a_ _ _ c d⟩
theorem a8.any{r L}{Q:List Nat->List aP->Prop}(h:a8 E r L Q):a8 E r L Any:=h.mono λ_ _ _ _=>trivial
theorem a8.M{r L}{xB Q:List Nat->List aP->Prop}{f:List Nat->ak->aV}(h:a8 E r L xB)(aI: ∀v s1,r= .ok v s1->Ext L s1.aj->ew v s1.aj->xB v s1.aj->a8 E (f v s1) s1.aj Q):a8 E (r.M f) L Q:=by
 intro w v s' he;cases r with
 |o=>cases he
 |bL c p=>cases he
 |ok v1 s1=>
  obtain⟨a,b,c,d⟩:=h w v1 s1 rfl;obtain⟨a2,b2,cK,d2⟩:=aI v1 s1 rfl a c d b v s' he;exact⟨a.trans a2,b2,cK,d2⟩
theorem a8.ite{c} [Decidable c]{a b L}{Q:List Nat->List aP->Prop}(R:a8 E a L Q)(T:a8 E b L Q):a8 E (if c then a else b) L Q:=by
 split
 .exact R
 .exact T
theorem a8.ok{v s}(h:ew v s.aj):a8 E (.ok v s) s.aj Any:=λw cc s' e=>by cases e;exact⟨Ext.refl _,w,h,trivial⟩
theorem a8.BR{v s}{Q:List Nat->List aP->Prop}(h:ew v s.aj)(a_:Q v s.aj):a8 E (.ok v s) s.aj Q:=λw cc s' e=>by cases e;exact⟨Ext.refl _,w,h,a_⟩
theorem a8.fail(X:Src)(c:Int)(s)(L:List aP)(Q:List Nat->List aP->Prop):a8 E (fail X c s) L Q:=λw v s' e=>by cases e
def Bm (r:aV)(L:List aP):Prop:= ∀v s',r= .ok v s'->s'.aj=L
theorem kU(X:Src)(x:List UInt8)(s:ak):Bm (take X x s) s.aj:=by
 intro v s' h;unfold take fail at h;split at h<;>cases h
 rfl
theorem mN(X:Src)(s:ak):Bm (name X s) s.aj:=by
 intro v s' h;unfold name fail at h;split at h<;>cases h
 rfl
theorem kx(X:Src)(x:List UInt8)(s:ak):Bm (enter X x s) s.aj:=by
 intro v s' h;unfold enter fail at h;split at h
 .cases h
 .cases bI:take X x s with
  |o=>rw[bI] at h;cases h
  |bL c p=>rw[bI] at h;cases h
  |ok v1 s1=>
   rw[bI] at h;cases h;have:=kU X x s _ _ bI;exact this
theorem nI(X:Src)(x:List UInt8)(s:ak):Bm (dU X x s) s.aj:=by
 intro v s' h;unfold dU at h;cases bI:take X x s with
 |o=>rw[bI] at h;cases h
 |bL c p=>rw[bI] at h;cases h
 |ok v1 s1=>
  rw[bI] at h;cases h;have:=kU X x s _ _ bI;exact this
theorem a8.skip{r L}{Q:List Nat->List aP->Prop}{f:List Nat->ak->aV}(h:Bm r L)(aI: ∀v s1,s1.aj=L->a8 E (f v s1) L Q):a8 E (r.M f) L Q:=by
 intro w v s' he;cases r with
 |o=>cases he
 |bL c p=>cases he
 |ok v1 s1=>exact aI v1 s1 (h _ _ rfl) w v s' he
def Bb (k:Int):Bool:=!(k==5||k==7||k==11||k==6||k==8||k==14||k==12||k==1||k==2||k==3||k==4)
theorem abi{L n}(U:ew n.I L)(aJ:Bb n.j'=true):oh L (D L) n:=by unfold Bb at aJ;simp only[Bool.not_eq_true',xE,u9] at aJ;obtain⟨⟨⟨⟨⟨⟨⟨⟨⟨⟨dH,fW⟩,El⟩,fE⟩,hU⟩,lK⟩,Ey⟩,_⟩,_⟩,_⟩,_⟩:=aJ;exact⟨U,λh=>(by rcases h with h|h|h<;>contradiction),λh=>(by rcases h with h|h<;>contradiction),λh=>absurd h lK,λh=>absurd h Ey⟩
theorem C3(L:List aP)(n):Y (L++[n]) (D L) eD=n:=by rw[cd,rU (bD _),Nat.sub_self];rfl
theorem KM(L:List aP):wt L []=0:=rfl
theorem R1(L:List aP)(u v:List Nat):wt L (u++v)=wt L u+wt L v:=by unfold wt;rw[rX,List.sum_append]
theorem ael(L:List aP)(a):wt L [a]=D (O L a)+1:=by simp[wt]
theorem Sq{L iY v}(h:h1 L)(bQ:ew v L)(e:Ext L iY):wt iY v=wt L v:=by obtain⟨ar,rfl⟩:=e;unfold wt;rw[List.map_congr_left λa aR=>by rw[Px h ar a (bQ a aR)]]
theorem aap(l:List (List UInt8)):D (hE l)<=(l.map λx=>D x+1).sum:=by
 induction l with
 |nil=>simp[hE]
 |cons x r cB=>
  cases r with
  |nil=>simp[hE]
  |cons y r=>
   simp only[hE,dW,iq,List.map_cons,List.sum_cons] at cB|-;omega
theorem abj(L:List aP)(l:List Nat)(m:Nat):((l.take m).map λa=>D (O L a)+1).sum+(if m<D l then(O L (Y l m 0)).length+1 else 0)<=wt L l:=by
 induction l generalizing m with
 |nil=>simp[wt]
 |cons x r cB=>
  unfold wt at cB|-;cases m with
  |zero=>simp
  |succ m=>
   have:=cB m;simp only[List.take_succ_cons,List.map_cons,List.sum_cons,iq,List.getD_cons_succ,Nat.add_lt_add_iff_right] at this|-;omega
theorem R2(L:List aP)(l:List Nat)(h:l≠[]):D (O L (Y l 0 0))+1<=wt L l:=by
 cases l with
 |nil=>exact absurd rfl h
 |cons x r=>simp[wt]
theorem adA{L n}(h:h1 L)(bX:oh L (D L) n):D (O (L++[n]) (D L))<=wt L n.I+D n.O+7:=by
 have hw:=h.put bX;have U: ∀j∈n.I,O (L++[n]) j=O L j:=λj bg=>Px h [n] j (bX.lt j bg);have aH: ∀i,i<D n.I->O (L++[n]) (Y n.I i 0)=O L (Y n.I i 0):=λi ay=>U _ (pw ay);rw[zd hw,C3];by_cases R:n.j'=1
 .rw[aS R];show 3<=_;omega
 rw[ao R];by_cases T:n.j'=2
 .rw[aS T];show 4<=_;omega
 rw[ao T];by_cases ah:n.j'=3
 .rw[aS ah];omega
 rw[ao ah];by_cases bJ:n.j'=4
 .rw[aS bJ];simp;omega
 rw[ao bJ];by_cases dH:n.j'=5
 .have aZ:=bX.one (.inl dH);have:=R2 L n.I aZ;rw[aS dH,aH 0 (by cases a_:n.I with|nil=>exact absurd a_ aZ|cons a l=>simp),dW];show 5+_<=_;omega
 rw[ao dH];by_cases fW:n.j'=7
 .have aZ:=bX.one (.inr (.inl fW));have:=R2 L n.I aZ;rw[aS fW,aH 0 (by cases a_:n.I with|nil=>exact absurd a_ aZ|cons a l=>simp)];omega
 rw[ao fW];by_cases fE:n.j'=6\/n.j'=8
 .rw[aS fE];have ag:((n.I.take n.aX.toNat).map λj=>O (L++[n]) j)=(n.I.take n.aX.toNat).map λj=>O L j:=List.map_congr_left λj bg=>U j (List.mem_of_mem_take bg);have hU:=aap ((n.I.take n.aX.toNat).map λj=>O L j);have gW:=abj L n.I n.aX.toNat;rw[List.map_map] at hU;rw[ag];simp only[dW,iq];have kr:D f'=5:=rfl;have El:((n.I.take n.aX.toNat).map ((λx:List UInt8=>D x+1)∘λj=>O L j)).sum=((n.I.take n.aX.toNat).map λa=>D (O L a)+1).sum:=rfl;by_cases hl:n.aX.toNat<D n.I
  .rw[aS hl,aH _ hl];rw[aS hl] at gW;simp only[iq];omega
  .rw[ao hl];rw[ao hl] at gW;simp only[u1];omega
 .rw[ao fE];simp
theorem XP{L n}(h:h1 L)(bX:oh L (D L) n)(aJ: ¬(1<=n.j'/\n.j'<=8)):O (L++[n]) (D L)=[]:=by rw[zd (h.put bX),C3,ao J,ao J,ao J,ao J,ao J,ao J,ao J]
theorem Fm.put{L n}(h:h1 L)(hs:Fm E L)(ax:D (O (L++[n]) (D L))+1<=E*(D L+1)):Fm E (L++[n]):=by
 intro k U;rw[dW,y7] at U;by_cases e:k<D L
 .rw[Px h [n] k e];exact hs k e
 .obtain rfl:k=D L:=J;exact ax
theorem a8.Du{n s}(bX:oh s.aj (D s.aj) n)(hl:h1 s.aj->D (O (s.aj++[n]) (D s.aj))+1<=E*(D s.aj+1)):a8 E (put n s) s.aj (λv iY=>v=[D s.aj]/\iY=s.aj++[n]):=by
 intro w v s' h;unfold put at h;split at h<;>cases h
 refine⟨⟨[n],rfl⟩,⟨w.1.put bX,Fm.put w.1 w.2 (hl w.1)⟩,λa aR=>?_,rfl,rfl⟩;obtain rfl:a=D s.aj:=by simpa using aR
 simp
theorem a8.G'{n s}(dp:1<=E)(bX:oh s.aj (D s.aj) n)(aJ: ¬(1<=n.j'/\n.j'<=8)):a8 E (B.put n s) s.aj (λv iY=>v=[D s.aj]/\iY=s.aj++[n]):=
 a8.Du bX λw=>by
  rw[XP w bX aJ];exact Nat.mul_le_mul dp (Nat.succ_le_succ (gp _))
theorem aaq{k}(aJ:Bb k=true)(aH:k≠6): ¬(1<=k/\k<=8):=by unfold Bb at aJ;simp only[Bool.not_eq_true',xE,u9] at aJ;omega
theorem a8.put{n s}(dp:1<=E)(U:ew n.I s.aj)(aJ:Bb n.j'=true:=by rfl):a8 E (put n s) s.aj Any:=(a8.G' dp (abi U aJ) (aaq aJ (by rintro e;rw[e] at aJ;cases aJ))).any
theorem a8.SX{n s}{Q:List Nat->List aP->Prop}(h:a8 E (B.put n s) s.aj Q)(U:n.I≠[]):a8 E (B.put n s) s.aj cI:=by
 intro w v s' e;obtain⟨a,b,c,d⟩:=h w v s' e;refine⟨a,b,c,λj bg=>?_⟩;unfold B.put at e;split at e<;>cases e
 obtain rfl:j=D s.aj:=by simpa using bg
 rw[C3];exact U
def uZ (E j4:Nat)(v:List Nat)(L:List aP):Prop:=wt L v<=E*(D L-j4)
theorem a8.Bx{n s}(j4:Nat)(aH:j4<=D s.aj)(bX:oh s.aj (D s.aj) n)(hw:wt s.aj n.I<=E*(D s.aj-j4))(bI:D n.O+8<=E):a8 E (B.put n s) s.aj (uZ E j4):=by
 have ag:E*(D s.aj+1-j4)=E*(D s.aj-j4)+E:=by rw[show D s.aj+1-j4=D s.aj-j4+1 by omega,Nat.mul_add,Nat.mul_one]
 have aE:E*(D s.aj+1-j4)<=E*(D s.aj+1):=Nat.mul_le_mul_left E J;intro w v s' e;have ax:=adA w.1 bX;obtain⟨a,b,c,rfl,d⟩:=a8.Du bX (λw=>by omega) w v s' e;refine⟨a,b,c,?_⟩;unfold uZ;rw[d,ael,dW,y7];omega
theorem a8.wf{r L}{Q:List Nat->List aP->Prop}(h:h1 L->a8 E r L Q):a8 E r L Q:=λw=>h w.1 w
def Sk:Fn->List aP->Prop
 | .iy _ a,L| .part a,L=>a<D L
 | .jX a,L| .params a,L| .exprs a,L| .stmts a,L| .body a,L| .cases a,L| .fields a,L| .decls a,L=>ew a L
 | .j_ a,L=>ew a L/\cI a L
 |_,_=>True
def xC (E:Nat)(L:List aP)(a:List Nat)(v:List Nat)(iY:List aP):Prop:=wt iY v<=wt L a+E*(D iY-D L)
def SY (E:Nat):Fn->List aP->List Nat->List aP->Prop
 | .typ,L=>uZ E (D L)
 | .jX a,L| .params a,L=>xC E L a
 | .j_ _,_=>cI
 |_,_=>Any
def Good (E:Nat)(E':Rec):Prop:= ∀f s,Sk f s.aj->a8 E (E' f s) s.aj (SY E f s.aj)
section
variable{X:Src}{E':Rec}(dp:1<=E)(hT: ∀s,(aM X s).O.length+8<=E)
theorem PU{Q:List Nat->List aP->Prop}{l:ak->aV}(s:ak)(hl: ∀s1,s1.aj=s.aj->a8 E (l s1) s1.aj Q):a8 E (list X l s) s.aj Q:=
 a8.skip (kx X _ s) λ_ s1 ag=>by
  have gq:=hl s1 ag;rw[ag] at gq;exact a8.M gq λv s2 _ aE v2 cw=>a8.skip (nI X _ s2) λ_ aq bU=>bU▸a8.BR (by rw[bU];exact v2) (by rw[bU];exact cw)
theorem Py{Q:List Nat->List aP->Prop}{l:ak->aV}(hl: ∀s,a8 E (l s) s.aj Q)(s:ak):a8 E (items X l s) s.aj Q:=
 a8.skip (kx X _ s) λ_ s1 ag=>ag▸a8.M (hl s1) λv s2 _ aE v2 cw=>a8.skip (nI X _ s2) λ_ aq bU=>bU▸a8.BR (by rw[bU];exact v2) (by rw[bU];exact cw)
theorem abz{o:ak->aV}{g:List Nat->ak->aV}(bX: ∀s,a8 E (o s) s.aj Any)(aB: ∀a s,ew a s.aj->a8 E (g a s) s.aj Any)(d':List Nat)(s:ak)(aR:ew d' s.aj):a8 E (l3 X o g d' s) s.aj Any:=
 a8.ite (a8.ok aR) (a8.M (bX s) λk s1 _ ag v1 _=>a8.ite (a8.ok ((aR.up ag).app v1)) (a8.skip (kU X _ s1) λ_ s2 aE=>a8.ite (a8.fail _ _ _ _ _) (aE▸aB _ s2 (by rw[aE];exact(aR.up ag).app v1))))
theorem Wp{Q:List Nat->List aP->Prop}{o:ak->aV}{g:List Nat->ak->aV}(vL: ∀u bP V,Q u bP->ew u bP->Ext bP V->Q u V)(Uy: ∀u v bP,Q u bP->Q v bP->Q (u++v) bP)(bX: ∀s,a8 E (o s) s.aj Q)(aB: ∀a s,ew a s.aj->Q a s.aj->a8 E (g a s) s.aj Q)(d':List Nat)(s:ak)(aR:ew d' s.aj)(a_:Q d' s.aj):a8 E (kh X o g d' s) s.aj Q:=
 a8.ite (a8.BR aR a_) (a8.M (bX s) λk s1 _ ag v1 c9=>a8.ite (a8.BR ((aR.up ag).app v1) (Uy _ _ _ (vL _ _ _ a_ aR ag) c9)) (a8.skip (kU X _ s1) λ_ s2 aE=>aE▸aB _ s2 (by rw[aE];exact(aR.up ag).app v1) (by rw[aE];exact Uy _ _ _ (vL _ _ _ a_ aR ag) c9)))
theorem Wq{o:ak->aV}{g:List Nat->ak->aV}(bX: ∀s,a8 E (o s) s.aj Any)(aB: ∀a s,ew a s.aj->a8 E (g a s) s.aj Any)(d':List Nat)(s:ak)(aR:ew d' s.aj):a8 E (kh X o g d' s) s.aj Any:=
 Wp (λ_ _ _ _ _ _=>trivial) (λ_ _ _ _ _=>trivial) bX (λa s h _=>aB a s h) d' s aR trivial
theorem QA{o:ak->aV}{g:List Nat->ak->aV}(bX: ∀s,a8 E (o s) s.aj (uZ E (D s.aj)))(aB: ∀a s,ew a s.aj->a8 E (g a s) s.aj (xC E s.aj a))(d':List Nat)(s:ak)(aR:ew d' s.aj):a8 E (l3 X o g d' s) s.aj (xC E s.aj d'):=
 a8.wf λhw=>a8.ite (a8.BR aR (by unfold xC;omega)) (a8.M (bX s) λk s1 _ ag v1 c9=>by
  have hl:=ag.len;have a_:wt s1.aj (d'++k)<=wt s.aj d'+E*(D s1.aj-D s.aj):=by
   rw[R1,Sq hw aR ag];unfold uZ at c9;omega
  refine a8.ite (a8.BR ((aR.up ag).app v1) a_) (a8.skip (kU X _ s1) λ_ s2 aE=>a8.ite (a8.fail _ _ _ _ _) ?_);have ah:=aB (d'++k) s2 (by rw[aE];exact(aR.up ag).app v1);rw[aE] at ah;intro w v s' e;obtain⟨a,b,c,d⟩:=ah w v s' e;refine⟨a,b,c,?_⟩;have bJ:=a.len;unfold xC at d|-;have dH:E*(D s'.aj-D s.aj)=E*(D s1.aj-D s.aj)+E*(D s'.aj-D s1.aj):=by rw[<-Nat.mul_add];congr 1;omega
  omega)
theorem agd{k L p m t}(U:k=1\/k=2\/k=3\/k=4):oh L (D L) ⟨k,p,m,t,[]⟩:=
 ⟨ew.nil _,λe=>(by rcases U with rfl|rfl|rfl|rfl<;>rcases e with e|e|e<;>cases e),λe=>(by rcases U with rfl|rfl|rfl|rfl<;>rcases e with e|e<;>cases e),λe=>(by rcases U with rfl|rfl|rfl|rfl<;>cases e),λe=>(by rcases U with rfl|rfl|rfl|rfl<;>cases e)⟩
theorem GS{k p m t}(U:k=1\/k=2\/k=3\/k=4)(s:ak)(bI:D t+8<=E):a8 E (put ⟨k,p,m,t,[]⟩ s) s.aj (uZ E (D s.aj)):=a8.Bx _ (bD _) (agd U) (by simp[KM]) bI
include hT in
theorem V4(s:ak):a8 E (pointer X s) s.aj (uZ E (D s.aj)):=a8.skip (kU X _ s) λ_ s1 ag=>ag▸a8.skip (mN X s1) λ_ s2 aE=>aE▸GS (.inr (.inr (.inr rfl))) s2 (hT s1)
theorem HS{k L v p m t}(U:k=5\/k=7\/k=11)(bQ:ew v L)(aZ:v≠[]):oh L (D L) ⟨k,p,m,t,v⟩:=
 ⟨bQ,λ_=>aZ,λe=>(by rcases U with rfl|rfl|rfl<;>rcases e with e|e<;>cases e),λe=>(by rcases U with rfl|rfl|rfl<;>cases e),λe=>(by rcases U with rfl|rfl|rfl<;>cases e)⟩
theorem Ve{k L v p m t}(U:k=6\/k=8)(bQ:ew v L)(hm:m<=D v):oh L (D L) ⟨k,p,(m:Int),t,v⟩:=
 ⟨bQ,λe=>(by rcases U with rfl|rfl<;>rcases e with e|e|e<;>cases e),λ_=>⟨m,rfl,hm⟩,λe=>(by rcases U with rfl|rfl<;>cases e),λe=>(by rcases U with rfl|rfl<;>cases e)⟩
variable(h:Good E E')(h9:By E')
include h dp
include h9 hT in
theorem QB(j':Int)(U:j'=7\/j'=9)(s:ak):a8 E (named X E' j' s) s.aj (if j'=7 then uZ E (D s.aj) else Any):=
 a8.skip (mN X s) λ_ s1 ag=>ag▸a8.M (h .typ s1 trivial) λk s2 e aE v2 cw=>by
  obtain⟨a,rfl⟩:=h9 .typ rfl s1 k s2 e;obtain rfl|rfl:=U
  .rw[aS rfl];exact a8.Bx _ aE.len (HS (.inr (.inl rfl)) v2 bT) cw (hT s)
  .rw[ao aN];exact a8.put dp v2
omit dp in
theorem Wr(j':Int)(U:j'=6\/j'=8)(at_ j4:Nat)(l:List Nat)(s:ak)(fin:ak->ak)(aI: ∀s,(fin s).aj=s.aj)(hl:ew l s.aj)(aH:j4<=D s.aj)(hw:wt s.aj l<=E*(D s.aj-j4))(hU:8<=E):a8 E (result X E' j' at_ l s fin) s.aj (uZ E j4):=
 a8.wf λwf=>a8.ite (a8.M (h .typ s trivial) λk s1 _ ag v1 c9=>by
  have gq:=ag.len;have aF:wt s1.aj (l++k)<=E*(D s1.aj-j4):=by
   rw[R1,Sq wf hl ag];have cw:wt s1.aj k<=E*(D s1.aj-D s.aj):=c9;have dH:E*(D s1.aj-j4)=E*(D s.aj-j4)+E*(D s1.aj-D s.aj):=(by rw[<-Nat.mul_add];congr 1;omega);omega
  have:=a8.Bx (s:=fin s1) (n:=⟨j',(at_:Int),(D l:Int),[],l++k⟩) j4 (by rw[aI];omega) (Ve U (by rw[aI];exact(hl.up ag).app v1) bT) (by rw[aI];exact aF) hU;rwa[aI] at this) (by
  have:=a8.Bx (s:=fin s) (n:=⟨j',(at_:Int),(D l:Int),[],l⟩) j4 (by rw[aI];exact aH) (Ve U (by rw[aI];exact hl) bT) (by rw[aI];exact hw) hU;rwa[aI] at this)
include hT in
theorem Kc(s:ak):a8 E (sig X E' s) s.aj (uZ E (D s.aj)):=a8.M (PU (Q:=xC E s.aj []) s (λs1 e=>by have:=h (.params []) s1 (ew.nil _);rw[e] at this|-;exact this)) λl s1 _ ag v1 c9=>Wr h 8 (.inr rfl) _ _ l s1 id (λ_=>rfl) v1 ag.len (by simpa[xC,KM] using c9) (by have:=hT s;omega)
include h9 hT in
theorem ade(s:ak):a8 E (l5 X E' s) s.aj (uZ E (D s.aj)):=by
 have hU:8<=E:=by have:=hT s;omega
 refine a8.ite (GS (.inl rfl) (bs s) hU) (a8.ite (GS (.inr (.inl rfl)) (bs s) hU) (a8.ite (V4 hT s) (a8.ite (a8.skip (kx X _ s) λ_ s1 ag=>ag▸a8.M (h .typ s1 trivial) λk s2 e aE v2 cw=>?_) (a8.ite (a8.skip (kx X _ s) λ_ s1 ag=>ag▸a8.M (PU (Q:=xC E s1.aj []) s1 (λaq e=>by have:=h (.jX []) aq (ew.nil _);rw[e] at this|-;exact this)) λl s2 _ aE v2 cw=>Wr h 6 (.inl rfl) _ _ l s2 down (λ_=>rfl) v2 aE.len (by simpa[xC,KM] using cw) hU) (a8.skip (mN X s) λ_ s1 ag=>ag▸GS (.inr (.inr (.inl rfl))) s1 (hT s))))));obtain⟨a,rfl⟩:=h9 .typ rfl s1 k s2 e;exact a8.Bx (s:=down s2) _ aE.len (HS (.inl rfl) v2 bT) cw hU
theorem aar(s:ak):a8 E (mQ X E' s) s.aj Any:=a8.M (Py (λs=>h (.stmts []) s (ew.nil _)) s) λl s1 _ ag v1 _=>a8.put dp v1
theorem OC(j':Int)(U:Bb j'=true)(at_:Nat)(s:ak):a8 E (bracketed X E' j' at_ s) s.aj Any:=
 a8.skip (kx X _ s) λ_ s1 ag=>ag▸a8.M (h (.b6 0) s1 trivial) λe s2 _ aE v2 _=>a8.skip (nI X _ s2) λ_ aq bU=>bU▸a8.put dp (by rw[bU];exact v2) U
theorem JK(s:ak):a8 E (kD X E' s) s.aj Any:=a8.skip (kU X _ s) λ_ s1 ag=>ag▸a8.M (h (.body []) s1 (ew.nil _)) λl s2 _ aE v2 _=>a8.put dp v2
theorem ab1(s:ak):a8 E (mz X E' s) s.aj Any:=
 a8.ite (a8.M (JK dp h (bs s)) λb s1 _ ag v1 _=>a8.put dp v1)
  (a8.skip (kU X _ s) λ_ s1 ag=>ag▸a8.ite (a8.skip (kU X _ (ll s1)) λ_ s2 aE=>(show s2.aj=s1.aj from aE)▸a8.M (h (.b6 0) s2 trivial) λc aq _ bU v3 _=>a8.M (JK dp h aq) λb bA _ cL v4 _=>a8.put dp ((v3.up cL).app v4))
   (a8.ite (a8.M (h (.b6 0) (bs s1) trivial) λc aq _ bU v3 _=>a8.M (JK dp h aq) λb bA _ cL v4 _=>a8.put dp ((v3.up cL).app v4))
    (a8.M (h (.b6 0) s1 trivial) λc s2 _ aE v2 _=>a8.skip (kU X _ s2) λ_ aq bU=>bU▸a8.M (h (.b6 0) aq trivial) λv bA _ cL v4 _=>a8.M (JK dp h bA) λb cm _ gi v5 _=>a8.put dp ((((ew.up (bP:=aq.aj) (by rw[bU];exact v2) cL).app v4).up gi).app v5))))
theorem aas(at_:Nat)(s:ak):a8 E (choice X E' at_ s) s.aj Any:=
 a8.skip (kx X _ s) λ_ s1 ag=>ag▸a8.M (h (.cases []) s1 (ew.nil _)) λl s2 _ aE v2 _=>a8.skip (nI X _ s2) λ_ aq bU=>bU▸a8.put dp (by rw[bU];exact v2)
theorem ab2(s:ak):a8 E (ja X E' s) s.aj Any:=by unfold ja;refine a8.ite (a8.M (h (.b6 0) (bs s) trivial) λ_ s1 _ ag v1 _=>a8.put dp v1) (a8.ite (OC dp h _ rfl _ (bs s)) (a8.ite (OC dp h _ rfl _ (bs s)) (a8.ite (OC dp h _ rfl _ (bs s)) (a8.ite (h .branch s trivial) (a8.ite (a8.M (h (.b6 0) (bs s) trivial) λ_ s1 _ ag v1 _=>a8.M (h .block s1 trivial) λ_ s2 _ aE v2 _=>a8.put dp ((v1.up aE).app v2)) (a8.ite (a8.ite (a8.put dp (s:=bs s) (ew.nil _)) (a8.M (h (.b6 0) (bs s) trivial) λ_ s1 _ ag v1 _=>a8.put dp v1)) (a8.ite (a8.put dp (s:=bs s) (ew.nil _)) (a8.ite (aas dp h _ (bs s)) (a8.ite (a8.M (h (.b6 0) (ll s) trivial) λ_ s1 _ ag v1 _=>a8.put dp v1) (a8.M (h (.b6 0) s trivial) λ_ s1 _ ag v1 _=>?_))))))))));exact a8.ite (a8.M (h (.b6 0) (bs s1) trivial) λ_ s2 _ aE v2 _=>a8.put dp ((ew.up (bP:=s1.aj) v1 aE).app v2)) (a8.ite (a8.M (h (.b6 0) (bs s1) trivial) λ_ s2 _ aE v2 _=>a8.put dp ((ew.up (bP:=s1.aj) v1 aE).app v2)) (a8.put dp v1))
theorem XQ(s:ak):a8 E (oa X E' s) s.aj Any:=
 a8.skip (kU X _ s) λ_ s1 ag=>ag▸a8.M (h (.b6 0) s1 trivial) λc s2 _ aE v2 _=>a8.M (h .block s2 trivial) λb aq _ bU v3 _=>
  a8.ite (a8.ite (a8.skip (kx X _ aq) λ_ bA cL=>cL▸a8.M (h .branch bA trivial) λe cm _ gi v5 _=>a8.put dp (s:=down cm) ((ew.up (bP:=bA.aj) (by rw[cL];exact(v2.up bU).app v3) gi).app v5)) (a8.M (h .block (bs aq) trivial) λe cm _ gi v5 _=>a8.put dp ((ew.up (bP:=aq.aj) ((v2.up bU).app v3) gi).app v5))) (a8.put dp ((v2.up bU).app v3))
theorem aat(k a:Nat)(s:ak)(aR:a<D s.aj):a8 E (mS X E' k a s) s.aj Any:=
 a8.ite (a8.M (h _ (bs s) trivial) λb s1 _ ag v1 _=>a8.M (a8.put dp (ew.cons (kv aR (Ext.len ag)) v1)) λe s2 he aE v2 _=>by
  obtain⟨x,rfl⟩:=bn.put _ _ _ _ he;exact h _ s2 (v2 x bT)) (a8.ok (ew.cons aR (ew.nil _)))
theorem adf(at_:Nat)(s:ak):a8 E (made X E' at_ s) s.aj Any:=
 a8.skip (kx X _ s) λ_ s1 ag=>ag▸a8.skip (kx X _ s1) λ_ s2 aE=>aE▸a8.M (h .typ s2 trivial) λk aq _ bU v3 _=>
  a8.ite (a8.ite (a8.skip (L:=aq.aj) (nI X _ _) λ_ cm gi=>gi▸a8.put dp (by rw[gi];exact v3)) (a8.fail _ _ _ _ _)) (a8.skip (L:=aq.aj) (nI X _ _) λ_ cm gi=>gi▸a8.put dp (by rw[gi];exact v3))
include hT in
theorem aau(s:ak):a8 E (kA X E' s) s.aj Any:=
 a8.ite (a8.put dp (s:=bs s) (ew.nil _)) (a8.ite (a8.put dp (s:=bs s) (ew.nil _)) (a8.ite (a8.put dp (s:=bs s) (ew.nil _)) (a8.ite (a8.put dp (s:=bs s) (ew.nil _)) (a8.ite (a8.M (Kc dp hT h (bs s)) λg s1 _ ag v1 _=>a8.M (h .block s1 trivial) λb s2 _ aE v2 _=>a8.put dp ((v1.up aE).app v2))
  (a8.ite (a8.skip (L:=s.aj) (kx X _ (bs s)) λ_ s1 ag=>ag▸a8.skip (mN X s1) λ_ s2 aE=>aE▸a8.skip (nI X _ s2) λ_ aq bU=>bU▸a8.put dp (ew.nil _)) (a8.ite (adf dp h _ (bs s))
   (a8.ite (a8.skip (kx X _ s) λ_ s1 ag=>ag▸a8.M (h (.b6 0) s1 trivial) λe s2 _ aE v2 _=>a8.skip (nI X _ s2) λ_ aq bU=>bU▸a8.ok (by rw[bU];exact v2)) (a8.skip (mN X s) λ_ s1 ag=>ag▸a8.put dp (ew.nil _)))))))))
theorem OK(x:List UInt8)(j':Int)(U:Bb j'=true)(s:ak):a8 E (ky X E' x j' s) s.aj Any:=a8.skip (kx X _ s) λ_ s1 ag=>ag▸a8.M (h .unary s1 trivial) λe s2 _ aE v2 _=>a8.put dp (s:=down s2) v2 U
include h9 hT in
theorem aav(s:ak):a8 E (jV X E' s) s.aj Any:=a8.ite (OK dp h _ _ rfl s) (a8.ite (OK dp h _ _ rfl s) (a8.ite (OK dp h _ _ rfl s) (a8.M (aau dp hT h s) λe s1 he ag v1 _=>by
 obtain⟨a,rfl⟩:=Jp h9 _ _ _ he;exact h (.part a) s1 (v1 a bT))))
theorem ab3(e:Nat)(s:ak)(he:e<D s.aj):a8 E (oU X E' e s) s.aj Any:=
 a8.ite (a8.M (PU s (λs1 _=>h (.exprs []) s1 (ew.nil _))) λl s1 _ ag v1 _=>a8.M (a8.put dp (ew.cons (kv he (Ext.len ag)) v1)) λag s2 T _ v2 _=>by
   obtain⟨x,rfl⟩:=bn.put _ _ _ _ T;exact h (.part x) s2 (v2 x bT))
  (a8.ite (a8.ite (a8.skip (L:=s.aj) (kx X _ (bs s)) λ_ s1 ag=>ag▸a8.M (h .typ s1 trivial) λt s2 _ aE v2 _=>a8.skip (nI X _ s2) λ_ aq bU=>bU▸a8.M (a8.put dp (ew.cons (by rw[bU];exact kv (by rw[ag];exact he) (Ext.len aE)) (by rw[bU];exact v2))) λag bA bJ _ v4 _=>by
    obtain⟨x,rfl⟩:=bn.put _ _ _ _ bJ;exact h (.part x) bA (v4 x bT))
   (a8.skip (L:=s.aj) (mN X (bs s)) λ_ s1 ag=>ag▸a8.M (a8.put dp (ew.cons (by rw[ag];exact he) (ew.nil _))) λag s2 T _ v2 _=>by
    obtain⟨x,rfl⟩:=bn.put _ _ _ _ T;exact h (.part x) s2 (v2 x bT))) (a8.ok (ew.cons he (ew.nil _))))
include hT in
theorem adg(s:ak):a8 E (jY X E' s) s.aj cI:=a8.skip (mN X s) λ_ s1 ag=>ag▸a8.M (Kc dp hT h s1) λg s2 aB aE v2 _=>by
 obtain⟨a,rfl⟩:=C8 _ _ _ aB;exact a8.SX (a8.G' dp (HS (.inr (.inr rfl)) v2 bT) (by show¬(1<=(11:Int)/\(11:Int)<=8);decide)) bT
omit h dp in
theorem age{L v p m t}(bQ:ew v L)(U:cI v L):oh L (D L) ⟨12,p,m,t,v⟩:=
 ⟨bQ,λe=>(by rcases e with e|e|e<;>cases e),λe=>(by rcases e with e|e<;>cases e),λe=>(by cases e),λ_=>U⟩
theorem ab4(at_:Nat)(s:ak):a8 E (typed X E' at_ s) s.aj Any:=
 a8.skip (mN X s) λ_ s1 ag=>ag▸a8.ite (a8.M (Py (λs=>h (.fields []) s (ew.nil _)) (bs s1)) λl s2 _ aE v2 _=>a8.put dp v2) (a8.skip (kU X _ s1) λ_ s2 aE=>aE▸a8.M (Py (λs=>h (.j_ []) s ⟨ew.nil _,λj bg=>by cases bg⟩) s2) λl aq _ bU v3 da=>(a8.G' dp (age v3 da) (by show¬(1<=(12:Int)/\(12:Int)<=8);decide)).any)
omit h dp in
theorem ab5{n s s' a L}(h:put n s= .ok [a] s')(e:Ext s'.aj L):(Y L a eD).j'=n.j':=by
 unfold put at h;split at h
 .cases h;obtain⟨ar,rfl⟩:=e;rw[A2 bT,C3]
 .cases h
omit h dp in
theorem agf{L a g b p m t}(bQ:ew [a,g,b] L)(U:(Y L a eD).I≠[]/\(Y L a eD).j'=7):oh L (D L) ⟨14,p,m,t,[a,g,b]⟩:=
 ⟨bQ,λe=>(by rcases e with e|e|e<;>cases e),λe=>(by rcases e with e|e<;>cases e),λ_=>⟨a,g,[b],rfl,U⟩,λe=>(by cases e)⟩
include h9 hT in
theorem aaw(at_:Nat)(s:ak):a8 E (method X E' at_ s) s.aj Any:=
 a8.skip (kx X _ s) λ_ s1 ag=>ag▸a8.skip (mN X s1) λ_ s2 aE=>aE▸a8.M (V4 hT s2) λp aq aJ bU v3 da=>a8.skip (nI X _ aq) λ_ bA cL=>cL▸by
  obtain⟨x,rfl⟩:=FZ _ _ _ aJ;refine a8.M (a8.SX (a8.Bx (D s2.aj) (by rw[cL];exact bU.len) (HS (.inr (.inl rfl)) (by rw[cL];exact v3) bT) (by rw[cL];exact da) (hT s1)) bT) λself cm dH _ v5 ij=>a8.skip (mN X cm) λ_ ha tM=>tM▸a8.M (Kc dp hT h ha) λg mj aB lY akF _=>a8.M (h .block mj trivial) λb ik G CP akG _=>?_;obtain⟨a,rfl⟩:=bn.put _ _ _ _ dH;obtain⟨g,rfl⟩:=C8 _ _ _ aB;obtain⟨b,rfl⟩:=h9 .block rfl _ _ _ G;have xM:=lY.trans CP;rw[tM] at xM;exact(a8.G' dp (agf (ew.cons (v5.up xM a bT) (ew.cons (akF.up CP g bT) akG)) ⟨(cI.up ij v5 xM) a bT,ab5 dH xM⟩) (by show¬(1<=(14:Int)/\(14:Int)<=8);decide)).any
include h9 hT in
theorem ab6(s:ak):a8 E (j9 X E' s) s.aj Any:=
 a8.ite (ab4 dp h _ (bs s)) (a8.skip (kU X _ s) λ_ s1 ag=>ag▸a8.ite (aaw dp hT h h9 _ s1) (a8.skip (mN X s1) λ_ s2 aE=>aE▸a8.M (Kc dp hT h s2) λg aq _ bU v3 _=>a8.M (h .block aq trivial) λb bA _ cL v4 _=>a8.put dp ((v3.up cL).app v4)))
include h9 hT in
theorem ab7(f:Fn)(s:ak)(aJ:Sk f s.aj):a8 E (kE X E' f s) s.aj (SY E f s.aj):=by
 cases f with
 |typ=>exact ade dp hT h h9 s
 |block=>exact aar dp h s
 |stmt=>exact ab2 dp h s
 |branch=>exact XQ dp h s
 |b6 k=>
  refine a8.M (h .unary s trivial) λe s1 he ag v1 _=>?_;obtain⟨a,rfl⟩:=h9 .unary rfl _ _ _ he;exact h (.iy k a) s1 (v1 a bT)
 |iy k a=>exact aat dp h k a s aJ
 |unary=>exact aav dp hT h h9 s
 |part e=>exact ab3 dp h e s aJ
 |jX d'=>exact QA (λs=>h .typ s trivial) (λa s aR=>h (.jX a) s aR) d' s aJ
 |params d'=>exact QA (λs=>by have:=QB dp hT h h9 7 (.inl rfl) s;rwa[aS rfl] at this) (λa s aR=>h (.params a) s aR) d' s aJ
 |exprs d'=>exact abz (λs=>h (.b6 0) s trivial) (λa s aR=>h (.exprs a) s aR) d' s aJ
 |stmts d'=>exact Wq (λs=>h .stmt s trivial) (λa s aR=>h (.stmts a) s aR) d' s aJ
 |body d'=>exact a8.ite (a8.ok aJ) (a8.M (h .stmt s trivial) λk s1 _ ag v1 _=>a8.ite (a8.ok ((ew.up aJ ag).app v1)) (a8.skip (kU X _ s1) λ_ s2 aE=>aE▸h (.body _) s2 (by rw[aE];exact(ew.up aJ ag).app v1)))
 |cases d'=>exact a8.ite (a8.ok aJ) (a8.M (ab1 dp h s) λk s1 _ ag v1 _=>h (.cases _) s1 ((ew.up aJ ag).app v1))
 |fields d'=>exact Wq (λs=>by have:=QB dp hT h h9 9 (.inr rfl) s;rwa[ao aN] at this) (λa s aR=>h (.fields a) s aR) d' s aJ
 |j_ d'=>exact Wp (Q:=cI) (λu bP V q v e=>cI.up q v e) (λu v bP q r=>cI.app q r) (λs=>adg dp hT h s) (λa s aR q=>h (.j_ a) s ⟨aR,q⟩) d' s aJ.1 aJ.2
 |decls d'=>exact a8.ite (a8.M (ab6 dp hT h h9 s) λk s1 _ ag v1 _=>a8.ite (a8.skip (kU X _ s1) λ_ s2 aE=>aE▸h (.decls _) s2 (by rw[aE];exact(ew.up aJ ag).app v1)) (h (.decls _) s1 ((ew.up aJ ag).app v1))) (a8.ok aJ)
end
end
def ab8{X E}(dp:1<=E)(hT: ∀s,(aM X s).O.length+8<=E)(n):Good E (run X n):=by
 induction n with
 |zero=>intro f s _ _ v s' h;cases h
 |succ n cB=>exact λf s aJ=>ab7 dp hT cB (p5 X n) f s aJ
def XR{X E n}(dp:1<=E)(hT: ∀s,(aM X s).O.length+8<=E){v s}(h:program X n= .ok v s):In E s.aj:=
 ((a8.M (ab8 dp hT n (.decls []) start (ew.nil _)) λl s1 _ _ v1 _=>(a8.put dp (n:=⟨15,(aM X start).an,0,[],l⟩) v1)) ⟨h1.nil,λk U=>by cases U⟩ v s h).2.1
end B
end Go.Proofs.YtjfkhpkicioakaaGreatDoor
