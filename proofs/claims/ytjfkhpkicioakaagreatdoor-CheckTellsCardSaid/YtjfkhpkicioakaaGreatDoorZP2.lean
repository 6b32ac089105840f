/- PROVED HERE: plain law of parsing, of types, of checking. No condition. -/
import Derived.Test.YtjfkhpkicioakaaGreatDoorZLx1
import Derived.Test.YtjfkhpkicioakaaGreatDoorZTy1
import Derived.Test.YtjfkhpkicioakaaGreatDoorZP1
import Derived.Test.YtjfkhpkicioakaaGreatDoorZPs2
set_option maxRecDepth 100000
set_option linter.all false
open Go renaming Ending->e7,World->ai
open Go.RowKit renaming Below->aL
open List renaming drop_drop->zK,getD->Y,length->D,replicate->ef
open List.cons renaming inj->ye
open Nat renaming add_comm->yf
open Go.Proofs.YtjfkhpkicioakaaGreatDoor.B hiding O a8 i_ ja method name named one typed
open Go.Proofs.YtjfkhpkicioakaaGreatDoor.aa
namespace Go.Proofs.YtjfkhpkicioakaaGreatDoor
open Go.RowKit
namespace Ck
open B (aP eD O)
abbrev bz:=List UInt8
structure b5 where
 types:List bz
 eJ:List Int
 sc:List (List (bz×Nat))
 res:bz
 cx:Int
inductive df where
 |bL (c:Int) (k:Nat)
 |ok (t:bz) (s:b5)
def df.M(r:df)(f:bz->b5->df):df:=match r with
 | .bL c k=> .bL c k
 | .ok t s=>f t s
inductive KL where
 |typ
 |block
 |stmt
 |one
 |b6
abbrev y2:=KL->Nat->b5->df
def g':bz:=[105,110,116]
def e6:bz:=[98,111,111,108]
def i_:bz:=[99,104,97,110,32]
def f':bz:=[102,117,110,99,40]
def bl (b:Bool)(c:Int)(k:Nat)(t:bz)(s:b5):df:=if b then .ok t s else .bL c k
def iA (k:Nat)(t:bz)(s:b5):b5:={s with types:=s.types.set k t}
def oe (k:Nat)(d:Int)(s:b5):b5:={s with eJ:=s.eJ.set k d}
def fH(s:b5):b5:={s with sc:=s.sc++[[]]}
def shut (s:b5):b5:={s with sc:=s.sc.dropLast}
def look (x:bz)(sc:List (List (bz×Nat))):Option Nat:=sc.reverse.findSome? λm=>(m.reverse.find? λe=>e.1==x).map (·.2)
section
variable(L:List aP)(E':y2)
def Z (k:Nat):aP:=Y L k eD
def bM (k i:Nat):Nat:=(Z L k).I.getD i 0
def qF (k i:Nat):Int:=(Z L (bM L k i)).j'
def declare(k:Nat)(s:b5):df:=
 if(s.sc.getLastD []).any (λe=>e.1==(Z L k).O) then .bL 7 k else .ok [] {s with sc:=s.sc.dropLast++[s.sc.getLastD []++[((Z L k).O,k)]]}
def each (f:Nat->b5->df):List Nat->b5->df
 |[],s=> .ok [] s
 |a::l,s=>(f a s).M λ_ s1=>each f l s1
def l5 (k:Nat)(s:b5):df:=
 (each (E' .typ) (Z L k).I s).M λ_ s1=>
  if(Z L k).j'=3 then bl (decide (0<=c7 L 12 (Z L k).O)) 6 k [] (iA k (O L k) s1)
  else if(Z L k).j'=4 then bl (decide (0<=c7 L 10 (Z L k).O)) 6 k [] (iA k (O L k) s1)
  else if(Z L k).j'=7 then declare L k s1
  else .ok [] (iA k (O L k) s1)
def l6 (g:Nat):bz:=if(Z L g).aX.toNat<(Z L g).I.length then O L ((Z L g).I.getD (Z L g).aX.toNat 0) else[]
def function(ps:List Nat)(g b:Nat)(s:b5):df:=
 (each (E' .typ) (ps++[g]) {fH s with cx:=0,res:=[]}).M λ_ s1=>
  (E' .block b {s1 with res:=l6 L g}).M λ_ s2=> .ok [] {s2 with sc:=s.sc,cx:=s.cx,res:=s.res}
def mQ (k:Nat)(s:b5):df:=(each (E' .stmt) (Z L k).I (fH s)).M λ_ s1=> .ok [] (shut s1)
def field(name x:bz):Option bz:=
 if c7 L 10 name<0 then none else((Z L (c7 L 10 name).toNat).I.find? λf=>(Z L f).O==x).map λf=>O L (bM L f 0)
def fq(t:bz):Option bz:=if cv t i_ then some (t.drop 5) else none
def p_ (ty fr:bz):Bool:=match fq ty with
 |none=>false
 |some t=>fS L fr t
def method(of x:bz):Option bz:=((fw (gv L of)).find? λm=>cv m (x++[32])).map λm=>m.drop (D x+1)
def named(k:Nat)(s:b5):df:=match look (Z L k).O s.sc with
 |some d=> .ok (if(Z L d).j'=7 then O L d else if(Z L d).j'=27 then(fq (Y s.types (bM L d 0) [])).getD [] else Y s.types (bM L d 0) []) (oe k d s)
 |none=>if c7 L 13 (Z L k).O<0 then .bL 6 k else .ok (O L (bM L (c7 L 13 (Z L k).O).toNat 0)) (oe k (c7 L 13 (Z L k).O) s)
def parts(fin:bz->bz)(fuel:Nat)(l:bz)(bR:Nat)(cur:bz)(d':List bz):List bz×bz:=match fuel,l with
 |f+1,c::r=>
  if bR=0/\(c=44\/c=41) then
   if c=41 then(if cur=[] then d' else d'++[cur],fin r) else parts fin f r 0 [] (if cur=[] then d' else d'++[cur])
  else parts fin f r (if c=40 then bR+1 else if c=41 then bR- 1 else bR) (cur++[c]) d'
 |_,_=>(d',[])
def kX (t:bz):List bz×bz:=parts (·.drop 1) (D t) (t.drop 5) 0 [] []
def dot (k:Nat)(of:bz)(s:b5):df:=
 if(decide (0<=c7 L 12 of)||cv of [42])=false then .bL 8 k
 else match(if cv of [42] then field L (of.drop 1) (Z L k).O else none) with
  |some t=> .ok t s
  |none=>match method L of (Z L k).O with
   |some t=> .ok t s
   |none=> .bL 6 k
def fitAll:List bz->List bz->Bool
 |v::tc,p::ps=>fS L v p&&fitAll tc ps
 |_,_=>true
def call (k:Nat)(l:List bz)(s:b5):df:=
 if cv (Y l 0 []) f'=false then .bL 8 k
 else if(kX (Y l 0 [])).1.length≠D l- 1 then .bL 9 k
 else bl (fitAll L (l.drop 1) (kX (Y l 0 [])).1) 8 k (kX (Y l 0 [])).2 s
def binary(k:Nat)(a b:bz)(s:b5):df:=
 if[[43],[45],[42],[47],[37]].contains (Z L k).O then bl (a==g'&&b==g') 8 k g' s
 else if[[60],[60,61],[62],[62,61]].contains (Z L k).O then bl (a==g'&&b==g') 8 k e6 s
 else if[[38,38],[124,124]].contains (Z L k).O then bl (a==e6&&b==e6) 8 k e6 s
 else bl ((fS L a b||fS L b a)&&a !=[]&&b !=[]&&!(a==iK&&b==iK)&&(!cv a f'||b==iK)&&(!cv b f'||a==iK)) 8 k e6 s
def args (Mr:Bool)(K:List bz->b5->df):List Nat->Nat->List bz->b5->df
 |[],_,d',s=>K d' s
 |a::l,i,d',s=>if(Mr&&i==1)=true then(E' .typ a s).M λ_ s1=>args Mr K l (i+1) (d'++[O L a]) s1 else(E' .b6 a s).M λt s1=>args Mr K l (i+1) (d'++[t]) s1
def after(k:Nat)(l:List bz)(s:b5):df:=
 if(Z L k).j'=37 then dot L k (l.getD 0 []) s
 else if(Z L k).j'=38 then call L k l s
 else if(Z L k).j'=39 then bl (decide (0<=c7 L 12 (l.getD 0 []))&&cv (l.getD 1 []) [42]&&fS L (l.getD 1 []) (l.getD 0 [])) 8 k (l.getD 1 []) s
 else if(Z L k).j'=43 then bl (l.getD 0 []==e6) 8 k e6 s
 else if(Z L k).j'=44 then bl (l.getD 0 []==g') 8 k g' s
 else if(Z L k).j'=45 then bl (fq (l.getD 0 [])).isSome 8 k ((fq (l.getD 0 [])).getD []) s
 else binary L k (l.getD 0 []) (l.getD 1 []) s
def typed(k:Nat)(s:b5):df:=
 if(Z L k).j'=33 then .ok g' s
 else if(Z L k).j'=34 then .ok e6 s
 else if(Z L k).j'=35 then .ok iK s
 else if(Z L k).j'=36 then named L k s
 else if(Z L k).j'=40 then(function L E' [] (bM L k 0) (bM L k 1) s).M λ_ s1=> .ok (O L (bM L k 0)) s1
 else if(Z L k).j'=41 then bl (decide (0<=c7 L 10 (Z L k).O)) 6 k (42::(Z L k).O) s
 else if(Z L k).j'=42 then(E' .typ (bM L k 0) s).M λ_ s1=>bl (decide ((Z L k).aX<=8)) 11 k (i_++O L (bM L k 0)) s1
 else args L E' (decide ((Z L k).j'=39)) (after L k) (Z L k).I 0 [] s
def aeZ (k:Nat)(s:b5):df:=(typed L E' k s).M λt s1=> .ok t (iA k t s1)
def rl (e:Nat)(s:b5):Bool:=
 if(Z L e).j'=36 then !((Z L (Y s.eJ e 0).toNat).j'==13)
 else if(Z L e).j'=37 then cv (Y s.types (bM L e 0) []) [42]&&(field L ((Y s.types (bM L e 0) []).drop 1) (Z L e).O).isSome
 else false
def ja (k:Nat)(s:b5):df:=
 if(Z L k).j'=17 then(E' .b6 (bM L k 0) s).M λt s1=>(bl (t !=[]&&t !=iK) 8 k [] s1).M λ_ s2=>declare L k s2
 else if(Z L k).j'=18 then(E' .b6 (bM L k 0) s).M λt s1=>(E' .b6 (bM L k 1) s1).M λu s2=>bl (rl L (bM L k 0) s2&&fS L u t) 8 k [] s2
 else if(Z L k).j'=20 then(E' .b6 (bM L k 0) s).M λt s1=>(E' .b6 (bM L k 1) s1).M λu s2=>bl (p_ L t u) 8 k [] s2
 else if(Z L k).j'=19 then(E' .b6 (bM L k 0) s).M λ_ s1=>bl (qF L k 0==38||qF L k 0==45) 8 k [] s1
 else if(Z L k).j'=21 then(E' .b6 (bM L k 0) s).M λ_ s1=>bl (qF L k 0==38) 8 k [] s1
 else if(Z L k).j'=30 then(E' .b6 (bM L k 0) s).M λt s1=>bl (fq t).isSome 8 k [] s1
 else if(Z L k).j'=31 then(E' .b6 (bM L k 0) s).M λt s1=>bl (t==g') 8 k [] s1
 else if(Z L k).j'=32 then(E' .b6 (bM L k 0) s).M λt s1=>bl (t==g'||t==e6) 8 k [] s1
 else if(Z L k).j'=22 then(E' .b6 (bM L k 0) s).M λt s1=>(E' .block (bM L k 1) s1).M λ_ s2=>
  (if 2<(Z L k).I.length then(if qF L k 2=22 then E' .stmt (bM L k 2) s2 else E' .block (bM L k 2) s2) else .ok [] s2).M λ_ aq=>bl (t==e6) 8 k [] aq
 else if(Z L k).j'=23 then(E' .b6 (bM L k 0) s).M λt s1=>(E' .block (bM L k 1) {s1 with cx:=s1.cx+1}).M λ_ s2=>bl (t==e6) 8 k [] {s2 with cx:=s2.cx- 1}
 else if(Z L k).j'=24 then
  if(Z L k).I=[] then bl (s.res==[]) 9 k [] s
  else(E' .b6 (bM L k 0) s).M λt s1=>(bl (s1.res !=[]) 9 k [] s1).M λ_ s2=>bl (fS L t s2.res) 8 k [] s2
 else if(Z L k).j'=25 then bl (decide (0<s.cx)) 8 k [] s
 else if(Z L k).j'=26 then(each (E' .one) (Z L k).I s).M λ_ s1=>bl (decide (D ((Z L k).I.filter λa=>(Z L a).j'==29)<2)) 7 k [] s1
 else .ok [] s
def Lx (k:Nat)(s:b5):df:=
 if(Z L k).j'=29 then E' .block (bM L k 0) s
 else if(Z L k).j'=28 then(E' .b6 (bM L k 0) s).M λt s1=>(E' .b6 (bM L k 1) s1).M λu s2=>(E' .block (bM L k 2) s2).M λ_ aq=>bl (p_ L t u) 8 k [] aq
 else(E' .b6 (bM L k 0) s).M λt s1=>(if(Z L k).O=[] then df.ok [] (fH s1) else declare L k (fH s1)).M λ_ s2=>(E' .block (bM L k 1) s2).M λ_ aq=>bl (fq t).isSome 8 k [] (shut aq)
def T0:KL->Nat->b5->df
 | .typ=>l5 L E'
 | .block=>mQ L E'
 | .stmt=>ja L E'
 | .one=>Lx L E'
 | .b6=>aeZ L E'
end
section
variable(L:List aP)
def bE:Nat->y2
 |0,_,_,_=> .bL 0 0
 |f+1,c,k,s=>T0 L (bE f) c k s
def py (E':y2)(d:Nat):Nat->List Nat->b5->df
 |_,[],s=> .ok [] s
 |i,m::l,s=>(if(Z L m).j'=9 then E' .typ (bM L m 0) s else(E' .typ (bM L m 0) (fH s)).M λ_ s1=> .ok [] {s1 with sc:=s.sc}).M λ_ s1=>
  (bl (!(((Z L d).I.take i).any λa=>(Z L a).O==(Z L m).O)) 7 m [] s1).M λ_ s2=>py E' d (i+1) l s2
def decl (E':y2)(ahead:List Nat)(k:Nat)(s:b5):df:=
 if(Z L k).j'=14 then(function L E' [bM L k 0] (bM L k 1) (bM L k 2) s).M λ_ s1=>
  (bl (!(ahead.any λa=>(Z L a).O==(Z L k).O&&(Z L a).j'==14&&O L (bM L a 0)==O L (bM L k 0))) 7 k [] s1).M λ_ s2=>
   bl (field L ((O L (bM L k 0)).drop 1) (Z L k).O).isNone 7 k [] s2
 else(if(Z L k).j'=13 then function L E' [] (bM L k 0) (bM L k 1) s else py L E' k 0 (Z L k).I s).M λ_ s1=>
  (bl (!(ahead.any λa=>(Z L a).O==(Z L k).O&&(Z L a).j' !=14)) 7 k [] s1).M λ_ s2=>
   bl (!((Z L k).j'==13&&(Z L k).O==[109,97,105,110])||(Z L (bM L k 0)).I==[]) 10 k [] s2
def decls(E':y2):List Nat->List Nat->b5->df
 |_,[],s=> .ok [] s
 |ahead,k::l,s=>(decl L E' ahead k s).M λ_ s1=>decls E' (ahead++[k]) l s1
def start:b5:=⟨ef (D L) [],ef (D L) (-1),[],[],0⟩
def prog:df:=(decls L (bE L (D L+1)) [] (Z L (D L- 1)).I (start L))
end
end Ck
namespace B
open aa (Tok)
def Nm (t:List UInt8):Prop:=(∃c r,t=c::r/\aa.letter c=true)/\ ∀c∈t,hr c=true
def Nm.ne{t}(h:Nm t):t≠[]:=by obtain⟨⟨c,r,rfl,_⟩,_⟩:=h;simp
def zy (t:Tok):Prop:=D t.O<=6000/\(t.j'=1->Nm t.O)
def Gk{p:UInt8->Bool}{s}(i:Nat): ∀j,i<=j->j<fD p s i->j<D s/\p (Y s j 0)=true:=by
 intro j R T;rw[fD] at T;split at T
 .rename_i h;by_cases e:j=i
  .rw[e];exact h
  .exact Gk (i+1) j J T
 .omega
termination_by (D s)-i
decreasing_by omega
def aet{s i}(ay:i<D s)(hl:aa.letter (Y s i 0)=true):Nm (aa.cut s i (fD hr s i)):=by
 have R:=CU (p:=hr) ay (by unfold hr;rw[hl];rfl);have ah:=Gk (p:=hr) (s:=s) i;unfold aa.cut;refine⟨⟨Y s i 0,(s.drop (i+1)).take (fD hr s i-i- 1),?_,hl⟩,λc hc=>?_⟩
 .rw[kS ay,cd,cE ay];obtain⟨m,hm⟩: ∃m,fD hr s i-i=m+1:=⟨_,(Nat.sub_add_cancel J).symm⟩;rw[hm];rfl
 .obtain⟨j,bg,rfl⟩:=List.mem_iff_getElem.1 hc;rw[List.getElem_take,List.getElem_drop];rw[mr,qA] at bg;obtain⟨a,b⟩:=ah (i+j) J J;rwa[cd,cE a] at b
def J5(s:List UInt8)(i j:Nat):D (aa.cut s i j)<=D s:=by unfold aa.cut;simp;omega
def ac_{s i to_ t}(hs:D s<=6000)(ay:i<D s)(h:kY s i= .tok t to_):zy t:=by
 have hc:=λj=>J5 s i j;unfold kY at h;split at h
 .cases h
 split at h
 .split at h<;>cases h
 split at h
 .rename_i hl;cases h;exact⟨by have:=hc (fD hr s i);dsimp only;omega,λ_=>aet ay hl⟩
 split at h
 .split at h
  .cases h
  .cases h;exact⟨by have:=hc (fD aa.digit s i);dsimp only;omega,λe=>by cases e⟩
 .split at h
  .cases h
  .rename_i g aB;cases h;have hm:=List.mem_of_find?_eq_some aB;have: ∀g∈gD,D g<=2:=aN;exact⟨by have:=this g hm;dsimp only;omega,λe=>by cases e⟩
def PI{d'}(h: ∀t∈d',zy t)(line:Bool)(i): ∀t∈aa.close d' line i,zy t:=by
 have hs: ∀t∈d'++[sZ i],zy t:=λt bI=>(List.mem_append.1 bI).elim (h t) λe=>by
  rw[sE] at e;subst e;exact⟨by show 1<=6000;omega,λe=>by cases e⟩
 unfold aa.close;split
 .split
  .split
   .exact hs
   .exact h
  .exact h
 .exact h
def go_ok{s}(hs:D s<=6000)(m:Nat): ∀(i:Nat) (line:Bool) (d' l:List Tok),D s-i<=m->(∀t∈d',zy t)->aa.go s i line d'= .ok l-> ∀t∈l,zy t:=by
 induction m with
 |zero=>
  intro i line d' l hm aR h;rw[aa.go_end J] at h;cases h;exact PI aR _ _
 |succ m cB=>
  intro i line d' l hm aR h;rw[aa.go] at h;split at h
  .rename_i ay;split at h
   .exact cB _ _ _ _ J (PI aR _ _) h
   .split at h
    .cases h
    .exact cB _ _ _ _ J aR h
    .rename_i dD;exact cB _ _ _ _ J (λt bI=>(List.mem_append.1 bI).elim (aR t) λe=>by
      rw[sE] at e;subst e;exact ac_ hs ay dD) h
  .cases h;exact PI aR _ _
def Gq{s l}(h:aa.scan s= .ok l): ∀t∈l,zy t:=by
 unfold aa.scan at h;split at h
 .cases h
 .exact go_ok J _ 0 false [] l (bD _) (λt bI=>by cases bI) h
def xb (k:Int):Bool:=[3,4,10,11,12,14,37,41].contains k
def zQ (K:Nat)(n:aP):Prop:=D n.O<=6000/\D n.I<=K/\(xb n.j'=true->Nm n.O)/\(n.j'=46-> ∃r∈mw,n.O∈r)
def ada{X s k}(h:k<hn X s): ∃r∈mw,(aM X s).O∈r:=by
 have key: ∀i,i<5->nw X s (Y mw i [])=true-> ∃r∈mw,(aM X s).O∈r:=λi ay aR=>by
  obtain⟨x,aF,U⟩:=List.any_eq_true.1 aR;refine⟨Y mw i [],?_,?_⟩
  .rw[cd,cE (show i<D mw from ay)];exact im _
  .unfold bw at U;rw[pv] at U;rwa[eq_of_beq U.1]
 unfold hn at h;split at h
 .exact key 0 aN (by assumption)
 split at h
 .exact key 1 aN (by assumption)
 split at h
 .exact key 2 aN (by assumption)
 split at h
 .exact key 3 aN (by assumption)
 split at h
 .exact key 4 aN (by assumption)
 .omega
section
variable{K:Nat}{X:Src}
variable(K) in
def aU (m:Nat)(r:aV)(L:List aP):Prop:=(∀n∈L,zQ K n)-> ∀v s',r= .ok v s'->(∀n∈s'.aj,zQ K n)/\D v<=m
theorem aU.M{m m2 r L}{f:List Nat->ak->aV}(h:aU K m r L)(aI: ∀v s1,r= .ok v s1->D v<=m->aU K m2 (f v s1) s1.aj):aU K m2 (r.M f) L:=by
 intro w v s' he;cases r with
 |o=>cases he
 |bL c p=>cases he
 |ok v1 s1=>
  obtain⟨a,b⟩:=h w v1 s1 rfl;exact aI v1 s1 rfl b a v s' he
theorem aU.ite{m c} [Decidable c]{a b L}(R:c->aU K m a L)(T:aU K m b L):aU K m (if c then a else b) L:=by
 split
 .exact R (by assumption)
 .exact T
theorem aU.fail(m:Nat)(c:Int)(s L):aU K m (B.fail X c s) L:=λw v s' e=>by cases e
theorem aU.ok{m v s}(h:D v<=m:=by first|(simp;done)|(simp;omega)):aU K m (.ok v s) s.aj:=λw cc s' e=>by cases e;exact⟨w,h⟩
theorem aU.put{n s}(h:zQ K n):aU K 1 (B.put n s) s.aj:=by
 intro w v s' e;unfold B.put at e;split at e
 .cases e;exact⟨λx aF=>(List.mem_append.1 aF).elim (w x) λe=>by rw[sE] at e;subst e;exact h,bD _⟩
 .cases e
theorem aU.same{m r L}(h:Bm r L)(hl: ∀v s',r= .ok v s'->D v<=m):aU K m r L:=λw v s' e=>⟨by rw[h v s' e];exact w,hl v s' e⟩
theorem Q9{x s v s'}(e:take X x s= .ok v s'):D v<=1:=by
 unfold take fail at e;split at e<;>cases e
 exact bD _
theorem aU.take(x:List UInt8)(s:ak):aU K 1 (B.take X x s) s.aj:=aU.same (kU X x s) λ_ _ e=>Q9 e
theorem aU.name(s:ak):aU K 1 (B.name X s) s.aj:=aU.same (mN X s) λv s' e=>by
 unfold B.name B.fail at e;split at e<;>cases e
 exact gp _
theorem aU.enter(x:List UInt8)(s:ak):aU K 1 (B.enter X x s) s.aj:=aU.same (kx X x s) λv s' e=>by
 unfold B.enter B.fail at e;split at e
 .cases e
 .cases bI:B.take X x s with
  |o=>rw[bI] at e;cases e
  |bL c p=>rw[bI] at e;cases e
  |ok v1 s1=>rw[bI] at e;cases e;exact Q9 bI
theorem aU.dU(x:List UInt8)(s:ak):aU K 1 (B.dU X x s) s.aj:=aU.same (nI X x s) λv s' e=>by
 unfold B.dU at e;cases bI:B.take X x s with
 |o=>rw[bI] at e;cases e
 |bL c p=>rw[bI] at e;cases e
 |ok v1 s1=>rw[bI] at e;cases e;exact gp _
theorem aU.to{m m2 r L}(h:aU K m r L)(hm:m<=m2):aU K m2 r L:=λw v s' e=>⟨(h w v s' e).1,hg (h w v s' e).2 hm⟩
def oi:Fn->Nat->Nat
 | .jX d',n=>D d'+n
 | .params d',n=>D d'+n
 | .exprs d',n=>D d'+n
 | .stmts d',n=>D d'+n
 | .body d',n=>D d'+n
 | .cases d',n=>D d'+n
 | .fields d',n=>D d'+n
 | .j_ d',n=>D d'+n
 | .decls d',n=>D d'+n
 |_,_=>1
def iZ (X:Src):Prop:= ∀s,(aM X s).O.length<=6000/\(hZ X s=true->Nm (aM X s).O)
variable{E':Rec}{n:Nat}(hT:iZ X)(ax:n+3<=K)(h: ∀f s,aU K (oi f n) (E' f s) s.aj)
theorem jI{j' p m l}(U:(xb j'||j'==46)=false)(hl:D l<=K):zQ K ⟨j',p,m,[],l⟩:=by rw[xE,u9] at U;exact⟨gp _,hl,λe=>(by rw[U.1] at e;cases e),λe=>absurd e U.2⟩
include hT in
theorem B2{j' p m l s}(U:(xb j'||j'==46)=false)(hl:D l<=K):zQ K ⟨j',p,m,(aM X s).O,l⟩:=by rw[xE,u9] at U;exact⟨(hT s).1,hl,λe=>(by rw[U.1] at e;cases e),λe=>absurd e U.2⟩
include hT in
theorem yK{j' p m l s s1 v}(he:name X s= .ok v s1)(U:j'≠46)(hl:D l<=K):zQ K ⟨j',p,m,(aM X s).O,l⟩:=
 ⟨(hT s).1,hl,λ_=>(hT s).2 (by
   unfold name B.fail at he;split at he
   .assumption
   .cases he),λe=>absurd e U⟩
include hT in
theorem Wa(s:ak):aU K 1 (pointer X s) s.aj:=aU.M (aU.take _ _) λ_ s1 _ _=>aU.M (aU.name s1) λ_ s2 he _=>aU.put (yK hT he aN (gp _))
include h
theorem B3(s:ak):aU K 1 (E' .typ s) s.aj:=h .typ s
theorem q0(k)(s:ak):aU K 1 (E' (.b6 k) s) s.aj:=h (.b6 k) s
theorem sa(s:ak):aU K 1 (E' .block s) s.aj:=h .block s
theorem Uz(s:ak):aU K 1 (E' .stmt s) s.aj:=h .stmt s
omit h in
theorem KF{m}{l:ak->aV}(hl: ∀s,aU K m (l s) s.aj)(s:ak):aU K m (list X l s) s.aj:=aU.M (aU.enter _ s) λ_ s1 _ _=>aU.M (hl s1) λv s2 _ bQ=>aU.M (aU.dU _ s2) λ_ _ _ _=>aU.ok bQ
omit h in
theorem PJ{m}{l:ak->aV}(hl: ∀s,aU K m (l s) s.aj)(s:ak):aU K m (items X l s) s.aj:=aU.M (aU.enter _ s) λ_ s1 _ _=>aU.M (hl s1) λv s2 _ bQ=>aU.M (aU.dU _ s2) λ_ _ _ _=>aU.ok bQ
omit h in
theorem PK{o:ak->aV}{g:List Nat->ak->aV}(bX: ∀s,aU K 1 (o s) s.aj)(aB: ∀a s,aU K (D a+n) (g a s) s.aj)(d':List Nat)(s:ak):aU K (D d'+(n+1)) (l3 X o g d' s) s.aj:=
 aU.ite (λ_=>aU.ok) (aU.M (bX s) λk s1 _ U=>aU.ite (λ_=>aU.ok) (aU.M (aU.take _ s1) λ_ s2 _ _=>aU.ite (λ_=>aU.fail _ _ _ _) ((aB _ s2).to (by simp;omega))))
omit h in
theorem Pc{o:ak->aV}{g:List Nat->ak->aV}(bX: ∀s,aU K 1 (o s) s.aj)(aB: ∀a s,aU K (D a+n) (g a s) s.aj)(d':List Nat)(s:ak):aU K (D d'+(n+1)) (kh X o g d' s) s.aj:=
 aU.ite (λ_=>aU.ok) (aU.M (bX s) λk s1 _ U=>aU.ite (λ_=>aU.ok) (aU.M (aU.take _ s1) λ_ s2 _ _=>(aB _ s2).to (by simp;omega)))
include ax
theorem Qj(j':Int)(U:(xb j'||j'==46)=false)(at_:Nat)(l:List Nat)(hl:D l<=n)(s:ak)(fin:ak->ak)(aI: ∀s',(fin s').aj=s'.aj):aU K 1 (result X E' j' at_ l s fin) s.aj:=
 aU.ite (λ_=>aU.M (B3 h s) λk s1 _ k5=>by rw[<-aI s1];exact aU.put (jI U (by simp;omega))) (by rw[<-aI s];exact aU.put (jI U J))
theorem Kg(s:ak):aU K 1 (sig X E' s) s.aj:=aU.M (KF (λs=>h (.params []) s) s) λl s1 _ hl=>Qj ax h 8 aN _ l (by simpa[oi] using hl) s1 id λ_=>rfl
include hT
theorem Qs(j':Int)(U:(xb j'||j'==46)=false)(s:ak):aU K 1 (named X E' j' s) s.aj:=aU.M (aU.name s) λ_ s1 _ _=>aU.M (B3 h s1) λk s2 _ k5=>aU.put (B2 hT U J)
theorem adb(s:ak):aU K 1 (l5 X E' s) s.aj:=
 aU.ite (λ_=>aU.put (s:=bs s) (jI aN (gp _))) (aU.ite (λ_=>aU.put (s:=bs s) (jI aN (gp _))) (aU.ite (λ_=>Wa hT s) (aU.ite (λ_=>aU.M (aU.enter _ s) λ_ s1 _ _=>aU.M (B3 h s1) λk s2 _ U=>aU.put (s:=down s2) (jI aN J))
  (aU.ite (λ_=>aU.M (aU.enter _ s) λ_ s1 _ _=>aU.M (KF (λs=>h (.jX []) s) s1) λl s2 _ hl=>Qj ax h 6 aN _ l (by simpa[oi] using hl) s2 down λ_=>rfl) (aU.M (aU.name s) λ_ s1 he _=>aU.put (yK hT he aN (gp _)))))))
omit hT
theorem Z1(s:ak):aU K 1 (mQ X E' s) s.aj:=aU.M (PJ (λs=>h (.stmts []) s) s) λl s1 _ hl=>aU.put (jI aN (by simp[oi] at hl;omega))
theorem Ov(j':Int)(U:(xb j'||j'==46)=false)(at_:Nat)(s:ak):aU K 1 (bracketed X E' j' at_ s) s.aj:=aU.M (aU.enter _ s) λ_ s1 _ _=>aU.M (q0 h 0 s1) λe s2 _ he=>aU.M (aU.dU _ s2) λ_ aq _ _=>aU.put (jI U J)
theorem JN(s:ak):aU K 1 (kD X E' s) s.aj:=aU.M (aU.take _ s) λ_ s1 _ _=>aU.M (h (.body []) s1) λl s2 _ hl=>aU.put (jI aN (by simp[oi] at hl;omega))
include hT
theorem abY(s:ak):aU K 1 (mz X E' s) s.aj:=
 aU.ite (λ_=>aU.M (JN ax h (bs s)) λb s1 _ G=>aU.put (jI aN J))
  (aU.M (aU.take _ s) λ_ s1 _ _=>aU.ite (λ_=>aU.M (aU.take _ (ll s1)) λ_ s2 _ _=>aU.M (q0 h 0 s2) λc aq _ hc=>aU.M (JN ax h aq) λb bA _ G=>aU.put (B2 hT aN (by simp;omega)))
   (aU.ite (λ_=>aU.M (q0 h 0 (bs s1)) λc aq _ hc=>aU.M (JN ax h aq) λb bA _ G=>aU.put (jI aN (by simp;omega)))
    (aU.M (q0 h 0 s1) λc s2 _ hc=>aU.M (aU.take _ s2) λ_ aq _ _=>aU.M (q0 h 0 aq) λv bA _ bQ=>aU.M (JN ax h bA) λb cm _ G=>aU.put (jI aN (by simp;omega)))))
omit hT
theorem Z2(at_:Nat)(s:ak):aU K 1 (choice X E' at_ s) s.aj:=aU.M (aU.enter _ s) λ_ s1 _ _=>aU.M (h (.cases []) s1) λl s2 _ hl=>aU.M (aU.dU _ s2) λ_ aq _ _=>aU.put (jI aN (by simp[oi] at hl;omega))
include hT
theorem abZ(s:ak):aU K 1 (ja X E' s) s.aj:=by
 unfold ja;refine aU.ite (λ_=>aU.M (q0 h 0 (bs s)) λe s1 _ he=>aU.put (jI aN J)) (aU.ite (λ_=>Ov ax h _ aN _ (bs s)) (aU.ite (λ_=>Ov ax h _ aN _ (bs s)) (aU.ite (λ_=>Ov ax h _ aN _ (bs s)) (aU.ite (λ_=>h .branch s) (aU.ite (λ_=>aU.M (q0 h 0 (bs s)) λc s1 _ hc=>aU.M (sa h s1) λb s2 _ G=>aU.put (jI aN (by simp;omega)))
  (aU.ite (λ_=>aU.ite (λ_=>aU.put (s:=bs s) (jI aN (gp _))) (aU.M (q0 h 0 (bs s)) λe s1 _ he=>aU.put (jI aN J))) (aU.ite (λ_=>aU.put (s:=bs s) (jI aN (gp _))) (aU.ite (λ_=>Z2 ax h _ (bs s)) (aU.ite (λ_=>aU.M (q0 h 0 (ll s)) λe s1 _ he=>aU.put (B2 hT aN J)) (aU.M (q0 h 0 s) λa s1 _ aR=>?_))))))))))
 exact aU.ite (λ_=>aU.M (q0 h 0 (bs s1)) λb s2 _ G=>aU.put (jI aN (by simp;omega))) (aU.ite (λ_=>aU.M (q0 h 0 (bs s1)) λb s2 _ G=>aU.put (jI aN (by simp;omega))) (aU.put (jI aN J)))
omit hT
theorem Yf(s:ak):aU K 1 (oa X E' s) s.aj:=
 aU.M (aU.take _ s) λ_ s1 _ _=>aU.M (q0 h 0 s1) λc s2 _ hc=>aU.M (sa h s2) λb aq _ G=>
  aU.ite (λ_=>aU.ite (λ_=>aU.M (aU.enter _ aq) λ_ bA _ _=>aU.M (m:=1) (h .branch bA) λe cm _ he=>aU.put (s:=down cm) (jI aN (by simp;omega))) (aU.M (sa h (bs aq)) λe cm _ he=>aU.put (jI aN (by simp;omega)))) (aU.put (jI aN (by simp;omega)))
include hT
theorem Z3(k a:Nat)(s:ak):aU K 1 (mS X E' k a s) s.aj:=aU.ite (λHt=>aU.M (q0 h _ (bs s)) λb s1 _ G=>aU.M (aU.put ⟨(hT s).1,(by simp;omega),(λe=>by cases e),λ_=>ada Ht⟩) λe s2 _ _=>h (.iy k (Y e 0 0)) s2) (aU.ok (bD _))
omit hT
theorem adu(at_:Nat)(s:ak):aU K 1 (made X E' at_ s) s.aj:=
 aU.M (aU.enter _ s) λ_ s1 _ _=>aU.M (aU.enter _ s1) λ_ s2 _ _=>aU.M (B3 h s2) λk aq _ U=>
  aU.ite (λ_=>aU.ite (λ_=>aU.M (aU.dU _ _) λ_ cm _ _=>aU.put (jI aN J)) (aU.fail _ _ _ _)) (aU.M (aU.dU _ _) λ_ cm _ _=>aU.put (jI aN J))
include hT
theorem aae(s:ak):aU K 1 (kA X E' s) s.aj:=
 aU.ite (λ_=>aU.put (s:=bs s) (jI aN (gp _))) (aU.ite (λ_=>aU.put (s:=bs s) (jI aN (gp _))) (aU.ite (λ_=>aU.put (s:=bs s) (jI aN (gp _))) (aU.ite (λ_=>aU.put (s:=bs s) (jI aN (gp _)))
  (aU.ite (λ_=>aU.M (Kg ax h (bs s)) λg s1 _ aB=>aU.M (sa h s1) λb s2 _ G=>aU.put (jI aN (by simp;omega))) (aU.ite (λ_=>aU.M (aU.enter _ (bs s)) λ_ s1 _ _=>aU.M (aU.name s1) λ_ s2 he _=>aU.M (aU.dU _ s2) λ_ aq _ _=>aU.put (yK hT he aN (gp _)))
   (aU.ite (λ_=>adu ax h _ (bs s)) (aU.ite (λ_=>aU.M (aU.enter _ s) λ_ s1 _ _=>aU.M (q0 h 0 s1) λe s2 _ he=>aU.M (aU.dU _ s2) λ_ aq _ _=>aU.ok he) (aU.M (aU.name s) λ_ s1 _ _=>aU.put (B2 hT aN (gp _))))))))))
omit hT
theorem OE(x:List UInt8)(j':Int)(U:(xb j'||j'==46)=false)(s:ak):aU K 1 (ky X E' x j' s) s.aj:=aU.M (aU.enter _ s) λ_ s1 _ _=>aU.M (m:=1) (h .unary s1) λe s2 _ he=>aU.put (s:=down s2) (jI U J)
include hT
theorem aaK(s:ak):aU K 1 (jV X E' s) s.aj:=aU.ite (λ_=>OE ax h _ _ aN s) (aU.ite (λ_=>OE ax h _ _ aN s) (aU.ite (λ_=>OE ax h _ _ aN s) (aU.M (aae hT ax h s) λe s1 _ _=>h (.part (Y e 0 0)) s1)))
theorem abA(e:Nat)(s:ak):aU K 1 (oU X E' e s) s.aj:=
 aU.ite (λ_=>aU.M (KF (λs=>h (.exprs []) s) s) λl s1 _ hl=>aU.M (aU.put (jI aN (by simp[oi] at hl;simp;omega))) λag s2 _ _=>h (.part (Y ag 0 0)) s2)
  (aU.ite (λ_=>aU.ite (λ_=>aU.M (aU.enter _ (bs s)) λ_ s1 _ _=>aU.M (B3 h s1) λt s2 _ bI=>aU.M (aU.dU _ s2) λ_ aq _ _=>aU.M (aU.put (jI aN (by simp;omega))) λag bA _ _=>h (.part (Y ag 0 0)) bA)
   (aU.M (aU.name (bs s)) λ_ s1 he _=>aU.M (aU.put (yK hT he aN (by simp;omega))) λag s2 _ _=>h (.part (Y ag 0 0)) s2)) (aU.ok (bD _)))
theorem adB(s:ak):aU K 1 (jY X E' s) s.aj:=aU.M (aU.name s) λ_ s1 he _=>aU.M (Kg ax h s1) λg s2 _ aB=>aU.put (yK hT he aN J)
theorem abB(at_:Nat)(s:ak):aU K 1 (typed X E' at_ s) s.aj:=
 aU.M (aU.name s) λ_ s1 he _=>aU.ite (λ_=>aU.M (PJ (λs=>h (.fields []) s) (bs s1)) λl s2 _ hl=>aU.put (yK hT he aN (by simp[oi] at hl;omega)))
  (aU.M (aU.take _ s1) λ_ s2 _ _=>aU.M (PJ (λs=>h (.j_ []) s) s2) λl aq _ hl=>aU.put (yK hT he aN (by simp[oi] at hl;omega)))
theorem aaL(at_:Nat)(s:ak):aU K 1 (method X E' at_ s) s.aj:=
 aU.M (aU.enter _ s) λ_ s1 _ _=>aU.M (aU.name s1) λ_ s2 _ _=>aU.M (Wa hT s2) λp aq _ aJ=>aU.M (aU.dU _ aq) λ_ bA _ _=>
  aU.M (aU.put (B2 hT aN J)) λself cm _ dH=>aU.M (aU.name cm) λ_ ha he _=>aU.M (Kg ax h ha) λg mj _ aB=>aU.M (sa h mj) λb ik _ G=>aU.put (yK hT he aN (by simp;omega))
theorem abC(s:ak):aU K 1 (j9 X E' s) s.aj:=
 aU.ite (λ_=>abB hT ax h _ (bs s)) (aU.M (aU.take _ s) λ_ s1 _ _=>aU.ite (λ_=>aaL hT ax h _ s1) (aU.M (aU.name s1) λ_ s2 _ _=>aU.M (Kg ax h s2) λg aq _ aB=>aU.M (sa h aq) λb bA _ G=>aU.put (B2 hT aN (by simp;omega))))
theorem abD(f:Fn)(s:ak):aU K (oi f (n+1)) (kE X E' f s) s.aj:=by
 cases f with
 |typ=>exact adb hT ax h s
 |block=>exact Z1 ax h s
 |stmt=>exact abZ hT ax h s
 |branch=>exact Yf ax h s
 |b6 k=>exact aU.M (m:=1) (h .unary s) λe s1 _ _=>h (.iy k (Y e 0 0)) s1
 |iy k a=>exact Z3 hT ax h k a s
 |unary=>exact aaK hT ax h s
 |part e=>exact abA hT ax h e s
 |jX d'=>exact PK (λs=>B3 h s) (λa s=>h (.jX a) s) d' s
 |params d'=>exact PK (λs=>Qs hT ax h 7 aN s) (λa s=>h (.params a) s) d' s
 |exprs d'=>exact PK (λs=>q0 h 0 s) (λa s=>h (.exprs a) s) d' s
 |stmts d'=>exact Pc (λs=>Uz h s) (λa s=>h (.stmts a) s) d' s
 |body d'=>exact aU.ite (λ_=>aU.ok (by simp[oi])) (aU.M (Uz h s) λk s1 _ U=>aU.ite (λ_=>aU.ok (by simp[oi];omega)) (aU.M (aU.take _ s1) λ_ s2 _ _=>(h (.body _) s2).to (by simp[oi];omega)))
 |cases d'=>exact aU.ite (λ_=>aU.ok (by simp[oi])) (aU.M (abY hT ax h s) λk s1 _ U=>(h (.cases _) s1).to (by simp[oi];omega))
 |fields d'=>exact Pc (λs=>Qs hT ax h 9 aN s) (λa s=>h (.fields a) s) d' s
 |j_ d'=>exact Pc (λs=>adB hT ax h s) (λa s=>h (.j_ a) s) d' s
 |decls d'=>exact aU.ite (λ_=>aU.M (abC hT ax h s) λk s1 _ U=>aU.ite (λ_=>aU.M (aU.take _ s1) λ_ s2 _ _=>(h (.decls _) s2).to (by simp[oi];omega)) ((h (.decls _) s1).to (by simp[oi];omega))) (aU.ok (by simp[oi]))
end
def aeu{X K}(hT:iZ X)(n:Nat)(ax:n+3<=K): ∀f s,aU K (oi f n) (run X n f s) s.aj:=by
 induction n with
 |zero=>intro f s _ v s' h;cases h
 |succ n cB=>exact λf s=>abD hT J (cB J) f s
def Yg{X n}(hT:iZ X){v s}(h:program X n= .ok v s): ∀x∈s.aj,zQ (n+3) x:=
 ((aU.M (aeu (K:=n+3) hT n (bD _) (.decls []) start) λl s1 _ hl=>aU.put (n:=⟨15,(aM X start).an,0,[],l⟩) (jI aN (by simp[oi] at hl;omega))) (λx aF=>by cases aF) v s h).1
def adC{X}(h: ∀t∈X.bu,zy t):iZ X:=by
 intro s;unfold hZ aM;by_cases hs:s.i<D X.bu
 .have:=h _ (im hs);rw[cd,cE hs];exact⟨this.1,λe=>this.2 (by simpa using e)⟩
 .rw[cd,pr J];exact⟨gp _,λe=>by simp[iz] at e⟩
end B
namespace Ck
open B (aP eD O hE Nm)
def p' (r:bz):bz:=if r=[] then[] else 32::r
def mx (l:List bz)(r:bz):bz:=f'++(hE l++41::p' r)
inductive jA:bz->Prop
 |eG {t:bz} (h:Nm t):jA t
 |ptr {t:bz} (h:Nm t):jA (42::t)
 |chan {t:bz} (h:jA t):jA (i_++t)
 |func {l:List bz} (hl: ∀t∈l,jA t):jA (mx l [])
 |Df {l:List bz} {r:bz} (hl: ∀t∈l,jA t) (au:jA r):jA (mx l r)
def H7 (t:bz):Prop:=t=[]\/jA t
def A1{c}(h:hr c=true):c≠40/\c≠41/\c≠44/\c≠32/\c≠42/\c<128:=by have: ∀c:Fin 256,hr ⟨⟨c⟩⟩=true->(⟨⟨c⟩⟩:UInt8)≠40/\(⟨⟨c⟩⟩:UInt8)≠41/\(⟨⟨c⟩⟩:UInt8)≠44/\(⟨⟨c⟩⟩:UInt8)≠32/\(⟨⟨c⟩⟩:UInt8)≠42/\(⟨⟨c⟩⟩:UInt8)<128:=aN;exact this c.toBitVec.toFin h
def jA.ne{t}(h:jA t):t≠[]:=by
 cases h with
 |eG h=>obtain⟨⟨c,r,rfl,_⟩,_⟩:=h;simp
 |ptr h=>simp
 |chan h=>simp[i_]
 |func hl=>simp[mx,f']
 |Df hl au=>simp[mx,f']
def aaj{q:UInt8->Prop}(yu:q 32){r}(h: ∀c∈r,q c): ∀c∈p' r,q c:=by
 unfold p';split
 .exact λc hc=>by cases hc
 .exact λc hc=>(List.mem_cons.1 hc).elim (λe=>e▸yu) (h c)
def Wn{q:UInt8->Prop}(H9:q 44): ∀(l:List bz),(∀t∈l,∀c∈t,q c)-> ∀c∈hE l,q c
 |[],_,c,hc=>by cases hc
 |[a],h,c,hc=>h a (hY ..) c hc
 |a::b::r,h,c,hc=>by
  obtain R|R:=List.mem_append.1 hc
  .exact h a (hY ..) c R
  .obtain rfl|R:=List.mem_cons.1 R
   .exact H9
   .exact Wn H9 (b::r) (λt bI=>h t (hP _ bI)) c R
def R0{q:UInt8->Prop}{l r}(aI: ∀c∈f',q c)(H9:q 44)(aip:q 41)(yu:q 32)(hl: ∀t∈l,∀c∈t,q c)(au: ∀c∈r,q c): ∀c∈mx l r,q c:=λc hc=>by
 obtain R|R:=List.mem_append.1 hc
 .exact aI c R
 obtain R|R:=List.mem_append.1 R
 .exact Wn H9 l hl c R
 obtain rfl|R:=List.mem_cons.1 R
 .exact aip
 .exact aaj yu au c R
def jA.aeY{t}(h:jA t): ∀c∈t,c<128:=by
 have dH: ∀c∈f',c<128:=aN;have fE: ∀c∈i_,c<128:=aN
 induction h with
 |eG h=>exact λc hc=>(A1 (h.2 c hc)).2.2.2.2.2
 |ptr h=>exact λc hc=>(List.mem_cons.1 hc).elim (λe=>e▸by decide) λhc=>(A1 (h.2 c hc)).2.2.2.2.2
 |chan h cB=>exact λc hc=>(List.mem_append.1 hc).elim (fE c) (cB c)
 |func hl Ac=>exact R0 dH aN aN aN Ac λc hc=>by cases hc
 |Df hl au Ac Mq=>exact R0 dH aN aN aN Ac Mq
section
variable{fin:bz->bz}
def adz{c}(h:c≠40/\c≠41/\c≠44)(f:Nat)(r:bz)(d:Nat)(cur:bz)(d':List bz):parts fin (f+1) (c::r) d cur d'=parts fin f r d (cur++[c]) d':=by rw[parts,ao (by rintro⟨_,R|R⟩;exact h.2.2 R;exact h.2.1 R),ao h.1,ao h.2.1]
def VX(f:Nat)(r:bz)(d:Nat)(cur:bz)(d':List bz):parts fin (f+1) (40::r) d cur d'=parts fin f r (d+1) (cur++[40]) d':=by rw[parts,ao (by rintro⟨_,R|R⟩<;>exact absurd R aN),aS rfl]
def VY(f:Nat)(r:bz)(d:Nat)(cur:bz)(d':List bz):parts fin (f+1) (41::r) (d+1) cur d'=parts fin f r d (cur++[41]) d':=by rw[parts,ao (by rintro⟨h,_⟩;omega),ao aN,aS rfl,Nat.add_sub_cancel]
def aak(f:Nat)(r:bz)(d:Nat)(cur:bz)(d':List bz):parts fin (f+1) (44::r) (d+1) cur d'=parts fin f r (d+1) (cur++[44]) d':=by rw[parts,ao (by rintro⟨h,_⟩;omega),ao aN,ao aN]
end
def gy (m:Nat)(t:bz):Prop:= ∀fin f r d cur d',m<=d->parts fin (D t+f) (t++r) d cur d'=parts fin f r d (cur++t) d'
def gy.app{m a b}(h:gy m a)(k:gy m b):gy m (a++b):=λfin f r d cur d' bB=>by
 rw[dW,Nat.add_assoc,oH,h fin _ _ d cur d' bB,k fin _ _ d _ d' bB,oH]
def gy.one{c}(h:c≠40/\c≠41/\c≠44):gy 0 [c]:=λfin f r d cur d' _=>by
 show parts fin (1+f) (c::r) d cur d'=_;rw[yf,adz h]
def gy.nil(m:Nat):gy m []:=λfin f r d cur d' _=>by simp
def gy.word: ∀{t},(∀c∈t,c≠40/\c≠41/\c≠44)->gy 0 t
 |[],_=>gy.nil 0
 |c::r,h=>gy.app (a:=[c]) (gy.one (h c (hY ..))) (gy.word λc hc=>h c (hP _ hc))
def gy.mono{m n t}(h:gy m t)(ax:m<=n):gy n t:=λfin f r d cur d' bB=>h fin f r d cur d' J
def gy.H':gy 1 [44]:=λfin f r d cur d' bB=>by
 obtain⟨d,rfl⟩: ∃e,d=e+1:=⟨d- 1,by omega⟩;show parts fin (1+f) (44::r) (d+1) cur d'=_;rw[yf,aak]
def gy.join: ∀{l},(∀t∈l,gy 0 t)->gy 1 (hE l)
 |[],_=>gy.nil 1
 |[a],h=>(h a (hY ..)).mono (gp _)
 |a::b::r,h=>gy.app ((h a (hY ..)).mono (gp _)) (gy.app (a:=[44]) gy.H' (gy.join λt bI=>h t (hP _ bI)))
def gy.tail{r}(h:gy 0 r):gy 0 (p' r):=by
 unfold p';split
 .exact gy.nil 0
 .exact gy.app (a:=[32]) (gy.one aN) h
def gy.brk{t}(h:gy 1 t):gy 0 (40::(t++[41])):=λfin f r d cur d' _=>by
 rw[show(40::(t++[41])).length+f=(D t+(1+f))+1 from by simp;omega,show 40::(t++[41])++r=40::(t++([41]++r)) from by simp,VX,h fin (1+f) ([41]++r) (d+1) _ d' J,yf 1 f];show parts fin (f+1) (41::r) (d+1) _ d'=_;rw[VY];simp
def gy.mx{l r}(hl: ∀t∈l,gy 0 t)(au:gy 0 r):gy 0 (mx l r):=by
 have:Ck.mx l r=[102,117,110,99]++(40::(hE l++[41])++p' r):=by simp[Ck.mx,f']
 rw[this];exact gy.app (gy.word aN) (gy.app (gy.brk (gy.join hl)) au.tail)
def jA.sc{t}(h:jA t):gy 0 t:=by
 have hw: ∀{t:bz},Nm t->gy 0 t:=λh=>gy.word λc hc=>by
  obtain⟨a,b,c,_⟩:=A1 (h.2 c hc);exact⟨a,b,c⟩
 induction h with
 |eG h=>exact hw h
 |ptr h=>exact gy.app (a:=[42]) (gy.one aN) (hw h)
 |chan h cB=>exact gy.app (gy.word aN) cB
 |func hl Ac=>exact gy.mx Ac (gy.nil 0)
 |Df hl au Ac Mq=>exact gy.mx Ac Mq
def VZ{fin:bz->bz}: ∀{l},(∀t∈l,jA t)-> ∀(d':List bz) (f:Nat) (r:bz),parts fin (D (hE l)+(f+1)) (hE l++41::r) 0 [] d'=(d'++l,fin r)
 |[],_,d',f,r=>by
  show parts fin (0+(f+1)) (41::r) 0 [] d'=_;rw[Nat.zero_add,parts,aS ⟨rfl,.inr rfl⟩,aS rfl,aS rfl,lU]
 |[a],h,d',f,r=>by
  have aR:=h a (hY ..);show parts fin (D a+(f+1)) (a++41::r) 0 [] d'=_;rw[aR.sc fin (f+1) _ 0 [] d' (bD _),List.nil_append,parts,aS ⟨rfl,.inr rfl⟩,aS rfl,ao aR.ne]
 |a::b::l,h,d',f,r=>by
  have aR:=h a (hY ..);have ag:D (hE (a::b::l))+(f+1)=D a+((D (hE (b::l))+(f+1))+1):=by
   show(a++44::hE (b::l)).length+(f+1)=_;simp;omega
  have aE:hE (a::b::l)++41::r=a++(44::(hE (b::l)++41::r)):=by
   show a++44::hE (b::l)++41::r=_;simp
  rw[ag,aE,aR.sc fin _ _ 0 [] d' (bD _),List.nil_append,parts,aS ⟨rfl,.inl rfl⟩,ao aN,ao aR.ne,VZ (λt bI=>h t (hP _ bI))];simp
def Pp(fin:bz->bz){l r}(hl: ∀t∈l,jA t):parts fin (D (mx l r)) ((mx l r).drop 5) 0 [] []=(l,fin (p' r)):=by
 have ag:(mx l r).drop 5=hE l++41::p' r:=rfl;have aE:D (mx l r)=D (hE l)+((D (p' r)+5)+1):=by simp[mx,f'];omega
 rw[ag,aE,VZ hl];rfl
def J8{t p}(h:cv t p=true): ∃r,t=p++r:=by
 unfold cv at h;rw[pv] at h;refine⟨t.drop (D p),?_⟩;have T:=eq_of_beq h.2
 conv=>lhs;rw[<-xK (D p) t]
 rw[T]
def jA.Q5{t}(h:jA t)(G:cv t f'=true): ∃l r,t=mx l r/\(∀x∈l,jA x)/\H7 r:=by
 obtain⟨q,a_⟩:=J8 G;cases h with
 |eG h=>exact absurd rfl (A1 (h.2 40 (by rw[a_];simp[f']))).1
 |ptr h=>exact absurd (ye a_).1 aN
 |chan h=>exact absurd (ye a_).1 aN
 |func hl=>exact⟨_,_,rfl,hl,.inl rfl⟩
 |Df hl au=>exact⟨_,_,rfl,hl,.inr au⟩
def jA.adx{t}(h:jA t)(G:cv t i_=true):jA (t.drop 5):=by
 obtain⟨q,a_⟩:=J8 G;cases h with
 |eG h=>exact absurd rfl (A1 (h.2 32 (by rw[a_];simp[i_]))).2.2.2.1
 |ptr h=>exact absurd (ye a_).1 aN
 |chan h=>exact h
 |func hl=>exact absurd (ye a_).1 aN
 |Df hl au=>exact absurd (ye a_).1 aN
end Ck
namespace B
open aa (Tok)
def ct (c:Nat)(k:Int):Bool:=
 if c=0 then decide (1<=k/\k<=6) else if c=1 then decide (33<=k/\k<=46) else if c=2 then decide (17<=k/\k<=26\/30<=k/\k<=32) else if c=3 then decide (27<=k/\k<=29)
 else if c=23 then decide (k=22\/k=16) else if c=24 then decide (k=10\/k=12\/k=13\/k=14) else decide (k=(c:Int))
def dd (L:List aP)(j:Nat):Int:=(Y L j eD).j'
def gO (L:List aP):List Nat->List Nat->Prop
 |[],[]=>True
 |a::l,c::cs=>(a<D L/\ct c (dd L a)=true)/\gO L l cs
 |_,_=>False
def pat (j' aX:Int)(len:Nat):List Nat:=
 if j'=5\/j'=7\/j'=9\/j'=42 then[0]
 else if j'=6 then ef len 0
 else if j'=8 then ef aX.toNat 7++ef (len-aX.toNat) 0
 else if j'=10 then ef len 9
 else if j'=11 then[8]
 else if j'=12 then ef len 11
 else if j'=13\/j'=40 then[8,16]
 else if j'=14 then[7,8,16]
 else if j'=15 then ef len 24
 else if j'=16 then ef len 2
 else if j'=17\/j'=19\/j'=21\/j'=30\/j'=31\/j'=32\/j'=37\/j'=43\/j'=44\/j'=45 then[1]
 else if j'=18\/j'=20\/j'=46 then[1,1]
 else if j'=22 then(if len=3 then[1,16,23] else[1,16])
 else if j'=23\/j'=27 then[1,16]
 else if j'=24 then ef (min len 1) 1
 else if j'=26 then ef len 3
 else if j'=28 then[1,1,16]
 else if j'=29 then[16]
 else if j'=38 then ef (max len 1) 1
 else if j'=39 then[1,0]
 else[]
def BY (L:List aP)(n:aP):Prop:=gO L n.I (pat n.j' n.aX (D n.I))/\(n.j'=14->dd L ((Y L (Y n.I 0 0) eD).I.getD 0 0)=4/\(Y L (Y n.I 0 0) eD).I.getD 0 0<D L)
def xD (L:List aP):Prop:= ∀n∈L,BY L n
def eQ (c:Nat)(v:List Nat)(L:List aP):Prop:= ∃a,v=[a]/\a<D L/\ct c (dd L a)=true
def fI (c:Nat)(v:List Nat)(L:List aP):Prop:= ∀a∈v,a<D L/\ct c (dd L a)=true
def Gt{L ar a}(h:a<D L):dd (L++ar) a=dd L a:=by unfold dd;rw[A2 h]
def gO.up{L iY}(e:Ext L iY): ∀{l cs},gO L l cs->gO iY l cs
 |[],[],_=>trivial
 |a::l,c::cs,h=>by
  obtain⟨ar,rfl⟩:=e;exact⟨⟨by have:=h.1.1;rw[dW];omega,by rw[Gt h.1.1];exact h.1.2⟩,gO.up ⟨ar,rfl⟩ h.2⟩
 |[],_::_,h=>h.elim
 |_::_,[],h=>h.elim
def gO.len{L}: ∀{l cs},gO L l cs->D l=D cs
 |[],[],_=>rfl
 |_::_,_::_,h=>by rw[iq,iq,gO.len h.2]
 |[],_::_,h=>h.elim
 |_::_,[],h=>h.elim
def gO.at{L}: ∀{l cs},gO L l cs-> ∀i,i<D l->Y l i 0<D L/\ct (Y cs i 0) (dd L (Y l i 0))=true
 |a::l,c::cs,h,0,_=>h.1
 |a::l,c::cs,h,i+1,ay=>by
  have:=gO.at h.2 i (by simpa using ay);simpa using this
 |[],[],_,_,ay=>absurd ay (Nat.not_lt_zero _)
 |[],_::_,h,_,_=>h.elim
 |_::_,[],h,_,_=>h.elim
def gO.app{L}: ∀{l m cs nm},gO L l cs->gO L m nm->gO L (l++m) (cs++nm)
 |[],_,[],_,_,k=>k
 |_::_,_,_::_,_,h,k=>⟨h.1,gO.app h.2 k⟩
 |[],_,_::_,_,h,_=>h.elim
 |_::_,_,[],_,h,_=>h.elim
def fI.ks{L c}: ∀{l},fI c l L->gO L l (ef (D l) c)
 |[],_=>trivial
 |a::l,h=>⟨h a (hY ..),fI.ks λb G=>h b (hP _ G)⟩
def eQ.kg{c v L}(h:eQ c v L):fI c v L:=by obtain⟨a,rfl,h⟩:=h;intro b G;rw[sE] at G;exact G▸h
def eQ.ks{c v L}(h:eQ c v L):gO L v [c]:=by obtain⟨a,rfl,h⟩:=h;exact⟨h,trivial⟩
def eQ.len{c v L}(h:eQ c v L):D v=1:=by obtain⟨a,rfl,h⟩:=h;rfl
def fI.up{c v L iY}(h:fI c v L)(e:Ext L iY):fI c v iY:=by obtain⟨ar,rfl⟩:=e;exact λa aR=>⟨by have:=(h a aR).1;rw[dW];omega,by rw[Gt (h a aR).1];exact(h a aR).2⟩
def eQ.up{c v L iY}(h:eQ c v L)(e:Ext L iY):eQ c v iY:=by obtain⟨a,rfl,R,T⟩:=h;have:=fI.up (v:=[a]) (c:=c) (λb G=>by rw[sE] at G;exact G▸⟨R,T⟩) e a (List.mem_singleton.2 rfl);exact⟨a,rfl,this⟩
def fI.app{c u v L}(h:fI c u L)(k:fI c v L):fI c (u++v) L:=λa aR=>(List.mem_append.1 aR).elim (h a) (k a)
def fI.nil(c:Nat)(L):fI c [] L:=λa aR=>by cases aR
def eQ.to{c d v L}(h:eQ c v L)(hc: ∀k,ct c k=true->ct d k=true):eQ d v L:=by obtain⟨a,rfl,R,T⟩:=h;exact⟨a,rfl,R,hc _ T⟩
def bj (r:aV)(L:List aP)(Q:List Nat->List aP->Prop):Prop:=xD L-> ∀v s',r= .ok v s'->Ext L s'.aj/\xD s'.aj/\Q v s'.aj
def bj.mono{r L}{Q y1:List Nat->List aP->Prop}(h:bj r L Q)(a_: ∀v iY,Q v iY->y1 v iY):bj r L y1:=λw v s' e=>⟨(h w v s' e).1,(h w v s' e).2.1,a_ _ _ (h w v s' e).2.2⟩
def bj.M{r L}{xB Q:List Nat->List aP->Prop}{f:List Nat->ak->aV}(h:bj r L xB)(aI: ∀v s1,Ext L s1.aj->xB v s1.aj->bj (f v s1) s1.aj Q):bj (r.M f) L Q:=by
 intro w v s' he;cases r with
 |o=>cases he
 |bL c p=>cases he
 |ok v1 s1=>
  obtain⟨a,b,d⟩:=h w v1 s1 rfl;obtain⟨a2,b2,d2⟩:=aI v1 s1 a d b v s' he;exact⟨a.trans a2,b2,d2⟩
def bj.ite{c} [Decidable c]{a b L}{Q:List Nat->List aP->Prop}(R:bj a L Q)(T:bj b L Q):bj (if c then a else b) L Q:=by
 split
 .exact R
 .exact T
def bj.ok{v s}{Q:List Nat->List aP->Prop}(a_:Q v s.aj):bj (.ok v s) s.aj Q:=λw cc s' e=>by cases e;exact⟨Ext.refl _,w,a_⟩
def bj.fail(X:Src)(c:Int)(s)(L:List aP)(Q:List Nat->List aP->Prop):bj (B.fail X c s) L Q:=λw v s' e=>by cases e
def bj.skip{r L}{Q:List Nat->List aP->Prop}{f:List Nat->ak->aV}(h:Bm r L)(aI: ∀v s1,s1.aj=L->bj (f v s1) L Q):bj (r.M f) L Q:=by
 intro w v s' he;cases r with
 |o=>cases he
 |bL c p=>cases he
 |ok v1 s1=>exact aI v1 s1 (h _ _ rfl) w v s' he
def R6(L:List aP)(n:aP):dd (L++[n]) (D L)=n.j':=by unfold dd;rw[C3]
def BY.up{L iY n}(h:BY L n)(e:Ext L iY):BY iY n:=by refine⟨gO.up e h.1,λlK=>?_⟩;obtain⟨T,ah⟩:=h.2 lK;have R:=h.1;rw[show pat n.j' n.aX (D n.I)=[7,8,16] by rw[lK];rfl] at R;have bJ:=(gO.at R 0 (by rw[gO.len R];decide)).1;obtain⟨ar,rfl⟩:=e;rw[A2 bJ,Gt ah];exact⟨T,by rw[dW];omega⟩
def xD.put{L}(h:xD L){n}(ax:BY L n):xD (L++[n]):=λx aF=>by
 obtain aF|aF:=List.mem_append.1 aF
 .exact(h x aF).up ⟨[n],rfl⟩
 .rw[sE] at aF;exact aF▸ax.up ⟨[n],rfl⟩
def bj.Su{n s}(c:Nat)(ax:BY s.aj n)(hc:ct c n.j'=true):bj (B.put n s) s.aj (eQ c):=by
 intro w v s' e;unfold B.put at e;split at e
 .cases e;exact⟨⟨[n],rfl⟩,w.put ax,D s.aj,rfl,by simp,by rw[R6];exact hc⟩
 .cases e
def bj.put{n s}(c:Nat){cs}(U:gO s.aj n.I cs)(aJ:pat n.j' n.aX (D n.I)=cs)(hc:ct c n.j'=true:=by rfl)(lK:(n.j'==14)=false:=by rfl):bj (B.put n s) s.aj (eQ c):=
 bj.Su c ⟨by rw[aJ];exact U,λe=>by rw[e] at lK;cases lK⟩ hc
def gO.two{L a b c d}(h:eQ c a L)(k:eQ d b L):gO L (a++b) [c,d]:=gO.app h.ks k.ks
def gO.three{L a b e c d f}(h:eQ c a L)(k:eQ d b L)(m:eQ f e L):gO L (a++b++e) [c,d,f]:=gO.app (gO.two h k) m.ks
def Li:Fn->List Nat->List aP->Prop
 | .typ=>eQ 0
 | .block=>eQ 16
 | .stmt=>eQ 2
 | .branch=>eQ 22
 | .jX _=>fI 0
 | .params _=>fI 7
 | .exprs _=>fI 1
 | .stmts _=>fI 2
 | .body _=>fI 2
 | .cases _=>fI 3
 | .fields _=>fI 9
 | .j_ _=>fI 11
 | .decls _=>fI 24
 |_=>eQ 1
def LG:Fn->List aP->Prop
 | .iy _ a,L=>eQ 1 [a] L
 | .part e,L=>eQ 1 [e] L
 | .jX l,L=>fI 0 l L
 | .params l,L=>fI 7 l L
 | .exprs l,L=>fI 1 l L
 | .stmts l,L=>fI 2 l L
 | .body l,L=>fI 2 l L
 | .cases l,L=>fI 3 l L
 | .fields l,L=>fI 9 l L
 | .j_ l,L=>fI 11 l L
 | .decls l,L=>fI 24 l L
 |_,_=>True
section
variable{X:Src}{E':Rec}(h: ∀f s,LG f s.aj->bj (E' f s) s.aj (Li f))
theorem Wc(s:ak):bj (pointer X s) s.aj (eQ 4):=bj.skip (kU X _ s) λ_ s1 ag=>ag▸bj.skip (mN X s1) λ_ s2 aE=>aE▸bj.put 4 (cs:=[]) trivial rfl
theorem qN(j':Int)(c:Nat)(p m:Int)(t)(s:ak)(aJ:pat j' m 0=[]:=by rfl)(hc:ct c j'=true:=by rfl)(lK:(j'==14)=false:=by rfl):bj (B.put ⟨j',p,m,t,[]⟩ s) s.aj (eQ c):=bj.put c (cs:=[]) trivial aJ hc lK
include h
theorem De(s:ak):bj (E' .typ s) s.aj (eQ 0):=h .typ s trivial
theorem q_(k)(s:ak):bj (E' (.b6 k) s) s.aj (eQ 1):=h (.b6 k) s trivial
theorem wQ(s:ak):bj (E' .block s) s.aj (eQ 16):=h .block s trivial
omit h
theorem KG{Q:List Nat->List aP->Prop}{l:ak->aV}(s:ak)(hl: ∀s1,s1.aj=s.aj->bj (l s1) s.aj Q):bj (list X l s) s.aj Q:=bj.skip (kx X _ s) λ_ s1 ag=>bj.M (hl s1 ag) λv s2 _ q=>bj.skip (nI X _ s2) λ_ aq bU=>bU▸bj.ok (by rw[bU];exact q)
theorem PL{Q:List Nat->List aP->Prop}{l:ak->aV}(s:ak)(hl: ∀s1,s1.aj=s.aj->bj (l s1) s.aj Q):bj (items X l s) s.aj Q:=bj.skip (kx X _ s) λ_ s1 ag=>bj.M (hl s1 ag) λv s2 _ q=>bj.skip (nI X _ s2) λ_ aq bU=>bU▸bj.ok (by rw[bU];exact q)
theorem PM{c}{o:ak->aV}{g:List Nat->ak->aV}(bX: ∀s,bj (o s) s.aj (eQ c))(aB: ∀a s,fI c a s.aj->bj (g a s) s.aj (fI c))(d':List Nat)(s:ak)(aR:fI c d' s.aj):bj (l3 X o g d' s) s.aj (fI c):=
 bj.ite (bj.ok aR) (bj.M (bX s) λk s1 ag c9=>bj.ite (bj.ok ((aR.up ag).app c9.kg)) (bj.skip (kU X _ s1) λ_ s2 aE=>aE▸bj.ite (bj.fail _ _ _ _ _) (aB _ s2 (by rw[aE];exact(aR.up ag).app c9.kg))))
theorem Pd{c}{o:ak->aV}{g:List Nat->ak->aV}(bX: ∀s,bj (o s) s.aj (eQ c))(aB: ∀a s,fI c a s.aj->bj (g a s) s.aj (fI c))(d':List Nat)(s:ak)(aR:fI c d' s.aj):bj (kh X o g d' s) s.aj (fI c):=
 bj.ite (bj.ok aR) (bj.M (bX s) λk s1 ag c9=>bj.ite (bj.ok ((aR.up ag).app c9.kg)) (bj.skip (kU X _ s1) λ_ s2 aE=>aE▸aB _ s2 (by rw[aE];exact(aR.up ag).app c9.kg)))
include h
theorem Qt(j':Int)(c:Nat)(aJ:pat j' 0 1=[0])(hc:ct c j'=true)(lK:(j'==14)=false)(s:ak):bj (named X E' j' s) s.aj (eQ c):=bj.skip (mN X s) λ_ s1 ag=>ag▸bj.M (De h s1) λk s2 _ q=>bj.put c q.ks (by rw[q.len];exact aJ) hc lK
theorem Qk(j':Int)(c:Nat)(hc:j'=6/\c=0\/j'=8/\c=7)(at_:Nat)(l:List Nat)(s:ak)(fin:ak->ak)(aI: ∀s',(fin s').aj=s'.aj)(hl:fI c l s.aj):bj (result X E' j' at_ l s fin) s.aj (eQ (if c=0 then 0 else 8)):=by
 have lK:(j'==14)=false:=by rcases hc with⟨rfl,_⟩|⟨rfl,_⟩<;>rfl
 have U:ct (if c=0 then 0 else 8) j'=true:=by rcases hc with⟨rfl,rfl⟩|⟨rfl,rfl⟩<;>rfl
 refine bj.ite (bj.M (De h s) λk s1 e q=>?_) ?_
 .rw[<-aI s1];refine bj.put _ (cs:=ef (D l) c++[0]) (by rw[aI];exact gO.app (hl.up e).ks q.ks) ?_ U lK;have k5:=q.len;obtain⟨rfl,rfl⟩|⟨rfl,rfl⟩:=hc
  .show ef (D (l++k)) 0=_;rw[dW,k5,List.replicate_succ']
  .show ef ((D l:Int).toNat) 7++ef (D (l++k)-(D l:Int).toNat) 0=_;rw[dW,k5,xJ,Nat.add_sub_cancel_left];rfl
 .rw[<-aI s];refine bj.put _ (cs:=ef (D l) c) (by rw[aI];exact hl.ks) ?_ U lK;obtain⟨rfl,rfl⟩|⟨rfl,rfl⟩:=hc
  .rfl
  .show ef ((D l:Int).toNat) 7++ef (D l-(D l:Int).toNat) 0=_;rw[xJ,Nat.sub_self];simp
theorem Kh(s:ak):bj (sig X E' s) s.aj (eQ 8):=bj.M (KG s λs1 e=>e▸h (.params []) s1 (fI.nil _ _)) λl s1 _ q=>Qk h 8 7 (.inr ⟨rfl,rfl⟩) _ l s1 id (λ_=>rfl) q
theorem adD(s:ak):bj (l5 X E' s) s.aj (eQ 0):=
 bj.ite (qN 1 0 _ _ _ (bs s)) (bj.ite (qN 2 0 _ _ _ (bs s)) (bj.ite ((Wc s).mono λv L q=>q.to λk U=>by unfold ct at*;simp at*;omega) (bj.ite (bj.skip (kx X _ s) λ_ s1 ag=>ag▸bj.M (De h s1) λk s2 _ q=>bj.put (s:=down s2) 0 q.ks (by rw[q.len];rfl))
  (bj.ite (bj.skip (kx X _ s) λ_ s1 ag=>ag▸bj.M (KG s1 λs2 e=>e▸h (.jX []) s2 (fI.nil _ _)) λl s2 _ q=>Qk h 6 0 (.inl ⟨rfl,rfl⟩) _ l s2 down (λ_=>rfl) q) (bj.skip (mN X s) λ_ s1 ag=>ag▸qN 3 0 _ _ _ s1)))))
theorem aaM(s:ak):bj (mQ X E' s) s.aj (eQ 16):=bj.M (PL s λs1 e=>e▸h (.stmts []) s1 (fI.nil _ _)) λl s1 _ q=>bj.put 16 (fI.ks q) rfl
theorem Ow(j':Int)(aJ:pat j' 0 1=[1])(hc:ct 2 j'=true)(lK:(j'==14)=false)(at_:Nat)(s:ak):bj (bracketed X E' j' at_ s) s.aj (eQ 2):=bj.skip (kx X _ s) λ_ s1 ag=>ag▸bj.M (q_ h 0 s1) λe s2 _ q=>bj.skip (nI X _ s2) λ_ aq bU=>bU▸bj.put 2 (by rw[bU];exact q.ks) (by rw[q.len];exact aJ) hc lK
theorem JO(s:ak):bj (kD X E' s) s.aj (eQ 16):=bj.skip (kU X _ s) λ_ s1 ag=>ag▸bj.M (h (.body []) s1 (fI.nil _ _)) λl s2 _ q=>bj.put 16 (fI.ks q) rfl
theorem abE(s:ak):bj (mz X E' s) s.aj (eQ 3):=
 bj.ite (bj.M (JO h (bs s)) λb s1 _ q=>bj.put 3 q.ks rfl)
  (bj.skip (kU X _ s) λ_ s1 ag=>ag▸bj.ite (bj.skip (L:=s1.aj) (kU X _ (ll s1)) λ_ s2 aE=>aE▸bj.M (q_ h 0 s2) λc aq _ da=>bj.M (JO h aq) λb bA cL dQ=>bj.put 3 (gO.two (da.up cL) dQ) rfl)
   (bj.ite (bj.M (L:=s1.aj) (q_ h 0 (bs s1)) λc aq _ da=>bj.M (JO h aq) λb bA cL dQ=>bj.put 3 (gO.two (da.up cL) dQ) rfl)
    (bj.M (q_ h 0 s1) λc s2 _ cw=>bj.skip (kU X _ s2) λ_ aq bU=>bU▸bj.M (q_ h 0 aq) λv bA cL dQ=>bj.M (JO h bA) λb cm gi ij=>bj.put 3 (gO.three ((eQ.up (by rw[bU];exact cw) cL).up gi) (dQ.up gi) ij) rfl)))
theorem aaN(at_:Nat)(s:ak):bj (choice X E' at_ s) s.aj (eQ 2):=bj.skip (kx X _ s) λ_ s1 ag=>ag▸bj.M (h (.cases []) s1 (fI.nil _ _)) λl s2 _ q=>bj.skip (nI X _ s2) λ_ aq bU=>bU▸bj.put 2 (fI.ks (by rw[bU];exact q)) rfl
theorem abF(s:ak):bj (ja X E' s) s.aj (eQ 2):=by
 have uT: ∀k,ct 22 k=true->ct 2 k=true:=λk U=>by unfold ct at*;simp at*;omega
 unfold ja;refine bj.ite (bj.M (L:=s.aj) (q_ h 0 (bs s)) λe s1 _ q=>bj.put 2 q.ks (by rw[q.len];rfl)) (bj.ite (Ow h 30 rfl rfl rfl _ (bs s)) (bj.ite (Ow h 31 rfl rfl rfl _ (bs s)) (bj.ite (Ow h 32 rfl rfl rfl _ (bs s)) (bj.ite ((h .branch s trivial).mono λv L q=>eQ.to q uT) (bj.ite (bj.M (L:=s.aj) (q_ h 0 (bs s)) λc s1 _ c9=>bj.M (wQ h s1) λb s2 aE cw=>bj.put 2 (gO.two (c9.up aE) cw) rfl)
  (bj.ite (bj.ite (qN 24 2 _ _ _ (bs s)) (bj.M (L:=s.aj) (q_ h 0 (bs s)) λe s1 _ q=>bj.put 2 q.ks (by rw[q.len];rfl))) (bj.ite (qN 25 2 _ _ _ (bs s)) (bj.ite (aaN h _ (bs s)) (bj.ite (bj.M (L:=s.aj) (q_ h 0 (ll s)) λe s1 _ q=>bj.put 2 q.ks (by rw[q.len];rfl)) (bj.M (q_ h 0 s) λa s1 _ q=>?_))))))))))
 exact bj.ite (bj.M (L:=s1.aj) (q_ h 0 (bs s1)) λb s2 aE cw=>bj.put 2 (gO.two (q.up aE) cw) rfl) (bj.ite (bj.M (L:=s1.aj) (q_ h 0 (bs s1)) λb s2 aE cw=>bj.put 2 (gO.two (q.up aE) cw) rfl) (bj.put 2 q.ks (by rw[q.len];rfl)))
theorem Yh(s:ak):bj (oa X E' s) s.aj (eQ 22):=
 have uT: ∀k,ct 22 k=true->ct 23 k=true:=λk U=>by unfold ct at*;simp at*;omega
 have T9: ∀k,ct 16 k=true->ct 23 k=true:=λk U=>by unfold ct at*;simp at*;omega
 bj.skip (kU X _ s) λ_ s1 ag=>ag▸bj.M (q_ h 0 s1) λc s2 _ cw=>bj.M (wQ h s2) λb aq bU da=>
  bj.ite (bj.ite (bj.skip (kx X _ aq) λ_ bA cL=>cL▸bj.M (h .branch bA trivial) λe cm gi ij=>bj.put (s:=down cm) 22 (gO.three ((eQ.up (L:=bA.aj) (by rw[cL];exact cw.up bU) gi)) (eQ.up (L:=bA.aj) (by rw[cL];exact da) gi) (eQ.to ij uT)) (by rw[(gO.three ((eQ.up (L:=bA.aj) (by rw[cL];exact cw.up bU) gi)) (eQ.up (L:=bA.aj) (by rw[cL];exact da) gi) (eQ.to ij uT)).len];rfl))
   (bj.M (L:=aq.aj) (wQ h (bs aq)) λe cm gi ij=>bj.put 22 (gO.three ((cw.up bU).up gi) (da.up gi) (ij.to T9)) (by rw[(gO.three ((cw.up bU).up gi) (da.up gi) (ij.to T9)).len];rfl))) (bj.put 22 (gO.two (cw.up bU) da) (by rw[(gO.two (cw.up bU) da).len];rfl))
theorem aaO(k a:Nat)(s:ak)(aR:eQ 1 [a] s.aj):bj (mS X E' k a s) s.aj (eQ 1):=
 bj.ite (bj.M (L:=s.aj) (q_ h _ (bs s)) λb s1 ag c9=>bj.M (bj.put (c:=1) (gO.two (aR.up ag) c9) rfl) λe s2 _ cw=>by
  obtain⟨x,rfl,cw⟩:=cw;exact h (.iy k x) s2 ⟨x,rfl,cw⟩) (bj.ok aR)
theorem adE(at_:Nat)(s:ak):bj (made X E' at_ s) s.aj (eQ 1):=
 bj.skip (kx X _ s) λ_ s1 ag=>ag▸bj.skip (kx X _ s1) λ_ s2 aE=>aE▸bj.M (De h s2) λk aq _ da=>
  bj.ite (bj.ite (bj.skip (L:=aq.aj) (nI X _ _) λ_ cm gi=>gi▸bj.put 1 (by rw[gi];exact da.ks) rfl) (bj.fail _ _ _ _ _)) (bj.skip (L:=aq.aj) (nI X _ _) λ_ cm gi=>gi▸bj.put 1 (by rw[gi];exact da.ks) rfl)
theorem aaP(s:ak):bj (kA X E' s) s.aj (eQ 1):=
 bj.ite (qN 33 1 _ _ _ (bs s)) (bj.ite (qN 34 1 _ _ _ (bs s)) (bj.ite (qN 34 1 _ _ _ (bs s)) (bj.ite (qN 35 1 _ _ _ (bs s)) (bj.ite (bj.M (L:=s.aj) (Kh h (bs s)) λg s1 _ c9=>bj.M (wQ h s1) λb s2 aE cw=>bj.put 1 (gO.two (c9.up aE) cw) rfl)
  (bj.ite (bj.skip (L:=s.aj) (kx X _ (bs s)) λ_ s1 ag=>ag▸bj.skip (mN X s1) λ_ s2 aE=>aE▸bj.skip (nI X _ s2) λ_ aq bU=>bU▸qN 41 1 _ _ _ aq) (bj.ite (adE h _ (bs s))
   (bj.ite (bj.skip (kx X _ s) λ_ s1 ag=>ag▸bj.M (q_ h 0 s1) λe s2 _ cw=>bj.skip (nI X _ s2) λ_ aq bU=>bU▸bj.ok (by rw[bU];exact cw)) (bj.skip (mN X s) λ_ s1 ag=>ag▸qN 36 1 _ _ _ s1))))))))
theorem OF(x:List UInt8)(j':Int)(aJ:pat j' 0 1=[1])(hc:ct 1 j'=true)(lK:(j'==14)=false)(s:ak):bj (ky X E' x j' s) s.aj (eQ 1):=bj.skip (kx X _ s) λ_ s1 ag=>ag▸bj.M (h .unary s1 trivial) λe s2 _ q=>bj.put (s:=down s2) 1 (eQ.ks q) (by rw[eQ.len q];exact aJ) hc lK
theorem aaQ(s:ak):bj (jV X E' s) s.aj (eQ 1):=bj.ite (OF h _ 43 rfl rfl rfl s) (bj.ite (OF h _ 44 rfl rfl rfl s) (bj.ite (OF h _ 45 rfl rfl rfl s) (bj.M (aaP h s) λe s1 _ q=>by
 obtain⟨a,rfl,q⟩:=q;exact h (.part a) s1 ⟨a,rfl,q⟩)))
theorem abG(e:Nat)(s:ak)(he:eQ 1 [e] s.aj):bj (oU X E' e s) s.aj (eQ 1):=
 bj.ite (bj.M (KG s λs1 ag=>ag▸h (.exprs []) s1 (fI.nil _ _)) λl s1 ag c9=>bj.M (bj.put (c:=1) (cs:=1::ef (D l) 1) (gO.app (he.up ag).ks (fI.ks c9)) (by show ef (max (D l+1) 1) 1=_;rw[Nat.max_eq_left J];rfl)) λaE s2 _ cw=>by
   obtain⟨x,rfl,cw⟩:=cw;exact h (.part x) s2 ⟨x,rfl,cw⟩)
  (bj.ite (bj.ite (bj.skip (L:=s.aj) (kx X _ (bs s)) λ_ s1 ag=>ag▸bj.M (De h s1) λt s2 aE cw=>bj.skip (nI X _ s2) λ_ aq bU=>bU▸bj.M (bj.put (c:=1) (gO.two (a:=[e]) (by rw[bU];exact(eQ.up (L:=s1.aj) (by rw[ag];exact he) aE)) (by rw[bU];exact cw)) rfl) λaE bA _ dQ=>by
    obtain⟨x,rfl,dQ⟩:=dQ;exact h (.part x) bA ⟨x,rfl,dQ⟩)
   (bj.skip (L:=s.aj) (mN X (bs s)) λ_ s1 ag=>ag▸bj.M (bj.put (c:=1) (eQ.ks (v:=[e]) (by rw[ag];exact he)) rfl) λaE s2 _ cw=>by
    obtain⟨x,rfl,cw⟩:=cw;exact h (.part x) s2 ⟨x,rfl,cw⟩)) (bj.ok he))
theorem adF(s:ak):bj (jY X E' s) s.aj (eQ 11):=bj.skip (mN X s) λ_ s1 ag=>ag▸bj.M (Kh h s1) λg s2 _ q=>bj.put 11 q.ks rfl
theorem abH(at_:Nat)(s:ak):bj (typed X E' at_ s) s.aj (eQ 24):=
 bj.skip (mN X s) λ_ s1 ag=>ag▸bj.ite (bj.M (L:=s1.aj) (PL (bs s1) λs2 e=>e▸h (.fields []) s2 (fI.nil _ _)) λl s2 _ q=>bj.put 24 (fI.ks q) rfl) (bj.skip (kU X _ s1) λ_ s2 aE=>aE▸bj.M (PL s2 λaq e=>e▸h (.j_ []) aq (fI.nil _ _)) λl aq _ q=>bj.put 24 (fI.ks q) rfl)
theorem aaR(at_:Nat)(s:ak):bj (method X E' at_ s) s.aj (eQ 24):=
 bj.skip (kx X _ s) λ_ s1 ag=>ag▸bj.skip (mN X s1) λ_ s2 aE=>aE▸bj.M (Wc s2) λp aq bU da=>bj.skip (nI X _ aq) λ_ bA cL=>cL▸by
  obtain⟨x,rfl,yr,pe⟩:=da;have aF:eQ 0 [x] bA.aj:=by rw[cL];exact⟨x,rfl,yr,by unfold ct at*;simp at*;omega⟩
  intro w v s' he;have LH:=bj.put (n:=⟨7,(aM X s1).an,0,(aM X s1).O,[x]⟩) (s:=bA) 7 aF.ks rfl;cases aJ:B.put ⟨7,(aM X s1).an,0,(aM X s1).O,[x]⟩ bA with
  |o=>rw[aJ] at he;cases he
  |bL c p=>rw[aJ] at he;cases he
  |ok v5 cm=>
   obtain⟨a5,cf,ij⟩:=LH w v5 cm aJ;have dH:cm.aj=bA.aj++[⟨7,(aM X s1).an,0,(aM X s1).O,[x]⟩]/\v5=[D bA.aj]:=by
    unfold B.put at aJ;split at aJ
    .cases aJ;exact⟨rfl,rfl⟩
    .cases aJ
   obtain⟨dH,rfl⟩:=dH;rw[aJ,jt] at he;have ae':bj ((name X cm).M λ_ ha=>(sig X E' ha).M λg mj=>(E' .block mj).M λb ik=>B.put ⟨14,at_,0,(aM X cm).O,[D bA.aj]++g++b⟩ ik) cm.aj (eQ 24):=bj.skip (mN X cm) λ_ ha tM=>tM▸bj.M (Kh h ha) λg mj lY na=>bj.M (wQ h mj) λb ik CP xY=>by
    have xM:=lY.trans CP;rw[tM,dH] at xM;have akb:eQ 7 [D bA.aj] ik.aj:=eQ.up (L:=ha.aj) (by rw[tM];exact ij) (lY.trans CP);refine bj.Su 24 ⟨gO.three akb (na.up CP) xY,λ_=>?_⟩ rfl;obtain⟨ar,bZ⟩:=xM;have aB:Y ik.aj (D bA.aj) eD=⟨7,(aM X s1).an,0,(aM X s1).O,[x]⟩:=(by rw[bZ,A2 bT,C3]);have Bl:((Y ik.aj (Y ([D bA.aj]++g++b) 0 0) eD).I.getD 0 0)=x:=by
     show((Y ik.aj (D bA.aj) eD).I.getD 0 0)=x;rw[aB];rfl
    have ajA:x<D bA.aj:=(by rw[cL];exact yr);show dd ik.aj ((Y ik.aj (Y ([D bA.aj]++g++b) 0 0) eD).I.getD 0 0)=4/\((Y ik.aj (Y ([D bA.aj]++g++b) 0 0) eD).I.getD 0 0)<D ik.aj;rw[Bl];refine⟨?_,by rw[bZ,dW,dW];omega⟩;show dd ik.aj x=4;rw[bZ,Gt (by rw[dW];omega),Gt ajA,cL];unfold ct at pe;simpa using pe
   obtain⟨rf,fi,fg⟩:=ae' cf v s' he;exact⟨a5.trans rf,fi,fg⟩
theorem ab0(s:ak):bj (j9 X E' s) s.aj (eQ 24):=
 bj.ite (abH h _ (bs s)) (bj.skip (kU X _ s) λ_ s1 ag=>ag▸bj.ite (aaR h _ s1) (bj.skip (mN X s1) λ_ s2 aE=>aE▸bj.M (Kh h s2) λg aq _ da=>bj.M (wQ h aq) λb bA cL dQ=>bj.put 24 (gO.two (da.up cL) dQ) rfl))
theorem acx(f:Fn)(s:ak)(aJ:LG f s.aj):bj (kE X E' f s) s.aj (Li f):=by
 cases f with
 |typ=>exact adD h s
 |block=>exact aaM h s
 |stmt=>exact abF h s
 |branch=>exact Yh h s
 |b6 k=>
  refine bj.M (h .unary s trivial) λe s1 _ q=>?_;obtain⟨a,rfl,cw⟩:=(show eQ 1 e s1.aj from q);exact h (.iy k a) s1 ⟨a,rfl,cw⟩
 |iy k a=>exact aaO h k a s aJ
 |unary=>exact aaQ h s
 |part e=>exact abG h e s aJ
 |jX d'=>exact PM (λs=>De h s) (λa s aR=>h (.jX a) s aR) d' s aJ
 |params d'=>exact PM (λs=>Qt h 7 7 rfl rfl rfl s) (λa s aR=>h (.params a) s aR) d' s aJ
 |exprs d'=>exact PM (λs=>q_ h 0 s) (λa s aR=>h (.exprs a) s aR) d' s aJ
 |stmts d'=>exact Pd (λs=>h .stmt s trivial) (λa s aR=>h (.stmts a) s aR) d' s aJ
 |body d'=>exact bj.ite (bj.ok aJ) (bj.M (h .stmt s trivial) λk s1 ag c9=>bj.ite (bj.ok ((fI.up aJ ag).app (eQ.kg c9))) (bj.skip (kU X _ s1) λ_ s2 aE=>aE▸h (.body _) s2 (by rw[aE];exact(fI.up aJ ag).app (eQ.kg c9))))
 |cases d'=>exact bj.ite (bj.ok aJ) (bj.M (abE h s) λk s1 ag c9=>h (.cases _) s1 ((fI.up aJ ag).app (eQ.kg c9)))
 |fields d'=>exact Pd (λs=>Qt h 9 9 rfl rfl rfl s) (λa s aR=>h (.fields a) s aR) d' s aJ
 |j_ d'=>exact Pd (λs=>adF h s) (λa s aR=>h (.j_ a) s aR) d' s aJ
 |decls d'=>exact bj.ite (bj.M (ab0 h s) λk s1 ag c9=>bj.ite (bj.skip (kU X _ s1) λ_ s2 aE=>aE▸h (.decls _) s2 (by rw[aE];exact(fI.up aJ ag).app (eQ.kg c9))) (h (.decls _) s1 ((fI.up aJ ag).app (eQ.kg c9)))) (bj.ok aJ)
end
def aev{X}(n:Nat): ∀f s,LG f s.aj->bj (run X n f s) s.aj (Li f):=by
 induction n with
 |zero=>intro f s _ _ v s' h;cases h
 |succ n cB=>exact λf s aJ=>acx cB f s aJ
def Yi{X n v s}(h:program X n= .ok v s):xD s.aj/\dd s.aj (D s.aj- 1)=15/\s.aj≠[]:=by
 unfold program at h;cases au:run X n (.decls []) start with
 |o=>rw[au] at h;cases h
 |bL c p=>rw[au] at h;cases h
 |ok l s1=>
  rw[au,jt] at h;obtain⟨_,w1,c9⟩:=aev n (.decls []) start (fI.nil _ _) (λn ax=>by cases ax) l s1 au;have LH:=bj.put (n:=⟨15,(aM X start).an,0,[],l⟩) (s:=s1) 15 (fI.ks c9) rfl;obtain⟨_,w2,_⟩:=LH w1 v s h;refine⟨w2,?_⟩;unfold B.put at h;split at h
  .cases h;refine⟨?_,by simp⟩;show dd (s1.aj++[_]) (D (s1.aj++[_])- 1)=15;rw[dW,y7,Nat.add_sub_cancel,R6]
  .cases h
end B
namespace Ck
open B (aP eD O hE Nm)
structure rR (L:List aP):Prop where
 wf:B.h1 L
 ws:xD L
 eG: ∀n∈L,xb n.j'=true->Nm n.O
 op: ∀n∈L,n.j'=46-> ∃r∈mw,n.O∈r
 gx: ∀k,D (O L k)<=100000000000
def eB (t:bz):Prop:=D t<=200000000000/\H7 t
def eB.nil:eB []:=⟨by decide,.inl rfl⟩
def GF{t}(h:(∃c r,t=c::r/\aa.letter c=true):=by exact⟨_,_,rfl,rfl⟩)(k:t.all hr=true:=by rfl):Nm t:=⟨h,λc hc=>List.all_eq_true.1 k c hc⟩
def eB.int:eB g':=⟨by decide,.inr (.eG GF)⟩
def eB.bool:eB e6:=⟨by decide,.inr (.eG GF)⟩
def eB.iK:eB iK:=⟨by decide,.inr (.eG GF)⟩
section
variable{L:List aP}(K:rR L)
include K
omit K in
theorem Lw{dd}(h:ct 0 dd=true):1<=dd/\dd<=8:=by unfold ct at h;simp at h;omega
omit K in
theorem af_{dd}(h:ct 7 dd=true):1<=dd/\dd<=8:=by unfold ct at h;simp at h;omega
omit K in
theorem Tc{dd}(h:ct 8 dd=true):1<=dd/\dd<=8:=by unfold ct at h;simp at h;omega
theorem rR.bM{k x}(aF:L[k]?=some x){i}(ay:i<D x.I):Y x.I i 0<k/\ct (Y (B.pat x.j' x.aX (D x.I)) i 0) (Z L (Y x.I i 0)).j'=true:=
 ⟨(K.wf k x aF).lt _ (by rw[cd,cE ay];exact im ay),((K.ws x (hX aF)).1.at i ay).2⟩
theorem rR.ty: ∀(k:Nat),k<D L->(1<=(Z L k).j'/\(Z L k).j'<=8)->jA (O L k):=by
 intro k
 induction k using Nat.strongRecOn with
 |ind k cB=>
 intro U hc;obtain⟨x,aF⟩: ∃x,L[k]?=some x:=⟨_,cE U⟩;have hm:=hX aF;have ax:Y L k eD=x:=mO aF;have ajg:Z L k=x:=ax;have DA:=λi ay=>K.bM aF (i:=i) ay;have bX:=K.wf k x aF;have c6:=(K.ws x hm).1.len;rw[zd K.wf,ax];rw[ajg] at hc;have aH: ∀c,(∀dd:Int,ct c dd=true->1<=dd/\dd<=8)-> ∀i,i<D x.I->Y (B.pat x.j' x.aX (D x.I)) i 0=c->jA (O L (Y x.I i 0)):=λc qR i ay e=>by
  obtain⟨R,T⟩:=DA i ay;rw[e] at T;exact cB _ R J (qR _ T)
 have bO: ∀dd:Int,ct 0 dd=true->1<=dd/\dd<=8:=λdd h=>Lw h;have rj: ∀dd:Int,ct 7 dd=true->1<=dd/\dd<=8:=λdd h=>af_ h;have je: ∀j∈x.I.take x.aX.toNat,∃i,i<D x.I/\i<x.aX.toNat/\j=Y x.I i 0:=λj bg=>by
  obtain⟨i,ay,rfl⟩:=List.mem_iff_getElem.1 bg;rw[mr] at ay;exact⟨i,by omega,by omega,by rw[List.getElem_take,cd,cE J];rfl⟩
 split
 .exact .eG GF
 split
 .exact .eG GF
 split
 .rename_i e;exact .eG (K.eG x hm (by rw[e];rfl))
 split
 .rename_i e;exact .ptr (K.eG x hm (by rw[e];rfl))
 split
 .rename_i e;exact .chan (aH 0 bO 0 (by rw[c6,e];show 0<1;decide) (by rw[e];rfl))
 split
 .rename_i e;exact aH 0 bO 0 (by rw[c6,e];show 0<1;decide) (by rw[e];rfl)
 rename_i dq cR n3 n4 wE F8;have H8:x.j'=6\/x.j'=8:=J;rw[aS H8];obtain⟨m,oA,o3⟩:=bX.aX H8;have hl: ∀t∈(x.I.take x.aX.toNat).map λj=>O L j,jA t:=λt bI=>by
  obtain⟨j,bg,rfl⟩:=List.mem_map.1 bI;obtain⟨i,ay,BW,rfl⟩:=je j bg;obtain e|e:=H8
  .exact aH 0 bO i ay (by rw[e];show(ef (D x.I) 0).getD i 0=0;rw[cd,ku];split<;>rfl)
  .exact aH 7 rj i ay (by
    rw[e];show(ef x.aX.toNat 7++ef (D x.I-x.aX.toNat) 0).getD i 0=7;rw[cd,qz (by rw[wg];exact BW),ku,aS BW];rfl)
 generalize aB:((x.I.take x.aX.toNat).map λj=>O L j)=l at*;by_cases au:x.aX.toNat<D x.I
 .rw[aS au];have SO:jA (O L (Y x.I x.aX.toNat 0)):=by
   refine aH 0 bO _ au ?_;obtain e|e:=H8
   .rw[e];show(ef (D x.I) 0).getD _ 0=0;rw[cd,ku];split<;>rfl
   .rw[e];show(ef x.aX.toNat 7++ef (D x.I-x.aX.toNat) 0).getD x.aX.toNat 0=0;rw[cd,rU (by rw[wg];exact bD _),ku];split<;>rfl
  have:=jA.Df hl SO;unfold mx p' at this;rw[ao SO.ne] at this;exact(oH _ _ _).symm▸this
 .rw[ao au];have:=jA.func hl;unfold mx p' at this;rw[aS rfl] at this;exact(oH _ _ _).symm▸this
theorem rR.gG{k}(U:k<D L)(hc:1<=(Z L k).j'/\(Z L k).j'<=8):eB (O L k):=⟨by have:=K.gx k;omega,.inr (K.ty k U hc)⟩
omit K
theorem H7.fq{t u}(h:H7 t)(hu:Ck.fq t=some u):jA u:=by
 unfold Ck.fq at hu;split at hu
 .rename_i G;cases hu;obtain rfl|h:=h
  .cases G
  .exact h.adx G
 .cases hu
theorem eB.fq{t u}(h:eB t)(hu:Ck.fq t=some u):eB u:=by
 refine⟨?_,.inr (h.2.fq hu)⟩;unfold Ck.fq at hu;split at hu
 .cases hu;have:=h.1;rw[qA];omega
 .cases hu
theorem eB.aeX{t}(h:eB t):eB ((Ck.fq t).getD []):=by
 cases hu:Ck.fq t with
 |none=>exact eB.nil
 |some u=>exact h.fq hu
theorem eB.mk{t}(h:jA t)(hl:D t<=100000000000):eB (i_++t):=⟨by rw[dW];have:D i_=5:=rfl;omega,.inr (.chan h)⟩
include K
theorem rR.field{name x t}(h:field L name x=some t):eB t:=by
 unfold Ck.field at h;split at h
 .cases h
 rename_i bB;obtain⟨i,y,ay,bx,U,_⟩: ∃k x,c7 L 10 name=((k:Nat):Int)/\L[k]?=some x/\x.j'=10/\x.O=name:=by
  unfold c7 at bB|-;cases he:L.findIdx? (λn=>n.j'==10&&n.O==name) with
  |none=>rw[he] at bB;exact absurd aN bB
  |some k=>
   obtain⟨U,aJ,_⟩:=List.findIdx?_eq_some_iff_getElem.1 he;simp only[pv,beq_iff_eq] at aJ;exact⟨k,L[k],rfl,cE U,aJ.1,aJ.2⟩
 rw[ay,show Z L ((i:Int).toNat)=y from mO bx] at h;obtain⟨f,aI,rfl⟩:=Option.map_eq_some_iff.1 h;obtain⟨j,bg,rfl⟩:=List.mem_iff_getElem.1 (List.mem_of_find?_eq_some aI);obtain⟨R,T⟩:=K.bM bx bg;have h0:=(List.getElem?_eq_some_iff.1 bx).1;rw[U,show B.pat 10 y.aX (D y.I)=ef (D y.I) 9 from rfl,cd (l:=ef _ _),ku,aS bg,cd,cE bg] at T;rw[cd,cE bg] at R;change y.I[j]<i at R;change ct 9 (Z L y.I[j]).j'=true at T;generalize y.I[j]=f at*;have jQ:f<D L:=J;obtain⟨bp,hz⟩: ∃x,L[f]?=some x:=⟨_,cE jQ⟩;have uu:Z L f=bp:=mO hz;rw[uu] at T;have gW:bp.j'=9:=by simpa[ct] using T
 have gq:=(K.ws bp (hX hz)).1.len;rw[gW] at gq;obtain⟨g1,g2⟩:=K.bM hz (i:=0) (by rw[gq];show 0<1;decide);rw[gW] at g2;unfold Ck.bM;rw[uu];exact K.gG J (Lw g2)
theorem rR.aga{of m}(h:m∈gv L of): ∃a t,m=a++32::t/\Nm a/\eB t:=by
 unfold gv at h;obtain⟨n,ax,hm⟩:=List.mem_flatMap.1 h;obtain⟨k,U,rfl⟩:=List.mem_iff_getElem.1 ax;have aF:L[k]?=some L[k]:=cE U;have c6:=(K.ws _ ax).1.len;unfold my at hm;generalize L[k]=x at*;split at hm
 .rename_i e;split at hm
  .obtain rfl:=List.mem_singleton.1 hm;obtain⟨g1,g2⟩:=K.bM aF (i:=1) (by rw[c6,e];show 1<3;decide);rw[e] at g2;exact⟨_,_,rfl,K.eG x ax (by rw[e];rfl),K.gG J (Tc g2)⟩
  .cases hm
 split at hm
 .rename_i _ e;obtain⟨j,bg,rfl⟩:=List.mem_map.1 hm;obtain⟨i,ay,rfl⟩:=List.mem_iff_getElem.1 bg;obtain⟨R,T⟩:=K.bM aF ay;rw[e.1,show B.pat 12 x.aX (D x.I)=ef (D x.I) 11 from rfl,cd (l:=ef _ _),ku,aS ay,cd,cE ay] at T;rw[cd,cE ay] at R;change x.I[i]<k at R;change ct 11 (Z L x.I[i]).j'=true at T;generalize x.I[i]=f at*;have jQ:f<D L:=J;obtain⟨bp,hz⟩: ∃x,L[f]?=some x:=⟨_,cE jQ⟩;have uu:Z L f=bp:=mO hz;have agb:Y L f eD=bp:=uu;rw[uu] at T;have El:bp.j'=11:=by simpa[ct] using T
  have gq:=(K.ws bp (hX hz)).1.len;rw[El] at gq;obtain⟨g1,g2⟩:=K.bM hz (i:=0) (by rw[gq];show 0<1;decide);rw[El] at g2;unfold qd;rw[agb];exact⟨_,_,rfl,K.eG bp (hX hz) (by rw[El];rfl),K.gG J (Tc g2)⟩
 .cases hm
omit K in
theorem ady{a b:bz}{t u}(aR: ∀c∈a,c≠32)(G: ∀c∈b,c≠32)(h:a++32::t=b++32::u):a=b/\t=u:=by
 induction a generalizing b with
 |nil=>
  cases b with
  |nil=>exact⟨rfl,(ye h).2⟩
  |cons c r=>exact absurd (ye h).1.symm (G c (hY ..))
 |cons c r cB=>
  cases b with
  |nil=>exact absurd (ye h).1 (aR c (hY ..))
  |cons d q=>
   obtain⟨R,T⟩:=ye h;obtain⟨ah,bJ⟩:=cB (b:=q) (λc hc=>aR c (hP _ hc)) (λc hc=>G c (hP _ hc)) T;exact⟨by rw[R,ah],bJ⟩
theorem rR.method{of x t}(aF:Nm x)(h:method L of x=some t):eB t:=by
 unfold Ck.method at h;obtain⟨m,hm,rfl⟩:=Option.map_eq_some_iff.1 h;have G:=List.find?_some hm;obtain⟨a,u,rfl,aR,hu⟩:=K.aga (RZ.1 (List.mem_of_find?_eq_some hm));obtain⟨r,au⟩:=J8 G;rw[oH] at au;obtain⟨rfl,T⟩:=ady (λc hc=>(A1 (aR.2 c hc)).2.2.2.1) (λc hc=>(A1 (aF.2 c hc)).2.2.2.1) au;have:(a++32::u).drop (D a+1)=u:=by rw[<-zK];simp
 rw[this];exact hu
end
end Ck
structure Pf (L:List aP):Prop where
 wf:B.h1 L
 lH: ∀k,D (B.O L k)<=100000000000
 Z: ∀n∈L,D n.O<=100000000000/\D n.I<=1000000
 eG: ∀n∈L,xb n.j'=true->B.Nm n.O
 op: ∀n∈L,n.j'=46-> ∃r∈mw,n.O∈r
 len:D L<=1200
def akH{S l}(h:j8 S= .ok l):Pf l:=by
 unfold j8 at h;cases hs:aa.scan (aC S) with
 |error x=>rw[hs] at h;cases h
 |ok t=>
  rw[hs] at h;dsimp only at h;cases aJ:B.parse ⟨t,S.size⟩ B.fuel with
  |o=>rw[aJ] at h;cases h
  |bL c p=>rw[aJ] at h;cases h
  |ok v s=>
   rw[aJ] at h;cases h;unfold B.parse at aJ;cases a_:B.program ⟨t,S.size⟩ B.fuel with
   |o=>rw[a_] at aJ;cases aJ
   |bL c p=>rw[a_] at aJ;cases aJ
   |ok v1 s1=>
    rw[a_,B.jt] at aJ;by_cases hl:1200<D s1.aj
    .rw[aS hl] at aJ;cases aJ
    rw[ao hl] at aJ;cases aJ;have bI:=adC (X:=⟨t,S.size⟩) (B.Gq hs);obtain⟨R,T⟩:=XR (E:=6008) J (λs=>by have:=(bI s).1;omega) a_;have ah:=Yg bI a_;refine⟨R,λk=>?_,λn ax=>⟨by have:=(ah n ax).1;omega,hg (ah n ax).2.1 aN⟩,λn ax=>(ah n ax).2.2.1,λn ax=>(ah n ax).2.2.2,by omega⟩;by_cases U:k<D s.aj
    .have bJ:=T k U;have dH:6008*(k+1)<=6008*1200:=Nat.mul_le_mul_left _ J;omega
    .rw[zd R,B.getD_none J];exact gp _
def Pf.nil:Pf []:=⟨B.h1.nil,λk=>by rw[zd B.h1.nil,B.getD_none (gp _)];exact gp _,(λn h=>by cases h),(λn h=>by cases h),(λn h=>by cases h),gp _⟩
def codeOf(S:ByteArray):Int×Nat:=match j8 S with
 | .ok _=>(0,0)
 | .error x=>x
def akI (S:ByteArray):List aP:=match j8 S with
 | .ok l=>l
 | .error _=>[]
def alg (S:ByteArray)(w:ai)(e:e7)(w':ai):Prop:=
 aL w w w'/\ ∃v E,e= .returned (.tuple #[v,.agg #[.int .i64 (codeOf S).1,.int .i64 ((codeOf S).2:Int)]])/\iJ w.heap.size w' v E/\akI S=E.map (·.1)
def adK (L:List aP)(k:Nat):List UInt8:=if(Y L k eD).j'<=8/\(Y L k eD).j'≠7 then B.O L k else[]
def alr (L:List aP):List (List UInt8):=(List.range (D L)).map (adK L)
namespace B
def gC (r:aV):Prop:= ∀c p,r= .bL c p->c≠0
def gC.M{r}{f:List Nat->ak->aV}(h:gC r)(aI: ∀v s,gC (f v s)):gC (r.M f):=by
 intro c p he;cases r with
 |o=>cases he
 |bL cK tX=>cases he;exact h _ _ rfl
 |ok v1 s1=>exact aI v1 s1 c p he
def gC.ite{c} [Decidable c]{a b}(R:gC a)(T:gC b):gC (if c then a else b):=by
 split
 .exact R
 .exact T
def gC.put(Z:aP)(s):gC (put Z s):=by intro c p h;unfold B.put at h;split at h<;>cases h
def gC.fail(X:Src)(c:Int)(s)(h:c≠0:=by decide):gC (fail X c s):=λc p e=>by cases e;exact h
def gC.ok(v:List Nat)(s):gC (.ok v s):=λc p h=>by cases h
def gC.take(X:Src)(x:List UInt8)(s):gC (take X x s):=gC.ite (gC.ok _ _) (gC.fail _ _ _)
def gC.name(X:Src)(s):gC (name X s):=gC.ite (gC.ok _ _) (gC.fail _ _ _)
def gC.enter(X:Src)(x:List UInt8)(s):gC (enter X x s):=gC.ite (gC.fail _ _ _) (gC.M (gC.take X x s) λ_ _=>gC.ok _ _)
def gC.dU(X:Src)(x:List UInt8)(s):gC (dU X x s):=gC.M (gC.take X x s) λ_ _=>gC.ok _ _
section
variable{X:Src}{E':Rec}(h: ∀f s,gC (E' f s))
include h
theorem acD(f:Fn)(s):gC (kE X E' f s):=by
 cases f<;>(
  (try dsimp only[pointer,named,result,sig,l5,mQ,bracketed,kD,mz,choice,ja,oa,mS,made,kA,ky,jV,oU,jY,typed,method,j9,list,items,l3,kh,fL,kE,id])
  with_reducible repeat' first
   |exact gC.fail _ _ _
   |exact gC.put _ _
   |exact gC.ok _ _
   |exact gC.take _ _ _
   |exact gC.name _ _
   |exact gC.enter _ _ _
   |exact gC.dU _ _ _
   |exact h _ _
   |refine gC.ite ?_ ?_
   |refine gC.M ?_ λ_ _=>?_)
end
def aek(X:Src)(n:Nat): ∀f s,gC (run X n f s):=by
 induction n with
 |zero=>intro f s c p h;cases h
 |succ n cB=>exact λf s=>acD cB f s
def acE(X:Src)(n):gC (parse X n):=gC.M (gC.M (aek X n _ _) λ_ _=>gC.put _ _) λ_ _=>gC.ite (λc p e=>by cases e;decide) (gC.ok _ _)
end B
namespace Ck
def Gc(d':List aa.Tok)(line:Bool)(i):D (aa.close d' line i)<=D d'+1:=by
 unfold aa.close
 repeat' split
 all_goals simp
def go_few(s:List UInt8)(k:Nat): ∀(i:Nat) (line:Bool) (d' l:List aa.Tok),D s-i<=k->aa.go s i line d'= .ok l->D l<=D d'+2*(D s-i)+1:=by
 induction k with
 |zero=>
  intro i line d' l U aB;rw[aa.go_end J] at aB;cases aB;have:=Gc d' line i;omega
 |succ k cB=>
  intro i line d' l U aB;have hc:=Gc d' line i;by_cases ay:i<D s
  .by_cases kr:Y s i 0=10
   .rw[aa.go_feed ay kr] at aB;have:=cB _ _ _ _ J aB;omega
   .cases hs:kY s i with
    |bL cK j=>rw[aa.go_bad ay kr hs] at aB;cases aB
    |skip r3=>
     rw[aa.go,aS ay,ao kr,hs] at aB;have:=cB _ _ _ _ J aB;omega
    |tok t r3=>
     rw[aa.go,aS ay,ao kr,hs] at aB;have:=cB _ _ _ _ J aB;rw[dW,y7] at this;omega
  .rw[aa.go_end ay] at aB;cases aB;omega
def acF{s l}(h:aa.scan s= .ok l):D l<=12001:=by have hs:=OV h;unfold aa.scan at h;rw[ao J] at h;have:=go_few s (D s) 0 false [] l J h;rw[u1] at this;omega
structure a8 (L:List B.aP):Prop where
 jn:rR L
 fA: ∀n∈L,D n.O<=100000000000/\D n.I<=1000000
 len:D L<=1200
 an:0<D L
 last:(Z L (D L- 1)).j'=15
def O7{S l}(h:j8 S= .ok l):a8 l:=by
 have aB:=akH h;have aH:=h;unfold j8 at h;cases hs:aa.scan (aC S) with
 |error x=>rw[hs] at h;cases h
 |ok t=>
  rw[hs] at h;dsimp only at h;cases aJ:B.parse ⟨t,S.size⟩ B.fuel with
  |o=>rw[aJ] at h;cases h
  |bL c p=>rw[aJ] at h;cases h
  |ok v s=>
   rw[aJ] at h;cases h;unfold B.parse at aJ;cases a_:B.program ⟨t,S.size⟩ B.fuel with
   |o=>rw[a_] at aJ;cases aJ
   |bL c p=>rw[a_] at aJ;cases aJ
   |ok v1 s1=>
    rw[a_,B.jt] at aJ;by_cases hl:1200<D s1.aj
    .rw[aS hl] at aJ;cases aJ
    rw[ao hl] at aJ;cases aJ;obtain⟨R,T,ah⟩:=B.Yi a_;exact⟨⟨aB.wf,R,aB.eG,aB.op,aB.lH⟩,aB.Z,aB.len,List.length_pos_iff.2 ah,T⟩
def OJ{S c p}(h:j8 S= .error (c,p)):c≠0:=by
 unfold j8 at h;cases hs:aa.scan (aC S) with
 |error x=>rw[hs] at h;cases h;exact Pe hs
 |ok t=>
  rw[hs] at h;dsimp only at h;cases aJ:B.parse ⟨t,S.size⟩ B.fuel with
  |o=>exact absurd aJ (B.acj (X:=⟨t,S.size⟩) (acF hs))
  |bL cK tX=>rw[aJ] at h;cases h;exact B.acE _ _ _ _ aJ
  |ok v s=>rw[aJ] at h;cases h
def zl:bz:=[109,97,105,110]
def lZ (S:ByteArray):Except (Int×Int) (List bz×List Int):=match j8 S with
 | .error x=> .error (x.1,x.2)
 | .ok L=>match prog L with
  | .bL c k=> .error (c,(Z L k).an)
  | .ok _ s=>if c7 L 13 zl<0 then .error (10,0) else .ok (s.types,s.eJ)
end Ck
namespace Ck
open B (aP eD O)
def cq (r:df):Prop:= ∀c k,r= .bL c k->c≠0
def cq.ok(t:bz)(s):cq (.ok t s):=λc k e=>nomatch e
def cq.bL(c:Int)(k)(h:c≠0:=by decide):cq (.bL c k):=λc k e=>by cases e;exact h
def cq.M{r}{f:bz->b5->df}(h:cq r)(aI: ∀t s,cq (f t s)):cq (r.M f):=by
 intro c k e;cases r with
 |bL cK k2=>cases e;exact h _ _ rfl
 |ok t s=>exact aI t s c k e
def cq.ite{c} [Decidable c]{a b}(R:c->cq a)(T: ¬c->cq b):cq (if c then a else b):=by
 split
 .rename_i h;exact R h
 .rename_i h;exact T h
def cq.bl(b:Bool)(c:Int)(k:Nat)(t:bz)(s)(h:c≠0:=by decide):cq (bl b c k t s):=cq.ite (λ_=>cq.ok _ _) λ_=>cq.bL _ _ h
def cq.each{f:Nat->b5->df}: ∀(l:List Nat),(∀a∈l,∀s,cq (f a s))-> ∀s,cq (each f l s)
 |[],_,s=>cq.ok _ _
 |a::l,h,s=>cq.M (h a (hY ..) s) λ_ s1=>cq.each l (λb G=>h b (hP _ G)) s1
section
variable{L:List aP}
def cq.declare(k:Nat)(s):cq (declare L k s):=cq.ite (λ_=>cq.bL _ _) λ_=>cq.ok _ _
def cq.named(k:Nat)(s):cq (named L k s):=by
 unfold Ck.named;split
 .exact cq.ok _ _
 .exact cq.ite (λ_=>cq.bL _ _) λ_=>cq.ok _ _
def cq.after(k:Nat)(l:List bz)(s):cq (after L k l s):=by
 unfold Ck.after Ck.dot Ck.call Ck.binary
 repeat' first
  |exact cq.bl _ _ _ _ _
  |exact cq.bL _ _
  |exact cq.ok _ _
  |refine cq.ite (λ_=>?_) λ_=>?_
  |split
def cq.args{E' b}{K:List bz->b5->df}(ab: ∀l s,cq (K l s)): ∀(l:List Nat),(∀a∈l,∀s,cq (E' .typ a s)/\cq (E' .b6 a s))-> ∀(i:Nat) (d':List bz) (s:b5),cq (args L E' b K l i d' s)
 |[],_,_,d',s=>ab d' s
 |a::l,h,i,d',s=>cq.ite (λ_=>cq.M (h a (hY ..) s).1 λ_ s1=>cq.args ab l (λb G=>h b (hP _ G)) _ _ _) λ_=>cq.M (h a (hY ..) s).2 λ_ s1=>cq.args ab l (λb G=>h b (hP _ G)) _ _ _
def cq.function{E' ps g b}(h: ∀a∈ps++[g],∀s,cq (E' .typ a s))(G: ∀s,cq (E' .block b s))(s):cq (function L E' ps g b s):=
 cq.M (cq.each _ h _) λ_ s1=>cq.M (G _) λ_ s2=>cq.ok _ _
section
variable(K:rR L){k:Nat}(U:k<D L)
include K U
theorem xW{i}(ay:i<(Z L k).I.length):bM L k i<k/\ct (Y (B.pat (Z L k).j' (Z L k).aX (Z L k).I.length) i 0) (Z L (bM L k i)).j'=true:=by
 have aF:L[k]?=some (Z L k):=by unfold Z;rw[cd,cE U];rfl
 exact K.bM aF ay
theorem Pl:(Z L k).I.length=D (B.pat (Z L k).j' (Z L k).aX (Z L k).I.length):=(K.ws _ (by unfold Z;rw[cd,cE U];exact im U)).1.len
theorem Kn{a}(aR:a∈(Z L k).I):a<k/\ ∃i,i<(Z L k).I.length/\a=bM L k i:=by
 obtain⟨i,ay,rfl⟩:=List.mem_iff_getElem.1 aR;have e:(Z L k).I[i]=bM L k i:=by unfold bM;rw[cd,cE ay];rfl
 exact⟨by rw[e];exact(xW K U ay).1,i,ay,e⟩
theorem afk(E':y2)(cP: ∀j,j<k-> ∀c s,(c= .one->ct 3 (Z L j).j'=true)->cq (E' c j s))(c:KL)(s)(hc:c= .one->ct 3 (Z L k).j'=true):cq (T0 L E' c k s):=by
 have aH: ∀{j},j<k-> ∀c s,c≠ .one->cq (E' c j s):=λbg c s aZ=>cP _ bg c s λe=>absurd e aZ;have hm: ∀c,c≠ .one-> ∀a∈(Z L k).I,∀s,cq (E' c a s):=λc aZ a aR s=>aH (Kn K U aR).1 c s aZ;have hl:=Pl K U;cases c with
 |typ=>
  refine cq.M (cq.each _ (hm .typ nofun) s) λ_ s1=>?_;exact cq.ite (λ_=>cq.bl _ _ _ _ _) λ_=>cq.ite (λ_=>cq.bl _ _ _ _ _) λ_=>cq.ite (λ_=>cq.declare _ _) λ_=>cq.ok _ _
 |block=>exact cq.M (cq.each _ (hm .stmt nofun) _) λ_ _=>cq.ok _ _
 |stmt=>
  have q: ∀i,i<(Z L k).I.length-> ∀c s,c≠ .one->cq (E' c (bM L k i) s):=λi ay c s aZ=>aH (xW K U ay).1 c s aZ;show cq (ja L E' k s);unfold ja;refine cq.ite (λe=>?_) λ_=>cq.ite (λe=>?_) λ_=>cq.ite (λe=>?_) λ_=>cq.ite (λe=>?_) λ_=>cq.ite (λe=>?_) λ_=>cq.ite (λe=>?_) λ_=>cq.ite (λe=>?_) λ_=>cq.ite (λe=>?_) λ_=>cq.ite (λe=>?_) λ_=>cq.ite (λe=>?_) λ_=>cq.ite (λe=>?_) λ_=>cq.ite (λe=>?_) λ_=>cq.ite (λe=>?_) λ_=>cq.ok _ _
  all_goals
   rw[e] at hl;simp only[B.pat,Int.reduceEq,or_self,or_true,true_or,or_false,false_or,if_true,if_false,iq,u1,wg] at hl
   repeat' first
    |exact cq.bl _ _ _ _ _
    |exact cq.ok _ _
    |exact cq.declare _ _
    |exact q _ J _ _ nofun
    |exact q _ (by split at hl<;>simp at hl<;>omega) _ _ nofun
    |exact q _ (by rename_i h _;exact List.length_pos_iff.2 h) _ _ nofun
    |exact q _ (by rename_i h;exact List.length_pos_iff.2 h) _ _ nofun
    |refine cq.ite (λ_=>?_) λ_=>?_
    |refine cq.M ?_ λ_ _=>?_
  exact cq.each _ (λa aR s=>by
   obtain⟨R,i,ay,rfl⟩:=Kn K U aR;have T:=(xW K U ay).2;rw[e,show B.pat 26 (Z L k).aX (Z L k).I.length=ef (Z L k).I.length 3 from rfl,cd (l:=ef _ _),ku,aS ay] at T;exact cP _ R _ s λ_=>T) _
 |one=>
  have q: ∀i,i<(Z L k).I.length-> ∀c s,c≠ .one->cq (E' c (bM L k i) s):=λi ay c s aZ=>aH (xW K U ay).1 c s aZ;have CL:27<=(Z L k).j'/\(Z L k).j'<=29:=by simpa[ct] using hc rfl
  show cq (Lx L E' k s);unfold Lx;refine cq.ite (λe=>?_) λag=>cq.ite (λe=>?_) λaE=>?_
  all_goals
   first
    |rw[e] at hl
    |rw[show(Z L k).j'=27 by omega] at hl
   simp only[B.pat,Int.reduceEq,or_self,or_true,true_or,or_false,false_or,if_true,if_false,iq,u1] at hl
   repeat' first
    |exact cq.bl _ _ _ _ _
    |exact cq.ok _ _
    |exact cq.declare _ _
    |exact q _ J _ _ nofun
    |refine cq.ite (λ_=>?_) λ_=>?_
    |refine cq.M ?_ λ_ _=>?_
 |b6=>
  have q: ∀i,i<(Z L k).I.length-> ∀c s,c≠ .one->cq (E' c (bM L k i) s):=λi ay c s aZ=>aH (xW K U ay).1 c s aZ;refine cq.M ?_ λ_ _=>cq.ok _ _;unfold typed;refine cq.ite (λ_=>cq.ok _ _) λ_=>cq.ite (λ_=>cq.ok _ _) λ_=>cq.ite (λ_=>cq.ok _ _) λ_=>cq.ite (λ_=>cq.named _ _) λ_=>cq.ite (λe=>?_) λ_=>cq.ite (λ_=>cq.bl _ _ _ _ _) λ_=>cq.ite (λe=>?_) λ_=>cq.args (λl s=>cq.after _ _ _) _ (λa aR s=>⟨hm .typ nofun a aR s,hm .b6 nofun a aR s⟩) _ _ _
  .rw[e] at hl;have iL:(Z L k).I.length=2:=hl;exact cq.M (cq.function (λa aR s=>by rw[List.mem_singleton.1 aR];exact q _ J _ _ nofun) (λs=>q _ J _ _ nofun) _) λ_ _=>cq.ok _ _
  .rw[e] at hl;have iL:(Z L k).I.length=1:=hl;exact cq.M (q _ J _ _ nofun) λ_ _=>cq.bl _ _ _ _ _
end
def aeL(K:rR L)(k:Nat): ∀f,k<f->k<D L-> ∀c s,(c= .one->ct 3 (Z L k).j'=true)->cq (bE L f c k s):=by
 induction k using Nat.strongRecOn with
 |ind k cB=>
 intro f aI U c s hc;obtain⟨f,rfl⟩: ∃mP,f=mP+1:=⟨f- 1,by omega⟩;exact afk K U (bE L f) (λj bg c s hc=>cB j bg f J J c s hc) c s hc
def Wk{E' d}: ∀(l:List Nat),(∀m∈l,∀s,cq (E' .typ (bM L m 0) s))-> ∀i s,cq (py L E' d i l s)
 |[],_,_,_=>cq.ok _ _
 |m::l,h,i,s=>by
  have hm:=h m (hY ..);exact cq.M (cq.ite (λ_=>hm _) λ_=>cq.M (hm _) λ_ _=>cq.ok _ _) λ_ _=>cq.M (cq.bl _ _ _ _ _) λ_ _=>Wk l (λb G=>h b (hP _ G)) _ _
def adZ(K:rR L){k f}(U:k<D L)(aI:k<=f)(hc:ct 24 (Z L k).j'=true)(al:List Nat)(s):cq (decl L (bE L f) al k s):=by
 have a_: ∀{j},j<k-> ∀c s,c≠ .one->cq (bE L f c j s):=λbg c s aZ=>aeL K _ f J J c s λe=>absurd e aZ;have q: ∀i,i<(Z L k).I.length-> ∀c s,c≠ .one->cq (bE L f c (bM L k i) s):=λi ay c s aZ=>a_ (xW K U ay).1 c s aZ;have hl:=Pl K U;have eh:(Z L k).j'=10\/(Z L k).j'=12\/(Z L k).j'=13\/(Z L k).j'=14:=by simpa[ct] using hc
 unfold decl;refine cq.ite (λe=>?_) λag=>cq.M (cq.ite (λe=>?_) λaE=>?_) λ_ _=>cq.M (cq.bl _ _ _ _ _) λ_ _=>cq.bl _ _ _ _ _
 .rw[e] at hl;have iL:(Z L k).I.length=3:=hl;refine cq.M (cq.function (λa aR s=>?_) (λs=>q _ J _ _ nofun) _) λ_ _=>cq.M (cq.bl _ _ _ _ _) λ_ _=>cq.bl _ _ _ _ _;obtain aR|aR:=List.mem_append.1 aR
  .rw[List.mem_singleton.1 aR];exact q _ J _ _ nofun
  .rw[List.mem_singleton.1 aR];exact q _ J _ _ nofun
 .rw[e] at hl;have iL:(Z L k).I.length=2:=hl;exact cq.function (λa aR s=>by rw[List.mem_singleton.1 aR];exact q _ J _ _ nofun) (λs=>q _ J _ _ nofun) _
 .refine Wk _ (λm hm s=>?_) _ _;obtain⟨R,i,ay,rfl⟩:=Kn K U hm;have T:=(xW K U ay).2;have BV:(Z L (bM L k i)).j'=9\/(Z L (bM L k i)).j'=11:=by
   obtain e|e|e|e:=eh
   .rw[e,show B.pat 10 (Z L k).aX (Z L k).I.length=ef (Z L k).I.length 9 from rfl,cd (l:=ef _ _),ku,aS ay] at T;exact .inl (by simpa[ct] using T)
   .rw[e,show B.pat 12 (Z L k).aX (Z L k).I.length=ef (Z L k).I.length 11 from rfl,cd (l:=ef _ _),ku,aS ay] at T;exact .inr (by simpa[ct] using T)
   .exact absurd e aE
   .exact absurd e ag
  have oB:(Z L (bM L k i)).I.length=1:=by
   have:=Pl K (k:=bM L k i) J;rcases BV with e|e<;>rw[e] at this<;>exact this
  have ah:=(xW K (k:=bM L k i) J (i:=0) J).1;exact a_ J _ _ nofun
def QS(K:rR L){f}: ∀(l al:List Nat),(∀k∈l,k<D L/\k<=f/\ct 24 (Z L k).j'=true)-> ∀s,cq (decls L (bE L f) al l s)
 |[],_,_,_=>cq.ok _ _
 |k::l,al,h,s=>by
  obtain⟨R,T,ah⟩:=h k (hY ..);exact cq.M (adZ K R T ah al s) λ_ s1=>QS K l _ (λb G=>h b (hP _ G)) s1
def ad0(c2:a8 L):cq (prog L):=by refine QS c2.jn _ _ (λk U=>?_) _;obtain⟨R,i,ay,rfl⟩:=Kn c2.jn (k:=D L- 1) (by have:=c2.an;omega) U;have T:=(xW c2.jn (k:=D L- 1) (by have:=c2.an;omega) ay).2;rw[c2.last,show B.pat 15 (Z L (D L- 1)).aX (Z L (D L- 1)).I.length=ef (Z L (D L- 1)).I.length 24 from rfl,cd (l:=ef _ _),ku,aS ay] at T;exact⟨by omega,by omega,T⟩
end
def VH{S c p}(h:lZ S= .error (c,p)):c≠0:=by
 unfold lZ at h;cases aJ:j8 S with
 |error x=>
  rw[aJ] at h;cases h;exact OJ aJ
 |ok L=>
  rw[aJ] at h;dsimp only at h;cases aB:prog L with
  |bL cK k=>rw[aB] at h;cases h;exact ad0 (O7 aJ) _ _ aB
  |ok t s=>
   rw[aB] at h;dsimp only at h;split at h
   .cases h;decide
   .cases h
end Ck
end Go.Proofs.YtjfkhpkicioakaaGreatDoor
