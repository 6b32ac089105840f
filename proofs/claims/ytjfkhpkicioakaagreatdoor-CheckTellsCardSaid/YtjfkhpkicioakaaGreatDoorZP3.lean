/- PROVED HERE: plain law of parsing, of types, of checking. No condition. -/
import Derived.Test.YtjfkhpkicioakaaGreatDoorZLx1
import Derived.Test.YtjfkhpkicioakaaGreatDoorZCkR1
import Derived.Test.YtjfkhpkicioakaaGreatDoorZP2
import Derived.Test.YtjfkhpkicioakaaGreatDoorTie
import Derived.Test.YtjfkhpkicioakaaGreatDoorCards
import Derived.Lay
import Derived.SevenTiedAt
import Derived.JoinedOf
import Derived.Test.YtjfkhpkicioakaaGreatDoorZP1
set_option maxRecDepth 100000
set_option maxHeartbeats 60000000
set_option linter.all false
open Go renaming Value->af,World->ai
open Go.Value renaming string->mm
open Go.World renaming cell?->aG,setCell->a7
open List renaming drop_eq_nil_of_le->GK,getD->Y,length->D,length_set->Bp
open List.cons renaming inj->ye
open Go.Proofs.YtjfkhpkicioakaaGreatDoor.B hiding Rec aM aV ab9 ak bracketed bs bw ch choice dU down enter fL hZ hn ht i' items j9 jV jY ja jt kA kD kE kh ky l0 l3 l5 list ll mB mQ mS made method mz n8 name named oU oa one pointer program put result run sig start take typed up
open Go.Proofs.YtjfkhpkicioakaaGreatDoor.aa
open Go.Proofs.Tryz
namespace Go.Proofs.YtjfkhpkicioakaaGreatDoor
open Go.RowKit
namespace Rk
open Ck
def nh (g:Nat)(a b:List (List (bz×Nat))):Prop:= ∃m,b=a.dropLast++[a.getLastD []++m]/\D m<=g
def nh.ne{g a b}(h:nh g a b):b≠[]:=by obtain⟨m,rfl,_⟩:=h;simp
def nh.refl{a}(h:a≠[])(g:Nat):nh g a a:=⟨[],by
 obtain⟨r,m,rfl⟩: ∃r m,a=r++[m]:=⟨a.dropLast,a.getLast h,(u0 h).symm⟩;simp,gp _⟩
def nh.trans{g k a b c}(h:nh g a b)(T:nh k b c):nh (g+k) a c:=by obtain⟨m,rfl,hm⟩:=h;obtain⟨n,rfl,ax⟩:=T;exact⟨m++n,by simp,by rw[dW];omega⟩
def nh.mono{g k a b}(h:nh g a b)(U:g<=k):nh k a b:=by obtain⟨m,rfl,hm⟩:=h;exact⟨m,rfl,by omega⟩
def nh.zero{a b}(h:nh 0 a b)(aR:a≠[]):b=a:=by obtain⟨m,rfl,hm⟩:=h;obtain rfl:m=[]:=List.length_eq_zero_iff.1 J;obtain⟨r,m,rfl⟩: ∃r m,a=r++[m]:=⟨a.dropLast,a.getLast aR,(u0 aR).symm⟩;simp
def nh.seen{g a b}(h:nh g a b)(aR:a≠[]):D (e4 b)<=D (e4 a)+g:=by obtain⟨m,rfl,hm⟩:=h;obtain⟨r,n,rfl⟩: ∃r m,a=r++[m]:=⟨a.dropLast,a.getLast aR,(u0 aR).symm⟩;have e:(r++[n]).dropLast++[(r++[n]).getLastD []++m]=r++[n++m]:=bT;rw[e,AV,AV];simp only[dW,iq,h2];omega
structure Inv (L:List aP)(s:b5):Prop where
 eo: ∀t∈s.types,D t<=200000000000
 lS: ∀m∈s.sc,∀e∈m,e.2<D L/\((Z L e.2).j'=7\/(Z L e.2).j'=17\/(Z L e.2).j'=27)
 us: ∀d∈s.eJ,d<(D L:Int)
structure Shape (L:List aP)(g:Nat)(s s':b5):Prop where
 ty:D s'.types=D s.types
 us:D s'.eJ=D s.eJ
 res:s'.res=s.res
 cx:s'.cx=s.cx
 sc:nh g s.sc s'.sc
 inv:Inv L s->Inv L s'
 gn: ∀k,0<=Y s.eJ k (-1)->0<=Y s'.eJ k (-1)
section
variable{L:List aP}
def Shape.refl{s}(h:s.sc≠[])(g:Nat):Shape L g s s:=⟨rfl,rfl,rfl,rfl,nh.refl h g,id,λ_ h=>h⟩
def Shape.trans{g k s s1 s2}(h:Shape L g s s1)(T:Shape L k s1 s2):Shape L (g+k) s s2:=⟨T.ty.trans h.ty,T.us.trans h.us,T.res.trans h.res,T.cx.trans h.cx,h.sc.trans T.sc,λi=>T.inv (h.inv i),λk U=>T.gn k (h.gn k U)⟩
def Shape.mono{g k s s1}(h:Shape L g s s1)(U:g<=k):Shape L k s s1:=⟨h.ty,h.us,h.res,h.cx,h.sc.mono U,h.inv,h.gn⟩
def Shape.add{s}(x:bz){k}(U:k<D L)(bB:(Z L k).j'=7\/(Z L k).j'=17\/(Z L k).j'=27):Shape L 1 s (x' x k s):=⟨rfl,rfl,rfl,rfl,⟨[(x,k)],rfl,bD _⟩,λi=>⟨i.eo,λm hm e he=>by
 have o3:m∈s.sc.dropLast++[s.sc.getLastD []++[(x,k)]]:=hm;obtain R|R:=List.mem_append.1 o3
 .exact i.lS m (List.dropLast_subset _ R) e he
 .rw[List.mem_singleton.1 R] at he;obtain T|T:=List.mem_append.1 he
  .by_cases hs:s.sc=[]
   .rw[hs] at T;cases T
   .rw[List.getLastD_eq_getLast?,List.getLast?_eq_some_getLast hs] at T;exact i.lS _ (List.getLast_mem hs) e T
  .rw[List.mem_singleton.1 T];exact⟨U,bB⟩,i.us⟩,λ_ h=>h⟩
def Shape.iA{s}(h:s.sc≠[])(k:Nat){t}(bI:D t<=200000000000):Shape L 0 s (iA k t s):=⟨Bp ..,rfl,rfl,rfl,nh.refl h 0,λi=>⟨λx aF=>(List.mem_or_eq_of_mem_set aF).elim (i.eo x) λe=>e▸bI,i.lS,i.us⟩,λ_ h=>h⟩
def Shape.oe{s}(h:s.sc≠[])(k:Nat){d}(aH:0<=d)(bB:d<(D L:Int)):Shape L 0 s (oe k d s):=⟨rfl,Bp ..,rfl,rfl,nh.refl h 0,λi=>⟨i.eo,i.lS,λx aF=>(List.mem_or_eq_of_mem_set aF).elim (i.us x) λe=>e▸bB⟩,λj bg=>by
 show 0<=Y (s.eJ.set k d) j (-1);rw[cd,List.getElem?_set];split
 .split
  .exact aH
  .rename_i R T;exfalso;rw[cd,pr J] at bg;exact absurd bg aN
 .rwa[cd] at bg⟩
def Inv.fH{s}(h:Inv L s):Inv L (fH s):=⟨h.eo,λm hm e he=>by
 have o3:m∈s.sc++[[]]:=hm;obtain R|R:=List.mem_append.1 o3
 .exact h.lS m R e he
 .rw[List.mem_singleton.1 R] at he;exact absurd he (List.not_mem_nil),h.us⟩
def Jl(s:b5):D (e4 (fH s).sc)=D (e4 s.sc)+1:=by show(e4 (s.sc++[[]])).length=_;rw[Wf];simp
def zc(s):(fH s).sc≠[]:=by show s.sc++[[]]≠[];simp
def Shape.shut{g s s1}(hs:s.sc≠[])(h:Shape L g (fH s) s1):Shape L 0 s (shut s1):=by
 have gU:s1.sc.dropLast=s.sc:=by
  obtain⟨m,hm,_⟩:=h.sc;rw[hm,xF];show(s.sc++[[]]).dropLast=_;rw[xF]
 refine⟨h.ty,h.us,h.res,h.cx,?_,λi=>?_,h.gn⟩
 .show nh 0 s.sc s1.sc.dropLast;rw[gU];exact nh.refl hs 0
 .have i1:=h.inv i.fH;exact⟨i1.eo,λm hm e he=>i1.lS m (List.dropLast_subset _ hm) e he,i1.us⟩
end
structure eN (L:List aP)(fl:Option (Int×Int))(r:df)(t:bz)(s':b5)(eT:Option (Int×Int)):Prop where
 gP: ∀f,fl=some f->eT=some f
 ok:fl=none-> ∀t1 s1,r= .ok t1 s1->eT=none/\t=t1/\s'=s1
 bL:fl=none-> ∀c k,r= .bL c k->eT=some (c,((Z L k).an:Int))
section
variable{L:List aP}{fl iQ ey:Option (Int×Int)}
def eN.pure(t:bz)(s:b5):eN L fl (.ok t s) t s fl:=⟨λ_ h=>h,λh _ _ e=>by cases e;exact⟨h,rfl,rfl⟩,λ_ _ _ e=>by cases e⟩
def eN.M{r}{f:bz->b5->df}{t1 t2 s1 s2}(h:eN L fl r t1 s1 iQ)(T:eN L iQ (f t1 s1) t2 s2 ey):eN L fl (r.M f) t2 s2 ey:=by
 refine⟨λx aF=>T.gP x (h.gP x aF),λaH t s e=>?_,λaH c k e=>?_⟩
 .cases r with
  |bL c k=>cases e
  |ok a b=>
   obtain⟨rfl,rfl,rfl⟩:=h.ok aH a b rfl;exact T.ok rfl t s e
 .cases r with
  |bL Jh Oi=>cases e;exact T.gP _ (h.bL aH c k rfl)
  |ok a b=>
   obtain⟨rfl,rfl,rfl⟩:=h.ok aH a b rfl;exact T.bL rfl c k e
def eN.bl(b:Bool)(c:Int)(k:Nat)(t:bz)(s:b5):eN L fl (Ck.bl b c k t s) t s (m' fl b c ((Z L k).an:Int)):=by
 cases b with
 |true=>rw[JU];exact eN.pure t s
 |false=>exact⟨λx aF=>by rw[aF];rfl,λ_ _ _ e=>(by cases e),λh _ _ e=>(by cases e;rw[h];rfl)⟩
def eN.any{r t s f}(h:ey=some f):eN L (some f) r t s ey:=⟨λx aF=>by cases aF;exact h,λh=>(by cases h),λh=>(by cases h)⟩
def eN.declare{s k}:eN L fl (Ck.declare L k s) [] (x' (Z L k).O k s) (m' fl (!((s.sc.getLastD []).any λe=>e.1==(Z L k).O)) 7 ((Z L k).an:Int)):=by
 unfold Ck.declare;cases h:(s.sc.getLastD []).any λe=>e.1==(Z L k).O with
 |true=>rw[aS rfl];exact⟨λx aF=>by rw[aF];rfl,λ_ _ _ e=>(by cases e),λh _ _ e=>(by cases e;rw[h];rfl)⟩
 |false=>rw[ao bT];rw[show(!false)=true from rfl,JU];exact eN.pure _ _
def JB(f:Nat->b5->df)(a:Nat): ∀(l:List Nat) (s:b5),each f (l++[a]) s=(each f l s).M λ_ s1=>(f a s1).M λ_ s2=> .ok [] s2
 |[],s=>rfl
 |b::l,s=>by
  show(f b s).M (λ_ s1=>each f (l++[a]) s1)=((f b s).M λ_ s1=>each f l s1).M _;cases f b s with
  |bL c k=>rfl
  |ok t s1=>exact JB f a l s1
end
section
variable{w0:ai}{p g n cap:Nat}{nv tv uv:af}{w:ai}{b_:af}{s:b5}{fl:Option (Int×Int)}
def dK.x7(h:dK w0 p nv (g,n,cap) uv w b_ s fl){k}(U:k<D s.types):aG w (g,k)=some [Y s.types k []]/\w.frozen? ⟨g,k,none⟩=false/\g<w.heap.size:=by
 have T:w.ownsRow w0.heap.size 9 1 (g,n,cap) (D s.types) (s.types.map λx=>mm (str x)):=h.ty;have ax:n=D s.types:=by
  obtain⟨aH,_⟩|⟨h5,ka,cur,hu,hN,G,_⟩:=T.2
  .cases aH
  .cases hu;rfl
 subst ax;have c:=tH T k J;obtain⟨aH,_⟩|⟨h5,ka,cur,hu,hN,G,_⟩:=T.2
 .cases aH
 .cases hu;refine⟨?_,cX G k,bd G⟩;rw[c,lW,cd,cE U];rfl
def dK.x0(h:dK w0 p nv (g,n,cap) uv w b_ s fl)(k:Nat)(t:bz):dK w0 p nv (g,n,cap) uv (a7 w (g,k) t) b_ (Ck.iA k t s) fl/\Fr p (g,n,cap) uv w (a7 w (g,k) t):=by
 have T:w.ownsRow w0.heap.size 9 1 (g,n,cap) (D s.types) (s.types.map λx=>mm (str x)):=h.ty;obtain⟨aH,_⟩|⟨h5,ka,cur,hu,hN,G,_⟩:=T.2
 .cases aH
 .cases hu;refine⟨⟨h.av.setCell (p:=⟨g,k,none⟩) hN _,?_,?_,eZ h.us G aN,eZ h.lR G aN,h.aJ⟩,?_⟩
  .exact fK h.blk (λe=>by rw[<-e,h.blk] at G;cases G) k _
  .have:=T.stored k t;unfold db Ck.iA;simp only[Bp,List.map_set];exact this.1
  .exact⟨by simp,λb o b8 R ah bJ dH=>fK b8 (λe=>ah (by rw[e];rfl)) k _⟩
end
end Rk
namespace Ck
def wC (fin:bz->bz)(t:bz):List bz×bz:=parts fin (D t) (t.drop 5) 0 [] []
structure j6 (fin:bz->bz)(t:bz)(i m bR:Nat)(d':List bz):Prop where
 xV:m<=i
 ajD:i<=D t
 dl:bR<=i
 al:D d'<=i
 eq:wC fin t=parts fin (D t+5-i) (t.drop i) bR ((t.drop m).take (i-m)) d'
section
variable{fin:bz->bz}{t:bz}{i m bR:Nat}{d':List bz}
def j6.start(h:5<=D t):j6 fin t 5 5 0 []:=⟨bD _,h,gp _,gp _,by
 unfold wC;rw[Nat.add_sub_cancel,Nat.sub_self,List.take_zero]⟩
def Ph(hm:m<=i)(ay:i<D t):(t.drop m).take (i+1-m)=(t.drop m).take (i-m)++[Y t i 0]:=by rw[Nat.succ_sub hm,p3,List.getElem?_drop,Nat.add_sub_cancel' hm,cd,cE ay];rfl
def j6.run(h:j6 fin t i m bR d')(ay:i<D t):wC fin t=parts fin (D t+5-(i+1)+1) (Y t i 0::t.drop (i+1)) bR ((t.drop m).take (i-m)) d':=by rw[h.eq,show D t+5-i=D t+5-(i+1)+1 from by omega,kS ay,cd,cE ay];rfl
def J_(h:j6 fin t i m bR d'):((t.drop m).take (i-m)=[])↔ ¬m<i:=by have:=h.ajD;rw[List.eq_nil_iff_length_eq_zero,mr,qA];omega
def j6.open(h:j6 fin t i m bR d')(ay:i<D t)(hc:Y t i 0=40):j6 fin t (i+1) m (bR+1) d':=⟨by have:=h.xV;omega,ay,by have:=h.dl;omega,by have:=h.al;omega,by
 rw[Ph h.xV ay,h.run ay,hc,VX]⟩
def j6.shut(h:j6 fin t i m (bR+1) d')(ay:i<D t)(hc:Y t i 0=41):j6 fin t (i+1) m bR d':=⟨by have:=h.xV;omega,ay,by have:=h.dl;omega,by have:=h.al;omega,by
 rw[Ph h.xV ay,h.run ay,hc,VY]⟩
def j6.other(h:j6 fin t i m bR d')(ay:i<D t)(aH:Y t i 0≠40)(R:Y t i 0≠41)(bJ:Y t i 0=44->bR≠0):j6 fin t (i+1) m bR d':=⟨by have:=h.xV;omega,ay,by have:=h.dl;omega,by have:=h.al;omega,by
 rw[Ph h.xV ay,h.run ay];generalize Y t i 0=c at*;rw[parts,ao (by rintro⟨a,b|b⟩;exact bJ b a;exact R b),ao aH,ao R]⟩
def j6.SE(h:j6 fin t i m 0 d')(ay:i<D t)(hc:Y t i 0=44)(hm: ¬m<i):j6 fin t (i+1) (i+1) 0 d':=⟨bD _,ay,gp _,by have:=h.al;omega,by
 rw[h.run ay,hc,parts,aS ⟨rfl,.inl rfl⟩,ao aN,aS ((J_ h).2 hm),Nat.sub_self,List.take_zero]⟩
def j6.H'(h:j6 fin t i m 0 d')(ay:i<D t)(hc:Y t i 0=44)(hm:m<i):j6 fin t (i+1) (i+1) 0 (d'++[(t.drop m).take (i-m)]):=⟨bD _,ay,gp _,by have:=h.al;rw[dW,y7];omega,by
 rw[h.run ay,hc,parts,aS ⟨rfl,.inl rfl⟩,ao aN,ao (λe=>(J_ h).1 e hm),Nat.sub_self,List.take_zero]⟩
def j6.SF(h:j6 fin t i m 0 d')(ay:i<D t)(hc:Y t i 0=41)(hm: ¬m<i):wC fin t=(d',fin (t.drop (i+1))):=by rw[h.run ay,hc,parts,aS ⟨rfl,.inr rfl⟩,aS rfl,aS ((J_ h).2 hm)]
def j6.end(h:j6 fin t i m 0 d')(ay:i<D t)(hc:Y t i 0=41)(hm:m<i):wC fin t=(d'++[(t.drop m).take (i-m)],fin (t.drop (i+1))):=by rw[h.run ay,hc,parts,aS ⟨rfl,.inr rfl⟩,aS rfl,ao (λe=>(J_ h).1 e hm)]
def j6.o(h:j6 fin t i m bR d')(ay: ¬i<D t):wC fin t=(d',[]):=by rw[h.eq,GK J];cases D t+5-i<;>rfl
end
end Ck
def ZS:(Rows.checkTellsRow.inPlace==prog.inPlace 3)=true:=cS
def WN:(Rows.checkTellsRow.unfollowed==prog.unfollowed 3)=true:=cS
def Xr:(Rows.checkTellsRow.recurses==prog.recurses 3)=true:=cS
def ac5:(Rows.checkTellsRow.named==prog.varsNamed 3)=true:=cS
def X0:joinedFacts prog 3 f3 Rows.checkTellsSpec Rows.checkTellsRow=true:=by
 unfold joinedFacts;rw[ZS,WN,Xr,ac5]
 kernel_rfl
namespace W
open B (aP Src)
open aa (Tok)
structure ak where
 p:B.ak
 w:Option (Int×Nat)
inductive aV where
 |o
 |ok (v:List Nat) (s:ak)
def aV.M(r:aV)(f:List Nat->ak->aV):aV:=
 match r with
 | .o=> .o
 | .ok v s=>f v s
def ab9(f:List Nat->ak->aV):aV.o.M f= .o:=rfl
def jt(v:List Nat)(s)(f:List Nat->ak->aV):(aV.ok v s).M f=f v s:=rfl
def aM (X:B.Src)(s:ak):aa.Tok:=B.aM X s.p
def bw (X:B.Src)(s:ak)(x:List UInt8):Bool:=B.bw X s.p x
def kO (X:B.Src)(s:ak)(x:List UInt8):Bool:=(aM X s).j'==4&&(aM X s).O==x
def qu (X:B.Src)(s:ak)(x:List UInt8):Bool:=(aM X s).j'==3&&(aM X s).O==x
def hZ(X:B.Src)(s:ak):Bool:=B.hZ X s.p
def mB(X:B.Src)(s:ak):Bool:=B.mB X s.p
def ht (X:B.Src)(s:ak)(x:List UInt8):Bool:=B.ht X s.p x
def bs (s:ak):ak:={s with p:=B.bs s.p}
def ll (s:ak):ak:={s with p:=B.ll s.p}
def up (s:ak):ak:={s with p:={s.p with bR:=IntKind.i64.wrap (s.p.bR+1)}}
def down (s:ak):ak:={s with p:={s.p with bR:=IntKind.i64.wrap (s.p.bR- 1)}}
def stop (X:B.Src)(c:Int)(s:ak):ak:=⟨{s.p with i:=X.bu.length},some (s.w.getD (c,(aM X s).an))⟩
def ns (X:B.Src)(x:List UInt8)(s:ak):ak:=if bw X s x then bs s else stop X 3 s
def take (X:B.Src)(x:List UInt8)(s:ak):aV:= .ok [(aM X s).an] (ns X x s)
def al9 (X:B.Src)(x:List UInt8)(s:ak):ak:=if bw X s x then bs s else s
def zt (X:B.Src)(s:ak):ak:=if hZ X s then bs s else stop X 3 s
def jw (X:B.Src)(s:ak):List UInt8:=if hZ X s then(aM X s).O else[]
def name (X:B.Src)(s:ak):aV:= .ok [] (zt X s)
def wD (X:B.Src)(x:List UInt8)(s:ak):ak:=if bw X s x=true/\s.p.bR=30 then stop X 4 s else ns X x (up s)
def enter(X:B.Src)(x:List UInt8)(s:ak):aV:= .ok [(aM X s).an] (wD X x s)
def Ko (X:B.Src)(x:List UInt8)(s:ak):ak:=down (ns X x s)
def dU(X:B.Src)(x:List UInt8)(s:ak):aV:= .ok [] (Ko X x s)
def room:Nat:=20000000
def put (Z:aP)(s:ak):aV:=if D s.p.aj<room then .ok [D s.p.aj] {s with p:={s.p with aj:=s.p.aj++[Z]}} else .o
def sJ:List (List UInt8):=[wH,wz,qI,oR,sR]
def l0 (X:B.Src)(s:ak):Bool:=(sJ.contains (aM X s).O&&(aM X s).j' !=1)||(aM X s).j'==1
def level(t:List UInt8):Nat:=ub t
def hn (X:B.Src)(s:ak):Nat:=if(aM X s).j'=3 then level (aM X s).O else 0
def gJ (s:ak):Bool:=s.w.isSome
abbrev Rec:=B.Fn->ak->aV
def fL (j':Int)(at_:Nat)(I:List Nat)(s:ak):aV:=put ⟨j',at_,0,[],I⟩ s
def l3 (X:B.Src)(one:ak->aV)(again:List Nat->ak->aV)(d':List Nat)(s:ak):aV:=
 if bw X s eW||gJ s then .ok d' s
 else(one s).M λk s1=>
  if bw X s1 eW then .ok (d'++k) s1
  else(take X tV s1).M λ_ s2=>again (d'++k) (if bw X s2 eW then stop X 3 s2 else s2)
def list (X:B.Src)(loop:ak->aV)(s:ak):aV:=(enter X gK s).M λ_ s1=>(loop s1).M λl s2=>(dU X eW s2).M λ_ aq=> .ok l aq
def kh (X:B.Src)(one:ak->aV)(again:List Nat->ak->aV)(d':List Nat)(s:ak):aV:=
 if bw X s dm||gJ s then .ok d' s
 else(one s).M λk s1=>
  if bw X s1 dm then .ok (d'++k) s1
  else(take X hC s1).M λ_ s2=>again (d'++k) s2
def items(X:B.Src)(loop:ak->aV)(s:ak):aV:=(enter X qM s).M λ_ s1=>(loop s1).M λl s2=>(dU X dm s2).M λ_ aq=> .ok l aq
def named(X:B.Src)(E':Rec)(j':Int)(s:ak):aV:=(name X s).M λ_ s1=>(E' .typ s1).M λk s2=>put ⟨j',(aM X s).an,0,jw X s,k⟩ s2
def pointer(X:B.Src)(s:ak):aV:=(take X sR s).M λ_ s1=>(name X s1).M λ_ s2=>put ⟨4,(aM X s).an,0,jw X s1,[]⟩ s2
def result(X:B.Src)(E':Rec)(j':Int)(at_:Nat)(l:List Nat)(s:ak)(fin:ak->ak):aV:=
 if l0 X s then(E' .typ s).M λk s1=>put ⟨j',at_,D l,[],l++k⟩ (fin s1) else put ⟨j',at_,D l,[],l⟩ (fin s)
def sig (X:B.Src)(E':Rec)(s:ak):aV:=(list X (E' (.params [])) s).M λl s1=>result X E' 8 (aM X s).an l s1 id
def l5 (X:B.Src)(E':Rec)(s:ak):aV:=
 if bw X s wH then put ⟨1,(aM X s).an,0,[],[]⟩ (bs s)
 else if bw X s wz then put ⟨2,(aM X s).an,0,[],[]⟩ (bs s)
 else if bw X s sR then pointer X s
 else if bw X s qI then(enter X qI s).M λ_ s1=>(E' .typ s1).M λk s2=>put ⟨5,(aM X s).an,0,[],k⟩ (down s2)
 else if bw X s oR then(enter X oR s).M λ_ s1=>(list X (E' (.jX [])) s1).M λl s2=>result X E' 6 (aM X s).an l s2 down
 else(name X s).M λ_ s1=>put ⟨3,(aM X s).an,0,jw X s,[]⟩ s1
def mQ (X:B.Src)(E':Rec)(s:ak):aV:=(items X (E' (.stmts [])) s).M λl s1=>put ⟨16,(aM X s).an,0,[],l⟩ s1
def bracketed(X:B.Src)(E':Rec)(j':Int)(at_:Nat)(s:ak):aV:=(enter X gK s).M λ_ s1=>(E' (.b6 0) s1).M λe s2=>(dU X eW s2).M λ_ aq=>fL j' at_ e aq
def tT (X:B.Src)(s:ak):Bool:=bw X s wo||bw X s wB||bw X s dm
def kD (X:B.Src)(E':Rec)(s:ak):aV:=(take X GH s).M λ_ s1=>(E' (.body []) s1).M λl s2=>put ⟨16,(aM X s).an,0,[],l⟩ s2
def mz (X:B.Src)(E':Rec)(s:ak):aV:=
 if bw X s wB then(kD X E' (bs s)).M λb s1=>fL 29 (aM X s).an b s1
 else(take X wo s).M λ_ s1=>
  if hZ X s1=true/\ht X s1 p8=true then
   (take X l4 (ll s1)).M λ_ s2=>(E' (.b6 0) s2).M λc aq=>(kD X E' aq).M λb bA=>put ⟨27,(aM X s).an,0,(aM X s1).O,c++b⟩ bA
  else if bw X s1 l4 then(E' (.b6 0) (bs s1)).M λc aq=>(kD X E' aq).M λb bA=>put ⟨27,(aM X s).an,0,[],c++b⟩ bA
  else(E' (.b6 0) s1).M λc s2=>(take X l4 s2).M λ_ aq=>(E' (.b6 0) aq).M λv bA=>(kD X E' bA).M λb cm=>fL 28 (aM X s).an (c++v++b) cm
def choice(X:B.Src)(E':Rec)(at_:Nat)(s:ak):aV:=(enter X qM s).M λ_ s1=>(E' (.cases []) s1).M λl s2=>(dU X dm s2).M λ_ aq=>put ⟨26,at_,0,[],l⟩ aq
def ja (X:B.Src)(E':Rec)(s:ak):aV:=
 if kO X s K' then(E' (.b6 0) (bs s)).M λe s1=>fL 21 (aM X s).an e s1
 else if kO X s PV then bracketed X E' 30 (aM X s).an (bs s)
 else if kO X s PW then bracketed X E' 31 (aM X s).an (bs s)
 else if kO X s PX then bracketed X E' 32 (aM X s).an (bs s)
 else if kO X s qJ then E' .branch s
 else if kO X s KN then(E' (.b6 0) (bs s)).M λc s1=>(E' .block s1).M λb s2=>fL 23 (aM X s).an (c++b) s2
 else if kO X s K8 then
  if bw X (bs s) hC=true\/bw X (bs s) dm=true then fL 24 (aM X s).an [] (bs s)
  else(E' (.b6 0) (bs s)).M λe s1=>fL 24 (aM X s).an e s1
 else if kO X s K9 then fL 25 (aM X s).an [] (bs s)
 else if kO X s Pz then choice X E' (aM X s).an (bs s)
 else if hZ X s=true/\ht X s p8=true then(E' (.b6 0) (ll s)).M λe s1=>put ⟨17,(aM X s).an,0,(aM X s).O,e⟩ s1
 else(E' (.b6 0) s).M λa s1=>
  if bw X s1 Bh then(E' (.b6 0) (bs s1)).M λb s2=>fL 18 (aM X s).an (a++b) s2
  else if bw X s1 l4 then(E' (.b6 0) (bs s1)).M λb s2=>fL 20 (aM X s).an (a++b) s2
  else fL 19 (aM X s).an a s1
def oa (X:B.Src)(E':Rec)(s:ak):aV:=
 (take X qJ s).M λ_ s1=>(E' (.b6 0) s1).M λc s2=>(E' .block s2).M λb aq=>
  if bw X aq vg then
   if ht X aq qJ then(enter X vg aq).M λ_ bA=>(E' .branch bA).M λe cm=>fL 22 (aM X s).an (c++b++e) (down cm)
   else(take X vg aq).M λ_ bA=>(E' .block bA).M λe cm=>fL 22 (aM X s).an (c++b++e) cm
  else fL 22 (aM X s).an (c++b) aq
def mS (X:B.Src)(E':Rec)(k a:Nat)(s:ak):aV:=
 if gJ s then .ok [a] s
 else if k<hn X s then(E' (.b6 (hn X s)) (bs s)).M λb s1=>(put ⟨46,(aM X s).an,0,(aM X s).O,a::b⟩ s1).M λe s2=>E' (.iy k (Y e 0 0)) s2
 else .ok [a] s
def made (X:B.Src)(E':Rec)(at_:Nat)(s:ak):aV:=
 (enter X gK s).M λ_ s1=>(enter X qI s1).M λ_ s2=>(E' .typ s2).M λk aq=>
  if bw X (down aq) tV then
   if mB X (bs (down aq)) then(dU X eW (bs (bs (down aq)))).M λ_ cm=>put ⟨42,at_,(aM X (bs (down aq))).aX,[],k⟩ cm
   else(dU X eW (stop X 3 (bs (down aq)))).M λ_ cm=>put ⟨42,at_,0,[],k⟩ cm
  else(dU X eW (down aq)).M λ_ cm=>put ⟨42,at_,0,[],k⟩ cm
def kA (X:B.Src)(E':Rec)(s:ak):aV:=
 if mB X s then put ⟨33,(aM X s).an,(aM X s).aX,[],[]⟩ (bs s)
 else if kO X s PY then put ⟨34,(aM X s).an,1,[],[]⟩ (bs s)
 else if kO X s PA then put ⟨34,(aM X s).an,0,[],[]⟩ (bs s)
 else if kO X s La then put ⟨35,(aM X s).an,0,[],[]⟩ (bs s)
 else if kO X s oR then(sig X E' (bs s)).M λg s1=>(E' .block s1).M λb s2=>fL 40 (aM X s).an (g++b) s2
 else if kO X s K_ then(enter X gK (bs s)).M λ_ s1=>(name X s1).M λ_ s2=>(dU X eW s2).M λ_ aq=>put ⟨41,(aM X s).an,0,jw X s1,[]⟩ aq
 else if kO X s KO then made X E' (aM X s).an (bs s)
 else if bw X s gK then(enter X gK s).M λ_ s1=>(E' (.b6 0) s1).M λe s2=>(dU X eW s2).M λ_ aq=> .ok e aq
 else(name X s).M λ_ s1=>put ⟨36,(aM X s).an,0,jw X s,[]⟩ s1
def ky (X:B.Src)(E':Rec)(x:List UInt8)(j':Int)(s:ak):aV:=
 (enter X x s).M λ_ s1=>(if gJ s1 then .ok [0] s1 else E' .unary s1).M λe s2=>fL j' (aM X s).an e (down s2)
def jV (X:B.Src)(E':Rec)(s:ak):aV:=
 if qu X s Bc then ky X E' Bc 43 s
 else if qu X s C9 then ky X E' C9 44 s
 else if qu X s l4 then ky X E' l4 45 s
 else(kA X E' s).M λe s1=>E' (.part (Y e 0 0)) s1
def oU (X:B.Src)(E':Rec)(e:Nat)(s:ak):aV:=
 if gJ s then .ok [e] s
 else if bw X s gK then(list X (E' (.exprs [])) s).M λl s1=>(fL 38 (aM X s).an (e::l) s1).M λag s2=>E' (.part (Y ag 0 0)) s2
 else if bw X s Bg then
  if bw X (bs s) gK then(enter X gK (bs s)).M λ_ s1=>(E' .typ s1).M λt s2=>(dU X eW s2).M λ_ aq=>(fL 39 (aM X s).an (e::t) aq).M λag bA=>E' (.part (Y ag 0 0)) bA
  else(name X (bs s)).M λ_ s1=>(put ⟨37,(aM X s).an,0,jw X (bs s),[e]⟩ s1).M λag s2=>E' (.part (Y ag 0 0)) s2
 else .ok [e] s
def jY (X:B.Src)(E':Rec)(s:ak):aV:=(name X s).M λ_ s1=>(sig X E' s1).M λg s2=>put ⟨11,(aM X s).an,0,jw X s,g⟩ s2
def typed(X:B.Src)(E':Rec)(at_:Nat)(s:ak):aV:=
 (name X s).M λ_ s1=>
  if bw X s1 JL then(items X (E' (.fields [])) (bs s1)).M λl s2=>put ⟨10,at_,0,jw X s,l⟩ s2
  else(take X Jj s1).M λ_ s2=>(items X (E' (.j_ [])) s2).M λl aq=>put ⟨12,at_,0,jw X s,l⟩ aq
def method(X:B.Src)(E':Rec)(at_:Nat)(s:ak):aV:=
 (enter X gK s).M λ_ s1=>(name X s1).M λ_ s2=>(pointer X s2).M λp aq=>(dU X eW aq).M λ_ bA=>
  (put ⟨7,(aM X s1).an,0,jw X s1,p⟩ bA).M λself cm=>(name X cm).M λ_ ha=>(sig X E' ha).M λg mj=>(E' .block mj).M λb ik=>put ⟨14,at_,0,jw X cm,self++g++b⟩ ik
def j9 (X:B.Src)(E':Rec)(s:ak):aV:=
 if bw X s Ke then typed X E' (aM X s).an (bs s)
 else(take X oR s).M λ_ s1=>
  if bw X s1 gK then method X E' (aM X s).an s1
  else(name X s1).M λ_ s2=>(sig X E' s2).M λg aq=>(E' .block aq).M λb bA=>put ⟨13,(aM X s).an,0,jw X s1,g++b⟩ bA
def kE (X:B.Src)(E':Rec):B.Fn->ak->aV
 | .typ,s=>l5 X E' s
 | .block,s=>mQ X E' s
 | .stmt,s=>ja X E' s
 | .branch,s=>oa X E' s
 | .b6 k,s=>(E' .unary s).M λe s1=>E' (.iy k (Y e 0 0)) s1
 | .iy k a,s=>mS X E' k a s
 | .unary,s=>jV X E' s
 | .part e,s=>oU X E' e s
 | .jX d',s=>l3 X (E' .typ) (λa=>E' (.jX a)) d' s
 | .params d',s=>l3 X (named X E' 7) (λa=>E' (.params a)) d' s
 | .exprs d',s=>l3 X (E' (.b6 0)) (λa=>E' (.exprs a)) d' s
 | .stmts d',s=>kh X (E' .stmt) (λa=>E' (.stmts a)) d' s
 | .body d',s=>if tT X s||gJ s then .ok d' s else(E' .stmt s).M λk s1=>if bw X s1 dm then .ok (d'++k) s1 else(take X hC s1).M λ_ s2=>E' (.body (d'++k)) s2
 | .cases d',s=>if bw X s dm||gJ s then .ok d' s else(mz X E' s).M λk s1=>E' (.cases (d'++k)) s1
 | .fields d',s=>kh X (named X E' 9) (λa=>E' (.fields a)) d' s
 | .j_ d',s=>kh X (jY X E') (λa=>E' (.j_ a)) d' s
 | .decls d',s=>
  if decide (s.p.i<D X.bu)&&!gJ s then(j9 X E' s).M λk s1=>if s1.p.i<D X.bu then(take X hC s1).M λ_ s2=>E' (.decls (d'++k)) s2 else E' (.decls (d'++k)) s1
  else .ok d' s
def run (X:B.Src):Nat->Rec
 |0,_,_=> .o
 |n+1,f,s=>kE X (run X n) f s
def start:ak:=⟨B.start,none⟩
def program(X:B.Src)(n:Nat):aV:=(run X n (.decls []) start).M λl s=>put ⟨15,(aM X start).an,0,[],l⟩ s
end W
namespace W
open B (GI aP Src)
def bn (r:aV):Prop:= ∀v s',r= .ok v s'-> ∃a,v=[a]
def By (E':Rec):Prop:= ∀f,GI f=true-> ∀s,bn (E' f s)
def bn.M{r:aV}{f:List Nat->ak->aV}(aI: ∀v s,bn (f v s)):bn (r.M f):=by
 intro v s' h;cases r with
 |o=>cases h
 |ok v1 s1=>exact aI v1 s1 v s' h
def bn.ite{c} [Decidable c]{a b}(R:bn a)(T:bn b):bn (if c then a else b):=by
 split
 .exact R
 .exact T
def bn.put(Z:aP)(s):bn (put Z s):=by
 intro v s' h;unfold W.put at h;split at h
 .cases h;exact⟨_,rfl⟩
 .cases h
def bn.one(a s):bn (.ok [a] s):=λv s' h=>by cases h;exact⟨_,rfl⟩
section
variable{X:B.Src}{E':Rec}(h:By E')
theorem FZ(s):bn (pointer X s):=bn.M λ_ _=>bn.M λ_ _=>bn.put _ _
theorem JF(j':Int)(s):bn (named X E' j' s):=bn.M λ_ _=>bn.M λ_ _=>bn.put _ _
theorem V'(j':Int)(at_:Nat)(l:List Nat)(s:ak)(fin:ak->ak):bn (result X E' j' at_ l s fin):=bn.ite (bn.M λ_ _=>bn.put _ _) (bn.put _ _)
theorem C8(s):bn (sig X E' s):=bn.M λ_ _=>V' _ _ _ _ _
theorem ac7(s):bn (l5 X E' s):=bn.ite (bn.put _ _) (bn.ite (bn.put _ _) (bn.ite (FZ _) (bn.ite (bn.M λ_ _=>bn.M λ_ _=>bn.put _ _) (bn.ite (bn.M λ_ _=>bn.M λ_ _=>V' _ _ _ _ _) (bn.M λ_ _=>bn.put _ _)))))
theorem ZA(s):bn (mQ X E' s):=bn.M λ_ _=>bn.put _ _
theorem FX(j':Int)(at_:Nat)(s):bn (bracketed X E' j' at_ s):=bn.M λ_ _=>bn.M λ_ _=>bn.M λ_ _=>bn.put _ _
theorem Wt(s):bn (kD X E' s):=bn.M λ_ _=>bn.M λ_ _=>bn.put _ _
theorem Wu(s):bn (mz X E' s):=
 bn.ite (bn.M λ_ _=>bn.put _ _) (bn.M λ_ _=>bn.ite (bn.M λ_ _=>bn.M λ_ _=>bn.M λ_ _=>bn.put _ _) (bn.ite (bn.M λ_ _=>bn.M λ_ _=>bn.put _ _) (bn.M λ_ _=>bn.M λ_ _=>bn.M λ_ _=>bn.M λ_ _=>bn.put _ _)))
theorem Jr(at_:Nat)(s):bn (choice X E' at_ s):=bn.M λ_ _=>bn.M λ_ _=>bn.M λ_ _=>bn.put _ _
theorem PB(at_:Nat)(s):bn (made X E' at_ s):=
 bn.M λ_ _=>bn.M λ_ _=>bn.M λ_ _=>bn.ite (bn.ite (bn.M λ_ _=>bn.put _ _) (bn.M λ_ _=>bn.put _ _)) (bn.M λ_ _=>bn.put _ _)
theorem Oz(x:List UInt8)(j':Int)(s):bn (ky X E' x j' s):=bn.M λ_ _=>bn.M λ_ _=>bn.put _ _
theorem QC(s):bn (jY X E' s):=bn.M λ_ _=>bn.M λ_ _=>bn.put _ _
theorem O8(at_:Nat)(s):bn (typed X E' at_ s):=bn.M λ_ _=>bn.ite (bn.M λ_ _=>bn.put _ _) (bn.M λ_ _=>bn.M λ_ _=>bn.put _ _)
theorem OZ(at_:Nat)(s):bn (method X E' at_ s):=
 bn.M λ_ _=>bn.M λ_ _=>bn.M λ_ _=>bn.M λ_ _=>bn.M λ_ _=>bn.M λ_ _=>bn.M λ_ _=>bn.M λ_ _=>bn.put _ _
theorem Jv(s):bn (j9 X E' s):=bn.ite (O8 _ _) (bn.M λ_ _=>bn.ite (OZ _ _) (bn.M λ_ _=>bn.M λ_ _=>bn.M λ_ _=>bn.put _ _))
theorem Xv(s):bn (oa X E' s):=
 bn.M λ_ _=>bn.M λ_ _=>bn.M λ_ _=>bn.ite (bn.ite (bn.M λ_ _=>bn.M λ_ _=>bn.put _ _) (bn.M λ_ _=>bn.M λ_ _=>bn.put _ _)) (bn.put _ _)
include h
theorem aaZ(s):bn (ja X E' s):=by unfold ja;refine bn.ite (bn.M λ_ _=>bn.put _ _) (bn.ite (FX _ _ _) (bn.ite (FX _ _ _) (bn.ite (FX _ _ _) (bn.ite (h _ rfl _) (bn.ite (bn.M λ_ _=>bn.M λ_ _=>bn.put _ _) (bn.ite (bn.ite (bn.put _ _) (bn.M λ_ _=>bn.put _ _)) (bn.ite (bn.put _ _) (bn.ite (Jr _ _) (bn.ite (bn.M λ_ _=>bn.put _ _) (bn.M λ_ _=>?_))))))))));exact bn.ite (bn.M λ_ _=>bn.put _ _) (bn.ite (bn.M λ_ _=>bn.put _ _) (bn.put _ _))
theorem ZB(k a:Nat)(s):bn (mS X E' k a s):=bn.ite (bn.one _ _) (bn.ite (bn.M λ_ _=>bn.M λ_ _=>h _ rfl _) (bn.one _ _))
theorem Jp(s):bn (kA X E' s):=by
 unfold kA;refine bn.ite (bn.put _ _) (bn.ite (bn.put _ _) (bn.ite (bn.put _ _) (bn.ite (bn.put _ _) (bn.ite (bn.M λ_ _=>bn.M λ_ _=>bn.put _ _) (bn.ite (bn.M λ_ _=>bn.M λ_ _=>bn.M λ_ _=>bn.put _ _) (bn.ite (PB _ _) (bn.ite ?_ (bn.M λ_ _=>bn.put _ _))))))));refine bn.M λ_ s1=>?_;intro v s' bQ;cases T:E' (.b6 0) s1 with
 |o=>rw[T] at bQ;cases bQ
 |ok v2 s2=>
  obtain⟨a,rfl⟩:=h (.b6 0) rfl s1 v2 s2 T;rw[T,jt] at bQ;cases bQ;exact⟨a,rfl⟩
theorem ZC(s):bn (jV X E' s):=bn.ite (Oz _ _ _) (bn.ite (Oz _ _ _) (bn.ite (Oz _ _ _) (bn.M λ_ _=>h _ rfl _)))
theorem aa0(e:Nat)(s):bn (oU X E' e s):=
 bn.ite (bn.one _ _) (bn.ite (bn.M λ_ _=>bn.M λ_ _=>h _ rfl _) (bn.ite (bn.ite (bn.M λ_ _=>bn.M λ_ _=>bn.M λ_ _=>bn.M λ_ _=>h _ rfl _) (bn.M λ_ _=>bn.M λ_ _=>h _ rfl _)) (bn.one _ _)))
end
def p5(X:B.Src)(n):By (run X n):=by
 induction n with
 |zero=>intro f _ s v s' h;cases h
 |succ n cB=>
  intro f aI s;cases f with
  |typ=>exact ac7 s
  |block=>exact ZA s
  |stmt=>exact aaZ cB s
  |branch=>exact Xv s
  |b6 k=>exact bn.M λ_ _=>cB _ rfl _
  |iy k a=>exact ZB cB k a s
  |unary=>exact ZC cB s
  |part e=>exact aa0 cB e s
  |jX d'=>cases aI
  |params d'=>cases aI
  |exprs d'=>cases aI
  |stmts d'=>cases aI
  |body d'=>cases aI
  |cases d'=>cases aI
  |fields d'=>cases aI
  |j_ d'=>cases aI
  |decls d'=>cases aI
end W
namespace W
open B (aP Src ez ee ch AT)
open aa (Tok)
structure eg (X:B.Src)(x:Int×Nat)(b:Nat)(s:ak):Prop where
 w:s.w=some x
 i:s.p.i=D X.bu
 n:D s.p.aj<=b
def fy (X:B.Src)(r:aV)(x:Int×Nat)(b:Nat):Prop:= ∃v s,r= .ok v s/\eg X x b s
section
variable{X:B.Src}{x:Int×Nat}{b b1 b2:Nat}{s:ak}{r:aV}{f:List Nat->ak->aV}
def eg.to(h:eg X x b s)(G:b<=b1):eg X x b1 s:=⟨h.w,h.i,hg h.n G⟩
def fy.to(h:fy X r x b)(G:b<=b1):fy X r x b1:=by obtain⟨v,s,R,T⟩:=h;exact⟨v,s,R,T.to G⟩
def fy.M(h:fy X r x b)(aI: ∀v s,eg X x b s->fy X (f v s) x b2):fy X (r.M f) x b2:=by obtain⟨v,s,rfl,T⟩:=h;exact aI v s T
def fy.ok(h:eg X x b s)(v:List Nat):fy X (.ok v s) x b:=⟨v,s,rfl,h⟩
def eg.aM(h:eg X x b s):aM X s=iz X:=by unfold W.aM B.aM;rw[h.i,cd,pr J];rfl
def eg.bw(h:eg X x b s)(k):bw X s k=false:=by have e:B.aM X s.p=iz X:=h.aM;unfold W.bw B.bw;rw[e];simp[iz]
def eg.kO(h:eg X x b s)(k):kO X s k=false:=by unfold W.kO;rw[h.aM];simp[iz]
def eg.qu(h:eg X x b s)(k):qu X s k=false:=by unfold W.qu;rw[h.aM];simp[iz]
def eg.hZ(h:eg X x b s):hZ X s=false:=by have e:B.aM X s.p=iz X:=h.aM;unfold W.hZ B.hZ;rw[e];simp[iz]
def eg.mB(h:eg X x b s):mB X s=false:=by have e:B.aM X s.p=iz X:=h.aM;unfold W.mB B.mB;rw[e];simp[iz]
def eg.l0(h:eg X x b s):l0 X s=false:=by unfold W.l0;rw[h.aM];rfl
def eg.Dp(h:eg X x b s):gJ s=true:=by unfold gJ;rw[h.w];rfl
def eg.ends(h:eg X x b s):tT X s=false:=by unfold tT;rw[h.bw,h.bw,h.bw];rfl
def eg.stop(h:eg X x b s)(c:Int):eg X x b (stop X c s):=⟨by unfold W.stop;rw[h.w];rfl,rfl,h.n⟩
def eg.down(h:eg X x b s):eg X x b (down s):=⟨h.w,h.i,h.n⟩
def eg.up(h:eg X x b s):eg X x b (up s):=⟨h.w,h.i,h.n⟩
def eg.ns(h:eg X x b s)(k:List UInt8):eg X x b (ns X k s):=by unfold W.ns;rw[h.bw];exact h.stop 3
def eg.wD(h:eg X x b s)(k:List UInt8):eg X x b (wD X k s):=by unfold W.wD;rw[ao (by rw[h.bw];simp)];exact h.up.ns k
def eg.zt(h:eg X x b s):eg X x b (zt X s):=by unfold W.zt;rw[h.hZ];exact h.stop 3
def ad3(h:eg X x b s)(k:List UInt8):fy X (take X k s) x b:=fy.ok (h.ns k) _
def acN(h:eg X x b s)(k:List UInt8):fy X (enter X k s) x b:=fy.ok (h.wD k) _
def acO(h:eg X x b s)(k:List UInt8):fy X (dU X k s) x b:=fy.ok (h.ns k).down _
def ad4(h:eg X x b s):fy X (name X s) x b:=fy.ok h.zt _
def KZ(h:eg X x b s)(G:b<room)(Z:aP):fy X (put Z s) x (b+1):=by
 unfold put;rw[aS (Nat.lt_of_le_of_lt h.n G)];have T:D (s.p.aj++[Z])<=b+1:=by rw[dW];have:=h.n;simp;omega
 exact⟨_,_,rfl,h.w,h.i,T⟩
def fy.yV{c} [Decidable c]{y bp}(hc: ¬c)(h:fy X bp x b):fy X (if c then y else bp) x b:=by rw[ao hc];exact h
def fy.Nq{c} [Decidable c]{y bp}(hc:c)(h:fy X y x b):fy X (if c then y else bp) x b:=by rw[aS hc];exact h
end
def i'(r:aV)(f g:List Nat->ak->aV):(r.M f).M g=r.M λv s=>(f v s).M g:=by cases r<;>rfl
def n8{c} [Decidable c](a b:aV)(f:List Nat->ak->aV):(if c then a else b).M f=if c then a.M f else b.M f:=by split<;>rfl
def lQ{b}(h:b=false): ¬b=true:=by simp[h]
def ajX{b q}(h:b=false): ¬(b=true/\q):=by simp[h]
section
variable{X:B.Src}{x:Int×Nat}{b:Nat}{s s2:ak}
def eg.or(h:eg X x b s)(c:Bool):(c||gJ s)=true:=by rw[h.Dp];simp
def eg.lt(h:eg X x b s): ¬s.p.i<D X.bu:=by rw[h.i];omega
def eg.dec(h:eg X x b s)(c:Bool): ¬(c&&!gJ s)=true:=by rw[h.Dp];simp
def eg.ite{c} [Decidable c](h:eg X x b s)(T:eg X x b s2):eg X x b (if c then s else s2):=by split<;>assumption
def wr(H:eg X x b s:=by(with_reducible repeat' first|exact‹eg _ _ _ _› |apply eg.down|apply eg.ite|apply eg.stop);done):eg X x b s:=H
end
def A9{p:Prop}(H:p:=by first|omega|(simp only[FV,CA] at*;omega)):p:=H
def wk{p:Prop}(H:p:=by
 with_reducible repeat' first
  |exact(fy.ok wr _).to A9
  |exact(KZ wr A9 _).to A9
  |exact(LV _ _ _ _ wr A9).to A9
  |refine fy.M (ad3 wr _) λ_ _ _=>?_
  |refine fy.M (acN wr _) λ_ _ _=>?_
  |refine fy.M (acO wr _) λ_ _ _=>?_
  |refine fy.M (ad4 wr) λ_ _ _=>?_
  |refine fy.M (KZ wr A9 _) λ_ _ _=>?_
  |refine fy.M (LV _ _ _ _ wr A9) λ_ _ _=>?_
  |refine fy.M (fy.Nq (eg.Dp wr) (fy.ok wr _)) λ_ _ _=>?_
  |refine fy.Nq (eg.Dp wr) ?_
  |refine fy.Nq (eg.or wr _) ?_
  |refine fy.yV (lQ (eg.bw wr _)) ?_
  |refine fy.yV (lQ (eg.kO wr _)) ?_
  |refine fy.yV (lQ (eg.qu wr _)) ?_
  |refine fy.yV (lQ (eg.mB wr)) ?_
  |refine fy.yV (lQ (eg.l0 wr)) ?_
  |refine fy.yV (ajX (eg.hZ wr)) ?_
  |refine fy.yV (eg.lt wr) ?_
  |refine fy.yV (eg.dec wr _) ?_
 done):p:=H
structure h1 (t:aa.Tok):Prop where
 aX:t.j'≠1->t.j'≠3->t.j'≠4->sJ.contains t.O=false
 sign:t.j'=3->gD.contains t.O=true
 word:t.j'=4->aa.words.contains t.O=true
def em (s:B.ak):ak:=⟨s,none⟩
def dF (X:B.Src)(b:Nat)(r:B.aV)(q:aV):Prop:=
 match r with
 | .o=>True
 | .bL c j=>fy X q (c,j) b
 | .ok v s=>q= .ok v (em s)
structure aO (X:B.Src)(rp:B.Rec)(rr:Rec)(V:Nat)(s0:B.ak):Prop where
 akv: ∀f s,AP X s->0<=s.bR->s.bR<=30->dF X V (rp f s) (rr f (em s))
 wk: ∀f s x b,eg X x b s->b+43<=room->fy X (rr f s) x (b+3)
 FW:B.Grow X rp
 F2:Dw rp
 fA:D X.bu<=12001
 wf: ∀t∈X.bu,h1 t
 q:AP X s0
 dV:100000<=V
 room:V+60<=room
section
variable{X:B.Src}{rp:B.Rec}{rr:Rec}{V b1 b2:Nat}{s0 s:B.ak}{r:B.aV}{q:aV}{a a0:Nat}{b eS:Int}{d:Int}{f:List Nat->B.ak->B.aV}{g:List Nat->ak->aV}
def dF.mono(h:dF X b1 r q)(G:b1<=b2):dF X b2 r q:=by
 cases r with
 |o=>trivial
 |bL c j=>exact fy.to h G
 |ok v s=>exact h
def dF.M(h:dF X b1 r q)(bB:dr r d)(aB:ee X r s a b)(aH:ez X s0 s a0 eS)(aI: ∀v s1,ez X s0 s1 (a0+a) (eS+b)->s1.bR=d->dF X b2 (f v s1) (g v (em s1)))(hw: ∀v s x,eg X x b1 s->fy X (g v s) x b2):dF X b2 (r.M f) (q.M g):=by
 cases r with
 |o=>trivial
 |bL c j=>exact fy.M h λv s hs=>hw v s _ hs
 |ok v s1=>
  have e:q= .ok v (em s1):=h;subst e;exact aI v s1 (aH.trans (aB v s1 rfl)) (bB v s1 rfl)
def dF.ite{c} [Decidable c]{x y fc k_}(R:c->dF X b1 x fc)(T: ¬c->dF X b1 y k_):dF X b1 (if c then x else y) (if c then fc else k_):=by
 split
 .rename_i h;exact R h
 .rename_i h;exact T h
def dF.BA{c Jh} [Decidable c] [Decidable Jh]{x y fc k_}(hc:c↔Jh)(R:c->dF X b1 x fc)(T: ¬c->dF X b1 y k_):dF X b1 (if c then x else y) (if Jh then fc else k_):=by
 by_cases h:c
 .rw[aS h,aS (hc.1 h)];exact R h
 .rw[ao h,ao (λe=>h (hc.2 e))];exact T h
def dF.put(Z:aP):dF X b1 (B.put Z s) (W.put Z (em s)):=by
 unfold B.put;split
 .show W.put Z (em s)=_;unfold W.put;rw[aS (by show D s.aj<room;unfold W.room;omega)];rfl
 .trivial
def aO.TA(c:aO X rp rr V s0)(h:ez X s0 s a b)(G: -1<=b:=by omega):D s.aj<=V:=by have T:=h.g;have ah:=h.le c.q.le;have bJ:=c.q.fA;have dH:=c.fA;have fE:=c.dV;omega
def aO.stop(c:aO X rp rr V s0)(h:ez X s0 s a b)(e:Int)(G: -1<=b:=by omega):eg X (e,(B.aM X s).an) V (W.stop X e (em s)):=⟨rfl,rfl,show D s.aj<=V from c.TA h⟩
def aO.take(c:aO X rp rr V s0)(h:ez X s0 s a b)(k:List UInt8)(G: -1<=b:=by omega):dF X V (B.take X k s) (W.take X k (em s)):=by
 unfold B.take;split
 .rename_i e;show W.take X k (em s)=_;unfold W.take ns;rw[aS (show bw X (em s) k=true from e)];rfl
 .rename_i e;show fy X _ _ _;unfold W.take ns;rw[ao (show¬bw X (em s) k=true from e)];exact fy.ok (c.stop h 3) _
def RQ(aH: -5<=s.bR)(R:s.bR<=35):down (em s)=em (B.down s):=by unfold down em B.down;have:IntKind.i64.wrap (s.bR- 1)=s.bR- 1:=dI _ J;simp only[this]
def afb(aH: -5<=s.bR)(R:s.bR<=35):up (em s)=em (B.up s):=by unfold up em B.up;have:IntKind.i64.wrap (s.bR+1)=s.bR+1:=dI _ J;simp only[this]
def aO.dU(c:aO X rp rr V s0)(h:ez X s0 s a b)(k:List UInt8)(G: -1<=b)(aH:0<=s.bR)(R:s.bR<=30):dF X V (B.dU X k s) (W.dU X k (em s)):=by
 unfold B.dU B.take;split
 .rename_i e;show W.dU X k (em s)=_;unfold W.dU Ko ns;rw[aS (show bw X (em s) k=true from e)];show aV.ok [] (down (em (B.bs s)))=_;rw[RQ (by show-5<=s.bR;omega) (by show s.bR<=35;omega)]
 .rename_i e;show fy X _ _ _;unfold W.dU Ko ns;rw[ao (show¬bw X (em s) k=true from e)];exact fy.ok (c.stop h 3).down _
def dF.enter(c:aO X rp rr V s0){k}(h:ez X s0 s a0 eS)(G: -1<=eS)(aH:0<=s.bR)(R:s.bR<=30)(aI: ∀v s1,ez X s0 s1 (a0+1) (eS+2)->s1.bR=s.bR+1->s1.bR<=30->dF X b2 (f v s1) (g v (em s1)))(hw: ∀v s x,eg X x V s->fy X (g v s) x b2):dF X b2 ((B.enter X k s).M f) ((W.enter X k (em s)).M g):=by
 have aB:=ee.enter (X:=X) k s;have bB:=dr.enter X k s;unfold B.enter at aB bB|-;unfold W.enter wD;by_cases e:B.bw X s k=true/\s.bR=30
 .rw[aS e,aS (show bw X (em s) k=true/\(em s).p.bR=30 from e)];exact hw _ _ _ (c.stop h 4)
 .rw[ao e] at aB bB|-;rw[ao (show¬(bw X (em s) k=true/\(em s).p.bR=30) from e),afb J J];unfold B.take at aB bB|-;unfold ns;by_cases aE:B.bw X s k=true
  .rw[aS aE] at aB bB|-;rw[aS (show bw X (em (B.up s)) k=true from aE)];have g1:=aB _ _ rfl;have d1:=bB _ _ rfl;have bU:s.bR≠30:=λcL=>e ⟨aE,cL⟩;exact aI _ _ (h.trans g1) d1 (by rw[d1];omega)
  .rw[ao aE];rw[ao (show¬bw X (em (B.up s)) k=true from aE)];exact hw _ _ _ ⟨rfl,rfl,show D s.aj<=V from c.TA h⟩
def dF.name(c:aO X rp rr V s0)(h:ez X s0 s a0 eS)(G: -1<=eS)(aI:jw X (em s)=(B.aM X s).O->ez X s0 (B.bs s) (a0+1) (eS+2)->dF X b2 (f [] (B.bs s)) (g [] (em (B.bs s))))(hw: ∀v s x,eg X x V s->fy X (g v s) x b2):dF X b2 ((B.name X s).M f) ((W.name X (em s)).M g):=by
 unfold B.name W.name zt;by_cases e:B.hZ X s=true
 .rw[aS e,aS (show hZ X (em s)=true from e)];exact aI (by unfold jw;rw[aS (show hZ X (em s)=true from e)];rfl) (h.trans (ez.bs (QZ e)))
 .rw[ao e,ao (show¬hZ X (em s)=true from e)];exact hw _ _ _ (c.stop h 3)
def aO.go(c:aO X rp rr V s0)(h:ez X s0 s a b)(f:B.Fn)(G:0<=b)(aH:0<=s.bR)(R:s.bR<=30):dF X V (rp f s) (rr f (em s)):=by have T:=h.g;have bJ:=c.q.fA;exact c.akv f s ⟨h.le c.q.le,by omega⟩ aH R
def aO.aM(c:aO X rp rr V s0)(s):h1 (B.aM X s):=by
 unfold B.aM;rw[cd];cases e:X.bu[s.i]? with
 |none=>exact⟨λ_ _ _=>rfl,λh=>absurd (show(0:Int)=3 from h) aN,λh=>absurd (show(0:Int)=4 from h) aN⟩
 |some t=>exact c.wf t (hX e)
def ad5: ∀t∈gD,aa.words.contains t=false:=aN
def ad6: ∀t∈aa.words,gD.contains t=false:=aN
def aO.kO(c:aO X rp rr V s0)(s:B.ak){k}(U:aa.words.contains k=true):kO X (em s) k=B.bw X s k:=by
 have h:=c.aM s;unfold W.kO B.bw;show((B.aM X s).j'==4&&(B.aM X s).O==k)=((B.aM X s).O==k&&((B.aM X s).j'==3||(B.aM X s).j'==4));cases e:((B.aM X s).O==k) with
 |false=>rw[Bool.and_false,Bool.false_and]
 |true=>
  by_cases cL:(B.aM X s).j'=4
  .rw[cL];rfl
  .by_cases bU:(B.aM X s).j'=3
   .have R:=h.sign bU;rw[eq_of_beq e] at R;have T:=ad6 k (List.contains_iff_mem.1 U);rw[R] at T;cases T
   .have f3:((B.aM X s).j'==3)=false:=(by simpa using bU);have f4:((B.aM X s).j'==4)=false:=(by simpa using cL);rw[f3,f4];rfl
def aO.qu(c:aO X rp rr V s0)(s:B.ak){k}(U:gD.contains k=true):qu X (em s) k=B.bw X s k:=by
 have h:=c.aM s;unfold W.qu B.bw;show((B.aM X s).j'==3&&(B.aM X s).O==k)=((B.aM X s).O==k&&((B.aM X s).j'==3||(B.aM X s).j'==4));cases e:((B.aM X s).O==k) with
 |false=>rw[Bool.and_false,Bool.false_and]
 |true=>
  by_cases bU:(B.aM X s).j'=3
  .rw[bU];rfl
  .by_cases cL:(B.aM X s).j'=4
   .have R:=h.word cL;rw[eq_of_beq e] at R;have T:=ad5 k (List.contains_iff_mem.1 U);rw[R] at T;cases T
   .have f3:((B.aM X s).j'==3)=false:=(by simpa using bU);have f4:((B.aM X s).j'==4)=false:=(by simpa using cL);rw[f3,f4];rfl
def aO.l0(c:aO X rp rr V s0)(s):l0 X (em s)=B.l0 X s:=by
 have h:=c.aM s;unfold W.l0 B.l0;show(sJ.contains (B.aM X s).O&&(B.aM X s).j' !=1||(B.aM X s).j'==1)=(nw X s sJ||(B.aM X s).j'==1);by_cases ag:(B.aM X s).j'=1
 .simp[ag]
 .have aE:nw X s sJ=(sJ.contains (B.aM X s).O&&((B.aM X s).j'==3||(B.aM X s).j'==4)):=by
   unfold nw B.bw sJ;generalize((B.aM X s).j'==3||(B.aM X s).j'==4)=bp;generalize(B.aM X s).O=t;cases bp
   .simp
   .simp only[Bool.and_true,List.any_cons,List.any_nil,Bool.or_false,xH,List.contains_nil]
  rw[aE];by_cases bU:(B.aM X s).j'=3
  .simp[bU]
  .by_cases cL:(B.aM X s).j'=4
   .simp[cL]
   .have R:=h.aX ag bU cL;rw[R];rfl
def dF.ahg(c:aO X rp rr V s0){k x y fc k_}(U:aa.words.contains k=true)(R:B.bw X s k=true->dF X b1 x fc)(T: ¬B.bw X s k=true->dF X b1 y k_):dF X b1 (if B.bw X s k then x else y) (if kO X (em s) k then fc else k_):=
 dF.BA (by rw[c.kO s U]) R T
def dF.ahh(c:aO X rp rr V s0){k x y fc k_}(U:gD.contains k=true)(R:B.bw X s k=true->dF X b1 x fc)(T: ¬B.bw X s k=true->dF X b1 y k_):dF X b1 (if B.bw X s k then x else y) (if qu X (em s) k then fc else k_):=
 dF.BA (by rw[c.qu s U]) R T
def dF.ahi(c:aO X rp rr V s0){x y fc k_}(R:B.l0 X s=true->dF X b1 x fc)(T: ¬B.l0 X s=true->dF X b1 y k_):dF X b1 (if B.l0 X s then x else y) (if l0 X (em s) then fc else k_):=
 dF.BA (by rw[c.l0 s]) R T
def dF.agx{c x y fc k_}(R:c=true->dF X b1 x fc)(T: ¬c=true->dF X b1 y k_):dF X b1 (if c then x else y) (if c||gJ (em s) then fc else k_):=
 dF.BA (by rw[show gJ (em s)=false from rfl,Bool.or_false]) R T
def dF.agy{x y fc k_}(R:dF X b1 x fc)(T:dF X b1 y k_):dF X b1 (if nw X s [wo,wB,dm] then x else y) (if tT X (em s)||gJ (em s) then fc else k_):=
 dF.BA (by show _↔((B.bw X s wo||B.bw X s wB||B.bw X s dm)||false)=true;unfold nw;simp[or_assoc]) (λ_=>R) (λ_=>T)
def dF.agz{x y fc k_}(R:dF X b1 x fc)(T:dF X b1 y k_):dF X b1 (if s.i<D X.bu then x else y) (if decide ((em s).p.i<D X.bu)&&!gJ (em s) then fc else k_):=
 dF.BA (by show _↔((decide (s.i<D X.bu)&&!false)=true);simp) (λ_=>R) (λ_=>T)
def dF.aj0{x y}(h:dF X b1 r y):dF X b1 r (if gJ (em s) then x else y):=h
def dF.aku{k u f}(R: ¬B.bw X s k=true->dF X b2 u (rr f (em s)))(T:dF X b2 (B.fail X 3 s) (rr f (stop X 3 (em s)))):dF X b2 (if B.bw X s k then B.fail X 3 s else u) (rr f (if bw X (em s) k then stop X 3 (em s) else em s)):=by
 by_cases e:B.bw X s k=true
 .rw[aS e,aS (show bw X (em s) k=true from e)];exact T
 .rw[ao e,ao (show¬bw X (em s) k=true from e)];exact R e
def aeM: ∀t∈aa.words,ub t=0:=aN
def aO.hn(c:aO X rp rr V s0)(s):hn X (em s)=B.hn X s:=by
 have h:=c.aM s;have e: ∀k,B.bw X s k=((B.aM X s).O==k&&((B.aM X s).j'==3||(B.aM X s).j'==4)):=λ_=>rfl;unfold W.hn level;show(if(B.aM X s).j'=3 then ub (B.aM X s).O else 0)=_;by_cases bU:(B.aM X s).j'=3
 .rw[aS bU];unfold B.hn nw ub;simp only[e,bU];simp
 .rw[ao bU];by_cases cL:(B.aM X s).j'=4
  .have R:=aeM _ (List.contains_iff_mem.1 (h.word cL));rw[<-R];unfold B.hn nw ub;simp only[e,cL];simp
  .have gi: ∀k,B.bw X s k=false:=λk=>by rw[e];simp[bU,cL]
   unfold B.hn nw;simp[gi]
def aO.ain(c:aO X rp rr V s0){f}(h:ez X s0 s a b)(G:0<=b)(aH:0<=s.bR)(R:s.bR<=30):dF X (V+20) (rp f s) (rr f (em s)):=(c.go h f G aH R).mono J
def aO.aK(c:aO X rp rr V s0){k}(h:ez X s0 s a b)(G: -1<=b)(aI: ∀v s1,ez X s0 s1 (a+1) (b+2)->s1.bR=s.bR->dF X b2 (f v s1) (g v (em s1)))(hw: ∀v s x,eg X x V s->fy X (g v s) x b2):dF X b2 ((B.take X k s).M f) ((W.take X k (em s)).M g):=dF.M (c.take h k G) (dr.take X k s) (ee.take k s) h aI hw
def aO.C2(c:aO X rp rr V s0){k}(h:ez X s0 s a b)(G: -1<=b)(aH:0<=s.bR)(R:s.bR<=30)(aI: ∀v s1,ez X s0 s1 (a+1) (b+2)->s1.bR=s.bR- 1->dF X b2 (f v s1) (g v (em s1)))(hw: ∀v s x,eg X x V s->fy X (g v s) x b2):dF X b2 ((B.dU X k s).M f) ((W.dU X k (em s)).M g):=dF.M (c.dU h k G aH R) (dr.dU X k s) (ee.dU k s) h aI hw
def aO.rc(c:aO X rp rr V s0){i}(aB:ee X (rp i s) s a0 eS)(h:ez X s0 s a b)(G:0<=b)(aH:0<=s.bR)(R:s.bR<=30)(aI: ∀v s1,ez X s0 s1 (a+a0) (b+eS)->s1.bR=s.bR->dF X b2 (f v s1) (g v (em s1)))(hw: ∀v s x,eg X x V s->fy X (g v s) x b2):dF X b2 ((rp i s).M f) ((rr i (em s)).M g):=dF.M (c.go h i G aH R) (c.F2 i s) aB h aI hw
def aO.vo(c:aO X rp rr V s0){i u}(aB:ee X (rp i s) s a0 eS)(h:ez X s0 s a b)(G:0<=b)(aH:0<=s.bR)(R:s.bR<=30)(aI: ∀v s1,ez X s0 s1 (a+a0) (b+eS)->s1.bR=s.bR->dF X b2 (f v s1) (g v (em s1)))(hw: ∀v s x,eg X x V s->fy X (g v s) x b2):dF X b2 ((rp i s).M f) ((if gJ (em s) then u else rr i (em s)).M g):=c.rc aB h G aH R aI hw
def aO.aj9(c:aO X rp rr V s0){Z}(h:ez X s0 s a b)(aI: ∀v s1,ez X s0 s1 (a+0) (b+ -1)->s1.bR=s.bR->dF X b2 (f v s1) (g v (em s1)))(hw: ∀v s x,eg X x V s->fy X (g v s) x b2):dF X b2 ((B.put Z s).M f) ((W.put Z (em s)).M g):=dF.M (b1:=V) (dF.put Z) (dr.put Z s) (ee.put Z) h aI hw
def dF.akw{k}(e:B.bw X s k=true)(h: ∀v,dF X b2 r (g v (em (B.bs s)))):dF X b2 r ((take X k (em s)).M g):=by unfold W.take ns;rw[aS (show bw X (em s) k=true from e)];exact h _
def aO.fl(c:aO X rp rr V s0){e}(h:ez X s0 s a b)(G: -1<=b)(hw:eg X (e,(B.aM X s).an) V (W.stop X e (em s))->fy X q (e,(B.aM X s).an) b2):dF X b2 (B.fail X e s) q:=hw (c.stop h e G)
def jD{p:Prop}(H:p:=by first|omega|(simp only[A3,AY,Jw] at*;omega)):p:=H
def aeN(s):bs (em s)=em (B.bs s):=rfl
def ad7(s):ll (em s)=em (B.ll s):=rfl
def aa1(c:aO X rp rr V s)(f:B.Fn)(lz:0<=s.bR)(k4:s.bR<=30):dF X (V+20) (B.kE X rp f s) (kE X rr f (em s)):=by
 have afj:=c.room;have LV:=c.wk;cases f<;>dsimp only[B.pointer,B.named,B.result,B.sig,B.l5,B.mQ,B.bracketed,B.kD,B.mz,B.choice,B.ja,B.oa,B.mS,B.made,B.kA,B.ky,B.jV,B.oU,B.jY,B.typed,B.method,B.j9,B.list,B.items,B.l3,B.kh,B.fL,B.kE,W.pointer,W.named,W.result,W.sig,W.l5,W.mQ,W.bracketed,W.kD,W.mz,W.choice,W.ja,W.oa,W.mS,W.made,W.kA,W.ky,W.jV,W.oU,W.jY,W.typed,W.method,W.j9,W.list,W.items,W.l3,W.kh,W.fL,W.kE,id]<;>(try simp only[B.i',B.n8,B.jt,JE,i',n8,jt])<;>repeat' first
  |exact dF.put _
  |exact(rfl:(_:aV)=_)
  |rw[ad7]
  |rw[aeN]
  |rw[RQ jD jD]
  |rw[c.hn]
  |refine dF.aj0 ?_
  |refine dF.ahg c rfl (λ_=>?_) (λ_=>?_)
  |refine dF.ahh c rfl (λ_=>?_) (λ_=>?_)
  |refine dF.ahi c (λ_=>?_) (λ_=>?_)
  |refine dF.agx (λ_=>?_) (λ_=>?_)
  |refine dF.agy ?_ ?_
  |refine dF.agz ?_ ?_
  |refine dF.aku (λ_=>?_) ?_
  |refine dF.ite (λ_=>?_) (λ_=>?_)
  |(apply aO.ain c;exact B.ch;omega;exact jD;exact jD)
  |(apply dF.enter c;exact B.ch;omega;exact jD;exact jD;rotate_left;intro _ _ _ _;exact wk;intro _ _ _ _ _)
  |(apply dF.name c;exact B.ch;omega;rotate_left;intro _ _ _ _;exact wk;intro t _;try rw[t])
  |(apply aO.aK c;exact B.ch;omega;rotate_left;intro _ _ _ _;exact wk;intro _ _ _ _)
  |(apply aO.C2 c;exact B.ch;omega;exact jD;exact jD;rotate_left;intro _ _ _ _;exact wk;intro _ _ _ _)
  |(apply aO.aj9 c;exact B.ch;rotate_left;intro _ _ _ _;exact wk;intro _ _ _ _)
  |(apply aO.rc c (AT c.FW _ _);exact B.ch;omega;exact jD;exact jD;rotate_left;intro _ _ _ _;exact wk;intro _ _ _ _)
  |(apply aO.vo c (AT c.FW _ _);exact B.ch;omega;exact jD;exact jD;rotate_left;intro _ _ _ _;exact wk;intro _ _ _ _)
  |(apply dF.akw;assumption;intro _)
  |(apply aO.fl c;exact B.ch;omega;intro _;exact wk)
end
def FV:B.Fn->Nat
 | .stmt=>4
 | .branch=>4
 | .b6 _=>3
 | .unary=>2
 | .block=>2
 |_=>1
def CA:B.Fn->Nat
 | .stmt=>2
 | .branch=>3
 | .b6 _=>1
 | .unary=>1
 | .block=>1
 | .typ=>1
 |_=>0
def ad8{X}(n:Nat): ∀(f:B.Fn) (s:ak) (x:Int×Nat) (b:Nat),eg X x b s->b+CA f<room/\FV f<=n->fy X (run X n f s) x (b+CA f):=by
 induction n with
 |zero=>intro f s x b _ h;cases f<;>simp[FV] at h
 |succ n LV=>
  intro f s x b h G;cases f<;>show fy X (kE X (run X n) _ s) x _<;>dsimp only[W.pointer,W.named,W.result,W.sig,W.l5,W.mQ,W.bracketed,W.kD,W.mz,W.choice,W.ja,W.oa,W.mS,W.made,W.kA,W.ky,W.jV,W.oU,W.jY,W.typed,W.method,W.j9,W.list,W.items,W.l3,W.kh,W.fL,W.kE,CA,FV] at G|- <;>(try simp only[i',n8,jt])<;>exact wk
def aeO{X}(m:Nat)(f:B.Fn)(s)(x:Int×Nat)(b:Nat)(h:eg X x b s)(G:b+43<=room):fy X (run X (m+4) f s) x (b+3):=
 (ad8 (m+4) f s x b h (by cases f<;>simp only[FV,CA]<;>omega)).to (by cases f<;>simp[CA])
def ad9{X}(hl:D X.bu<=12001)(Nr: ∀t∈X.bu,h1 t)(n:Nat)(ax:n<=500000)(f:B.Fn)(s:B.ak)(q:AP X s)(aH:0<=s.bR)(R:s.bR<=30):dF X (100000+20*n) (B.run X n f s) (run X (n+4) f (em s)):=by
 induction n generalizing f s with
 |zero=>trivial
 |succ n cB=>
  have au:room=20000000:=rfl;exact(aa1 (rp:=B.run X n) (rr:=run X (n+4)) (V:=100000+20*n) ⟨λf s q aH R=>cB J f s q aH R,λf s x b hw G=>aeO n f s x b hw J,PE X n,mv X n,hl,Nr,q,by omega,by omega⟩ f aH R).mono J
def Xs{X}(hl:D X.bu<=12001)(Nr: ∀t∈X.bu,h1 t):dF X 1200000 (B.program X B.fuel) (program X (B.fuel+4)):=by
 have h:=ad9 hl Nr B.fuel (by unfold B.fuel;omega) (.decls []) B.start ⟨by show 0<=_;omega,by show 0<=_;omega⟩ aN aN;unfold B.program program;cases e:B.run X B.fuel (.decls []) B.start with
 |o=>trivial
 |bL c j=>
  rw[e] at h;exact fy.M h λv s hs=>(KZ hs (by unfold W.room B.fuel;omega) _).to (by unfold B.fuel;omega)
 |ok v s=>
  rw[e] at h;have aE:run X (B.fuel+4) (.decls []) start= .ok v (em s):=h;rw[aE];exact dF.put _
end W
namespace W
open aa (Tok)
def J3{s i j}(ay:i<D s)(bg:i<j): ∃r,aa.cut s i j=Y s i 0::r:=by unfold aa.cut;rw[kS ay];obtain⟨m,hm⟩: ∃m,j-i=m+1:=⟨j-i- 1,by omega⟩;rw[hm,List.take_succ_cons];refine⟨(s.drop (i+1)).take m,?_⟩;rw[cd,cE ay];rfl
def acP{c r}(h:aa.digit c=true):sJ.contains (c::r)=false:=by
 have hc: ∀x:UInt8,aa.digit x=false-> ∀q,((c::r:List UInt8)==x::q)=false:=by
  intro x aF q;refine beq_eq_false_iff_ne.2 λe=>?_;rw[(ye e).1,aF] at h;cases h
 unfold sJ wH wz qI oR sR;rw[xH,xH,xH,xH,xH,hc 105 aN,hc 98 aN,hc 99 aN,hc 102 aN,hc 42 aN];rfl
def ad'(i):h1 (sZ i):=⟨λ_ h=>absurd rfl h,λ_=>show gD.contains ([59]:List UInt8)=true by decide,λh=>absurd (show(3:Int)=4 from h) aN⟩
def ad_{s i to_ t}(ay:i<D s)(h:kY s i= .tok t to_):h1 t:=by
 unfold kY at h;split at h
 .cases h
 .split at h
  .split at h<;>cases h
  .split at h
   .cases h;by_cases hw:aa.words.contains (aa.cut s i (fD hr s i))=true
    .refine⟨λ_ _ bJ=>?_,λah=>?_,λ_=>hw⟩
     .dsimp only at bJ;rw[aS hw] at bJ;exact absurd rfl bJ
     .dsimp only at ah;rw[aS hw] at ah;exact absurd ah aN
    .refine⟨λR=>?_,λah=>?_,λbJ=>?_⟩
     .dsimp only at R;rw[ao hw] at R;exact absurd rfl R
     .dsimp only at ah;rw[ao hw] at ah;exact absurd ah aN
     .dsimp only at bJ;rw[ao hw] at bJ;exact absurd bJ aN
   .split at h
    .rename_i bB;split at h
     .cases h
     .cases h;refine⟨λ_ _ _=>?_,λah=>absurd (show(2:Int)=3 from ah) aN,λbJ=>absurd (show(2:Int)=4 from bJ) aN⟩;obtain⟨r,au⟩:=J3 ay (CU ay bB);dsimp only;rw[au];exact acP bB
    .split at h
     .cases h
     .rename_i g aB;cases h;exact⟨λ_ ah=>absurd rfl ah,λ_=>List.contains_iff_mem.2 (List.mem_of_find?_eq_some aB),λbJ=>absurd (show(3:Int)=4 from bJ) aN⟩
def Pv{d'}(line:Bool)(i)(h: ∀t∈d',h1 t): ∀t∈aa.close d' line i,h1 t:=by
 unfold aa.close;split
 .split
  .split
   .intro t bI;obtain bI|bI:=List.mem_append.1 bI
    .exact h t bI
    .obtain rfl:t=sZ i:=(by simpa using bI);exact ad' i
   .exact h
  .exact h
 .exact h
def go_wf(s:List UInt8)(k:Nat): ∀(i:Nat) (line:Bool) (d' l:List aa.Tok),D s-i<=k->(∀t∈d',h1 t)->aa.go s i line d'= .ok l-> ∀t∈l,h1 t:=by
 induction k with
 |zero=>
  intro i line d' l U aR aB;rw[aa.go_end J] at aB;cases aB;exact Pv line i aR
 |succ k cB=>
  intro i line d' l U aR aB;by_cases ay:i<D s
  .by_cases kr:Y s i 0=10
   .rw[aa.go_feed ay kr] at aB;exact cB _ _ _ _ J (Pv line i aR) aB
   .cases hs:kY s i with
    |bL c j=>
     rw[aa.go_bad ay kr hs] at aB;cases aB
    |skip to_=>
     rw[aa.go,aS ay,ao kr,hs] at aB;exact cB _ _ _ _ J aR aB
    |tok t to_=>
     rw[aa.go,aS ay,ao kr,hs] at aB;refine cB _ _ _ _ J (λu hu=>?_) aB;obtain hu|hu:=List.mem_append.1 hu
     .exact aR u hu
     .obtain rfl:u=t:=(by simpa using hu);exact ad_ ay hs
  .rw[aa.go_end ay] at aB;cases aB;exact Pv line i aR
def ad1{s l}(h:aa.scan s= .ok l): ∀t∈l,h1 t:=by
 unfold aa.scan at h;split at h
 .cases h
 .exact go_wf s (D s) 0 false [] l J (λt bI=>by cases bI) h
end W
end Go.Proofs.YtjfkhpkicioakaaGreatDoor
