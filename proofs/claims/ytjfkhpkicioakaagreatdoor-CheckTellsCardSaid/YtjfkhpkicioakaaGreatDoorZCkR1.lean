/- PROVED HERE: the checker of the reference, walked. No condition. -/
import Derived.Test.YtjfkhpkicioakaaGreatDoorZLx1
import Derived.Test.YtjfkhpkicioakaaGreatDoorZP2
import Derived.Test.YtjfkhpkicioakaaGreatDoorZTy2
import Derived.Laws.OwnMore
import Derived.Test.YtjfkhpkicioakaaGreatDoorZTy1
import Derived.StillTailTactics
set_option maxRecDepth 100000
set_option maxHeartbeats 60000000
set_option linter.all false
open ByteArray renaming empty->ke
open Go renaming Ending->e7,Value->af,World->ai,maxLen->dc,wpList->fo
open Go.Region renaming wanted->nF
open Go.RowKit renaming Below->aL
open Go.World renaming alloc->aA,cell?->aG,setCell->a7
open List renaming length->D
open Nat renaming add_comm->yf
open Go.Proofs.YtjfkhpkicioakaaGreatDoor.B hiding fail i_ name
open Go.Proofs.Tryz
namespace Go.Proofs.YtjfkhpkicioakaaGreatDoor
open Go.RowKit
namespace Rk
open Ck
def e4 (sc:List (List (bz×Nat))):List (bz×Nat×Bool):=sc.flatMap λm=>([],0,true)::m.map λe=>(e.1,e.2,false)
def nr (e:bz×Nat×Bool):List af:=[e.1,e.2.1,.bool e.2.2]
def ob (N:Nat)(w:ai)(v:af)(l:List (bz×Nat×Bool)):Prop:=w.ownsRow N 108 3 v (D l) (l.flatMap nr)
def hD (N:Nat)(w:ai)(v:af)(l:List Int):Prop:=w.ownsRow N 3 1 v (D l) (l.map (Value.int .i64))
def T6 (fl:Option (Int×Int)):Int×Int:=fl.getD (0,0)
def Rb{po}{f:po->List af}{s8}(aI: ∀y,D (f y)=s8){i}(ay:i<s8): ∀(l:List po) (k:Nat) (x:po),l[k]?=some x->(l.flatMap f)[k*s8+i]?=(f x)[i]?
 |[],_,_,h=>by simp at h
 |a::l,0,x,h=>by
  obtain rfl:a=x:=by simpa using h
  rw[u',Nat.zero_mul,Nat.zero_add,qz (by rw[aI];exact ay)]
 |a::l,k+1,x,h=>by
  have T:(k+1)*s8+i=D (f a)+(k*s8+i):=by rw[aI,Nat.succ_mul];omega
  rw[u',T,rU J,Nat.add_sub_cancel_left];exact Rb aI ay l k x (by simpa using h)
def Gr{N w g n cap u l}(h:ob N w u l)(hu:u= .slice (some ⟨g,0,none⟩) n cap){k x}(U:l[k]?=some x):
  aG w ⟨g,k*3,none⟩=some (.string (str x.1))/\aG w ⟨g,k*3+1,none⟩=some (.int .i64 (x.2.1:Int))/\aG w ⟨g,k*3+2,none⟩=some (.bool x.2.2):=by
 have T:w.ownsRow N 108 3 u (D l) (l.flatMap nr):=h;subst hu;have ax:n=D l:=by
  obtain⟨aH,_⟩|⟨h5,ka,cur,hu,_⟩:=T.2
  .cases aH
  .cases hu;rfl
 subst ax;have hl:=(List.getElem?_eq_some_iff.1 U).1;have c:=λi (ay:i<3)=>(tH T (k*3+i) J).trans (Rb (f:=nr) (λ_=>rfl) ay l k x U);exact⟨c 0 aN,c 1 aN,c 2 aN⟩
def ob.max{N w u l}(h:ob N w u l):D l<=9223372036854775807:=by have:=wu h;unfold dc at this;omega
def rk (nv tv uv b_:af)(s:b5)(fl:Option (Int×Int)):Array af:= #[nv,tv,uv,b_,.string (str s.res),.int .i64 s.cx,.bool fl.isSome,.int .i64 (T6 fl).1,.int .i64 (T6 fl).2]
structure dK (w0:ai)(p:Nat)(nv tv uv:af)(w:ai)(b_:af)(s:b5)(fl:Option (Int×Int)):Prop where
 av:aL w0 w0 w
 blk:w.heap[p]?=some (.cells (rk nv tv uv b_ s fl) 38 (0,0))
 ty:db w0.heap.size w tv s.types
 us:hD w0.heap.size w uv s.eJ
 lR:ob w0.heap.size w b_ (e4 s.sc)
 aJ:w0.heap.size<=p
structure Fr (p:Nat)(tv uv:af)(w w':ai):Prop where
 size:w.heap.size<=w'.heap.size
 gP: ∀(b:Nat) (o:Obj),w.heap[b]?=some o->b≠p->tv.ownBlock≠some b->uv.ownBlock≠some b->(∀c,o≠ .cells c 108 (0,0))->w'.heap[b]?=some o
section
variable{w0:ai}{p:Nat}{nv tv uv:af}{w w' w2:ai}{b_:af}{s:b5}{fl:Option (Int×Int)}
def Fr.refl:Fr p tv uv w w:=⟨bD _,λ_ _ h _ _ _ _=>h⟩
def Fr.trans(h:Fr p tv uv w w')(k:Fr p tv uv w' w2):Fr p tv uv w w2:=⟨hg h.size k.size,λb o G R T ah bJ=>k.gP b o (h.gP b o G R T ah bJ) R T ah bJ⟩
def Fr.below(h:aL w w w'):Fr p tv uv w w':=⟨h.size,λb o G _ _ _ _=>(h.block b (bd G)).trans G⟩
def Fr.set(i u):Fr p tv uv w (a7 w ⟨p,i,none⟩ u):=⟨by simp,λb o G R _ _ _=>fK G R i u⟩
def Fr.grown{row}(h:w.grownBy w' row)(au: ∀b,row=some b->b=p\/tv.ownBlock=some b\/uv.ownBlock=some b\/ ∃c,w.heap[b]?=some (.cells c 108 (0,0))):Fr p tv uv w w':=
 ⟨h.size,λb o G R T ah bJ=>(h.block b (bd G) (λe=>by
  obtain h|h|h|⟨c,h⟩:=au b e.symm
  .exact R h
  .exact T h
  .exact ah h
  .rw[h] at G;cases G;exact bJ c rfl)).trans G⟩
def dK.below(h:dK w0 p nv tv uv w b_ s fl)(G:aL w w w'):dK w0 p nv tv uv w' b_ s fl:=
 ⟨h.av.trans (G.mono h.av.size),ds h.blk G (bd h.blk),fZ h.ty G λk U=>(eI h.ty k U).2,fZ h.us G λk U=>(eI h.us k U).2,fZ h.lR G λk U=>(eI h.lR k U).2,h.aJ⟩
def dK.alloc(h:dK w0 p nv tv uv w b_ s fl)(o:Obj):dK w0 p nv tv uv (aA w o) b_ s fl:=h.below ((aT _ _).alloc (bD _) o)
def dK.drew(h:dK w0 p nv tv uv w b_ s fl):dK w0 p nv tv uv w.drew b_ s fl:=h.below (aT _ _).drew
def dK.at(h:dK w0 p nv tv uv w b_ s fl):aG w p=some nv/\aG w (p,1)=some tv/\aG w (p,2)=some uv/\aG w (p,3)=some b_/\aG w (p,4)=some [s.res]/\aG w (p,5)=some [s.cx]/\aG w (p,6)=some (.bool fl.isSome):=
 ⟨az h.blk 0,az h.blk 1,az h.blk 2,az h.blk 3,az h.blk 4,az h.blk 5,az h.blk 6⟩
def dK.od(h:dK w0 p nv tv uv w b_ s fl)(i:Nat)(u)(s':b5)(eT:Option (Int×Int))(hs:s'.types=s.types/\s'.eJ=s.eJ/\s'.sc=s.sc)(hc:(rk nv tv uv b_ s fl).setIfInBounds i u=rk nv tv uv b_ s' eT):dK w0 p nv tv uv (a7 w (p,i) u) b_ s' eT:=by
 obtain⟨R,T,ah⟩:=hs;refine⟨h.av.setCell (p:=⟨p,i,none⟩) h.aJ _,by rw[<-hc];exact et h.blk i u,?_,?_,?_,h.aJ⟩
 .rw[R];exact eZ h.ty h.blk aN
 .rw[T];exact eZ h.us h.blk aN
 .rw[ah];exact eZ h.lR h.blk aN
def dK.drewN(h:dK w0 p nv tv uv w b_ s fl)(n):dK w0 p nv tv uv (w.drewN n) b_ s fl:=h.below (rh (aT _ _) n)
def dK.node(h:dK w0 p nv tv uv w b_ s fl)(aI:Fr p tv uv w w'){b:Nat}{c:Array af}{t:TypeId}{fr:Nat×Nat}(G:w.heap[b]?=some (.cells c t fr))(bI:(t==38||t==9||t==3||t==108)=false:=by rfl):w'.heap[b]?=some (.cells c t fr):=by
 simp only[xE,u9] at bI;obtain⟨⟨⟨t1,t2⟩,t3⟩,t4⟩:=bI;have key: ∀{N e n:Nat} {v:af} {xs:List af},w.ownsRow N e 1 v n xs->t≠e->v.ownBlock≠some b:=λ{N e n v xs} bX aZ ag=>by
  obtain⟨hu,_⟩|⟨g,cap,cur,hu,_,aB,_⟩:=bX.2
  .rw[hu] at ag;cases ag
  .rw[hu] at ag;rw[show g=b from gZ ag,G] at aB;cases aB;exact aZ rfl
 exact aI.gP b _ G (λe=>by have:=h.blk;rw[<-e,G] at this;cases this;exact t1 rfl) (key h.ty t2) (key h.us t3) (λc e=>by cases e;exact t4 rfl)
def dK.row(h:dK w0 p nv tv uv w b_ s fl)(aI:Fr p tv uv w w'){fX u l}(hu:db fX w u l)(hy: ∀b,tv.ownBlock=some b->b<fX):db fX w' u l:=by
 refine hu.move λg aB=>?_;have bN:=eI hu g aB;obtain⟨bQ,_⟩|⟨g2,cap,cur,bQ,_,G,_⟩:=hu.2
 .rw[bQ] at aB;cases aB
 .rw[bQ] at aB;obtain rfl:g2=g:=gZ aB;rw[G];have aZ:uv.ownBlock≠some g2:=λag=>by
   obtain⟨jH,_⟩|⟨g3,cap3,cur3,jH,_,iD,_⟩:=h.us.2
   .rw[jH] at ag;cases ag
   .rw[jH] at ag;rw[show g3=g2 from gZ ag,G] at iD;cases iD
  exact aI.gP g2 _ G (λe=>by have:=h.blk;rw[<-e,G] at this;cases this) (λe=>by have:=hy g2 e;omega) aZ (λc e=>by cases e)
end
def m' (fl:Option (Int×Int))(ok:Bool)(c at_:Int):Option (Int×Int):=if fl.isSome then fl else if ok then none else some (c,at_)
section
variable{L:List aP}{E:List (aP×af)}{cG:Nat}{w0:ai}{p:Nat}{nv tv uv:af}{w:ai}{b_:af}{s:b5}{fl:Option (Int×Int)}
def tO(lJ:Hid (∀w',aL w0 w0 w'->iJ cG w' nv E))(cZ:Hid (L=E.map (·.1)))(h:dK w0 p nv tv uv w b_ s fl)(ok:Bool)(c:Int)(k)(U:k<D E):
  aY 21 #[(p,0),.bool ok,c,k] w λe w'=>e= .returned (.tuple #[])/\dK w0 p nv tv uv w' b_ s (m' fl ok c ((Z L k).an:Int))/\Fr p tv uv w w':=by
 have bK:=A h;obtain⟨⟨x,u⟩,aF⟩: ∃x,E[k]?=some x:=⟨_,cE U⟩;have gj:Z L k=x:=mO (by rw[cZ.o,lW,aF];rfl);have ep:=A (lJ.o w h.av);obtain⟨gX,cA,rfl⟩:=eR ep.o.row rfl;obtain⟨g,cap,aB⟩:=dR ep.o.row J;cases aB;obtain⟨_,bq,_,_,_⟩:=n_ ep.o rfl aF;dsimp only at bq;obtain⟨b',_,_,_,_,_,fg⟩:=h.at;have f6:=cX h.blk 6;have b9:=bd h.blk;have⟨hv,hi⟩:(k:Int)<D E/\(0:Int)<=k:=J;rw[gj];cases fl with
 |some f=>
  have fg:aG w (p,6)=some (.bool true):=fg;clear h;cases ok
  all_goals
   go_in;go_wp2;go_returns;exact⟨rfl,bK.o,Fr.refl⟩
 |none=>
  have fg:aG w (p,6)=some (.bool false):=fg;cases ok with
  |true=>
   clear h;go_in;go_wp2;go_returns;exact⟨rfl,bK.o,Fr.refl⟩
  |false=>
   have H1:=A (h.od 6 (.bool true) s (some (0,0)) ⟨rfl,rfl,rfl⟩ rfl);obtain⟨_,d1,_,_,_⟩:=n_ (lJ.o _ H1.o.av) rfl aF;dsimp only at d1;obtain⟨pK,_,_,_,_,_,_⟩:=H1.o.at;have aoW:aG (a7 w (p,6) (.bool true)) (p,7)=some [(0:Int)]:=az H1.o.blk 7;have aoX:aG (a7 w (p,6) (.bool true)) (p,8)=some [(0:Int)]:=az H1.o.blk 8;have f7:=cX H1.o.blk 7;have f8:=cX H1.o.blk 8;have Vm:=bd H1.o.blk;have jS:=A ((H1.o.od 7 c s (some (c,0)) ⟨rfl,rfl,rfl⟩ rfl).od 8 x.an s (some (c,(x.an:Int))) ⟨rfl,rfl,rfl⟩ rfl);have dj:Hid (Fr p tv uv w (a7 (a7 (a7 w (p,6) (.bool true)) (p,7) c) (p,8) x.an)):=A (((Fr.set 6 _).trans (Fr.set 7 _)).trans (Fr.set 8 _));clear h;go_in;go_wp2_with fail;go_returns;exact⟨rfl,jS.o,dj.o⟩
end
end Rk
namespace Rk
open Ck
def P7:(prog.info? 108).map (λi=>(i.zero,i.size,i.bytes))=some (some (.agg #[ke,(0:Int),.bool false]),3,32):=cS
def sg{ops rest o s0 cF}{er:Exit->Act->ai->Prop}{a N w u l}(x:bz×Nat×Bool){cs}(hl:D l<=1000000000000)(hN:N<=w.heap.size)(bQ:ob N w u l)
 (h: ∀g cap a6,ob N a6 (.slice (some ⟨g,0,none⟩) (D l+1) cap) (l++[x])->(aA w (.cells cs 108)).grownBy a6 u.ownBlock->fo prog ops er rest (a.put o.dst (.slice (some ⟨g,0,none⟩) (D l+1) cap)) a6)
 (ma:cs=(nr x).toArray:=by rfl)(jO:o.guard=none:=by rfl)(bX:o.op= .call {callee:= .builtin .append,args:= #[s0,cF],argTypes:= #[36,36]}:=by rfl)(hs:a.eval s0=u:=by rfl)(aF:a.eval cF= .slice (some ⟨w.heap.size,0,none⟩) 1 1:=by rfl):
  fo prog ops er (o::rest) a (aA w (.cells cs 108)):=by obtain⟨i0,fM,e',e_,ff⟩:=kT P7;subst ma;have pL:(aA w (.cells (nr x).toArray 108)).ownsRow N 108 3 u (D l) (l.flatMap nr):=fZ bQ ((aT w w).alloc (bD _) _) λk U=>(eI bQ k U).2;refine tI _ jO s0 cF 36 bX N 108 i0 _ 3 32 underlying36 fM e' e_ ff rfl J u (D l) (l.flatMap nr) hs pL ⟨w.heap.size,0,none⟩ 1 1 (nr x) aF rfl (j7 (cs:=(nr x).toArray) (t:=108) (fr:=(0,0)) (hf _ _)) (by intro y bx;unfold nr at bx;simp at bx;rcases bx with rfl|rfl|rfl<;>rfl) J (by unfold dc;omega) J (by simp;omega) (w.heap.size+1) bT ?_;intro g cap a6 fF dv _ _;refine h g cap a6 ?_ dv;unfold ob;rw[dW,xG];simpa using fF
section
variable{L:List aP}{E:List (aP×af)}{cG:Nat}{w0:ai}{p:Nat}{nv tv uv:af}{w w' w2:ai}{b_:af}{s:b5}{fl:Option (Int×Int)}
def Wf(sc:List (List (bz×Nat))):e4 (sc++[[]])=e4 sc++[([],0,true)]:=by simp[e4]
def aaB{sc}(h:sc≠[])(e:bz×Nat):e4 (sc.dropLast++[sc.getLastD []++[e]])=e4 sc++[(e.1,e.2,false)]:=by obtain⟨r,m,rfl⟩: ∃r m,sc=r++[m]:=⟨sc.dropLast,sc.getLast h,(u0 h).symm⟩;simp[e4]
def dK.grow(h:dK w0 p nv tv uv w b_ s fl){s' sv'}(hs:s'.types=s.types/\s'.eJ=s.eJ/\s'.res=s.res/\s'.cx=s.cx)(bQ:ob w0.heap.size w' sv' (e4 s'.sc))(aB:w.grownBy w' b_.ownBlock):dK w0 p nv tv uv (a7 w' (p,3) sv') sv' s' fl/\Fr p tv uv w (a7 w' (p,3) sv')/\w'.heap[p]?=some (.cells (rk nv tv uv b_ s fl) 38 (0,0))/\aL w0 w0 w':=by
 obtain⟨R,T,ah,bJ⟩:=hs;have k7: ∀{N e n:Nat} {v:af} {xs:List af},w.ownsRow N e 1 v n xs->e≠108->v.ownBlock=none\/ ∃b,v.ownBlock=some b/\some b≠b_.ownBlock:=λ{N e n v xs} bX aZ=>by
  obtain⟨hu,_⟩|⟨g,cap,cur,hu,_,G,_⟩:=bX.2
  .exact .inl (by rw[hu];rfl)
  .refine .inr ⟨g,by rw[hu];rfl,λag=>?_⟩;obtain⟨jH,_⟩|⟨g2,fz,cur2,jH,_,b8,_⟩:=h.lR.2
   .rw[jH] at ag;cases ag
   .rw[jH] at ag;rw[show g2=g from(gZ ag).symm,G] at b8;cases b8;exact aZ rfl
 have h4: ∀{N e n:Nat} {v:af} {xs:List af},w.ownsRow N e 1 v n xs->e≠108->w'.ownsRow N e 1 v n xs:=λ{N e n v xs} bX aZ=>by
  refine⟨bX.1,?_⟩;obtain aH|⟨g,cap,cur,rfl,hN,G,au⟩:=bX.2
  .exact .inl aH
  .refine .inr ⟨g,cap,cur,rfl,hN,(aB.block g (bd G) λag=>?_).trans G,au⟩;obtain dH|⟨b,dH,fE⟩:=k7 bX aZ
   .cases dH
   .cases dH;exact fE ag
 have Mm:some p≠b_.ownBlock:=λag=>by
  obtain⟨jH,_⟩|⟨g2,fz,cur2,jH,_,b8,_⟩:=h.lR.2
  .rw[jH] at ag;cases ag
  .rw[jH] at ag;rw[show g2=p from(gZ ag).symm,h.blk] at b8;cases b8
 have hblk:=(aB.block p (bd h.blk) Mm).trans h.blk;have Bt:aL w0 w0 w':=h.av.grown aB h.av.size λk U=>(eI h.lR k U).1;refine⟨⟨Bt.setCell (p:=⟨p,3,none⟩) h.aJ _,?_,?_,?_,eZ bQ hblk aN,h.aJ⟩,?_,hblk,Bt⟩
 .have:=et hblk 3 sv';rw[this];unfold rk;rw[ah,bJ];rfl
 .rw[R];exact eZ (h4 h.ty aN) hblk aN
 .rw[T];exact eZ (h4 h.us aN) hblk aN
 .refine(Fr.grown aB λb G=> .inr (.inr (.inr ?_))).trans (Fr.set 3 _);obtain⟨jH,_⟩|⟨g2,fz,cur2,jH,_,b8,_⟩:=h.lR.2
  .rw[jH] at G;cases G
  .rw[jH] at G;rw[show g2=b from gZ G] at b8;exact⟨_,b8⟩
def Lh (w0:ai)(p:Nat)(nv tv uv:af)(s':b5)(eT:Option (Int×Int))(w:ai)(e:e7)(w':ai):Prop:=e= .returned (.tuple #[])/\ ∃sv',dK w0 p nv tv uv w' sv' s' eT/\Fr p tv uv w w'
def JQ(h:dK w0 p nv tv uv w b_ s fl)(hl:D (e4 s.sc)<=1000000000000):
  aY 23 #[(p,0)] w (Lh w0 p nv tv uv (fH s) fl w):=by
 have bK:=A h;obtain⟨_,_,_,da,_⟩:=h.at;have b9:=bd h.blk;have f3:=cX h.blk 3;obtain⟨kR,qq,rfl⟩:=eR h.lR rfl;have cz:=A (h.alloc (aw #[.string ⟨#[]⟩,(0:Int),.bool true] 108));have hz:=h.av.size;clear h;go_in;go_wp2_with(at_builtin;refine sg ([],0,true) hl hz bK.o.lR (λg cap a6 fT gl=>?_);have z:=A (cz.o.grow (s':=fH s) ⟨rfl,rfl,rfl,rfl⟩ (by show ob _ _ _ (e4 (s.sc++[[]]));rw[Wf];exact fT) gl);have c3:=az z.o.2.2.1 3;have cY:=cX z.o.2.2.1 3;have kg:=bd z.o.2.2.1;have c3:aG a6 (p,3)=some (.slice kR (D (e4 s.sc)) qq):=c3)
 generalize ta:(a7 a6 (p,3) (g,(D (e4 s.sc)+1),cap))=cp at*;go_wp2;go_returns;exact⟨rfl,_,z.o.1,(Fr.below ((aT w w).alloc (bD _) _)).trans z.o.2.1⟩
def P8(l:List (bz×Nat×Bool))(k:Nat):(l.flatMap nr).take (k*3)=(l.take k).flatMap nr:=by
 induction l generalizing k with
 |nil=>simp
 |cons a l cB=>
  cases k with
  |zero=>simp
  |succ k=>
   rw[u',List.take_succ_cons,u',<-cB k,Nat.succ_mul,yf,List.take_append,u7 (by show 3<=3+k*3;omega)]
   congr 2
   show 3+k*3- 3=k*3;omega
def ob.cut{N w g n cap l}(h:ob N w (.slice (some ⟨g,0,none⟩) n cap) l){k}(U:k<=D l):ob N w (.slice (some ⟨g,0,none⟩) k cap) (l.take k)/\k<=cap:=by
 have T:w.ownsRow N 108 3 (g,n,cap) (D l) (l.flatMap nr):=h;obtain⟨aH,_⟩|⟨h5,ka,cur,hu,hN,G,ah,bJ,dH,fE⟩:=T.2
 .cases aH
 .cases hu;have hl:D (l.take k)=k:=by rw[mr];omega
  refine⟨?_,by omega⟩;unfold ob;rw[hl];refine⟨by rw[<-P8];simp[mr];have:=T.1;simp at this;omega,.inr ⟨g,cap,cur,rfl,hN,G,by omega,bJ,dH,?_⟩⟩;rw[<-P8,<-fE,List.take_take]
  congr 1
  omega
def AV(r:List (List (bz×Nat)))(m:List (bz×Nat)):e4 (r++[m])=e4 r++([],0,true)::m.map λe=>(e.1,e.2,false):=by simp[e4]
def Qv{r m j}:(e4 (r++[m]))[D (e4 r)]?=some ([],0,true)/\(∀e,m[j]?=some e->(e4 (r++[m]))[D (e4 r)+1+j]?=some (e.1,e.2,false)):=by rw[AV];refine⟨by simp,λe he=>?_⟩;rw[rU J,show(e4 r).length+1+j-D (e4 r)=j+1 by omega,c8,lW,he];rfl
def JR(h:dK w0 p nv tv uv w b_ s fl)(hs:s.sc≠[]):
  aY 25 #[(p,0)] w (Lh w0 p nv tv uv (shut s) fl w):=by
 obtain⟨r,m,o1⟩: ∃r m,s.sc=r++[m]:=⟨s.sc.dropLast,s.sc.getLast hs,(u0 hs).symm⟩;have bK:=A h;have nP:=h.lR.max;obtain⟨_,_,_,da,_⟩:=h.at;have b9:=bd h.blk;have f3:=cX h.blk 3;have zV:=h.lR;rw[o1] at zV nP;have c6:D (e4 (r++[m]))=D (e4 r)+1+D m:=by rw[AV,dW,iq,h2];omega
 obtain⟨g,cap,rfl⟩:=dR zV J;obtain⟨hcut,hcap⟩:=zV.cut (k:=D (e4 r)) J;have Hp:(e4 (r++[m])).take (D (e4 r))=e4 r:=by rw[AV];simp
 rw[Hp] at hcut;have z:=A (h.grow (s':=shut s) ⟨rfl,rfl,rfl,rfl⟩ (by show ob _ _ _ (e4 s.sc.dropLast);rw[o1,xF];exact hcut) (World.grownBy.refl _ _));have cC:=A zV;have iM:=A c6;rw[c6] at da nP;rw[c6] at cC bK z;obtain⟨ar,bZ⟩: ∃ar,D (e4 r)=ar:=⟨_,rfl⟩;have nx:=A (λj=>Qv (r:=r) (m:=m) (j:=j));rw[bZ] at da nP hcap cC bK z nx;clear h zV c6;have fp:IntKind.i64.wrap (((ar+1+D m:Nat):Int)- 1)=((ar+D m:Nat):Int):=by rw[dI _ J];omega
 go_in;go_wp2_with fail;go_loop [2] (λi=> ∃j:Nat,j<=D m/\i= [((ar+j:Nat):Int)]) (λi=>(intOf i).toNat)
 case atStart=>exact⟨D m,bD _,by first|rfl|(congr 1;omega)|simp⟩
 case round=>
  obtain⟨j,bg,rfl⟩:=hrel;have⟨ck,b8⟩:(0:Int)<=((ar+j:Nat):Int)/\((ar+j:Nat):Int)<((ar+1+D m:Nat):Int):=J;cases j with
  |zero=>
   have bp:=(Gr cC.o rfl (nx.o 0).1).2.2;dsimp only at bp;go_wp2;go_returns;exact⟨rfl,_,z.o.1,z.o.2.1⟩
  |succ j=>
   obtain⟨e,he⟩: ∃e,m[j]?=some e:=⟨_,cE J⟩;have bp:=(Gr cC.o rfl ((nx.o j).2 e he)).2.2;rw[show ar+1+j=ar+(j+1) by omega] at bp;dsimp only at bp;have gT:IntKind.i64.wrap (((ar+(j+1):Nat):Int)- 1)=((ar+j:Nat):Int):=(by rw[dI _ J];omega);go_wp2;go_round
   case rel=>exact⟨j,by omega,by first|rfl|(congr 1;omega)|simp⟩
   case measure=>simp[intOf];omega
end
end Rk
namespace Rk
open Ck
def adR(fl:Option (Int×Int))(a b:Bool)(c p:Int):m' (m' fl a c p) b c p=m' fl (a&&b) c p:=by cases fl<;>cases a<;>cases b<;>rfl
def JU(fl:Option (Int×Int))(c p:Int):m' fl true c p=fl:=by cases fl<;>rfl
def afI{ops o s0 cF}{er:Exit->Act->ai->Prop}{bP}{gI:Act->ai->Prop}{a N w u l}(x:bz×Nat×Bool){cs}(hl:D l<=1000000000000)(hN:N<=w.heap.size)(bQ:ob N w u l)
 (h: ∀g cap a6,ob N a6 (.slice (some ⟨g,0,none⟩) (D l+1) cap) (l++[x])->(aA w (.cells cs 108)).grownBy a6 u.ownBlock->gI (a.put o.dst (.slice (some ⟨g,0,none⟩) (D l+1) cap)) a6)
 (ma:cs=(nr x).toArray:=by rfl)(jO:o.guard=none:=by rfl)(bX:o.op= .call {callee:= .builtin .append,args:= #[s0,cF],argTypes:= #[36,36]}:=by rfl)(hs:a.eval s0=u:=by rfl)(aF:a.eval cF= .slice (some ⟨w.heap.size,0,none⟩) 1 1:=by rfl):
  if nF o (yielded ops a.tmps)=true then Oper.wp prog o a (aA w (.cells cs 108)) gI er else bP:=by obtain⟨i0,fM,e',e_,ff⟩:=kT P7;subst ma;have pL:(aA w (.cells (nr x).toArray 108)).ownsRow N 108 3 u (D l) (l.flatMap nr):=fZ bQ ((aT w w).alloc (bD _) _) λk U=>(eI bQ k U).2;refine tJ _ jO s0 cF 36 bX N 108 i0 _ 3 32 underlying36 fM e' e_ ff rfl J u (D l) (l.flatMap nr) hs pL ⟨w.heap.size,0,none⟩ 1 1 (nr x) aF rfl (j7 (cs:=(nr x).toArray) (t:=108) (fr:=(0,0)) (hf _ _)) (by intro y bx;unfold nr at bx;simp at bx;rcases bx with rfl|rfl|rfl<;>rfl) J (by unfold dc;omega) J (by simp;omega) (w.heap.size+1) bT ?_;intro g cap a6 fF dv _ _;refine h g cap a6 ?_ dv;unfold ob;rw[dW,xG];simpa using fF
def x' (x:bz)(k:Nat)(s:b5):b5:={s with sc:=s.sc.dropLast++[s.sc.getLastD []++[(x,k)]]}
section
variable{L:List aP}{E:List (aP×af)}{cG:Nat}{w0:ai}{p:Nat}{nv tv uv:af}{w w' w2:ai}{b_:af}{s:b5}{fl:Option (Int×Int)}
def OI(lJ:Hid (∀w',aL w0 w0 w'->iJ cG w' nv E))(cZ:Hid (L=E.map (·.1)))(h:dK w0 p nv tv uv w b_ s fl)(hs:s.sc≠[])(hl:D (e4 s.sc)<=1000000000000)(k:Nat)(U:k<D E):
  aY 58 #[(p,0),k] w (Lh w0 p nv tv uv (x' (Z L k).O k s) (m' fl (!((s.sc.getLastD []).any λe=>e.1==(Z L k).O)) 7 ((Z L k).an:Int)) w):=by
 obtain⟨r,m,o1⟩: ∃r m,s.sc=r++[m]:=⟨s.sc.dropLast,s.sc.getLast hs,(u0 hs).symm⟩;have ft:s.sc.getLastD []=m:=by rw[o1];simp
 obtain⟨⟨x,u⟩,aF⟩: ∃x,E[k]?=some x:=⟨_,cE U⟩;have gj:Z L k=x:=mO (by rw[cZ.o,lW,aF];rfl);have afJ:Hid (e4 (x' x.O k s).sc=e4 s.sc++[(x.O,k,false)]):=A (aaB hs (x.O,k));rw[gj,ft];have ep:=A (lJ.o w h.av);obtain⟨gX,cA,rfl⟩:=eR ep.o.row rfl;obtain⟨g,cap,aB⟩:=dR ep.o.row J;cases aB;have HV:Hid (∀cc,aL w0 w0 cc->cc.cell? (g,k*5+3)=some [x.O]):=A λcc G=>(n_ (lJ.o cc G) rfl aF).2.2.2.1;have c6:D (e4 s.sc)=D (e4 r)+1+D m:=by rw[o1,AV,dW,iq,h2];omega
 obtain⟨ar,bZ⟩: ∃ar,D (e4 r)=ar:=⟨_,rfl⟩;rw[bZ] at c6;have nP:=h.lR.max;have zV:=h.lR;obtain⟨g2,fz,rfl⟩:=dR zV J;have nx:Hid (∀cc j,ob w0.heap.size cc (g2,ar+1+D m,fz) (e4 s.sc)->cc.cell? (g2,ar*3+2)=some (.bool true)/\ ∀e,m[j]?=some e->cc.cell? (g2,(ar+(j+1))*3)=some [e.1]/\cc.cell? (g2,(ar+(j+1))*3+2)=some (.bool false)):=A λcc j bQ=>by
  have Cs:=Qv (r:=r) (m:=m) (j:=j);rw[<-o1,bZ] at Cs;refine⟨(Gr bQ rfl Cs.1).2.2,λe he=>?_⟩;obtain⟨a1,_,a3⟩:=Gr bQ rfl (Cs.2 e he);rw[show ar+1+j=ar+(j+1) by omega] at a1 a3;exact⟨a1,a3⟩
 rw[c6] at h hl nP;have⟨hv,hi⟩:(k:Int)<D E/\(0:Int)<=k:=J;have bK:=A h;obtain⟨b',_,_,da,_⟩:=h.at;have b9:=bd h.blk;have AK:Hid (∀(cc:ai) (eT:Option (Int×Int)) (ok:Bool),dK w0 p (g,D E,cA) tv uv cc (g2,ar+1+D m,fz) s eT->aY 21 #[(p,0),.bool ok,(7:Int),k] cc λe w'=>e= .returned (.tuple #[])/\dK w0 p (g,D E,cA) tv uv w' (g2,ar+1+D m,fz) s (m' eT ok 7 (x.an:Int))/\Fr p tv uv cc w'):=A λcc eT ok bQ=>by
  have:=tO lJ cZ bQ ok 7 k U;rwa[gj] at this
 clear h;have fp:IntKind.i64.wrap (((ar+1+D m:Nat):Int)- 1)=((ar+D m:Nat):Int):=by rw[dI _ J];omega
 go_in;have Go:=0;go_wp2;go_loopg[4] (D m) (λj i wr=>j<=D m/\i= [((ar+j:Nat):Int)]/\Hid (dK w0 p (g,D E,cA) tv uv wr (g2,ar+1+D m,fz) s (m' fl (!((m.drop j).any λe=>e.1==x.O)) 7 (x.an:Int)))/\Hid (Fr p tv uv w wr))
 case atStart=>exact⟨bD _,by first|rfl|(congr 1;omega)|simp,by rw[rW];exact A (by rw[show(!(([]:List (bz×Nat)).any λe=>e.1==x.O))=true from rfl,JU];exact bK.o),A Fr.refl⟩
 case round=>
  obtain⟨bg,rfl,k9,tt⟩:=hrel;generalize wr=bH at*;obtain⟨b',_,_,da,_⟩:=k9.o.at;have b9:=bd k9.o.blk;have f3:=cX k9.o.blk 3;have hz:=k9.o.av.size;have am0:=HV.o _ k9.o.av;have⟨ck,b8,e0⟩:(0:Int)<=((ar+gk:Nat):Int)/\((ar+gk:Nat):Int)<((ar+1+D m:Nat):Int)/\0<=ar+gk:=J;have SD:ob w0.heap.size bH (g2,ar+1+D m,fz) (e4 s.sc):=k9.o.lR;cases gk with
  |zero=>
   have bp:=(nx.o bH 0 SD).1;rw[show ar+0=ar from rfl] at ck b8 e0|-;rw[List.drop_zero] at k9;obtain⟨eT,jQ⟩: ∃eT,m' fl (!(m.any λe=>e.1==x.O)) 7 (x.an:Int)=eT:=⟨_,rfl⟩;rw[jQ] at k9;replace jQ:=A jQ;go_wp2;have eA:=A k9.o.drew;have dX:Hid (∀cc:ai,aL w0 w0 cc->cc.heap[p]?=some (.cells (rk (g,D E,cA) tv uv (g2,ar+1+D m,fz) s eT) 38 (0,0))->(cc.cell? p=some (g,D E,cA)/\cc.cell? (p,3)=some (g2,ar+1+D m,fz)/\cc.cell? (g,k*5+3)=some [x.O])):=A λcc R T=>⟨az T 0,az T 3,HV.o _ R⟩;refine jT 19 (λcc=>(cc.cell? p=some (g,D E,cA)/\cc.cell? (p,3)=some (g2,ar+1+D m,fz)/\cc.cell? (g,k*5+3)=some [x.O])) (dX.o _ eA.o.av eA.o.blk) λaD=>?_;have fG:Hid (Fr p tv uv w bH.drew):=A (tt.o.trans (Fr.below (aT _ _).drew));generalize bH.drew=bS at*;refine a' 0 ?_;refine a' 1 ?_;refine a' 2 ?_;refine a' 3 ?_;refine a' 4 ?_;refine a' 5 ?_;refine a' 6 ?_;refine a' 7 ?_;refine a' 8 ?_;refine a' 9 ?_;refine a' 10 ?_;refine a' 11 ?_;refine a' 12 ?_;refine a' 13 ?_;refine a' 14 ?_;refine cT 15 λK ab=>?_;go_simp;have eH:=A (eA.o.alloc (aw #[x.O,k,.bool false] 108));refine ab.o _ _ (λ_=>dX.o _ eH.o.av eH.o.blk) ?_;have aD:=dX.o _ eH.o.av eH.o.blk;refine cT 16 λK ab=>?_;have ae1:ob w0.heap.size bS (.slice (some g2) (D (e4 s.sc)) fz) (e4 s.sc):=(by rw[c6];exact eA.o.lR);refine afI (x.O,k,false) (by rw[c6];exact hl) eA.o.av.size ae1 (λjE He a6 fT gl=>?_) (hs:=by rw[c6];rfl);have q2:=A (eH.o.grow (s':=x' x.O k s) (sv':= (jE,(D (e4 s.sc)+1),He)) ⟨rfl,rfl,rfl,rfl⟩ (by rw[afJ.o];exact fT) gl);rw[c6] at q2|-;refine ab.o _ _ (λ_=>dX.o _ q2.o.2.2.2 q2.o.2.2.1) ?_;have aD:=dX.o _ q2.o.2.2.2 q2.o.2.2.1;refine cT 17 λK ab=>?_;go_simp;refine ab.o _ _ (λ_=>aD) ?_;refine a' 18 ?_;refine cT 19 λK ab=>?_;have c3:aG a6 (p,3)=some (g2,ar+1+D m,fz):=az q2.o.2.2.1 3;have cY:=cX q2.o.2.2.1 3;have kg:=bd q2.o.2.2.1;go_simp;refine ab.o _ _ (λh=>absurd rfl h) ?_;refine bV ?_;have YC:=A ((fG.o.trans (Fr.below ((aT bS bS).alloc (bD _) (aw #[x.O,k,.bool false] 108)))).trans q2.o.2.1);generalize(a7 a6 (p,3) (jE,ar+1+D m+1,He))=cp at*;go_wp2;go_returns;exact⟨rfl,_,by rw[jQ.o];exact q2.o.1,YC.o⟩
  |succ j=>
   obtain⟨e,he⟩: ∃e,m[j]?=some e:=⟨_,cE J⟩;obtain⟨lB,z2⟩:=(nx.o bH j SD).2 e he;have gT:IntKind.i64.wrap (((ar+(j+1):Nat):Int)- 1)=((ar+j:Nat):Int):=(by rw[dI _ J];omega);have Yx:Hid (m.drop j=e::m.drop (j+1)):=A (by obtain⟨R,T⟩:=List.getElem?_eq_some_iff.1 he;rw[kS R,T]);go_wp2;have⟨o5,dh,g_⟩:(0:Int)<=ar+((j:Int)+1)/\(ar:Int)+((j:Int)+1)<(ar:Int)+1+(D m:Int)/\((ar:Int)+((j:Int)+1)).toNat=ar+(j+1):=J;go_still_tail 19,cS
   change fo _ _ _ _ _ bH.drew;have eA:=A k9.o.drew;have fG:Hid (Fr p tv uv w bH.drew):=A (tt.o.trans (Fr.below (aT _ _).drew));generalize bH.drew=bS at*;go_wp2;refine(AK.o _ _ _ eA.o).mono ?_;rintro gi bm ⟨rfl,yT,yd⟩;have YN:=A yT;have j0:=A (fG.o.trans yd);clear yT;go_wp2;go_roundg j
   case rel=>exact⟨by omega,by first|rfl|(congr 1;omega)|simp,A (by
    rw[Yx.o,List.any_cons,Bool.not_or,Bool.and_comm,<-adR];have h:=YN.o;rw[mR] at h;exact h),j0⟩
   case measure=>omega
end
end Rk
namespace Rk
open Ck
def CR(s:List UInt8)(n:Nat):(str s).extract n (str s).size=str (s.drop n):=by rw[js];apply ByteArray.ext;have:List.take (D s-n) (s.drop n)=s.drop n:=u7 bT;simp[str,ByteArray.data_extract,this]
def Kb (t:bz) (w:ai):Calls prog 131 #[.string (str t)] w λe w'=>e= .returned (.tuple #[.string (str ((fq t).getD [])),.bool (fq t).isSome])/\w'=w:=by
 have bh:=A (sH t i_ w);cases h:cv t i_ with
 |false=>
  have cP:Hid (fq t=none):=A (by unfold fq;rw[h];rfl);rw[h] at bh;go_in;go_wp2_with fail;refine bh.o.mono ?_;rintro e w1 ⟨rfl,rfl⟩;go_wp2;go_returns;exact⟨by rw[cP.o];rfl,rfl⟩
 |true=>
  have cP:Hid (fq t=some (t.drop 5)):=A (by unfold fq;rw[h];rfl);have hl:5<=t.length:=by
   unfold cv at h;simp only[pv,pt] at h;exact h.1
  rw[h] at bh;have e_:5<=(str t).size:=by rw[js];exact hl
  have ff:(5:Int)<=((str t).size:Int):=by omega
  have Ad:(5:Int)<=t.length:=by omega
  have br:Hid ((str t).extract 5 (str t).size=str (t.drop 5)):=A (CR t 5);go_in;go_wp2_with fail;refine bh.o.mono ?_;rintro e w1 ⟨rfl,rfl⟩;go_wp2;go_returns;rw[br.o];exact⟨by rw[cP.o];rfl,rfl⟩
structure eL (L:List aP)(E:List (aP×af))(cG:Nat)(w0:ai)(nv:af):Prop where
 wf:B.h1 L
 ws:xD L
 short: ∀k,D (B.O L k)<=100000000000
 eq:L=E.map (·.1)
 fA: ∀n∈L,D n.O<=100000000000/\D n.I<=1000000
 le:D E<=10000
 aj: ∀w',aL w0 w0 w'->iJ cG w' nv E
section
variable{L:List aP}{E:List (aP×af)}{cG:Nat}{w0:ai}{p:Nat}{nv tv uv:af}{w w' w2:ai}{b_:af}{s:b5}{fl:Option (Int×Int)}
def eL.fits(V:Hid (eL L E cG w0 nv))(G:aL w0 w0 w)(fr ty:bz):aY 129 #[nv,fr,ty] w λe w'=>e= .returned (.bool (fS L fr ty))/\aL w w w':=
 aal (A V.o.wf) (A V.o.short) (A V.o.eq) (A V.o.fA) V.o.le (V.o.aj w G) fr ty
def eL.decl(V:Hid (eL L E cG w0 nv))(G:aL w0 w0 w)(j':Int)(name):aY 11 #[nv,.int .i64 j',.string (str name)] w λe w'=>e= .returned (.int .i64 (c7 L j' name))/\w'=w:=
 F9 (A V.o.eq) (V.o.aj w G) j' name
def eL.O(V:Hid (eL L E cG w0 nv))(G:aL w0 w0 w)(k)(U:k<D E):aY 20 #[nv,k] w λe w'=>e= .returned [B.O L k]/\aL w w w':=
 JC (A V.o.wf) (A V.o.short) (A V.o.eq) k w nv (V.o.aj w G) U
def Wi(V:Hid (eL L E cG w0 nv))(h:dK w0 p nv tv uv w b_ s fl)(ty fr:bz):aY 130 #[(p,0),ty,fr] w λe w'=>e= .returned (.bool (p_ L ty fr))/\aL w w w':=by
 have eX:=A (Kb ty w);obtain⟨b',_,_,_,_⟩:=h.at;have b9:=bd h.blk;have bh:=A h.av;cases hc:fq ty with
 |none=>
  have cP:Hid (p_ L ty fr=false):=A (by unfold p_;rw[hc]);rw[hc] at eX;clear h;go_in;have Go:=0;go_wp2;refine eX.o.mono ?_;rintro e w1 ⟨rfl,rfl⟩;go_wp2;go_returns;exact⟨by rw[cP.o];rfl,aT _ _⟩
 |some t=>
  have cP:Hid (p_ L ty fr=fS L fr t):=A (by unfold p_;rw[hc]);rw[hc] at eX;have dj:=A (eL.fits V bh.o fr t);clear h;go_in;have Go:=0;go_wp2;refine eX.o.mono ?_;rintro e w1 ⟨rfl,rfl⟩;go_wp2;refine dj.o.mono ?_;rintro e w1 ⟨rfl,ck⟩;have c1:=A ck;clear ck;go_wp2;go_returns;exact⟨by rw[cP.o];rfl,c1.o⟩
end
end Rk
end Go.Proofs.YtjfkhpkicioakaaGreatDoor
