/- PROVED HERE: the checker of the program, walked. No condition. -/
import Derived.Test.YtjfkhpkicioakaaGreatDoorZLx1
import Derived.Test.YtjfkhpkicioakaaGreatDoorZCkP1
import Derived.Test.YtjfkhpkicioakaaGreatDoorZCkR2
import Derived.Deep.CutBlock
import Derived.RangeFuncNested
import Derived.RangeFuncBound
import Derived.RangeFuncCalls
import Derived.RangeFuncLeaves
import Derived.Shelf.Abstract
import Derived.Shelf.RegionOpen
import Derived.WalkKit
import Derived.OwnWalkIn
import Derived.TacticsInMore
import Derived.LoopNIn
import Derived.LoopIn
set_option maxRecDepth 100000
set_option maxHeartbeats 60000000
set_option linter.all false
open Array renaming replicate->vy
open Go renaming Ending->e7,Value->af,World->ai,maxLen->dc,wpList->fo
open Go.RowKit renaming Below->aL
open Go.World renaming alloc->aA,cell?->aG,setCell->a7
open List renaming getD->Y,length->D,replicate->ef
open Go.Proofs.YtjfkhpkicioakaaGreatDoor.B hiding fail i'
open Go.Proofs.Tryz
namespace Go.Proofs.YtjfkhpkicioakaaGreatDoor
open Go.RowKit
section
open Go.RowKit Go.Shelf
namespace Pk
open Ck
section
variable{L:List aP}{E:List (aP×af)}{cG:Nat}{w0:jf}{p tp:Nat}{tv uv fv nv su:af}{sb:List Nat}{w:ai}{s:b5}{a m k b1 b2 bC:Nat}
def adU(V:Hid (gY L E cG w0 tp fv nv))(h:dz L w0 p tp tv uv fv w su sb s)(aR:a<D E)(hm:m<D E)(R:aG w b1=some (p,0))(T:aG w b2=some [m]):aY 43 #[a,(b1,0),(b2,0)] w λe w'=>e= .returned (.bool ((Z L a).O==(Z L m).O))/\aL w w w':=by
 obtain⟨g,cA,x,bb,aQ,rfl,cg⟩:=V.o.fe.gQ h.av aR;obtain⟨_,_,y,gX,hA,hG,dZ⟩:=V.o.fe.gQ h.av hm;cases hG;obtain⟨b',_,_,_,_,_,_,b9,_⟩:=h.at;obtain⟨_,_,z0,_,_,eK,_,_⟩:=V.o.eo h.av;have iS:=(cg.cells w h.av).2.2.2.1;have y3:=(dZ.cells w h.av).2.2.2.1;have⟨Ip,fB,Aq,BN⟩:(a:Int)<D E/\(0:Int)<=a/\(m:Int)<D E/\(0:Int)<=m:=J;rw[cg.Z,dZ.Z];have cC:Hid (∀w':ai,w'.heap=w.heap->True->aG w' ⟨b1,0,none⟩=some (.pointer (some ⟨p,0,none⟩))/\aG w' ⟨b2,0,none⟩=some (.int .i64 (m:Int))/\aG w' ⟨p,0,none⟩=some (.pointer (some ⟨tp,0,none⟩))/\aG w' ⟨tp,0,none⟩=some (.slice (some ⟨g,0,none⟩) (D E) cA)/\aG w' ⟨g,a*5+3,none⟩=some (.string (str x.O))/\aG w' ⟨g,m*5+3,none⟩=some (.string (str y.O))):=A λw' e _=>by
  unfold World.cell? at*;rw[e];exact⟨R,T,b',z0,iS,y3⟩
 go_in;go_wp2_with fail;refine jz 24 cC rfl trivial λaD=>?_;have G:aL w w w.drew:=(aT _ _).drew;generalize w.drew=w1 at*;refine ae 0 ?_;refine ae 1 ?_;refine ae 2 ?_;refine ae 3 ?_;refine ae 4 ?_;refine ae 5 ?_;refine ae 6 ?_;refine ae 7 ?_;refine ae 8 ?_;refine ae 9 ?_;refine ae 10 ?_;refine ae 11 ?_;refine ae 12 ?_;refine ae 13 ?_;refine ae 14 ?_;refine ae 15 ?_;refine ae 16 ?_;refine ae 17 ?_;refine ae 18 ?_;refine ae 19 ?_;refine ae 20 ?_;refine ae 21 ?_;refine ae 22 ?_;refine ae 23 ?_;refine bV ?_;go_wp2;go_returns;exact⟨by rw[mR];rfl,G⟩
def adV(x:aP)(u)(w:ai):aY 44 #[.agg #[x.j',x.an,x.aX,x.O,u]] w λe w'=>e= .returned (.bool (x.j' !=14))/\aL w w w':=by go_in;go_wp2;go_returns;exact⟨rfl,(aT _ _).alloc (bD _) _⟩
def adT{g x bb aQ}(V:Hid (gY L E cG w0 tp fv nv))(h:dz L w0 p tp tv uv fv w su sb s)(cg:uX L w0 a g x bb aQ)(aR:a<D E)(NM)(R:aG w b1=some (p,0))(T:aG w b2=some [NM])(ck:b1<w.heap.size)(b8:b2<w.heap.size):aY 39 #[.agg #[x.j',x.an,x.aX,x.O,(bb,D x.I,aQ)],(b1,0),(b2,0)] w λe w'=>e= .returned (.bool (x.j'==14&&B.O L (bM L a 0)==NM))/\aL w w w':=by
 have kJ:=(aT w w).alloc (bD _) (aw #[.int .i64 x.j',.int .i64 x.an,.int .i64 x.aX,.string (str x.O),(bb,D x.I,aQ)] 53);have ax:=ek w (aw #[.int .i64 x.j',.int .i64 x.an,.int .i64 x.aX,.string (str x.O),(bb,D x.I,aQ)] 53);obtain⟨oF,Fq⟩: ∃bp,aA w (aw #[.int .i64 x.j',.int .i64 x.an,.int .i64 x.aX,.string (str x.O),(bb,D x.I,aQ)] 53)=bp:=⟨_,rfl⟩;obtain⟨b,td⟩: ∃bp,w.heap.size=bp:=⟨_,rfl⟩;have mE:bM L a 0=Y x.I 0 0:=by rw[bM,cg.Z]
 rw[mE];obtain⟨bO,yj⟩: ∃bp,Y x.I 0 0=bp:=⟨_,rfl⟩;have bK:Hid (x.j'=14->0<D x.I/\bO<D E):=A λe=>by
  have hl:=cg.ly.len;have aH:0<D x.I:=by rw[hl,e];exact oI _
  have:=(cg.at aH).1;rw[yj] at this;exact⟨aH,by omega⟩
 have cz:Hid (∀w',aL w oF w'->dz L w0 p tp tv uv fv w' su sb s):=A λw' G=>h.below ((Fq▸kJ).trans G);have cC:Hid (∀w',aL (b+1) oF w'->True->aG w' ⟨b1,0,none⟩=some (.pointer (some ⟨p,0,none⟩))/\aG w' ⟨b2,0,none⟩=some (.string (str NM))/\aG w' ⟨p,0,none⟩=some (.pointer (some ⟨tp,0,none⟩))/\aG w' ⟨b,0,none⟩=some (.int .i64 x.j')/\aG w' ⟨b,4,none⟩=some (bb,D x.I,aQ)/\True):=A λw' G _=>by
  subst Fq;have pQ:aL w w w':=kJ.trans (G.mono J);have z7:=ds ax G J;rw[td] at z7;have dY:=az z7 0;have cL:=az z7 4;simp only[cO,cQ,c8] at dY cL;exact⟨(pQ.cell (p:=⟨b1,0,none⟩) ck).trans R,(pQ.cell (p:=⟨b2,0,none⟩) b8).trans T,(h.below pQ).at.1,dY,cL,trivial⟩
 have jZ:Hid (0<D x.I-> ∃gk,bb=some ⟨gk,0,none⟩/\ ∀w',aL (b+1) oF w'->aG w' ⟨gk,0,none⟩=some (.int .i64 (bO:Int))):=A λaH=>by
  obtain⟨gk,e,_⟩:=cg.bM w 0 h.av aH;refine⟨gk,e,λw' G=>?_⟩;subst Fq;obtain⟨g2,aE,c⟩:=cg.bM w' 0 (h.below (kJ.trans (G.mono J))).av aH;rw[e] at aE;cases aE;rwa[yj] at c
 rw[yj];have qU:=A (Fq▸kJ);go_in;go_wp2_with fail;by_cases U:x.j'=14
 .obtain⟨aH,aiR⟩:=bK.o U;have ei:(x.j'==14)=true:=by simp[U]
  obtain⟨gk,rfl,zW⟩:=jZ.o aH;have eu:=A zW;have am6:(0:Int)<D x.I:=J;replace cC:=A (λw' (G:aL (b+1) oF w') (_:True)=>And.intro (cC.o w' G trivial) (zW w' G));clear zW;refine jz 17 cC ((aT _ _).drew) trivial λaD=>?_;have ck:aL (b+1) oF oF.drew:=(aT _ _).drew;have gE:oF.drew.heap.size=b+1:=by rw[<-Fq,<-td];simp
  generalize oF.drew=w1 at*;refine ae 0 ?_;refine ae 1 ?_;refine ae 2 ?_;refine ae 3 ?_;refine ae 4 ?_;refine ae 5 ?_;refine ae 6 ?_;refine ae 7 ?_;refine ae 8 ?_;refine ae 9 ?_;refine ae 10 ?_;refine ae 11 ?_;refine ae 13 ?_;refine cT 12 λK ab=>?_;go_simp;refine(V.o.O (cz.o w1 (td▸ck.mono J)).av (k:=bO) aiR).mono ?_;rintro _ w2 ⟨rfl,b8⟩;rw[gE] at b8;have e0:=ck.trans b8;obtain⟨gG,nV⟩: ∃t,B.O L bO=t:=⟨_,rfl⟩;rw[nV];go_simp;refine ab.o _ _ (λ_=>cC.o _ e0 trivial) ?_;have aD:=cC.o _ e0 trivial;refine ae 14 ?_;refine ae 15 ?_;refine ae 16 ?_;refine bV ?_;go_wp2;go_returns;rw[ei,nV];exact⟨by rw[mR];rfl,qU.o.trans (td▸e0.mono J)⟩
 .have ei:(x.j'==14)=false:=by simp[U]
  refine jz 17 cC ((aT _ _).drew) trivial λaD=>?_;have ck:aL (b+1) oF oF.drew:=(aT _ _).drew;generalize oF.drew=w1 at*;refine ae 0 ?_;refine ae 1 ?_;refine ae 2 ?_;refine ae 3 ?_;refine bt 4 ?_;refine bt 5 ?_;refine bt 6 ?_;refine bt 7 ?_;refine bt 8 ?_;refine bt 9 ?_;refine bt 10 ?_;refine bt 11 ?_;refine bt 12 ?_;refine bt 13 ?_;refine bt 14 ?_;refine ae 15 ?_;refine ae 16 ?_;refine bV ?_;go_wp2;go_returns;rw[ei];exact⟨rfl,qU.o.trans (td▸ck.mono J)⟩
def acu{g cA x bb aQ}(V:Hid (gY L E cG w0 tp fv (.slice (some ⟨g,0,none⟩) (D E) cA)))(h:dz L w0 p tp tv uv fv w su sb s)(cg:uX L w0 a g x bb aQ)(aR:a<D E){eG i cs q}(R:aG w ⟨b1,0,none⟩=some (.pointer (some ⟨p,0,none⟩)))(T:aG w ⟨b2,3,none⟩=some (.string (str eG)))(ah:aG w ⟨bC,0,none⟩=some (.func (.func i) #[] cs))(ck:b1<w.heap.size)(b8:b2<w.heap.size)(e0:bC<w.heap.size)(S_: ∀args w,(callFunc i args).run prog w= .ok (.enter i args) w)
 (a_: ∀y,aL w w y->aY i (#[.agg #[.int .i64 x.j',.int .i64 x.an,.int .i64 x.aX,.string (str x.O),(bb,D x.I,aQ)]]++cs) y λe w'=>e= .returned (.bool q)/\aL y y w'):aY 36 #[.int .i64 (a:Int),.pointer (some ⟨b1,0,none⟩),.pointer (some ⟨b2,0,none⟩),.pointer (some ⟨bC,0,none⟩)] w λe w'=>e= .returned (.bool (x.O==eG&&q))/\aL w w w':=by
 have⟨Ip,fB⟩:(a:Int)<D E/\(0:Int)<=a:=J;have eV:=A a_;clear a_;have cC:Hid (∀w',aL w w w'->True->aG w' b1=some (p,0)/\aG w' (b2,3)=some [eG]/\aG w' bC=some (.func (.func i) #[] cs)/\aG w' p=some (tp,0)/\aG w' tp=some (g,D E,cA)/\aG w' (g,a*5)=some [x.j']/\aG w' (g,a*5+1)=some [x.an]/\aG w' (g,a*5+2)=some [x.aX]/\aG w' (g,a*5+3)=some [x.O]/\aG w' (g,a*5+4)=some (bb,D x.I,aQ)):=A λw' G _=>by
  have bJ:=h.below G;obtain⟨_,_,z0,_,_,_,_,_⟩:=V.o.eo bJ.av;obtain⟨dY,ag,aE,bU,cL⟩:=cg.cells w' bJ.av;exact⟨(G.cell (p:=⟨b1,0,none⟩) ck).trans R,(G.cell (p:=⟨b2,3,none⟩) b8).trans T,(G.cell (p:=⟨bC,0,none⟩) e0).trans ah,bJ.at.1,z0,dY,ag,aE,bU,cL⟩
 have eK:=(V.o.eo h.av).choose_spec.choose_spec.2.2.2.1;have b9:=h.at.2.2.2.2.2.2.2.1;go_in;go_wp2_with fail;have ck:aL w w w.drew:=(aT _ _).drew;refine jz 29 cC ck trivial λaD=>?_;have gE:w.drew.heap.size=w.heap.size:=rfl;generalize w.drew=w1 at*;refine ae 0 ?_;refine ae 1 ?_;refine ae 2 ?_;refine ae 3 ?_;refine ae 4 ?_;refine ae 5 ?_;refine ae 6 ?_;refine ae 7 ?_;refine ae 8 ?_;refine ae 9 ?_;refine ae 10 ?_;refine ae 11 ?_;refine ae 12 ?_;cases U:(x.O==eG) with
 |true=>
  have ei:((str x.O).toList==(str eG).toList)=true:=by rw[mR,U]
  refine ae 13 ?_;refine ae 14 ?_;refine ae 15 ?_;refine ae 16 ?_;refine ae 17 ?_;refine ae 18 ?_;refine ae 19 ?_;refine ae 20 ?_;refine ae 21 ?_;refine ae 22 ?_;refine ae 23 ?_;refine ae 24 ?_;refine ae 25 ?_;refine cT 26 λK ab=>?_;go_simp;refine(eV.o w1 ck).mono ?_;rintro _ w2 ⟨rfl,b8⟩;have e0:=ck.trans (b8.mono (Nat.le_of_eq gE.symm));go_simp;refine ab.o _ _ (λ_=>cC.o _ e0 trivial) ?_;have aD:=cC.o _ e0 trivial;refine ae 27 ?_;refine ae 28 ?_;refine bV ?_;go_wp2;go_returns;exact⟨by rw[U];rfl,e0⟩
 |false=>
  have ei:((str x.O).toList==(str eG).toList)=false:=by rw[mR,U]
  refine ae 13 ?_;refine ae 14 ?_;refine bt 15 ?_;refine bt 16 ?_;refine bt 17 ?_;refine bt 18 ?_;refine bt 19 ?_;refine bt 20 ?_;refine bt 21 ?_;refine bt 22 ?_;refine bt 23 ?_;refine bt 24 ?_;refine bt 25 ?_;refine bt 26 ?_;refine ae 27 ?_;refine ae 28 ?_;refine bV ?_;go_wp2;go_returns;exact⟨by rw[U];rfl,ck⟩
def Dj.below{w w' a l}(h:Dj w a l)(G:aL w w w'):Dj w' a l:=λj bg=>by
 obtain⟨g,e,c⟩:=h j bg;exact⟨g,e,λw2 T=>c w2 (G.trans (T.mono G.size))⟩
def Q6{cf cap:Nat}{l:List Nat}{ad:Option Addr}(V:Hid (gY L E cG w0 tp fv nv))(h:dz L w0 p tp tv uv fv w su sb s){eG:bz}{i:FuncId}{cs:Array af}{q:Nat->Bool}(hl:D l<=1000000)(UH: ∀j∈l,j<D E)(CQ:Dj w ad l)(dH:aG w cf=some (ad,D l,cap))(R:aG w b1=some (p,0))(T:aG w (b2,3)=some [eG])(ck:b1<w.heap.size)(b8:b2<w.heap.size)(dh:cf<w.heap.size)(S_: ∀args w,(callFunc i args).run prog w= .ok (.enter i args) w)
 (a_: ∀j∈l,∀g x bb aQ,uX L w0 j g x bb aQ-> ∀y,aL w w y->aY i (#[.agg #[x.j',x.an,x.aX,x.O,(bb,D x.I,aQ)]]++cs) y λe w'=>e= .returned (.bool (q j))/\aL y y w'):aY 34 #[.func (.func i) #[] cs,(cf,0),(b1,0),(b2,0)] w λe w'=>e= .returned (.bool (l.any λj=>(Z L j).O==eG&&q j))/\aL w w w':=by
 have kJ:=(aT w w).alloc (bD _) (aw #[.func (.func i) #[] cs] 88);have ax:=ek w (aw #[.func (.func i) #[] cs] 88);have fp:(aA w (aw #[.func (.func i) #[] cs] 88)).heap.size=w.heap.size+1:=bT;have dA:Hid (aY 35 #[(ad,D l,cap),.func (.func 36) #[] #[(b1,0),(b2,0),(w.heap.size,0)]] (aA w (aw #[.func (.func i) #[] cs] 88)) λe w'=>e= .returned (.bool (l.any λj=>(Z L j).O==eG&&q j))/\aL (aA w (aw #[.func (.func i) #[] cs] 88)).heap.size (aA w (aw #[.func (.func i) #[] cs] 88)) w'):=A (Vx 36 _ _ hl (CQ.below kJ) ⟨enters_of func36 cS rfl,λj bg y bx=>by
  have se:aL w w y:=kJ.trans (bx.mono J);obtain⟨g,cA,x,bb,aQ,z_,cg⟩:=V.o.fe.gQ (h.below se).av (UH j bg);subst z_;dsimp only;rw[cg.Z];have bU:=az (ds ax bx J) 0;simp only[cO,cQ] at bU;have HU:=se.size;have agj:=bx.size;exact acu V (h.below se) cg (UH j bg) ((se.cell (p:=⟨b1,0,none⟩) ck).trans R) ((se.cell (p:=⟨b2,3,none⟩) b8).trans T) bU J J J S_ (λkd T=>a_ j bg g x bb aQ cg kd (se.trans (T.mono HU)))⟩)
 have am7:=(kJ.cell (p:=⟨cf,0,none⟩) dh).trans dH;go_in;go_wp2_with fail;refine dA.o.mono ?_;rintro e w2 ⟨rfl,G⟩;go_wp2;go_returns;exact⟨rfl,kJ.trans (G.mono J)⟩
end
end Pk
end
namespace Pk
open Ck
open Rk (hD kq px sI sK sP sM)
section
variable{L:List aP}{E:List (aP×af)}{cG:Nat}{w0:jf}{p tp:Nat}{tv uv fv nv su su0:af}{sb bf:List Nat}{w w1 wk w2:ai}{s s0:b5}{pl r r2 rc:df}{Q:e7->ai->Prop}{K:bz->b5->df}{b:Bool}{c:Int}{t:bz}{k a f:Nat}{dY:e7}
def QO{u}:bl (p_ L t u) 8 k [] s=(bl (fq t).isSome 8 k ((fq t).getD []) s).M λo s=>bl (fS L u o) 8 k [] s:=by unfold p_;cases fq t<;>rfl
def Sd(b:Bool)(c:Int)(t hL:bz):bl b c k t s=(bl b c k hL s).M λ_ s=> .ok t s:=by cases b<;>rfl
def KX{x}(h:eB t)(aF:fq t=some x):eB x:=h.fq aF
def acV(V:Hid (gY L E cG w0 tp fv nv))(U:k<D E)(lj:ct 3 (Z L k).j'=true)(dy:Hid (∀j,j<k->rS L w0 p tp tv uv fv j f))(h:dz L w0 p tp tv uv fv w su sb s)(ho:pb sb s k):aY 164 #[(p,0),k] w (jr L w0 p tp tv uv fv rv uY (bE L (f+1) .one k s) s su sb w):=by
 obtain⟨g,cA,x,bb,aQ,rfl,cg⟩:=V.o.fe.gQ h.av U;have br:=A cg;have ax:=cg.Z;rw[ax] at lj;have ba:bE L (f+1) .one k s=if x.j'=29 then bE L f .block (Y x.I 0 0) s
   else if x.j'=28 then(bE L f .b6 (Y x.I 0 0) s).M λt s1=>(bE L f .b6 (Y x.I 1 0) s1).M λu s2=>(bE L f .block (Y x.I 2 0) s2).M λ_ aq=>bl (p_ L t u) 8 k [] aq
   else(bE L f .b6 (Y x.I 0 0) s).M λt s1=>(if x.O=[] then df.ok [] (fH s1) else declare L k (fH s1)).M λ_ s2=>(bE L f .block (Y x.I 1 0) s2).M λ_ aq=>bl (fq t).isSome 8 k [] (Ck.shut aq):=by rw[<-ax];rfl
 have hI:=A ho;have hR:=ho.mW;have qt:Hid (x.j'=27\/x.j'=28\/x.j'=29):=A (by
  have:27<=x.j'/\x.j'<=29:=by simpa[ct] using lj
  omega)
 have c6:=cg.ly.len;have dG:0<D x.I:=by rcases qt.o with h|h|h<;>rw[h] at c6<;>simp[B.pat] at c6<;>omega
 replace c6:=A c6;have uc:(0:Int)<D x.I:=J;obtain⟨g2,rfl,_⟩:=cg.bM w 0 h.av dG;have eu:Hid (∀w' i,eO w0 w'->i<D x.I->aG w' ⟨g2,i,none⟩=some (.int .i64 (x.I.getD i 0:Int))):=A λw' i G ay=>by
  obtain⟨g3,e,ah⟩:=cg.bM w' i G ay;cases e;exact ah
 obtain⟨dY,ag,aE,bU,cL⟩:=cg.cells w h.av;obtain⟨_,_,z0,_,_,eK,_,_⟩:=V.o.eo h.av;obtain⟨b',_,_,_,_,_,_,b9,_⟩:=h.at;have⟨hv,hi⟩:(k:Int)<D E/\(0:Int)<=k:=J;obtain⟨H1,cJ,qk,dx⟩:=LJ h x (some ⟨g2,0,none⟩) aQ;have H:=Pk.bO H1.o ba;have NR:=A (Pk.bO H1.o ba).o.ex;clear h ax lj cg ba ho;go_in;go_upto_if 20 with fail;clear dY ag aE bU cL b' b9 z0 eK hv hi;generalize fp:aA w (aw #[.int .i64 x.j',.int .i64 x.an,.int .i64 x.aX,.string (str x.O),.slice (some ⟨g2,0,none⟩) (D x.I) aQ] 53)=w1 at*;generalize w.heap.size=q at*;clear fp;obtain⟨cF,_,iS,dO,hM⟩:=dx.o w1 dS.refl;have cl:=eu.o w1 0 H1.o.av dG;by_cases tr:x.j'=29
 .have E8:(x.j'==29)=true:=by simp[tr]
  obtain⟨aR,hc⟩:=br.o.at dG;rw[tr] at hc;have ev:Hid (Y x.I 0 0<k/\(Z L (Y x.I 0 0)).j'=16):=A ⟨aR,by simpa[ct,B.pat] using hc⟩;rw[aS tr] at H;replace H:=eP (show _=(bE L f .block (x.I.getD 0 0) s).M .ok by cases bE L f .block (x.I.getD 0 0) s<;>rfl) H;clear aR hc eu hR;generalize Y x.I 0 0=a at*;go_wp2_with fail;refine DN dy hI ev.o (λt w2 s2 H=>?_) (H:=H);go_wp2;go_returns;exact ju cJ.o (fs trivial H)
 .have E8:(x.j'==29)=false:=by simp[tr]
  rw[ao tr] at H;by_cases rL:x.j'=28
  .have E_:(x.j'==28)=true:=(by simp[rL]);rw[aS rL] at H;have tz:D x.I=3:=(by rw[c6.o,rL];rfl);have aH:=br.o.at dG;have R:=br.o.at (show 1<D x.I by omega);have T:=br.o.at (show 2<D x.I by omega);have⟨DQ,agX⟩:((1:Int)<D x.I/\(2:Int)<D x.I)/\(1<D x.I/\2<D x.I):=J;obtain⟨tY,Hi⟩:=DQ;obtain⟨Hk,Tn⟩:=agX;rw[rL] at aH R T;have aH:Hid (Y x.I 0 0<k/\ct 1 (Z L (Y x.I 0 0)).j'=true):=A aH;have R:Hid (Y x.I 1 0<k/\ct 1 (Z L (Y x.I 1 0)).j'=true):=A R;have T:Hid (Y x.I 2 0<k/\(Z L (Y x.I 2 0)).j'=16):=A ⟨T.1,by simpa[ct,B.pat] using T.2⟩;have cC:Hid (∀w',dS p tv uv su sb w1 w'->eO w0 w'->aG w' ⟨q,4,none⟩=some (.slice (some ⟨g2,0,none⟩) (D x.I) aQ)/\aG w' ⟨g2,0,none⟩=some (.int .i64 (x.I.getD 0 0:Int))/\aG w' ⟨g2,1,none⟩=some (.int .i64 (x.I.getD 1 0:Int))/\aG w' ⟨g2,2,none⟩=some (.int .i64 (x.I.getD 2 0:Int))):=A λw' aI G=>⟨(dx.o w' aI).2.2.2.1,eu.o w' 0 G dG,eu.o w' 1 G Hk,eu.o w' 2 G Tn⟩;clear eu hR rL tr c6 tz;generalize Y x.I 0 0=a0 at*;generalize Y x.I 1 0=a1 at*;generalize Y x.I 2 0=a2 at*;go_wp2_with fail;replace H:=dE H (aT _ _).drew;refine jT 14 (λcc=>cc.cell? ⟨q,4,none⟩=some (.slice (some ⟨g2,0,none⟩) (D x.I) aQ)/\cc.cell? ⟨g2,0,none⟩=some (.int .i64 (a0:Int))/\cc.cell? ⟨g2,1,none⟩=some (.int .i64 (a1:Int))/\cc.cell? ⟨g2,2,none⟩=some (.int .i64 (a2:Int))) (cC.o _ (cY H) H.o.av) λaD=>?_;clear cF iS dO cl;generalize w1.drew=b4 at*;refine ae 0 ?_;refine ae 1 ?_;refine ae 2 ?_;refine ae 3 ?_;refine ae 4 ?_;refine ae 6 ?_;refine ae 7 ?_;refine ae 8 ?_;refine ae 9 ?_;refine ae 10 ?_;refine cT 5 λK ab=>?_;go_simp;refine DO dy hI aH.o (λt b3 mj hT _ H=>?_) (H:=H);have bW:=A hT.1;clear hT;go_wp2_with fail;refine ab.o _ _ (λ_=>cC.o _ (cY H) H.o.av) ?_;clear ab K aD;have aD:=cC.o _ (cY H) H.o.av;refine cT 11 λK ab=>?_;go_simp;refine DO dy hI R.o (λu a6 ik qH _ H=>?_) (H:=H);have ia:=A qH.1;clear qH;go_wp2_with fail;refine ab.o _ _ (λ_=>cC.o _ (cY H) H.o.av) ?_;clear ab K aD;have aD:=cC.o _ (cY H) H.o.av;refine ae 12 ?_;refine ae 13 ?_;refine bV ?_;obtain⟨dO,cl,cu,k2⟩:=aD;go_wp2_with fail;refine DN dy hI T.o (λ_ cp k' H=>?_) (H:=H);clear dO cl cu k2;replace H:=eP QO H;go_wp2_with fail;replace H:=dE H (aT _ _).drew;refine jT 13 (λcc=>cc.cell? ⟨p,0,none⟩=some (.pointer (some ⟨tp,0,none⟩))) (dL H).1 λaD=>?_;generalize cp.drew=gF at*;refine ae 0 ?_;refine ae 1 ?_;refine ae 2 ?_;refine ae 3 ?_;refine ae 4 ?_;refine ae 5 ?_;refine ae 6 ?_;refine ae 7 ?_;refine ae 8 ?_;refine ae 11 ?_;refine cT 9 λK ab=>?_;go_simp;refine Hh V U (λiP o bX H=>?_) (H:=H);have eX:=A (KX bW.o bX);clear bX;go_wp2_with fail;refine ab.o _ _ (λ_=>(dL H).1) ?_;clear ab K aD;have aD:=(dL H).1;refine cT 10 λK ab=>?_;go_simp;refine pH (V.o.fits H.o.av ia.o eX.o) (λkp H=>?_) H;go_wp2_with fail;refine ab.o _ _ (λ_=>(dL H).1) ?_;clear ab K aD;have aD:=(dL H).1;replace H:=eP (jU _ _ _ _ _) H;refine cT 12 λK ab=>?_;go_simp;refine hh V U rfl (λmH _ H=>?_) (H:=H);go_wp2_with fail;refine ab.o _ _ (λ_=>(dL H).1) ?_;clear ab K aD;refine bV ?_;go_wp2;go_returns;exact ju cJ.o (fs trivial H)
  .have E_:(x.j'==28)=false:=(by simp[rL]);rw[ao rL] at H;have xi:x.j'=27:=(by rcases qt.o with h|h|h<;>omega);have amC:(x.j'==27)=true:=(by simp[xi]);have iL:D x.I=2:=(by rw[c6.o,xi];rfl);have aH:=br.o.at dG;have R:=br.o.at (show 1<D x.I by omega);have⟨tY,Hk⟩:(1:Int)<D x.I/\1<D x.I:=J;rw[xi] at aH R;have aH:Hid (Y x.I 0 0<k/\ct 1 (Z L (Y x.I 0 0)).j'=true):=A aH;have R:Hid (Y x.I 1 0<k/\(Z L (Y x.I 1 0)).j'=16):=A ⟨R.1,by simpa[ct,B.pat] using R.2⟩;have jZ:Hid ((Z L k).j'=7\/(Z L k).j'=17\/(Z L k).j'=27):=A (by rw[br.o.Z];exact .inr (.inr xi));have cC:Hid (∀w',dS p tv uv su sb w1 w'->eO w0 w'->aG w' ⟨q,3,none⟩=some (.string (str x.O))/\aG w' ⟨q,4,none⟩=some (.slice (some ⟨g2,0,none⟩) (D x.I) aQ)/\aG w' ⟨g2,1,none⟩=some (.int .i64 (x.I.getD 1 0:Int))/\q<w'.heap.size):=A λw' aI G=>⟨(dx.o w' aI).2.2.1,(dx.o w' aI).2.2.2.1,eu.o w' 1 G Hk,(dx.o w' aI).2.2.2.2⟩;clear eu rL tr xi c6 iL;generalize Y x.I 0 0=a0 at*;generalize Y x.I 1 0=a1 at*;go_wp2_with fail;refine DO dy hI aH.o (λt w2 s2 hT _ H=>?_) (H:=H);have bW:=A hT.1;clear hT cF iS dO hM cl;go_wp2_with fail;refine SJ J (λbc b H=>?_) H;obtain⟨iS,dO,cu,hM⟩:=cC.o bc (cY H) H.o.av;go_upto_if 73 with fail;go_cut[] from 71 to 76 (λdN=> ∃bA,Hid (du L w0 p tp tv uv fv su sb w1 s (bE L (f+1) .one k s) (sb++[b]) dN bA ((bE L f .block a1 bA).M λ_ aq=>bl (fq t).isSome 8 k [] (Ck.shut aq))))
   case first=>
    have sk:Hid ((str x.O).toList.isEmpty=decide (x.O=[])):=A (by rw[fC,f_];cases x.O<;>simp);go_wp2_with fail
    .have hJ:(!(str x.O).toList.isEmpty)=true:=(by assumption);have yR: ¬x.O=[]:=(by intro e;rw[sk.o,e] at hJ;simp at hJ);rw[ao yR] at H;clear yR hJ;refine SM V U jZ.o bT (λbS bA H=>?_) (H:=H);go_wp2_with fail;go_meet;exact⟨_,H⟩
    .have hJ:(!(str x.O).toList.isEmpty)=false:=(by assumption);have yR:x.O=[]:=(by rw[sk.o] at hJ;simpa using hJ);rw[aS yR] at H;replace H:=eP (show _=(bE L f .block a1 (fH s2)).M λ_ aq=>bl (fq t).isSome 8 k [] (Ck.shut aq) from rfl) H;go_meet;exact⟨_,H⟩
   case rest=>
    obtain⟨bA,eU⟩:=hcut;clear H iS dO cu hM;have H:=eU;clear eU;generalize wc=bS at*;obtain⟨_,dO,cu,_⟩:=cC.o bS (cY H) H.o.av;go_wp2_with fail;refine DN dy hI R.o (λ_ bm cm H=>?_) (H:=H);go_wp2_with fail;refine SK NR (λb4 H=>?_) H;replace H:=eP (Sd _ _ [] ((fq t).getD [])) H;go_wp2_with fail;refine Hh V U (λb3 o _ H=>?_) (H:=H);go_wp2;go_returns;exact ju cJ.o (fs trivial H)
open Rk (pT zC hD kq px sI sK sP sM)
def adS{r}(h:w.grownBy w2 none):w.grownBy w2 r:=⟨h.os,h.tape,h.output,h.size,λk U _=>h.block k U bT⟩
def Sc{N fX e n m v xs}(hN:fX<=N)(h:w.ownsRow N e n v m xs):w.ownsRow fX e n v m xs:=⟨h.1,h.2.imp id λ⟨g,cap,cur,e,R,r⟩=>⟨g,cap,cur,e,hg hN R,r⟩⟩
def abf(kR:Option Addr)(n c:Nat)(ax:n<=c)(aH:kR=none->n=0/\c=0)(w:ai):aY 71 #[(kR,n,c)] w λe w'=>e= .returned (kR,n,n)/\w'=w:=by
 cases kR with
 |none=>
  obtain⟨rfl,rfl⟩:=aH rfl;go_in;go_wp2;go_returns;exact⟨rfl,rfl⟩
 |some a=>
  have R:(n:Int)<=c:=J;go_in;go_wp2;go_returns;exact⟨rfl,rfl⟩
def ahl{ops rest o cF fx}{er:Exit->Act->ai->Prop}{a N H c kR}(b){cs}(hl:D sb<=1000000)(hH:w.heap.size=H)(bQ:w.ownsRow N 125 1 (.slice kR (D sb) c) (D sb) (lF sb))
 (h: ∀g cap a6,a6.ownsRow w.heap.size 125 1 (.slice (some ⟨g,0,none⟩) (D sb+1) cap) (D sb+1) (lF (sb++[b]))->(aA w (.cells cs 125)).grownBy a6 none->fo prog ops er rest (a.put o.dst (.slice (some ⟨g,0,none⟩) (D sb+1) cap)) a6)
 (ma:cs= #[.map (some b)]:=by rfl)(jO:o.guard=none:=by rfl)(bX:o.op= .call {callee:= .builtin .append,args:= #[cF,fx],argTypes:= #[45,45]}:=by rfl)(hs:a.eval cF= .slice kR (D sb) (D sb):=by rfl)(aF:a.eval fx= .slice (some ⟨H,0,none⟩) 1 1:=by rfl):
  fo prog ops er (o::rest) a (aA w (.cells cs 125)):=by
 obtain⟨i0,fM,e',e_,ff⟩:=kT Wh;subst ma hH;have pL:(aA w (aw #[.map (some b)] 125)).ownsRow N 125 1 (kR,D sb,c) (D sb) (lF sb):=fZ bQ ((aT w w).alloc (bD _) _) λk U=>(eI bQ k U).2;refine wpList_append_grows _ jO cF fx 45 bX 125 i0 _ 1 8 underlying45 fM e' e_ ff rfl J kR (D sb) (D sb) (lF sb) hs ?_ (by simp[lF]) ?_ ⟨w.heap.size,0,none⟩ 1 1 [.map (some b)] aF rfl (j7 (cs:= #[.map (some b)]) (t:=125) (fr:=(0,0)) (hf _ _)) (by intro y bx;simp at bx;subst bx;rfl) J (by unfold dc;omega) J ?_
 .rintro rfl;obtain⟨_,aH⟩|⟨g,cap,cur,aH,_⟩:=bQ.2
  .exact⟨aH,aH⟩
  .cases aH
 .rintro ad rfl j u bg;obtain⟨aH,_⟩|⟨g,cap,cur,aH,_⟩:=bQ.2
  .cases aH
  .cases aH;have LA:(⟨g,0,none⟩:Addr).add j=⟨g,j,none⟩:=(by unfold Addr.add;split<;>simp_all);have cr:=(List.getElem?_eq_some_iff.1 bg).1;rw[LA,tH pL j (by rw[show(lF sb).length=D sb from by simp[lF]] at cr;omega),bg]
 .intro cc a6 fF dv;rw[<-Jt] at fF;obtain⟨g,cap,rfl⟩:=dR fF J;exact h g cap a6 (Sc bT fF) dv
def yw (p:Nat)(tv uv:af)(w w':ai):Prop:=w.heap.size<=w'.heap.size/\ ∀b,b<w.heap.size->b≠p->tv.ownBlock≠some b->uv.ownBlock≠some b->w'.heap[b]?=w.heap[b]?
def dz.diff(h:dz L w0 p tp tv uv fv w su sb s){b}(G:(∃c,w.heap[b]?=some (.cells c 125 (0,0)))\/ ∃es c,w.heap[b]?=some (.map es c)):b≠p/\tv.ownBlock≠some b/\uv.ownBlock≠some b:=by
 have key: ∀{N e n:Nat} {v:af} {xs:List af},w.ownsRow N e 1 v n xs->125≠e->v.ownBlock≠some b:=λ{N e n v xs} bX aZ ag=>by
  obtain⟨hu,_⟩|⟨g,cap,cur,hu,_,aB,_⟩:=bX.2
  .rw[hu] at ag;cases ag
  .rw[hu] at ag;rw[show g=b from gZ ag] at aB;rcases G with⟨c,G⟩|⟨es,c,G⟩<;>rw[G] at aB<;>cases aB
   exact aZ rfl
 refine⟨λe=>?_,key h.ty aN,key h.us aN⟩;have aJ:=h.blk;rw[<-e] at aJ;rcases G with⟨c,G⟩|⟨es,c,G⟩<;>rw[G] at aJ<;>cases aJ
def dz.kept{cp}(h:dz L w0 p tp tv uv fv w su sb s)(U:yw p tv uv w cp):cp.ownsRow w0.heap.size 125 1 su (D sb) (lF sb)/\lq L w0.heap.size cp sb s.sc:=by
 have gU:cp.ownsRow w0.heap.size 125 1 su (D sb) (lF sb):=by
  refine⟨h.sc.1,?_⟩;obtain aH|⟨g,cap,cur,rfl,hN,G,au⟩:=h.sc.2
  .exact .inl aH
  .obtain⟨d1,d2,d3⟩:=h.diff (.inl ⟨_,G⟩);exact .inr ⟨g,cap,cur,rfl,hN,(U.2 g (bd G) d1 d2 d3).trans G,au⟩
 have ug:lq L w0.heap.size cp sb s.sc:=h.mp.move λb G=>by
  obtain⟨d1,d2,d3⟩:=h.diff (.inr (h.mp.obj G));exact U.2 b (h.mp.lt G) d1 d2 d3
 exact⟨gU,ug⟩
def dz.back{yt akt k' cp}(h:dz L w0 p tp tv uv fv w su sb s)(gW:dz L w0 p tp tv uv fv cp yt akt k')(U:yw p tv uv w cp):
  dz L w0 p tp tv uv fv (a7 (a7 (a7 cp (p,4) su) (p,5) s.res) (p,6) s.cx) su sb {k' with sc:=s.sc,cx:=s.cx,res:=s.res}/\dS p tv uv su sb w (a7 (a7 (a7 cp (p,4) su) (p,5) s.res) (p,6) s.cx):=by obtain⟨gU,ug⟩:=h.kept U;have a1:=gW.od 4 su (s':={k' with sc:=s.sc}) ⟨rfl,rfl⟩ rfl gU ug;have a2:=a1.od 5 s.res (s':={k' with sc:=s.sc,res:=s.res}) ⟨rfl,rfl⟩ rfl a1.sc a1.mp;have a3:=a2.od 6 s.cx (s':={k' with sc:=s.sc,res:=s.res,cx:=s.cx}) ⟨rfl,rfl⟩ rfl a2.sc a2.mp;refine⟨a3,⟨by simp;exact U.1,λb G R T ah _ _=>?_⟩⟩;have ag:=U.2 b G R T ah;obtain⟨o,bX⟩: ∃o,w.heap[b]?=some o:=⟨_,u3 G⟩;rw[bX] at ag|-;exact fK (fK (fK ag R 4 _) R 5 _) R 6 _
def aeE{r5 nS Jm a6 u4 u5 u6}(aJ:p<w.heap.size)(aB:(aA (aA (aA w r5) nS) Jm).grownBy a6 none):yw p tv uv w (a7 (a7 (a7 a6 (p,4) u4) (p,6) u6) (p,5) u5)/\(a7 (a7 (a7 a6 (p,4) u4) (p,6) u6) (p,5) u5).heap[w.heap.size]?=some r5:=by
 have key: ∀b o,b≠p->a6.heap[b]?=some o->(a7 (a7 (a7 a6 (p,4) u4) (p,6) u6) (p,5) u5).heap[b]?=some o:=λb o R h=>fK (fK (fK h R 4 _) R 6 _) R 5 _;have hs:(aA (aA (aA w r5) nS) Jm).heap.size=w.heap.size+3:=bT;have hsz:=aB.size;refine⟨⟨by simp;omega,λb G R _ _=>?_⟩,?_⟩
 .obtain⟨o,bX⟩: ∃o,w.heap[b]?=some o:=⟨_,u3 G⟩;rw[bX];refine key b o R ((aB.block b J bT).trans ?_);exact(((aT w w).alloc (bD _) r5).alloc bT nS|>.alloc (by simp;omega) Jm|>.block b G).trans bX
 .refine key _ _ J ((aB.block _ J bT).trans ?_);exact((((aT (aA w r5).heap.size (aA w r5)).alloc (bD _) nS).alloc bT Jm).block _ bT).trans (hf w r5)
def du.aeF(H:Hid (du L w0 p tp tv uv fv su0 sb w1 s0 pl bf wk s r))(t)(au:s0.res=t\/True): ∃su,dz L w0 p tp tv uv fv (a7 wk (p,5) t) su bf {s with res:=t}/\dS p tv uv su0 sb w1 (a7 wk (p,5) t)/\At su0 su w1:=by obtain⟨su,R,T,ah⟩:=H.o.st;exact⟨su,R.od 5 t ⟨rfl,rfl⟩ rfl R.sc R.mp,T.step ah H.o.ex (dS.set 5 _),ah⟩
def Ot (V:Hid (gY L E cG w0 tp fv nv)) (U:k<=E.length) (nB:k<=f) (dy:Hid (∀j,j<k->rS L w0 p tp tv uv fv j f)) (ps:List Nat) (a b:Nat) (EB: ∀j,j<ps.length->ps.getD j 0<k/\(Z L (ps.getD j 0)).j'=7) (gV:ps.length<=1) (aR:a<k/\(Z L a).j'=8) (G:b<k/\(Z L b).j'=16) (h:dz L w0 p tp tv uv fv w su sb s) (ho:sb.length+3*(k+1)<=1000000)
  {pa:Option Addr} {pc:Nat} (Y':Hid (∀w',yw p tv uv w w'-> ∀j,j<ps.length-> ∃y',pa=some ⟨y',0,none⟩/\w'.cell? ⟨y',j,none⟩=some (.int .i64 (ps.getD j 0:Int)))):
  Calls prog 37 #[.pointer (some ⟨p,0,none⟩),.int .i64 (a:Int),.int .i64 (b:Int),.slice pa ps.length pc] w (jr L w0 p tp tv uv fv rv uY (function L (bE L f) ps a b s) s su sb w):=by
 obtain⟨g,cA,x,bb,aQ,rfl,cg⟩:=V.o.fe.gQ h.av (show a<E.length by omega);have br:=A cg;obtain⟨m,oA,o3⟩:=cg.wf.aX (.inr (by rw[<-cg.Z];exact aR.2));have B6:Hid (l6 L a=if m<x.I.length then B.O L (x.I.getD m 0) else[]):=A (by unfold l6;rw[cg.Z,oA];rfl);have w7:Hid (eB (l6 L a)):=A (by
  rw[B6.o];split
  .rename_i bN;obtain⟨R,T⟩:=cg.at bN;have hU:x.j'=8:=(by rw[<-cg.Z];exact aR.2);have aJ:(B.pat x.j' x.aX x.I.length).getD m 0=0:=by
    rw[hU,show B.pat 8 x.aX x.I.length=ef x.aX.toNat 7++ef (x.I.length-x.aX.toNat) 0 from rfl,oA,xJ,cd,rU (by simp),ku];split<;>rfl
   rw[aJ] at T;exact V.o.jn.gG (by rw[V.o.pF];omega) (Lw T)
  .exact eB.nil)
 obtain⟨kR,qq,rfl⟩:=eR h.sc rfl;have cV:=A h;obtain⟨_,_,_,_,dQ,ij,fg,b9,mi⟩:=h.at;have f4:=mi 4;have nP:sb.length<=qq:=by
  obtain⟨aH,R⟩|⟨g,cap,cur,aH,_,_,R,_⟩:=h.sc.2
  .obtain⟨_,aE,bU⟩:=Value.slice.inj aH;omega
  .cases aH;exact R
 have w3:kR=none->sb.length=0/\qq=0:=λe=>by
  obtain⟨aH,R⟩|⟨g,cap,cur,aH,_⟩:=h.sc.2
  .obtain⟨_,aE,bU⟩:=Value.slice.inj aH;exact⟨aE,bU⟩
  .cases aH;cases e
 have Rj:=A (λw'=>abf kR sb.length qq nP w3 w');have H1:=A (h.alloc (aw #[.slice kR sb.length qq,.string (str s.res),.int .i64 s.cx] 47));have eV:=A (ek w (aw #[.slice kR sb.length qq,.string (str s.res),.int .i64 s.cx] 47));have BH:= @run_makeMap prog;have hR:sb.length<=1000000:=by omega
 have iM:Hid (sb.length+3*(k+1)<=1000000):=A ho;have qk:w.heap.size<(w.alloc (aw #[.slice kR sb.length qq,.string (str s.res),.int .i64 s.cx] 47)).heap.size:=by simp
 clear h mi cg nP w3 ho;go_in;go_wp2_with fail;refine b7 (Rj.o _) ?_;rintro dN rfl;have n5:=A H1.o.av.size;clear Rj;have jJ:Hid (p<w.heap.size):=A b9;go_wp2_with(at_builtin;refine ahl (N:=w0.heap.size) (H:=w.heap.size+2) (c:=qq) (w.heap.size+1) hR (by simp) (H1.o.alloc (.map #[] 0)).sc (λgs gc a6 fT gl=>?_);have jm:=A fT;have uJ:=A (aeE (tv:=tv) (uv:=uv) (u4:= .slice (some ⟨gs,0,none⟩) (sb.length+1) gc) (u5:= .string ⟨#[]⟩) (u6:= .int .i64 0) jJ.o gl);have hsz:(w.alloc (aw #[.slice kR sb.length qq,.string (str s.res),.int .i64 s.cx] 47)).heap.size=w.heap.size+1:=(by simp);have z:=A (H1.o.fH (by rw[hsz];exact Sc (by have:=n5.o;simp at this|-;omega) fT) (adS gl));have c4:=az z.o.2.2 4;have cY:=cX z.o.2.2 4;have kg:=bd z.o.2.2;have c4:a6.cell? ⟨p,4,none⟩=some (.slice kR sb.length qq):=c4;have y8:=az z.o.1.blk 6;have ahJ:=cX z.o.1.blk 6;have ahL:=bd z.o.1.blk;have hB:=A (z.o.1.od 6 (.int .i64 0) (s':={fH s with cx:=0}) ⟨rfl,rfl⟩ rfl z.o.1.sc z.o.1.mp);have c5:=az hB.o.blk 5;have ahI:=cX hB.o.blk 5;have ahK:=bd hB.o.blk;clear fT gl)
 have gR:=A (hB.o.od 5 (.string ⟨#[]⟩) (s':=pT s) ⟨rfl,rfl⟩ rfl hB.o.sc hB.o.mp);have HG:Hid (w.heap.size+2<=gs):=A (by have:=(eI jm.o gs rfl).1;simp at this;omega);generalize qQ:(w.alloc (aw #[.slice kR sb.length qq,.string (str s.res),.int .i64 s.cx] 47)).heap.size=e8 at*;generalize gT:(((a6.setCell ⟨p,4,none⟩ (.slice (some ⟨gs,0,none⟩) (sb.length+1) gc)).setCell ⟨p,6,none⟩ (.int .i64 0)).setCell ⟨p,5,none⟩ (.string ⟨#[]⟩))=w2 at*;have aiN:e8=w.heap.size+1:=by rw[<-qQ];simp
 have uK:Hid (∀w',dS p tv uv (.slice (some ⟨gs,0,none⟩) (sb.length+1) gc) (sb++[e8]) w2 w'->yw p tv uv w w'):=A λw' aI=>⟨hg uJ.o.1.1 aI.size,λoL pQ R T ah=>(aI.gP oL (kv pQ uJ.o.1.1) R T ah (λe=>by have h:=HG.o;have aE:some gs=some oL:=e;have:=gZ aE;omega) (λe=>by have aE:some e8=some oL:=(by rw[<-e];simp);have:=gZ aE;omega)).trans (uJ.o.1.2 oL pQ R T ah)⟩;have Zb:Hid (∀w',dS p tv uv (.slice (some ⟨gs,0,none⟩) (sb.length+1) gc) (sb++[e8]) w2 w'->w'.cell? ⟨w.heap.size,0,none⟩=some (.slice kR sb.length qq)/\w'.cell? ⟨w.heap.size,1,none⟩=some (.string (str s.res))/\w'.cell? ⟨w.heap.size,2,none⟩=some (.int .i64 s.cx)/\w.heap.size<w'.heap.size):=A λw' aI=>by
  have a_:=gR.o.own aI uJ.o.2;exact⟨az a_ 0,az a_ 1,az a_ 2,bd a_⟩
 clear aiN gT H1 eV z hB c4 cY kg y8 ahJ ahL c5 ahI ahK dQ ij fg b9 f4 qk hsz qQ hR BH;have H:=bO gR.o (show function L (bE L f) ps a b s=(each (bE L f .typ) (ps++[a]) (pT s)).M (λ_ s1=>(bE L f .block b {s1 with res:=l6 L a}).M λ_ s2=> .ok [] {s2 with sc:=s.sc,cx:=s.cx,res:=s.res}) from rfl);clear gR;go_loopg[39] ps.length (λr i wr=> ∃(j:Nat) (s1:b5),j+r=ps.length/\i= .int .i64 (j:Int)/\Hid (du L w0 p tp tv uv fv (.slice (some ⟨gs,0,none⟩) (sb.length+1) gc) (sb++[e8]) w2 (pT s) (function L (bE L f) ps a b s) (sb++[e8]) wr s1 ((each (bE L f .typ) ((ps++[a]).drop j) s1).M λ_ s1=>(bE L f .block b {s1 with res:=l6 L a}).M λ_ s2=> .ok [] {s2 with sc:=s.sc,cx:=s.cx,res:=s.res})))
 case atStart=>exact⟨0,pT s,by omega,rfl,H⟩
 case round=>
  obtain⟨j,s1,bg,rfl,eU⟩:=hrel;clear H;have H:=eU;clear eU;generalize wr=bH at*;by_cases cr:j<ps.length
  .have j3:(j:Int)<ps.length:=(by omega);have me:(0:Int)<=j:=(by omega);have hK:IntKind.i64.wrap (j+1)=j+1:=dI _ (by omega);obtain⟨y',UK,cu⟩:=Y'.o bH (uK.o bH (cY H)) j cr;subst UK;obtain⟨AN,uq⟩:=EB j cr;have H:=eP (show _=(bE L f .typ (ps.getD j 0) s1).M λ_ s2=>(each (bE L f .typ) ((ps++[a]).drop (j+1)) s2).M (λ_ s1=>(bE L f .block b {s1 with res:=l6 L a}).M λ_ s2=> .ok [] {s2 with sc:=s.sc,cx:=s.cx,res:=s.res}) by
    rw[kS (by simp;omega),List.getElem_append_left cr,cd,cE cr];exact i' _ _ _) H
   have tP:=A (show _/\_ from⟨AN,uq⟩);clear AN uq;generalize ps.getD j 0=d at*;go_wp2_with fail;refine Bv V (kv tP.o.1 nB) ⟨kv tP.o.1 U,.inr (.inl tP.o.2),λe=>by simp at e⟩ (λt bc aq H=>?_) (H:=H);go_wp2;go_roundg (ps.length-(j+1))
   case rel=>exact⟨j+1,aq,by omega,by go_num,H⟩
   case measure=>omega
  .obtain rfl:j=ps.length:=(by omega);have H:=eP (show _=(bE L f .typ a s1).M (λ_ s1=>(bE L f .block b {s1 with res:=l6 L a}).M λ_ s2=> .ok [] {s2 with sc:=s.sc,cx:=s.cx,res:=s.res}) by
    rw[List.drop_left];show((bE L f .typ a s1).M λ_ s1=> .ok [] s1).M _=_;cases bE L f .typ a s1<;>rfl) H
   have hv:(a:Int)<E.length:=(by omega);have hi:(0:Int)<=a:=(by omega);go_wp2_with fail;refine Bv V (kv aR.1 nB) ⟨kv aR.1 U,.inr (.inr aR.2),λe=>by simp at e⟩ (λt bS bA H=>?_) (H:=H);obtain⟨dY,ag,aE,bU,cL⟩:=br.o.cells bS H.o.av;obtain⟨_,_,z0,_,_,eK,_,_⟩:=V.o.eo H.o.av;obtain⟨b',_,_,_,_,_,b9,_⟩:=dL H;have Fj:=A (ek bS (aw #[.int .i64 x.j',.int .i64 x.an,.int .i64 x.aX,.string (str x.O),.slice bb x.I.length aQ] 53));have rq:=br.o.fA.2;rw[oA] at aE Fj;go_upto_if 65 with fail;have H:=dE H ((aT bS bS).alloc (bD _) (aw #[.int .i64 x.j',.int .i64 x.an,.int .i64 (m:Int),.string (str x.O),.slice bb x.I.length aQ] 53));clear dY ag aE bU cL z0 eK b' b9;generalize bS.alloc (aw #[.int .i64 x.j',.int .i64 x.an,.int .i64 (m:Int),.string (str x.O),.slice bb x.I.length aQ] 53)=bm at*;generalize a_:bS.heap.size=q at*;have ml:=az Fj.o 2;have dO:=az Fj.o 4;have hM:=bd Fj.o;simp only[cO,cQ,c8] at ml dO;have Cn:Hid (bA.res=[]):=A H.o.gn.rs;go_cut[] from 60 to 80 (λdN=>Hid (du L w0 p tp tv uv fv (.slice (some ⟨gs,0,none⟩) (sb.length+1) gc) (sb++[e8]) w2 {pT s with res:=l6 L a} (function L (bE L f) ps a b s) (sb++[e8]) dN {bA with res:=l6 L a} ((bE L f .block b {bA with res:=l6 L a}).M λ_ s2=> .ok [] {s2 with sc:=s.sc,cx:=s.cx,res:=s.res})))
   case first=>
    by_cases bN:m<x.I.length
    .have Aq:(m:Int)<x.I.length:=(by omega);have BN:(0:Int)<=m:=(by omega);have tl:l6 L a=B.O L (x.I.getD m 0):=(by rw[B6.o,aS bN]);obtain⟨gk,rfl,dq⟩:=br.o.bM bm m H.o.av bN;have pI:=(br.o.at bN).1;have ID:x.I.getD m 0<E.length:=(by omega);rw[tl] at H;have lr:=A tl;clear tl pI;generalize x.I.getD m 0=d at*;go_wp2_with fail;have H:=dE H (aT _ _).drew;have EY:(bm.drew.cell? ⟨p,0,none⟩=some (.pointer (some ⟨tp,0,none⟩))/\bm.drew.cell? ⟨q,4,none⟩=some (.slice (some ⟨gk,0,none⟩) x.I.length aQ)/\bm.drew.cell? ⟨q,2,none⟩=some (.int .i64 (m:Int))/\bm.drew.cell? ⟨gk,m,none⟩=some (.int .i64 (d:Int))):=⟨(dL H).1,dO,ml,dq⟩;refine jT 15 (λcc=>(cc.cell? ⟨p,0,none⟩=some (.pointer (some ⟨tp,0,none⟩))/\cc.cell? ⟨q,4,none⟩=some (.slice (some ⟨gk,0,none⟩) x.I.length aQ)/\cc.cell? ⟨q,2,none⟩=some (.int .i64 (m:Int))/\cc.cell? ⟨gk,m,none⟩=some (.int .i64 (d:Int)))) EY λaD=>?_;clear ml dO hM dq EY;generalize bm.drew=b4 at*;refine a' 0 ?_;refine a' 1 ?_;refine a' 2 ?_;refine a' 3 ?_;refine a' 4 ?_;refine a' 5 ?_;refine a' 6 ?_;refine a' 7 ?_;refine a' 8 ?_;refine a' 9 ?_;refine a' 10 ?_;refine cT 11 λK ab=>?_;go_simp;refine(V.o.O H.o.av ID).mono ?_;rintro lY b3 ⟨rfl,ie⟩;have vY:(b3.cell? ⟨p,0,none⟩=some (.pointer (some ⟨tp,0,none⟩))/\b3.cell? ⟨q,4,none⟩=some (.slice (some ⟨gk,0,none⟩) x.I.length aQ)/\b3.cell? ⟨q,2,none⟩=some (.int .i64 (m:Int))/\b3.cell? ⟨gk,m,none⟩=some (.int .i64 (d:Int))):=by
      have key: ∀{q:Addr} {v:af},b4.cell? q=some v->b3.cell? q=some v:=λh=>(ie.cell (sF h)).trans h;exact⟨key aD.1,key aD.2.1,key aD.2.2.1,key aD.2.2.2⟩
     have H:=dE H ie;clear ie;go_wp2_with fail;refine ab.o _ _ (λ_=>vY) ?_;clear ab K aD;have aD:=vY;refine cT 12 λK ab=>?_;go_simp;refine ab.o _ _ (λ_=>aD) ?_;clear ab K;refine cT 13 λK ab=>?_;go_simp;refine ab.o _ _ (λ_=>aD) ?_;clear ab K;refine a' 14 ?_;refine cT 15 λK ab=>?_;obtain⟨_,_,_,_,ij,_,b9,mi⟩:=dL H;have f5:=mi 5;clear mi;go_simp;refine ab.o _ _ (λh=>absurd rfl h) ?_;clear ab K aD vY ij b9 f5;refine bV ?_;obtain⟨yt,g1,g2,g3⟩:=du.aeF H (B.O L d) (.inr trivial);have N4:=A (show du L w0 p tp tv uv fv (.slice (some ⟨gs,0,none⟩) (sb.length+1) gc) (sb++[e8]) w2 {pT s with res:=B.O L d} (function L (bE L f) ps a b s) (sb++[e8]) (b3.setCell ⟨p,5,none⟩ (.string (str (B.O L d)))) {bA with res:=B.O L d} ((bE L f .block b {bA with res:=B.O L d}).M λ_ s2=> .ok [] {s2 with sc:=s.sc,cx:=s.cx,res:=s.res}) from⟨⟨yt,g1,g2,g3⟩,H.o.ex,⟨H.o.gn.us,H.o.gn.lp,rfl⟩,H.o.eq⟩);clear g1 g2 g3;generalize b3.setCell ⟨p,5,none⟩ (.string (str (B.O L d)))=a6 at*;go_wp2_with fail;go_meet;rw[lr.o];exact N4
    .have Aq: ¬(m:Int)<x.I.length:=(by omega);have tl:l6 L a=[]:=(by rw[B6.o,ao bN]);have N5:({bA with res:=[]}:b5)=bA:=by
      have R:=Cn.o;cases bA;cases R;rfl
     have N4:=A (show du L w0 p tp tv uv fv (.slice (some ⟨gs,0,none⟩) (sb.length+1) gc) (sb++[e8]) w2 {pT s with res:=l6 L a} (function L (bE L f) ps a b s) (sb++[e8]) bm {bA with res:=l6 L a} ((bE L f .block b {bA with res:=l6 L a}).M λ_ s2=> .ok [] {s2 with sc:=s.sc,cx:=s.cx,res:=s.res}) from by
      rw[tl,N5];refine⟨H.o.st,H.o.ex,⟨H.o.gn.us,H.o.gn.lp,Cn.o⟩,?_⟩;have:=H.o.eq;rw[tl,N5] at this;exact this)
     clear N5 tl;go_wp2_with fail;go_meet;exact N4
   case rest=>
    clear H ml dO hM Fj;have H:=hcut;clear hcut;generalize wc=b4 at*;have nC:Hid (({bA with res:=l6 L a}:b5).cx=0):=A H.o.gn.lp;go_wp2_with fail;refine oT (λyt gW=>(dy.o b G.1).block G.2 _ _ _ _ gW ⟨by simp,by rw[nC.o];have:=V.o.le;omega,by have:=iM.o;simp;omega,w7.o⟩) (λt b3 mj _ _ H=>?_) (by intro c j w2 bZ bY;replace bZ:=A bZ;unfold gS;go_wp2;exact⟨rfl,kZ (k:=j) bZ.o bY⟩) H;obtain⟨fx,hp,kd,PS⟩:=Zb.o b3 (cY H);obtain⟨yt,gW,_,_⟩:=H.o.st;have Re:=A (cV.o.back gW (uK.o b3 (cY H)));obtain⟨_,_,_,_,dQ,ij,fg,b9,mi⟩:=gW.at;have f4:=mi 4;have f5:=mi 5;have f6:=mi 6;clear mi gW;go_wp2;go_returns;rw[H.o.eq];exact⟨rfl,trivial,⟨λi ay=>H.o.gn.us i ay,rfl,rfl⟩,_,Re.o.1,Re.o.2,At.refl⟩
def dz.one(h:dz L w0 p tp tv uv fv w su sb s)(hs:s.sc=[]):dz L w0 p tp tv uv fv (a7 (aA (aA w (.map #[] 0)) (aw #[.map (some w.heap.size)] 125)) (p,4) (.slice (some (w.heap.size+1,0)) 1 1)) (.slice (some (w.heap.size+1,0)) 1 1) [w.heap.size] (Ck.fH s):=by
 have ev:=(h.alloc (.map #[] 0)).alloc (aw #[.map (some w.heap.size)] 125);have G:=hf (aA w (.map #[] 0)) (aw #[.map (some w.heap.size)] 125);rw[show(aA w (.map #[] 0)).heap.size=w.heap.size+1 from by simp] at G;have hy:gb (aA (aA w (.map #[] 0)) (aw #[.map (some w.heap.size)] 125)) w.heap.size 0 (λ_=>none):=(gb.made w).below ((aT _ _).alloc (bD _) _);have hz:=h.av.size;refine ev.od 4 _ (s':=Ck.fH s) ⟨rfl,rfl⟩ rfl ⟨rfl,.inr ⟨w.heap.size+1,1,_,rfl,by omega,G,bD _,by unfold dc;exact Nat.le_add_left 1 _,rfl,rfl⟩⟩ ⟨?_,by simp,λi b m R T=>?_,λm hm=>?_⟩
 .show 1=D (s.sc++[[]]);rw[hs];rfl
 .have T':(s.sc++[[]])[i]?=some m:=T;rw[hs] at T';cases i with
  |zero=>
   obtain rfl:w.heap.size=b:=(by simpa using R);obtain rfl:[]=m:=(by simpa using T');exact⟨hz,hy⟩
  |succ i=>simp at R
 .have zZ:m∈s.sc++[[]]:=hm;rw[hs] at zZ;obtain rfl:m=[]:=by simpa using zZ
  exact⟨λe he=>(by cases he),by simp⟩
def acs(V:Hid (gY L E cG w0 tp fv nv))(U:k<D E)(nB:k<f)(eh:(Z L k).j'=8)(h:dz L w0 p tp tv uv fv w su sb s)(hs:s.sc=[]):aY 42 #[(p,0),k] w (jr L w0 p tp tv uv fv rv uY ((bE L f .typ k (fH s)).M λ_ s1=> .ok [] {s1 with sc:=s.sc}) s su sb w):=by
 have cV:=A h;obtain⟨kR,qq,rfl⟩:=eR h.sc rfl;obtain⟨_,_,_,_,dQ,_,_,b9,mi⟩:=h.at;have f4:=mi 4;have BH:= @run_makeMap prog;have gR:=A (h.one hs);have ana:=h.aJ;have G2:Hid (yw p tv uv w (a7 (aA (aA w (.map #[] 0)) (aw #[.map (some w.heap.size)] 125)) (p,4) (.slice (some (w.heap.size+1,0)) 1 1))):=A ⟨by simp;omega,λb G R _ _=>by
  obtain⟨o,bX⟩: ∃o,w.heap[b]?=some o:=⟨_,u3 G⟩;rw[bX];refine fK ?_ R 4 _;exact(((aT w w).alloc (bD _) (.map #[] 0)).alloc bT (aw #[.map (some w.heap.size)] 125)|>.block b G).trans bX⟩
 have aiw:(a7 (aA (aA w (.map #[] 0)) (aw #[.map (some w.heap.size)] 125)) (p,4) (.slice (some (w.heap.size+1,0)) 1 1))=(aA (aA (a7 w (p,4) (.slice (some (w.heap.size+1,0)) 1 1)) (.map #[] 0)) (aw #[.map (some w.heap.size)] 125)):=by rw[World.setCell_alloc_past _ _ _ _ (by simp;omega),World.setCell_alloc_past _ _ _ _ b9]
 rw[aiw] at gR G2;clear h;go_in;go_wp2_with fail;generalize gT:(aA (aA (a7 w (p,4) (.slice (some (w.heap.size+1,0)) 1 1)) (.map #[] 0)) (aw #[.map (some w.heap.size)] 125))=w2 at*;have H:=bO gR.o (show(bE L f .typ k (fH s)).M (λ_ s1=>df.ok [] {s1 with sc:=s.sc})=_ from rfl);have uK:Hid (∀w',dS p tv uv (.slice (some (w.heap.size+1,0)) 1 1) [w.heap.size] w2 w'->yw p tv uv w w'):=A λw' aI=>⟨hg G2.o.1 aI.size,λb G R T ah=>(aI.gP b (kv G G2.o.1) R T ah (λe=>by have aE:some (w.heap.size+1)=some b:=e;have:=gZ aE;omega) (λe=>by have aE:some w.heap.size=some b:=e;have:=gZ aE;omega)).trans (G2.o.2 b G R T ah)⟩;refine Bv V nB ⟨U,.inr (.inr eh),λe=>absurd e bT⟩ (λt bc aq H=>?_) (H:=H);obtain⟨yt,gW,_,_⟩:=H.o.st;obtain⟨_,_,_,_,dQ,_,_,b9,mi⟩:=gW.at;have f4:=mi 4;obtain⟨gU,ug⟩:=cV.o.kept (uK.o bc (cY H));have n5:=A (gW.od 4 (kR,D sb,qq) (s':={aq with sc:=s.sc}) ⟨rfl,rfl⟩ rfl gU ug);have B7:=A (uK.o bc (cY H));clear gW;go_wp2;go_returns;rw[H.o.eq];refine⟨rfl,trivial,⟨λi ay=>H.o.gn.us i ay,H.o.gn.lp,H.o.gn.rs⟩,_,n5.o,⟨by simp;exact B7.o.1,λb G R T ah _ _=>?_⟩,At.refl⟩;have ag:=B7.o.2 b G R T ah;obtain⟨o,bX⟩: ∃o,w.heap[b]?=some o:=⟨_,u3 G⟩;rw[bX] at ag|-;exact fK ag R 4 _
def dz.fresh{oL}(h:dz L w0 p tp tv uv fv w su sb s)(aI:dS p tv uv su sb w1 w2)(R:w.heap.size<=oL)(T:oL<w1.heap.size):w2.heap[oL]?=w1.heap[oL]?:=aI.gP oL T (λe=>by have:=bd h.blk;omega) (λe=>by have:=(eI h.ty oL e).2;omega) (λe=>by have:=(eI h.us oL e).2;omega) (λe=>by have:=(eI h.sc oL e).2;omega) (λe=>by have:=h.mp.lt (List.mem_of_getLast? e);omega)
def acW(dy:Hid (∀j,j<k->rS L w0 p tp tv uv fv j f))(d_:Hid (pb sb s k))(aR:a<k/\ct 1 (Z L a).j'=true)(h:dz L w0 p tp tv uv fv w su sb s){i jL q g2 n aQ}(hc:aG w ⟨jL,0,none⟩=some (.pointer (some ⟨p,0,none⟩)))(bJ:aG w ⟨q,4,none⟩=some (.slice (some ⟨g2,0,none⟩) n aQ))(CX:aG w ⟨g2,i,none⟩=some (.int .i64 (a:Int)))(ay:i<n):
  aY 157 #[.int .i64 (i:Int),.pointer (some ⟨jL,0,none⟩),.pointer (some ⟨q,0,none⟩)] w (jr L w0 p tp tv uv fv kI (sA L a) (bE L f .b6 a s) s su sb w):=by
 have H:=bO h (show bE L f .b6 a s=(bE L f .b6 a s).M .ok by cases bE L f .b6 a s<;>rfl);have ev:=A aR;have⟨N2,fM⟩:(i:Int)<n/\(0:Int)<=i:=J;clear aR;go_in;have Go:=0;go_wp2;go_still_tail 6,cS
 change fo _ _ _ _ _ w.drew;have H:=dE H (aT _ _).drew;generalize w.drew=w2 at*;go_wp2;refine DO dy d_ ev.o (λt bc aq hT _ H=>?_) (H:=H);have hT:=A hT;go_wp2;go_returns;exact fs hT.o H
def adN(V:Hid (gY L E cG w0 tp fv nv))(G:eO w0 w)(aR:a<D E)(b':aG w ⟨p,0,none⟩=some (.pointer (some ⟨tp,0,none⟩))){i jL q g2 n aQ b dL}(ks:List Int)(UG:D ks<=100)(hc:aG w ⟨jL,0,none⟩=some (.pointer (some ⟨p,0,none⟩)))(bJ:aG w ⟨q,4,none⟩=some (.slice (some ⟨g2,0,none⟩) n aQ))(CX:aG w ⟨g2,i,none⟩=some (.int .i64 (a:Int)))(ay:i<n)
 (zW: ∀j,j<D ks->aG w ⟨b,j,none⟩=some (.int .i64 (Y ks j 0))):
  aY 159 #[.int .i64 (i:Int),.slice (some ⟨b,0,none⟩) (D ks) dL,.pointer (some ⟨jL,0,none⟩),.pointer (some ⟨q,0,none⟩)] w λe w'=>e= .returned (.bool (ks.contains (Z L a).j'))/\aL w w w':=by
 obtain⟨g,cA,x,bb,apo,rfl,cg⟩:=V.o.fe.gQ G aR;obtain⟨dY,_,_,_,_⟩:=cg.cells w G;obtain⟨_,_,z0,_,_,eK,_,_⟩:=V.o.eo G;rw[cg.Z];have Ie:=A (slices_Contains_int b 0 (D ks) dL ks x.j' w.drew (bD _) J λj bg=>by rw[Nat.zero_add];exact zW j bg);have⟨N2,fM,v7,fB⟩:(i:Int)<n/\(0:Int)<=i/\(a:Int)<D E/\(0:Int)<=a:=J;rw[mM] at Ie;generalize ks.contains x.j'=oM at*;go_in;have Go:=0;go_wp2;go_still_tail 16,cS
 change fo _ _ _ _ _ w.drew;go_wp2;refine Ie.o.mono ?_;rintro e w2 ⟨rfl,rfl⟩;go_wp2;go_returns;exact⟨rfl,(aT _ _).drew⟩
end
end Pk
section
open Go.RowKit Go.Shelf
namespace Pk
open Ck
def af2(w:ai)(a b c:Array af)(cb eo fQ:TypeId):aL w w (aA (aA (aA w (.cells a cb)) (.cells b eo)) (.cells c fQ))/\(aA (aA (aA w (.cells a cb)) (.cells b eo)) (.cells c fQ)).heap[w.heap.size]?=some (.cells a cb)/\(aA (aA (aA w (.cells a cb)) (.cells b eo)) (.cells c fQ)).heap[w.heap.size+1]?=some (.cells b eo)/\(aA (aA (aA w (.cells a cb)) (.cells b eo)) (.cells c fQ)).heap[w.heap.size+1+1]?=some (.cells c fQ)/\(aA (aA (aA w (.cells a cb)) (.cells b eo)) (.cells c fQ)).heap.size=w.heap.size+1+1+1/\aL w w (aA (aA w (.cells a cb)) (.cells b eo))/\(aA (aA w (.cells a cb)) (.cells b eo)).heap[w.heap.size]?=some (.cells a cb)/\(aA (aA w (.cells a cb)) (.cells b eo)).heap.size=w.heap.size+1+1:=by have s1:(aA w (.cells a cb)).heap.size=w.heap.size+1:=bT;have s2:(aA (aA w (.cells a cb)) (.cells b eo)).heap.size=w.heap.size+1+1:=bT;have cR:=ek (aA w (.cells a cb)) (.cells b eo);have n3:=ek (aA (aA w (.cells a cb)) (.cells b eo)) (.cells c fQ);rw[s1] at cR;rw[s2] at n3;have b8:aL (w.heap.size+1) (aA w (.cells a cb)) (aA (aA w (.cells a cb)) (.cells b eo)):=(aT _ _).alloc (Nat.le_of_eq s1.symm) _;have e0:aL (w.heap.size+1+1) (aA (aA w (.cells a cb)) (.cells b eo)) (aA (aA (aA w (.cells a cb)) (.cells b eo)) (.cells c fQ)):=(aT _ _).alloc (Nat.le_of_eq s2.symm) _;have dq:=ds (ek w (.cells a cb)) b8 J;have sa:=((aT w w).alloc (bD _) (.cells a cb)).trans (b8.mono (Nat.le_succ _));exact⟨sa.trans (e0.mono J),ds dq (e0.mono (Nat.le_succ _)) J,ds cR e0 J,n3,by simp,sa,dq,s2⟩
def Ba{L E cG w0 p tp tv uv fv nv su0 sb bf w1 wk s s0 pl}{Q:e7->ai->Prop}{K:bz->b5->df}{b c t a}(V:Hid (gY L E cG w0 tp fv nv))(U:a<D E)(ok:b=true->Hid (du L w0 p tp tv uv fv su0 sb w1 s0 pl bf wk s (K t s))->Q (.returned (.tuple #[])) wk)
 (bL: ∀c j w2,pl= .bL c j->eO w0 w2->Q (gS c ((Z L j).an:Int)) w2:=by intro c j w2 bZ bY;replace bZ:=A bZ;unfold gS;go_wp2;exact⟨rfl,kZ bZ.o bY⟩)(H:Hid (du L w0 p tp tv uv fv su0 sb w1 s0 pl bf wk s ((bl b c a t s).M K))):aY 38 #[(p,0),.bool b,c,a] wk Q:=by
 obtain⟨su,h,_,_⟩:=H.o.st;refine(Gi V U b c h).mono ?_;rintro _ _ ⟨rfl,rfl⟩;cases b with
 |true=>exact ok rfl H
 |false=>exact bL c a _ H.o.eq H.o.av
def af3{L w0 p tp tv uv fv su0 sb bf w1 wk w2 s s0 pl r}(H:Hid (du L w0 p tp tv uv fv su0 sb w1 s0 pl bf wk s r))(G:aL wk wk w2): ∃su,Hid (du L w0 p tp tv uv fv su bf w2 s pl bf w2 s r)/\Hid (∀bc aq n1,Hid (du L w0 p tp tv uv fv su bf w2 s pl bf bc aq n1)->Hid (du L w0 p tp tv uv fv su0 sb w1 s0 pl bf bc aq n1))/\Hid (∀w' b,dS p tv uv su bf w2 w'->wk.heap.size<=b->b<w2.heap.size->w'.heap[b]?=w2.heap[b]?):=by obtain⟨su,R,T,ah⟩:=H.o.st;refine⟨su,bO (R.below G) H.o.eq,A λbc aq n1 K=>?_,A λw' b aI hl au=>R.fresh aI hl au⟩;obtain⟨sq,g1,g2,g3⟩:=K.o.st;exact A ⟨⟨sq,g1,T.step ah H.o.ex ((dS.below G).trans At.refl g2),ah.trans (hg T.size G.size) g3⟩,H.o.ex,H.o.gn.trans K.o.gn,K.o.eq⟩
def Vw{L w0 p tp tv uv fv su0 sb w1 wk s s0 pl r}(H:Hid (du L w0 p tp tv uv fv su0 sb w1 s0 pl [] wk s r)):s.sc=[]:=by obtain⟨su,R,_⟩:=H.o.st;exact List.length_eq_zero_iff.1 R.mp.mW.symm
def Oy{L E' d i m l s}:py L E' d i (m::l) s=(if(Z L m).j'=9 then E' .typ (bM L m 0) s else(E' .typ (bM L m 0) (fH s)).M λ_ s1=> .ok [] {s1 with sc:=s.sc}).M λ_ s1=>
  (bl (!(((Z L d).I.take i).any λa=>(Z L a).O==(Z L m).O)) 7 m [] s1).M λ_ s2=>py L E' d (i+1) l s2:=rfl
section
variable{L:List aP}{E:List (aP×af)}{cG:Nat}{w0:jf}{p tp:Nat}{tv uv fv nv su:af}{sb:List Nat}{w:ai}{s:b5}{k f:Nat}
def Zx (V:Hid (gY L E cG w0 tp fv nv)) (U:k<E.length) (nB:k<=f) (lj:ct 24 (Z L k).j'=true) (dy:Hid (∀j,j<k->rS L w0 p tp tv uv fv j f)) (h:dz L w0 p tp tv uv fv w su sb s) (hs:s.sc=[]) {al:List Nat} {ad:Option Addr} {cap:Nat} (Ia:al.length<=1000000) (vF:Hid (∀j∈al,j<E.length)) (Im:Hid (∀w',eO w0 w'-> ∀j,j<al.length-> ∃g,ad=some ⟨g,0,none⟩/\w'.cell? ⟨g,j,none⟩=some (.int .i64 (al.getD j 0:Int)))):
  Calls prog 16 #[.pointer (some ⟨p,0,none⟩),.int .i64 (k:Int),.slice ad al.length cap] w (jr L w0 p tp tv uv fv rv uY (decl L (bE L f) al k s) s su sb w):=by
 obtain⟨pl,gV⟩: ∃r,decl L (bE L f) al k s=r:=⟨_,rfl⟩;rw[gV];obtain rfl:sb=[]:=List.length_eq_zero_iff.1 (h.mp.mW.trans (by rw[hs];rfl));obtain⟨g,cA,x,bb,aQ,rfl,cg⟩:=V.o.fe.gQ h.av U;have br:=A cg;have Mk:Hid (x.I.length<=aQ):=A (by
  obtain⟨fc,u,Ea,z7,_,_⟩:=V.o.fe.at U;obtain rfl:x=fc:=cg.Z.symm.trans z7;have hc:=(n_ (V.o.aj w h.av) rfl Ea).2.2.2.2;have l':jC cG w u x.I:=(V.o.aj w h.av).I _ (hX Ea);rw[(cg.cells w h.av).2.2.2.2] at hc;obtain rfl:=gZ hc;obtain⟨_,aH⟩|⟨_,_,_,hu,_,_,ah,_⟩:=l'.2
  .omega
  .cases hu;exact ah)
 have ax:=cg.Z;rw[ax] at lj;obtain⟨bP,ev⟩: ∃bP:Nat->Nat,∀i,x.I.getD i 0=bP i:=⟨_,λ_=>rfl⟩;have kP:Hid (∀i,bM L k i=bP i):=A λi=>by unfold bM;rw[ax,ev]
 have iM:=A cg.ly.len;have qt:Hid (x.j'=10\/x.j'=12\/x.j'=13\/x.j'=14):=A (by simpa[ct] using lj);have hV:Hid (∀(cs:List Nat),B.pat x.j' x.aX x.I.length=cs-> ∀i,i<cs.length->i<x.I.length/\Hid (bP i<k/\ct (cs.getD i 0) (Z L (bP i)).j'=true)):=A λcs aJ i ay=>by
  have hl:i<x.I.length:=by rw[iM.o,aJ];exact ay
  have:=cg.at hl;rw[aJ,ev] at this;exact⟨hl,A this⟩
 obtain⟨e0,qP,s9,pG,wW,sa,ajl,ajs⟩:=af2 w #[(p,0)] #[.slice ad al.length cap] #[x.j',x.an,x.aX,x.O,.slice bb x.I.length aQ] 40 28 53;generalize anF:(w.alloc (aw #[(p,0)] 40)).alloc (aw #[.slice ad al.length cap] 28)=wQ at*;generalize uf:wQ.alloc (aw #[x.j',x.an,x.aX,x.O,.slice bb x.I.length aQ] 53)=bc at*;have gR:=h.below sa;have jS:=A (h.below e0);have cJ:Hid (dS p tv uv su [] w bc):=A (dS.below e0);obtain⟨dY,ag,aE,bU,cL⟩:=cg.cells wQ gR.av;obtain⟨_,_,z0,_,_,eK,_,_⟩:=V.o.eo gR.av;obtain⟨b',_,_,_,_,_,_,b9,_⟩:=gR.at;have fx:=az ajl 0;simp only[cO,cQ] at fx;have hv:(k:Int)<E.length:=by omega
 have hi:(0:Int)<=k:=by omega
 obtain⟨m,hm⟩: ∃bp,w.heap.size=bp:=⟨_,rfl⟩;rw[hm] at wW ajs fx qP s9 pG;have cF:=az pG 0;simp only[cO,cQ] at cF;have dx:Hid (∀w',dS p tv uv su [] bc w'->w'.cell? m=some (p,0)/\w'.cell? (m+1,0)=some (.slice ad al.length cap)/\w'.cell? (m+1+1,0)=some [x.j']/\w'.cell? (m+1+1,3)=some [x.O]/\w'.cell? (m+1+1,4)=some (.slice bb x.I.length aQ)/\m+1+1<w'.heap.size):=A λw' aI=>by
  have fE:=(h.fresh aI (by omega) (bd qP)).trans qP;have fW:=(h.fresh aI (by omega) (bd s9)).trans s9;have hU:=(h.fresh aI (by omega) (bd pG)).trans pG;exact⟨az fE 0,az fW 0,az hU 0,az hU 3,az hU 4,bd hU⟩
 have cV:=A h;clear cg;go_in;have Go:=0;go_upto_block 0 with fail
 have H:=Pk.bO jS.o (show pl=decl L (bE L f) al k s from gV.symm);have mc:Hid (∀e,x.j'=e->(Z L k).j'=e):=A λe he=>by rw[br.o.Z];exact he
 have sk:Hid ((Z L k).O=x.O):=A (by rw[br.o.Z]);have lN:Hid (∀i,i<x.I.length-> ∃g2,bb=some ⟨g2,0,none⟩/\Hid (∀w',eO w0 w'->w'.cell? (g2,i)=some [(bP i:Int)])):=A λi ay=>by
  obtain⟨g2,e,_⟩:=br.o.bM bc i jS.o.av ay;refine⟨g2,e,A λw' G=>?_⟩;subst e;obtain⟨g3,e,ah⟩:=br.o.bM w' i G ay;cases e;rw[ev] at ah;exact ah
 obtain⟨fx,hp,cF,iS,dO,hM⟩:=dx.o bc dS.refl;have Cm:=A ev;clear ev;go_cut[] from 8 to 147 (λdN=>x.j'≠14/\ ∃aq,Hid (du L w0 p tp tv uv fv su [] bc s pl [] dN aq ((bl (!(al.any λa=>(Z L a).O==x.O&&(Z L a).j' !=14)) 7 k [] aq).M λ_ s2=>bl (!(x.j'==13&&x.O==[109,97,105,110])||(Z L (bP 0)).I==[]) 10 k [] s2)))
 case first=>
  by_cases nU:x.j'=14
  .have xd:(x.j'==14)=true:=(by simp[nU]);obtain⟨dG,fU⟩:=hV.o [7,8,16] (by rw[nU];rfl) 0 (by decide);obtain⟨gq,mY⟩:=hV.o [7,8,16] (by rw[nU];rfl) 1 (by decide);obtain⟨iL,xw⟩:=hV.o [7,8,16] (by rw[nU];rfl) 2 (by decide);obtain⟨g2,rfl,vu⟩:=lN.o 0 dG;obtain⟨_,ag,wX⟩:=lN.o 1 gq;cases ag;obtain⟨_,aE,iV⟩:=lN.o 2 iL;cases aE;have eh:=mc.o _ nU;have LB:=sk.o;simp only[decl,eh,LB,kP.o,Int.reduceEq,if_true,if_false] at H;have eu:Hid (∀w',dS p tv uv su [] bc w'->eO w0 w'->w'.cell? m=some (p,0)/\w'.cell? (m+1+1,3)=some [x.O]/\w'.cell? (m+1+1,4)=some (.slice (some g2) x.I.length aQ)/\w'.cell? g2=some [(bP 0:Int)]/\w'.cell? (g2,1)=some [(bP 1:Int)]/\w'.cell? (g2,2)=some [(bP 2:Int)]):=A λw' aI G=>by
    obtain⟨fx,_,_,iS,dO,_⟩:=dx.o w' aI;exact⟨fx,iS,dO,vu.o w' G,wX.o w' G,iV.o w' G⟩
   have qc:(0:Int)<x.I.length:=(by omega);have ig:(1:Int)<x.I.length:=(by omega);have l2:(2:Int)<x.I.length:=(by omega);go_wp2;have H:=dE H (aT _ _).drew;refine jz 15 eu (cY H) H.o.av λaD=>?_;generalize bc.drew=bS at*;refine ae 0 ?_;refine ae 1 ?_;refine ae 2 ?_;refine ae 3 ?_;refine ae 4 ?_;refine ae 5 ?_;refine ae 6 ?_;refine ae 7 ?_;refine ae 8 ?_;refine ae 9 ?_;refine ae 10 ?_;refine ae 11 ?_;refine ae 12 ?_;refine cT 13 λK ab=>?_;go_simp;have cP:Hid (∀w',yw p tv uv (bS.alloc (aw #[[(bP 0:Int)]] 3)) w'-> ∀j,j<[bP 0].length-> ∃y',(some ⟨bS.heap.size,0,none⟩:Option Addr)=some ⟨y',0,none⟩/\w'.cell? (y',j)=some [(([bP 0].getD j 0:Nat):Int)]):=A λw' aI j bg=>by
    obtain⟨q6,R,_,_⟩:=H.o.st;obtain rfl:j=0:=(by simpa using bg);have:=(aI.2 bS.heap.size (by simp) (λe=>by have:=bd R.blk;omega) (λe=>by have:=(eI R.ty _ e).2;omega) (λe=>by have:=(eI R.us _ e).2;omega)).trans (ek bS (aw #[[(bP 0:Int)]] 3));exact⟨_,rfl,az this 0⟩
   have LC:bP 1<k/\(Z L (bP 1)).j'=8:=⟨mY.o.1,by simpa[ct] using mY.o.2⟩;have af4:bP 2<k/\(Z L (bP 2)).j'=16:=⟨xw.o.1,by simpa[ct] using xw.o.2⟩;have Bu:bP 0<k/\(Z L (bP 0)).j'=7:=⟨fU.o.1,by simpa[ct] using fU.o.2⟩;have hle:=V.o.le;have EB: ∀j,j<[bP 0].length->[bP 0].getD j 0<k/\(Z L ([bP 0].getD j 0)).j'=7:=λj bg=>by
    obtain rfl:j=0:=(by simpa using bg);exact Bu
   have H:=dE H ((aT bS bS).alloc (bD _) (aw #[[(bP 0:Int)]] 3));refine ab.o _ _ (λ_=>eu.o _ (cY H) H.o.av) ?_;generalize bS.alloc (aw #[[(bP 0:Int)]] 3)=bm at*;have aD:=eu.o _ (cY H) H.o.av;refine cT 14 λK ab=>?_;go_simp;refine oT (λsu h=>Ot V (Nat.le_of_lt U) nB dy [bP 0] (bP 1) (bP 2) EB (by simp) LC af4 h (by simp;omega) (pc:=1) cP) (λt b4 aq _ _ H=>?_) (by intro c j w2 bZ bY;replace bZ:=A bZ;unfold gS;go_wp2;exact⟨rfl,kZ (k:=j) bZ.o bY⟩) H;go_wp2;refine ab.o _ _ (λ_=>eu.o _ (cY H) H.o.av) ?_;refine bV ?_;go_wp2;obtain⟨gG,nV⟩: ∃t,B.O L (bP 0)=t:=⟨_,rfl⟩;rw[nV] at H;have jG:L.length=E.length:=V.o.pF;have ES:Hid (1<=gG.length):=A (by
    have h:=(V.o.jn.ty (bP 0) (by omega) (by rw[Bu.2];decide)).ne;rw[<-nV];cases a_:B.O L (bP 0) with
    |nil=>exact absurd a_ h
    |cons c r=>rw[iq];omega)
   have aiH:Hid (gG.length<=200000000000):=A (nV▸(V.o.jn.gG (k:=bP 0) (by omega) (by rw[Bu.2];decide)).1);go_cut[8] from 106 to 114 (λv dN=> ∃b:Nat,v= (b,0)/\dN.heap[b]?=some (aw #[[gG]] 9)/\Hid (du L w0 p tp tv uv fv su [] bc s pl [] dN aq ((bl (!al.any λa=>(Z L a).O==x.O&&(Z L a).j'==14&&B.O L (bM L a 0)==gG) 7 k [] aq).M λ_ s2=>bl (field L (List.drop 1 (gG)) x.O).isNone 7 k [] s2)))
   case first=>
    have dX:Hid (∀w',Hid (du L w0 p tp tv uv fv su [] bc s pl [] w' aq ((bl (!al.any λa=>(Z L a).O==x.O&&(Z L a).j'==14&&B.O L (bM L a 0)==gG) 7 k [] aq).M λ_ s2=>bl (field L (List.drop 1 (gG)) x.O).isNone 7 k [] s2))->True->w'.cell? m=some (p,0)/\w'.cell? p=some (tp,0)/\w'.cell? (m+1+1,4)=some (.slice (some g2) x.I.length aQ)/\w'.cell? g2=some [(bP 0:Int)]):=A λw' H _=>by
     obtain⟨fx,iS,dO,cl,_,_⟩:=eu.o w' (cY H) H.o.av;exact⟨fx,(dL H).1,dO,cl⟩
    have H:=dE H (aT _ _).drew;refine jz 11 dX H trivial λaD=>?_;generalize b4.drew=b3 at*;refine ae 0 ?_;refine ae 1 ?_;refine ae 2 ?_;refine ae 3 ?_;refine ae 4 ?_;refine ae 5 ?_;refine ae 6 ?_;refine ae 7 ?_;refine Vn 8 9 (λK ab=>?_) (λK ab=>?_)
    .go_simp;refine(V.o.O H.o.av (k:=bP 0) (by omega)).mono ?_;rintro _ a6 ⟨rfl,di⟩;rw[nV];have H:=dE H di;go_simp;refine ab.o _ _ (λ_=>dX.o _ H trivial) ?_;refine cT 9 λK ab=>?_;go_simp;refine ab.o _ _ (λ_=>dX.o _ (dE H ((aT a6 a6).alloc (bD _) _)) trivial) ?_;refine cT 10 λK ab=>?_;go_simp;have H:=dE H ((aT a6 a6).alloc (bD _) (aw #[gG] 9));refine ab.o _ _ (λ_=>dX.o _ H trivial) ?_;refine bV ?_;go_wp2;go_meet;exact⟨_,rfl,ek a6 (aw #[gG] 9),H⟩
    .go_simp;have kJ:=(aT b3 b3).alloc (bD _) (aw #[.string ⟨#[]⟩] 9);have ajh:=ek b3 (aw #[.string ⟨#[]⟩] 9);have ajr:(b3.alloc (aw #[.string ⟨#[]⟩] 9)).heap.size=b3.heap.size+1:=(by simp);refine ab.o _ _ (λ_=>dX.o _ (dE H kJ) trivial) ?_;generalize b3.alloc (aw #[.string ⟨#[]⟩] 9)=cp at*;have aD:=dX.o _ (dE H kJ) trivial;refine cT 8 λK ab=>?_;go_simp;refine(V.o.O (dE H kJ).o.av (k:=bP 0) (by omega)).mono ?_;rintro _ a6 ⟨rfl,di⟩;rw[nV];have kb:=kJ.trans (di.mono (by omega));have ME:=ds ajh di (by omega);have aiQ:=az ME 0;have ank:=cX ME 0;simp only[cO,cQ] at aiQ;go_simp;refine ab.o _ _ (λ_=>dX.o _ (dE H kb) trivial) ?_;refine cT 10 λK ab=>?_;go_simp;have H:=dE H (kb.setCell (p:=⟨b3.heap.size,0,none⟩) (bD _) gG);refine ab.o _ _ (λ_=>dX.o _ H trivial) ?_;refine bV ?_;go_wp2;go_meet;exact⟨_,rfl,et ME 0 gG,H⟩
   case rest=>
    obtain⟨eY,rfl,di,eU⟩:=hcut;have H:=eU;generalize wc=b3 at*;have LO:Hid (∀w',aL b3 b3 w'->Calls prog 34 #[.func (.func 39) #[] #[(m,0),(eY,0)],(m+1,0),(m,0),(m+1+1,0)] w' λe mh=>e= .returned (.bool (al.any λa=>(Z L a).O==x.O&&((Z L a).j'==14&&B.O L (bM L a 0)==gG)))/\aL w' w' mh):=A λw' hw=>by
     obtain⟨q6,R,_,_⟩:=(dE H hw).o.st;obtain⟨fx,hp,_,y3,_,PS⟩:=dx.o w' (cY (dE H hw));have kb:=ds di hw (bd di);have af5:=az kb 0;have af6:=bd kb;refine Q6 (q:=λa=>(Z L a).j'==14&&B.O L (bM L a 0)==gG) V R Ia vF.o (λj bg=>?_) hp fx y3 (by omega) (by omega) (by omega) (enters_of func39 (by kernel_rfl) rfl) (λj bg g x bb aQ cg y bx=>?_)
     .obtain⟨ga,e,_⟩:=Im.o w' R.av j bg;refine⟨ga,e,λw2 T=>?_⟩;obtain⟨aii,aE,c⟩:=Im.o w2 (R.below T).av j bg;rw[e] at aE;cases aE;exact c
     .skip;rw[cg.Z];exact adT V (R.below bx) cg (vF.o j bg) gG ((bx.cell (p:=⟨m,0,none⟩) (by show m<_;omega)).trans fx) ((bx.cell (p:=⟨eY,0,none⟩) af6).trans af5) (by have:=bx.size;omega) (by have:=bx.size;omega)
    simp only[Bool.and_assoc] at H;generalize(al.any λa=>(Z L a).O==x.O&&((Z L a).j'==14&&B.O L (bM L a 0)==gG))=sm at*;have uN:Hid (∀w',aL b3 b3 w'->True->w'.cell? m=some (p,0)/\w'.cell? eY=some [gG]/\w'.cell? (m+1+1,3)=some [x.O]):=A λw' hw _=>by
     obtain⟨fx,hp,_,y3,_,PS⟩:=dx.o w' (cY (dE H hw));exact⟨fx,az (ds di hw (bd di)) 0,y3⟩
    go_wp2;have zN:aL b3 b3 b3.drew:=(aT _ _).drew;refine jz 7 uN zN trivial λaD=>?_;have vG:b3.drew.heap.size=b3.heap.size:=rfl;generalize b3.drew=a6 at*;refine ae 0 ?_;refine ae 1 ?_;refine ae 2 ?_;refine ae 5 ?_;refine cT 3 λK ab=>?_;go_simp;refine(LO.o a6 zN).mono ?_;rintro _ cp ⟨rfl,kb⟩;have x5:=zN.trans (kb.mono (Nat.le_of_eq vG.symm));go_simp;refine ab.o _ _ (λ_=>uN.o _ x5 trivial) ?_;have aD:=uN.o _ x5 trivial;refine ae 4 ?_;refine cT 6 λK ab=>?_;have H:=dE H x5;go_simp;refine Ba V U (λ_ H=>?_) (H:=H);go_wp2;refine ab.o _ _ (λ_=>aD) ?_;refine bV ?_;go_wp2;have kJ:aL cp cp cp.drew:=(aT _ _).drew;have LP:=x5.trans (kJ.mono x5.size);refine jz 11 uN LP trivial λaD=>?_;have ajr:cp.drew.heap.size=cp.heap.size:=rfl;have H:=dE H kJ;generalize cp.drew=wA at*;obtain⟨b',_,_,_,_,_,b9,_⟩:=dL H;have MF:1<=gG.length:=ES.o;have anf:(1:Int)<=((str gG).size:Int):=(by rw[js];omega);have alH:1<=(str gG).size:=(by rw[js];exact MF);refine ae 0 ?_;refine ae 1 ?_;refine ae 2 ?_;refine ae 3 ?_;refine ae 4 ?_;refine cT 5 λK ab=>?_;go_simp;rw[AS];refine(OW V H.o.av b' b9 (by rw[qA];have:=aiH.o;unfold dc;omega)).mono ?_;rintro _ wQ ⟨rfl,sa⟩;have H:=dE H sa;have afB:=LP.trans (sa.mono LP.size);have M4:=uN.o _ afB trivial;obtain⟨vb,ai1⟩: ∃o,field L (gG.drop 1) x.O=o:=⟨_,rfl⟩;rw[ai1] at H|-;generalize(vb.getD [])=fv2 at*;obtain⟨cy,e3⟩: ∃b,vb.isSome=b:=⟨_,rfl⟩;have H:=eP (show _=(bl (!cy) 7 k [] aq).M .ok by rw[<-jU,<-e3];cases vb<;>rfl) H;rw[e3];go_simp;refine ab.o _ _ (λ_=>M4) ?_;have aD:=M4;refine ae 6 ?_;refine ae 7 ?_;refine ae 8 ?_;refine ae 9 ?_;refine ae 10 ?_;refine bV ?_;obtain⟨fx,_,_⟩:=M4;go_wp2;refine Ba V U (λ_ H=>?_) (H:=H);go_wp2;go_returns;exact ju cJ.o (fs trivial H)
  .have xd:(x.j'==14)=false:=(by simp[nU]);by_cases ji:x.j'=13
   .have qn:(x.j'==13)=true:=(by simp[ji]);obtain⟨dG,fU⟩:=hV.o [8,16] (by rw[ji];rfl) 0 (by decide);obtain⟨gq,mY⟩:=hV.o [8,16] (by rw[ji];rfl) 1 (by decide);obtain⟨g2,rfl,vu⟩:=lN.o 0 dG;obtain⟨_,ag,wX⟩:=lN.o 1 gq;cases ag;have eh:=mc.o _ ji;have LB:=sk.o;simp only[decl,eh,LB,kP.o,Int.reduceEq,if_true,if_false] at H;have eu:Hid (∀w',dS p tv uv su [] bc w'->eO w0 w'->w'.cell? m=some (p,0)/\w'.cell? (m+1+1,4)=some (.slice (some g2) x.I.length aQ)/\w'.cell? g2=some [(bP 0:Int)]/\w'.cell? (g2,1)=some [(bP 1:Int)]):=A λw' aI G=>by
     obtain⟨fx,_,_,_,dO,_⟩:=dx.o w' aI;exact⟨fx,dO,vu.o w' G,wX.o w' G⟩
    have qc:(0:Int)<x.I.length:=(by omega);have ig:(1:Int)<x.I.length:=(by omega);have Bu:bP 0<k/\(Z L (bP 0)).j'=8:=⟨fU.o.1,by simpa[ct] using fU.o.2⟩;have LC:bP 1<k/\(Z L (bP 1)).j'=16:=⟨mY.o.1,by simpa[ct] using mY.o.2⟩;have hle:=V.o.le;go_wp2;have H:=dE H (aT _ _).drew;refine jz 10 eu (cY H) H.o.av λaD=>?_;generalize bc.drew=bS at*;refine ae 0 ?_;refine ae 1 ?_;refine ae 2 ?_;refine ae 3 ?_;refine ae 4 ?_;refine ae 5 ?_;refine ae 6 ?_;refine ae 7 ?_;refine ae 8 ?_;refine cT 9 λK ab=>?_;go_simp;refine oT (λsu h=>Ot V (Nat.le_of_lt U) nB dy [] (bP 0) (bP 1) (λj bg=>absurd bg (by simp)) (by simp) Bu LC h (by simp;omega) (pa:=none) (pc:=0) (A λ_ _ j bg=>absurd bg (by simp))) (λt b4 aq _ _ H=>?_) (by intro c j w2 bZ bY;replace bZ:=A bZ;unfold gS;go_wp2;exact⟨rfl,kZ (k:=j) bZ.o bY⟩) H;go_wp2;refine ab.o _ _ (λ_=>eu.o _ (cY H) H.o.av) ?_;refine bV ?_;go_wp2;go_meet;exact⟨by omega,aq,by rw[ji];exact H⟩
   .have qn:(x.j'==13)=false:=(by simp[ji]);have LQ:Hid (x.j'=10\/x.j'=12):=A (by have:=qt.o;omega);obtain⟨FF,Fl⟩: ∃F:bz->b5->df,F=λ_ s1=>(bl (!(al.any λa=>(Z L a).O==x.O&&(Z L a).j' !=14)) 7 k [] s1).M λ_ s2=>bl (!(x.j'==13&&x.O==[109,97,105,110])||(Z L (bP 0)).I==[]) 10 k [] s2:=⟨_,rfl⟩;have rG:=A Fl;have H:=eP (show _=(py L (bE L f) k 0 x.I s).M FF by rw[Fl];unfold decl;rw[br.o.Z,ao nU,ao ji,kP.o]) H;have GV:=br.o.fA.2;have afC:=A nU;have Hw:Hid (E.length<=1200):=A V.o.le;clear Fl nU;go_wp2;go_loopg[30] x.I.length (λr xR wr=> ∃(j:Nat) (aq:b5),j+r=x.I.length/\xR= j/\Hid (du L w0 p tp tv uv fv su [] bc s pl [] wr aq ((py L (bE L f) k j (x.I.drop j) aq).M FF)))
    case atStart=>exact⟨0,s,by omega,rfl,H⟩
    case round=>
     obtain⟨j,aq,bg,rfl,eU⟩:=hrel;have H:=eU;generalize wr=bH at*;by_cases cr:j<x.I.length
     .have j3:(j:Int)<x.I.length:=(by omega);have me:(0:Int)<=j:=(by omega);have hK:IntKind.i64.wrap (j+1)=j+1:=dI _ (by omega);obtain⟨g2,rfl,YR⟩:=lN.o j cr;have mE:=br.o.at cr;rw[Cm.o] at mE;have cu:=YR.o bH H.o.av;have yx:bP j<E.length:=(by omega);obtain⟨_,_,y,pY,hA,aB,dZ⟩:=V.o.fe.gQ H.o.av yx;cases aB;have sd:=dZ.Z;have Fo:y.j'=9\/y.j'=11:=by
       have T:=mE.2;rw[sd] at T;obtain e|e:=LQ.o
       .rw[e,show B.pat 10 x.aX x.I.length=ef x.I.length 9 from rfl,cd,ku,aS cr] at T;exact .inl (by simpa[ct] using T)
       .rw[e,show B.pat 12 x.aX x.I.length=ef x.I.length 11 from rfl,cd,ku,aS cr] at T;exact .inr (by simpa[ct] using T)
      have afm:=A Fo;have nR:y.I.length=1:=(by rw[dZ.ly.len];rcases Fo with e|e<;>rw[e]<;>rfl);have DH:0<y.I.length:=(by omega);have alI:(0:Int)<y.I.length:=(by omega);obtain⟨qG,rfl,_⟩:=dZ.bM bH 0 H.o.av DH;have L5:=dZ.at DH;obtain⟨a,aR⟩: ∃a,y.I.getD 0 0=a:=⟨_,rfl⟩;obtain⟨kt,wY⟩: ∃a,bP j=a:=⟨_,rfl⟩;have Io:Hid (∀w',eO w0 w'->w'.cell? qG=some [a]):=A λw' G=>by
       obtain⟨g3,e,ah⟩:=dZ.bM w' 0 G DH;cases e;rw[aR] at ah;exact ah
      rw[aR] at L5;have hT:Hid (a<k/\(y.j'=9->1<=(Z L a).j'/\(Z L a).j'<=6)/\(y.j'=11->(Z L a).j'=8)):=A (by
       refine⟨by omega,λe=>?_,λe=>?_⟩
       .have T:=L5.2;rw[e] at T;simpa[ct,B.pat] using T
       .have T:=L5.2;rw[e] at T;simpa[ct,B.pat] using T)
      have z1:(x.I.take j).length=j:=(by rw[mr];omega);obtain⟨Hx,NL⟩: ∃F:bz->b5->df,F=λ_ bA=>(bl (!((x.I.take j).any (λb=>(Z L b).O==(Z L kt).O))) 7 kt [] bA).M (λ_ cm=>(py L (bE L f) k (j+1) (x.I.drop (j+1)) cm).M FF):=⟨_,rfl⟩;have H:=eP (show _=(if y.j'=9 then bE L f .typ a aq else(bE L f .typ a (fH aq)).M λ_ s1=> .ok [] {s1 with sc:=aq.sc}).M Hx from by
       rw[kS cr,show x.I[j]=x.I.getD j 0 from by rw[cd,cE cr];rfl,Cm.o,wY];rw[Oy,show bM L kt 0=a from by unfold bM;rw[<-wY,sd,aR],show(Z L kt).j'=y.j' by rw[<-wY,sd],br.o.Z,i',NL]
       congr 1
       funext _ bA
       exact i' _ _ _) H
      have Cn:=A NL;clear NL;have Ri:Hid (∀w',eO w0 w'->w'.cell? (g,kt*5)=some [y.j']/\w'.cell? (g,kt*5+4)=some (.slice (some qG) y.I.length hA)):=A λw' G=>by
       have:=dZ.cells w' G;rw[wY] at this;exact⟨this.1,this.2.2.2.2⟩
      rw[wY] at cu yx;have Aq:(kt:Int)<E.length:=(by omega);have BN:(0:Int)<=kt:=(by omega);have hF:g2<bH.heap.size:=sF cu;clear Fo;have o5:aL bH bH (bH.alloc (aw #[kt] 3)):=(aT _ _).alloc (bD _) _;have oz:=ek bH (aw #[kt] 3);have td:(bH.alloc (aw #[kt] 3)).heap.size=bH.heap.size+1:=(by simp);obtain⟨yJ,eA,iO,fG⟩:=af3 H o5;go_upto_region 7 with fail
      generalize afn:bH.alloc (aw #[kt] 3)=bS at*;have Ar:Hid (∀w' s' pJ,Hid (du L w0 p tp tv uv fv yJ [] bS aq pl [] w' s' pJ)->(w'.cell? m=some (p,0)/\w'.cell? (m+1+1,4)=some (.slice (some g2) x.I.length aQ)/\w'.cell? bH.heap.size=some [kt]/\w'.cell? p=some (tp,0)/\w'.cell? tp=some (.slice (some g) E.length cA)/\w'.cell? (g,kt*5)=some [y.j']/\w'.cell? (g,kt*5+4)=some (.slice (some qG) y.I.length hA)/\w'.cell? qG=some [a])/\m+1+1<w'.heap.size/\bH.heap.size<w'.heap.size):=A λw' s' pJ K=>by
       have Lg:=iO.o _ _ _ K;obtain⟨fx,_,_,_,dO,hM⟩:=dx.o w' (cY Lg);obtain⟨_,_,z0,_,_,_,_,_⟩:=V.o.eo K.o.av;have yL:=(fG.o w' bH.heap.size (cY K) (bD _) (by rw[td];omega)).trans oz;exact⟨⟨fx,dO,az yL 0,(dL K).1,z0,(Ri.o w' K.o.av).1,(Ri.o w' K.o.av).2,Io.o w' K.o.av⟩,hM,bd yL⟩
      generalize bH.heap.size=mb at*;have iC:Hid (∀w',(∃s' pJ,Hid (du L w0 p tp tv uv fv yJ [] bS aq pl [] w' s' pJ))->True->(w'.cell? m=some (p,0)/\w'.cell? (m+1+1,4)=some (.slice (some g2) x.I.length aQ)/\w'.cell? mb=some [kt]/\w'.cell? p=some (tp,0)/\w'.cell? tp=some (.slice (some g) E.length cA)/\w'.cell? (g,kt*5)=some [y.j']/\w'.cell? (g,kt*5+4)=some (.slice (some qG) y.I.length hA)/\w'.cell? qG=some [a])):=A λw' ⟨s',pJ,K⟩ _=>(Ar.o w' s' pJ K).1;have eA:=dE eA (aT _ _).drew;refine jz 12 iC ⟨_,_,eA⟩ trivial λaD=>?_;generalize bS.drew=bm at*;refine ae 0 ?_;refine ae 1 ?_;refine ae 2 ?_;refine ae 3 ?_;refine ae 4 ?_;refine ae 5 ?_;refine ae 6 ?_;refine ae 7 ?_;refine ae 8 ?_;refine ae 9 ?_;refine ae 10 ?_;refine ae 11 ?_;refine bV ?_;go_upto_if 46 with fail;go_cut[30] from 30 to 88 (λi dN=>i= j/\ ∃bA,Hid (du L w0 p tp tv uv fv yJ [] bS aq pl [] dN bA (Hx [] bA)))
      case first=>
       by_cases FU:y.j'=9
       .have eC:(y.j'==9)=true:=(by simp[FU]);have eA:=eP (show _=(bE L f .typ a aq).M Hx by rw[aS FU]) eA;have UO:=hT.o.2.1 FU;go_wp2;have eA:=dE eA (aT _ _).drew;refine jz 15 iC ⟨_,_,eA⟩ trivial λaD=>?_;generalize bm.drew=b4 at*;refine ae 0 ?_;refine ae 1 ?_;refine ae 2 ?_;refine ae 3 ?_;refine ae 4 ?_;refine ae 5 ?_;refine ae 6 ?_;refine ae 7 ?_;refine ae 8 ?_;refine ae 9 ?_;refine ae 10 ?_;refine ae 11 ?_;refine ae 12 ?_;refine ae 13 ?_;refine cT 14 λK ab=>?_;go_simp;refine Bv V (by have:=hT.o.1;omega) ⟨by have:=hT.o.1;omega,.inl UO,λ_=>UO.2⟩ (λt b3 bA H=>?_) (H:=eA);go_wp2;refine ab.o _ _ (λ_=>(Ar.o _ _ _ H).1) ?_;refine bV ?_;go_wp2;go_meet;exact⟨rfl,bA,eP (by rw[Cn.o]) H⟩
       .have eC:(y.j'==9)=false:=(by simp[FU]);have eA:=eP (show _=((bE L f .typ a (fH aq)).M λ_ s1=> .ok [] {s1 with sc:=aq.sc}).M Hx by rw[ao FU]) eA;have L6:=hT.o.2.2 (by have:=afm.o;omega);have gU:=Vw eA;go_wp2;have eA:=dE eA (aT _ _).drew;refine jz 15 iC ⟨_,_,eA⟩ trivial λaD=>?_;generalize bm.drew=b4 at*;refine ae 0 ?_;refine ae 1 ?_;refine ae 2 ?_;refine ae 3 ?_;refine ae 4 ?_;refine ae 5 ?_;refine ae 6 ?_;refine ae 7 ?_;refine ae 8 ?_;refine ae 9 ?_;refine ae 10 ?_;refine ae 11 ?_;refine ae 12 ?_;refine ae 13 ?_;refine cT 14 λK ab=>?_;go_simp;refine oT (λsu h=>acs (f:=f) V (by have:=hT.o.1;omega) (by have:=hT.o.1;omega) L6 h gU) (λt b3 bA ho _ H=>?_) (by intro c j w2 bZ bY;replace bZ:=A bZ;unfold gS;go_wp2;exact⟨rfl,kZ (k:=j) bZ.o bY⟩) eA;go_wp2;refine ab.o _ _ (λ_=>(Ar.o _ _ _ H).1) ?_;refine bV ?_;go_wp2;go_meet;exact⟨rfl,bA,eP (by rw[Cn.o]) H⟩
      case rest=>
       obtain⟨rfl,bA,eU⟩:=hcut;have eA:=eU;generalize wc=b4 at*;obtain⟨⟨fx,dO,j5,_,_,_,_,_⟩,hM,zi⟩:=Ar.o _ _ _ eA;have ai':j<=aQ:=(by have:=Mk.o;omega);have kM:(j:Int)<=aQ:=(by omega);have Yr:Hid (∀ka,Calls prog 35 #[.slice (some g2) j ka,.func (.func 43) #[] #[(m,0),(mb,0)]] b4 λe w'=>e= .returned (.bool ((x.I.take j).any λb=>(Z L b).O==(Z L kt).O))/\aL b4 b4 w'):=A λka=>by
        obtain⟨apk,fE,_,_⟩:=eA.o.st;have h:=Vx (cap:=ka) (w:=b4) (a:=some ⟨g2,0,none⟩) (l:=x.I.take j) 43 #[(m,0),(mb,0)] (λb=>(Z L b).O==(Z L kt).O) (by rw[z1];omega) (λi ay=>by
         rw[z1] at ay;obtain⟨g3,bU,Fp⟩:=lN.o i (by omega);refine⟨g3,bU,λw' hw=>?_⟩;have:=Fp.o w' (fE.below hw).av;rw[cd,List.getElem?_take_of_lt ay,<-cd,Cm.o];exact this) ⟨enters_of func43 (by kernel_rfl) rfl,λb G y bx=>by
         obtain⟨i,ay,rfl⟩:=List.mem_iff_getElem.1 (List.mem_of_mem_take G);have b8:=(br.o.at ay).1;rw[cd,cE ay] at b8;exact adU V (fE.below bx) (Nat.lt_trans b8 U) yx ((bx.cell (p:=⟨m,0,none⟩) (by show m<_;omega)).trans fx) ((bx.cell (p:=⟨mb,0,none⟩) (by show mb<_;omega)).trans j5)⟩
        rw[z1] at h;exact h
       go_wp2;refine(Yr.o _).mono ?_;rintro _ b3 ⟨rfl,ie⟩;have eA:=dE (eP (show _=(bl (!((x.I.take j).any (λb=>(Z L b).O==(Z L kt).O))) 7 kt [] bA).M (λ_ cm=>(py L (bE L f) k (j+1) (x.I.drop (j+1)) cm).M FF) by rw[Cn.o]) eA) ie;generalize((x.I.take j).any λb=>(Z L b).O==(Z L kt).O)=ea at*;obtain⟨⟨fx,dO,j5,_,_,_,_,_⟩,hM,zi⟩:=Ar.o _ _ _ eA;go_wp2;refine Ba V yx (λ_ H=>?_) (H:=eA);go_wp2;go_roundg (x.I.length-(j+1))
       case rel=>exact⟨j+1,bA,by omega,by go_num,iO.o _ _ _ H⟩
       case measure=>omega
     .obtain rfl:j=x.I.length:=(by omega);have H:=eP (show _=FF [] aq from by rw[rW];rfl) H;rw[rG.o] at H;go_wp2;go_meet;exact⟨afC.o,aq,H⟩
 case rest=>
  obtain⟨lK,aq,eU⟩:=hcut;have H:=eU;generalize wc=b3 at*;have LO:Hid (∀w',aL b3 b3 w'->Calls prog 34 #[.func (.func 44) #[] #[],(m+1,0),(m,0),(m+1+1,0)] w' λe mh=>e= .returned (.bool (al.any λa=>(Z L a).O==x.O&&(Z L a).j' !=14))/\aL w' w' mh):=A λw' hw=>by
   obtain⟨q6,R,_,_⟩:=(dE H hw).o.st;obtain⟨fx,hp,_,y3,_,PS⟩:=dx.o w' (cY (dE H hw));refine Q6 (q:=λa=>(Z L a).j' !=14) V R Ia vF.o (λj bg=>?_) hp fx y3 (by omega) (by omega) (by omega) (enters_of func44 (by kernel_rfl) rfl) (λj bg g x bb aQ cg y bx=>?_)
   .obtain⟨ga,e,_⟩:=Im.o w' R.av j bg;refine⟨ga,e,λw2 T=>?_⟩;obtain⟨aii,aE,c⟩:=Im.o w2 (R.below T).av j bg;rw[e] at aE;cases aE;exact c
   .rw[cg.Z];exact adV x _ y
  generalize(al.any λa=>(Z L a).O==x.O&&(Z L a).j' !=14)=sm at*;have uN:Hid (∀w',aL b3 b3 w'->True->w'.cell? m=some (p,0)):=A λw' hw _=>(dx.o w' (cY (dE H hw))).1;go_wp2;have zN:aL b3 b3 b3.drew:=(aT _ _).drew;refine jz 6 uN zN trivial λaD=>?_;have vG:b3.drew.heap.size=b3.heap.size:=rfl;generalize b3.drew=a6 at*;refine ae 0 ?_;refine ae 1 ?_;refine ae 4 ?_;refine cT 2 λK ab=>?_;go_simp;refine(LO.o a6 zN).mono ?_;rintro _ cp ⟨rfl,kb⟩;have x5:=zN.trans (kb.mono (Nat.le_of_eq vG.symm));go_simp;refine ab.o _ _ (λ_=>uN.o _ x5 trivial) ?_;have aD:=uN.o _ x5 trivial;refine ae 3 ?_;refine cT 5 λK ab=>?_;have H:=dE H x5;go_simp;refine Ba V U (λ_ H=>?_) (H:=H);go_wp2;refine ab.o _ _ (λ_=>aD) ?_;refine bV ?_;go_wp2;have uL:Hid (∀w',aL cp cp w'->True->w'.cell? m=some (p,0)/\w'.cell? (m+1+1,0)=some [x.j']/\w'.cell? (m+1+1,3)=some [x.O]/\w'.cell? (m+1+1,4)=some (.slice bb x.I.length aQ)/\w'.cell? p=some (tp,0)/\w'.cell? tp=some (.slice (some g) E.length cA)):=A λw' hw _=>by
   have bJ:=dE H hw;obtain⟨fx,hp,cF,iS,dO,_⟩:=dx.o w' (cY bJ);obtain⟨_,_,z0,_,_,_,_,_⟩:=V.o.eo bJ.o.av;exact⟨fx,cF,iS,dO,(dL bJ).1,z0⟩
  have H:=eP (show _=(bl (!(x.j'==13&&x.O==[109,97,105,110])||(Z L (bP 0)).I==[]) 10 k [] aq).M .ok from jU _ _ _ _ _) H;have kJ:aL cp cp cp.drew:=(aT _ _).drew;have UI:((str x.O).toList==[109,97,105,110])=(x.O==[109,97,105,110]):=by rw[fC,f_]
  obtain⟨b',_,_,_,_,_,b9,_⟩:=dL H;by_cases ji:x.j'=13
  .have qn:(x.j'==13)=true:=(by simp[ji]);rw[qn] at H;obtain⟨dG,fU⟩:=hV.o [8,16] (by rw[ji];rfl) 0 (by decide);obtain⟨g2,rfl,vu⟩:=lN.o 0 dG;cases M5:(x.O==[109,97,105,110]) with
   |false=>
    rw[M5] at H UI;have H:=dE (eP (show _=(bl true 10 k [] aq).M .ok from rfl) H) kJ;refine jz 29 uL kJ trivial λaD=>?_;generalize cp.drew=wA at*;refine ae 0 ?_;refine ae 1 ?_;refine ae 2 ?_;refine ae 3 ?_;refine ae 4 ?_;refine ae 5 ?_;refine ae 6 ?_;refine ae 7 ?_;refine ae 8 ?_;refine ae 9 ?_;refine bt 10 ?_;refine bt 11 ?_;refine bt 12 ?_;refine bt 13 ?_;refine bt 14 ?_;refine bt 15 ?_;refine bt 16 ?_;refine bt 17 ?_;refine bt 18 ?_;refine bt 19 ?_;refine bt 20 ?_;refine bt 21 ?_;refine bt 22 ?_;refine bt 23 ?_;refine bt 24 ?_;refine bt 25 ?_;refine ae 26 ?_;refine ae 27 ?_;refine cT 28 λK ab=>?_;go_simp;refine Ba V U (λ_ H=>?_) (H:=H);go_wp2;refine ab.o _ _ (λ_=>aD) ?_;refine bV ?_;go_wp2;go_returns;exact ju cJ.o (fs trivial H)
   |true=>
    rw[M5] at H UI;have Bu:=fU.o.1;obtain⟨_,_,y,pY,hA,hG,dZ⟩:=V.o.fe.gQ (k:=bP 0) H.o.av (by omega);cases hG;have Ip:((bP 0:Nat):Int)<(E.length:Int):=(by omega);have fB:(0:Int)<=((bP 0:Nat):Int):=(by omega);have uc:(0:Int)<x.I.length:=(by omega);have Ze:Hid (∀w',aL cp cp w'->True->(w'.cell? m=some (p,0)/\w'.cell? (m+1+1,0)=some [x.j']/\w'.cell? (m+1+1,3)=some [x.O]/\w'.cell? (m+1+1,4)=some (.slice (some g2) x.I.length aQ)/\w'.cell? p=some (tp,0)/\w'.cell? tp=some (.slice (some g) E.length cA))/\w'.cell? g2=some [(bP 0:Int)]/\w'.cell? (g,bP 0*5+4)=some (.slice pY y.I.length hA)):=A λw' hw _=>⟨uL.o w' hw trivial,vu.o w' (dE H hw).o.av,(dZ.cells w' (dE H hw).o.av).2.2.2.2⟩;have Fo:((Z L (bP 0)).I==[])=((y.I.length:Int)==0):=by
     rw[dZ.Z];cases y.I with
     |nil=>rfl
     |cons a l=>
      have:(((a::l).length:Int)==0)=false:=(by simp;omega);rw[this];rfl
    have H:=dE (eP (show _=(bl ((y.I.length:Int)==0) 10 k [] aq).M .ok by rw[Fo];rfl) H) kJ;refine jz 29 Ze kJ trivial λaD=>?_;generalize cp.drew=wA at*;refine ae 0 ?_;refine ae 1 ?_;refine ae 2 ?_;refine ae 3 ?_;refine ae 4 ?_;refine ae 5 ?_;refine ae 6 ?_;refine ae 7 ?_;refine ae 8 ?_;refine ae 9 ?_;refine ae 10 ?_;refine ae 11 ?_;refine ae 12 ?_;refine ae 13 ?_;refine ae 14 ?_;refine ae 15 ?_;refine ae 16 ?_;refine ae 17 ?_;refine ae 18 ?_;refine ae 19 ?_;refine ae 20 ?_;refine ae 21 ?_;refine ae 22 ?_;refine ae 23 ?_;refine ae 24 ?_;refine ae 25 ?_;refine ae 26 ?_;refine ae 27 ?_;refine cT 28 λK ab=>?_;go_simp;refine Ba V U (λ_ H=>?_) (H:=H);go_wp2;refine ab.o _ _ (λ_=>aD) ?_;refine bV ?_;go_wp2;go_returns;exact ju cJ.o (fs trivial H)
  .have qn:(x.j'==13)=false:=(by simp[ji]);have alJ:(x.j' !=13)=true:=(by simp[ji]);rw[qn] at H;have H:=dE (eP (show _=(bl true 10 k [] aq).M .ok from rfl) H) kJ;refine jz 29 uL kJ trivial λaD=>?_;generalize cp.drew=wA at*;refine ae 0 ?_;refine ae 1 ?_;refine ae 2 ?_;refine ae 3 ?_;refine ae 4 ?_;refine bt 5 ?_;refine bt 6 ?_;refine bt 7 ?_;refine ae 8 ?_;refine ae 9 ?_;refine bt 10 ?_;refine bt 11 ?_;refine bt 12 ?_;refine bt 13 ?_;refine bt 14 ?_;refine bt 15 ?_;refine bt 16 ?_;refine bt 17 ?_;refine bt 18 ?_;refine bt 19 ?_;refine bt 20 ?_;refine bt 21 ?_;refine bt 22 ?_;refine bt 23 ?_;refine bt 24 ?_;refine bt 25 ?_;refine ae 26 ?_;refine ae 27 ?_;refine cT 28 λK ab=>?_;go_simp;refine Ba V U (λ_ H=>?_) (H:=H);go_wp2;refine ab.o _ _ (λ_=>aD) ?_;refine bV ?_;go_wp2;go_returns;exact ju cJ.o (fs trivial H)
end
end Pk
end
section
open Go.RowKit Go.Shelf
def ac0{P:Program}{o:Oper}{n:Nat}{l}{a:Act}{w:ai}{K:Act->ai->Prop}{Q:Exit->Act->ai->Prop}(bB: ∀c,o.op≠ .defer c)(h:o.wp P a w K Q):o.wpIn (Fence.wide.inRound l) n P a w K Q:=by
 refine⟨λ_ _=>trivial,?_⟩;rw[show(Fence.wide.inRound l).round=some l from rfl,Oper.semAt_some _ _ _ bB];unfold Oper.wp at h;generalize(execOp a.eval o).run P w=r at*;cases r with
 |ok x w'=>
  cases x with
  |enter f args=>exact⟨λe=>(by cases e),CallsIn.inRound l (callsIn_wide.2 h)⟩
  |row r args=>
   refine⟨λe=>(by cases e),λc cs _=>?_⟩;obtain⟨v,w',r,s⟩:=h c cs;exact⟨v,w',r,stepsIn_wide.2 s⟩
  |round=>exact h.elim
  |_=>exact h
 |halt x w'=>cases x<;>exact h
def RT (ops:Array Oper):Bool:=ops.all λo=>match o.op with
 | .defer _=>false
 |_=>true
def aaY{P ops md l n}{Q:Exit->Act->ai->Prop}(bB:RT ops=true)(hQ: ¬LetsOut Q): ∀(fuel:Nat) (dB:Array Bool) (a:Act) (w:ai),wpAny P md ops Q fuel dB a w->wpAnyIn (Fence.wide.inRound l) n P md ops Q fuel dB a w:=by
 intro fuel
 induction fuel with
 |zero=>exact λ_ _ _ h=>h
 |succ fuel cB=>
  intro dB a w h;refine⟨h.1,λi ay=>?_⟩;have T:=h.2 i ay;unfold wpOp at T;unfold wpOpIn;cases bX:ops[i]? with
  |none=>rw[bX] at T;exact cB _ _ _ T
  |some o=>
   rw[bX] at T;dsimp only at T|-;have aiX: ∀c,o.op≠ .defer c:=λc e=>by
    have:=Array.all_eq_true_iff_forall_mem.1 bB o (Array.mem_of_getElem? bX);rw[e] at this;cases this
   split
   .rename_i hw;rw[aS hw] at T;obtain T|T:=T
    .exact Oper.wpIn_mono (λa w=>cB _ a w) (ac0 aiX T)
    .exact absurd T.2 hQ
   .rename_i hw;rw[ao hw] at T;exact⟨λ_ _=>trivial,cB _ _ _ T⟩
def Nz{P ops}{Q:Exit->Act->ai->Prop}{id l n a w}(bp:Nat){S F c2:ai->Prop}(aD:RowKit.Hid (∀w',F w'->c2 w'->S w'))(aI:F w.drew)(aB:c2 w.drew)(h:S w.drew->kz P .any ops (NoPanic Q) S bp ops.size (vy ops.size false) a w.drew)(hQ: ¬LetsOut Q:=by rintro⟨_,_,h⟩;exact h)(bB:RT ops=true:=by kernel_rfl)(hm:P.follows .mixedOrders=true:=by kernel_rfl):(Code.region id ops true).wpIn (Fence.wide.inRound l) n P Q a w:=
 wpIn_mono (Q:=NoPanic Q) (wpIn_region_any hm (aaY (Q:=NoPanic Q) bB (by rintro⟨a,w,h⟩;exact hQ ⟨a,w,h⟩) _ _ _ _ (OM (Q:=NoPanic Q) (S:=S) (bp:=bp) _ _ _ _ (h (aD.o _ aI aB))))) NoPanic.imp
namespace Pk
attribute [local go_sem] Oper.semAt_some
def upto {po:Type}(f:Nat->po)(k:Nat):List po:=(List.range k).map f
def Pj{po}(f:Nat->po)(k:Nat):upto f (k+1)=upto f k++[f k]:=by simp[upto,List.range_succ]
def Xq{po}(f:Nat->po)(k):D (upto f k)=k:=by simp[upto]
def FL (fe:List Nat)(j:Nat):Nat×Nat:=(D fe- 1-j,fe[D fe- 1-j]?.getD 0)
def L1 (x:Nat×Nat):Array af:= #[x.1,.map (some x.2)]
def ac1{po}{enc:po->Array af}{f:Nat->po}(F:Fence)(n:Nat)(fW:F.fn 237)(NC:F.round=none)(ax:1<=n)(l eL j4 b cap:Nat)(fe:List Nat)(aI: ∀j,j<D fe->enc (f j)=L1 (FL fe j))(R3:D fe<=2000000)(G:b<j4)(iI G5:List po->ai->Prop)
 (dZ: ∀pre x dC,iI pre dC->D pre<D fe->YieldAt F (n- 1) prog l (enc x) dC λe nH=>
   (e= .returned (.bool true)/\iI (pre++[x]) nH/\aL j4 dC nH)\/(e= .returned (.bool false)/\G5 (pre++[x]) nH))
 (dC:ai)(I6: ∀nH,aL j4 dC nH->nH.cell? eL=some (b,D fe,cap))(hc: ∀j,j<D fe->dC.cell? (b,j)=some (.map (some (fe[j]?.getD 0))))(aH:iI [] dC):
  CallsIn F n prog 237 #[.func (.yield l) #[] #[],(eL,0)] dC λe nH=>(∃v,e= .returned v)/\
   ((∃wS,wS=upto f (D fe)/\iI wS nH)\/(∃pre,(∃k,k<=D fe/\pre=upto f k)/\G5 pre nH)):=by
 refine callsIn_of_wp func237 rfl fW ?_ NC;simp only[ntmps237,List.size_toArray,iq,u1,Nat.reduceAdd,Nat.reduceSub,Array.replicate_succ,Array.replicate_zero,List.push_toArray,List.append_toArray,List.nil_append,List.cons_append];have alW:=I6 dC (aT _ _);have anL:IntKind.i64.wrap (D fe- 1)=D fe- 1:=dI _ J
 gi_wp2
 gi_loopw [3] (λi wr=> ∃k:Nat,k<=D fe/\i= [((D fe:Int)- 1-k:Int)]/\iI (upto f k) wr/\aL j4 dC wr)
  (λi _=>(intOf i+1).toNat)
 case atStart=>exact⟨0,gp _,by first|rfl|simp,aH,aT _ _⟩
 case round=>
  obtain⟨k,U,rfl,Uk,Fs⟩:=hrel;by_cases bN:k<D fe
  .obtain⟨m,hm⟩: ∃m:Nat,D fe- 1-k=m:=⟨_,rfl⟩;have⟨Aq,oB,BN⟩:(D fe:Int)- 1-(k:Int)=m/\(m:Int)<D fe/\(0:Int)<=m:=J;have vM:aG wr (b,m)=some (.map (some (fe[m]?.getD 0))):=(Fs.cell (p:=⟨b,m,none⟩) G).trans (hc m J);have oz:=I6 wr Fs;have hK:IntKind.i64.wrap (m- 1)=m- 1:=dI _ J;have Uv:=dZ _ (f k) wr Uk (by rw[Xq];exact bN);rw[aI k bN] at Uv;obtain⟨fn,tmps,assign,body,bx,dT⟩:=Uv;unfold FL L1 at bx;rw[hm] at bx;dsimp only at bx;rw[Aq]
   gi_wp2
   refine dT.mono ?_;rintro e ali (⟨rfl,hJ3,II⟩|⟨rfl,hJx3⟩)
   .gi_wp2
    go_roundw
    case rel=>exact⟨k+1,by omega,by first|(go_num;omega)|(congr 1;omega),by rw[Pj];exact hJ3,Fs.trans II⟩
    case measure=>simp[intOf]
   .gi_wp2
    refine oK (results_none rfl _ _ _) rfl ?_;exact⟨⟨_,rfl⟩,.inr ⟨_,⟨k+1,by omega,(Pj _ _).symm⟩,hJx3⟩⟩
  .obtain rfl:k=D fe:=J;rw[show(D fe:Int)- 1-(D fe:Int)= -1 by omega]
   gi_wp2
   go_end0
   exact⟨⟨_,rfl⟩,.inl ⟨_,rfl,Uk⟩⟩
def ZO{po}{enc:po->Array af}{f:Nat->po}(F:Fence)(n:Nat)(fW:F.fn 237)(NC:F.round=none)(ax:1<=n)(eL b cap)(fe:List Nat)(aI: ∀j,j<D fe->enc (f j)=L1 (FL fe j))(R3:D fe<=2000000)(w:ai)(G:b<w.heap.size)(I6:aG w ⟨eL,0,none⟩=some (.slice (some ⟨b,0,none⟩) (D fe) cap))(aiq:eL<w.heap.size)(hc: ∀j,j<D fe->aG w ⟨b,j,none⟩=some (.map (some (fe[j]?.getD 0)))):
  SeqStopsK F n prog 237 #[.pointer (some ⟨eL,0,none⟩)] enc (aL w) (λwS=>wS=upto f (D fe)) (λpre=> ∃k,k<=D fe/\pre=upto f k) (D fe) w:=λl iI G5 dC ve _ _ dZ aH=>
 ac1 F n fW NC ax l eL w.heap.size b cap fe aI R3 G iI G5 dZ dC (λnH h=>(((ve.trans h).cell (p:=⟨eL,0,none⟩) aiq).trans I6)) (λj bg=>(ve.cell (p:=⟨b,j,none⟩) G).trans (hc j bg)) aH
end Pk
end
end Go.Proofs.YtjfkhpkicioakaaGreatDoor
