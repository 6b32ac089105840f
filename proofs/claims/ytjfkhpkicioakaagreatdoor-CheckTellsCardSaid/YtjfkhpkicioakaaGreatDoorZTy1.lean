/- PROVED HERE: the types of both, walked. No condition. -/
import Derived.Test.YtjfkhpkicioakaaGreatDoorZLx1
import Derived.Test.YtjfkhpkicioakaaGreatDoorZP1
import Derived.Test.YtjfkhpkicioakaaGreatDoorZPs1
import Derived.Laws.Concat
import Derived.Test.YtjfkhpkicioakaaGreatDoorShelf2
import Derived.Maps.RangeWalk
import Derived.Maps.AppendAt
import Derived.Sort.OwnSorted
import Derived.OrdersHeld
import Derived.StillTail
import Derived.IntWalk
import Derived.Handy
import Derived.Lib.Hide
import Derived.Deep.RegionHeld
import Derived.StillTailTactics
set_option maxRecDepth 100000
set_option maxHeartbeats 60000000
set_option linter.all false
open Array renaming replicate->vy
open ByteArray renaming empty->ke
open Go renaming Ending->e7,Value->af,World->ai,maxLen->dc,undef->eb,wpList->fo
open Go.Instr renaming lookup->vz
open Go.Op renaming stringOp->nD
open Go.Proofs.Tryz renaming func129->GM,ntmps129->GN,underlying44->rO,underlying79->GO,zeroValue3->rP
open Go.Region renaming ready->nE,wanted->nF
open Go.RowKit renaming Below->aL
open Go.Value renaming ownBlock->tA,string->mm
open Go.Value.slice renaming injEq->P4
open Go.World renaming alloc->aA,cell?->aG
open List renaming getD->Y,length->D
open Option.some renaming injEq->Kr
open Go.Proofs.YtjfkhpkicioakaaGreatDoor.B hiding fail name
open Go.Proofs.Tryz
namespace Go.Proofs.YtjfkhpkicioakaaGreatDoor
open Go.RowKit
def nn{P}(a b c:List UInt8){bP V}(w)(hc:a++b=c)(h:D c<=1000000000000)(ev:bP=str a:=by rfl)(bY:V=str b:=by rfl):(nD .add bP V).run P w= .ok c w:=by
 subst ev bY hc;rw[run_string_add_sum w _ _ (by rw[js,js];rw[dW] at h;omega)]
 congr 2
def XN(l:List (List UInt8))(x)(h:l≠[]):hE (l++[x])=hE l++(44::x):=by
 induction l with
 |nil=>exact absurd rfl h
 |cons y r cB=>
  cases r with
  |nil=>rfl
  |cons bp r=>
   have:=cB bT;simp only[List.cons_append,hE] at this|-;rw[this];simp
def XO(l:List (List UInt8))(j):D (hE (l.take j))<=D (hE l):=by
 induction l generalizing j with
 |nil=>simp[hE]
 |cons x r cB=>
  cases j with
  |zero=>simp[hE]
  |succ j=>
   cases r with
   |nil=>simp
   |cons y r=>
    cases j with
    |zero=>simp only[List.take_succ_cons,List.take_zero,hE,dW];omega
    |succ j=>
     have:=cB (j+1);simp only[List.take_succ_cons,hE,dW,iq] at this|-;omega
section
variable{L:List aP}{E:List (aP×af)}{N:Nat}
def JC(hd:Hid (B.h1 L))(cC:Hid (∀k,D (B.O L k)<=100000000000))(cZ:Hid (L=E.map (·.1)))(k): ∀(w:ai) (v:af),iJ N w v E->k<D E->aY 20 #[v,k] w λe w'=>e= .returned [B.O L k]/\aL w w w':=by
 induction k using Nat.strongRecOn with
 |ind k cB=>
 intro w v bQ U;obtain⟨⟨x,u⟩,aF⟩: ∃x,E[k]?=some x:=⟨_,cE U⟩;have gj:L[k]?=some x:=by rw[cZ.o,lW,aF];rfl
 have eX:=A (hd.o k x gj);have fR:=zd hd.o k;rw[mO gj] at fR;have bW:=A fR;clear fR;have l8:=wu bQ.row;obtain⟨g,cap,rfl⟩:=dR bQ.row J;obtain⟨bO,bq,cK,c3,c4⟩:=n_ bQ rfl aF;have je:(x,u)∈E:=hX aF;have l':jC N w u x.I:=bQ.I _ je;obtain⟨bb,aQ,rfl⟩:=eR l' rfl;dsimp only at bO bq cK c3 c4;have ev: ∀o,iJ N (aA w o) (g,D E,cap) E:=λo=>bQ.vf ((aT _ _).alloc (bD _) o);have cz:=A ev;have dy:=A cB;have c6:=cC.o k;clear cB ev;have⟨hv,hi⟩:(k:Int)<D E/\(0:Int)<=k:=J;have bh: ∀o,aL w w (aA w o):=λo=>(aT _ _).alloc (bD _) o;have pM:=A bh;clear bh;go_in;have Go:=0;by_cases cu:x.j'=1
 .have b1:(x.j'==1)=true:=by simp[cu]
  go_wp2;go_returns;exact⟨by rw[bW.o,aS cu];rfl,pM.o _⟩
 have b1:(x.j'==1)=false:=by simpa using cu
 replace bW:=A (bW.o.trans (ao cu));by_cases k2:x.j'=2
 .have b2:(x.j'==2)=true:=by simp[k2]
  go_wp2;go_returns;exact⟨by rw[bW.o,aS k2];rfl,pM.o _⟩
 have b2:(x.j'==2)=false:=by simpa using k2
 replace bW:=A (bW.o.trans (ao k2));by_cases iG:x.j'=3
 .have bC:(x.j'==3)=true:=by simp[iG]
  go_wp2;go_returns;exact⟨by rw[bW.o,aS iG];rfl,pM.o _⟩
 have bC:(x.j'==3)=false:=by simpa using iG
 replace bW:=A (bW.o.trans (ao iG));by_cases fY:x.j'=4
 .have bG:(x.j'==4)=true:=by simp[fY]
  have aR: ∀w,(nD .add ⟨#[42]⟩ (str x.O)).run prog w= .ok [42::x.O] w:=λw=>nn [42] x.O _ w rfl (by rw[bW.o,aS fY] at c6;omega);go_wp2;go_returns;exact⟨by rw[bW.o,aS fY];rfl,pM.o _⟩
 have bG:(x.j'==4)=false:=by simpa using fY
 replace bW:=A (bW.o.trans (ao fY));by_cases rm:x.j'=5
 .have cf:(x.j'==5)=true:=by simp[rm]
  have aZ:=eX.o.one (.inl rm);have dG:0<D x.I:=List.length_pos_iff.2 aZ;obtain⟨g2,qW,hF⟩:=dR l' J;cases hF;have mD: ∀o,aG (aA w o) g2=some [((Y x.I 0 0:Nat):Int)]:=λo=>nj ((cz.o o).I _ je) rfl dG;have bN:=eX.o.lt _ (pw dG);have Ag:(0:Int)<D x.I:=J;obtain⟨a,fB⟩: ∃a,Y x.I 0 0=a:=⟨_,rfl⟩;rw[fB] at bW bN;simp only[fB] at mD;clear fB;replace bW:=A (bW.o.trans (aS rm));have aR: ∀w,(nD .add ⟨#[99,104,97,110,32]⟩ (str (B.O L a))).run prog w= .ok [B.i_++B.O L a] w:=λw=>nn B.i_ _ _ w rfl (by rw[bW.o] at c6;omega);go_wp2;refine b7 (dy.o _ bN _ _ (cz.o _) J) λw2 b8=>?_;have cN:=A b8;clear b8;go_wp2;go_returns;exact⟨by rw[bW.o];rfl,(pM.o _).trans (cN.o.mono bT)⟩
 have cf:(x.j'==5)=false:=by simpa using rm
 replace bW:=A (bW.o.trans (ao rm));by_cases sT:x.j'=7
 .have qC:(x.j'==7)=true:=by simp[sT]
  have aZ:=eX.o.one (.inr (.inl sT));have dG:0<D x.I:=List.length_pos_iff.2 aZ;obtain⟨g2,qW,hF⟩:=dR l' J;cases hF;have mD: ∀o,aG (aA w o) g2=some [((Y x.I 0 0:Nat):Int)]:=λo=>nj ((cz.o o).I _ je) rfl dG;have bN:=eX.o.lt _ (pw dG);have Ag:(0:Int)<D x.I:=J;obtain⟨a,fB⟩: ∃a,Y x.I 0 0=a:=⟨_,rfl⟩;rw[fB] at bW bN;simp only[fB] at mD;clear fB;replace bW:=A (bW.o.trans (aS sT));go_wp2;refine b7 (dy.o _ bN _ _ (cz.o _) J) λw2 b8=>?_;have cN:=A b8;clear b8;go_wp2;go_returns;exact⟨by rw[bW.o];rfl,(pM.o _).trans (cN.o.mono bT)⟩
 have qC:(x.j'==7)=false:=by simpa using sT
 replace bW:=A (bW.o.trans (ao sT));by_cases sS:x.j'=6\/x.j'=8
 .obtain⟨m,hm,oB⟩:=eX.o.aX sS;replace bW:=A (bW.o.trans (aS sS));rw[hm,xJ] at bW;have Le:=wu l';unfold dc at Le;have jN:=A l';obtain⟨iZ,xh⟩: ∃fR:List (List UInt8),fR=(x.I.take m).map λj=>B.O L j:=⟨_,rfl⟩;rw[<-xh] at bW;have Et:D iZ=m:=by rw[xh];simp;omega
  have Eu: ∀j,j<m->iZ.take (j+1)=iZ.take j++[B.O L (Y x.I j 0)]:=λj bg=>by
   rw[p3,xh,lW,List.getElem?_take,aS bg,cE J];simp[cd,cE (show j<D x.I by omega)]
  have hbound:D (B.f'++hE iZ)+2<=100000000002/\D (B.f'++hE iZ++[41])<=100000000000:=by
   rw[bW.o] at c6;simp only[dW,iq,u1] at c6⊢;omega
  have HL:=A Eu;have rK:=A hbound;clear xh Eu hbound;have Bw:=A c6;have pj:=A eX.o.lt;obtain⟨tE,BQ⟩: ∃f:Nat->List UInt8,f=λj=>B.f'++hE (iZ.take j):=⟨_,rfl⟩;obtain⟨KK,HO⟩: ∃f:Nat->List UInt8,f=λj=>tE j++[44]:=⟨_,rfl⟩;have BO: ∀j,D (tE j)<=100000000000:=λj=>by
   have T:=XO iZ j;have ah:=rK.o.1;rw[BQ];rw[dW] at ah;simp only[dW];omega
  have Bf: ∀j,j<m-> ∀w,(j=0->(nD .add (str (tE j)) (str (B.O L (Y x.I j 0)))).run prog w= .ok [tE (j+1)] w)/\(0<j->(nD .add (str (tE j)) ⟨#[44]⟩).run prog w= .ok [KK j] w/\(nD .add (str (KK j)) (str (B.O L (Y x.I j 0)))).run prog w= .ok [tE (j+1)] w):=λj bg w=>by
   have R:=BO (j+1);have bJ:=BO j;have dH:D (KK j)=D (tE j)+1:=(by rw[HO];simp);refine⟨λaH=>nn _ _ _ w ?_ J,λaH=>⟨nn _ [44] _ w (by rw[HO]) J,nn _ _ _ w ?_ J⟩⟩
   .subst aH;rw[BQ];dsimp only;rw[HL.o 0 bg];rfl
   .have aZ:iZ.take j≠[]:=by
     intro e;have:=congrArg List.length e;rw[mr,u1] at this;omega
    rw[HO,BQ];dsimp only;rw[HL.o j bg,XN _ _ aZ];simp
  have HP:Hid (str (tE 0)=⟨#[102,117,110,99,40]⟩):=A (by rw[BQ];rfl);have HQ:tE m=B.f'++hE iZ:=by rw[BQ];dsimp only;rw[u7 J]
  obtain⟨uV,vJ⟩: ∃l:List UInt8,l=tE m++[41]:=⟨_,rfl⟩;obtain⟨G1,HR⟩: ∃l:List UInt8,l=uV++[32]:=⟨_,rfl⟩;have M6:Hid (∀w,(nD .add (str (tE m)) ⟨#[41]⟩).run prog w= .ok uV w):=A λw=>nn _ [41] _ w vJ.symm (by have:=rK.o.2;rw[<-HQ,<-vJ] at this;omega);have M7:Hid (D uV<=100000000000):=A (by have:=rK.o.2;rw[<-HQ,<-vJ] at this;omega);have Yy:Hid (∀w,(nD .add (str uV) ⟨#[32]⟩).run prog w= .ok G1 w):=A λw=>nn _ [32] _ w HR.symm (by have:=M7.o;rw[HR,dW];simp;omega);have Ew:Hid (B.f'++hE iZ++[41]=uV):=A (by rw[vJ,HQ]);have Yz:Hid (G1=uV++[32]):=A HR;clear BQ HO vJ HR BO HQ;have kN:=A Bf;clear Bf;have BN:IntKind.i64.wrap 0=0:=rfl;clear cu k2 iG fY rm sT aF c6;have cM:=A bQ;clear bQ l';have G:((x.j'==6)=true)\/((x.j'==6)=false/\(x.j'==8)=true):=by
   obtain h|h:=sS
   .exact .inl (by simp[h])
   .exact .inr ⟨by simp[h],by simp[h]⟩
  obtain fi|⟨fi,eY⟩:=G
  all_goals
   go_wp2;have eV:=A (ek w (aw #[x.j',x.an,m,x.O,(bb,D x.I,aQ)] 53));have yn:=A (cz.o (aw #[x.j',x.an,m,x.O,(bb,D x.I,aQ)] 53));have c1:=A (pM.o (aw #[x.j',x.an,m,x.O,(bb,D x.I,aQ)] 53));generalize(aA w (aw #[x.j',x.an,m,x.O,(bb,D x.I,aQ)] 53))=w1 at eV yn c1|-;go_loopg[7,8] m (λr s i wr=> ∃j:Nat,j+r=m/\s= [tE j]/\i= j/\Hid (aL w1 w1 wr))
   case atStart=>exact⟨0,by omega,by rw[HP.o],rfl,A (aT _ _)⟩
   case round=>
    obtain⟨j,bg,rfl,rfl,lv⟩:=hrel;have w6:=A (ds eV.o lv.o (bd eV.o));have yo:=A (yn.o.vf lv.o);have cw:=az w6.o 2;have dQ:=az w6.o 4;have b9:=bd w6.o;simp only[cO,cQ,c8] at cw dQ;by_cases M8:j<m
    .have⟨kM,vW,me⟩:(j:Int)<m/\(j:Int)<D x.I/\(0:Int)<=j:=J;obtain⟨g2,qW,hF⟩:=dR jN.o J;cases hF;have mD:=nj (yo.o.I _ je) rfl (show j<D x.I by omega);have bN:=pj.o _ (pw (show j<D x.I by omega));have iC:=A (kN.o j M8);obtain⟨a,fB⟩: ∃a,Y x.I j 0=a:=⟨_,rfl⟩;rw[fB] at iC bN mD;clear fB;have hK:IntKind.i64.wrap (j+1)=j+1:=dI _ J;go_wp2;refine b7 (dy.o _ bN _ _ yo.o J) λw2 b8=>?_;have cN:=A (lv.o.trans (b8.mono lv.o.size));clear b8 mD cw dQ b9;have Ex:=iC.o;by_cases aH:j=0
     .subst aH;have s1:=λw=>(Ex w).1 rfl;clear Ex;go_wp2;go_roundg (m- 1)
      case rel=>exact⟨1,by omega,rfl,rfl,cN⟩
      case measure=>omega
     .have hz:(0:Int)<j:=J;have s1:=λw=>((Ex w).2 J).1;have s2:=λw=>((Ex w).2 J).2;clear Ex;go_wp2;go_roundg (m-j- 1)
      case rel=>exact⟨j+1,by omega,rfl,by simp,cN⟩
      case measure=>omega
    .obtain rfl:j=m:=J;have kM: ¬(j:Int)<j:=J;have s1:=M6.o;by_cases hl:j<D x.I
     .have⟨Ag,me⟩:(j:Int)<D x.I/\(0:Int)<=j:=J;obtain⟨g2,qW,hF⟩:=dR jN.o J;cases hF;have mD:=nj (yo.o.I _ je) rfl hl;have bN:=pj.o _ (pw hl);replace bW:=A (bW.o.trans (by rw[aS hl]));obtain⟨a,fB⟩: ∃a,Y x.I j 0=a:=⟨_,rfl⟩;rw[fB] at bW bN mD;clear fB;have BP:(G1++B.O L a)=B.O L k:=(by rw[bW.o,Yz.o,<-Ew.o];simp);have s2:=Yy.o;have aq: ∀w,(nD .add (str G1) (str (B.O L a))).run prog w= .ok [B.O L k] w:=λw=>nn _ _ _ w BP (by have:=Bw.o;omega);clear BP;go_wp2;refine b7 (dy.o _ bN _ _ yo.o J) λw2 b8=>?_;have cN:=A (lv.o.trans (b8.mono lv.o.size));clear b8 mD cw dQ b9;go_wp2;go_returns;exact⟨rfl,c1.o.trans (cN.o.mono c1.o.size)⟩
     .have Ag: ¬(j:Int)<D x.I:=J;replace bW:=A (bW.o.trans (by rw[ao hl]));go_wp2;go_returns;exact⟨by rw[bW.o,<-Ew.o];rfl,c1.o.trans (lv.o.mono c1.o.size)⟩
 .have fi:(x.j'==6)=false:=by simpa using λh=>sS (.inl h)
  have eY:(x.j'==8)=false:=by simpa using λh=>sS (.inr h)
  go_wp2;go_returns;exact⟨by rw[bW.o,ao sS];rfl,pM.o _⟩
end
def aby(l:List (List UInt8)):Lib.join l [44]=hE l:=by
 induction l with
 |nil=>rfl
 |cons x r cB=>
  cases r with
  |nil=>rw[Lib.join_one];rfl
  |cons y r=>
   rw[Lib.join_cons] at cB|-;show _=x++44::hE (y::r);rw[<-cB];simp[Lib.joinTail]
def abh(l:List (List UInt8)):D l<=D (hE l)+1:=by
 induction l with
 |nil=>simp
 |cons x r cB=>
  cases r with
  |nil=>simp[hE]
  |cons y r=>
   simp only[hE,iq,dW] at cB|-;omega
def ua (w:ai)(tp:Nat)(v m1 m2 m3:af):Prop:=w.heap[tp]?=some (.cells #[v,m1,m2,m3] 81 (0,0))
def db (N:Nat)(w:ai)(u:af)(l:List (List UInt8)):Prop:=w.ownsRow N 9 1 u (D l) (l.map λx=>mm (str x))
def JJ:(prog.info? 9).map (λi=>(i.zero,i.size,i.bytes))=some (some (.string ke),1,16):=cS
def vv{ops rest o s0 cF}{er:Exit->Act->ai->Prop}{a N w u l}(x)(hl:D l<=1000000000000)(hN:N<=w.heap.size)(bQ:db N w u l)
 (h: ∀g cap a6,db N a6 (.slice (some ⟨g,0,none⟩) (D l+1) cap) (l++[x])->aL N w a6->fo prog ops er rest (a.put o.dst (.slice (some ⟨g,0,none⟩) (D l+1) cap)) a6)
 (jO:o.guard=none:=by rfl)(bX:o.op= .call {callee:= .builtin .append,args:= #[s0,cF],argTypes:= #[22,22]}:=by rfl)(hs:a.eval s0=u:=by rfl)(aF:a.eval cF= .slice (some ⟨w.heap.size,0,none⟩) 1 1:=by rfl):
  fo prog ops er (o::rest) a (aA w (aw #[.string (str x)] 9)):=by obtain⟨i0,fM,e',e_,ff⟩:=kT JJ;have pL:(aA w (aw #[x] 9)).ownsRow N 9 1 u (D l) (l.map λx=>mm (str x)):=fZ bQ ((aT w w).alloc (bD _) _) λk U=>(eI bQ k U).2;refine tI _ jO s0 cF 22 bX N 9 i0 _ 1 16 underlying22 fM e' e_ ff rfl J u (D l) (l.map λx=>mm (str x)) hs pL ⟨w.heap.size,0,none⟩ 1 1 [x] aF rfl (j7 (cs:= #[x]) (t:=9) (fr:=(0,0)) (hf _ _)) (by intro y bx;simp at bx;subst bx;rfl) J (by unfold dc;omega) J (by simp;omega) (w.heap.size+1) bT ?_;intro g cap a6 fF dv e1 _;refine h g cap a6 ?_ (Below.grown ((aT N w).alloc hN _) dv (by simp;omega) (λk U=>(eI bQ k U).1));unfold db;rw[dW,rX];exact fF
section
variable{L:List aP}{E:List (aP×af)}{N:Nat}
def JD(hd:Hid (B.h1 L))(cC:Hid (∀k,D (B.O L k)<=100000000000))(cZ:Hid (L=E.map (·.1)))(tp:Nat)(m1 m2 m3:af)(k): ∀(w:ai) (v:af),iJ N w v E->Hid (ua w tp v m1 m2 m3)->k<D E->aY 31 #[(tp,0),k] w λe w'=>e= .returned [B.O L k]/\aL w w w':=by
 induction k using Nat.strongRecOn with
 |ind k cB=>
 intro w v bQ vI U;obtain⟨⟨x,u⟩,aF⟩: ∃x,E[k]?=some x:=⟨_,cE U⟩;have gj:L[k]?=some x:=by rw[cZ.o,lW,aF];rfl
 have eX:=A (hd.o k x gj);have fR:=zd hd.o k;rw[mO gj] at fR;have bW:=A fR;clear fR;have l8:=wu bQ.row;obtain⟨g,cap,rfl⟩:=dR bQ.row (by omega);obtain⟨bO,bq,cK,c3,c4⟩:=n_ bQ rfl aF;have je:(x,u)∈E:=hX aF;have l':jC N w u x.I:=bQ.I _ je;obtain⟨bb,aQ,rfl⟩:=eR l' rfl;dsimp only at bO bq cK c3 c4;have ev: ∀o,iJ N (aA w o) (.slice (some ⟨g,0,none⟩) (D E) cap) E:=λo=>bQ.vf ((aT _ _).alloc (bD _) o);have cz:=A ev;have dy:=A cB;have c6:=cC.o k;clear cB ev;have t0:=az vI.o 0;have eK:=bd vI.o;simp only[cO,cQ,c8] at t0;have pk:Hid (∀o,Hid (ua (aA w o) tp (.slice (some ⟨g,0,none⟩) (D E) cap) m1 m2 m3)):=A λo=>A (hO vI.o o);have hv:(k:Int)<D E:=by omega
 have hi:(0:Int)<=k:=by omega
 have bh: ∀o,aL w w (aA w o):=λo=>(aT _ _).alloc (bD _) o;have pM:=A bh;clear bh;go_in;by_cases cu:x.j'=1
 .have b1:(x.j'==1)=true:=by simp[cu]
  go_wp2;go_returns;exact⟨by rw[bW.o,aS cu];rfl,pM.o _⟩
 have b1:(x.j'==1)=false:=by simpa using cu
 replace bW:=A (bW.o.trans (ao cu));by_cases k2:x.j'=2
 .have b2:(x.j'==2)=true:=by simp[k2]
  go_wp2;go_returns;exact⟨by rw[bW.o,aS k2];rfl,pM.o _⟩
 have b2:(x.j'==2)=false:=by simpa using k2
 replace bW:=A (bW.o.trans (ao k2));by_cases iG:x.j'=3
 .have bC:(x.j'==3)=true:=by simp[iG]
  go_wp2;go_returns;exact⟨by rw[bW.o,aS iG];rfl,pM.o _⟩
 have bC:(x.j'==3)=false:=by simpa using iG
 replace bW:=A (bW.o.trans (ao iG));by_cases fY:x.j'=4
 .have bG:(x.j'==4)=true:=by simp[fY]
  have aR: ∀w,(nD .add ⟨#[42]⟩ (str x.O)).run prog w= .ok (.string (str (42::x.O))) w:=λw=>nn [42] x.O _ w rfl (by rw[bW.o,aS fY] at c6;omega);go_wp2;go_returns;exact⟨by rw[bW.o,aS fY];rfl,pM.o _⟩
 have bG:(x.j'==4)=false:=by simpa using fY
 replace bW:=A (bW.o.trans (ao fY));by_cases rm:x.j'=5
 .have cf:(x.j'==5)=true:=by simp[rm]
  have aZ:=eX.o.one (.inl rm);have dG:0<D x.I:=List.length_pos_iff.2 aZ;obtain⟨g2,qW,hF⟩:=dR l' (by omega);cases hF;have mD: ∀o,aG (aA w o) ⟨g2,0,none⟩=some (.int .i64 ((Y x.I 0 0:Nat):Int)):=λo=>nj ((cz.o o).I _ je) rfl dG;have bN:=eX.o.lt _ (pw dG);have Ag:(0:Int)<D x.I:=by omega
  obtain⟨a,fB⟩: ∃a,Y x.I 0 0=a:=⟨_,rfl⟩;rw[fB] at bW bN;simp only[fB] at mD;clear fB;replace bW:=A (bW.o.trans (aS rm));have aR: ∀w,(nD .add ⟨#[99,104,97,110,32]⟩ (str (B.O L a))).run prog w= .ok (.string (str (B.i_++B.O L a))) w:=λw=>nn B.i_ _ _ w rfl (by rw[bW.o] at c6;omega);go_wp2_with fail;refine b7 (dy.o _ bN _ _ (cz.o _) (pk.o _) (by omega)) λw2 b8=>?_;have cN:=A b8;clear b8;go_wp2;go_returns;exact⟨by rw[bW.o];rfl,(pM.o _).trans (cN.o.mono (by simp))⟩
 have cf:(x.j'==5)=false:=by simpa using rm
 replace bW:=A (bW.o.trans (ao rm));by_cases sT:x.j'=7
 .have qC:(x.j'==7)=true:=by simp[sT]
  have aZ:=eX.o.one (.inr (.inl sT));have dG:0<D x.I:=List.length_pos_iff.2 aZ;obtain⟨g2,qW,hF⟩:=dR l' (by omega);cases hF;have mD: ∀o,aG (aA w o) ⟨g2,0,none⟩=some (.int .i64 ((Y x.I 0 0:Nat):Int)):=λo=>nj ((cz.o o).I _ je) rfl dG;have bN:=eX.o.lt _ (pw dG);have Ag:(0:Int)<D x.I:=by omega
  obtain⟨a,fB⟩: ∃a,Y x.I 0 0=a:=⟨_,rfl⟩;rw[fB] at bW bN;simp only[fB] at mD;clear fB;replace bW:=A (bW.o.trans (aS sT));go_wp2_with fail;refine b7 (dy.o _ bN _ _ (cz.o _) (pk.o _) (by omega)) λw2 b8=>?_;have cN:=A b8;clear b8;go_wp2;go_returns;exact⟨by rw[bW.o];rfl,(pM.o _).trans (cN.o.mono (by simp))⟩
 have qC:(x.j'==7)=false:=by simpa using sT
 replace bW:=A (bW.o.trans (ao sT));by_cases sS:x.j'=6\/x.j'=8
 .obtain⟨m,hm,oB⟩:=eX.o.aX sS;replace bW:=A (bW.o.trans (aS sS));rw[hm,xJ] at bW;have Le:=wu l';unfold dc at Le;have hcap:m<=aQ:=by
   obtain⟨aH,R⟩|⟨h5,ka,cur,aH,R,T,ah,_⟩:=l'.2
   .simp only[P4] at aH;omega
   .simp only[P4] at aH;omega
  have al6:(m:Int)<=aQ:=by omega
  have jN:=A l';obtain⟨iZ,xh⟩: ∃fR:List (List UInt8),fR=(x.I.take m).map λj=>B.O L j:=⟨_,rfl⟩;rw[<-xh] at bW;have Et:D iZ=m:=by rw[xh];simp;omega
  have Eu: ∀j,j<m->iZ.take (j+1)=iZ.take j++[B.O L (Y x.I j 0)]:=λj bg=>by
   rw[p3,xh,lW,List.getElem?_take,aS bg,cE (by omega)];simp[cd,cE (show j<D x.I by omega)]
  have hbound:D (B.f'++hE iZ)+2<=100000000002/\D (B.f'++hE iZ++[41])<=100000000000:=by
   rw[bW.o] at c6;simp only[dW,iq,u1] at c6⊢;omega
  have HL:=A Eu;have rK:=A hbound;clear xh Eu hbound;have Bw:=A c6;have pj:=A eX.o.lt;have M5:m<=100000000001:=by
   have R:=abh iZ;have T:=rK.o.2;simp only[dW,iq] at T;omega
  obtain⟨BJ,HM⟩: ∃l,l=hE iZ:=⟨_,rfl⟩;have HN:D (B.f'++BJ++[41])<=100000000000:=by have:=rK.o.2;rw[<-HM] at this;exact this
  obtain⟨K4,Ev⟩: ∃l:List UInt8,l=B.f'++BJ:=⟨_,rfl⟩;obtain⟨uV,vJ⟩: ∃l:List UInt8,l=K4++[41]:=⟨_,rfl⟩;have M6:Hid (∀w,(nD .add ⟨#[102,117,110,99,40]⟩ (str BJ)).run prog w= .ok (.string (str K4)) w):=A λw=>nn B.f' _ _ w Ev.symm (by rw[<-Ev,dW] at HN;omega);have M7:Hid (∀w,(nD .add (str K4) ⟨#[41]⟩).run prog w= .ok (.string (str uV)) w):=A λw=>nn _ [41] _ w vJ.symm (by rw[<-Ev,<-vJ] at HN;omega);have Ew:Hid (B.f'++hE iZ++[41]=uV):=A (by rw[vJ,Ev,HM]);have Rs:=A HM;have YL:Hid (D BJ<=100000000000):=A (by rw[dW,dW] at HN;omega);clear Ev vJ HM HN;clear cu k2 iG fY rm sT aF c6;have cM:=A bQ;clear bQ l';have G:((x.j'==6)=true)\/((x.j'==6)=false/\(x.j'==8)=true):=by
   obtain h|h:=sS
   .exact .inl (by simp[h])
   .exact .inr ⟨by simp[h],by simp[h]⟩
  have BN:(0:Int)<=m:=by omega
  obtain fi|⟨fi,eY⟩:=G
  all_goals
   go_wp2_with fail;have eV:=A (ek w (aw #[.int .i64 x.j',.int .i64 x.an,.int .i64 (m:Int),.string (str x.O),(bb,D x.I,aQ)] 53));have yn:=A (cz.o (aw #[.int .i64 x.j',.int .i64 x.an,.int .i64 (m:Int),.string (str x.O),(bb,D x.I,aQ)] 53));have c1:=A (pM.o (aw #[.int .i64 x.j',.int .i64 x.an,.int .i64 (m:Int),.string (str x.O),(bb,D x.I,aQ)] 53));have rF:=pk.o (aw #[.int .i64 x.j',.int .i64 x.an,.int .i64 (m:Int),.string (str x.O),(bb,D x.I,aQ)] 53);generalize(aA w (aw #[.int .i64 x.j',.int .i64 x.an,.int .i64 (m:Int),.string (str x.O),(bb,D x.I,aQ)] 53))=w1 at eV yn c1 rF|-;clear t0 eK;go_loopg[6,58] m (λr u i wr=> ∃(j:Nat) (gM:Option Addr) (jq:Nat),j+r=m/\u= (gM,j,jq)/\i= .int .i64 (j:Int)/\Hid (aL w1 w1 wr)/\Hid (db w1.heap.size wr (gM,j,jq) (iZ.take j)))
   case atStart=>exact⟨0,none,0,by omega,rfl,rfl,A (aT _ _),A (n7 _ _ _ _)⟩
   case round=>
    obtain⟨j,gM,jq,bg,rfl,rfl,lv,km⟩:=hrel;have w6:=A (ds eV.o lv.o (bd eV.o));have yo:=A (yn.o.vf lv.o);have w7:Hid (ua wr tp (.slice (some ⟨g,0,none⟩) (D E) cap) m1 m2 m3):=A (ds rF.o lv.o (bd rF.o));have cw:=az w6.o 2;have dQ:=az w6.o 4;have b9:=bd w6.o;simp only[cO,cQ,c8] at cw dQ;by_cases M8:j<m
    .have kM:(j:Int)<m:=(by omega);have me:(0:Int)<=j:=(by omega);obtain⟨g2,qW,hF⟩:=dR jN.o (by omega);cases hF;have mD:=nj (yo.o.I _ je) rfl (show j<D x.I by omega);have bN:=pj.o _ (pw (show j<D x.I by omega));have SV:=A (HL.o j M8);obtain⟨a,fB⟩: ∃a,Y x.I j 0=a:=⟨_,rfl⟩;rw[fB] at SV bN mD;clear fB;have hK:IntKind.i64.wrap (j+1)=j+1:=dI _ (by omega);go_wp2_with fail;refine b7 (dy.o _ bN _ _ yo.o w7 (by omega)) λw2 b8=>?_;have cN:=A (lv.o.trans (b8.mono lv.o.size));have gA:Hid (db w1.heap.size w2 (gM,j,jq) (iZ.take j)):=A (fZ km.o b8 λk U=>(eI km.o k U).2);clear b8 mD cw dQ b9;have BO:D (iZ.take j)=j:=(by rw[mr];omega);go_wp2_with(at_builtin;refine vv (B.O L a) (by rw[BO];omega) cN.o.size gA.o (λjE og a6 fT di=>?_);rw[BO] at fT|-;have jm:=A fT;have hk:=A di;clear fT di)
     go_wp2;go_roundg (m-j- 1)
     case rel=>exact⟨j+1,some ⟨jE,0,none⟩,og,by omega,rfl,by simp,A (cN.o.trans hk.o),A (by rw[SV.o];exact jm.o)⟩
     case measure=>omega
    .obtain rfl:j=m:=(by omega);have kM: ¬(j:Int)<j:=(by omega);have SW:Hid (db w1.heap.size wr (gM,j,jq) iZ):=A (by have:=km.o;rwa[u7 (by omega)] at this);have kn:Hid (aY 65 #[(gM,j,jq),.string ⟨#[44]⟩] wr λe w'=>e= .returned (.string (str BJ))/\aL wr wr w'):=A (by
      have M9:j<=jq:=by
       obtain⟨aH,R⟩|⟨h5,ka,cur,aH,R,T,ah,_⟩:=SW.o.2
       .simp only[P4] at aH;omega
       .simp only[P4] at aH;omega
      obtain aH|aH:=Nat.eq_zero_or_pos j
      .have aiF:iZ=[]:=List.length_eq_zero_iff.1 (by omega);rw[aH];refine b7 (strings_Join_none gM jq ⟨#[44]⟩ wr) ?_;rintro w' rfl;exact⟨by rw[Rs.o,aiF];rfl,aT _ _⟩
      .have h4:=SW.o;obtain⟨jE,og,hG⟩:=dR h4 (by omega);rw[Et] at hG;cases hG;have ae4:wr.ownsRow w1.heap.size 9 1 (.slice (some ⟨jE,0,none⟩) j jq) j (iZ.map λx=>mm (str x)):=by
        have gW:=h4;unfold db at gW;rwa[Et] at gW
       have aF:D (iZ.map str)=j:=(by rw[h2];exact Et);have cr:Lib.join ((iZ.map str).map (·.data.toList)) [44]=BJ:=by
        rw[Rs.o,<-aby,List.map_map]
        congr 1
        exact(List.map_congr_left λy _=>rfl).trans (List.map_id _)
       have h:=strings_Join jE 0 jq (iZ.map str) ⟨#[44]⟩ wr (λi y bx=>by
        have ay:i<D iZ:=(by have:=(List.getElem?_eq_some_iff.1 bx).1;rwa[h2] at this);have hc:=tH ae4 i (by omega);rw[Nat.zero_add,hc];rw[lW] at bx|-;rw[cE ay] at bx|-;simp only[Option.map_some,Kr] at bx|-;rw[bx]) (eI h4 jE rfl).2 (by omega) (by omega) (by show(Lib.join ((iZ.map str).map (·.data.toList)) [44]).length<=_;rw[cr];have:=YL.o;omega)
       rw[aF] at h;refine h.mono ?_;rintro e w' ⟨rfl,G⟩;exact⟨by show Ending.returned (.string ⟨(Lib.join ((iZ.map str).map (·.data.toList)) [44]).toArray⟩)=_;rw[cr];rfl,G⟩)
     go_wp2_with fail;refine kn.o.mono ?_;rintro e w2 ⟨rfl,b8⟩;have cN:=A (lv.o.trans (b8.mono lv.o.size));have s1:=M6.o;have s2:=M7.o;have pN:=A (ds w6.o b8 (bd w6.o));have vK:=A (yo.o.vf b8);have te:Hid (ua w2 tp (.slice (some ⟨g,0,none⟩) (D E) cap) m1 m2 m3):=A (ds w7.o b8 (bd w7.o));clear b8 cw dQ b9;have cw:=az pN.o 2;have dQ:=az pN.o 4;have b9:=bd pN.o;simp only[cO,cQ,c8] at cw dQ;by_cases hl:j<D x.I
     .have Ag:(j:Int)<x.I.length:=(by omega);have me:(0:Int)<=j:=(by omega);obtain⟨g2,qW,hF⟩:=dR jN.o (by omega);cases hF;have mD:=nj (vK.o.I _ je) rfl hl;have bN:=pj.o _ (pw hl);replace bW:=A (bW.o.trans (by rw[aS hl]));obtain⟨a,fB⟩: ∃a,Y x.I j 0=a:=⟨_,rfl⟩;rw[fB] at bW bN mD;clear fB;have BP:uV++(32::B.O L a)=B.O L k:=(by rw[bW.o,<-Ew.o];simp);have hle:=Bw.o;rw[<-BP,dW,iq] at hle;have aq: ∀w,(nD .add ⟨#[32]⟩ (str (B.O L a))).run prog w= .ok (.string (str (32::B.O L a))) w:=λw=>nn [32] _ _ w rfl (by rw[iq];omega);have bA: ∀w,(nD .add (str uV) (str (32::B.O L a))).run prog w= .ok (.string (str (B.O L k))) w:=λw=>nn _ _ _ w BP (by have:=Bw.o;omega);clear BP hle;go_wp2_with fail;refine(dy.o _ bN _ _ vK.o te (by omega)).mono ?_;rintro e bc ⟨rfl,e0⟩;have fu:=A (cN.o.trans (e0.mono cN.o.size));clear e0 mD cw dQ b9;go_wp2;go_returns;exact⟨rfl,c1.o.trans (fu.o.mono c1.o.size)⟩
     .have Ag: ¬(j:Int)<D x.I:=(by omega);replace bW:=A (bW.o.trans (by rw[ao hl]));go_wp2;go_returns;exact⟨by rw[bW.o,<-Ew.o];rfl,c1.o.trans (cN.o.mono c1.o.size)⟩
 .have fi:(x.j'==6)=false:=by simpa using λh=>sS (.inl h)
  have eY:(x.j'==8)=false:=by simpa using λh=>sS (.inr h)
  go_wp2;go_returns;exact⟨by rw[bW.o,ao sS];rfl,pM.o _⟩
end
def h3{N w g n cap l u}(h:db N w u l)(hu:u= .slice (some ⟨g,0,none⟩) n cap){k}(U:k<D l):aG w ⟨g,k,none⟩=some (.string (str (Y l k []))):=by
 have T:w.ownsRow N 9 1 u (D l) (l.map λx=>mm (str x)):=h;subst hu;have ax:n=D l:=by
  obtain⟨aH,_⟩|⟨h5,ka,cur,hu,_⟩:=T.2
  .cases aH
  .cases hu;rfl
 subst ax;have hc:=tH T k J;rw[hc,lW,cE U];simp[cd,cE U]
def db.max{N w l u}(h:db N w u l):D l<=9223372036854775807:=by have:=wu h;unfold dc at this;omega
def X2{N N' w u v l}(R:db N w u l)(T:db N' w v l):aY 7 #[u,v] w λe w'=>e= .returned (.bool true)/\ ∃n,w'=w.drewN n:=by
 obtain⟨a1,bq,rfl⟩:=eR R rfl;obtain⟨a2,cK,rfl⟩:=eR T rfl;have hm:=R.max;have H1:=A R;have gR:=A T;clear R T;go_in;go_wp2;go_loopw[5] (λi dN=> ∃j:Nat,j<=D l/\i= j/\Hid (∃n,dN=w.drewN n)) (λi _=>D l-(intOf i).toNat)
 case atStart=>exact⟨0,by omega,rfl,A ⟨0,rfl⟩⟩
 case round=>
  obtain⟨j,bg,rfl,br⟩:=hrel;obtain⟨n,rfl⟩:=br.o;by_cases bN:j<D l
  .obtain⟨o,aok,bX⟩:=dR H1.o J;cases bX;obtain⟨aoj,aol,ae0⟩:=dR gR.o J;cases ae0;have bp:=h3 H1.o rfl bN;have apY:=h3 gR.o rfl bN;have⟨nT,L4⟩:(0:Int)<=j/\(j:Int)<D l:=J;generalize Y l j []=x at*;go_wp2_with fail;go_quiet (fail)
   go_wp2;go_roundw
   case rel=>exact⟨j+1,by omega,by go_num,A ⟨n+nq,rfl⟩⟩
   case measure=>simp[intOf];omega
  .go_wp2;go_returns;exact⟨rfl,n,rfl⟩
def cv (s t:List UInt8):Bool:=decide (D t<=D s)&&(s.take (D t)==t)
def abx(s:List UInt8)(n):((str s).extract 0 n).toList=s.take n:=by rw[fC];simp[aC,str,ByteArray.data_extract]
def sH(s t:List UInt8)(w:ai):aY 128 #[s,t] w λe w'=>e= .returned (.bool (cv s t))/\w'=w:=by
 by_cases h:D t<=D s
 .have cP:Hid (cv s t=(((str s).extract 0 (str t).size).toList==(str t).toList)):=A (by
   unfold cv;rw[abx,js,fC,f_,ri h,Bool.true_and])
  have ay:(D t:Int)<=D s:=J;have hz:(str t).size<=(str s).size:=by rw[js,js];exact h
  go_in;go_wp2;go_returns;exact⟨by rw[cP.o];rfl,rfl⟩
 .have cP:Hid (cv s t=false):=A (by unfold cv;rw[oJ h,Bool.false_and]);have hz: ¬(str t).size<=(str s).size:=by rw[js,js];exact h
  go_in;go_wp2;go_returns;exact⟨by rw[cP.o];rfl,rfl⟩
def c7 (L:List aP)(j':Int)(name:List UInt8):Int:=match L.findIdx? (λn=>n.j'==j'&&n.O==name) with|some k=>(k:Int)|none=> -1
def aao{L j' name j x}(h:L[j]?=some x)(aF:(x.j'==j'&&x.O==name)=true)(ax: ∀(i:Nat) (y:aP),i<j->L[i]?=some y->(y.j'==j'&&y.O==name)=false):c7 L j' name=(j:Int):=by obtain⟨bg,rfl⟩:=List.getElem?_eq_some_iff.1 h;unfold c7;rw[List.findIdx?_eq_some_iff_getElem.2 ⟨bg,aF,λi ay=>by simp[ax i _ ay (cE J)]⟩]
def ak3{L j' name}(ax: ∀(i:Nat) (y:aP),L[i]?=some y->(y.j'==j'&&y.O==name)=false):c7 L j' name= -1:=by
 unfold c7;rw[List.findIdx?_eq_none_iff.2 λy bx=>by
  obtain⟨i,ay⟩:=List.getElem?_of_mem bx;exact ax i y ay]
def F9{L E N w v}(cZ:Hid (L=E.map (·.1)))(bQ:iJ N w v E)(j':Int)(name):aY 11 #[v,.int .i64 j',.string (str name)] w λe w'=>e= .returned (.int .i64 (c7 L j' name))/\w'=w:=by
 have hm:=wu bQ.row;unfold dc at hm;obtain⟨bb,aQ,rfl⟩:=eR bQ.row rfl;have cM:=A bQ;clear bQ;go_in;go_wp2;go_loopw[7] (λi dN=> ∃j:Nat,j<=D E/\i= j/\Hid (dN=w)/\Hid (∀(i:Nat) (y:aP),i<j->L[i]?=some y->(y.j'==j'&&y.O==name)=false)) (λi _=>D E-(intOf i).toNat)
 case atStart=>exact⟨0,by omega,rfl,A rfl,A λi y ay=>absurd ay (Nat.not_lt_zero _)⟩
 case round=>
  obtain⟨j,bg,rfl,hd,ep⟩:=hrel;obtain rfl:=hd.o;by_cases bN:j<D E
  .obtain⟨⟨x,u⟩,aF⟩: ∃x,E[j]?=some x:=⟨_,cE bN⟩;have gj:L[j]?=some x:=(by rw[cZ.o,lW,aF];rfl);obtain⟨g,cap,aB⟩:=dR cM.o.row J;cases aB;obtain⟨bO,_,_,c3,_⟩:=n_ cM.o rfl aF;have⟨nT,L4⟩:(0:Int)<=j/\(j:Int)<D E:=J;dsimp only at bO c3;have xc:=A gj;clear gj;cases U:(x.j'==j') with
   |false=>
    go_wp2;go_roundw
    case rel=>exact⟨j+1,by omega,by go_num,A bT,A λi y ay bx=>by
     by_cases e:i<j
     .exact ep.o i y e bx
     .obtain rfl:i=j:=J;rw[xc.o] at bx;cases bx;rw[U,Bool.false_and]⟩
    case measure=>simp[intOf];omega
   |true=>
    cases bI:((str x.O).toList==(str name).toList) with
    |false=>
     go_wp2;go_roundw
     case rel=>exact⟨j+1,by omega,by go_num,A bT,A λi y ay bx=>by
      by_cases e:i<j
      .exact ep.o i y e bx
      .obtain rfl:i=j:=J;rw[xc.o] at bx;cases bx;rw[fC,fC,f_,f_] at bI;rw[bI,Bool.and_false]⟩
     case measure=>simp[intOf];omega
    |true=>
     have bB:c7 L j' name=(j:Int):=aao xc.o (by rw[fC,fC,f_,f_] at bI;rw[U,bI];rfl) ep.o;have hq:=A bB;clear bB;go_wp2;go_returns;exact⟨by rw[hq.o];rfl,rfl⟩
  .have bB:c7 L j' name= -1:=ak3 λi y bx=>ep.o i y (by
    have:=(List.getElem?_eq_some_iff.1 bx).1;rw[cZ.o,h2] at this;omega) bx
   have hq:=A bB;clear bB;go_wp2;go_returns;exact⟨by rw[hq.o];rfl,rfl⟩
def lu (a b:List UInt8):Bool:=Op.bytesLess a b
def k1 (s:List UInt8):List (List UInt8)->List (List UInt8)
 |[]=>[s]
 |x::r=>if lu s x then s::x::r else x::k1 s r
def abt{s l}(x)(h:l.any (lu s)=true):k1 s (l++[x])=k1 s l++[x]:=by
 induction l with
 |nil=>cases h
 |cons y r cB=>
  show(if lu s y then s::y::(r++[x]) else y::k1 s (r++[x]))=(if lu s y then s::y::r else y::k1 s r)++[x];cases bx:lu s y with
  |true=>rfl
  |false=>
   rw[List.any_cons,bx,Bool.false_or] at h;rw[ao aN,ao aN,cB h];rfl
def abu{s l x}(h:l.any (lu s)=false)(aF:lu s x=true):k1 s (l++[x])=l++[s]++[x]:=by
 induction l with
 |nil=>show(if lu s x then s::[x] else x::[s])=_;rw[aF];rfl
 |cons y r cB=>
  rw[List.any_cons,xE] at h;show(if lu s y then s::y::(r++[x]) else y::k1 s (r++[x]))=_;rw[h.1,ao aN,cB h.2];rfl
def aan{s l}(h:l.any (lu s)=false):k1 s l=l++[s]:=by
 induction l with
 |nil=>rfl
 |cons y r cB=>
  rw[List.any_cons,xE] at h;show(if lu s y then s::y::r else y::k1 s r)=_;rw[h.1,ao aN,cB h.2];rfl
def Qy(s:List UInt8)(l:List (List UInt8)):D (k1 s l)=D l+1:=by
 induction l with
 |nil=>rfl
 |cons y r cB=>
  show(if lu s y then s::y::r else y::k1 s r).length=_;split
  .rfl
  .rw[iq,cB];rfl
def qL (s:List UInt8)(l:List (List UInt8))(j:Nat):List (List UInt8):=if(l.take j).any (lu s) then k1 s (l.take j) else l.take j
def abv(s:List UInt8)(l:List (List UInt8))(j):D (qL s l j)<=D l+1:=by
 unfold qL;split
 .rw[Qy,mr];omega
 .rw[mr];omega
def F'{l:List (List UInt8)}{j:Nat}(h:j<D l):l.take (j+1)=l.take j++[Y l j []]:=by rw[p3,cE h];simp[cd,cE h]
def abw{s l j}(h:j<D l):(l.take (j+1)).any (lu s)=((l.take j).any (lu s)||lu s (Y l j [])):=by rw[F' h,List.any_append];simp
def Wo{N w u s l}(bQ:db N w u l)(hl:D l<=100000000000):aY 201 #[u,.string (str s)] w λe w'=> ∃v,e= .returned v/\db w.heap.size w' v (k1 s l)/\aL w w w':=by
 obtain⟨bb,aQ,rfl⟩:=eR bQ rfl;have cM:=A bQ;clear bQ;go_in;go_wp2_with fail;go_loopg[5,6,7] (D l) (λr o d i wr=> ∃(j:Nat) (gM:Option Addr) (jq:Nat),j+r=D l/\o= .slice gM (D (qL s l j)) jq/\d= .bool ((l.take j).any (lu s))/\i= j/\Hid (aL w w wr)/\Hid (db w.heap.size wr (.slice gM (D (qL s l j)) jq) (qL s l j)))
 case atStart=>exact⟨0,none,0,by omega,rfl,rfl,rfl,A (aT _ _),A (n7 _ _ _ _)⟩
 case round=>
  obtain⟨j,gM,jq,bg,rfl,rfl,rfl,bh,eX⟩:=hrel;have RH:Hid (db N wr (bb,D l,aQ) l):=A (fZ cM.o bh.o λk U=>(eI cM.o k U).2);have Sp:=abv s l j;by_cases cr:j<D l
  .have kM:(j:Int)<(D l:Int):=(by omega);have me:(0:Int)<=(j:Int):=(by omega);obtain⟨g,cap,aB⟩:=dR RH.o (by omega);cases aB;have bO:=h3 RH.o rfl cr;have zY:Hid (∀w',aL w w w'->aG w' (g,j)=some [Y l j []]):=A λw' G=>h3 (fZ cM.o G λk U=>(eI cM.o k U).2) rfl cr;have hK:IntKind.i64.wrap ((j:Int)+1)=(j:Int)+1:=dI _ (by omega);have rF:=A (F' cr);have Es:=A (abw (s:=s) cr);generalize Y l j []=x at*;obtain⟨tD,h9⟩: ∃tD,tD=qL s l j:=⟨_,rfl⟩;rw[<-h9] at eX Sp|-;cases bB:(l.take j).any (lu s) with
   |true=>
    have ep:Hid (qL s l (j+1)=tD++[x]):=A (by rw[h9];unfold qL;rw[Es.o,bB,Bool.true_or,aS rfl,aS rfl,rF.o,abt _ bB]);have hq:Hid ((l.take (j+1)).any (lu s)=true):=A (by rw[Es.o,bB,Bool.true_or]);clear h9 bB;go_wp2_with(at_builtin;refine vv x (by omega) bh.o.size eX.o (λjE og a6 fT di=>?_);have jm:=A fT;have hk:=A di;clear fT di)
    go_wp2;go_roundg (l.length-j- 1)
    case rel=>exact⟨j+1,some ⟨jE,0,none⟩,og,by omega,by rw[ep.o,dW];rfl,by rw[hq.o],by simp,A (bh.o.trans hk.o),A (by have h:=jm.o;rw[ep.o,dW];exact h)⟩
    case measure=>omega
   |false=>
    have RA:Hid (tD=l.take j):=A (by rw[h9];unfold qL;rw[bB,ao (by decide)]);cases aF:lu s x with
    |true=>
     have G:Op.bytesLess (str s).toList (str x).toList=true:=(by rw[fC,fC,f_,f_];exact aF);have ep:Hid (qL s l (j+1)=tD++[s]++[x]):=A (by unfold qL;rw[Es.o,bB,aF,Bool.false_or,aS rfl,rF.o,abu bB aF,RA.o]);have hq:Hid ((l.take (j+1)).any (lu s)=true):=A (by rw[Es.o,aF,Bool.or_true]);have SU:(tD++[s]).length<=1000000000000:=(by rw[dW];simp;omega);have Me:=A SU;clear h9 bB aF SU;go_wp2_with(first|(at_builtin;refine vv s (by omega) bh.o.size eX.o (λjE og a6 fT di=>?_);have jm:=A fT;have hk:=A (bh.o.trans di);have AQ:=zY.o _ hk.o;clear fT di)|(at_builtin;refine vv x Me.o hk.o.size jm.o (λg9 aeR cp UR kb=>?_);have Zj:=A UR;have tg:=A (hk.o.trans kb);clear UR kb))
     go_wp2;go_roundg (l.length-j- 1)
     case rel=>exact⟨j+1,some ⟨g9,0,none⟩,aeR,by omega,by rw[ep.o,dW];simp,by rw[hq.o],by simp,A tg.o,A (by have h:=Zj.o;rw[ep.o,dW];exact h)⟩
     case measure=>omega
    |false=>
     have G:Op.bytesLess (str s).toList (str x).toList=false:=(by rw[fC,fC,f_,f_];exact aF);have hq:Hid ((l.take (j+1)).any (lu s)=false):=A (by rw[Es.o,bB,aF];rfl);have ep:Hid (qL s l (j+1)=tD++[x]):=A (by unfold qL;rw[hq.o,ao (by decide),rF.o,RA.o]);clear h9 bB aF;go_wp2_with(at_builtin;refine vv x (by omega) bh.o.size eX.o (λjE og a6 fT di=>?_);have jm:=A fT;have hk:=A di;clear fT di)
     go_wp2;go_roundg (l.length-j- 1)
     case rel=>exact⟨j+1,some ⟨jE,0,none⟩,og,by omega,by rw[ep.o,dW];rfl,by rw[hq.o],by simp,A (bh.o.trans hk.o),A (by have h:=jm.o;rw[ep.o,dW];exact h)⟩
     case measure=>omega
  .obtain rfl:j=l.length:=(by omega);have kM: ¬(l.length:Int)<(l.length:Int):=(by omega);have Mf:Hid (l.take l.length=l):=A mM;obtain⟨tD,h9⟩: ∃tD,tD=qL s l l.length:=⟨_,rfl⟩;rw[<-h9] at eX Sp|-;rw[Mf.o];cases bB:l.any (lu s) with
   |true=>
    have ep:Hid (k1 s l=tD):=A (by rw[h9];unfold qL;rw[Mf.o,bB,aS rfl]);clear h9 bB;go_wp2;go_returns;exact⟨_,rfl,by rw[ep.o];exact eX.o,bh.o⟩
   |false=>
    have ep:Hid (k1 s l=tD++[s]):=A (by rw[h9];unfold qL;rw[Mf.o,bB,ao (by decide),aan bB]);clear h9 bB;go_wp2_with(at_builtin;refine vv s (by omega) bh.o.size eX.o (λjE og a6 fT di=>?_);have jm:=A fT;have hk:=A di;clear fT di)
    go_wp2;go_returns;exact⟨_,rfl,by rw[ep.o];exact jm.o,bh.o.trans hk.o⟩
def qd (L:List aP)(i:Nat):List UInt8:=(Y L i eD).O++32::B.O L ((Y L i eD).I.getD 0 0)
def my (L:List aP)(typ:List UInt8)(n:aP):List (List UInt8):=
 if n.j'=14 then(if B.O L (Y n.I 0 0)=typ then[n.O++32::B.O L (Y n.I 1 0)] else[]) else if n.j'=12/\n.O=typ then n.I.map (qd L) else[]
def gv (L:List aP)(typ:List UInt8):List (List UInt8):=L.flatMap (my L typ)
def fw (l:List (List UInt8)):List (List UInt8):=l.foldl (λa s=>k1 s a) []
def QY(l:List (List UInt8))(s:List UInt8):fw (l++[s])=k1 s (fw l):=by unfold fw;rw[List.foldl_append];rfl
def Gw(l:List (List UInt8)):D (fw l)=D l:=by
 have: ∀(l d':List (List UInt8)),D (l.foldl (λa s=>k1 s a) d')=D d'+D l:=by
  intro l
  induction l with
  |nil=>intro d';rfl
  |cons x r cB=>intro d';rw[List.foldl_cons,cB,Qy,iq];omega
 have h:=this l [];simpa[fw] using h
def aam{L typ n K}(ab:1<=K)(h:D n.I<=K):D (my L typ n)<=K:=by
 unfold my;split
 .split
  .exact ab
  .exact gp _
 .split
  .rw[h2];exact h
  .exact gp _
def J9{L:List aP}{typ}{K:Nat}(ab:1<=K)(h: ∀n∈L,D n.I<=K)(k:Nat):D ((L.take k).flatMap (my L typ))<=k*K:=by
 have: ∀l:List aP,(∀n∈l,D n.I<=K)->D (l.flatMap (my L typ))<=D l*K:=by
  intro l
  induction l with
  |nil=>intro _;exact gp _
  |cons x r cB=>
   intro hl;have R:=aam (L:=L) (typ:=typ) ab (hl x (hY ..));have T:=cB λn ax=>hl n (hP _ ax);rw[u',dW,iq,Nat.succ_mul];omega
 have R:=this (L.take k) λn ax=>h n (List.mem_of_mem_take ax);have T:D (L.take k)*K<=k*K:=Nat.mul_le_mul_right _ (by rw[mr];exact Nat.min_le_left _ _);omega
def Qz{L typ k x}(h:L[k]?=some x):(L.take (k+1)).flatMap (my L typ)=(L.take k).flatMap (my L typ)++my L typ x:=by rw[p3,h,xG];simp
def abr{L:List aP}{j':Int}{name:List UInt8}{k:Nat}{x:aP}(h:L[k]?=some x)(R:x.j'=j')(T:x.O=name):0<=c7 L j' name:=by
 unfold c7;cases a_:L.findIdx? (λn=>n.j'==j'&&n.O==name) with
 |some k=>exact Int.natCast_nonneg k
 |none=>
  rw[List.findIdx?_eq_none_iff] at a_;have:=a_ x (hX h);rw[R,T] at this;simp at this
def V0{l r a b}(h:l=a::b::r):Y l 0 0=a/\Y l 1 0=b:=by subst h;exact⟨rfl,rfl⟩
section
variable{L:List aP}{E:List (aP×af)}{N:Nat}
def OB{w v}(hd:Hid (B.h1 L))(cC:Hid (∀k,D (B.O L k)<=100000000000))(cZ:Hid (L=E.map (·.1)))(dj:Hid (∀n∈L,D n.O<=100000000000/\D n.I<=1000000))(dp:D E<=10000)(bQ:iJ N w v E)(typ):
  aY 171 #[v,.string (str typ)] w λe w'=> ∃u,e= .returned u/\db w.heap.size w' u (fw (gv L typ))/\aL w w w':=by
 have YX:Hid (D L=D E):=A (by rw[cZ.o,h2]);obtain⟨gX,cA,rfl⟩:=eR bQ.row rfl;have lJ:Hid (∀w',aL w w w'->iJ N w' (gX,D E,cA) E):=A λw' G=>bQ.vf G;have qT:=A (F9 cZ bQ 12 typ);clear bQ;go_in;have Go:=0;go_wp2;refine qT.o.mono ?_;rintro e w0 ⟨rfl,rfl⟩;obtain⟨RR,Mu⟩: ∃bp,bp=c7 L 12 typ:=⟨_,rfl⟩;rw[<-Mu];have YK:=A Mu;clear Mu qT;obtain⟨bP,ev⟩: ∃f:Nat->List (List UInt8),f=λk=>fw ((L.take k).flatMap (my L typ)):=⟨_,rfl⟩;have YW:Hid (∀k,k<=D E->D (bP k)<=10000000000):=A λk U=>by
  rw[ev];dsimp only;rw[Gw];have:=J9 (typ:=typ) (K:=1000000) aN (λn ax=>(dj.o n ax).2) k;omega
 have Yn:Hid (∀k x,L[k]?=some x->bP (k+1)=fw ((L.take k).flatMap (my L typ)++my L typ x)):=A λk x aF=>by rw[ev];dsimp only;rw[Qz aF]
 have cz:=A ev;have Mv:Hid (bP 0=[]):=A (by rw[ev];rfl);have Ym:Hid (bP (D E)=fw (gv L typ)):=A (by rw[ev];dsimp only;rw[<-YX.o,mM];rfl);clear ev;go_wp2;go_loopg[5,7] (D E) (λr o i wr=> ∃(k:Nat) (gM:Option Addr) (jq:Nat),k+r=D E/\o= .slice gM (D (bP k)) jq/\i= k/\Hid (aL w0 w0 wr)/\Hid (db w0.heap.size wr (.slice gM (D (bP k)) jq) (bP k)))
 case atStart=>exact⟨0,none,0,by omega,by rw[Mv.o];rfl,rfl,A (aT _ _),A (by rw[Mv.o];exact n7 _ _ _ _)⟩
 case round=>
  obtain⟨k,gM,jq,U,rfl,rfl,bh,eX⟩:=hrel;generalize wr=gN at*;have Ia:=YW.o k J;by_cases uk:k<D E
  .have⟨hv,hi⟩:(k:Int)<D E/\(0:Int)<=k:=J;have hK:IntKind.i64.wrap (k+1)=k+1:=dI _ J;obtain⟨⟨x,u⟩,aF⟩: ∃x,E[k]?=some x:=⟨_,cE uk⟩;have gj:L[k]?=some x:=(by rw[cZ.o,lW,aF];rfl);have br:=A (hd.o k x gj);have sn:=A (dj.o x (hX gj));have xc:=A gj;have iC:=A (Yn.o k x gj);have uw:=A (lJ.o _ bh.o);obtain⟨g,cap,aB⟩:=dR uw.o.row J;cases aB;obtain⟨bO,bq,cK,c3,c4⟩:=n_ uw.o rfl aF;have je:(x,u)∈E:=hX aF;have jN:Hid (∀w',aL w0 w0 w'->jC N w' u x.I):=A λw' G=>(lJ.o w' G).I _ je;dsimp only at bO bq cK c3 c4;obtain⟨bb,aQ,rfl⟩:=eR (jN.o _ bh.o) rfl;clear aF gj je;have qU:Hid (∀o,aL w0 w0 (aA gN o)):=A λo=>bh.o.trans ((aT _ _).alloc (by have:=bh.o.size;omega) o);have nQ:=A (ek gN (hb x bb aQ));have c1:=A (qU.o (hb x bb aQ));have h':Hid (db w0.heap.size (aA gN (hb x bb aQ)) (.slice gM (D (bP k)) jq) (bP k)):=A (sD eX.o _);have L9:gN.heap.size<(aA gN (hb x bb aQ)).heap.size:=bT;by_cases nY:x.j'=14
   .have xd:(x.j'==14)=true:=(by simp[nY]);have xe:(x.j'==12)=false:=(by simp[nY]);obtain⟨a,b,rest,qV,_⟩:=br.o.self nY;have x_:=V0 qV;have iL:2<=D x.I:=(by rw[qV];simp);have⟨dG,gq⟩:(0:Int)<D x.I/\(1:Int)<D x.I:=J;obtain⟨g2,qW,hF⟩:=dR (jN.o _ bh.o) J;cases hF;have vu:Hid (∀w',aL w0 w0 w'->aG w' g2=some [a]/\aG w' (g2,1)=some [b]):=A λw' G=>⟨by rw[nj (jN.o w' G) rfl (show 0<D x.I by omega),x_.1],by rw[nj (jN.o w' G) rfl (show 1<D x.I by omega),x_.2]⟩;have L':a<k:=br.o.lt a (by rw[qV];simp);have Ib:b<k:=br.o.lt b (by rw[qV];simp);have Eo:Hid (my L typ x=if B.O L a=typ then[x.O++32::B.O L b] else[]):=A (by unfold my;rw[aS nY,x_.1,x_.2]);clear qV x_ nY;obtain⟨ag,_⟩:=vu.o _ c1.o;go_wp2;refine b7 (JC hd cC cZ a _ _ (lJ.o _ c1.o) J) λw2 b8=>?_;have cN:=A (c1.o.trans (b8.mono c1.o.size));have l_:Hid (db w0.heap.size w2 (.slice gM (D (bP k)) jq) (bP k)):=A (fZ h'.o b8 λk U=>(eI h'.o k U).2);have t_:=A (ds nQ.o b8 (bd nQ.o));clear b8 ag;obtain⟨_,aE⟩:=vu.o _ cN.o;have b':=az t_.o 0;have da:=az t_.o 3;have dQ:=az t_.o 4;have b9:=bd t_.o;simp only[cO,cQ,c8] at b' da dQ;cases bI:((str (B.O L a)).toList==(str typ).toList) with
    |true=>
     have bW:Hid (bP (k+1)=k1 (x.O++32::B.O L b) (bP k)):=A (by
      rw[fC,fC,f_,f_] at bI;rw[iC.o,Eo.o,aS (eq_of_beq bI),QY,cz.o])
     have Gx:=sn.o.1;have dD:=cC.o b;have s1: ∀w,(nD .add (str x.O) ⟨#[32]⟩).run prog w= .ok [x.O++[32]] w:=λw=>nn _ [32] _ w rfl (by rw[dW];show D x.O+1<=_;omega);have s2: ∀w,(nD .add (str (x.O++[32])) (str (B.O L b))).run prog w= .ok [x.O++32::B.O L b] w:=λw=>nn _ _ _ w (oH _ _ _) (by rw[dW,iq];omega);go_wp2;refine b7 (JC hd cC cZ b _ _ (lJ.o _ cN.o) J) λbc e0=>?_;have fu:=A (cN.o.trans (e0.mono cN.o.size));have nz:Hid (db w0.heap.size bc (.slice gM (D (bP k)) jq) (bP k)):=A (fZ l_.o e0 λk U=>(eI l_.o k U).2);have zw:=A (ds t_.o e0 (bd t_.o));clear e0 b' da dQ b9;have b':=az zw.o 0;have da:=az zw.o 3;have dQ:=az zw.o 4;have b9:=bd zw.o;simp only[cO,cQ,c8] at b' da dQ;go_wp2;refine(Wo nz.o J).mono ?_;rintro e bS ⟨v4,rfl,Ep,o5⟩;have iO:=A (fu.o.trans (o5.mono fu.o.size));have tk:Hid (db w0.heap.size bS v4 (bP (k+1))):=A (by rw[bW.o];exact qE Ep fu.o.size);have zx:=A (ds zw.o o5 (bd zw.o));clear o5 Ep b' da dQ b9;have b':=az zx.o 0;have da:=az zx.o 3;have dQ:=az zx.o 4;have b9:=bd zx.o;simp only[cO,cQ,c8] at b' da dQ;obtain⟨u4,L_,rfl⟩:=eR tk.o rfl;go_wp2;go_roundg (D E-k- 1)
     case rel=>exact⟨k+1,u4,L_,by omega,rfl,by simp,iO,tk⟩
     case measure=>omega
    |false=>
     have bW:Hid (bP (k+1)=bP k):=A (by
      rw[fC,fC,f_,f_] at bI;rw[iC.o,Eo.o,ao (by simpa using bI),lU,cz.o])
     have tk:Hid (db w0.heap.size w2 (.slice gM (D (bP (k+1))) jq) (bP (k+1))):=A (by rw[bW.o];exact l_.o);go_wp2;go_roundg (D E-k- 1)
     case rel=>exact⟨k+1,gM,jq,by omega,by rw[bW.o],by simp,cN,tk⟩
     case measure=>omega
   have xd:(x.j'==14)=false:=(by simpa using nY);by_cases mF:x.j'=12
   .have xe:(x.j'==12)=true:=(by simp[mF]);cases bI:((str x.O).toList==(str typ).toList) with
    |true=>
     have ux:x.O=typ:=by
      have h:=bI;rw[fC,fC,f_,f_] at h;exact eq_of_beq h
     have CQ:(0:Int)<=RR:=(by rw[YK.o];exact abr xc.o mF ux);obtain⟨V,bY⟩: ∃f:Nat->List (List UInt8),f=λi=>fw ((L.take k).flatMap (my L typ)++(x.I.take i).map (qd L)):=⟨_,rfl⟩;have lP:Hid (V 0=bP k):=A (by rw[bY,cz.o];simp);have Rc:Hid (V (D x.I)=bP (k+1)):=A (by rw[iC.o,bY];dsimp only;rw[mM];unfold my;rw[ao nY,aS ⟨mF,ux⟩]);have Yp:Hid (∀i,i<D x.I->V (i+1)=k1 (qd L (Y x.I i 0)) (V i)):=A λi ay=>by
      rw[bY];dsimp only;rw[p3,cE ay,rX,<-oH];simp only[Option.toList_some,List.map_cons,List.map_nil];rw[QY];simp[cd,cE ay]
     have qi:Hid (∀i,i<=D x.I->D (V i)<=20000000000):=A λi ay=>by
      rw[bY];dsimp only;rw[Gw,dW,h2,mr];have:=J9 (typ:=typ) (K:=1000000) aN (λn ax=>(dj.o n ax).2) k;have:=sn.o.2;omega
     have Ma:Hid (∀j,j∈x.I->(Y L j eD).I≠[]):=A (br.o.ms mF);have pj:=A br.o.lt;clear bY ux mF nY;go_wp2;generalize(aA gN (hb x bb aQ))=w1 at nQ c1 h' L9|-;clear bO bq cK c3 c4;have agc:Hid (db w0.heap.size w1 (.slice gM (D (V 0)) jq) (V 0)):=A (by rw[lP.o];exact h'.o);go_loopg[5,11] (D x.I) (λr o i wr=> ∃(j:Nat) (gM:Option Addr) (jq:Nat),j+r=D x.I/\o= .slice gM (D (V j)) jq/\i= j/\Hid (aL w0 w0 wr)/\Hid (aL w1 w1 wr)/\Hid (db w0.heap.size wr (.slice gM (D (V j)) jq) (V j)))
     case atStart=>exact⟨0,gM,jq,by omega,by rw[lP.o],rfl,c1,A (aT _ _),agc⟩
     case round=>
      obtain⟨j,BX,Ic,bg,rfl,rfl,ov,Mb,ym⟩:=hrel;generalize wr=bH at*;have Ly:=A (ds nQ.o Mb.o (bd nQ.o));have so:=qi.o j J;have b':=az Ly.o 0;have dQ:=az Ly.o 4;have b9:=bd Ly.o;simp only[cO,cQ,c8] at b' dQ;by_cases cr:j<D x.I
      .have⟨kM,me⟩:(j:Int)<D x.I/\(0:Int)<=j:=J;have Mc:=sn.o.2;have ti:IntKind.i64.wrap (j+1)=j+1:=dI _ J;obtain⟨g2,qW,hF⟩:=dR (jN.o _ ov.o) J;cases hF;have mD:=nj (jN.o _ ov.o) rfl cr;have vW:=pj.o _ (pw cr);have xf:=Ma.o _ (pw cr);have td:=Yp.o j cr;obtain⟨a,fB⟩: ∃a,Y x.I j 0=a:=⟨_,rfl⟩;rw[fB] at mD vW xf td;clear fB;obtain⟨⟨y,Bj⟩,bx⟩: ∃y,E[a]?=some y:=⟨_,cE J⟩;have qX:L[a]?=some y:=(by rw[cZ.o,lW,bx];rfl);have ya:qd L a=y.O++32::B.O L (Y y.I 0 0):=(by unfold qd;rw[mO qX]);rw[mO qX] at xf;have YF:=A (dj.o y (hX qX));have Y6:=A (lJ.o _ ov.o);obtain⟨d0,d1,d2,d3,d4⟩:=n_ Y6.o rfl bx;have xg:(y,Bj)∈E:=hX bx;have Rt:Hid (∀w',aL w0 w0 w'->jC N w' Bj y.I):=A λw' G=>(lJ.o w' G).I _ xg;dsimp only at d0 d1 d2 d3 d4;have nR:0<D y.I:=List.length_pos_iff.2 xf;obtain⟨g3,vH,iD⟩:=dR (Rt.o _ ov.o) J;subst iD;have yj:=(hd.o a y qX).lt _ (pw nR);have ajC:(0:Int)<D y.I:=J;have SQ:Hid (∀o,aL w0 w0 (aA bH o)):=A λo=>ov.o.trans ((aT _ _).alloc (by have:=ov.o.size;omega) o);have U0: ∀o,aG (aA bH o) g3=some [((Y y.I 0 0:Nat):Int)]:=λo=>nj (Rt.o _ (SQ.o o)) rfl nR;obtain⟨c,qR⟩: ∃c,Y y.I 0 0=c:=⟨_,rfl⟩;rw[qR] at ya yj;simp only[qR] at U0;clear qR xf bx qX xg;have⟨HK,SR⟩:(a:Int)<D E/\(0:Int)<=a:=J;have Rx:=A (ek bH (aw #[y.j',y.an,y.aX,y.O,(g3,D y.I,vH)] 53));have Md:=A (SQ.o (aw #[y.j',y.an,y.aX,y.O,(g3,D y.I,vH)] 53));have Rw:Hid (db w0.heap.size (aA bH (aw #[y.j',y.an,y.aX,y.O,(g3,D y.I,vH)] 53)) (.slice BX (D (V j)) Ic) (V j)):=A (sD ym.o _);have Er:Hid (aL w1 w1 (aA bH (aw #[y.j',y.an,y.aX,y.O,(g3,D y.I,vH)] 53))):=A (Mb.o.trans ((aT _ _).alloc (by have:=Mb.o.size;omega) _));have ama:bH.heap.size<(aA bH (aw #[y.j',y.an,y.aX,y.O,(g3,D y.I,vH)] 53)).heap.size:=bT;go_wp2;refine b7 (JC hd cC cZ c _ _ (lJ.o _ Md.o) J) λw2 b8=>?_;have cN:=A (Md.o.trans (b8.mono Md.o.size));have l_:Hid (db w0.heap.size w2 (.slice BX (D (V j)) Ic) (V j)):=A (fZ Rw.o b8 λk U=>(eI Rw.o k U).2);have SS:=A (ds Rx.o b8 (bd Rx.o));have vr:=A (Er.o.trans (b8.mono Er.o.size));clear b8 U0 mD d0 d1 d2 d3 d4 b' dQ b9;have da:=az SS.o 3;have b9:=bd SS.o;simp only[cO,cQ,c8] at da;have Gx:=YF.o.1;have dD:=cC.o c;have s1: ∀w,(nD .add (str y.O) ⟨#[32]⟩).run prog w= .ok [y.O++[32]] w:=λw=>nn _ [32] _ w rfl (by rw[dW];show D y.O+1<=_;omega);have s2: ∀w,(nD .add (str (y.O++[32])) (str (B.O L c))).run prog w= .ok [qd L a] w:=λw=>nn (y.O++[32]) (B.O L c) (qd L a) w (by rw[ya];simp) (by rw[ya,dW,iq];omega);clear ya;go_wp2;refine(Wo l_.o J).mono ?_;rintro e bS ⟨v4,rfl,Ep,o5⟩;have iO:=A (cN.o.trans (o5.mono cN.o.size));have Zk:=A (vr.o.trans (o5.mono vr.o.size));have tk:Hid (db w0.heap.size bS v4 (V (j+1))):=A (by rw[td];exact qE Ep cN.o.size);clear o5 Ep da b9 td;obtain⟨u4,L_,rfl⟩:=eR tk.o rfl;go_wp2;go_roundg (D x.I-j- 1)
       case rel=>exact⟨j+1,u4,L_,by omega,rfl,by simp,iO,Zk,tk⟩
       case measure=>omega
      .obtain rfl:j=D x.I:=J;have kM: ¬(D x.I:Int)<D x.I:=J;have tk:Hid (db w0.heap.size bH (.slice BX (D (bP (k+1))) Ic) (bP (k+1))):=A (by rw[<-Rc.o];exact ym.o);go_wp2;go_roundg (D E-k- 1)
       case rel=>exact⟨k+1,BX,Ic,by omega,by rw[Rc.o],by simp,ov,tk⟩
       case measure=>omega
    |false=>
     have bW:Hid (bP (k+1)=bP k):=A (by
      rw[fC,fC,f_,f_] at bI;rw[iC.o,cz.o];unfold my;rw[ao nY,ao (λh=>by rw[h.2] at bI;simp at bI),lU])
     have tk:Hid (db w0.heap.size (aA gN (hb x bb aQ)) (.slice gM (D (bP (k+1))) jq) (bP (k+1))):=A (by rw[bW.o];exact h'.o);clear mF nY;by_cases CQ:(0:Int)<=RR
     all_goals
      go_wp2;go_roundg (D E-k- 1)
      case rel=>exact⟨k+1,gM,jq,by omega,by rw[bW.o],by simp,c1,tk⟩
      case measure=>omega
   .have xe:(x.j'==12)=false:=(by simpa using mF);have bW:Hid (bP (k+1)=bP k):=A (by
     rw[iC.o,cz.o];unfold my;rw[ao nY,ao (λh=>mF h.1),lU])
    have tk:Hid (db w0.heap.size (aA gN (hb x bb aQ)) (.slice gM (D (bP (k+1))) jq) (bP (k+1))):=A (by rw[bW.o];exact h'.o);clear mF nY;go_wp2;go_roundg (D E-k- 1)
    case rel=>exact⟨k+1,gM,jq,by omega,by rw[bW.o],by simp,c1,tk⟩
    case measure=>omega
  .obtain rfl:k=D E:=J;have hv: ¬(D E:Int)<D E:=J;go_wp2;go_returns;exact⟨_,rfl,by rw[<-Ym.o];exact eX.o,bh.o⟩
end
def iK:List UInt8:=[110,105,108]
def GG (L:List aP)(fr ty:List UInt8):Bool:=(fw (gv L ty)).all λa=>(fw (gv L fr)).any λb=>b==a
def fS (L:List aP)(fr ty:List UInt8):Bool:=
 if fr=ty then true
 else if fr=iK then cv ty [42]||cv ty [99,104,97,110,32]||cv ty [102,117,110,99,40]||decide (0<=c7 L 12 ty)
 else if c7 L 12 ty<0 then false
 else if c7 L 12 fr<0/\(cv fr [42]=false\/c7 L 10 (fr.drop 1)<0) then false
 else GG L fr ty
def AS(s:List UInt8):(str s).extract 1 (str s).size=str (s.drop 1):=by rw[js];apply ByteArray.ext;have:List.take (D s- 1) s.tail=s.tail:=u7 bT;simp[str,ByteArray.data_extract,this]
def nil_eq{a}:((str a).toList==[110,105,108])=(a==iK):=by rw[fC,f_];rfl
def mR{a b}:((str a).toList==(str b).toList)=(a==b):=by rw[fC,fC,f_,f_]
def SP{L:List aP}{E:List (aP×af)}{ty}(dj:Hid (∀n∈L,D n.O<=100000000000/\D n.I<=1000000))(cZ:Hid (L=E.map (·.1)))(dp:D E<=10000):D (fw (gv L ty))<=10000000000:=by
 rw[Gw];have:=J9 (typ:=ty) (K:=1000000) aN (λn ax=>(dj.o n ax).2) (D L);rw[mM] at this;have hl:D L=D E:=by rw[cZ.o,h2]
 unfold gv;omega
section
variable{L:List aP}{E:List (aP×af)}{N:Nat}
def aal{w v}(hd:Hid (B.h1 L))(cC:Hid (∀k,D (B.O L k)<=100000000000))(cZ:Hid (L=E.map (·.1)))(dj:Hid (∀n∈L,D n.O<=100000000000/\D n.I<=1000000))(dp:D E<=10000)(bQ:iJ N w v E)(fr ty:List UInt8):
  aY 129 #[v,fr,ty] w λe w'=>e= .returned (.bool (fS L fr ty))/\aL w w w':=by
 cases bZ:((str fr).toList==(str ty).toList) with
 |true=>
  have cP:Hid (fS L fr ty=true):=A (by rw[mR,beq_iff_eq] at bZ;unfold fS;rw[aS bZ]);go_enter GM,GN;go_wp2;go_returns;exact⟨by rw[cP.o];rfl,aT _ _⟩
 |false=>
  have aZ: ¬fr=ty:=by rw[mR] at bZ;simpa using bZ
  have qT:=A (F9 cZ bQ 12 ty);cases hN:((str fr).toList==[110,105,108]) with
  |true=>
   have jK:fr=iK:=(by rw[nil_eq,beq_iff_eq] at hN;exact hN);have cP:Hid (fS L fr ty=(cv ty [42]||cv ty [99,104,97,110,32]||cv ty [102,117,110,99,40]||decide (0<=c7 L 12 ty))):=A (by unfold fS;rw[ao aZ,aS jK]);clear aZ jK;go_enter GM,GN;go_wp2_with fail;refine qT.o.mono ?_;rintro e w0 ⟨rfl,rfl⟩;go_wp2_with fail;refine b7 (sH ty [42] _) ?_;rintro w1 rfl;go_wp2_with fail;refine b7 (sH ty [99,104,97,110,32] _) ?_;rintro w1 rfl;go_wp2_with fail;refine b7 (sH ty [102,117,110,99,40] _) ?_;rintro w1 rfl;generalize cv ty [42]=b1 at*;generalize cv ty [99,104,97,110,32]=b2 at*;generalize cv ty [102,117,110,99,40]=bC at*;cases b1<;>cases b2<;>cases bC
   all_goals
    go_wp2_with fail;go_returns;exact⟨by rw[cP.o];rfl,aT _ _⟩
  |false=>
   have jK: ¬fr=iK:=(by rw[nil_eq] at hN;simpa using hN);have cP:Hid (fS L fr ty=if c7 L 12 ty<0 then false else if c7 L 12 fr<0/\(cv fr [42]=false\/c7 L 10 (fr.drop 1)<0) then false else GG L fr ty):=A (by unfold fS;rw[ao aZ,ao jK]);clear aZ jK;have Ms:=A (F9 cZ bQ 12 fr);have Rm:=A (F9 cZ bQ 10 (fr.drop 1));generalize c7 L 12 ty=I1 at*;generalize c7 L 12 fr=I2 at*;generalize c7 L 10 (fr.drop 1)=I3 at*;by_cases R:I1<0
   .have lr:Hid (fS L fr ty=false):=A (by rw[cP.o,aS R]);go_enter GM,GN;go_wp2_with fail;refine qT.o.mono ?_;rintro e w0 ⟨rfl,rfl⟩;go_wp2;go_returns;exact⟨by rw[lr.o];rfl,aT _ _⟩
   .have cV:(I2<0/\(cv fr [42]=false\/I3<0))\/(¬(I2<0/\(cv fr [42]=false\/I3<0))/\Hid (fS L fr ty=GG L fr ty)):=by
     by_cases h:I2<0/\(cv fr [42]=false\/I3<0)
     .exact .inl h
     .exact .inr ⟨h,A (by rw[cP.o,ao R,ao h])⟩
    have hl:cv fr [42]=true->1<=D fr:=by
     cases fr with
     |nil=>simp[cv]
     |cons _ _=>simp
    generalize G:cv fr [42]=b at*;have H_:=A hl;have l7:Hid (∀w,aY 128 #[.string (str fr),.string (str [42])] w λe w'=>e= .returned (.bool b)/\w'=w):=A (by rw[<-G];exact λw=>sH fr [42] w);clear G hl;obtain⟨T,ah⟩|⟨Em,lr⟩:=cV
    .have lr:Hid (fS L fr ty=false):=A (by rw[cP.o,ao R,aS ⟨T,ah⟩]);cases b with
     |false=>
      go_enter GM,GN;go_wp2_with fail;refine qT.o.mono ?_;rintro e w0 ⟨rfl,rfl⟩;go_wp2_with fail;refine Ms.o.mono ?_;rintro e w0 ⟨rfl,rfl⟩;go_wp2_with fail;refine b7 (l7.o _) ?_;rintro w1 rfl;go_wp2;go_returns;exact⟨by rw[lr.o];rfl,aT _ _⟩
     |true=>
      have bJ:I3<0:=ah.resolve_left aN;have hl:=H_.o rfl;have e_:1<=(str fr).size:=(by rw[js];exact hl);have⟨ff,Ad⟩:(1:Int)<=((str fr).size:Int)/\(1:Int)<=D fr:=J;have br:Hid ((str fr).extract 1 (str fr).size=str (fr.drop 1)):=A (AS fr);clear ah;go_enter GM,GN;go_wp2_with fail;refine qT.o.mono ?_;rintro e w0 ⟨rfl,rfl⟩;go_wp2_with fail;refine Ms.o.mono ?_;rintro e w0 ⟨rfl,rfl⟩;go_wp2_with fail;refine b7 (l7.o _) ?_;rintro w1 rfl;go_wp2_with fail;rw[br.o];refine Rm.o.mono ?_;rintro e w1 ⟨rfl,rfl⟩;go_wp2;go_returns;exact⟨by rw[lr.o];rfl,aT _ _⟩
    .go_enter GM,GN;go_wp2_with fail;refine qT.o.mono ?_;rintro e w0 ⟨rfl,rfl⟩;go_wp2_with fail;refine Ms.o.mono ?_;rintro e w1 ⟨rfl,rfl⟩;go_upto_if 49 with fail;have cM:=A bQ;clear bQ;go_cut[11] (λj dN=>(∃iI:Int,j= .int .i64 iI)/\dN=w1)
     case first=>
      by_cases T:I2<0
      .have G:b=true:=by
        cases b with
        |true=>rfl
        |false=>exact absurd ⟨T,.inl rfl⟩ Em
       subst G;have bJ: ¬I3<0:=λh=>Em ⟨T,.inr h⟩;have hl:=H_.o rfl;have e_:1<=(str fr).size:=(by rw[js];exact hl);have⟨ff,Ad⟩:(1:Int)<=((str fr).size:Int)/\(1:Int)<=D fr:=J;have br:Hid ((str fr).extract 1 (str fr).size=str (fr.drop 1)):=A (AS fr);clear Em;go_wp2_with fail;refine b7 (l7.o _) ?_;rintro w1 rfl;go_wp2_with fail;rw[br.o];refine Rm.o.mono ?_;rintro e w1 ⟨rfl,rfl⟩;go_wp2_with fail;go_meet;exact⟨⟨_,rfl⟩,rfl⟩
      .clear Em;go_wp2_with fail;go_meet;exact⟨⟨_,rfl⟩,rfl⟩
     case rest=>
      obtain⟨⟨iI,rfl⟩,Mt⟩:=hcut;obtain rfl:w1=wc:=Mt.symm;clear Em;go_wp2_with fail;refine(OB hd cC cZ dj dp cM.o fr).mono ?_;rintro e w2 ⟨pn,rfl,vt,ck⟩;have c1:=A ck;obtain⟨a1,bq,rfl⟩:=eR vt rfl;have Ae:=SP (ty:=fr) dj cZ dp;generalize oA:fw (gv L fr)=ig at*;have h':=A vt;clear ck vt;go_wp2_with fail;refine(OB hd cC cZ dj dp (cM.o.vf c1.o) ty).mono ?_;rintro e bc ⟨rH,rfl,rJ,b8⟩;have nz:Hid (db w1.heap.size bc (a1,D ig,bq) ig):=A (fZ h'.o b8 λk U=>(eI h'.o k U).2);have fu:Hid (aL w1 w1 bc):=A (c1.o.trans (b8.mono c1.o.size));obtain⟨a2,cK,rfl⟩:=eR rJ rfl;have H4:=SP (ty:=ty) dj cZ dp;generalize o3:fw (gv L ty)=l2 at*;have l_:=A rJ;have Af:Hid (fS L fr ty=l2.all λa=>ig.any λb=>b==a):=A (by rw[lr.o,<-oA,<-o3];rfl);clear b8 rJ oA o3;go_wp2_with fail;go_loopg[15] (D l2) (λr i wr=> ∃k:Nat,k+r=D l2/\i= .int .i64 (k:Int)/\Hid (∃n,wr=bc.drewN n)/\Hid ((l2.take k).all (λa=>ig.any λb=>b==a)=true))
      case atStart=>exact⟨0,by omega,rfl,A ⟨0,rfl⟩,A rfl⟩
      case round=>
       obtain⟨k,U,rfl,br,cz⟩:=hrel;obtain⟨F_,rfl⟩:=br.o;by_cases bN:k<D l2
       .obtain⟨nS,aon,rJ⟩:=dR l_.o J;cases rJ;have z2:=h3 l_.o rfl bN;have⟨nT,L4⟩:(0:Int)<=k/\(k:Int)<D l2:=J;have hK:IntKind.i64.wrap (k+1)=k+1:=dI _ J;have rF:=A (F' bN);generalize Y l2 k []=x at*;go_wp2;go_loopg[16,17] (D ig) (λr f i wr=> ∃j:Nat,j+r=D ig/\f= .bool ((ig.take j).any λb=>b==x)/\i= .int .i64 (j:Int)/\Hid (∃n,wr=bc.drewN n))
        case atStart=>exact⟨0,by omega,rfl,rfl,A ⟨F_,rfl⟩⟩
        case round=>
         obtain⟨j,bg,rfl,rfl,p0⟩:=hrel;obtain⟨cR,rfl⟩:=p0.o;by_cases cr:j<D ig
         .obtain⟨r5,aom,vt⟩:=dR nz.o J;cases vt;have lB:=h3 nz.o rfl cr;have⟨amX,amY⟩:(0:Int)<=j/\(j:Int)<D ig:=J;have CS:IntKind.i64.wrap (j+1)=j+1:=dI _ J;have te:Hid ((ig.take (j+1)).any (λb=>b==x)=((ig.take j).any (λb=>b==x)||((str (Y ig j [])).toList==(str x).toList))):=A (by rw[F' cr,List.any_append,mR];simp);generalize Y ig j []=y at*;generalize(ig.take j).any (λb=>b==x)=V at*;cases V with
          |true=>
           go_wp2_with fail;go_quiet (fail)
           go_wp2;go_roundg (D ig-j- 1)
           case rel=>exact⟨j+1,by omega,by rw[te.o];rfl,by simp,A ⟨cR+nq,rfl⟩⟩
           case measure=>omega
          |false=>
           generalize tP:((str y).toList==(str x).toList)=C at*;cases C with
           |true=>
            go_wp2_with fail;go_quiet (fail)
            go_wp2;go_roundg (D ig-j- 1)
            case rel=>exact⟨j+1,by omega,by rw[te.o];rfl,by simp,A ⟨cR+nq,rfl⟩⟩
            case measure=>omega
           |false=>
            go_wp2_with fail;go_quiet (fail)
            go_wp2;go_roundg (D ig-j- 1)
            case rel=>exact⟨j+1,by omega,by rw[te.o];rfl,by simp,A ⟨cR+nq,rfl⟩⟩
            case measure=>omega
         .obtain rfl:j=D ig:=J;have kM: ¬(D ig:Int)<D ig:=J;rw[mM];generalize bY:ig.any (λb=>b==x)=V at*;have En:=A bY;clear bY;cases V with
          |true=>
           go_wp2;go_roundg (D l2-k- 1)
           case rel=>exact⟨k+1,by omega,by simp,A ⟨cR,rfl⟩,A (by rw[rF.o,List.all_append,cz.o];simp[En.o])⟩
           case measure=>omega
          |false=>
           have fG:Hid (fS L fr ty=false):=A (by
            rw[Af.o];have R:l2=l2.take (k+1)++l2.drop (k+1):=(xK _ _).symm;rw[R,rF.o,List.all_append,List.all_append];simp[En.o])
           go_wp2;go_returns;exact⟨by rw[fG.o];rfl,rh fu.o _⟩
       .obtain rfl:k=D l2:=J;have hv: ¬(D l2:Int)<D l2:=J;have fG:Hid (fS L fr ty=true):=A (by rw[Af.o];have:=cz.o;rw[mM] at this;exact this);go_wp2;go_returns;exact⟨by rw[fG.o];rfl,rh fu.o _⟩
end
def wm (v:af):Option (DataW af×List MemPlace):=some (.held v,[])
def Of:Option af->DataW af
 |some v=> .held v
 |none=> .nil
def Gu{a b}(h:Of a=Of b):a=b:=by cases a<;>cases b<;>cases h<;>rfl
def gb (w:ai)(b n:Nat)(m:List UInt8->Option af):Prop:= ∃E,w.ownsMap prog 9 wm b n E/\ ∀s,E.atKey (.string s) .nil=Of (m s)/\Maps.has E (.string s)=(m s).isSome
def pD (m:List UInt8->Option af)(s:List UInt8)(v:af)(x:List UInt8):Option af:=if x=s then some v else m x
def Gv:Maps.Keyed prog 9:=Maps.string_keyed underlying9
def LI{s}(h:D s<=dc):keyOf prog 9 (.string (str s))=some (.string s):=WideMaps.keyOf_string_mk (s:=str s) underlying9 (by rw[js];exact h)
section
variable{w w':ai}{b n:Nat}{m:List UInt8->Option af}
def gb.made(w:ai):gb (aA w (.map #[] 0)) w.heap.size 0 (λ_=>none):=⟨_,World.ownsMap_made w _ _ _,λ_=>⟨rfl,rfl⟩⟩
def gb.obj(h:gb w b n m): ∃es c,w.heap[b]?=some (.map es c):=by obtain⟨E,⟨es,c,G,_⟩,_⟩:=h;exact⟨es,c,G⟩
def gb.lt(h:gb w b n m):b<w.heap.size:=by obtain⟨es,c,G⟩:=h.obj;exact(Array.getElem?_eq_some_iff.1 G).1
def gb.mono(h:gb w b n m):gb w b (n+1) m:=by obtain⟨E,R,T⟩:=h;exact⟨E,R.mono (Nat.le_succ n),T⟩
def gb.move(h:gb w b n m)(G:w'.heap[b]?=w.heap[b]?):gb w' b n m:=by obtain⟨E,⟨es,c,R,T⟩,ah⟩:=h;exact⟨E,⟨es,c,G.trans R,T⟩,ah⟩
def gb.below(h:gb w b n m)(G:aL w w w'):gb w' b n m:=h.move (G.block b h.lt)
def gb.grown(h:gb w b n m){row}(G:w.grownBy w' row)(au:some b≠row):gb w' b n m:=h.move (G.block b h.lt au)
def gb.qK(h:gb w b n m){t e bp}(bI:prog.underlying t=some (.map 9 e))(hz:(zeroValue e).run prog w= .ok bp w){s}(hs:D s<=dc):(vz t (.map (some b)) s true).run prog w= .ok (.tuple #[(m s).getD bp,.bool (m s).isSome]) w:=by
 obtain⟨E,⟨es,clock,G,F,ax,rfl⟩,ah⟩:=h;obtain⟨bJ,dH⟩:=ah s;obtain⟨pC,_,e1⟩|⟨dY,y,_,_,pC,ET,e1,_⟩:=Maps.fit_look true Gv bI hz G F (LI hs)
 .rw[e1] at bJ;have:m s=none:=Gu bJ.symm;rw[this];exact pC
 .rw[e1] at bJ;cases ET;have:m s=some dY.val:=Gu bJ.symm;rw[this];exact pC
def gb.Lj(h:gb w b n m){t e bp}(bI:prog.underlying t=some (.map 9 e))(hz:(zeroValue e).run prog w= .ok bp w){s}(hs:D s<=dc):(vz t (.map (some b)) s false).run prog w= .ok ((m s).getD bp) w:=by
 obtain⟨E,⟨es,clock,G,F,ax,rfl⟩,ah⟩:=h;obtain⟨bJ,dH⟩:=ah s;obtain⟨pC,_,e1⟩|⟨dY,y,_,_,pC,ET,e1,_⟩:=Maps.fit_look false Gv bI hz G F (LI hs)
 .rw[e1] at bJ;have:m s=none:=Gu bJ.symm;rw[this];exact pC
 .rw[e1] at bJ;cases ET;have:m s=some dY.val:=Gu bJ.symm;rw[this];exact pC
def gb.put(h:gb w b n m)(ax:n<dc){t e}(bI:prog.underlying t=some (.map 9 e)){s}(hs:D s<=dc)(v): ∃w',(Instr.mapUpdate t (.map (some b)) s v).run prog w= .ok () w'/\gb w' b (n+1) (pD m s v)/\w.grownBy w' (some b):=by
 obtain⟨E,dp,ah⟩:=h;have hy:Maps.IsMap E:=by obtain⟨_,_,_,_,_,rfl⟩:=dp;exact⟨_,rfl⟩
 obtain⟨w',R,T,bJ⟩:=dp.update Gv bI ax (val:=v) (LI hs) (d:= .held v) (ps:=[]) rfl;refine⟨w',R,⟨_,T,λx=>?_⟩,bJ⟩;unfold pD;by_cases aF:x=s
 .subst aF;rw[aS rfl,Maps.atKey_put_same hy (show WideAt.IsKeyLit (.string x) from trivial),Maps.has_put_same hy (show WideAt.IsKeyLit (.string x) from trivial)];exact⟨rfl,rfl⟩
 .have aZ:Lit.string x≠Lit.string s:=λe=>aF (by cases e;rfl);rw[ao aF,Maps.atKey_put_other aZ,Maps.has_put_other aZ];exact ah x
def rB (N:Nat)(w:ai)(b n:Nat)(m:List UInt8->Option af)(c2:List UInt8->List (List UInt8)):Prop:=
 gb w b n m/\(∀s,m s=none->c2 s=[])/\(∀s v,m s=some v->c2 s≠[]/\db N w v (c2 s))/\ ∀s s' v cc g,m s=some v->m s'=some cc->v.ownBlock=some g->cc.ownBlock=some g->s=s'
variable{N:Nat}{c2:List UInt8->List (List UInt8)}
def db.blk{u l}(h:db N w u l)(hl:l≠[]): ∃g cap cur,u= .slice (some ⟨g,0,none⟩) (D l) cap/\N<=g/\w.heap[g]?=some (.cells cur 9 (0,0)):=by
 obtain⟨_,aH⟩|⟨g,cap,cur,hu,aB,G,_⟩:=h.2
 .exact absurd (List.eq_nil_of_length_eq_zero aH) hl
 .exact⟨g,cap,cur,hu,aB,G⟩
def db.move{u l}(h:db N w u l)(G: ∀g,u.ownBlock=some g->w'.heap[g]?=w.heap[g]?):db N w' u l:=by
 refine⟨h.1,?_⟩;obtain aH|⟨g,cap,cur,rfl,aB,b8,ah⟩:=h.2
 .exact .inl aH
 .exact .inr ⟨g,cap,cur,rfl,aB,(G g rfl).trans b8,ah⟩
def db.C_{u l}(h:db N w u l){g}(aB:u.ownBlock=some g):g<w.heap.size:=by
 obtain⟨rfl,_⟩|⟨h5,cap,cur,rfl,_,G,_⟩:=h.2
 .cases aB
 .cases aB;exact(Array.getElem?_eq_some_iff.1 G).1
def rB.below(h:rB N w b n m c2)(G:aL w w w'):rB N w' b n m c2:=
 ⟨h.1.below G,h.2.1,λs v hs=>⟨(h.2.2.1 s v hs).1,(h.2.2.1 s v hs).2.move λg aB=>G.block g ((h.2.2.1 s v hs).2.C_ aB)⟩,h.2.2.2⟩
def rB.made(N:Nat)(w:ai):rB N (aA w (.map #[] 0)) w.heap.size 0 (λ_=>none) (λ_=>[]):=⟨gb.made w,λ_ _=>rfl,(λ_ _ h=>by cases h),(λ_ _ _ _ _ h=>by cases h)⟩
def rB.at(h:rB N w b n m c2)(s):db N w ((m s).getD (.slice none 0 0)) (c2 s):=by
 cases hm:m s with
 |none=>rw[h.2.1 s hm];exact n7 _ _ _ _
 |some v=>exact(h.2.2.1 s v hm).2
def x2 (c2:List UInt8->List (List UInt8))(s x:List UInt8)(y:List UInt8):List (List UInt8):=if y=s then c2 s++[x] else c2 y
def rB.set {w1 w2 bc:ai} {s:List UInt8} {cc:af} {x:List UInt8} (h:rB N w b n m c2) (R:aL w.heap.size w w1) (bQ:db N w2 cc (c2 s++[x])) (aB:w1.grownBy w2 ((m s).getD (.slice none 0 0)).ownBlock) (e1:cc.ownBlock=((m s).getD (.slice none 0 0)).ownBlock\/cc.ownBlock=some w1.heap.size)
  (hy:gb bc b (n+1) (pD m s cc)) (iD:w2.grownBy bc (some b)):rB N bc b (n+1) (pD m s cc) (x2 c2 s x):=by
 have Av:=h.below R;obtain⟨es,c,Aw⟩:=Av.1.obj;have EU: ∀(u:af) (l:List (List UInt8)),db N w2 u l->db N bc u l:=λu l hu=>hu.move λg k3=>by
  refine iD.block g (hu.C_ k3) λe=>?_;rw[show g=b from gZ e] at k3;obtain⟨D3,_⟩|⟨h5,cap,cur,D3,_,G,_⟩:=hu.2
  .rw[D3] at k3;cases k3
  .rw[D3] at k3;rw[show h5=b from gZ k3] at G;have:w2.heap[b]?=w1.heap[b]?:=by
    refine aB.block b Av.1.lt λe=>?_;have gW:=Av.at s;obtain⟨hU,_⟩|⟨g2,cap,cur,hU,_,b8,_⟩:=gW.2
    .rw[hU] at e;cases e
    .rw[hU] at e;rw[show g2=b from(gZ e).symm,Aw] at b8;cases b8
   rw[this,Aw] at G;cases G
 refine⟨hy,λy bx=>?_,λy v bx=>?_,λy k_ v VC g bx se w5 vp=>?_⟩
 .unfold pD at bx;unfold x2;by_cases e:y=s
  .rw[aS e] at bx;cases bx
  .rw[ao e] at bx|-;exact h.2.1 y bx
 .unfold pD at bx;unfold x2;by_cases e:y=s
  .rw[aS e] at bx|-;cases bx;exact⟨by simp,EU _ _ bQ⟩
  .rw[ao e] at bx|-;refine⟨(h.2.2.1 y v bx).1,EU _ _ ((Av.2.2.1 y v bx).2.move λg w5=>aB.block g ((Av.2.2.1 y v bx).2.C_ w5) λaE=>?_)⟩;cases hm:m s with
   |none=>rw[hm] at aE;cases aE
   |some tc=>
    rw[hm] at aE;exact e (h.2.2.2 y s v tc g bx hm w5 aE.symm)
 .have key: ∀(y:List UInt8) (v:af) (g:Nat),y≠s->m y=some v->v.ownBlock=some g->cc.ownBlock=some g->False:=by
   intro y v g aZ bx w5 vp;obtain aH|aH:=e1
   .rw[aH] at vp;cases hm:m s with
    |none=>rw[hm] at vp;cases vp
    |some tc=>
     rw[hm] at vp;exact aZ (h.2.2.2 y s v tc g bx hm w5 vp)
   .rw[aH] at vp;cases vp;exact Nat.lt_irrefl _ ((Av.2.2.1 y v bx).2.C_ w5)
  unfold pD at bx se;by_cases e:y=s
  .by_cases wi:k_=s
   .rw[e,wi]
   .rw[aS e] at bx;rw[ao wi] at se;cases bx;exact(key k_ VC g wi se vp w5).elim
  .by_cases wi:k_=s
   .rw[ao e] at bx;rw[aS wi] at se;cases se;exact(key y v g e bx w5 vp).elim
   .rw[ao e] at bx;rw[ao wi] at se;exact h.2.2.2 y k_ v VC g bx se w5 vp
end
def firstM(m:List UInt8->Option af)(s:List UInt8)(k:Nat):List UInt8->Option af:=if(m s).isSome then m else pD m s k
def S1{ops rest o a}{er:Exit->Act->ai->Prop}{w b n t e}{m:List UInt8->Option af}{s v m0 cF v0}(h:gb w b n m)(ax:n<dc)(bI:prog.underlying t=some (.map 9 e))(hs:D s<=dc)
 (ab: ∀w',gb w' b (n+1) (pD m s v)->w.grownBy w' (some b)->fo prog ops er rest (a.put o.dst eb) w')
 (aB:o.guard=none:=by rfl)(MI:o.op=Op.mapUpdate t m0 cF v0:=by rfl)(hm:a.eval m0= .map (some b):=by rfl)(aF:a.eval cF= .string (str s):=by rfl)(bQ:a.eval v0=v:=by rfl):fo prog ops er (o::rest) a w:=by refine wpList_plain aB λgI aiA=>?_;obtain⟨w',pC,kQ,r2⟩:=h.put ax bI hs v;unfold Oper.wp;simp[execOp,MI,hm,aF,bQ,pC,Result.andThen];exact aiA _ _ (ab w' kQ r2)
def Wd{w b n}{m:List UInt8->Option af}(h:gb w b n m)(ax:n<dc){s}(hs:D s<=dc)(k:Nat):
  aY 30 #[.map (some b),s,k] w λe w'=>e= .returned (.tuple #[])/\gb w' b (n+1) (firstM m s k)/\w.grownBy w' (some b):=by
 have c0:=A h;have cC:=A hs;have ep:=A ax;have c:=h.qK rO (rP w) hs;have dj:Hid (firstM m s k=if(m s).isSome then m else pD m s k):=A rfl;clear h hs ax;cases hm:m s with
 |some v=>
  rw[hm] at c dj;simp only[Option.getD_some,Option.isSome_some] at c;go_in;go_wp2;go_returns;exact⟨rfl,by rw[dj.o,aS (show(some v).isSome=true from rfl)];exact c0.o.mono,World.grownBy.refl _ _⟩
 |none=>
  rw[hm] at c dj;simp only[Option.getD_none,Option.isSome_none] at c;go_in;go_wp2_with(at_mapUpdate;refine S1 c0.o ep.o rO cC.o (λa6 hU g8=>?_);have nG:=A hU;have X':=A g8;clear hU g8)
  go_wp2;go_returns;exact⟨rfl,by rw[dj.o,ao aN];exact nG.o,X'.o⟩
def fk (L:List aP)(j':Int)(k:Nat)(s:List UInt8):Option af:=((L.take k).findIdx? λn=>n.j'==j'&&n.O==s).map λj:Nat=>Value.int .i64 (j:Int)
def P3{L j' k x}(h:L[k]?=some x):fk L j' (k+1)=if x.j'=j' then firstM (fk L j' k) x.O k else fk L j' k:=by
 have U:D (L.take k)=k:=by rw[mr];have:=(List.getElem?_eq_some_iff.1 h).1;omega
 funext s
 have a_:fk L j' (k+1) s=(((L.take k).findIdx? λn=>n.j'==j'&&n.O==s).or (([x].findIdx? λn=>n.j'==j'&&n.O==s).map (· +k))).map λj:Nat=>Value.int .i64 (j:Int):=by
  unfold fk;rw[p3,h,Option.toList_some,List.findIdx?_append,U]
 rw[a_];have aH:fk L j' k s=((L.take k).findIdx? λn=>n.j'==j'&&n.O==s).map λj:Nat=>Value.int .i64 (j:Int):=rfl;generalize(L.take k).findIdx? (λn=>n.j'==j'&&n.O==s)=q at*;by_cases aF:x.j'=j'
 .rw[aS aF];unfold firstM;by_cases hs:s=x.O
  .rw[<-hs,aH];cases q with
   |some j=>simp[aH]
   |none=>simp[pD,aF,hs,List.findIdx?_cons]
  .have mK: ¬x.O=s:=λe=>hs e.symm;have R:[x].findIdx? (λn=>n.j'==j'&&n.O==s)=none:=(by simp[List.findIdx?_cons,mK]);rw[R,Option.map_none,Option.or_none,<-aH];split
   .rfl
   .unfold pD;rw[ao hs]
 .have R:[x].findIdx? (λn=>n.j'==j'&&n.O==s)=none:=by simp[List.findIdx?_cons,aF]
  rw[ao aF,R,Option.map_none,Option.or_none,<-aH]
def wy{L j' s}:(fk L j' (D L) s).isSome=decide (0<=c7 L j' s):=by
 unfold fk c7;rw[mM];cases L.findIdx? (λn=>n.j'==j'&&n.O==s) with
 |some j=>simp
 |none=>simp
structure fO (w0:ai)(v:af)(b1 b2 bC tp:Nat)(dq cR n3:Nat)(m1 m2 m3:List UInt8->Option af)(c2:List UInt8->List (List UInt8))(w:ai):Prop where
 av:aL w0 w0 w
 gB:ua w tp v (.map (some b1)) (.map (some b2)) (.map (some bC))
 s1:gb w b1 dq m1
 s2:gb w b2 cR m2
 aq:rB w0.heap.size w bC n3 m3 c2
 q:w0.heap.size<=b1/\w0.heap.size<=b2/\w0.heap.size<=bC/\w0.heap.size<=tp/\b1≠b2/\b1≠bC/\b2≠bC
section
variable{w0:ai}{v:af}{b1 b2 bC tp dq cR n3:Nat}{m1 m2 m3:List UInt8->Option af}{c2:List UInt8->List (List UInt8)}{w w':ai}
def fO.below(h:fO w0 v b1 b2 bC tp dq cR n3 m1 m2 m3 c2 w)(G:aL w w w'):fO w0 v b1 b2 bC tp dq cR n3 m1 m2 m3 c2 w':=
 ⟨h.av.trans (G.mono h.av.size),ds h.gB G (bd h.gB),h.s1.below G,h.s2.below G,h.aq.below G,h.q⟩
def fO.alloc(h:fO w0 v b1 b2 bC tp dq cR n3 m1 m2 m3 c2 w)(o:Obj):fO w0 v b1 b2 bC tp dq cR n3 m1 m2 m3 c2 (aA w o):=h.below ((aT _ _).alloc (bD _) o)
def fO.drew(h:fO w0 v b1 b2 bC tp dq cR n3 m1 m2 m3 c2 w):fO w0 v b1 b2 bC tp dq cR n3 m1 m2 m3 c2 w.drew:=h.below (aT _ _).drew
def fO.KV(h:fO w0 v b1 b2 bC tp dq cR n3 m1 m2 m3 c2 w):tp≠b1/\tp≠b2/\tp≠bC:=by
 have bI:=h.gB;unfold ua at bI;refine⟨λe=>?_,λe=>?_,λe=>?_⟩
 .obtain⟨es,c,G⟩:=h.s1.obj;rw[<-e,bI] at G;cases G
 .obtain⟨es,c,G⟩:=h.s2.obj;rw[<-e,bI] at G;cases G
 .obtain⟨es,c,G⟩:=h.aq.1.obj;rw[<-e,bI] at G;cases G
def rB.Au{N b n}(h:rB N w b n m3 c2){q}(aB:w.grownBy w' (some q))(a_:q≠b)(bX: ∀cur,w.heap[q]?≠some (.cells cur 9 (0,0))):rB N w' b n m3 c2:=
 ⟨h.1.grown aB (by simpa using λe=>a_ e.symm),h.2.1,λs v hs=>⟨(h.2.2.1 s v hs).1,(h.2.2.1 s v hs).2.move λg bQ=>aB.block g ((h.2.2.1 s v hs).2.C_ bQ) λe=>by
  rw[show g=q from gZ e] at bQ;rcases(h.2.2.1 s v hs).2.2 with⟨hu,_⟩|⟨g2,cap,cur,hu,_,G,_⟩
  .rw[hu] at bQ;cases bQ
  .rw[hu] at bQ;rw[show g2=q from gZ bQ] at G;exact bX cur G⟩,h.2.2.2⟩
def fO.afM(h:fO w0 v b1 b2 bC tp dq cR n3 m1 m2 m3 c2 w){m:List UInt8->Option af}(hm:gb w' b1 (dq+1) m)(aB:w.grownBy w' (some b1)):fO w0 v b1 b2 bC tp (dq+1) cR n3 m m2 m3 c2 w':=by obtain⟨c9,cw,da,dQ,ij,fg,na⟩:=h.q;obtain⟨t1,t2,t3⟩:=h.KV;obtain⟨es,c,G⟩:=h.s1.obj;exact⟨h.av.grown aB h.av.size (by intro k U;cases U;exact c9),(aB.block tp (bd h.gB) (by simpa using t1)).trans h.gB,hm,h.s2.grown aB (by simpa using λe=>ij e.symm),h.aq.Au aB fg (λcur e=>by rw[G] at e;cases e),h.q⟩
def fO.afN(h:fO w0 v b1 b2 bC tp dq cR n3 m1 m2 m3 c2 w){m:List UInt8->Option af}(hm:gb w' b2 (cR+1) m)(aB:w.grownBy w' (some b2)):fO w0 v b1 b2 bC tp dq (cR+1) n3 m1 m m3 c2 w':=by obtain⟨c9,cw,da,dQ,ij,fg,na⟩:=h.q;obtain⟨t1,t2,t3⟩:=h.KV;obtain⟨es,c,G⟩:=h.s2.obj;exact⟨h.av.grown aB h.av.size (by intro k U;cases U;exact cw),(aB.block tp (bd h.gB) (by simpa using t2)).trans h.gB,h.s1.grown aB (by simpa using ij),hm,h.aq.Au aB na (λcur e=>by rw[G] at e;cases e),h.q⟩
def fO.more(h:fO w0 v b1 b2 bC tp dq cR n3 m1 m2 m3 c2 w):fO w0 v b1 b2 bC tp (dq+1) cR n3 m1 m2 m3 c2 w/\fO w0 v b1 b2 bC tp dq (cR+1) n3 m1 m2 m3 c2 w:=⟨{h with s1:=h.s1.mono},{h with s2:=h.s2.mono}⟩
def fO.S0 {w1 w2 bc:ai} {s:List UInt8} {cc:af} {x:List UInt8} (h:fO w0 v b1 b2 bC tp dq cR n3 m1 m2 m3 c2 w1) (bQ:db w0.heap.size w2 cc (c2 s++[x])) (aB:w1.grownBy w2 ((m3 s).getD (.slice none 0 0)).ownBlock) (e1:cc.ownBlock=((m3 s).getD (.slice none 0 0)).ownBlock\/cc.ownBlock=some w1.heap.size)
  (hy:gb bc bC (n3+1) (pD m3 s cc)) (iD:w2.grownBy bc (some bC)):fO w0 v b1 b2 bC tp dq cR (n3+1) m1 m2 (pD m3 s cc) (x2 c2 s x) bc:=by
 obtain⟨c9,cw,da,dQ,ij,fg,na⟩:=h.q;obtain⟨t1,t2,t3⟩:=h.KV;have h4:=h.aq.at s;have k7: ∀q,(∀cur,w1.heap[q]?≠some (.cells cur 9 (0,0)))->some q≠((m3 s).getD (.slice none 0 0)).ownBlock:=λq a_ e=>by
  obtain⟨hu,_⟩|⟨g2,cap,cur,hu,_,G,_⟩:=h4.2
  .rw[hu] at e;cases e
  .rw[hu] at e;rw[show g2=q from(gZ e).symm] at G;exact a_ cur G
 obtain⟨ag,bq,vt⟩:=h.s1.obj;obtain⟨aE,cK,rJ⟩:=h.s2.obj;have bI:=h.gB;unfold ua at bI;have kQ:=k7 b1 λcur e=>by rw[vt] at e;cases e
 have r2:=k7 b2 λcur e=>by rw[rJ] at e;cases e
 have rt:=k7 tp λcur e=>by rw[bI] at e;cases e
 have b8:aL w0 w0 w2:=h.av.grown aB h.av.size (λk U=>by
  obtain⟨hu,_⟩|⟨g2,cap,cur,hu,hN,G,_⟩:=h4.2
  .rw[hu] at U;cases U
  .rw[hu] at U;cases U;exact hN)
 exact⟨b8.grown iD b8.size (by intro k U;cases U;exact da),(iD.block tp (kv (bd h.gB) aB.size) (by simpa using t3)).trans ((aB.block tp (bd h.gB) rt).trans bI),
  (h.s1.grown aB kQ).grown iD (by simpa using fg),(h.s2.grown aB r2).grown iD (by simpa using na),h.aq.set (aT _ _) bQ aB e1 hy iD,h.q⟩
def fO.MG{w1 w2 s}(h:fO w0 v b1 b2 bC tp dq cR n3 m1 m2 m3 c2 w1)(aB:w1.grownBy w2 ((m3 s).getD (.slice none 0 0)).ownBlock):aL w0 w0 w2/\ua w2 tp v (.map (some b1)) (.map (some b2)) (.map (some bC))/\gb w2 bC n3 m3/\
  ∀(q:Nat) (c:Array af) (t:TypeId),w1.heap[q]?=some (.cells c t (0,0))->t≠9->w2.heap[q]?=some (.cells c t (0,0)):=by
 have h4:=h.aq.at s;have k7: ∀q,(∀cur,w1.heap[q]?≠some (.cells cur 9 (0,0)))->some q≠((m3 s).getD (.slice none 0 0)).ownBlock:=λq a_ e=>by
  obtain⟨hu,_⟩|⟨g2,cap,cur,hu,_,G,_⟩:=h4.2
  .rw[hu] at e;cases e
  .rw[hu] at e;rw[show g2=q from(gZ e).symm] at G;exact a_ cur G
 obtain⟨bU,c3,MH⟩:=h.aq.1.obj;have bI:=h.gB;unfold ua at bI;refine⟨h.av.grown aB h.av.size (λk U=>by
  obtain⟨hu,_⟩|⟨g2,cap,cur,hu,hN,G,_⟩:=h4.2
  .rw[hu] at U;cases U
  .rw[hu] at U;cases U;exact hN),(aB.block tp (bd h.gB) (k7 tp λcur e=>by rw[bI] at e;cases e)).trans bI,h.aq.1.grown aB (k7 bC λcur e=>by rw[MH] at e;cases e),λq c t a_ aZ=>(aB.block q (bd a_) (k7 q λcur e=>?_)).trans a_⟩
 rw[a_] at e;cases e;exact aZ rfl
def TO{ops o s0 cF}{er:Exit->Act->ai->Prop}{bP}{gI:Act->ai->Prop}{a N w u l}(x)(bQ:db N w u l)(hl:D l<=1000000000000)(hN:N<=w.heap.size)
 (h: ∀g cap a6,db N a6 (.slice (some ⟨g,0,none⟩) (D l+1) cap) (l++[x])->(aA w (aw #[.string (str x)] 9)).grownBy a6 u.ownBlock->(u.ownBlock=some g\/g=w.heap.size+1)->gI (a.put o.dst (.slice (some ⟨g,0,none⟩) (D l+1) cap)) a6)
 (jO:o.guard=none:=by rfl)(bX:o.op= .call {callee:= .builtin .append,args:= #[s0,cF],argTypes:= #[22,22]}:=by rfl)(hs:a.eval s0=u:=by rfl)(aF:a.eval cF= .slice (some ⟨w.heap.size,0,none⟩) 1 1:=by rfl):
  if nF o (yielded ops a.tmps)=true then Oper.wp prog o a (aA w (aw #[.string (str x)] 9)) gI er else bP:=by obtain⟨i0,fM,e',e_,ff⟩:=kT JJ;have pL:(aA w (aw #[x] 9)).ownsRow N 9 1 u (D l) (l.map λx=>mm (str x)):=fZ bQ ((aT w w).alloc (bD _) _) λk U=>(eI bQ k U).2;refine tJ _ jO s0 cF 22 bX N 9 i0 _ 1 16 underlying22 fM e' e_ ff rfl J u (D l) (l.map λx=>mm (str x)) hs pL ⟨w.heap.size,0,none⟩ 1 1 [x] aF rfl (j7 (cs:= #[x]) (t:=9) (fr:=(0,0)) (hf _ _)) (by intro y bx;simp at bx;subst bx;rfl) J (by unfold dc;omega) J (by simp;omega) (w.heap.size+1) bT ?_;intro g cap a6 fF dv e1 _;refine h g cap a6 ?_ dv e1;unfold db;rw[dW,rX];exact fF
def Du{ops o a}{er:Exit->Act->ai->Prop}{bP}{gI:Act->ai->Prop}{w b n t e}{m:List UInt8->Option af}{s v m0 cF v0}(h:gb w b n m)(ax:n<dc)(bI:prog.underlying t=some (.map 9 e))(hs:D s<=dc)
 (ab: ∀w',gb w' b (n+1) (pD m s v)->w.grownBy w' (some b)->gI (a.put o.dst eb) w')
 (aB:o.guard=none:=by rfl)(MI:o.op=Op.mapUpdate t m0 cF v0:=by rfl)(hm:a.eval m0= .map (some b):=by rfl)(aF:a.eval cF= .string (str s):=by rfl)(bQ:a.eval v0=v:=by rfl):if nF o (yielded ops a.tmps)=true then Oper.wp prog o a w gI er else bP:=by
 have hw:nF o (yielded ops a.tmps)=true:=by simp[nF,aB]
 rw[aS hw];obtain⟨w',pC,kQ,r2⟩:=h.put ax bI hs v;unfold Oper.wp;simp[execOp,MI,hm,aF,bQ,pC,Result.andThen];exact ab w' kQ r2
end
def R7(x y:List UInt8):lu x y=decide (x<y):=by
 unfold lu
 induction x generalizing y with
 |nil=>cases y<;>simp[Op.bytesLess]
 |cons a r cB=>
  cases y with
  |nil=>simp[Op.bytesLess]
  |cons b s=>
   rw[Op.bytesLess,cB s];simp only[List.cons_lt_cons_iff];by_cases R:a<b<;>by_cases T:a=b<;>by_cases ah:r<s<;>simp[R,T,ah]
def Ql(s:List UInt8)(l:List (List UInt8)):(k1 s l).Perm (s::l):=by
 induction l with
 |nil=>exact List.Perm.refl _
 |cons x r cB=>
  show(if lu s x then s::x::r else x::k1 s r).Perm _;split
  .exact List.Perm.refl _
  .exact(List.Perm.cons x cB).trans (List.Perm.swap s x r)
def Xe(s:List UInt8)(l:List (List UInt8))(h:l.Pairwise (· <= ·)):(k1 s l).Pairwise (· <= ·):=by
 induction l with
 |nil=>simp[k1]
 |cons x r cB=>
  obtain⟨R,T⟩:=List.pairwise_cons.1 h;show(if lu s x then s::x::r else x::k1 s r).Pairwise _;split
  .rename_i hs;have hs:s<x:=(by simpa[R7] using hs);refine List.pairwise_cons.2 ⟨λy bx=>?_,h⟩;obtain rfl|bx:=List.mem_cons.1 bx
   .exact List.le_of_lt hs
   .exact List.le_trans (List.le_of_lt hs) (R y bx)
  .rename_i hs;have hs:x<=s:=(by simpa[R7] using hs);refine List.pairwise_cons.2 ⟨λy bx=>?_,cB T⟩;obtain rfl|bx:=List.mem_cons.1 ((Ql s r).mem_iff.1 bx)
   .exact hs
   .exact R y bx
def Q'(l:List (List UInt8)):(fw l).Perm l/\(fw l).Pairwise (· <= ·):=by
 have: ∀(l d':List (List UInt8)),d'.Pairwise (· <= ·)->(l.foldl (λa s=>k1 s a) d').Perm (d'++l)/\(l.foldl (λa s=>k1 s a) d').Pairwise (· <= ·):=by
  intro l
  induction l with
  |nil=>intro d' h;exact⟨by simp,h⟩
  |cons x r cB=>
   intro d' h;obtain⟨p,q⟩:=cB (k1 x d') (Xe x d' h);exact⟨p.trans ((List.Perm.append_right r (Ql x d')).trans (List.perm_middle.symm)),q⟩
 have h:=this l [] List.Pairwise.nil;simpa[fw] using h
def Q_(l:List (List UInt8)):(l.mergeSort λx y=>decide (x<=y))=fw l:=by obtain⟨p,q⟩:=Q' l;refine(List.Perm.eq_of_pairwise (le:=(· <= ·)) (λa b _ _=>List.le_antisymm) q ?_ (p.trans (List.mergeSort_perm _ _).symm)).symm;have:=List.pairwise_mergeSort (le:=λx y:List UInt8=>decide (x<=y)) (λa b c=>by simpa using List.le_trans) (λa b=>by simpa using List.le_total a b) l;exact this.imp λh=>by simpa using h
def RZ{l x}:x∈fw l↔x∈l:=(Q' l).1.mem_iff
def ae_{N w v l}(h:db N w v l)(hl:l≠[])(hm:D l<=100000000000):aY 32 #[v] w λe w'=>e= .returned (.tuple #[])/\db N w' v (fw l)/\w.grownBy w' v.ownBlock:=by
 obtain⟨_,aH⟩|⟨g,cap,cur,rfl,hN,G,R,T,ah,bJ⟩:=h.2
 .exact absurd (List.eq_nil_of_length_eq_zero aH) hl
 .refine b7 (slices_Sort_string g 0 cap l w (holds_of_block G (by rw[Nat.mul_one] at bJ;exact bJ)) (bd G) J) ?_;rintro w' ⟨n,os,rfl⟩;refine⟨rfl,?_,grownBy_sorted _⟩;have dH:=ownsRow_sorted (n:=n) (os:=os) (ss:=l) (ts:=l.mergeSort λx y=>decide (x<=y)) bT hN G R T ah;unfold db;rw[Q_] at dH;rw[Q_,Gw];exact dH
section
variable{w0:ai}{v:af}{b1 b2 bC tp dq cR n3:Nat}{m1 m2 m3:List UInt8->Option af}{c2:List UInt8->List (List UInt8)}{w w':ai}
def fO.aew(h:fO w0 v b1 b2 bC tp dq cR n3 m1 m2 m3 c2 w){s c Ol}(hm:m3 s=some c)(hl:Ol≠[])(bQ:db w0.heap.size w' c Ol)(aB:w.grownBy w' c.ownBlock):fO w0 v b1 b2 bC tp dq cR n3 m1 m2 m3 (λy=>if y=s then Ol else c2 y) w':=by
 have k3:w.grownBy w' ((m3 s).getD (.slice none 0 0)).ownBlock:=by rw[hm];exact aB
 have h4:=h.aq.at s;have k7: ∀q,(∀cur,w.heap[q]?≠some (.cells cur 9 (0,0)))->some q≠((m3 s).getD (.slice none 0 0)).ownBlock:=λq a_ e=>by
  obtain⟨hu,_⟩|⟨g2,cap,cur,hu,_,G,_⟩:=h4.2
  .rw[hu] at e;cases e
  .rw[hu] at e;rw[show g2=q from(gZ e).symm] at G;exact a_ cur G
 obtain⟨ag,bq,vt⟩:=h.s1.obj;obtain⟨aE,cK,rJ⟩:=h.s2.obj;obtain⟨cu,k2,iG,_⟩:=h.MG k3;refine⟨cu,k2,h.s1.grown k3 (k7 b1 λcur e=>by rw[vt] at e;cases e),h.s2.grown k3 (k7 b2 λcur e=>by rw[rJ] at e;cases e),⟨iG,λy bx=>?_,λy u bx=>?_,h.aq.2.2.2⟩,h.q⟩
 .dsimp only;rw[ao (λe=>by rw[e,hm] at bx;cases bx)];exact h.aq.2.1 y bx
 .dsimp only;by_cases e:y=s
  .rw[aS e];rw[e,hm] at bx;cases bx;exact⟨hl,bQ⟩
  .rw[ao e];exact⟨(h.aq.2.2.1 y u bx).1,(h.aq.2.2.1 y u bx).2.move λg uz=>aB.block g ((h.aq.2.2.1 y u bx).2.C_ uz) λaE=>e (h.aq.2.2.2 y s u c g bx hm uz aE.symm)⟩
def fO.iter(h:fO w0 v b1 b2 bC tp dq cR n3 m1 m2 m3 c2 w){r}(au: ∃a s1 s2 aq,w.heap[r]?=some (.mapIter a s1 s2 aq))(hN:w0.heap.size<=r)(aB:w.grownBy w' (some r)):fO w0 v b1 b2 bC tp dq cR n3 m1 m2 m3 c2 w':=by
 obtain⟨a,s1,s2,aq,au⟩:=au;obtain⟨ag,bq,vt⟩:=h.s1.obj;obtain⟨aE,cK,rJ⟩:=h.s2.obj;obtain⟨bU,c3,MH⟩:=h.aq.1.obj;have bI:=h.gB;unfold ua at bI;have key: ∀{q:Nat} {o:Obj},w.heap[q]?=some o->(∀a s1 s2 aq,o≠ .mapIter a s1 s2 aq)->some q≠some r:=λ{q o} a_ aZ e=>by
  cases e;rw[au] at a_;cases a_;exact aZ _ _ _ _ rfl
 exact⟨h.av.grown aB h.av.size (by intro k U;cases U;exact hN),(aB.block tp (bd bI) (key bI λ_ _ _ _ e=>by cases e)).trans bI,h.s1.grown aB (key vt λ_ _ _ _ e=>by cases e),h.s2.grown aB (key rJ λ_ _ _ _ e=>by cases e),
  h.aq.Au aB (λe=>key MH (λ_ _ _ _ e=>by cases e) (by rw[e])) (λcur e=>by rw[au] at e;cases e),h.q⟩
def fO.new(h:fO w0 v b1 b2 bC tp dq cR n3 m1 m2 m3 c2 w)(aB:w.grownBy w' none):fO w0 v b1 b2 bC tp dq cR n3 m1 m2 m3 c2 w':=h.below ((aT w w).grown aB (bD _) (by intro k U;cases U))
end
def tW (left:Lit->Bool)(c2:List UInt8->List (List UInt8))(y:List UInt8):List (List UInt8):=if left (.string y) then c2 y else fw (c2 y)
def Yj{left:Lit->Bool}{c2:List UInt8->List (List UInt8)}(x:List UInt8):tW (λbp=>left bp&&!bp.sameKey (.string x)) c2=λy=>if y=x then fw (c2 x) else tW left c2 y:=by
 funext y
 unfold tW;by_cases e:y=x
 .subst e;simp[Lit.sameKey]
 .simp[Lit.sameKey,e]
def Ra{key AX}(h:keyOf prog 9 key=some AX): ∃x,key= .string (str x)/\AX= .string x:=by
 cases key<;>simp[keyOf,underlying9,mapKey] at h
 rename_i s;exact⟨s.data.toList,by simp[str],by first|exact h.2.symm|exact h.symm|(obtain⟨_,h⟩:=h;exact h.symm)|(obtain⟨h,_⟩:=h;exact h.symm)⟩
section
variable{P:Program}{ops:Array Oper}{Q:Exit->Act->ai->Prop}{md:Region.Mode}{S:ai->Prop}{bp:Nat}
def kz (P:Program)(md:Region.Mode)(ops:Array Oper)(Q:Exit->Act->ai->Prop)(S:ai->Prop)(bp:Nat):Nat->Array Bool->Act->ai->Prop
 |0,dB,a,w=>nE md ops dB=[]/\Q .normal a w
 |fuel+1,dB,a,w=>
  (nE md ops dB=[]->Q .normal a w)/\
  ∀i∈nE md ops dB,wpOp P ops Q i (λni w'=>(i≠bp->S w')/\kz P md ops Q S bp fuel (dB.setIfInBounds i true) ni w') a w
def OM: ∀(fuel:Nat) (dB:Array Bool) (a:Act) (w:ai),kz P md ops Q S bp fuel dB a w->wpAny P md ops Q fuel dB a w
 |0,_,_,_,h=>h
 |fuel+1,_,_,_,h=>⟨h.1,λi ay=>wpOp_mono (λni w' vd=>OM fuel _ ni w' vd.2) (h.2 i ay)⟩
def WB{i fa v}(ay:ops[i]?=some fa)(Bl: ∀(j:Nat) (o:Oper) cs b,ops[j]?=some o->o.op≠ .select cs b)
 (hQ: ∀c a w,Q (.panic c) (a.put fa.dst v) w->Q (.panic c) a w)(hz:Region.waitsFor md ops bp i=true):
  ∀(fuel:Nat) (dB:Array Bool) (a:Act) (w:ai),
   (∀j oq,ops[j]?=some oq->j≠i->dB.getD j true=false->(∀e∈oq.after,Region.binds md e=true->e.on≠i)->fa.apart ops oq=true)->
   i∈nE md ops dB->YieldsIf P ops S fa v a->S w->
   kz P md ops Q S bp fuel (dB.setIfInBounds i true) (a.put fa.dst v) w->kz P md ops Q S bp (fuel+1) dB a w:=by
 intro fuel
 induction fuel with
 |zero=>
  intro dB a w _ au bx aD H;refine⟨λh=>(by rw[h] at au;cases au),λj bg=>?_⟩;by_cases kM:j=i
  .subst kM;exact bx.wpOp ay aD ⟨λ_=>aD,H⟩
  .have:=ready_mono bg kM;rw[H.1] at this;cases this
 |succ fuel cB=>
  intro dB a w GD au bx aD H;refine⟨λh=>(by rw[h] at au;cases au),λj bg=>?_⟩;by_cases kM:j=i
  .subst kM;exact bx.wpOp ay aD ⟨λ_=>aD,H⟩
  .have R:=H.2 j (ready_mono bg kM);obtain⟨Dz,oq,vV,Dx⟩:=mem_ready.1 bg;have G8: ∀e∈oq.after,Region.binds md e=true->e.on≠i:=λe he G heq=>by
    have R:=Dx e he G;have aH:=(mem_ready.1 au).1;rw[heq] at R;obtain vd|vd:=Nat.lt_or_ge i dB.size
    .simp[vd] at aH R;rw[aH] at R;cases R
    .simp[Array.getElem?_eq_none vd] at R
   have BU:j≠bp:=λe=>by
    obtain⟨aoo,aji,oO,dH,fE,fW⟩:=Region.waitsFor_spec hz;rw[e,aji] at vV;cases vV;exact G8 oO dH fE fW
   have T:=wpOp_putIf vV (GD j oq vV kM Dz G8) (λcs b=>Bl i fa cs b ay) (λcs b=>Bl j oq cs b vV) hQ bx R;have KW: ∀k ok,ops[k]?=some ok->k≠i->(dB.setIfInBounds j true).getD k true=false->
     (∀e∈ok.after,Region.binds md e=true->e.on≠i)->fa.apart ops ok=true:=λk ok U hv D_ k7=>by
    refine GD k ok U hv ?_ k7;by_cases vW:j=k
    .subst vW;exact Dz
    .rw[getD_set_ne true vW] at D_;exact D_
   refine wpOp_mono (λni w' ah=>⟨λ_=>ah.2.1 BU,cB (dB.setIfInBounds j true) ni w' KW (ready_mono au (Ne.symm kM)) ah.1 (ah.2.1 BU) ?_⟩) T;rw[Array.setIfInBounds_comm _ _ kM];exact ah.2.2
def a'(i:Nat){fa v fuel dB l2 a a2 w}
 (h:kz P md ops Q S bp fuel l2 a2 w)
 (ay:ops[i]?=some fa:=by rfl)(hs:Region.noSelect ops=true:=by kernel_rfl)(aI:Region.free md ops dB i=true:=by kernel_rfl)(au:(nE md ops dB).contains i=true:=by kernel_rfl)(hz:Region.waitsFor md ops bp i=true:=by kernel_rfl)
 (hQ: ∀c a w,Q (.panic c) (a.put fa.dst v) w->Q (.panic c) a w:=by exact λ_ _ _ h=>h)
 (hw:nF fa (yielded ops a.tmps)=true:=by rfl)
 (bx: ∀w,S w->(execOp a.eval fa).run P w= .ok (.value v) w:=by intro w vT;(try dsimp only at vT);(try simp only[and_imp] at vT);(first|(go_simp;done)|(go_simp;with_reducible rfl)))
 (aD:S w:=by assumption)
 (aR:a.put fa.dst v=a2:=by simp only[Act.put,List.getElem_toArray,List.getElem_cons_succ,List.getElem_cons_zero,ld,lf,lg];rfl)
 (hl:dB.setIfInBounds i true=l2:=by first|(simp only[ld,lf,lg];rfl)|rfl):kz P md ops Q S bp (fuel+1) dB a w:=by subst aR hl;exact WB ay (Region.noSelect_spec hs) hQ hz fuel dB a w (Region.free_spec ay aI) (by simpa using au) (Or.inl ⟨hw,bx⟩) aD h
def cT(i:Nat){fa fuel dB a w}
 (h: ∀gI:Act->ai->Prop,RowKit.Hid (∀a w,(i≠bp->S w)->kz P md ops Q S bp fuel (dB.setIfInBounds i true) a w->gI a w)->if nF fa (yielded ops a.tmps)=true then Oper.wp P fa a w gI Q else gI (a.put fa.dst eb) w)
 (ay:ops[i]?=some fa:=by rfl)(au:nE md ops dB=[i]:=by kernel_rfl):kz P md ops Q S bp (fuel+1) dB a w:=by
 refine⟨λaH=>absurd (au.symm.trans aH) bT,λj bg=>?_⟩;rw[au,sE] at bg;subst bg;have R:=h (λni w'=>(j≠bp->S w')/\kz P md ops Q S bp fuel (dB.setIfInBounds j true) ni w') (A λa w T ah=>⟨T,ah⟩);unfold wpOp;simp only[ay];split at R
 .rename_i hw;simp only[hw,if_true];exact .inl R
 .rename_i hw;simp only[hw];exact R
def bV{fuel dB a w}(h:Q .normal a w)(au:nE md ops dB=[]:=by kernel_rfl):kz P md ops Q S bp fuel dB a w:=by
 cases fuel with
 |zero=>exact⟨au,h⟩
 |succ n=>exact⟨λ_=>h,by rw[au];simp⟩
def jT{id a w}(bp:Nat)(S:ai->Prop)(aD:S w.drew)(h:S w.drew->kz P .any ops Q S bp ops.size (vy ops.size false) a w.drew)(hm:P.follows .mixedOrders=true:=by kernel_rfl):(Code.region id ops true).wp P Q a w:=
 wp_region_any hm (OM _ _ _ _ (h aD))
end
theorem alj {c2 mL:Prop} (g:mL) (h:RowKit.Hid mL->c2:=by intro bF;try refine a' 0 ?_;try refine a' 1 ?_;try refine a' 2 ?_;try refine a' 3 ?_;try refine a' 4 ?_;try refine a' 5 ?_;try refine a' 6 ?_;try refine a' 7 ?_;try refine a' 8 ?_;try refine a' 9 ?_;try refine a' 10 ?_;try refine a' 11 ?_;try refine a' 12 ?_;try refine a' 13 ?_;try refine a' 14 ?_;try refine a' 15 ?_;try refine a' 16 ?_;try refine a' 17 ?_;try refine a' 18 ?_;try refine a' 19 ?_;try refine a' 20 ?_;try refine a' 21 ?_;try refine a' 22 ?_;try refine a' 23 ?_;try refine a' 24 ?_;try refine a' 25 ?_;try refine a' 26 ?_;try refine a' 27 ?_;try refine a' 28 ?_;try refine a' 29 ?_;try refine a' 30 ?_;try refine a' 31 ?_;try refine a' 32 ?_;try refine a' 33 ?_;try refine a' 34 ?_;try refine a' 35 ?_;try refine a' 36 ?_;try refine a' 37 ?_;try refine a' 38 ?_;try refine a' 39 ?_;try refine a' 40 ?_;try refine a' 41 ?_;try refine a' 42 ?_;try refine a' 43 ?_;try refine a' 44 ?_;try refine a' 45 ?_;exact bF.o):c2:=h (A g)
def mT (L:List aP)(k:Nat)(t:List UInt8):List (List UInt8):=(L.take k).flatMap (my L t)
def Kv{L k x}(h:L[k]?=some x):mT L (k+1)=λt=>mT L k t++my L t x:=by
 funext t
 exact Qz h
def aeg{L k x}(h:L[k]?=some x)(lK:x.j'=14){a b r}(qV:x.I=a::b::r):mT L (k+1)=x2 (mT L k) (B.O L a) (x.O++32::B.O L b):=by
 rw[Kv h]
 funext t
 unfold my x2;rw[aS lK,qV];by_cases e:t=B.O L a
 .rw[aS e,e];simp
 .rw[ao e];simp;exact λh=>e h.symm
def aaU{L}(ve:B.h1 L){a y}(h:L[a]?=some y)(fW:y.j'=7):B.O L a=B.O L (Y y.I 0 0):=by rw[zd ve a,mO h,ao J,ao J,ao J,ao J,ao J,aS fW]
def Ki{L:List aP}{E:List (aP×af)}{t}(dj:Hid (∀n∈L,D n.O<=100000000000/\D n.I<=1000000))(alk:Hid (L=E.map (·.1)))(dp:D E<=10000){k:Nat}(U:k<=D E):D (mT L k t)<=10000000000:=by have:=J9 (typ:=t) (K:=1000000) aN (λn ax=>(dj.o n ax).2) k;unfold mT;omega
def tN (L:List aP)(k:Nat)(x:aP)(j:Nat)(t:List UInt8):List (List UInt8):=if t=x.O then mT L k t++(x.I.take j).map (qd L) else mT L k t
def adG{L k x}:tN L k x 0=mT L k:=by
 funext t
 unfold tN;split<;>simp
def adH{L k x j}(h:j<D x.I):tN L k x (j+1)=x2 (tN L k x j) x.O (qd L (Y x.I j 0)):=by
 funext t
 unfold tN x2;rw[p3,cE h];by_cases e:t=x.O
 .rw[aS e,aS e];dsimp only;rw[aS rfl,e,cd,cE h,rX,<-oH];rfl
 .rw[ao e,ao e];dsimp only;rw[ao e]
def aeh{L k x}(h:L[k]?=some x)(Ey:x.j'=12):tN L k x (D x.I)=mT L (k+1):=by
 rw[Kv h]
 funext t
 unfold tN my;rw[mM,ao (show¬x.j'=14 by omega)];by_cases e:t=x.O
 .rw[aS e,aS ⟨Ey,e.symm⟩]
 .rw[ao e,ao (λh=>e h.2.symm),lU]
def adI{L k x}(h:L[k]?=some x)(lK: ¬x.j'=14)(Ey: ¬x.j'=12):mT L (k+1)=mT L k:=by
 rw[Kv h]
 funext t
 unfold my;rw[ao lK,ao (λh=>Ey h.1),lU]
def aei{L k}(h:k=D L):mT L k=gv L:=by
 subst h
 funext t
 unfold mT gv;rw[mM]
def aej{L:List aP}{E:List (aP×af)}{t}(dj:Hid (∀n∈L,D n.O<=100000000000/\D n.I<=1000000))(cZ:Hid (L=E.map (·.1)))(dp:D E<=10000){k:Nat}(U:k<=D E){x:aP}(aF:D x.I<=1000000)(j:Nat):D (tN L k x j t)<=20000000000:=by
 have:=Ki (t:=t) dj cZ dp U;unfold tN;split
 .rw[dW,h2,mr];omega
 .omega
def acC (L:List aP)(k:Nat)(w0:ai)(v:af)(e:e7)(w:ai):Prop:= ∃(b1 b2 bC tp dq cR n3:Nat) (m3:List UInt8->Option af),e= .returned (tp,0)/\fO w0 v b1 b2 bC tp dq cR n3 (fk L 10 k) (fk L 12 k) m3 (λt=>fw (gv L t)) w
section
variable{L:List aP}{E:List (aP×af)}{N:Nat}
def aaV(w:ai)(v:af):fO w v w.heap.size (w.heap.size+1) (w.heap.size+1+1) (w.heap.size+1+1+1) 0 0 0 (λ_=>none) (λ_=>none) (λ_=>none) (λ_=>[])
  (aA (aA (aA (aA w (.map #[] 0)) (.map #[] 0)) (.map #[] 0)) (aw #[v,.map (some w.heap.size),.map (some (w.heap.size+1)),.map (some (w.heap.size+1+1))] 81)):=by have ag:(aA w (.map #[] 0)).heap.size=w.heap.size+1:=bT;have aE:(aA (aA w (.map #[] 0)) (.map #[] 0)).heap.size=w.heap.size+1+1:=bT;have bU:(aA (aA (aA w (.map #[] 0)) (.map #[] 0)) (.map #[] 0)).heap.size=w.heap.size+1+1+1:=bT;have m1:=gb.made w;have m2:=gb.made (aA w (.map #[] 0));have m3:=rB.made w.heap.size (aA (aA w (.map #[] 0)) (.map #[] 0));rw[ag] at m2;rw[aE] at m3;have G: ∀(w:ai) (o:Obj),aL w w (aA w o):=λw o=>(aT _ _).alloc (bD _) o;refine⟨(((G _ _).trans ((G _ _).mono J)).trans ((G _ _).mono J)).trans ((G _ _).mono J),?_,((m1.below (G _ _)).below (G _ _)).below (G _ _),(m2.below (G _ _)).below (G _ _),m3.below (G _ _),by omega⟩;have:=ek (aA (aA (aA w (.map #[] 0)) (.map #[] 0)) (.map #[] 0)) (aw #[v,.map (some w.heap.size),.map (some (w.heap.size+1)),.map (some (w.heap.size+1+1))] 81);rw[bU] at this;exact this
def acK{w v}(hd:Hid (B.h1 L))(cC:Hid (∀k,D (B.O L k)<=100000000000))(cZ:Hid (L=E.map (·.1)))(dj:Hid (∀n∈L,D n.O<=100000000000/\D n.I<=1000000))(dp:D E<=10000)(bQ:iJ N w v E):
  aY 14 #[v] w (acC L (D E) w v):=by
 obtain⟨gX,cA,rfl⟩:=eR bQ.row rfl;have cM:=A bQ;clear bQ;have BH:= @run_makeMap prog;go_in;have bW:=A (aaV w (gX,D E,cA));go_wp2_with fail;clear BH;obtain⟨w1,fp⟩: ∃bp,bp=aA (aA (aA (aA w (.map #[] 0)) (.map #[] 0)) (.map #[] 0)) (aw #[(gX,D E,cA),.map (some w.heap.size),.map (some (w.heap.size+1)),.map (some (w.heap.size+1+1))] 81):=⟨_,rfl⟩;rw[<-fp];rw[<-fp] at bW;clear fp;obtain⟨tp,MJ⟩: ∃bp,bp=w.heap.size+1+1+1:=⟨_,rfl⟩;rw[<-MJ];rw[<-MJ] at bW;clear MJ;obtain⟨bC,e0⟩: ∃bp,bp=w.heap.size+1+1:=⟨_,rfl⟩;rw[<-e0];rw[<-e0] at bW;clear e0;obtain⟨b2,b8⟩: ∃bp,bp=w.heap.size+1:=⟨_,rfl⟩;rw[<-b8];rw[<-b8] at bW;clear b8;obtain⟨b1,ck⟩: ∃bp,bp=w.heap.size:=⟨_,rfl⟩;have rF:Hid (fO w (gX,D E,cA) b1 b2 bC tp 0 0 0 (λ_=>none) (λ_=>none) (λ_=>none) (λ_=>[]) w1):=A (by rw[ck];exact bW.o);rw[<-ck];clear bW ck;have lJ:Hid (∀w',aL w w w'->iJ N w' (gX,D E,cA) E):=A λw' G=>cM.o.vf G;go_loopg[21] (D E) (λr i wr=> ∃k:Nat,k+r=D E/\i= .int .i64 (k:Int)/\Hid (fO w (gX,D E,cA) b1 b2 bC tp k k 0 (fk L 10 k) (fk L 12 k) (λ_=>none) (λ_=>[]) wr))
 case atStart=>exact⟨0,by omega,rfl,rF⟩
 case round=>
  obtain⟨k,U,rfl,eX⟩:=hrel;generalize wr=gN at*;by_cases uk:k<D E
  .have hv:(k:Int)<D E:=(by omega);have hi:(0:Int)<=k:=(by omega);have hK:IntKind.i64.wrap (k+1)=k+1:=dI _ (by omega);obtain⟨⟨x,u⟩,aF⟩: ∃x,E[k]?=some x:=⟨_,cE uk⟩;have gj:L[k]?=some x:=(by rw[cZ.o,lW,aF];rfl);have sn:=A (dj.o x (hX gj));have iC:=A (P3 (j':=10) gj);have lx:=A (P3 (j':=12) gj);have uw:=A (lJ.o _ eX.o.av);obtain⟨g,cap,aB⟩:=dR uw.o.row (by omega);cases aB;obtain⟨bO,bq,cK,c3,c4⟩:=n_ uw.o rfl aF;have je:(x,u)∈E:=hX aF;have jN:Hid (jC N gN u x.I):=A (uw.o.I _ je);dsimp only at bO bq cK c3 c4;obtain⟨bb,aQ,rfl⟩:=eR jN.o rfl;clear aF gj je;have c1:=A (ek gN (aw #[.int .i64 x.j',.int .i64 x.an,.int .i64 x.aX,.string (str x.O),(bb,D x.I,aQ)] 53));have h':=A (eX.o.alloc (aw #[.int .i64 x.j',.int .i64 x.an,.int .i64 x.aX,.string (str x.O),(bb,D x.I,aQ)] 53));obtain⟨w2,gT⟩: ∃bp,bp=aA gN (aw #[.int .i64 x.j',.int .i64 x.an,.int .i64 x.aX,.string (str x.O),(bb,D x.I,aQ)] 53):=⟨_,rfl⟩;rw[<-gT] at c1 h';have b':=az c1.o 0;have da:=az c1.o 3;have b9:=bd c1.o;simp only[cO,cQ,c8] at b' da;have t1:=az h'.o.gB 1;have t2:=az h'.o.gB 2;have eK:=bd h'.o.gB;simp only[cO,cQ,c8] at t1 t2;have vr:=A gT;clear gT;by_cases Ax:x.j'=10
   .have TP:(x.j'==10)=true:=(by simp[Ax]);have q1:Hid (fk L 10 (k+1)=firstM (fk L 10 k) x.O k):=A (by rw[iC.o,aS Ax]);have ox:Hid (fk L 12 (k+1)=fk L 12 k):=A (by rw[lx.o,ao (by rw[Ax];decide)]);clear Ax;go_wp2_with fail;rw[<-vr.o];go_wp2_with fail;go_still_tail 7,(by kernel_rfl)
    change fo _ _ _ _ _ w2.drew;clear b' da b9 t1 t2 eK;have l_:=A h'.o.drew;generalize w2.drew=bc at*;go_wp2_with fail;refine b7 (Wd l_.o.s1 (by unfold dc;omega) (show D x.O<=dc by have:=sn.o.1;unfold dc;omega) k) λbS⟨hm,aB⟩=>?_;have nz:Hid (fO w (.slice (some ⟨g,0,none⟩) (D E) cA) b1 b2 bC tp (k+1) (k+1) 0 (fk L 10 (k+1)) (fk L 12 (k+1)) (λ_=>none) (λ_=>[]) bS):=A (by rw[q1.o,ox.o];exact(l_.o.afM hm aB).more.2);clear hm aB;go_wp2;go_roundg (D E-k- 1)
    case rel=>exact⟨k+1,by omega,by simp,nz⟩
    case measure=>omega
   .have TP:(x.j'==10)=false:=(by simpa using Ax);have q1:Hid (fk L 10 (k+1)=fk L 10 k):=A (by rw[iC.o,ao Ax]);clear Ax;by_cases mF:x.j'=12
    .have xe:(x.j'==12)=true:=(by simp[mF]);have ox:Hid (fk L 12 (k+1)=firstM (fk L 12 k) x.O k):=A (by rw[lx.o,aS mF]);clear mF;go_wp2_with fail;rw[<-vr.o];go_wp2_with fail;go_still_tail 7,(by kernel_rfl)
     change fo _ _ _ _ _ w2.drew;clear b' da b9 t1 t2 eK;have l_:=A h'.o.drew;generalize w2.drew=bc at*;go_wp2_with fail;refine b7 (Wd l_.o.s2 (by unfold dc;omega) (show D x.O<=dc by have:=sn.o.1;unfold dc;omega) k) λbS⟨hm,aB⟩=>?_;have nz:Hid (fO w (.slice (some ⟨g,0,none⟩) (D E) cA) b1 b2 bC tp (k+1) (k+1) 0 (fk L 10 (k+1)) (fk L 12 (k+1)) (λ_=>none) (λ_=>[]) bS):=A (by rw[q1.o,ox.o];exact(l_.o.afN hm aB).more.1);clear hm aB;go_wp2;go_roundg (D E-k- 1)
     case rel=>exact⟨k+1,by omega,by simp,nz⟩
     case measure=>omega
    .have xe:(x.j'==12)=false:=(by simpa using mF);have nz:Hid (fO w (.slice (some ⟨g,0,none⟩) E.length cA) b1 b2 bC tp (k+1) (k+1) 0 (fk L 10 (k+1)) (fk L 12 (k+1)) (λ_=>none) (λ_=>[]) w2):=A (by rw[q1.o,lx.o,ao mF];exact h'.o.more.1.more.2);clear mF;go_wp2_with fail;rw[<-vr.o];go_wp2;go_roundg (E.length-k- 1)
     case rel=>exact⟨k+1,by omega,by simp,nz⟩
     case measure=>omega
  .obtain rfl:k=D E:=(by omega);have hv: ¬(D E:Int)<D E:=(by omega);clear rF;go_wp2_with fail;obtain⟨uW,Ae⟩: ∃bp,bp=fk L 10 (D E):=⟨_,rfl⟩;obtain⟨M2,H4⟩: ∃bp,bp=fk L 12 (D E):=⟨_,rfl⟩;have EV:Hid (fO w (gX,D E,cA) b1 b2 bC tp (D E) (D E) 0 uW M2 (λ_=>none) (mT L 0) gN):=A (by rw[Ae,H4];exact eX.o);clear eX;go_loopg[51] (D E) (λr i wr=> ∃(k n3:Nat) (m3:List UInt8->Option af),k+r=D E/\i= .int .i64 (k:Int)/\n3<=k*1000000/\Hid (fO w (gX,D E,cA) b1 b2 bC tp (D E) (D E) n3 uW M2 m3 (mT L k) wr))
   case atStart=>exact⟨0,0,_,by omega,rfl,gp _,EV⟩
   case round=>
    obtain⟨k,n3,m3,U,rfl,EU,eX⟩:=hrel;generalize wr=gN at*;by_cases uk:k<D E
    .have hv:(k:Int)<D E:=(by omega);have hi:(0:Int)<=k:=(by omega);have hK:IntKind.i64.wrap (k+1)=k+1:=dI _ (by omega);obtain⟨⟨x,u⟩,aF⟩: ∃x,E[k]?=some x:=⟨_,cE uk⟩;have gj:L[k]?=some x:=(by rw[cZ.o,lW,aF];rfl);have br:=A (hd.o k x gj);have sn:=A (dj.o x (hX gj));have xc:=A gj;have MK:=A (λt=>Ki (t:=t) dj cZ dp (k:=k) (by omega));have uw:=A (lJ.o _ eX.o.av);obtain⟨g,cap,aB⟩:=dR uw.o.row (by omega);cases aB;obtain⟨bO,bq,cK,c3,c4⟩:=n_ uw.o rfl aF;have je:(x,u)∈E:=hX aF;have jN:Hid (∀w',aL w w w'->jC N w' u x.I):=A λw' G=>(lJ.o w' G).I _ je;dsimp only at bO bq cK c3 c4;obtain⟨bb,aQ,rfl⟩:=eR (jN.o _ eX.o.av) rfl;clear aF gj je;have c1:=A (ek gN (aw #[.int .i64 x.j',.int .i64 x.an,.int .i64 x.aX,.string (str x.O),(bb,D x.I,aQ)] 53));have h':=A (eX.o.alloc (aw #[.int .i64 x.j',.int .i64 x.an,.int .i64 x.aX,.string (str x.O),(bb,D x.I,aQ)] 53));obtain⟨w2,gT⟩: ∃bp,bp=aA gN (aw #[.int .i64 x.j',.int .i64 x.an,.int .i64 x.aX,.string (str x.O),(bb,D x.I,aQ)] 53):=⟨_,rfl⟩;rw[<-gT] at c1 h';have b':=az c1.o 0;have da:=az c1.o 3;have dQ:=az c1.o 4;have b9:=bd c1.o;simp only[cO,cQ,c8] at b' da dQ;have vr:=A gT;clear gT;by_cases nY:x.j'=14
     .have xd:(x.j'==14)=true:=(by simp[nY]);obtain⟨a,b,rest,qV,HK,ML⟩:=br.o.self nY;have x_:=V0 qV;have iL:2<=D x.I:=(by rw[qV];simp);have dG:(0:Int)<D x.I:=(by omega);have gq:(1:Int)<D x.I:=(by omega);have L':a<k:=br.o.lt a (by rw[qV];simp);have Ib:b<k:=br.o.lt b (by rw[qV];simp);obtain⟨⟨y,Bj⟩,bx⟩: ∃y,E[a]?=some y:=⟨_,cE (by omega)⟩;have qX:L[a]?=some y:=(by rw[cZ.o,lW,bx];rfl);rw[mO qX] at HK ML;have nR:0<D y.I:=List.length_pos_iff.2 HK;have DH:(0:Int)<D y.I:=(by omega);have Ut:B.O L a=B.O L (Y y.I 0 0):=aaU hd.o qX ML;have UA:Y y.I 0 0<a:=(hd.o a y qX).lt _ (pw nR);have Eo:Hid (mT L (k+1)=x2 (mT L k) (B.O L (Y y.I 0 0)) (x.O++32::B.O L b)):=A (by rw[<-Ut];exact aeg xc.o nY qV);obtain⟨_,_,_,_,d4⟩:=n_ (lJ.o _ h'.o.av) rfl bx;have xg:(y,Bj)∈E:=hX bx;have MM:jC N w2 Bj y.I:=(lJ.o _ h'.o.av).I _ xg;obtain⟨g3,vH,rfl⟩:=dR MM (by omega);have bU:=nj MM rfl nR;obtain⟨c,hc⟩: ∃c,Y y.I 0 0=c:=⟨_,rfl⟩;rw[hc] at bU UA Eo;obtain⟨g2,qW,hF⟩:=dR (jN.o _ h'.o.av) (by omega);cases hF;have vu:Hid (∀w',aL w w w'->aG w' ⟨g2,0,none⟩=some (.int .i64 (a:Int))/\aG w' ⟨g2,1,none⟩=some (.int .i64 (b:Int))):=A λw' G=>⟨by rw[nj (jN.o w' G) rfl (show 0<D x.I by omega),x_.1],by rw[nj (jN.o w' G) rfl (show 1<D x.I by omega),x_.2]⟩;have ag:=(vu.o _ h'.o.av).1;have afO:(a:Int)<E.length:=(by omega);have SR:(0:Int)<=a:=(by omega);dsimp only at d4;clear hc Ut MM xg qX bx qV x_ HK ML nY;go_upto_region 14 with fail
      rw[<-vr.o];go_wp2_with fail;refine(JD hd cC cZ tp _ _ _ c _ _ (lJ.o _ h'.o.av) (A h'.o.gB) (by omega)).mono ?_;rintro e bc ⟨rfl,e0⟩;have nz:=A (h'.o.below e0);have fu:=A (ds c1.o e0 (bd c1.o));clear e0 b' da dQ b9 d4 ag bU bO bq cK c3 c4;obtain⟨ea,oz⟩: ∃bp,gN.heap.size=bp:=⟨_,rfl⟩;rw[oz] at fu;rw[oz];clear oz;have Et:=cC.o c;have anc:=cC.o b;have Gx:=sn.o.1;have dX:Hid (∀cc,aL w w cc->ua cc tp (.slice (some ⟨g,0,none⟩) (D E) cA) (.map (some b1)) (.map (some b2)) (.map (some bC))->cc.heap[ea]?=some (aw #[.int .i64 x.j',.int .i64 x.an,.int .i64 x.aX,.string (str x.O),.slice (some ⟨g2,0,none⟩) (D x.I) aQ] 53)->gb cc bC n3 m3->(cc.cell? ⟨tp,3,none⟩=some (.map (some bC))/\cc.cell? ⟨ea,3,none⟩=some (.string (str x.O))/\cc.cell? ⟨ea,4,none⟩=some (.slice (some ⟨g2,0,none⟩) (D x.I) aQ)/\cc.cell? ⟨g2,1,none⟩=some (.int .i64 (b:Int))/\(vz 79 (.map (some bC)) (.string (str (B.O L c))) false).run prog cc= .ok ((m3 (B.O L c)).getD (.slice none 0 0)) cc)):=A λcc R T ah bJ=>by
       have t3:=az T 3;have n1:=az ah 3;have x1:=az ah 4;simp only[cO,cQ,c8] at t3 n1 x1;exact⟨t3,n1,x1,(vu.o _ R).2,bJ.Lj GO (zeroValue22 _) (by unfold dc;omega)⟩
      have s1: ∀w,(nD .add (str x.O) ⟨#[32]⟩).run prog w= .ok (.string (str (x.O++[32]))) w:=λw=>nn _ [32] _ w rfl (by rw[dW];show D x.O+1<=_;omega);have s2: ∀w,(nD .add (str (x.O++[32])) (str (B.O L b))).run prog w= .ok (.string (str (x.O++32::B.O L b))) w:=λw=>nn (x.O++[32]) (B.O L b) _ w (by simp) (by rw[dW,iq];omega);go_wp2_with fail;have pg:=A nz.o.drew;refine jT 23 (λcc=>(cc.cell? ⟨tp,3,none⟩=some (.map (some bC))/\cc.cell? ⟨ea,3,none⟩=some (.string (str x.O))/\cc.cell? ⟨ea,4,none⟩=some (.slice (some ⟨g2,0,none⟩) (D x.I) aQ)/\cc.cell? ⟨g2,1,none⟩=some (.int .i64 (b:Int))/\(vz 79 (.map (some bC)) (.string (str (B.O L c))) false).run prog cc= .ok ((m3 (B.O L c)).getD (.slice none 0 0)) cc)) (dX.o _ pg.o.av pg.o.gB fu.o pg.o.aq.1) λaD=>?_;have iO:Hid (bc.drew.heap[ea]?=some (aw #[.int .i64 x.j',.int .i64 x.an,.int .i64 x.aX,.string (str x.O),.slice (some ⟨g2,0,none⟩) (D x.I) aQ] 53)):=A fu.o;generalize bc.drew=bS at*;refine a' 0 ?_;refine a' 1 ?_;refine a' 2 ?_;refine a' 3 ?_;refine a' 4 ?_;refine a' 5 ?_;refine a' 6 ?_;refine a' 7 ?_;refine a' 8 ?_;refine a' 9 ?_;refine a' 10 ?_;refine a' 11 ?_;refine a' 12 ?_;refine a' 13 ?_;refine a' 14 ?_;refine a' 15 ?_;refine a' 16 ?_;refine a' 17 ?_;refine a' 18 ?_;refine cT 19 λK ab=>?_;go_simp;refine b7 (JD hd cC cZ tp _ _ _ b _ _ (lJ.o _ pg.o.av) (A pg.o.gB) (by omega)) λbm dh=>?_;have o7:=A (pg.o.below dh);have dn:=A (ds iO.o dh (bd iO.o));clear dh;go_wp2_with fail;refine ab.o _ _ (λ_=>dX.o _ o7.o.av o7.o.gB dn.o o7.o.aq.1) ?_;clear ab K aD;have aD:=dX.o _ o7.o.av o7.o.gB dn.o o7.o.aq.1;refine a' 20 ?_;refine cT 21 λK ab=>?_;go_simp;have qo:=A (o7.o.alloc (aw #[.string (str (x.O++32::B.O L b))] 9));refine ab.o _ _ (λ_=>dX.o _ qo.o.av qo.o.gB (hO dn.o _) qo.o.aq.1) ?_;clear ab K aD;have aD:=dX.o _ qo.o.av qo.o.gB (hO dn.o _) qo.o.aq.1;refine cT 22 λK ab=>?_;have ft:=Ki (t:=B.O L c) dj cZ dp (k:=k) (by omega);refine TO (x.O++32::B.O L b) (o7.o.aq.at (B.O L c)) (by omega) o7.o.av.size (λjE He a6 fT gl DI=>?_);have jm:=A fT;have q2:=A gl;have EW:=A DI;have sf:=A (qo.o.MG gl);clear fT gl DI;refine ab.o _ _ (λ_=>dX.o _ sf.o.1 sf.o.2.1 (sf.o.2.2.2 _ _ _ (hO dn.o _) (by decide)) sf.o.2.2.1) ?_;clear ab K aD;refine cT 23 λK ab=>?_;refine Du sf.o.2.2.1 (by unfold dc;omega) GO (show(B.O L c).length<=dc by unfold dc;omega) (λcp yL Cr=>?_);have Ay:Hid (fO w (.slice (some ⟨g,0,none⟩) (D E) cA) b1 b2 bC tp (D E) (D E) (n3+1) uW M2 _ (mT L (k+1)) cp):=A (by rw[Eo.o];exact qo.o.S0 jm.o q2.o (EW.o.elim (λe=> .inl e.symm) λe=> .inr (by rw[e];simp[tA])) yL Cr);clear yL Cr jm q2 EW sf;refine ab.o _ _ (λh=>absurd rfl h) ?_;clear ab K;refine bV ?_;go_wp2;go_roundg (D E-k- 1)
      case rel=>exact⟨k+1,n3+1,_,by omega,by simp,by omega,Ay⟩
      case measure=>omega
     .have xd:(x.j'==14)=false:=(by simpa using nY);by_cases mF:x.j'=12
      .have xe:(x.j'==12)=true:=(by simp[mF]);have Ma:Hid (∀j,j∈x.I->(Y L j eD).I≠[]):=A (br.o.ms mF);have pj:=A br.o.lt;have o8:=A (aeh xc.o mF);have Gx:=sn.o.1;have Y7:Hid (fO w (.slice (some ⟨g,0,none⟩) (D E) cA) b1 b2 bC tp E.length (D E) n3 uW M2 m3 (tN L k x 0) w2):=A (by rw[adG];exact h'.o);clear mF nY;go_wp2_with fail;rw[<-vr.o];go_wp2_with fail;clear bO bq cK c3 c4 b' da dQ b9;obtain⟨ea,oz⟩: ∃bp,gN.heap.size=bp:=⟨_,rfl⟩;rw[oz] at c1|-;clear oz vr h' MK;go_loopg[99] (D x.I) (λr i wr=> ∃(j n4:Nat) (m4:List UInt8->Option af),j+r=D x.I/\i= .int .i64 (j:Int)/\n4<=k*1000000+j/\Hid (fO w (.slice (some ⟨g,0,none⟩) (D E) cA) b1 b2 bC tp (D E) (D E) n4 uW M2 m4 (tN L k x j) wr)/\Hid (wr.heap[ea]?=some (aw #[.int .i64 x.j',.int .i64 x.an,.int .i64 x.aX,.string (str x.O),(bb,D x.I,aQ)] 53)))
       case atStart=>exact⟨0,n3,m3,by omega,rfl,hg EU (Nat.le_add_right _ _),Y7,c1⟩
       case round=>
        obtain⟨j,n4,m4,bg,rfl,ant,ym,ov⟩:=hrel;generalize wr=bH at*;by_cases cr:j<D x.I
        .have kM:(j:Int)<D x.I:=(by omega);have me:(0:Int)<=j:=(by omega);have Mc:=sn.o.2;have ti:IntKind.i64.wrap (j+1)=j+1:=dI _ (by omega);obtain⟨g2,qW,hF⟩:=dR (jN.o _ ym.o.av) (by omega);cases hF;have mD:=nj (jN.o _ ym.o.av) rfl cr;have vW:=pj.o _ (pw cr);have xf:=Ma.o _ (pw cr);have HG:=A (adH (L:=L) (k:=k) cr);obtain⟨a,fB⟩: ∃a,Y x.I j 0=a:=⟨_,rfl⟩;rw[fB] at mD vW xf HG;clear fB;obtain⟨⟨y,Bj⟩,bx⟩: ∃y,E[a]?=some y:=⟨_,cE (by omega)⟩;have qX:L[a]?=some y:=(by rw[cZ.o,lW,bx];rfl);have ya:qd L a=y.O++32::B.O L (Y y.I 0 0):=(by unfold qd;rw[mO qX]);rw[mO qX] at xf;have anH:=(dj.o y (hX qX)).1;have xg:(y,Bj)∈E:=hX bx;have nR:0<D y.I:=List.length_pos_iff.2 xf;obtain⟨g3,vH,iD⟩:=dR ((lJ.o _ ym.o.av).I _ xg) (by omega);dsimp only at iD;subst iD;have yj:=(hd.o a y qX).lt _ (pw nR);have ajC:(0:Int)<D y.I:=(by omega);have pO:Hid (∀cc,aL w w cc->cc.cell? ⟨g,a*5+3,none⟩=some (.string (str y.O))/\cc.cell? ⟨g,a*5+4,none⟩=some (.slice (some ⟨g3,0,none⟩) (D y.I) vH)/\cc.cell? ⟨g3,0,none⟩=some (.int .i64 ((Y y.I 0 0:Nat):Int))):=A λcc G=>by
          obtain⟨_,_,_,d3,d4⟩:=n_ (lJ.o cc G) rfl bx;exact⟨d3,d4,nj ((lJ.o cc G).I _ xg) rfl nR⟩
         obtain⟨c,qR⟩: ∃c,Y y.I 0 0=c:=⟨_,rfl⟩;rw[qR] at ya yj pO;clear qR xf bx qX xg;have afO:(a:Int)<D E:=(by omega);have SR:(0:Int)<=a:=(by omega);have ane:=cC.o c;have s1: ∀w,(nD .add (str y.O) ⟨#[32]⟩).run prog w= .ok (.string (str (y.O++[32]))) w:=λw=>nn _ [32] _ w rfl (by rw[dW];show D y.O+1<=_;omega);have s2: ∀w,(nD .add (str (y.O++[32])) (str (B.O L c))).run prog w= .ok (.string (str (qd L a))) w:=λw=>nn (y.O++[32]) (B.O L c) (qd L a) w (by rw[ya];simp) (by rw[ya,dW,iq];omega);clear ya;have dX:Hid (∀cc,aL w w cc->ua cc tp (.slice (some ⟨g,0,none⟩) (D E) cA) (.map (some b1)) (.map (some b2)) (.map (some bC))->cc.heap[ea]?=some (aw #[.int .i64 x.j',.int .i64 x.an,.int .i64 x.aX,.string (str x.O),.slice (some ⟨g2,0,none⟩) (D x.I) aQ] 53)->gb cc bC n4 m4->(cc.cell? ⟨tp,3,none⟩=some (.map (some bC))/\cc.cell? ⟨ea,3,none⟩=some (.string (str x.O))/\(vz 79 (.map (some bC)) (.string (str x.O)) false).run prog cc= .ok ((m4 x.O).getD (.slice none 0 0)) cc/\cc.cell? ⟨g,a*5+3,none⟩=some (.string (str y.O))/\cc.cell? ⟨g,a*5+4,none⟩=some (.slice (some ⟨g3,0,none⟩) (D y.I) vH)/\cc.cell? ⟨g3,0,none⟩=some (.int .i64 (c:Int)))):=A λcc R T ah bJ=>by
          have t3:=az T 3;have n1:=az ah 3;simp only[cO,cQ,c8] at t3 n1;exact⟨t3,n1,bJ.Lj GO (zeroValue22 _) (by unfold dc;omega),pO.o _ R⟩
         go_wp2_with fail;have pg:=A ym.o.drew;refine jT 31 (λcc=>(cc.cell? ⟨tp,3,none⟩=some (.map (some bC))/\cc.cell? ⟨ea,3,none⟩=some (.string (str x.O))/\(vz 79 (.map (some bC)) (.string (str x.O)) false).run prog cc= .ok ((m4 x.O).getD (.slice none 0 0)) cc/\cc.cell? ⟨g,a*5+3,none⟩=some (.string (str y.O))/\cc.cell? ⟨g,a*5+4,none⟩=some (.slice (some ⟨g3,0,none⟩) (D y.I) vH)/\cc.cell? ⟨g3,0,none⟩=some (.int .i64 (c:Int)))) (dX.o _ pg.o.av pg.o.gB ov.o pg.o.aq.1) λaD=>?_;have iO:Hid (bH.drew.heap[ea]?=some (aw #[.int .i64 x.j',.int .i64 x.an,.int .i64 x.aX,.string (str x.O),.slice (some ⟨g2,0,none⟩) (D x.I) aQ] 53)):=A ov.o;generalize bH.drew=bS at*;refine a' 0 ?_;refine a' 1 ?_;refine a' 2 ?_;refine a' 3 ?_;refine a' 4 ?_;refine a' 5 ?_;refine a' 6 ?_;refine a' 7 ?_;refine a' 8 ?_;refine a' 9 ?_;refine a' 10 ?_;refine a' 11 ?_;refine a' 12 ?_;refine a' 13 ?_;refine a' 14 ?_;refine a' 15 ?_;refine a' 16 ?_;refine a' 17 ?_;refine a' 18 ?_;refine a' 19 ?_;refine a' 20 ?_;refine a' 21 ?_;refine a' 22 ?_;refine a' 23 ?_;refine a' 24 ?_;refine a' 25 ?_;refine a' 26 ?_;refine cT 27 λK ab=>?_;go_simp;refine b7 (JD hd cC cZ tp _ _ _ c _ _ (lJ.o _ pg.o.av) (A pg.o.gB) (by omega)) λbm dh=>?_;have o7:=A (pg.o.below dh);have dn:=A (ds iO.o dh (bd iO.o));clear dh;go_wp2_with fail;refine ab.o _ _ (λ_=>dX.o _ o7.o.av o7.o.gB dn.o o7.o.aq.1) ?_;clear ab K aD;have aD:=dX.o _ o7.o.av o7.o.gB dn.o o7.o.aq.1;refine a' 28 ?_;refine cT 29 λK ab=>?_;go_simp;have qo:=A (o7.o.alloc (aw #[.string (str (qd L a))] 9));refine ab.o _ _ (λ_=>dX.o _ qo.o.av qo.o.gB (hO dn.o _) qo.o.aq.1) ?_;clear ab K aD;have aD:=dX.o _ qo.o.av qo.o.gB (hO dn.o _) qo.o.aq.1;refine cT 30 λK ab=>?_;have ft:=aej (t:=x.O) dj cZ dp (k:=k) (by omega) Mc j;refine TO (qd L a) (o7.o.aq.at x.O) (by omega) o7.o.av.size (λjE He a6 fT gl DI=>?_);have jm:=A fT;have q2:=A gl;have EW:=A DI;have sf:=A (qo.o.MG gl);clear fT gl DI;have hk:=A (sf.o.2.2.2 _ _ _ (hO dn.o _) (by decide));refine ab.o _ _ (λ_=>dX.o _ sf.o.1 sf.o.2.1 hk.o sf.o.2.2.1) ?_;clear ab K aD;refine cT 31 λK ab=>?_;refine Du sf.o.2.2.1 (by unfold dc;omega) GO (show D x.O<=dc by unfold dc;omega) (λcp yL Cr=>?_);have Ay:Hid (fO w (.slice (some ⟨g,0,none⟩) (D E) cA) b1 b2 bC tp (D E) (D E) (n4+1) uW M2 _ (tN L k x (j+1)) cp):=A (by rw[HG.o];exact qo.o.S0 jm.o q2.o (EW.o.elim (λe=> .inl e.symm) λe=> .inr (by rw[e];simp[tA])) yL Cr);have tg:Hid (cp.heap[ea]?=some (aw #[.int .i64 x.j',.int .i64 x.an,.int .i64 x.aX,.string (str x.O),.slice (some ⟨g2,0,none⟩) (D x.I) aQ] 53)):=A ((Cr.block ea (bd hk.o) (λe=>by
          cases e;obtain⟨es,dL,bX⟩:=sf.o.2.2.1.obj;have hU:=hk.o;rw[bX] at hU;cases hU)).trans hk.o)
         clear yL Cr jm q2 EW sf;refine ab.o _ _ (λh=>absurd rfl h) ?_;clear ab K;refine bV ?_;go_wp2;go_roundg (D x.I-j- 1)
         case rel=>exact⟨j+1,n4+1,_,by omega,by simp,by omega,Ay,tg⟩
         case measure=>omega
        .obtain rfl:j=D x.I:=(by omega);have kM: ¬(D x.I:Int)<D x.I:=(by omega);have Mc:=sn.o.2;have Ay:Hid (fO w (.slice (some ⟨g,0,none⟩) (D E) cA) b1 b2 bC tp (D E) (D E) n4 uW M2 m4 (mT L (k+1)) bH):=A (by rw[<-o8.o];exact ym.o);go_wp2;go_roundg (D E-k- 1)
         case rel=>exact⟨k+1,n4,m4,by omega,by simp,by omega,Ay⟩
         case measure=>omega
      .have xe:(x.j'==12)=false:=(by simpa using mF);have Ay:Hid (fO w (.slice (some ⟨g,0,none⟩) (D E) cA) b1 b2 bC tp (D E) (D E) n3 uW M2 m3 (mT L (k+1)) w2):=A (by rw[adI xc.o nY mF];exact h'.o);clear mF nY;go_wp2_with fail;rw[<-vr.o];go_wp2;go_roundg (D E-k- 1)
       case rel=>exact⟨k+1,n3,m3,by omega,by simp,hg EU (Nat.mul_le_mul_right _ (Nat.le_succ k)),Ay⟩
       case measure=>omega
    .obtain rfl:k=D E:=(by omega);have hv: ¬(D E:Int)<D E:=(by omega);have t3:=az eX.o.gB 3;have eK:=bd eX.o.gB;simp only[cO,cQ,c8] at t3;obtain⟨BC,Ud,Ub⟩:=eX.o.aq.1;have Yw:=A Ud;have HH:=A Ub;have L3:=A (λt=>Ki (t:=t) dj cZ dp (bD (D E)));have HI:Hid (mT L (D E)=gv L):=A (aei (by rw[cZ.o,h2]));generalize mT L (D E)=GL at*;clear Ud Ub EV;go_wp2_with(at_range;refine wpList_range_own _ rfl _ 79 rfl 9 22 Gv GO wm bC n3 BC rfl Yw.o ?_;intro w0 S2 Cs vN;have Zd:=A S2;have YG:=A Cs;clear S2 Cs vN)
     go_loopg[12] (Maps.size BC) (λr _ wr=> ∃left:Lit->Bool,Hid (wr.ranges prog 9 wm bC gN.heap.size n3 BC left r)/\Hid (fO w (gX,D E,cA) b1 b2 bC tp (D E) (D E) n3 uW M2 m3 (tW left GL) wr))
     case atStart=>exact⟨_,Zd,A (by
      have e:tW (Maps.has BC) GL=GL:=by
       funext y
       unfold tW;rw[(HH.o y).2];cases hm:m3 y with
       |none=>rw[eX.o.aq.2.1 y hm];rfl
       |some _=>rfl
      rw[e];exact eX.o.new YG.o)⟩
     case round=>
      obtain⟨left,cP,HOr⟩:=hrel;generalize wr=bH at*;go_wp2_with(at_next;refine wpList_next_ranges _ rfl _ rfl 9 Gv wm (λx:List UInt8=>mm (str x)) (λx:af=>x) (λkey AX h=>by obtain⟨x,aF,_⟩:=Ra h;exact⟨x,aF⟩) (λv y _=>⟨v,rfl⟩) bC gN.heap.size n3 BC _ _ rfl cP.o ?_ ?_)
      .intro _ dG;have MN:=A dG;clear dG;go_wp2;go_returns;exact⟨b1,b2,bC,tp,D E,D E,n3,m3,rfl,by
        have e:tW left GL=λt=>fw (gv L t):=by
         funext y
         unfold tW;rw[MN.o,<-HI.o];rfl
        rw[<-Ae,<-H4,<-e];exact HOr.o⟩
      .intro x c AX y ps w1 S3 S4 yM ET e1 S5 bN HJ gE aiY;obtain⟨fc,ex,rfl⟩:=Ra S4;obtain rfl:x=fc:=by
        have:=congrArg (λv=>match v with| .string s=>aC s|_=>[]) ex;simpa[f_] using this
       cases ET;have H6:m3 x=some c:=Gu ((HH.o x).1.symm.trans (e1 .nil));have h':Hid (fO w (gX,D E,cA) b1 b2 bC tp (D E) (D E) n3 uW M2 m3 (tW left GL) w1):=A (by
        obtain⟨_,_,_,_,_,_,_,_,_,hit,_⟩:=cP.o;exact HOr.o.iter ⟨_,_,_,_,hit⟩ eX.o.av.size HJ)
       have h4:=h'.o.aq.2.2.1 x c H6;have Uh:tW left GL x=GL x:=(by unfold tW;rw[aS yM]);rw[Uh] at h4;have Bs:=A h4;have YZ:=A H6;have S6:=A S5;clear S4 yM e1 HJ gE H6 h4 Uh S5 ex;have ann:=L3.o x;go_wp2_with fail;refine b7 (ae_ Bs.o.2 Bs.o.1 (by omega)) λw2⟨pL,hF⟩=>?_;have l_:Hid (fO w (gX,D E,cA) b1 b2 bC tp (D E) (D E) n3 uW M2 m3 (tW (λbp=>left bp&&!bp.sameKey (.string x)) GL) w2):=A (by
        rw[Yj];exact h'.o.aew YZ.o (λe=>Bs.o.1 (List.eq_nil_of_length_eq_zero (by rw[<-Gw,e];rfl))) pL hF)
       have lr:Hid (w2.ranges prog 9 wm bC gN.heap.size n3 BC (λbp=>left bp&&!bp.sameKey (.string x)) S3):=A (S6.o.kept hF (λe=>by
        obtain⟨es,dL,bX⟩:=h'.o.aq.1.obj;obtain⟨g,cap,cur,hu,_,G⟩:=db.blk Bs.o.2 Bs.o.1;rw[hu] at e;cases e;rw[bX] at G;cases G) (row_ne_iter Bs.o.2 S6.o))
       clear pL hF aiY;go_wp2;go_roundg S3
       case rel=>exact⟨_,lr,l_⟩
       case measure=>omega
end
end Go.Proofs.YtjfkhpkicioakaaGreatDoor
