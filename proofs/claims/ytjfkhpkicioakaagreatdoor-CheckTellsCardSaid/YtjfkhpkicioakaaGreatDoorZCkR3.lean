/- PROVED HERE: the checker of the reference, walked. No condition. -/
import Derived.Test.YtjfkhpkicioakaaGreatDoorZLx1
import Derived.Test.YtjfkhpkicioakaaGreatDoorZCkR2
import Derived.Test.YtjfkhpkicioakaaGreatDoorZP2
import Derived.Deep.CutBlock
set_option maxRecDepth 100000
set_option maxHeartbeats 60000000
set_option linter.all false
open Go renaming Ending->e7,Value->af,World->ai,wpList->fo
open Go.RowKit renaming Below->aL
open Go.World renaming alloc->aA,cell?->aG,setCell->a7
open List renaming drop_eq_nil_of_le->GK,getD->Y,length->D,replicate->ef
open Go.Proofs.YtjfkhpkicioakaaGreatDoor.B hiding cI ch fail i' ja l5 named
open Go.Proofs.Tryz
namespace Go.Proofs.YtjfkhpkicioakaaGreatDoor
open Go.RowKit
namespace Rk
open Ck
def jb (L:List aP)(E':y2)(k:Nat)(t:bz)(s1:b5):df:=
 if(Z L k).j'=17 then(bl (t !=[]&&t !=iK) 8 k [] s1).M λ_ s2=>declare L k s2
 else if(Z L k).j'=18 then(E' .b6 (bM L k 1) s1).M λu s2=>bl (rl L (bM L k 0) s2&&fS L u t) 8 k [] s2
 else if(Z L k).j'=20 then(E' .b6 (bM L k 1) s1).M λu s2=>bl (p_ L t u) 8 k [] s2
 else if(Z L k).j'=19 then bl (qF L k 0==38||qF L k 0==45) 8 k [] s1
 else if(Z L k).j'=21 then bl (qF L k 0==38) 8 k [] s1
 else if(Z L k).j'=30 then bl (fq t).isSome 8 k [] s1
 else if(Z L k).j'=31 then bl (t==g') 8 k [] s1
 else if(Z L k).j'=32 then bl (t==g'||t==e6) 8 k [] s1
 else if(Z L k).j'=22 then(E' .block (bM L k 1) s1).M λ_ s2=>
  (if 2<(Z L k).I.length then(if qF L k 2=22 then E' .stmt (bM L k 2) s2 else E' .block (bM L k 2) s2) else .ok [] s2).M λ_ aq=>bl (t==e6) 8 k [] aq
 else if(Z L k).j'=23 then(E' .block (bM L k 1) {s1 with cx:=s1.cx+1}).M λ_ s2=>bl (t==e6) 8 k [] {s2 with cx:=s2.cx- 1}
 else if(Z L k).j'=24 then
  if(Z L k).I=[] then bl (s1.res==[]) 9 k [] s1
  else(bl (s1.res !=[]) 9 k [] s1).M λ_ s2=>bl (fS L t s2.res) 8 k [] s2
 else if(Z L k).j'=25 then bl (decide (0<s1.cx)) 8 k [] s1
 else if(Z L k).j'=26 then(each (E' .one) (Z L k).I s1).M λ_ s2=>bl (decide (D ((Z L k).I.filter λa=>(Z L a).j'==29)<2)) 7 k [] s2
 else .ok [] s1
def oc (x:aP):Bool:=decide (0<D x.I)&&!(x.j'==26)
def aeb{L E' k s x}(aF:Z L k=x)(hc:ct 2 x.j'=true)(hl:D x.I=D (B.pat x.j' x.aX (D x.I))):
  ja L E' k s=if oc x=true then(E' .b6 (bM L k 0) s).M (jb L E' k) else jb L E' k [] s:=by
 have key:x.j'=17\/x.j'=18\/x.j'=19\/x.j'=20\/x.j'=21\/x.j'=22\/x.j'=23\/x.j'=24\/x.j'=25\/x.j'=26\/x.j'=30\/x.j'=31\/x.j'=32:=by
  unfold ct at hc;simp at hc;omega
 have bY: ∀e:Int,x.j'=e->e≠26->0<D x.I->oc x=true:=λe R T ah=>by unfold oc;rw[R];simp[T,ah]
 obtain e|e|e|e|e|e|e|e|e|e|e|e|e:=key
 case inr.inr.inr.inr.inr.inr.inr.inl=>
  by_cases U:x.I=[]
  .rw[ao (by unfold oc;simp[U])];unfold ja jb;rw[aF];simp[e,U]
  .rw[aS (bY _ e aN (List.length_pos_iff.2 U))];unfold ja jb;rw[aF];simp only[e,U];rfl
 case inr.inr.inr.inr.inr.inr.inr.inr.inl=>
  have U:x.I=[]:=List.eq_nil_of_length_eq_zero (by rw[hl,e];rfl);rw[ao (by unfold oc;simp[U])];unfold ja jb;rw[aF];simp only[e];rfl
 case inr.inr.inr.inr.inr.inr.inr.inr.inr.inl=>
  rw[ao (by unfold oc;simp[e])];unfold ja jb;rw[aF];simp only[e];rfl
 all_goals
  rw[aS (bY _ e aN (by rw[hl,e];first|(unfold B.pat;simp;done)|(unfold B.pat;simp;split<;>decide)))];unfold ja jb;rw[aF];simp only[e];rfl
section
variable{L:List aP}{E':y2}{k:Nat}{t:bz}{s1:b5}
def ag2(e:(Z L k).j'=17):jb L E' k t s1=(bl (t !=[]&&t !=iK) 8 k [] s1).M λ_ s2=>declare L k s2:=by unfold jb;rw[aS e]
def ag3(e:(Z L k).j'=18):jb L E' k t s1=(E' .b6 (bM L k 1) s1).M λu s2=>bl (rl L (bM L k 0) s2&&fS L u t) 8 k [] s2:=by unfold jb;rw[ao J,aS e]
def ag4(e:(Z L k).j'=20):jb L E' k t s1=(E' .b6 (bM L k 1) s1).M λu s2=>bl (p_ L t u) 8 k [] s2:=by unfold jb;rw[ao J,ao J,aS e]
def ag5(e:(Z L k).j'=19):jb L E' k t s1=bl (qF L k 0==38||qF L k 0==45) 8 k [] s1:=by unfold jb;rw[ao J,ao J,ao J,aS e]
def ag6(e:(Z L k).j'=21):jb L E' k t s1=bl (qF L k 0==38) 8 k [] s1:=by unfold jb;rw[ao J,ao J,ao J,ao J,aS e]
def ag7(e:(Z L k).j'=30):jb L E' k t s1=bl (fq t).isSome 8 k [] s1:=by unfold jb;rw[ao J,ao J,ao J,ao J,ao J,aS e]
def ag8(e:(Z L k).j'=31):jb L E' k t s1=bl (t==g') 8 k [] s1:=by unfold jb;rw[ao J,ao J,ao J,ao J,ao J,ao J,aS e]
def ag9(e:(Z L k).j'=32):jb L E' k t s1=bl (t==g'||t==e6) 8 k [] s1:=by unfold jb;rw[ao J,ao J,ao J,ao J,ao J,ao J,ao J,aS e]
def ag'(e:(Z L k).j'=22):jb L E' k t s1=(E' .block (bM L k 1) s1).M λ_ s2=>(if 2<(Z L k).I.length then(if qF L k 2=22 then E' .stmt (bM L k 2) s2 else E' .block (bM L k 2) s2) else .ok [] s2).M λ_ aq=>bl (t==e6) 8 k [] aq:=by unfold jb;rw[ao J,ao J,ao J,ao J,ao J,ao J,ao J,ao J,aS e]
def ag_(e:(Z L k).j'=23):jb L E' k t s1=(E' .block (bM L k 1) {s1 with cx:=s1.cx+1}).M λ_ s2=>bl (t==e6) 8 k [] {s2 with cx:=s2.cx- 1}:=by unfold jb;rw[ao J,ao J,ao J,ao J,ao J,ao J,ao J,ao J,ao J,aS e]
def Tp(e:(Z L k).j'=24):jb L E' k t s1=(if(Z L k).I=[] then bl (s1.res==[]) 9 k [] s1 else(bl (s1.res !=[]) 9 k [] s1).M λ_ s2=>bl (fS L t s2.res) 8 k [] s2):=by unfold jb;rw[ao J,ao J,ao J,ao J,ao J,ao J,ao J,ao J,ao J,ao J,aS e]
def aha(e:(Z L k).j'=25):jb L E' k t s1=bl (decide (0<s1.cx)) 8 k [] s1:=by unfold jb;rw[ao J,ao J,ao J,ao J,ao J,ao J,ao J,ao J,ao J,ao J,ao J,aS e]
def ahb(e:(Z L k).j'=26):jb L E' k t s1=(each (E' .one) (Z L k).I s1).M λ_ s2=>bl (decide (D ((Z L k).I.filter λa=>(Z L a).j'==29)<2)) 7 k [] s2:=by unfold jb;rw[ao J,ao J,ao J,ao J,ao J,ao J,ao J,ao J,ao J,ao J,ao J,ao J,aS e]
end
def Gm(t):(t !=[])=!(str t).toList.isEmpty:=by rw[fC,f_];cases t<;>rfl
def Kt{t}:(t==[])=(str t).toList.isEmpty:=by rw[fC,f_];cases t<;>rfl
def aaW{j' aX len}(hc:ct 2 j'=true)(z8:j'≠26)(hl:0<len)(c6:len=D (B.pat j' aX len)):Y (B.pat j' aX len) 0 0=1:=by
 have key:j'=17\/j'=18\/j'=19\/j'=20\/j'=21\/j'=22\/j'=23\/j'=24\/j'=25\/j'=30\/j'=31\/j'=32:=by
  unfold ct at hc;simp at hc;omega
 obtain e|e|e|e|e|e|e|e|e|e|e|e:=key
 all_goals subst e
 case inr.inr.inr.inr.inr.inl=>show(if len=3 then[1,16,23] else[1,16]).getD 0 0=1;split<;>rfl
 case inr.inr.inr.inr.inr.inr.inr.inl=>show(ef (min len 1) 1).getD 0 0=1;rw[Nat.min_eq_right J];rfl
 case inr.inr.inr.inr.inr.inr.inr.inr.inl=>exact absurd c6 (by show¬len=0;omega)
 all_goals rfl
section
variable{L:List aP}{E:List (aP×af)}{cG:Nat}{w0:ai}{p:Nat}{nv tv uv:af}{w:ai}
def aaX(V:Hid (eL L E cG w0 nv)){k f}(U:k<D E)(lj:ct 2 (Z L k).j'=true)(dy:Hid (∀j,j<k->sB L w0 p nv tv uv j f))
 {b_ s fl}(h:dK w0 p nv tv uv w b_ s fl)(dT:iF L s k):aY 86 #[(p,0),k] w (p1 L w0 p nv tv uv 1 (bE L (f+1) .stmt k s) s fl w):=by
 obtain⟨g,cA,x,bb,aQ,rfl,cg⟩:=V.o.gQ h.av U;have br:=A cg;have ax:=cg.Z;have kP:Hid (∀i,bM L k i=Y x.I i 0):=A λi=>by unfold bM;rw[ax]
 rw[ax] at lj;have ba:Hid (bE L (f+1) .stmt k s=if oc x=true then(bE L f .b6 (Y x.I 0 0) s).M (jb L (bE L f) k) else jb L (bE L f) k [] s):=A (by rw[<-kP.o 0];exact aeb ax lj cg.ly.len);have qt:Hid (x.j'=17\/x.j'=18\/x.j'=19\/x.j'=20\/x.j'=21\/x.j'=22\/x.j'=23\/x.j'=24\/x.j'=25\/x.j'=26\/x.j'=30\/x.j'=31\/x.j'=32):=A (by
  unfold ct at lj;simp at lj;omega)
 have ny:=A lj;have gd:=A dT;have iM:=A cg.ly.len;obtain⟨bO,bq,cK,c3,c4⟩:=cg.cells w h.av;obtain⟨b',_,_,_,_⟩:=h.at;have b9:=bd h.blk;have⟨hv,hi⟩:(k:Int)<D E/\(0:Int)<=k:=J;have H1:=A (h.alloc (hb x bb aQ));have cJ:Hid (Fr p tv uv w (aA w (hb x bb aQ))):=A (Fr.below ((aT w w).alloc (bD _) _));have nQ:=A (ek w (hb x bb aQ));have qk:w.heap.size<(aA w (hb x bb aQ)).heap.size:=bT;clear h dT lj cg;go_in;have Go:=0;go_upto_region 3 with fail
 generalize fp:aA w (hb x bb aQ)=w1 at*;generalize w.heap.size=q at*;have dx:Hid (∀w',Fr p tv uv w1 w'->aG w' q=some [x.j']/\aG w' (q,4)=some (bb,D x.I,aQ)/\q<w'.heap.size):=A λw' aI=>by
  have a_:=H1.o.node aI nQ.o;exact⟨az a_ 0,az a_ 4,bd a_⟩
 have H:=fx H1.o gd.o ba.o;obtain⟨bO,c4,cW⟩:=dx.o w1 Fr.refl;go_cut[34] from 26 to 34 (λakE dN=>akE= .bool (oc x)/\Hid (dN=w1))
 case first=>
  by_cases hl:0<D x.I
  .have gq:(0:Int)<D x.I:=J;by_cases z8:x.j'=26
   .have bY:oc x=false:=(by unfold oc;simp[z8]);have ahq:(x.j' !=26)=false:=(by simp[z8]);replace bY:=A bY;go_wp2;go_meet;exact⟨by rw[bY.o],A rfl⟩
   .have bY:oc x=true:=(by unfold oc;simp[z8,hl]);have ahq:(x.j' !=26)=true:=(by simp[z8]);replace bY:=A bY;go_wp2;go_meet;exact⟨by rw[bY.o],A rfl⟩
  .have bY:oc x=false:=(by unfold oc;simp[hl]);have gq: ¬(0:Int)<D x.I:=J;replace bY:=A bY;go_wp2;go_meet;exact⟨by rw[bY.o],A rfl⟩
 case rest=>
 obtain⟨rfl,hw⟩:=hcut;obtain rfl:=hw.o;generalize wc=w1 at*;obtain⟨b',c9,cw,dQ,ij,fg,b9⟩:=hA H;go_upto_if 34 with fail;go_cut[5] from 34 to 40 (λv5 dN=> ∃(t:bz) (s1:b5) (iQ:Option (Int×Int)),v5= t/\Hid (fJ L w0 p (g,D E,cA) tv uv k s fl (bE L (f+1) .stmt k s) w1 0 dN s1 iQ (jb L (bE L f) k t s1))/\Hid (oc x=true->iQ=none->(Z L (Y x.I 0 0)).j'=36->0<=Y s1.eJ (Y x.I 0 0) (-1)))
 case first=>
  cases bY:oc x with
  |false=>
   have H:=iw (by rw[ao (by rw[bY];decide)]) H;go_wp2;go_meet;exact⟨[],s,fl,rfl,H,A λh=>by rw[bY] at h;cases h⟩
  |true=>
   have hl:0<D x.I:=(by unfold oc at bY;simp at bY;exact bY.1);have z8:x.j'≠26:=(by unfold oc at bY;simp at bY;exact bY.2);have gq:(0:Int)<D x.I:=J;obtain⟨g2,rfl,cu⟩:=br.o.bM w1 0 H1.o.av hl;have aH:=br.o.at hl;have aiS:ct 1 (Z L (Y x.I 0 0)).j'=true:=by
    have T:=aH.2;rw[aaW ny.o z8 hl iM.o] at T;exact T
   have H:=iw (aS bY) H;clear bY hl;generalize Y x.I 0 0=a0 at*;go_wp2;refine IB dy ⟨aH.1,aiS⟩ (λw2 t s2 ey bI hu _ _ H=>?_) H;go_wp2;go_meet;exact⟨t,s2,ey,rfl,H,A λ_=>hu⟩
 case rest=>
  obtain⟨t,s1,iQ,rfl,eU,ia⟩:=hcut;clear H;have H:=eU;generalize wc=w2 at*;have hV:Hid (∀(cs:List Nat),B.pat x.j' x.aX (D x.I)=cs-> ∀i,i<D cs->i<D x.I/\Y x.I i 0<k/\ct (Y cs i 0) (Z L (Y x.I i 0)).j'=true):=A λcs aJ i ay=>by
   have hl:i<D x.I:=(by rw[iM.o,aJ];exact ay);have:=br.o.at hl;rw[aJ] at this;exact⟨hl,this⟩
  obtain⟨bO,c4,cW⟩:=dx.o w2 H.o.fr;obtain⟨b',c9,cw,dQ,ij,fg,b9⟩:=hA H;obtain e|e|e|e|e|e|e|e|e|e|e|e|e:=qt.o
  all_goals rw[e] at bO
  .have H:=iw (ag2 (by rw[br.o.Z];exact e)) H;have jZ:Hid ((Z L k).j'=17):=A (by rw[br.o.Z];exact e);have cM:Hid ((t !=[]&&t !=iK)=(!(str t).toList.isEmpty&&!((str t).toList==[110,105,108]))):=A (by rw[Gm,bne,ir];rfl);cases i1:(str t).toList.isEmpty<;>cases i2:((str t).toList==[110,105,108])
   all_goals
    rw[i1,i2] at cM;go_wp2;refine pB V U cM.o.symm (λbc iW H=>?_) H;go_wp2;revert H;refine acU V U (.inr (.inl jZ.o)) aN (λbS bA jy H=>?_);go_wp2;go_returns;exact oG aN cJ H
  .obtain⟨gq,k5⟩:=hV.o [1,1] (by rw[e];rfl) 1 aN;obtain⟨dG,hi⟩:=hV.o [1,1] (by rw[e];rfl) 0 aN;obtain⟨g2,rfl,cu⟩:=br.o.bM w2 1 H.o.av gq;have uG:Hid (∀w',aL w0 w0 w'->aG w' g2=some [(x.I.getD 0 0:Int)]):=A λw' G=>by
    obtain⟨g3,iD,ah⟩:=br.o.bM w' 0 G dG;cases iD;exact ah
   have⟨tY,uc⟩:(1:Int)<D x.I/\(0:Int)<D x.I:=J;have H:=iw (ag3 (by rw[br.o.Z];exact e)) H;rw[kP.o,kP.o] at H;have bY:oc x=true:=(by unfold oc;rw[e];simp;omega);replace ia:=A (ia.o bY);obtain⟨_,_,y,pY,sy,hG,dZ⟩:=V.o.gQ (k:=Y x.I 0 0) H.o.av J;cases hG;have Ab:=A dZ.cells;have Fi:=A dZ;have sv:=A dZ.Z;clear bY dZ;generalize Y x.I 1 0=a1 at*;generalize Y x.I 0 0=a0 at*;have⟨fB,v7,qV⟩:(a0:Int)<D E/\(0:Int)<=a0/\a0<D E:=J;have Tq:a0<k:=hi.1;go_wp2;revert H;refine IB dy ⟨k5.1,k5.2⟩ (λbc u aq iW U' _ ajz mX H=>?_);have D8:Hid (iW=none->(Z L a0).j'=36->0<=Y aq.eJ a0 (-1)):=A λR T=>ajz _ (ia.o (mX R) T);obtain⟨bO,c4,cW⟩:=dx.o bc H.o.fr;obtain⟨b',_,_,_,_,_,b9⟩:=hA H;have cl:=uG.o bc H.o.av;obtain⟨dY,ag,aE,bU,cL⟩:=Ab.o bc H.o.av;have ih:=World.block_lt_of_cell? _ _ cl;have le:=World.block_lt_of_cell? _ _ dY;dsimp only at ih le;have H:=j5 H (((aT bc bc).alloc (bD _) (hb y pY sy)).drew);have b8:=ek bc (hb y pY sy);have t_:Hid ((aA bc (hb y pY sy)).drew.heap[bc.heap.size]?=some (.cells #[y.j',y.an,y.aX,y.O,(pY,D y.I,sy)] 53 (0,0))):=A b8;clear b8;go_wp2;go_region
   generalize afn:(aA bc (hb y pY sy)).drew=bS at*;generalize bc.heap.size=da at*;have j4:=az t_.o 0;have n3:=az t_.o 3;have n4:=az t_.o 4;have nl:=bd t_.o;obtain⟨bO,c4,cW⟩:=dx.o bS H.o.fr;obtain⟨b',c9,cw,dQ,ij,fg,b9⟩:=hA H;have cl:=uG.o bS H.o.av;cases i1:(y.j'==36) with
   |true=>
    have bx:y.j'=36:=(by simpa using i1);have nC:Hid (∀aq:b5,rl L a0 aq=!((Z L (Y aq.eJ a0 0).toNat).j'==13)):=A λaq=>by unfold rl;rw[sv.o,aS bx]
    have i2:(y.j'==37)=false:=(by rw[bx];rfl);cases iW with
    |some f0=>
     have fg:aG bS (p,6)=some (.bool true):=fg;have H:=N1 rfl H (bl false 8 k [] aq);go_wp2;revert H;refine zr V (λb4 H=>?_);go_wp2;refine nL V U rfl (λb3 sr H=>?_) H;go_wp2;go_returns;exact oG aN cJ H
    |none=>
     have fg:aG bS (p,6)=some (.bool false):=fg;have lz:=D8.o rfl (by rw[sv.o];exact bx);rw[nC.o] at H;obtain⟨pS,rD⟩:=H.o.st;have BI:=H.o.step Tq;obtain⟨eF,fQ,uz⟩:=dR rD.us (by rw[BI.us,V.o.eq,h2];omega);subst uz;have HD:a0<D aq.eJ:=(by rw[BI.us,V.o.eq,h2];exact qV);have k4:=BI.inv.us (Y aq.eJ a0 (-1)) (by rw[cd,cE HD];exact im HD);have aiW:Y aq.eJ a0 0=Y aq.eJ a0 (-1):=(by rw[cd,cd,cE HD];rfl);obtain⟨pn,rH,wK⟩:=rD.x8 HD;rw[aiW] at H;rw[show D L=D E from by rw[V.o.eq,h2]] at k4;have alU:(a0:Int)<D aq.eJ:=J;generalize Y aq.eJ a0 (-1)=d at*;obtain⟨gz,rfl⟩: ∃n:Nat,d=(n:Int):=⟨d.toNat,by omega⟩;rw[xJ] at H;have TI:gz<D E:=J;obtain⟨_,_,bp,wT,Wv,hG,iU⟩:=V.o.gQ H.o.av TI;cases hG;obtain⟨z0,_,_,_,_⟩:=iU.cells bS H.o.av;rw[iU.Z] at H;have⟨w4,ani⟩:(gz:Int)<D E/\(0:Int)<=gz:=J;have H:=j5 H (aT _ _).drew;cases i3:(bp.j'==13)
     all_goals
      have i4:(bp.j' !=13)=!(bp.j'==13):=rfl;rw[i3] at i4 H;go_wp2;go_region
      go_wp2;revert H;refine zr V (λb4 H=>?_);go_wp2;refine nL V U rfl (λb3 sr H=>?_) H;go_wp2;go_returns;exact oG aN cJ H
   |false=>
    have bx: ¬y.j'=36:=(by simpa using i1);cases i2:(y.j'==37) with
    |false=>
     have BF: ¬y.j'=37:=(by simpa using i2);have nC:Hid (rl L a0 aq=false):=A (by unfold rl;rw[sv.o,ao bx,ao BF]);rw[nC.o] at H;go_wp2;revert H;refine zr V (λb4 H=>?_);go_wp2;refine nL V U rfl (λb3 sr H=>?_) H;go_wp2;go_returns;exact oG aN cJ H
    |true=>
     have BF:y.j'=37:=(by simpa using i2);have nR:D y.I=1:=(by rw[Fi.o.ly.len,BF];rfl);have hj:=(Fi.o.at (i:=0) J).1;have nC:Hid (rl L a0 aq=(cv (Y aq.types (Y y.I 0 0) []) [42]&&(field L ((Y aq.types (Y y.I 0 0) []).drop 1) y.O).isSome)):=A (by unfold rl bM;rw[sv.o,ao bx,aS BF]);rw[nC.o] at H;obtain⟨g3,rfl,m0⟩:=Fi.o.bM bS 0 H.o.av J;have DH:(0:Int)<D y.I:=J;obtain⟨pS,rD⟩:=H.o.st;have BI:=H.o.step Tq;obtain⟨gt,fQ,pP⟩:=dR rD.ty (by rw[BI.ty,V.o.eq,h2];omega);have ql:D aq.types=D E:=(by rw[BI.ty,V.o.eq,h2]);rw[ql] at pP;subst pP;obtain⟨hp,_,_⟩:=rD.x7 (k:=Y y.I 0 0) J;generalize Y y.I 0 0=eS at*;have⟨ck,b8⟩:(eS:Int)<D E/\(0:Int)<=eS:=J;generalize Y aq.types eS []=eo at*;have yr:=AS eo;generalize eo.drop 1=t1 at*;have rI:=A yr;clear yr;have H:=j5 H (aT _ _).drew;replace nR:=A nR;cases i3:cv eo [42] with
     |false=>
      have l7:=A (zf (x:=eo) (y:=[42]) (wk:=bS.drew) (Q:=λe w'=>e= .returned (.bool false)/\w'=bS.drew) ⟨by rw[i3],rfl⟩);rw[i3] at H;go_wp2;go_region
      go_wp2;refine l7.o.mono ?_;rintro gi bm ⟨rfl,rfl⟩;go_wp2;revert H;refine zr V (λb4 H=>?_);go_wp2;refine nL V U rfl (λb3 sr H=>?_) H;go_wp2;go_returns;exact oG aN cJ H
     |true=>
      have hl:1<=D eo:=by
       unfold cv at i3;simp only[pv,pt] at i3;exact i3.1
      have e_:1<=(str eo).size:=(by rw[js];exact hl);have⟨ff,Ad⟩:(1:Int)<=((str eo).size:Int)/\(1:Int)<=D eo:=J;have l7:=A (zf (x:=eo) (y:=[42]) (wk:=bS.drew) (Q:=λe w'=>e= .returned (.bool true)/\w'=bS.drew) ⟨by rw[i3],rfl⟩);rw[i3,Bool.true_and] at H;clear hl;go_wp2;go_region
      go_wp2;refine l7.o.mono ?_;rintro gi bm ⟨rfl,rfl⟩;have zw:Hid (bS.drew.heap[da]?=some (.cells #[y.j',y.an,y.aX,y.O,(g3,D y.I,sy)] 53 (0,0))):=A t_.o;go_wp2;generalize bS.drew=bm at*;have zx:Hid (bm.drew.heap[da]?=some (.cells #[y.j',y.an,y.aX,y.O,(g3,D y.I,sy)] 53 (0,0))):=A zw.o;have H:=j5 H (aT _ _).drew;refine jT 12 (λcc=>cc.cell? p=some (g,D E,cA)/\cc.cell? (da,3)=some [y.O]) ⟨(hA H).1,az zx.o 3⟩ λaD=>?_;generalize bm.drew=b4 at*;refine a' 0 ?_;refine a' 1 ?_;refine a' 2 ?_;refine a' 3 ?_;refine a' 4 ?_;refine a' 5 ?_;refine a' 6 ?_;refine a' 7 ?_;refine cT 8 λK ab=>?_;go_simp
      try rw[rI.o]
      refine(Oq V H.o.av t1 y.O).mono ?_;rintro lY b3 ⟨rfl,ie⟩;have Tr:=A (ds zx.o ie (bd zx.o));have H:=j5 H ie;generalize field L t1 y.O=vb at*;go_wp2;refine ab.o _ _ (λ_=>⟨(hA H).1,az Tr.o 3⟩) ?_;have aD:aG b3 p=some (g,D E,cA)/\aG b3 (da,3)=some [y.O]:=⟨(hA H).1,az Tr.o 3⟩;refine a' 9 ?_;refine a' 10 ?_;refine a' 11 ?_;refine cT 12 λK ab=>?_;go_simp;refine ab.o _ _ (λh=>absurd rfl h) ?_;refine bV ?_;cases vb
      all_goals
       obtain⟨b',_,_,_,_,_,b9⟩:=hA H;go_wp2;revert H;refine zr V (λa6 H=>?_);go_wp2;simp only[Option.isSome_none,Option.isSome_some,Bool.false_and,Bool.true_and] at H;refine nL V U rfl (λcp am4 H=>?_) H;go_wp2;go_returns;exact oG aN cJ H
  .obtain⟨dG,hi⟩:=hV.o [1] (by rw[e];rfl) 0 aN;obtain⟨g2,rfl,cl⟩:=br.o.bM w2 0 H.o.av dG;have uc:(0:Int)<D x.I:=J;obtain⟨_,_,y,pY,sy,hG,dZ⟩:=V.o.gQ (k:=Y x.I 0 0) H.o.av J;cases hG;obtain⟨dY,_,_,bU,cL⟩:=dZ.cells w2 H.o.av;have H:=iw (ag5 (by rw[br.o.Z];exact e)) H;unfold qF at H;rw[kP.o,dZ.Z] at H;clear dZ;generalize Y x.I 0 0=a0 at*;have⟨fB,v7⟩:(a0:Int)<D E/\(0:Int)<=a0:=J;have H:=j5 H (aT _ _).drew;cases i1:(y.j'==38)<;>cases i2:(y.j'==45)
   all_goals
    go_wp2;go_region
    go_wp2;refine nL V U (by rw[i1,i2]<;>rfl) (λbm jg H=>?_) H;go_wp2;go_returns;exact oG aN cJ H
  .obtain⟨gq,k5⟩:=hV.o [1,1] (by rw[e];rfl) 1 aN;obtain⟨g2,rfl,cu⟩:=br.o.bM w2 1 H.o.av gq;have tY:(1:Int)<D x.I:=J;have H:=iw (ag4 (by rw[br.o.Z];exact e)) H;rw[kP.o] at H;generalize Y x.I 1 0=a1 at*;go_wp2;revert H;refine IB dy ⟨k5.1,k5.2⟩ (λbc u aq iW U' _ _ _ H=>?_);go_wp2;revert H;refine aeD V (λbS H=>?_);go_wp2;refine nL V U rfl (λbm jg H=>?_) H;go_wp2;go_returns;exact oG aN cJ H
  .obtain⟨dG,hi⟩:=hV.o [1] (by rw[e];rfl) 0 aN;obtain⟨g2,rfl,cl⟩:=br.o.bM w2 0 H.o.av dG;have uc:(0:Int)<D x.I:=J;obtain⟨_,_,y,pY,sy,hG,dZ⟩:=V.o.gQ (k:=Y x.I 0 0) H.o.av J;cases hG;obtain⟨dY,_,_,bU,cL⟩:=dZ.cells w2 H.o.av;have H:=iw (ag6 (by rw[br.o.Z];exact e)) H;unfold qF at H;rw[kP.o,dZ.Z] at H;clear dZ;generalize Y x.I 0 0=a0 at*;have⟨fB,v7⟩:(a0:Int)<D E/\(0:Int)<=a0:=J;have H:=j5 H (aT _ _).drew;go_wp2;go_still_tail 14,cS
   change fo _ _ _ _ _ w2.drew;generalize w2.drew=bc at*;go_wp2;refine nL V U rfl (λbm jg H=>?_) H;go_wp2;go_returns;exact oG aN cJ H
  .have DV:D x.I=if D x.I=3 then 3 else 2:=by
    have R:=iM.o;rw[e] at R;refine R.trans ?_;show(if D x.I=3 then[1,16,23] else[1,16]).length=_;split<;>rfl
   have cM:Hid ((t==e6)=((str t).toList==[98,111,111,108])):=A (by rw[ir];rfl);have k5:1<D x.I/\Y x.I 1 0<k/\(Z L (Y x.I 1 0)).j'=16:=by
    by_cases ah:D x.I=3
    .obtain⟨a,b,c⟩:=hV.o [1,16,23] (by rw[e];show(if D x.I=3 then _ else _)=_;rw[aS ah]) 1 aN;exact⟨a,b,by simpa[ct] using c⟩
    .obtain⟨a,b,c⟩:=hV.o [1,16] (by rw[e];show(if D x.I=3 then _ else _)=_;rw[ao ah]) 1 aN;exact⟨a,b,by simpa[ct] using c⟩
   obtain⟨gq,k5⟩:=k5;obtain⟨g2,rfl,cu⟩:=br.o.bM w2 1 H.o.av gq;have tY:(1:Int)<D x.I:=J;have H:=iw (ag' (by rw[br.o.Z];exact e)) H;unfold qF at H;rw[kP.o,kP.o,br.o.Z] at H;generalize Y x.I 1 0=a1 at*;replace DV:=A DV;go_wp2;revert H;refine Sb dy k5 (λbc aq iW H=>?_);obtain⟨bO,c4,cW⟩:=dx.o bc H.o.fr;obtain⟨b',_,_,_,_,_,b9⟩:=hA H;by_cases iL:2<D x.I
   .have ah:D x.I=3:=(by have:=DV.o;split at this<;>omega);obtain⟨_,ei,uq⟩:=hV.o [1,16,23] (by rw[e];show(if D x.I=3 then _ else _)=_;rw[aS ah]) 2 aN;obtain⟨g3,iD,k2⟩:=br.o.bM bc 2 H.o.av iL;cases iD;obtain⟨_,_,y,pY,sy,hG,dZ⟩:=V.o.gQ (k:=Y x.I 2 0) H.o.av J;cases hG;obtain⟨dY,_,_,bU,cL⟩:=dZ.cells bc H.o.av;have Hi:(2:Int)<D x.I:=J;have sv:=A dZ.Z;have H:=iw (by rw[aS iL]) H;rw[sv.o] at H uq;have uq:y.j'=22\/y.j'=16:=(by simpa[ct] using uq);replace ah:=A ah;replace uq:=A uq;clear dZ;generalize Y x.I 2 0=a2 at*;have⟨fB,v7⟩:(a2:Int)<D E/\(0:Int)<=a2:=J;cases i1:(y.j'==22) with
    |true=>
     have bx:y.j'=22:=(by simpa using i1);have H:=iw (by rw[aS bx]) H;have cV:Hid (ct 2 (Z L a2).j'=true):=A (by rw[sv.o,bx];rfl);have H:=j5 H (aT _ _).drew;go_wp2;go_region
     go_wp2;revert H;refine afo dy ⟨ei,cV.o⟩ aN (λbS bA jy H=>?_);go_wp2;refine nL V U cM.o.symm (λbm jg H=>?_) H;go_wp2;go_returns;exact oG aN cJ H
    |false=>
     have bx: ¬y.j'=22:=(by simpa using i1);have H:=iw (by rw[ao bx]) H;have cV:Hid ((Z L a2).j'=16):=A (by rw[sv.o];exact uq.o.resolve_left bx);have H:=j5 H (aT _ _).drew;go_wp2;go_region
     go_wp2;revert H;refine Sb dy ⟨ei,cV.o⟩ (λbS bA jy H=>?_);go_wp2;refine nL V U cM.o.symm (λbm jg H=>?_) H;go_wp2;go_returns;exact oG aN cJ H
   .have H:=iw (show _=bl (t==e6) 8 k [] aq by rw[ao iL];rfl) H;have Hi: ¬(2:Int)<D x.I:=J;go_wp2;refine nL V U cM.o.symm (λbm jg H=>?_) H;go_wp2;go_returns;exact oG aN cJ H
  .obtain⟨gq,k5,AN⟩:=hV.o [1,16] (by rw[e];rfl) 1 aN;have AN:(Z L (Y x.I 1 0)).j'=16:=(by simpa[ct] using AN);have cM:Hid ((t==e6)=((str t).toList==[98,111,111,108])):=A (by rw[ir];rfl);obtain⟨g2,rfl,cu⟩:=br.o.bM w2 1 H.o.av gq;have tY:(1:Int)<D x.I:=J;have H:=iw (ag_ (by rw[br.o.Z];exact e)) H;rw[kP.o] at H;have Nv:Hid (s1.cx=s.cx):=A H.o.gx.cx;have vB:=H.o.nc.lp;obtain⟨rM,Ed⟩:=H.o.st;have z':=H.o.step k5;have uG:Hid (∀w',aL w0 w0 w'->aG w' (g2,1)=some [(x.I.getD 1 0:Int)]):=A λw' G=>by
    obtain⟨g3,iD,ah⟩:=br.o.bM w' 1 G gq;cases iD;exact ah
   generalize Y x.I 1 0=a1 at*;obtain⟨dq,uU⟩: ∃n,s1.cx=n:=⟨_,rfl⟩;have G:0<=dq/\dq+(k:Int)<=20000:=(by rw[<-uU,Nv.o];exact vB);have yn:=A uU;have mg:IntKind.i64.wrap (dq+1)=dq+1:=dI _ J;have ti:IntKind.i64.wrap (dq+1- 1)=dq:=(by rw[dI _ J];omega);have anM:IntKind.i64.wrap dq=dq:=dI _ J;have tl:iF L {s1 with cx:=dq+1} a1:=⟨z'.ne,z'.ty,z'.us,⟨z'.inv.eo,z'.inv.lS,z'.inv.us⟩,by show 0<=dq+1/\dq+1+(a1:Int)<=20000;omega,z'.room⟩;have yd:=cX Ed.blk 5;have HE:=Ed.od 5 [(dq+1:Int)] {s1 with cx:=dq+1} iQ ⟨rfl,rfl,rfl⟩ (by unfold rk;rfl);have cV:=A ((dy.o a1 k5).block AN _ _ _ _ HE tl);have Rn:Hid (Fr p tv uv w1 (a7 w2 (p,5) [(dq+1:Int)])):=A (H.o.fr.trans (Fr.set 5 _));have anR:=uG.o _ HE.av;have gR:=dx.o _ Rn.o;rw[uU] at ij;clear uU;go_wp2;generalize uf:a7 w2 (p,5) [(dq+1:Int)]=bc at*;refine cV.o.mono ?_;rintro cL bS ⟨rfl,bA,jy,uF,b1,b2,bC,bG⟩;have c1:=A b1;have YA:=A (Rn.o.trans b2);have vZ:=A bC;have ox:=A bG;have HF:bA.cx=dq+1:=bG.cx;have BK:bA.cx- 1=dq:=J;have ake:aG bS (p,5)=some [bA.cx]:=az b1.blk 5;rw[HF] at ake;have aoT:=cX b1.blk 5;have aoU:=bd b1.blk;have aiB:=b1.od 5 dq {bA with cx:=bA.cx- 1} jy ⟨rfl,rfl,rfl⟩ (by unfold rk;rw[BK];rfl);have eH:Hid (fJ L w0 p (g,D E,cA) tv uv k s fl (bE L (f+1) .stmt k s) w1 0 (a7 bS (p,5) dq) {bA with cx:=bA.cx- 1} jy (bl (t==e6) 8 k [] {bA with cx:=bA.cx- 1})):=A ⟨⟨uF,aiB⟩,YA.o.trans (Fr.set 5 _),λhL s' eT hJ=>H.o.ih hL s' eT (by
    rw[yn.o];exact eN.M (f:=λ_ s2=>bl (t==e6) 8 k [] {s2 with cx:=s2.cx- 1}) vZ.o hJ),(H.o.gx.trans (Shape.loop (by rw[yn.o];exact ox.o))).mono (bD _),H.o.nc,by decide⟩
   clear b1 bC bG;go_wp2;refine nL V U cM.o.symm (λbm jg H=>?_) eH;go_wp2;go_returns;exact oG aN cJ H
  .have o6:Hid ((s1.res==[])=(str s1.res).toList.isEmpty):=A Kt;have iN:Hid ((s1.res !=[])=!(str s1.res).toList.isEmpty):=A (Gm _);by_cases mX:x.I=[]
   .have H:=iw (Tp (by rw[br.o.Z];exact e)) H;rw[br.o.Z] at H;have H:=iw (aS mX) H;have hl:D x.I=0:=(by rw[mX];rfl);have H:=j5 H (aT _ _).drew;rw[hl] at c4;replace hl:=A hl;cases i1:(str s1.res).toList.isEmpty
    all_goals
     rw[i1] at o6;go_wp2;go_still_tail 12,cS
     change fo _ _ _ _ _ w2.drew;have d4:w2.drew.cell? (q,4)=some (.slice bb 0 aQ):=c4;have am2:q<w2.drew.heap.size:=cW;generalize w2.drew=bc at*;go_wp2;refine nL V U o6.o.symm (λbm jg H=>?_) H;obtain⟨_,c4,cW⟩:=dx.o bm H.o.fr;rw[hl.o] at c4;go_wp2;go_returns;exact oG aN cJ H
   .have H:=iw (Tp (by rw[br.o.Z];exact e)) H;rw[br.o.Z] at H;have H:=iw (ao mX) H;have hl:0<D x.I:=List.length_pos_iff.2 mX;have dG:(0:Int)<D x.I:=J;have H:=j5 H (aT _ _).drew;cases i1:(str s1.res).toList.isEmpty
    all_goals
     rw[i1] at iN;go_wp2;go_still_tail 12,cS
     change fo _ _ _ _ _ w2.drew;generalize w2.drew=bc at*;go_wp2;refine pB V U iN.o.symm (λbm jg H=>?_) H;obtain⟨_,c4,cW⟩:=dx.o bm H.o.fr;obtain⟨b',_,_,dQ,_,_,b9⟩:=hA H;have H:=j5 H (aT _ _).drew;go_wp2;go_still_tail 9,cS
     change fo _ _ _ _ _ bm.drew;generalize bm.drew=b4 at*;go_wp2;revert H;refine zr V (λb3 H=>?_);go_wp2;refine nL V U rfl (λa6 T5 H=>?_) H;go_wp2;go_returns;exact oG aN cJ H
  .have H:=iw (aha (by rw[br.o.Z];exact e)) H;go_wp2;refine nL V U rfl (λbm jg H=>?_) H;go_wp2;go_returns;exact oG aN cJ H
  .have H:=iw (ahb (by rw[br.o.Z];exact e)) H;rw[br.o.Z] at H;have Fp:Hid (∀i,i<D x.I->Y x.I i 0<k/\ct 3 (Z L (Y x.I i 0)).j'=true):=A λi ay=>by
    obtain⟨_,a,b⟩:=hV.o (ef (D x.I) 3) (by rw[e];rfl) i (by rw[wg];exact ay);rw[cd,ku,aS ay] at b;exact⟨a,b⟩
   have rq:=br.o.fA.2;go_wp2;go_loopg[17,18] (D x.I) (λr o i wr=> ∃(j:Nat) (aq:b5) (iW:Option (Int×Int)),j+r=D x.I/\i= j/\o= [((D ((x.I.take j).filter λa=>(Z L a).j'==29):Nat):Int)]/\Hid (fJ L w0 p (g,D E,cA) tv uv k s fl (bE L (f+1) .stmt k s) w1 0 wr aq iW ((each (bE L f .one) (x.I.drop j) aq).M λ_ s2=>bl (decide (D (x.I.filter λa=>(Z L a).j'==29)<2)) 7 k [] s2)))
   case atStart=>exact⟨0,s1,iQ,by omega,rfl,rfl,H⟩
   case round=>
    obtain⟨j,aq,iW,bg,rfl,rfl,eU⟩:=hrel;clear H;have H:=eU;generalize wr=bH at*;obtain⟨_,c4,cW⟩:=dx.o bH H.o.fr;obtain⟨b',_,_,_,_,_,b9⟩:=hA H;by_cases cr:j<D x.I
    .have⟨j3,me⟩:(j:Int)<D x.I/\(0:Int)<=j:=J;have hK:IntKind.i64.wrap (j+1)=j+1:=dI _ J;obtain⟨g2,rfl,cu⟩:=br.o.bM bH j H.o.av cr;have uG:Hid (∀w',aL w0 w0 w'->aG w' (g2,j)=some [(x.I.getD j 0:Int)]):=A λw' G=>by
      obtain⟨g3,iD,ah⟩:=br.o.bM w' j G cr;cases iD;exact ah
     have aR:=Fp.o j cr;obtain⟨_,_,y,pY,sy,hG,dZ⟩:=V.o.gQ (k:=Y x.I j 0) H.o.av J;cases hG;have Ab:=A dZ.cells;have sv:=A dZ.Z;have bW:Hid (D ((x.I.take (j+1)).filter λa=>(Z L a).j'==29)=D ((x.I.take j).filter λa=>(Z L a).j'==29)+if(y.j'==29)=true then 1 else 0):=A (by
      rw[show x.I.take (j+1)=x.I.take j++[Y x.I j 0] from by rw[p3,cd,cE cr];rfl,List.filter_append,dW]
      congr 1
      rw[<-sv.o];cases hJ:((Z L (Y x.I j 0)).j'==29) with
      |true=>rw[List.filter_cons_of_pos (by exact hJ),aS rfl];rfl
      |false=>rw[List.filter_cons_of_neg (by rw[hJ];decide),ao aN];rfl)
     have hc:=List.length_filter_le (λa=>(Z L a).j'==29) (x.I.take j);rw[mr] at hc;have H:=iw (show _=(bE L f .one (Y x.I j 0) aq).M λ_ bA=>(each (bE L f .one) (x.I.drop (j+1)) bA).M λ_ s2=>bl (decide (D (x.I.filter λa=>(Z L a).j'==29)<2)) 7 k [] s2 by
      rw[kS cr,cd,cE cr];exact i' _ _ _) H
     generalize((x.I.take j).filter λa=>(Z L a).j'==29).length=fs at*;have ajE:IntKind.i64.wrap (fs+1)=fs+1:=dI _ J;clear dZ;generalize Y x.I j 0=a at*;have⟨fB,v7⟩:(a:Int)<D E/\(0:Int)<=a:=J;go_wp2;revert H;refine afK dy aR (λbc bA jy H=>?_);obtain⟨_,c4,cW⟩:=dx.o bc H.o.fr;obtain⟨b',_,_,_,_,_,b9⟩:=hA H;have cu:=uG.o bc H.o.av;obtain⟨dY,_,_,_,_⟩:=Ab.o bc H.o.av;have H:=j5 H (aT _ _).drew;cases i1:(y.j'==29)
     all_goals
      rw[i1] at bW;go_wp2;go_region
      go_wp2;generalize bc.drew=bS at*;go_roundg (D x.I-(j+1))
      case rel=>exact⟨j+1,bA,jy,by omega,by go_num,by rw[bW.o];first|rfl|go_num,H⟩
      case measure=>omega
    .obtain rfl:j=D x.I:=J;have Hy:x.I.take (D x.I)=x.I:=mM;have H:=iw (show _=bl (decide (D (x.I.filter λa=>(Z L a).j'==29)<2)) 7 k [] aq by rw[rW];rfl) H;rw[Hy];generalize(x.I.filter λa=>(Z L a).j'==29).length=fs at*;go_wp2;refine nL V U (decide_eq_decide.2 J) (λbm jg H=>?_) H;go_wp2;go_returns;exact oG aN cJ H
  .have H:=iw (ag7 (by rw[br.o.Z];exact e)) H;go_wp2;refine Vd ?_;go_wp2;refine nL V U rfl (λbm jg H=>?_) H;go_wp2;go_returns;exact oG aN cJ H
  .have H:=iw (ag8 (by rw[br.o.Z];exact e)) H;have cM:Hid ((t==g')=((str t).toList==[105,110,116])):=A (by rw[ir];rfl);go_wp2;refine nL V U cM.o.symm (λbm jg H=>?_) H;go_wp2;go_returns;exact oG aN cJ H
  .have H:=iw (ag9 (by rw[br.o.Z];exact e)) H;have cM:Hid ((t==g'||t==e6)=(((str t).toList==[105,110,116])||((str t).toList==[98,111,111,108]))):=A (by rw[ir,ir];rfl);cases i1:((str t).toList==[105,110,116])<;>cases i2:((str t).toList==[98,111,111,108])
   all_goals
    rw[i1,i2] at cM;go_wp2;refine nL V U cM.o.symm (λbm jg H=>?_) H;go_wp2;go_returns;exact oG aN cJ H
end
end Rk
namespace Rk
open Ck
def qf (x:bz)(e:bz×Nat×Bool):Bool:=!e.2.2&&e.1==x
def SA(x:bz): ∀(n:Nat) (sc:List (List (bz×Nat))),D sc=n->Ck.look x sc=((e4 sc).reverse.find? (qf x)).map (·.2.1)
 |0,sc,h=>by rw[List.length_eq_zero_iff.1 h];rfl
 |n+1,sc,h=>by
  have aZ:sc≠[]:=λe=>by rw[e] at h;cases h
  obtain⟨r,m,rfl⟩: ∃r m,sc=r++[m]:=⟨sc.dropLast,sc.getLast aZ,(u0 aZ).symm⟩;have R:D r=n:=by simpa using h
  rw[AV,List.reverse_append,List.reverse_cons,xI,xI];unfold Ck.look;rw[List.reverse_append,List.reverse_singleton,List.singleton_append,List.findSome?_cons,<-List.map_reverse,List.find?_map];have aJ:(qf x∘λe:bz×Nat=>(e.1,e.2,false))=λe=>e.1==x:=by funext e;simp[qf]
  rw[aJ];have he:[(([]:bz),0,true)].find? (qf x)=none:=by simp[qf]
  rw[he];cases a_:m.reverse.find? λe=>e.1==x with
  |some e=>simp
  |none=>
   simp only[Option.map_none,Option.none_or,Option.or_none];exact SA x n r R
def afi{l:List (bz×Nat×Bool)}{x:bz}{j:Nat}{e}(bg:l[j]?=some e)(h:(l.drop (j+1)).all (λe=>!qf x e)=true):(qf x e=true->l.reverse.find? (qf x)=some e)/\(qf x e=false->(l.drop j).all (λe=>!qf x e)=true):=by
 obtain⟨hl,rfl⟩:=List.getElem?_eq_some_iff.1 bg;refine⟨λa_=>?_,λa_=>by rw[kS hl,List.all_cons,h,a_];rfl⟩;have ag:l=l.take j++l[j]::l.drop (j+1):=(xK j l).symm.trans (by rw[kS hl])
 conv=>lhs;rw[ag]
 rw[List.reverse_append,List.reverse_cons,xI,xI];have:(l.drop (j+1)).reverse.find? (qf x)=none:=List.find?_eq_none.2 λa aR=>by
  have:=List.all_eq_true.1 h a (List.mem_reverse.1 aR);simpa using this
 rw[this];simp[a_]
def C0{l:List (bz×Nat×Bool)}{x:bz}(h:l.all (λe=>!qf x e)=true):l.reverse.find? (qf x)=none:=List.find?_eq_none.2 λa aR=>by
 have:=List.all_eq_true.1 h a (List.mem_reverse.1 aR);simpa using this
def ac4{sc e}(h:e∈e4 sc)(he:e.2.2=false): ∃m∈sc,(e.1,e.2.1)∈m:=by
 unfold e4 at h;obtain⟨m,hm,R⟩:=List.mem_flatMap.1 h;obtain rfl|R:=List.mem_cons.1 R
 .cases he
 .obtain⟨a,aR,rfl⟩:=List.mem_map.1 R;exact⟨m,hm,aR⟩
section
variable{L:List aP}{E:List (aP×af)}{cG:Nat}{w0:ai}{p:Nat}{nv tv uv:af}{w:ai}
def JH{k s t d b_ r w'}(dT:iF L s k)(xl:k<D s.eJ)(ab:dK w0 p nv tv uv w' b_ (oe k d s) none)(nM:Fr p tv uv w w')(bI:D t<=200000000000)(aH:0<=d)(bB:d<(D L:Int))(bZ:r= .ok t (oe k d s)):qy L w0 p nv tv uv k r s none w (.returned t) w':=
 ⟨t,oe k d s,none,b_,rfl,bI,ab,nM,by rw[bZ];exact eN.pure _ _,Shape.oe dT.ne k aH bB,λ_ _=>by
  show 0<=Y (s.eJ.set k d) k (-1);rw[cd,List.getElem?_set_self xl];exact aH⟩
def ZR(V:Hid (eL L E cG w0 nv)){k}(U:k<D E){b_ s}(h:dK w0 p nv tv uv w b_ s none)(dT:iF L s k):aY 197 #[(p,0),k] w (qy L w0 p nv tv uv k (named L k s) s none w):=by
 obtain⟨g,cA,x,bb,aQ,rfl,cg⟩:=V.o.gQ h.av U;have br:=A cg;have ax:=cg.Z;have cZ:Hid (Ck.look x.O s.sc=((e4 s.sc).reverse.find? (qf x.O)).map (·.2.1)):=A (SA x.O _ s.sc rfl);have ba:Hid (named L k s=match Ck.look x.O s.sc with
  |some d=> .ok (if(Z L d).j'=7 then B.O L d else if(Z L d).j'=27 then(fq (Y s.types (bM L d 0) [])).getD [] else Y s.types (bM L d 0) []) (oe k d s)
  |none=>if c7 L 13 x.O<0 then .bL 6 k else .ok (B.O L (bM L (c7 L 13 x.O).toNat 0)) (oe k (c7 L 13 x.O) s)):=A (by rw[<-ax];rfl)
 have gd:=A dT;have bK:=A h;obtain⟨bO,bq,cK,c3,c4⟩:=cg.cells w h.av;obtain⟨b',c9,cw,da,_,_,_⟩:=h.at;have b9:=bd h.blk;have hv:(k:Int)<D E:=by omega
 have hi:(0:Int)<=k:=by omega
 have nP:=h.lR.max;have afj:=dT.lt;obtain⟨kR,sc,rfl⟩:=eR h.lR rfl;generalize NH:e4 s.sc=SL at*;have Zf:=A NH;have Ej:=A h.lR;rw[NH] at Ej;have fp:IntKind.i64.wrap (D SL- 1)=D SL- 1:=dI _ (by omega);clear h dT ax cg NH;go_in;go_wp2_with fail;go_loopg[6] (D SL) (λr i wr=> ∃j:Nat,j=r/\j<=D SL/\i= .int .i64 ((j:Int)- 1)/\Hid (wr=w)/\Hid ((SL.drop j).all (λe=>!qf x.O e)=true))
 case atStart=>exact⟨D SL,rfl,bD _,rfl,A rfl,A (by rw[rW];rfl)⟩
 case round=>
  obtain⟨j,rfl,bg,rfl,hw,cz⟩:=hrel;obtain rfl:=hw.o;clear hw;cases j with
  |zero=>
   have qO:Hid (Ck.look x.O s.sc=none):=A (by rw[cZ.o];have:=cz.o;rw[List.drop_zero] at this;rw[C0 this];rfl)
   as_aux_lemma=>
    rw[qO.o] at ba;have jG:D L=D E:=(by rw[V.o.eq,h2]);obtain⟨eF,tK,uz⟩:=dR bK.o.us (by rw[gd.o.us,jG];omega);have yY:D s.eJ=D E:=(by rw[gd.o.us,jG]);rw[yY] at uz;subst uz;have xl:k<D s.eJ:=(by rw[yY];exact U);have hq:=A (eL.decl V bK.o.av 13 x.O);have c0:=A (tO (A V.o.aj) (A V.o.eq) bK.o (decide (0<=c7 L 13 x.O)) 6 k U);have CK:=A xl;by_cases bB:c7 L 13 x.O<0
    .have bZ:=ba.o;dsimp only at bZ;rw[aS bB] at bZ;replace bZ:=A bZ;have Yq:Hid (decide (0<=c7 L 13 x.O)=false):=A (oJ (by omega));clear xl yY jG;generalize c7 L 13 x.O=gz at*;have w4: ¬(0:Int)<=gz:=(by omega);go_wp2_with fail;refine hq.o.mono ?_;rintro e bc ⟨rfl,rfl⟩;go_wp2_with fail;refine c0.o.mono ?_;rintro e bS ⟨rfl,b1,b2⟩;rw[Yq.o] at b1;have eA:=A b1;have fG:=A b2;clear b1 b2;go_wp2_with fail;go_returns;show qy _ _ _ _ _ _ _ _ _ _ _ (.returned (.string (str []))) _;exact⟨[],s,_,_,rfl,by decide,eA.o,fG.o,⟨λ_ h=>(by cases h),λ_ _ _ h=>(by rw[bZ.o] at h;cases h),λ_ c Oi h=>(by rw[bZ.o] at h;cases h;rfl)⟩,Shape.refl gd.o.ne 0,λh=>by cases h⟩
    .have bZ:=ba.o;rw[ao bB] at bZ;obtain⟨lh,bp,pI,CJ,IE,_⟩:=px bB;have pR:lh<D E:=by
      have:=(List.getElem?_eq_some_iff.1 CJ).1;omega
     have G:decide (0<=c7 L 13 x.O)=true:=ri (by omega);rw[G,JU] at c0;rw[pI] at hq bZ;rw[xJ] at bZ;have uu:Z L lh=bp:=mO CJ;unfold bM at bZ;rw[uu] at bZ;replace bZ:=A bZ;have Zo:=A IE;have Y5:=A uu;have vX:(lh:Int)<D E:=(by omega);have lz:(0:Int)<=lh:=(by omega);have k4: ¬(lh:Int)<0:=(by omega);have FB:Hid ((lh:Int)<D L):=A (by omega);clear bB G pI CJ IE uu xl yY jG;go_wp2_with fail;refine hq.o.mono ?_;rintro e bc ⟨rfl,rfl⟩;go_wp2_with fail;refine c0.o.mono ?_;rintro e bS ⟨rfl,b1,b2⟩;have eA:=A b1;have fG:=A b2;clear b1 b2 hq c0 bO bq cK c3 c4 b' c9 cw da b9;obtain⟨b',_,cw,_,_,_,_⟩:=eA.o.at;have b9:=bd eA.o.blk;obtain⟨pn,rH,wK⟩:=eA.o.x8 CK.o;obtain⟨nf,yl⟩:=eA.o.Dh k (lh:Int);have iV:=A nf;have uK:=A (fG.o.trans yl);obtain⟨_,_,z2,wT,Wv,hG,iU⟩:=V.o.gQ nf.av pR;cases hG;obtain rfl:z2=bp:=iU.Z.symm.trans Y5.o;have yZ:0<D z2.I:=(by rw[iU.ly.len,Zo.o];exact oI _);have e':=(iU.at yZ).1;have Ty:(0:Int)<D z2.I:=(by omega);obtain⟨sN,rfl,m0⟩:=iU.bM _ 0 nf.av yZ;obtain⟨_,_,_,_,cL⟩:=iU.cells _ nf.av;have hbk:Y z2.I 0 0<D E:=(by omega);generalize Y z2.I 0 0=eS at*;obtain⟨qN,_,_,_,_,_,_⟩:=nf.at;have pl:=bd nf.blk;clear nf yl iU;go_wp2_with fail;generalize a7 bS ⟨eF,k,none⟩ (.int .i64 (lh:Int))=cp at*;clear b' cw b9 pn rH wK;go_still_tail 14,(by kernel_rfl)
     change fo _ _ _ _ _ cp.drew;have ab:=A iV.o.drew;have nM:=A (uK.o.trans (Fr.below (w':=cp.drew) (aT _ _).drew));generalize cp.drew=oF at*;go_wp2_with fail;refine b7 (eL.O V ab.o.av eS hbk) λlT G=>?_;have HE:=A (ab.o.below G);have aiy:=A (nM.o.trans (Fr.below G));clear G;go_wp2;go_returns;show qy _ _ _ _ _ _ _ _ _ _ _ (.returned (.string (str (B.O L eS)))) _;exact JH gd.o CK.o HE.o aiy.o (hg (V.o.short eS) (by decide)) lz FB.o bZ.o
  |succ m=>
   rw[show((m+1:Nat):Int)- 1=(m:Int) from by omega];obtain⟨e,he⟩: ∃e,SL[m]?=some e:=⟨_,cE (by omega)⟩;obtain⟨gs,FR,yP⟩:=dR Ej.o (by omega);cases yP;obtain⟨z0,lB,z2⟩:=Gr Ej.o rfl he;obtain⟨f1,f2⟩:=afi he cz.o;have cJ:=A f1;have en:=A f2;have An:Hid (e∈e4 s.sc):=A (by rw[Zf.o];exact hX he);have ck:(0:Int)<=m:=(by omega);have b8:(m:Int)<D SL:=(by omega);have gT:IntKind.i64.wrap (m- 1)=m- 1:=dI _ (by omega);clear f1 f2 he;obtain⟨ex,sG,xM⟩:=e;dsimp only at z0 lB z2;cases xM with
   |true=>
    have uI:=A (en.o rfl);go_wp2_with fail;go_roundg m
    case rel=>exact⟨m,rfl,by omega,rfl,A rfl,uI⟩
    case measure=>omega
   |false=>
    cases hT:((str ex).toList==(str x.O).toList) with
    |false=>
     have uI:=A (en.o (by unfold qf;rw[<-mR,hT];rfl));have ux:((str ex).toList !=(str x.O).toList)=true:=(by rw[bne,hT];rfl);go_wp2_with fail;go_roundg m
     case rel=>exact⟨m,rfl,by omega,rfl,A rfl,uI⟩
     case measure=>omega
    |true=>
     have ux:((str ex).toList !=(str x.O).toList)=false:=(by rw[bne,hT];rfl);have Zg:Hid (Ck.look x.O s.sc=some sG):=A (by rw[cZ.o,cJ.o (by unfold qf;rw[<-mR,hT];rfl)];rfl);rw[Zg.o] at ba;dsimp only at ba;obtain⟨oo,oB,UC⟩:=ac4 An.o rfl;obtain⟨pR,pI⟩:=gd.o.inv.lS oo oB _ UC;dsimp only at pR pI;have jG:D L=D E:=(by rw[V.o.eq,h2]);have bB:sG<D E:=(by omega);obtain⟨eF,tK,uz⟩:=dR bK.o.us (by rw[gd.o.us,jG];omega);obtain⟨gt,rZ,pP⟩:=dR bK.o.ty (by rw[gd.o.ty,jG];omega);have yY:D s.eJ=D E:=(by rw[gd.o.us,jG]);have NI:D s.types=D E:=(by rw[gd.o.ty,jG]);rw[yY] at uz;rw[NI] at pP;subst uz pP;have xl:k<D s.eJ:=(by rw[yY];exact U);obtain⟨pn,rH,wK⟩:=bK.o.x8 xl;obtain⟨nf,yl⟩:=bK.o.Dh k (sG:Int);have iV:=A nf;have uK:=A yl;obtain⟨_,_,bp,wT,Wv,hG,iU⟩:=V.o.gQ nf.av bB;cases hG;have n5:=A iU;rw[iU.Z] at ba pI;obtain⟨dY,_,_,_,cL⟩:=iU.cells _ nf.av;obtain⟨qN,vn,_,_,_,_,_⟩:=nf.at;have pl:=bd nf.blk;have vX:(sG:Int)<D E:=(by omega);have lz:(0:Int)<=sG:=(by omega);have FB:Hid ((sG:Int)<D L):=A (by omega);have CK:=A xl;have Rl:=A pI;have RG:=A gd.o.inv.eo;have rG:=A NI;clear pR pI oB UC iU nf yl yY NI jG xl;cases i7:(bp.j'==7) with
     |true=>
      as_aux_lemma=>
       have fW:bp.j'=7:=(by simpa using i7);have bZ:=ba.o;rw[aS fW] at bZ;replace bZ:=A bZ;clear fW;go_wp2_with fail;generalize ta:a7 wr ⟨eF,k,none⟩ (.int .i64 (sG:Int))=cp at*;clear ta z0 lB z2 pn rH wK b' c9 cw da bO bq cK c3 c4 b9;refine b7 (eL.O V iV.o.av sG bB) λoF G=>?_;have ab:=A (iV.o.below G);have nM:=A (uK.o.trans (Fr.below G));clear G;go_wp2;go_returns;exact JH gd.o CK.o ab.o nM.o (hg (V.o.short sG) (by decide)) lz FB.o bZ.o
     |false=>
      have fW: ¬bp.j'=7:=(by simpa using i7);cases i27:(bp.j'==27) with
      |true=>
       as_aux_lemma=>
        have CL:bp.j'=27:=(by simpa using i27);have bZ:=ba.o;rw[ao fW,aS CL] at bZ;have yZ:0<D bp.I:=(by rw[n5.o.ly.len];rcases Rl.o with h|h|h<;>rw[h]<;>exact oI _);have e':=(n5.o.at yZ).1;have Ty:(0:Int)<D bp.I:=(by omega);obtain⟨sN,rfl,m0⟩:=n5.o.bM _ 0 iV.o.av yZ;obtain⟨t1,t2,t3⟩:=iV.o.x7 (k:=Y bp.I 0 0) (by show _<D s.types;rw[rG.o];omega);have vI:Hid (D (Y s.types (Y bp.I 0 0) [])<=200000000000):=A (by
         rw[cd,cE (by rw[rG.o];omega)];exact RG.o _ (im _))
        unfold bM at bZ;rw[n5.o.Z] at bZ;replace t1:aG (a7 wr ⟨eF,k,none⟩ (.int .i64 (sG:Int))) ⟨gt,Y bp.I 0 0,none⟩=some (.string (str (Y s.types (Y bp.I 0 0) []))):=t1;replace bZ:=A bZ;generalize Y s.types (Y bp.I 0 0) []=a' at*;generalize Y bp.I 0 0=eS at*;have e0:(eS:Int)<D E:=(by omega);have o5:(0:Int)<=eS:=(by omega);clear fW CL;go_wp2_with fail;generalize ta:a7 wr ⟨eF,k,none⟩ (.int .i64 (sG:Int))=cp at*;clear ta z0 lB z2 pn rH wK b' c9 cw da bO bq cK c3 c4 b9;have ab:=A iV.o.drew;have nM:Hid (Fr p (.slice (some ⟨gt,0,none⟩) (D E) rZ) (.slice (some ⟨eF,0,none⟩) E.length tK) wr cp.drew):=A (uK.o.trans (Fr.below (aT _ _).drew));refine wp_region_still_lit (by kernel_rfl) (by kernel_rfl) ?_
        repeat still_step
        still_call (Kb a' cp.drew)
        repeat still_step
        refine wpStill_nil ?_;change Exit.then _ _ _ _ cp.drew;generalize cp.drew=oF at*;go_wp2;go_returns;refine JH gd.o CK.o ab.o nM.o ?_ lz FB.o bZ.o;unfold fq;split
        .rw[Option.getD_some,qA];have:=vI.o;omega
        .exact gp _
      |false=>
       as_aux_lemma=>
        have CL: ¬bp.j'=27:=(by simpa using i27);have bZ:=ba.o;rw[ao fW,ao CL] at bZ;have yZ:0<D bp.I:=(by rw[n5.o.ly.len];rcases Rl.o with h|h|h<;>rw[h]<;>exact oI _);have e':=(n5.o.at yZ).1;have Ty:(0:Int)<D bp.I:=(by omega);obtain⟨sN,rfl,m0⟩:=n5.o.bM _ 0 iV.o.av yZ;obtain⟨t1,t2,t3⟩:=iV.o.x7 (k:=Y bp.I 0 0) (by show _<D s.types;rw[rG.o];omega);have vI:Hid (D (Y s.types (Y bp.I 0 0) [])<=200000000000):=A (by
         rw[cd,cE (by rw[rG.o];omega)];exact RG.o _ (im _))
        unfold bM at bZ;rw[n5.o.Z] at bZ;replace t1:aG (a7 wr ⟨eF,k,none⟩ (.int .i64 (sG:Int))) ⟨gt,Y bp.I 0 0,none⟩=some (.string (str (Y s.types (Y bp.I 0 0) []))):=t1;replace bZ:=A bZ;generalize Y s.types (Y bp.I 0 0) []=a' at*;generalize Y bp.I 0 0=eS at*;have e0:(eS:Int)<D E:=(by omega);have o5:(0:Int)<=eS:=(by omega);clear fW CL;go_wp2_with fail;generalize ta:a7 wr ⟨eF,k,none⟩ (.int .i64 (sG:Int))=cp at*;clear ta z0 lB z2 pn rH wK b' c9 cw da bO bq cK c3 c4 b9;have ab:=A iV.o.drew;have nM:Hid (Fr p (.slice (some ⟨gt,0,none⟩) (D E) rZ) (.slice (some ⟨eF,0,none⟩) E.length tK) wr cp.drew):=A (uK.o.trans (Fr.below (aT _ _).drew));go_region
        go_wp2;go_returns;exact JH gd.o CK.o ab.o nM.o vI.o lz FB.o bZ.o
end
end Rk
namespace Rk
open Ck
section
variable{L:List aP}{E:List (aP×af)}{cG:Nat}{w0:ai}{p:Nat}{nv tv uv:af}
def ac2(V:Hid (eL L E cG w0 nv))(k:Nat):
  ∀f,k<f->k<D E->sB L w0 p nv tv uv k f:=by
 induction k using Nat.strongRecOn with
 |ind k cB=>
 intro f aI U;obtain⟨f,rfl⟩: ∃mP,f=mP+1:=⟨f- 1,by omega⟩;have dy:Hid (∀j,j<k->sB L w0 p nv tv uv j f):=A λj bg=>cB j bg f J J;exact⟨λhc w b_ s fl h dT=>Zs V U hc dy h dT,λhc w b_ s fl h dT=>aaX V U hc dy h dT,λhc w b_ s fl h dT=>aco V U hc dy h dT,
  λhc w b_ s fl h dT=>abb V U (A λw b_ s h dT=>ZN V U J hc dy (A λw b_ s h dT=>ZR V U h dT) h dT) h dT⟩
end
end Rk
namespace Rk
open Ck
def yb (c:List (List (bz×Nat))):df->df
 | .bL e k=> .bL e k
 | .ok t s=> .ok t {s with sc:=c}
def Qo{c}{f:Nat->b5->df}: ∀(l:List Nat),(∀b∈l,∀s:b5,f b {s with sc:=c}=yb c (f b s))-> ∀s:b5,each f l {s with sc:=c}=yb c (each f l s)
 |[],_,s=>rfl
 |a::l,h,s=>by
  show(f a {s with sc:=c}).M _=yb c ((f a s).M λ_ s1=>each f l s1);rw[h a (hY ..)];cases f a s with
  |bL e k=>rfl
  |ok t s1=>exact Qo l (λb G=>h b (hP _ G)) s1
def Qp{c b e k t s}:bl b e k t {s with sc:=c}=yb c (bl b e k t s):=by unfold bl;split<;>rfl
section
variable{L:List aP}{E:List (aP×af)}{cG:Nat}{w0:ai}{p:Nat}{nv tv uv:af}{a:Nat}{s0 s s2:b5}{eE fl ey:Option (Int×Int)}{pl r r2:df}{w w1 w2 wk:ai}{Q:e7->ai->Prop}{K:bz->b5->df}{b:Bool}{c:Int}{t:bz}
def KY(V:eL L E cG w0 nv)(c:List (List (bz×Nat))): ∀(f a:Nat),a<D E->(1<=(Z L a).j'/\(Z L a).j'<=6)-> ∀s:b5,bE L f .typ a {s with sc:=c}=yb c (bE L f .typ a s)
 |0,_,_,_,_=>rfl
 |f+1,a,aR,U,s=>by
  obtain⟨x,u,aF,ax,gj,hm⟩:=V.at aR;have eh:=kq.I V gj (.inl U);show l5 L (bE L f) a _=yb c (l5 L (bE L f) a s);unfold l5;rw[Qo (Z L a).I λb G s=>by
   obtain⟨i,ay,rfl⟩:=List.mem_iff_getElem.1 G;rw[ax] at ay;obtain⟨R,T,_,bJ⟩:=eh i ay;have e:(Z L a).I[i]'(by rw[ax];exact ay)=Y x.I i 0:=(by simp[ax,cd,cE ay]);rw[e];refine KY V c f _ J ⟨?_,bJ (by rw[<-ax];exact U.2)⟩ s;rcases T with T|T|T<;>omega]
  cases each (bE L f .typ) (Z L a).I s with
  |bL e k=>rfl
  |ok t s1=>
   show(if _ then _ else _)=yb c (if _ then _ else _);split
   .exact Qp (s:=iA a (B.O L a) s1)
   split
   .exact Qp (s:=iA a (B.O L a) s1)
   rw[ao J,ao J];rfl
def eN.typ(V:eL L E cG w0 nv){f}(aR:a<D E)(U:1<=(Z L a).j'/\(Z L a).j'<=6)(h:eN L fl (bE L f .typ a (fH s)) [] s2 ey):eN L fl (bE L f .typ a s) [] (Ck.shut s2) ey:=by
 have ag:bE L f .typ a (fH s)=yb (s.sc++[[]]) (bE L f .typ a s):=KY V _ f a aR U s;have aE:bE L f .typ a s=yb s.sc (bE L f .typ a s):=KY V s.sc f a aR U s;rw[ag] at h;cases au:bE L f .typ a s with
 |bL e k=>rw[au] at h;exact⟨h.gP,λ_ _ _ e=>(nomatch e),λaH c k e=>h.bL aH c k (by cases e;rfl)⟩
 |ok t s1=>
  rw[au] at h aE;have bU:s1={s1 with sc:=s.sc}:=(df.ok.inj aE).2;refine⟨h.gP,λaH hL s' e=>?_,λ_ _ _ e=>(nomatch e)⟩;cases e;obtain⟨g1,g2,g3⟩:=h.ok aH _ _ rfl;refine⟨g1,g2,?_⟩;rw[g3];show Ck.shut {s1 with sc:=s.sc++[[]]}=s1;unfold Ck.shut;rw[show({s1 with sc:=s.sc++[[]]}:b5).sc.dropLast=s.sc from xF];exact bU.symm
structure cI (L:List aP)(w0:ai)(p:Nat)(nv tv uv:af)(s0:b5)(eE:Option (Int×Int))(pl:df)(w1 wk:ai)(s:b5)(fl:Option (Int×Int))(r:df):Prop where
 st: ∃b_,dK w0 p nv tv uv wk b_ s fl
 fr:Fr p tv uv w1 wk
 ih: ∀hL s' eT,eN L fl r hL s' eT->eN L eE pl hL s' eT
 gx:pU L s0 s
def pU.refl:pU L s s:=⟨rfl,rfl,rfl,rfl,rfl,id,λ_ h=>h⟩
def pU.trans(h:pU L s0 s)(k:pU L s s2):pU L s0 s2:=⟨k.ty.trans h.ty,k.us.trans h.us,k.res.trans h.res,k.cx.trans h.cx,k.sc.trans h.sc,λi=>k.inv (h.inv i),λi ay=>k.gn i (h.gn i ay)⟩
def r6.go{k}(h:r6 L s0 k)(hs:pU L s0 s):r6 L s k:=⟨hs.ty.trans h.ty,hs.us.trans h.us,hs.inv h.inv,by rw[hs.cx];exact h.lp,by rw[hs.sc];exact h.room⟩
def d0{b_}(h:dK w0 p nv tv uv wk b_ s fl)(e:pl=r):Hid (cI L w0 p nv tv uv s fl pl wk wk s fl r):=A ⟨⟨b_,h⟩,Fr.refl,λ_ _ _ h=>e▸h,pU.refl⟩
def sx(e:r=r2)(h:Hid (cI L w0 p nv tv uv s0 eE pl w1 wk s fl r)):Hid (cI L w0 p nv tv uv s0 eE pl w1 wk s fl r2):=e▸h
def u_(h:Hid (cI L w0 p nv tv uv s0 eE pl w1 wk s fl r))(G:aL wk wk w2):Hid (cI L w0 p nv tv uv s0 eE pl w1 w2 s fl r):=by obtain⟨b_,R⟩:=h.o.st;exact A ⟨⟨b_,R.below G⟩,h.o.fr.trans (Fr.below G),h.o.ih,h.o.gx⟩
def cI.av(h:cI L w0 p nv tv uv s0 eE pl w1 wk s fl r):aL w0 w0 wk:=by obtain⟨b_,h⟩:=h.st;exact h.av
def L2{hx args v}(hc:aY hx args wk λe w'=>e= .returned v/\aL wk wk w')(h: ∀w2,Hid (cI L w0 p nv tv uv s0 eE pl w1 w2 s fl r)->Q (.returned v) w2)(H:Hid (cI L w0 p nv tv uv s0 eE pl w1 wk s fl r)):aY hx args wk Q:=by refine hc.mono ?_;rintro e w2 ⟨rfl,G⟩;exact h w2 (u_ H G)
def Db(V:Hid (eL L E cG w0 nv))(U:a<D E){b2}(G:b=b2)(h: ∀w2 ey,Hid (cI L w0 p nv tv uv s0 eE pl w1 w2 s ey (K t s))->Q (.returned (.tuple #[])) w2)(H:Hid (cI L w0 p nv tv uv s0 eE pl w1 wk s fl ((bl b2 c a t s).M K))):aY 21 #[(p,0),.bool b,c,a] wk Q:=by subst G;obtain⟨b_,R⟩:=H.o.st;refine b7 (tO (A V.o.aj) (A V.o.eq) R b c a U) λw2⟨b1,b2⟩=>?_;exact h w2 _ (A ⟨⟨_,b1⟩,H.o.fr.trans b2,λhL s' eT T=>H.o.ih hL s' eT ((eN.bl b c a t s).M T),H.o.gx⟩)
def SB{hx args rc}(hc: ∀b_,dK w0 p nv tv uv wk b_ s fl->aY hx args wk λe w'=>e= .returned (.tuple #[])/\ ∃s' eT sv',dK w0 p nv tv uv w' sv' s' eT/\Fr p tv uv wk w'/\eN L fl rc [] s' eT/\pU L s s')(h: ∀w2 s2 ey,Hid (cI L w0 p nv tv uv s0 eE pl w1 w2 s2 ey (K [] s2))->Q (.returned (.tuple #[])) w2)(H:Hid (cI L w0 p nv tv uv s0 eE pl w1 wk s fl (rc.M K))):aY hx args wk Q:=by obtain⟨b_,R⟩:=H.o.st;refine b7 (hc b_ R) λw2⟨s2,ey,mJ,b1,b2,bC,bG⟩=>?_;exact h w2 s2 ey (A ⟨⟨_,b1⟩,H.o.fr.trans b2,λhL s' eT T=>H.o.ih hL s' eT (bC.M T),H.o.gx.trans bG⟩)
def n'(H:Hid (cI L w0 p nv tv uv s0 eE pl w1 wk s fl r)):aG wk p=some nv/\p<wk.heap.size:=by obtain⟨b_,R⟩:=H.o.st;exact⟨R.at.1,bd R.blk⟩
def ac3(V:eL L E cG w0 nv){f g}(aR:a<D E)(h:eN L fl (bE L f .typ a (fH s)) [] s2 ey)(hs:Shape L g (fH s) s2):((1<=(Z L a).j'/\(Z L a).j'<=6)->eN L fl (bE L f .typ a s) [] (Ck.shut s2) ey)/\eN L fl ((bE L f .typ a (fH s)).M λ_ s1=> .ok [] {s1 with sc:=s.sc}) [] (Ck.shut s2) ey/\pU L s (Ck.shut s2):=by
 have gU:s2.sc.dropLast=s.sc:=by
  obtain⟨m,hm,_⟩:=hs.sc;rw[hm,xF];show(s.sc++[[]]).dropLast=_;rw[xF]
 refine⟨λU=>eN.typ V aR U h,?_,⟨hs.ty,hs.us,hs.res,hs.cx,gU,λi=>?_,hs.gn⟩⟩
 .have e:Ck.shut s2={s2 with sc:=s.sc}:=by unfold Ck.shut;rw[gU]
  rw[e];exact h.M (eN.pure [] _)
 .have i2:=hs.inv i.fH;exact⟨i2.eo,λm hm=>i.lS m (by have o3:m∈s2.sc.dropLast:=hm;rwa[gU] at o3),i2.us⟩
def r6.open{k}(h:r6 L s k)(aR:a<k):iF L (fH s) a:=by
 refine⟨zc s,h.ty,h.us,h.inv.fH,by have:=h.lp;show 0<=s.cx/\s.cx+(a:Int)<=20000;omega,?_⟩;rw[Jl];have T:=h.room;generalize(e4 s.sc).length=bP at*;have ah:10000000*(a+1)+10000000<=10000000*(k+1):=by
  have:=Nat.mul_le_mul_left 10000000 (show a+1+1<=k+1 by omega);rwa[Nat.mul_succ] at this
 generalize 10000000*(a+1)=X at*;generalize 10000000*(k+1)=cj at*;omega
def ahY(H:Hid (cI L w0 p nv tv uv s0 eE pl w1 wk s fl r)):Hid (cI L w0 p nv tv uv s0 eE pl wk wk s fl r):=A ⟨H.o.st,Fr.refl,H.o.ih,H.o.gx⟩
def ahU(aI:Fr p tv uv w2 w1)(H:Hid (cI L w0 p nv tv uv s0 eE pl w1 wk s fl r)):Hid (cI L w0 p nv tv uv s0 eE pl w2 wk s fl r):=A ⟨H.o.st,aI.trans H.o.fr,H.o.ih,H.o.gx⟩
def ahT(V:Hid (eL L E cG w0 nv)){k f}(aR:a<k)(U:k<D E)(aI:k<=f)(hT:kq L a){rc}(ajq:rc=bE L f .typ a s/\(1<=(Z L a).j'/\(Z L a).j'<=6)\/rc=(bE L f .typ a (fH s)).M λ_ s1=> .ok [] {s1 with sc:=s.sc})(dT:r6 L s k)
 (h: ∀w2 s2 ey,Hid (cI L w0 p nv tv uv s0 eE pl w1 w2 s2 ey (K [] s2))->Q (.returned (.tuple #[])) w2)(H:Hid (cI L w0 p nv tv uv s0 eE pl w1 wk s fl (rc.M K))):
  aY 23 #[(p,0)] wk λe w2=>e= .returned (.tuple #[])/\wk.heap.size<=w2.heap.size/\Fr p tv uv wk w2/\aL w0 w0 w2/\aG w2 p=some nv/\p<w2.heap.size/\aY 24 #[(p,0),a] w2 λe bc=>e= .returned (.tuple #[])/\aY 25 #[(p,0)] bc Q:=by
 obtain⟨b_,R⟩:=H.o.st;refine b7 (JQ R dT.lt) λw2⟨mJ,b1,b2⟩=>?_;refine⟨rfl,b2.size,b2,b1.av,b1.at.1,bd b1.blk,(JT V a f w2 mJ (fH s) fl J J hT b1 (dT.open aR)).mono ?_⟩;rintro e bc ⟨rfl,aq,iW,pS,bq,cK,c3,c4⟩;refine⟨rfl,(JR bq c4.sc.ne).mono ?_⟩;rintro e bS ⟨rfl,uF,d1,d2⟩;obtain⟨ig,l2,r4⟩:=ac3 V.o J c3 c4;have h8:eN L fl rc [] (Ck.shut aq) iW:=by
  obtain⟨rfl,h⟩|rfl:=ajq
  .exact ig h
  .exact l2
 exact h bS _ _ (A ⟨⟨_,d1⟩,H.o.fr.trans (b2.trans (cK.trans d2)),λhL s' eT T=>H.o.ih hL s' eT (h8.M T),H.o.gx.trans r4⟩)
end
end Rk
namespace Rk
open Ck
def St (L:List aP)(w0:ai)(p:Nat)(nv tv uv:af)(r:df)(s:b5)(fl:Option (Int×Int))(w:ai)(e:e7)(w':ai):Prop:=
 e= .returned (.tuple #[])/\ ∃s' eT sv',dK w0 p nv tv uv w' sv' s' eT/\Fr p tv uv w w'/\eN L fl r [] s' eT/\pU L s s'
def al8 (L:List aP)(ahead:List Nat)(k:Nat)(s1:b5):df:=
 (bl (!(ahead.any λa=>(Z L a).O==(Z L k).O&&(Z L a).j' !=14)) 7 k [] s1).M λ_ s2=>
   bl (!((Z L k).j'==13&&(Z L k).O==[109,97,105,110])||(Z L (bM L k 0)).I==[]) 10 k [] s2
def al5 (L:List aP)(k:Nat)(s2:b5):df:=bl (!((Z L k).j'==13&&(Z L k).O==[109,97,105,110])||(Z L (bM L k 0)).I==[]) 10 k [] s2
section
variable{L:List aP}{E:List (aP×af)}{cG:Nat}{w0:ai}{p k f:Nat}{nv tv uv:af}{w w1 w2 wk:ai}{s s0 s2:b5}{fl eE:Option (Int×Int)}{pl r:df}{K:bz->b5->df}{t:bz}{c:Int}{a:Nat}
def gz(aI:Hid (Fr p tv uv w w1))(H:Hid (cI L w0 p nv tv uv s0 eE pl w1 wk s fl (.ok [] s))):St L w0 p nv tv uv pl s0 eE w (.returned (.tuple #[])) wk:=by obtain⟨b_,R⟩:=H.o.st;exact⟨rfl,s,fl,b_,R,aI.o.trans H.o.fr,H.o.ih _ _ _ (eN.pure _ _),H.o.gx⟩
def Pu{l}{q:Nat->Bool}{j}(bg:j<D l):(l.drop j).any q=(q (Y l j 0)||(l.drop (j+1)).any q):=by rw[kS bg,List.any_cons,cd,cE bg];rfl
def Oy{E' d i m l}:py L E' d i (m::l) s=(if(Z L m).j'=9 then E' .typ (bM L m 0) s else(E' .typ (bM L m 0) (fH s)).M λ_ s1=> .ok [] {s1 with sc:=s.sc}).M λ_ s1=>
  (bl (!(((Z L d).I.take i).any λa=>(Z L a).O==(Z L m).O)) 7 m [] s1).M λ_ s2=>py L E' d (i+1) l s2:=rfl
def KJ{a b}{K:bz->b5->df}:(bl (!(a||b)) c k t s).M K=(bl (!a) c k [] s).M λ_ s=>(bl (!b) c k t s).M K:=by cases a<;>cases b<;>rfl
def ZQ (V:Hid (eL L E cG w0 nv)) (D2:Hid (rR L)) {all:List Nat} {ga ca i:Nat} (cz:Hid (∀w' j,aL w0.heap.size w0 w'->j<all.length->w'.cell? ⟨ga,j,none⟩=some (.int .i64 (all.getD j 0:Int)))) (vF:Hid (∀j,j<all.length->all.getD j 0<E.length)) (ay:i<all.length) (c6:all.length<=1000000) (hv:all.getD i 0=k) (U:k<E.length) (hc:ct 24 (Z L k).j'=true) (nB:k<=f) (RE:Hid (∀j,j<k->sB L w0 p nv tv uv j f))
  {b_:af} (h:dK w0 p nv tv uv w b_ s fl) (dT:r6 L s k):Calls prog 10 #[.pointer (some ⟨p,0,none⟩),.slice (some ⟨ga,0,none⟩) all.length ca,.int .i64 (i:Int)] w (St L w0 p nv tv uv (decl L (bE L f) (all.take i) k s) s fl w):=by
 obtain⟨ch,cA,x,bb,aQ,rfl,cg⟩:=V.o.gQ h.av U;have br:=A cg;have ax:=cg.Z;rw[ax] at hc;have qt:Hid (x.j'=10\/x.j'=12\/x.j'=13\/x.j'=14):=A (by simpa[ct] using hc);have gd:=A dT;obtain⟨bO,bq,cK,c3,c4⟩:=cg.cells w h.av;obtain⟨b',_,_,_,_⟩:=h.at;have b9:=bd h.blk;have ans:(k:Int)<E.length:=by omega
 have hi:(0:Int)<=k:=by omega
 have fM:(0:Int)<=i:=by omega
 have ano:(i:Int)<all.length:=by omega
 have fB:=cz.o w i h.av ay;rw[hv] at fB;have H1:=A (h.alloc (aw #[x.j',x.an,x.aX,x.O,.slice bb x.I.length aQ] 53));have cJ:Hid (Fr p tv uv w (w.alloc (aw #[x.j',x.an,x.aX,x.O,.slice bb x.I.length aQ] 53))):=A (Fr.below ((aT w w).alloc (bD _) _));have nQ:=A (ek w (aw #[x.j',x.an,x.aX,x.O,.slice bb x.I.length aQ] 53));have qk:w.heap.size<(w.alloc (aw #[x.j',x.an,x.aX,x.O,.slice bb x.I.length aQ] 53)).heap.size:=by simp
 have rq:=cg.fA;have rG:Hid ((all.take i).length=i/\ ∀j,j<i->(all.take i).getD j 0=all.getD j 0):=A ⟨by rw[mr];omega,λj bg=>by rw[cd,cd,List.getElem?_take_of_lt bg]⟩;clear h dT hc cg;go_in;go_upto_block 0 with fail
 clear bO bq cK c3 c4 b' b9 fB;generalize fp:w.alloc (aw #[x.j',x.an,x.aX,x.O,.slice bb x.I.length aQ] 53)=w1 at*;generalize w.heap.size=q at*;have dx:Hid (∀w',Fr p tv uv w1 w'->w'.cell? q=some [x.j']/\w'.cell? (q,3)=some [x.O]/\w'.cell? (q,4)=some (.slice bb x.I.length aQ)/\q<w'.heap.size):=A λw' aI=>by
  have a_:=H1.o.node aI nQ.o;exact⟨az a_ 0,az a_ 3,az a_ 4,bd a_⟩
 clear fp;obtain⟨bO,c3,c4,cW⟩:=dx.o w1 Fr.refl;have kP:Hid (∀i,bM L k i=x.I.getD i 0):=A λi=>by unfold bM;rw[ax]
 go_cut[] from 14 to 180 (λdN=>x.j'≠14/\ ∃aq iW,Hid (cI L w0 p (.slice (some ch) E.length cA) tv uv s fl (decl L (bE L f) (all.take i) k s) w1 dN aq iW ((bl (!((all.take i).any λa=>(Z L a).O==x.O&&(Z L a).j' !=14)) 7 k [] aq).M λ_ s2=>bl (!(x.j'==13&&x.O==[109,97,105,110])||(Z L (x.I.getD 0 0)).I==[]) 10 k [] s2)))
 case first=>
  by_cases nU:x.j'=14
  .have xd:(x.j'==14)=true:=(by simp[nU]);have tz:x.I.length=3:=(by rw[br.o.ly.len,nU];rfl);have aH:=br.o.at (i:=0) (by omega);have R:=br.o.at (i:=1) (by omega);have T:=br.o.at (i:=2) (by omega);rw[nU] at aH R T;replace aH:x.I.getD 0 0<k/\(Z L (x.I.getD 0 0)).j'=7:=⟨aH.1,by simpa[ct,B.pat] using aH.2⟩;replace R:x.I.getD 1 0<k/\(Z L (x.I.getD 1 0)).j'=8:=⟨R.1,by simpa[ct,B.pat] using R.2⟩;replace T:x.I.getD 2 0<k/\(Z L (x.I.getD 2 0)).j'=16:=⟨T.1,by simpa[ct,B.pat] using T.2⟩;have DQ:(0:Int)<x.I.length/\(1:Int)<x.I.length/\(2:Int)<x.I.length:=(by omega);obtain⟨uc,tY,Hi⟩:=DQ;have alX:0<x.I.length:=(by omega);have Hk:1<x.I.length:=(by omega);have Tn:2<x.I.length:=(by omega);obtain⟨g2,rfl,_⟩:=br.o.bM w1 0 H1.o.av (by omega);have eu:Hid (∀w',aL w0 w0 w'->w'.cell? g2=some [(x.I.getD 0 0:Int)]/\w'.cell? (g2,1)=some [(x.I.getD 1 0:Int)]/\w'.cell? (g2,2)=some [(x.I.getD 2 0:Int)]):=A λw' G=>by
    have key: ∀i,i<x.I.length->w'.cell? (g2,i)=some [(x.I.getD i 0:Int)]:=λi ay=>by
     obtain⟨g3,e,ah⟩:=br.o.bM w' i G ay;cases e;exact ah
    exact⟨key 0 (by omega),key 1 (by omega),key 2 (by omega)⟩
   have H:=d0 (L:=L) H1.o (show decl L (bE L f) (all.take i) k s=(function L (bE L f) (some (x.I.getD 0 0)).toList (x.I.getD 1 0) (x.I.getD 2 0) s).M λ_ s1=>(bl (!((all.take i).any λa=>(Z L a).O==x.O&&(Z L a).j'==14&&B.O L (bM L a 0)==B.O L (x.I.getD 0 0))) 7 k [] s1).M λ_ s2=>bl (field L ((B.O L (x.I.getD 0 0)).drop 1) x.O).isNone 7 k [] s2 by
    unfold decl;rw[kP.o 0,kP.o 1,kP.o 2,ax,aS nU];rfl)
   obtain⟨cl,cu,k2⟩:=eu.o w1 H1.o.av;have mc:Hid (1<=(B.O L (x.I.getD 0 0)).length):=A (by
    have h:=(D2.o.ty (x.I.getD 0 0) (by rw[V.o.eq,h2];omega) (by rw[aH.2];decide)).ne;cases a_:B.O L (x.I.getD 0 0) with
    |nil=>exact absurd a_ h
    |cons c r=>rw[iq];omega)
   clear tz ax;generalize x.I.getD 0 0=a0 at*;generalize x.I.getD 1 0=a1 at*;generalize x.I.getD 2 0=a2 at*;have fU:=A aH;have mY:=A R;have xw:=A T;clear aH R T;go_wp2_with fail;go_still_tail 13,(by kernel_rfl)
   change fo _ _ _ _ _ w1.drew;clear cu k2 bO c3 c4 cW;replace H:=u_ H (aT _ _).drew;generalize w1.drew=w2 at*;go_wp2_with fail;refine SB (λb_ h=>Ou V U nB RE (some a0) a1 a2 (λc hc=>by cases hc;exact fU.o) mY.o xw.o h (gd.o.go H.o.gx)) (λbc aq iW H=>?_) H;obtain⟨b',b9⟩:=n' H;obtain⟨bO,c3,c4,cW⟩:=dx.o bc H.o.fr;obtain⟨cl,_,_⟩:=eu.o bc H.o.av;go_wp2_with fail;go_still_tail 8,(by kernel_rfl)
   change fo _ _ _ _ _ bc.drew;clear cl bO c3 c4 cW b' b9;replace H:=u_ H (aT _ _).drew;generalize bc.drew=bS at*;go_wp2_with fail;refine L2 (eL.O V H.o.av a0 (Nat.lt_trans fU.o.1 U)) (λbm eH=>?_) H;clear H;have H:=eH;clear eH;generalize B.O L a0=self at*;go_wp2_with fail;go_loopg[9] i (λr xR wr=> ∃(j:Nat) (jg:Option (Int×Int)),j+r=i/\xR= j/\Hid (cI L w0 p (.slice (some ch) E.length cA) tv uv s fl (decl L (bE L f) (all.take i) k s) w1 wr aq jg ((bl (!(((all.take i).drop j).any λa=>(Z L a).O==x.O&&(Z L a).j'==14&&B.O L (bM L a 0)==self)) 7 k [] aq).M λ_ s2=>bl (field L (self.drop 1) x.O).isNone 7 k [] s2)))
   case atStart=>exact⟨0,iW,by omega,rfl,H⟩
   case round=>
    obtain⟨j,jg,bg,rfl,eU⟩:=hrel;clear H;have H:=eU;clear eU;generalize wr=bH at*;obtain⟨b',b9⟩:=n' H;by_cases cr:j<i
    .have j3:(j:Int)<i:=(by omega);have me:(0:Int)<=j:=(by omega);have ai8:(j:Int)<all.length:=(by omega);have Fz:j<all.length:=(by omega);have hK:IntKind.i64.wrap (j+1)=j+1:=dI _ (by omega);have FP:=cz.o bH j H.o.av Fz;have ND:=vF.o j Fz;have NF:=rG.o.2 j cr;replace H:=sx (show _=(bl (!((Z L (all.getD j 0)).O==x.O&&(Z L (all.getD j 0)).j'==14&&B.O L (bM L (all.getD j 0) 0)==self)) 7 k [] aq).M λ_ aq=>(bl (!(((all.take i).drop (j+1)).any λa=>(Z L a).O==x.O&&(Z L a).j'==14&&B.O L (bM L a 0)==self)) 7 k [] aq).M λ_ s2=>bl (field L (self.drop 1) x.O).isNone 7 k [] s2 from by rw[Pu (by rw[rG.o.1];exact cr),NF];exact KJ) H;obtain⟨_,_,m,tS,oX,aB,hy⟩:=V.o.gQ H.o.av ND;cases aB;have gr:=hy.Z;generalize all.getD j 0=d at*;have MY:Hid (m.j'=14->0<m.I.length/\bM L d 0=m.I.getD 0 0/\m.I.getD 0 0<E.length):=A λe=>by
      have ah:m.I.length=3:=(by rw[hy.ly.len,e];rfl);have:=(hy.at (i:=0) (by omega)).1;exact⟨by omega,by unfold bM;rw[gr],by omega⟩
     rw[gr] at H;have c0:=A hy;obtain⟨m0,m1,m2,m3,m4⟩:=hy.cells bH H.o.av;have vX:(d:Int)<E.length:=(by omega);have lz:(0:Int)<=d:=(by omega);obtain⟨bO,c3,c4,cW⟩:=dx.o bH H.o.fr;clear hy gr;have NG:ga<bH.heap.size:=sF FP;have FA:ch<bH.heap.size:=sF m0;go_wp2_with fail;go_region
     have v8:Hid (((bH.alloc (aw #[m.j',m.an,m.aX,m.O,.slice tS m.I.length oX] 53)).drew).heap[bH.heap.size]?=some (.cells #[m.j',m.an,m.aX,m.O,.slice tS m.I.length oX] 53 (0,0))):=A (ek bH (aw #[m.j',m.an,m.aX,m.O,.slice tS m.I.length oX] 53));replace H:=u_ H ((aT bH bH).alloc (bD _) (aw #[m.j',m.an,m.aX,m.O,.slice tS m.I.length oX] 53)).drew;clear bO c3 c4 cW b' b9 m0 m1 m2 m3 m4 NG FA FP;generalize(bH.alloc (aw #[m.j',m.an,m.aX,m.O,.slice tS m.I.length oX] 53)).drew=iR at*;generalize bH.heap.size=qm at*;obtain⟨bO,c3,c4,cW⟩:=dx.o iR H.o.fr;obtain⟨b',b9⟩:=n' H;have m0:=az v8.o 0;have m3:=az v8.o 3;have m4:=az v8.o 4;have zi:=bd v8.o;simp only[cO,cQ,c8] at m0 m3 m4;by_cases em:m.j'=14
     .have e8:(m.j'==14)=true:=(by simp[em]);rw[e8] at H;cases hT:((str m.O).toList==(str x.O).toList) with
      |true=>
       obtain⟨ajR,Hs,ajS⟩:=MY.o em;obtain⟨qG,rfl,j4⟩:=c0.o.bM iR 0 H.o.av ajR;have aoi:(0:Int)<m.I.length:=(by omega);rw[<-mR,hT,Hs] at H;generalize m.I.getD 0 0=d0 at*;clear em Hs;go_wp2_with fail;go_still_tail 8,(by kernel_rfl)
       change fo _ _ _ _ _ iR.drew;clear bO c3 c4 cW b' b9 m0 m3 m4 zi j4;replace H:=u_ H (aT _ _).drew;generalize iR.drew=wk at*;go_wp2_with fail;refine L2 (eL.O V H.o.av d0 ajS) (λb4 hB=>?_) H;clear H;go_wp2_with fail;refine Db V U (b2:=!(B.O L d0==self)) (by rw[mR]) (λb3 sr H=>?_) (sx rfl hB);go_wp2_with fail;go_roundg (i-(j+1))
       case rel=>exact⟨j+1,sr,by omega,by go_num,H⟩
       case measure=>omega
      |false=>
       replace H:=sx (show _=(bl (!(((all.take i).drop (j+1)).any λa=>(Z L a).O==x.O&&(Z L a).j'==14&&B.O L (bM L a 0)==self)) 7 k [] aq).M λ_ s2=>bl (field L (self.drop 1) x.O).isNone 7 k [] s2 from by rw[<-mR,hT];rfl) H;clear em;go_wp2_with fail;go_roundg (i-(j+1))
       case rel=>exact⟨j+1,jg,by omega,by go_num,H⟩
       case measure=>omega
     .have e8:(m.j'==14)=false:=(by simp[em]);replace H:=sx (show _=(bl (!(((all.take i).drop (j+1)).any λa=>(Z L a).O==x.O&&(Z L a).j'==14&&B.O L (bM L a 0)==self)) 7 k [] aq).M λ_ s2=>bl (field L (self.drop 1) x.O).isNone 7 k [] s2 from by rw[e8];cases m.O==x.O<;>rfl) H;go_wp2_with fail;go_roundg (i-(j+1))
      case rel=>exact⟨j+1,jg,by omega,by go_num,H⟩
      case measure=>omega
    .obtain rfl:j=i:=(by omega);replace H:=sx (show _=(bl (field L (self.drop 1) x.O).isNone 7 k [] aq).M .ok from by rw[GK (by rw[rG.o.1];exact bD _)];exact jU ..) H;have e_:1<=(str self).size:=(by rw[js];exact mc.o);have ff:(1:Int)<=((str self).size:Int):=(by omega);have Ad:(1:Int)<=self.length:=(by have:=mc.o;omega);have rI:Hid ((str self).extract 1 (str self).size=str (self.drop 1)):=A (AS self);obtain⟨bO,c3,c4,cW⟩:=dx.o bH H.o.fr;go_wp2_with fail;replace H:=u_ H (aT _ _).drew;refine jT 13 (λcc=>cc.cell? p=some (.slice (some ch) E.length cA)/\cc.cell? (q,3)=some [x.O]) ⟨(n' H).1,(dx.o _ H.o.fr).2.1⟩ λaD=>?_;clear bO c3 c4 cW b' b9;generalize bH.drew=b4 at*;refine a' 0 ?_;refine a' 1 ?_;refine a' 2 ?_;refine a' 3 ?_;refine a' 4 ?_;refine a' 5 ?_;refine a' 6 ?_;refine a' 7 ?_;refine cT 8 λK ab=>?_;go_simp
     try rw[rI.o]
     refine L2 (Oq V H.o.av (self.drop 1) x.O) (λb3 pZ=>?_) H;clear H aD;generalize field L (self.drop 1) x.O=vb at*;go_wp2_with fail;refine ab.o _ _ (λ_=>⟨(n' pZ).1,(dx.o _ pZ.o.fr).2.1⟩) ?_;clear ab K;have aD:b3.cell? p=some (.slice (some ch) E.length cA)/\b3.cell? (q,3)=some [x.O]:=⟨(n' pZ).1,(dx.o _ pZ.o.fr).2.1⟩;refine a' 9 ?_;refine a' 10 ?_;refine a' 11 ?_;refine a' 12 ?_;refine cT 13 λK ab=>?_;go_simp;refine ab.o _ _ (λh=>absurd rfl h) ?_;clear ab K aD;refine bV ?_;go_wp2_with fail;refine Db V U (by cases vb<;>rfl) (λa6 T5 H=>?_) pZ;go_wp2;go_returns;exact gz cJ H
  .have xd:(x.j'==14)=false:=(by simp[nU]);have H:=d0 (L:=L) H1.o (show decl L (bE L f) (all.take i) k s=(if x.j'=13 then function L (bE L f) [] (x.I.getD 0 0) (x.I.getD 1 0) s else py L (bE L f) k 0 x.I s).M (λ_ s1=>(bl (!((all.take i).any λa=>(Z L a).O==x.O&&(Z L a).j' !=14)) 7 k [] s1).M λ_ s2=>bl (!(x.j'==13&&x.O==[109,97,105,110])||(Z L (x.I.getD 0 0)).I==[]) 10 k [] s2) by
    unfold decl;rw[kP.o 0,kP.o 1,ax,ao nU])
   replace nU:=A nU;clear ax;by_cases ji:x.j'=13
   .have qn:(x.j'==13)=true:=(by simp[ji]);have iL:x.I.length=2:=(by rw[br.o.ly.len,ji];rfl);have Tx:0<x.I.length:=(by omega);have DW:1<x.I.length:=(by omega);have alY:(0:Int)<x.I.length:=(by omega);have alZ:(1:Int)<x.I.length:=(by omega);obtain⟨g2,rfl,cl⟩:=br.o.bM w1 0 H1.o.av Tx;obtain⟨g3,iD,cu⟩:=br.o.bM w1 1 H1.o.av DW;cases iD;have aH:=br.o.at Tx;have R:=br.o.at DW;rw[ji] at aH R;have fU:Hid (x.I.getD 0 0<k/\(Z L (x.I.getD 0 0)).j'=8):=A ⟨aH.1,by simpa[ct,B.pat] using aH.2⟩;have mY:Hid (x.I.getD 1 0<k/\(Z L (x.I.getD 1 0)).j'=16):=A ⟨R.1,by simpa[ct,B.pat] using R.2⟩;rw[aS ji] at H;obtain⟨a0,fB⟩: ∃a0,x.I.getD 0 0=a0:=⟨_,rfl⟩;obtain⟨a1,v7⟩: ∃a1,x.I.getD 1 0=a1:=⟨_,rfl⟩;rw[fB] at cl fU;rw[v7] at cu mY;have Mv:=A fB;replace H:=sx (show _=(function L (bE L f) (none:Option Nat).toList a0 a1 s).M (λ_ s1=>(bl (!((all.take i).any λa=>(Z L a).O==x.O&&(Z L a).j' !=14)) 7 k [] s1).M λ_ s2=>bl (!(x.j'==13&&x.O==[109,97,105,110])||(Z L (x.I.getD 0 0)).I==[]) 10 k [] s2) from by rw[fB,v7];rfl) H;clear aH R ji iL fB v7;go_wp2_with fail;go_still_tail 9,(by kernel_rfl)
    change fo _ _ _ _ _ w1.drew;clear cl cu bO c3 c4 cW;replace H:=u_ H (aT _ _).drew;generalize w1.drew=w2 at*;go_wp2_with fail;refine SB (λb_ h=>Ou V U nB RE none a0 a1 (λc hc=>by cases hc) fU.o mY.o h (gd.o.go H.o.gx)) (λbc aq iW H=>?_) H;go_wp2_with fail;go_meet;exact⟨nU.o,aq,iW,H⟩
   .have qn:(x.j'==13)=false:=(by simp[ji]);rw[ao ji] at H;have LQ:Hid (x.j'=10\/x.j'=12):=A (by rcases qt.o with h|h|h|h<;>first|exact .inl h|exact .inr h|exact absurd h ji|exact absurd h nU.o);have GV:=br.o.fA.2;replace ji:=A ji;clear bO c3 c4 cW;go_wp2_with fail;go_loopg[14] x.I.length (λr xR wr=> ∃(j:Nat) (aq:b5) (iW:Option (Int×Int)),j+r=x.I.length/\xR= j/\Hid (cI L w0 p (.slice (some ch) E.length cA) tv uv s fl (decl L (bE L f) (all.take i) k s) w1 wr aq iW ((py L (bE L f) k j (x.I.drop j) aq).M λ_ s1=>(bl (!((all.take i).any λa=>(Z L a).O==x.O&&(Z L a).j' !=14)) 7 k [] s1).M λ_ s2=>bl (!(x.j'==13&&x.O==[109,97,105,110])||(Z L (x.I.getD 0 0)).I==[]) 10 k [] s2)))
    case atStart=>exact⟨0,s,fl,by omega,rfl,H⟩
    case round=>
     obtain⟨j,aq,iW,bg,rfl,eU⟩:=hrel;clear H;have H:=eU;clear eU;generalize wr=bH at*;obtain⟨bO,c3,c4,cW⟩:=dx.o bH H.o.fr;obtain⟨b',b9⟩:=n' H;by_cases cr:j<x.I.length
     .have j3:(j:Int)<x.I.length:=(by omega);have me:(0:Int)<=j:=(by omega);have hK:IntKind.i64.wrap (j+1)=j+1:=dI _ (by omega);obtain⟨g2,rfl,cu⟩:=br.o.bM bH j H.o.av cr;have eu:Hid (∀w' i,aL w0 w0 w'->i<x.I.length->w'.cell? (g2,i)=some [(x.I.getD i 0:Int)]/\x.I.getD i 0<E.length):=A λw' i G ay=>by
       obtain⟨g3,e,ah⟩:=br.o.bM w' i G ay;cases e;exact⟨ah,by have:=(br.o.at ay).1;omega⟩
      have mE:=br.o.at cr;have yx:x.I.getD j 0<E.length:=(by omega);obtain⟨_,_,m,tS,oX,aB,hy⟩:=V.o.gQ H.o.av yx;cases aB;have gr:=hy.Z;have BV:m.j'=9\/m.j'=11:=by
       have T:=mE.2;rw[gr] at T;obtain e|e:=LQ.o
       .rw[e,show B.pat 10 x.aX x.I.length=ef x.I.length 9 from rfl,cd,ku,aS cr] at T;exact .inl (by simpa[ct] using T)
       .rw[e,show B.pat 12 x.aX x.I.length=ef x.I.length 11 from rfl,cd,ku,aS cr] at T;exact .inr (by simpa[ct] using T)
      have oB:m.I.length=1:=(by rw[hy.ly.len];rcases BV with e|e<;>rw[e]<;>rfl);have LU:0<m.I.length:=(by omega);have al0:(0:Int)<m.I.length:=(by omega);obtain⟨qG,rfl,j4⟩:=hy.bM bH 0 H.o.av LU;have Io:Hid (∀w',aL w0 w0 w'->w'.cell? qG=some [(m.I.getD 0 0:Int)]):=A λw' G=>by
       obtain⟨g3,e,ah⟩:=hy.bM w' 0 G LU;cases e;exact ah
      have I9:=hy.at LU;have hT:Hid (m.I.getD 0 0<k/\kq L (m.I.getD 0 0)/\(m.j'=9->1<=(Z L (m.I.getD 0 0)).j'/\(Z L (m.I.getD 0 0)).j'<=6)):=A (by
       refine⟨by omega,?_,λe=>?_⟩
       .obtain e|e:=BV
        .have T:=I9.2;rw[e] at T;exact .inl (by simpa[ct,B.pat] using T)
        .have T:=I9.2;rw[e] at T;exact .inr (.inr (by simpa[ct,B.pat] using T))
       .have T:=I9.2;rw[e] at T;simpa[ct,B.pat] using T)
      replace H:=sx (show _=(if m.j'=9 then bE L f .typ (m.I.getD 0 0) aq else(bE L f .typ (m.I.getD 0 0) (fH aq)).M λ_ s1=> .ok [] {s1 with sc:=aq.sc}).M λ_ bA=>(bl (!((x.I.take j).any (λa=>(Z L a).O==m.O))) 7 (x.I.getD j 0) [] bA).M (λ_ cm=>(py L (bE L f) k (j+1) (x.I.drop (j+1)) cm).M (λ_ s1=>(bl (!((all.take i).any λa=>(Z L a).O==x.O&&(Z L a).j' !=14)) 7 k [] s1).M λ_ s2=>bl (!(x.j'==13&&x.O==[109,97,105,110])||(Z L (x.I.getD 0 0)).I==[]) 10 k [] s2)) from by
       rw[kS cr,show x.I[j]=x.I.getD j 0 from by rw[cd,cE cr];rfl];rw[Oy,show bM L (x.I.getD j 0) 0=m.I.getD 0 0 from by unfold bM;rw[gr],gr,br.o.Z,i']
       congr 1
       funext _ bA
       exact i' _ _ _) H
      obtain⟨m0,m1,m2,m3,m4⟩:=hy.cells bH H.o.av;obtain⟨a,aR⟩: ∃a,m.I.getD 0 0=a:=⟨_,rfl⟩;obtain⟨kt,wY⟩: ∃a,x.I.getD j 0=a:=⟨_,rfl⟩;rw[aR] at j4 Io hT H;rw[wY] at cu m0 m1 m2 m3 m4 yx H;have Y0:=A wY;have vX:(kt:Int)<E.length:=(by omega);have lz:(0:Int)<=kt:=(by omega);have hF:g2<bH.heap.size:=sF cu;have FA:ch<bH.heap.size:=sF m0;clear hy gr I9 mE aR wY oB;go_wp2_with fail;go_region
      have v8:Hid (((bH.alloc (aw #[m.j',m.an,m.aX,m.O,.slice (some qG) m.I.length oX] 53)).drew).heap[bH.heap.size]?=some (.cells #[m.j',m.an,m.aX,m.O,.slice (some qG) m.I.length oX] 53 (0,0))):=A (ek bH (aw #[m.j',m.an,m.aX,m.O,.slice (some qG) m.I.length oX] 53));replace H:=u_ H ((aT bH bH).alloc (bD _) (aw #[m.j',m.an,m.aX,m.O,.slice (some qG) m.I.length oX] 53)).drew;clear bO c3 c4 cW b' b9 m0 m1 m2 m3 m4 hF FA cu j4;have Rp:=A H.o.fr;obtain⟨apl,RV⟩:=H.o.st;have Er:Hid (∀w',Fr p tv uv (bH.alloc (aw #[m.j',m.an,m.aX,m.O,.slice (some qG) m.I.length oX] 53)).drew w'->w'.cell? (bH.heap.size,3)=some [m.O]/\w'.cell? (bH.heap.size,4)=some (.slice (some qG) m.I.length oX)/\bH.heap.size<w'.heap.size):=A λw' aI=>by
       have a_:=RV.node aI v8.o;exact⟨az a_ 3,az a_ 4,bd a_⟩
      clear RV;obtain⟨bO,c3,c4,cW⟩:=dx.o _ H.o.fr;obtain⟨b',b9⟩:=n' H;replace H:=ahY H;generalize(bH.alloc (.cells #[m.j',m.an,m.aX,m.O,.slice (some qG) m.I.length oX] 53)).drew=iR at*;generalize bH.heap.size=qm at*;go_wp2_with fail;refine(ahT V hT.o.1 U nB hT.o.2.1 (rc:=if m.j'=9 then bE L f .typ a aq else(bE L f .typ a (fH aq)).M λ_ s1=> .ok [] {s1 with sc:=aq.sc}) (by
       by_cases e:m.j'=9
       .exact .inl ⟨aS e,hT.o.2.2 e⟩
       .exact .inr (ao e)) (gd.o.go H.o.gx) (Q:=λe bS=>e= .returned (.tuple #[])/\ ∃bA jy,Hid (cI L w0 p (.slice (some ch) E.length cA) tv uv s fl (decl L (bE L f) (all.take i) k s) iR bS bA jy ((bl (!((x.I.take j).any (λa=>(Z L a).O==m.O))) 7 kt [] bA).M (λ_ cm=>(py L (bE L f) k (j+1) (x.I.drop (j+1)) cm).M (λ_ s1=>(bl (!((all.take i).any λa=>(Z L a).O==x.O&&(Z L a).j' !=14)) 7 k [] s1).M λ_ s2=>bl (!(x.j'==13&&x.O==[109,97,105,110])||(Z L (x.I.getD 0 0)).I==[]) 10 k [] s2))))) (λbS bA jy H=>⟨rfl,bA,jy,H⟩) H).mono ?_
      rintro e w2 ⟨rfl,ff,EG,b8,qN,pl,Us⟩;have mc:=A Us;obtain⟨_,m4,zi⟩:=Er.o w2 EG;have j4:=Io.o w2 b8;clear H Us ff EG b8 bO c3 c4 cW b' b9;go_wp2_with fail;refine mc.o.mono ?_;rintro e bc ⟨rfl,Uq⟩;have IA:=A Uq;clear Uq mc m4 zi j4 qN pl;go_wp2_with fail;refine IA.o.mono ?_;rintro e bS ⟨rfl,bA,jy,H⟩;clear IA;go_wp2_with fail;go_loopg[16] j (λr aho wr=> ∃(b:Nat) (jg:Option (Int×Int)),b+r=j/\aho= b/\Hid (cI L w0 p (.slice (some ch) E.length cA) tv uv s fl (decl L (bE L f) (all.take i) k s) iR wr bA jg ((bl (!(((x.I.take j).drop b).any (λa=>(Z L a).O==m.O))) 7 kt [] bA).M (λ_ cm=>(py L (bE L f) k (j+1) (x.I.drop (j+1)) cm).M (λ_ s1=>(bl (!((all.take i).any λa=>(Z L a).O==x.O&&(Z L a).j' !=14)) 7 k [] s1).M λ_ s2=>bl (!(x.j'==13&&x.O==[109,97,105,110])||(Z L (x.I.getD 0 0)).I==[]) 10 k [] s2)))))
      case atStart=>exact⟨0,jy,by omega,rfl,H⟩
      case round=>
       obtain⟨b,jg,G,rfl,eU⟩:=hrel;clear H;have H:=eU;clear eU;generalize wr=ra at*;obtain⟨bO,c3,c4,cW⟩:=dx.o ra (Rp.o.trans H.o.fr);obtain⟨m3,m4,zi⟩:=Er.o ra H.o.fr;obtain⟨b',b9⟩:=n' H;by_cases so:b<j
       .have ck:(b:Int)<j:=(by omega);have hj:(0:Int)<=b:=(by omega);have b8:(b:Int)<x.I.length:=(by omega);have e0:b<x.I.length:=(by omega);have anN:IntKind.i64.wrap (b+1)=b+1:=dI _ (by omega);obtain⟨UZ,ID⟩:=eu.o ra b H.o.av e0;obtain⟨U2,_⟩:=eu.o ra j H.o.av cr;rw[Y0.o] at U2;have aB:(x.I.take j).getD b 0=x.I.getD b 0:=(by rw[cd,cd,List.getElem?_take_of_lt so]);replace H:=sx (show _=(bl (!((Z L (x.I.getD b 0)).O==m.O)) 7 kt [] bA).M λ_ bA=>(bl (!(((x.I.take j).drop (b+1)).any (λa=>(Z L a).O==m.O))) 7 kt [] bA).M (λ_ cm=>(py L (bE L f) k (j+1) (x.I.drop (j+1)) cm).M (λ_ s1=>(bl (!((all.take i).any λa=>(Z L a).O==x.O&&(Z L a).j' !=14)) 7 k [] s1).M λ_ s2=>bl (!(x.j'==13&&x.O==[109,97,105,110])||(Z L (x.I.getD 0 0)).I==[]) 10 k [] s2)) from by rw[Pu (by rw[mr];omega),aB];exact KJ) H;obtain⟨_,_,y,pY,hA,hG,dZ⟩:=V.o.gQ H.o.av ID;cases hG;have sd:=dZ.Z;obtain⟨d,bB⟩: ∃d,x.I.getD b 0=d:=⟨_,rfl⟩;rw[bB] at UZ sd dZ H ID;rw[sd] at H;obtain⟨_,_,_,y3,_⟩:=dZ.cells ra H.o.av;have vX:(d:Int)<E.length:=(by omega);have lz:(0:Int)<=d:=(by omega);clear aB bB sd dZ;go_wp2_with fail;go_still_tail 21,(by kernel_rfl)
        change fo _ _ _ _ _ ra.drew;clear bO c3 c4 cW b' b9 m3 m4 zi UZ U2 y3;replace H:=u_ H (aT _ _).drew;generalize ra.drew=wv at*;go_wp2_with fail;refine Db V yx (b2:=!(y.O==m.O)) (by rw[mR]) (λb3 sr H=>?_) H;go_wp2_with fail;go_roundg (j-(b+1))
        case rel=>exact⟨b+1,sr,by omega,by go_num,H⟩
        case measure=>omega
       .obtain rfl:b=j:=(by omega);replace H:=sx (show _=(py L (bE L f) k (b+1) (x.I.drop (b+1)) bA).M (λ_ s1=>(bl (!((all.take i).any λa=>(Z L a).O==x.O&&(Z L a).j' !=14)) 7 k [] s1).M λ_ s2=>bl (!(x.j'==13&&x.O==[109,97,105,110])||(Z L (x.I.getD 0 0)).I==[]) 10 k [] s2) from by rw[GK (by rw[mr];omega)];rfl) H;go_wp2_with fail;go_roundg (x.I.length-(b+1))
        case rel=>exact⟨b+1,bA,jg,by omega,by go_num,ahU Rp.o H⟩
        case measure=>omega
     .obtain rfl:j=x.I.length:=(by omega);replace H:=sx (show _=(bl (!((all.take i).any λa=>(Z L a).O==x.O&&(Z L a).j' !=14)) 7 k [] aq).M λ_ s2=>bl (!(x.j'==13&&x.O==[109,97,105,110])||(Z L (x.I.getD 0 0)).I==[]) 10 k [] s2 from by rw[rW];rfl) H;go_wp2_with fail;go_meet;exact⟨nU.o,aq,iW,H⟩
 case rest=>
  obtain⟨lK,aq,iW,eU⟩:=hcut;replace lK:=A lK;clear bO c3 c4 cW;have H:=eU;clear eU;generalize wc=bm at*;go_wp2_with fail;go_loopg[17] i (λr xR wr=> ∃(j:Nat) (jg:Option (Int×Int)),j+r=i/\xR= j/\Hid (cI L w0 p (.slice (some ch) E.length cA) tv uv s fl (decl L (bE L f) (all.take i) k s) w1 wr aq jg ((bl (!(((all.take i).drop j).any λa=>(Z L a).O==x.O&&(Z L a).j' !=14)) 7 k [] aq).M λ_ s2=>bl (!(x.j'==13&&x.O==[109,97,105,110])||(Z L (x.I.getD 0 0)).I==[]) 10 k [] s2)))
  case atStart=>exact⟨0,iW,by omega,rfl,H⟩
  case round=>
   obtain⟨j,jg,bg,rfl,eU⟩:=hrel;clear H;have H:=eU;clear eU;generalize wr=bH at*;obtain⟨b',b9⟩:=n' H;obtain⟨bO,c3,c4,cW⟩:=dx.o bH H.o.fr;by_cases cr:j<i
   .have j3:(j:Int)<i:=(by omega);have me:(0:Int)<=j:=(by omega);have ai8:(j:Int)<all.length:=(by omega);have Fz:j<all.length:=(by omega);have hK:IntKind.i64.wrap (j+1)=j+1:=dI _ (by omega);have FP:=cz.o bH j H.o.av Fz;have ND:=vF.o j Fz;have NF:=rG.o.2 j cr;replace H:=sx (show _=(bl (!((Z L (all.getD j 0)).O==x.O&&(Z L (all.getD j 0)).j' !=14)) 7 k [] aq).M λ_ aq=>(bl (!(((all.take i).drop (j+1)).any λa=>(Z L a).O==x.O&&(Z L a).j' !=14)) 7 k [] aq).M λ_ s2=>bl (!(x.j'==13&&x.O==[109,97,105,110])||(Z L (x.I.getD 0 0)).I==[]) 10 k [] s2 from by rw[Pu (by rw[rG.o.1];exact cr),NF];exact KJ) H;obtain⟨_,_,m,tS,oX,aB,hy⟩:=V.o.gQ H.o.av ND;cases aB;have gr:=hy.Z;generalize all.getD j 0=d at*;rw[gr] at H;obtain⟨m0,m1,m2,m3,m4⟩:=hy.cells bH H.o.av;have vX:(d:Int)<E.length:=(by omega);have lz:(0:Int)<=d:=(by omega);have NG:ga<bH.heap.size:=sF FP;have FA:ch<bH.heap.size:=sF m0;clear hy gr;go_wp2_with fail;go_region
    have v8:Hid (((bH.alloc (aw #[m.j',m.an,m.aX,m.O,.slice tS m.I.length oX] 53)).drew).heap[bH.heap.size]?=some (.cells #[m.j',m.an,m.aX,m.O,.slice tS m.I.length oX] 53 (0,0))):=A (ek bH (aw #[m.j',m.an,m.aX,m.O,.slice tS m.I.length oX] 53));replace H:=u_ H ((aT bH bH).alloc (bD _) (aw #[m.j',m.an,m.aX,m.O,.slice tS m.I.length oX] 53)).drew;clear bO c3 c4 cW b' b9 m0 m1 m2 m3 m4 NG FA FP;generalize(bH.alloc (aw #[m.j',m.an,m.aX,m.O,.slice tS m.I.length oX] 53)).drew=iR at*;generalize bH.heap.size=qm at*;obtain⟨bO,c3,c4,cW⟩:=dx.o iR H.o.fr;obtain⟨b',b9⟩:=n' H;have m0:=az v8.o 0;have m3:=az v8.o 3;have zi:=bd v8.o;simp only[cO,cQ,c8] at m0 m3;by_cases em:m.j'=14
    .have e8:(m.j'==14)=true:=(by simp[em]);have cN:Hid ((!(m.O==x.O&&m.j' !=14))=true):=A (by rw[bne,e8];cases m.O==x.O<;>rfl);go_wp2_with fail;refine Db V U cN.o.symm (λb3 sr H=>?_) H;go_wp2_with fail;go_roundg (i-(j+1))
     case rel=>exact⟨j+1,sr,by omega,by go_num,H⟩
     case measure=>omega
    .have e8:(m.j'==14)=false:=(by simp[em]);have cN:Hid ((!(m.O==x.O&&m.j' !=14))=!((str m.O).toList==(str x.O).toList)):=A (by rw[mR,bne,e8];cases m.O==x.O<;>rfl);go_wp2_with fail;refine Db V U cN.o.symm (λb3 sr H=>?_) H;go_wp2_with fail;go_roundg (i-(j+1))
     case rel=>exact⟨j+1,sr,by omega,by go_num,H⟩
     case measure=>omega
   .obtain rfl:j=i:=(by omega);replace H:=sx (show _=(bl (!(x.j'==13&&x.O==[109,97,105,110])||(Z L (x.I.getD 0 0)).I==[]) 10 k [] aq).M .ok from by rw[GK (by rw[rG.o.1];exact bD _)];exact jU ..) H;obtain⟨bO,c3,c4,cW⟩:=dx.o bH H.o.fr;by_cases ji:x.j'=13
    .have qn:(x.j'==13)=true:=(by simp[ji]);cases hT:((str x.O).toList==[109,97,105,110]) with
     |true=>
      have iL:x.I.length=2:=(by rw[br.o.ly.len,ji];rfl);have DW:0<x.I.length:=(by omega);have al1:(0:Int)<x.I.length:=(by omega);obtain⟨g2,rfl,cl⟩:=br.o.bM bH 0 H.o.av DW;have mE:=(br.o.at DW).1;have uk:x.I.getD 0 0<E.length:=(by omega);obtain⟨_,_,y,pY,hA,aB,dZ⟩:=V.o.gQ H.o.av uk;cases aB;have sv:=A dZ.Z;generalize x.I.getD 0 0=a0 at*;obtain⟨_,_,_,_,y4⟩:=dZ.cells bH H.o.av;have cN:Hid (((y.I.length:Int)==0)=(!(x.j'==13&&x.O==[109,97,105,110])||(Z L a0).I==[])):=A (by
       rw[sv.o,qn,<-ir,hT];cases y.I with
       |nil=>rfl
       |cons c r=>simp;omega)
      have Ip:(a0:Int)<E.length:=(by omega);have fB:(0:Int)<=a0:=(by omega);clear ji iL mE dZ;go_wp2_with fail;go_still_tail 15,(by kernel_rfl)
      change fo _ _ _ _ _ bH.drew;clear bO c3 c4 cW b' b9 cl y4;replace H:=u_ H (aT _ _).drew;generalize bH.drew=iR at*;go_wp2_with fail;refine Db V U cN.o (λa6 T5 H=>?_) H;go_wp2;go_returns;exact gz cJ H
     |false=>
      replace H:=sx (show _=df.ok [] aq from by rw[<-ir,hT,Bool.and_false];rfl) H;clear ji;go_wp2_with fail;go_returns;exact gz cJ H
    .have qn:(x.j'==13)=false:=(by simp[ji]);replace H:=sx (show _=df.ok [] aq from by rw[qn];rfl) H;clear ji;go_wp2_with fail;go_returns;exact gz cJ H
end
end Rk
end Go.Proofs.YtjfkhpkicioakaaGreatDoor
