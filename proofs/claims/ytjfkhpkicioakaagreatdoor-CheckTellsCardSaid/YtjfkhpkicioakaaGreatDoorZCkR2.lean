/- PROVED HERE: the checker of the reference, walked. No condition. -/
import Derived.Test.YtjfkhpkicioakaaGreatDoorZLx1
import Derived.Test.YtjfkhpkicioakaaGreatDoorZP3
set_option maxRecDepth 100000
set_option maxHeartbeats 60000000
set_option linter.all false
open Go renaming Ending->e7,Value->af,World->ai,maxLen->dc,wpList->fo
open Go.RowKit renaming Below->aL
open Go.Value renaming string->mm
open Go.World renaming alloc->aA,cell?->aG,setCell->a7
open List renaming drop_drop->zK,drop_eq_nil_of_le->GK,getD->Y,length->D,length_set->Bp,replicate->ef
open Nat renaming add_comm->yf
open Go.Proofs.YtjfkhpkicioakaaGreatDoor.B hiding ch f' fail i' i_ name named one typed
open Go.Proofs.Tryz
namespace Go.Proofs.YtjfkhpkicioakaaGreatDoor
open Go.RowKit
namespace Rk
open Ck
structure iF (L:List aP)(s:b5)(k:Nat):Prop where
 ne:s.sc≠[]
 ty:D s.types=D L
 us:D s.eJ=D L
 inv:Inv L s
 lp:0<=s.cx/\s.cx+(k:Int)<=20000
 room:D (e4 s.sc)+10000000*(k+1)<=1000000000000
def iF.step{L s s' k g a}(h:iF L s k)(hs:Shape L g s s')(aB:g<=1000001)(aR:a<k):iF L s' a:=by
 have R:=hs.sc.seen h.ne;have T:=h.room;refine⟨hs.sc.ne,hs.ty.trans h.ty,hs.us.trans h.us,hs.inv h.inv,by rw[hs.cx];have:=h.lp;omega,?_⟩;generalize(e4 s.sc).length=bP at*;generalize(e4 s'.sc).length=A' at*;have ah:10000000*(a+1)+10000000<=10000000*(k+1):=by
  have:=Nat.mul_le_mul_left 10000000 (show a+1+1<=k+1 by omega);rwa[Nat.mul_succ] at this
 generalize 10000000*(a+1)=X at*;generalize 10000000*(k+1)=cj at*;omega
def p1 (L:List aP)(w0:ai)(p:Nat)(nv tv uv:af)(g:Nat)(r:df)(s:b5)(fl:Option (Int×Int))(w:ai)(e:e7)(w':ai):Prop:=
 e= .returned (.tuple #[])/\ ∃s' eT sv',dK w0 p nv tv uv w' sv' s' eT/\Fr p tv uv w w'/\eN L fl r [] s' eT/\Shape L g s s'
def p6 (L:List aP)(k:Nat):Nat:=if(Z L k).j'=7 then 1 else if(Z L k).j'=8 then(Z L k).I.length else 0
def kq (L:List aP)(k:Nat):Prop:=(1<=(Z L k).j'/\(Z L k).j'<=6)\/(Z L k).j'=7\/(Z L k).j'=8
section
variable{L:List aP}{E:List (aP×af)}{cG:Nat}{w0:ai}{p:Nat}{nv tv uv:af}
def eL.at(V:eL L E cG w0 nv){k}(U:k<D E): ∃x u,E[k]?=some (x,u)/\Z L k=x/\L[k]?=some x/\x∈L:=by
 obtain⟨⟨x,u⟩,aF⟩: ∃x,E[k]?=some x:=⟨_,cE U⟩;have h8:L[k]?=some x:=by rw[V.eq,lW,aF];rfl
 exact⟨x,u,aF,mO h8,h8,hX h8⟩
def kq.I(V:eL L E cG w0 nv){k x}(aF:L[k]?=some x)(hT:kq L k): ∀i,i<D x.I->Y x.I i 0<k/\kq L (Y x.I i 0)/\p6 L (Y x.I i 0)<=(if x.j'=8 then 1 else 0)/\(x.j'<=6->(Z L (Y x.I i 0)).j'<=6):=by
 intro i ay;have ax:Z L k=x:=mO aF;have hm:x∈L:=hX aF;have bN:=(V.wf k x aF).lt (Y x.I i 0) (by rw[cd,cE ay];exact im ay);obtain⟨_,hc⟩:=(V.ws x hm).1.at i ay;have eh: ∀a,dd L a=(Z L a).j':=λ_=>rfl;rw[eh] at hc;unfold kq at hT;rw[ax] at hT;refine⟨bN,?_⟩;have key: ∀a,(1<=(Z L a).j'/\(Z L a).j'<=6)->kq L a/\p6 L a<=(if x.j'=8 then 1 else 0)/\(x.j'<=6->(Z L a).j'<=6):=λa aR=>by
  refine⟨.inl aR,?_,λ_=>aR.2⟩;unfold p6;rw[ao J,ao J];exact gp _
 by_cases hU:x.j'=8
 .by_cases BW:i<x.aX.toNat
  .have aJ:Y (B.pat x.j' x.aX (D x.I)) i 0=7:=by
    rw[hU];simp[B.pat,List.getElem?_append,BW]
   rw[aJ] at hc;have fW:(Z L (Y x.I i 0)).j'=7:=(by simpa[ct] using hc);refine⟨.inr (.inl fW),?_,λe=>by omega⟩;unfold p6;rw[aS fW,aS hU];exact bD _
  .have aJ:Y (B.pat x.j' x.aX (D x.I)) i 0=0:=by
    rw[hU];simp[B.pat,List.getElem?_append,BW];rw[ku];split<;>rfl
   rw[aJ] at hc;exact key _ (by simpa[ct] using hc)
 .have aJ: ∀j,Y (B.pat x.j' x.aX (D x.I)) j 0=0:=by
   intro j;rw[cd];obtain h|h|h:=hT
   .have:x.j'=1\/x.j'=2\/x.j'=3\/x.j'=4\/x.j'=5\/x.j'=6:=J;rcases this with h|h|h|h|h|h<;>rw[h]<;>simp[B.pat]
    .cases j<;>simp
    .rw[ku];split<;>rfl
   .rw[h];simp[B.pat];cases j<;>simp
   .exact absurd h hU
  rw[aJ] at hc;exact key _ (by simpa[ct] using hc)
def JT(V:Hid (eL L E cG w0 nv))(k:Nat): ∀(f:Nat) (w:ai) (b_:af) (s:b5) (fl:Option (Int×Int)),k<f->k<D E->kq L k->dK w0 p nv tv uv w b_ s fl->iF L s k->
  aY 24 #[(p,0),k] w (p1 L w0 p nv tv uv (p6 L k) (bE L f .typ k s) s fl w):=by
 induction k using Nat.strongRecOn with
 |ind k cB=>
 intro f w b_ s fl aI U hT h dT;obtain⟨f,rfl⟩: ∃mP,f=mP+1:=⟨f- 1,by omega⟩;obtain⟨x,u,aF,ax,gj,hm⟩:=V.o.at U;have jZ:=A (kq.I V.o gj hT);have z:Hid (p6 L k=if x.j'=7 then 1 else if x.j'=8 then D x.I else 0):=A (by unfold p6;rw[ax]);have ba:Hid (bE L (f+1) .typ k s=(each (bE L f .typ) x.I s).M λ_ s1=>
  if x.j'=3 then bl (decide (0<=c7 L 12 x.O)) 6 k [] (iA k (B.O L k) s1)
  else if x.j'=4 then bl (decide (0<=c7 L 10 x.O)) 6 k [] (iA k (B.O L k) s1)
  else if x.j'=7 then declare L k s1
  else .ok [] (iA k (B.O L k) s1)):=A (by rw[<-ax];rfl)
 have rq:=(V.o.fA x hm).2;have ql:D s.types=D E:=by rw[dT.ty,V.o.eq,h2]
 obtain⟨gt,fQ,bI⟩:=dR h.ty J;rw[ql] at bI;subst bI;have dy:Hid (∀i,i<D x.I-> ∀(w':ai) (sv':af) (s':b5) (eT:Option (Int×Int)),dK w0 p nv (gt,D E,fQ) uv w' sv' s' eT->iF L s' (Y x.I i 0)->aY 24 #[(p,0),[(x.I.getD i 0:Int)]] w' (p1 L w0 p nv (gt,D E,fQ) uv (if x.j'=8 then 1 else 0) (bE L f .typ (Y x.I i 0) s') s' eT w')):=A λi ay w' sv' s' eT R T=>by
  obtain⟨cu,k2,iG,_⟩:=jZ.o i ay;refine(cB _ cu f w' sv' s' eT J J k2 R T).mono ?_;rintro e w2 ⟨he,s2,ey,mJ,a1,a2,a3,a4⟩;exact⟨he,s2,ey,mJ,a1,a2,a3,a4.mono iG⟩
 have vK:=A ax;have tq:Hid (∀i,i<D x.I->Y x.I i 0<k):=A λi ay=>(jZ.o i ay).1;have gd:=A dT;have bK:=A h;have ep:=A (V.o.aj w h.av);obtain⟨gX,cA,rfl⟩:=eR ep.o.row rfl;obtain⟨g,cap,aB⟩:=dR ep.o.row J;cases aB;obtain⟨bO,bq,cK,c3,c4⟩:=n_ ep.o rfl aF;have je:(x,u)∈E:=hX aF;have jN:Hid (∀w',aL w0 w0 w'->jC cG w' u x.I):=A λw' G=>(V.o.aj w' G).I _ je;dsimp only at bO bq cK c3 c4;obtain⟨bb,aQ,rfl⟩:=eR (jN.o _ h.av) rfl;obtain⟨b',c9,_,_,_⟩:=h.at;have b9:=bd h.blk;have⟨hv,hi⟩:(k:Int)<D E/\(0:Int)<=k:=J;have H1:=A (h.alloc (hb x bb aQ));have cJ:Hid (Fr p (gt,D E,fQ) uv w (aA w (hb x bb aQ))):=A (Fr.below ((aT w w).alloc (bD _) _));have nQ:=A (ek w (hb x bb aQ));clear h dT ax;go_in;have Go:=0;go_wp2;have qk:w.heap.size<(aA w (hb x bb aQ)).heap.size:=bT;generalize fp:aA w (hb x bb aQ)=w1 at*;generalize w.heap.size=q at*;have dx:Hid (∀w',Fr p (gt,D E,fQ) uv w1 w'->w'.heap[q]?=some (.cells #[x.j',x.an,x.aX,x.O,(bb,D x.I,aQ)] 53 (0,0))):=A λw' aI=>H1.o.node aI nQ.o;go_loopg[5] (D x.I) (λr i wr=> ∃(j:Nat) (s1:b5) (iQ:Option (Int×Int)) (rM:af),j+r=D x.I/\i= j/\Hid (dK w0 p (g,D E,cA) (gt,D E,fQ) uv wr rM s1 iQ)/\Hid (Fr p (gt,D E,fQ) uv w1 wr)/\Hid (eN L fl (each (bE L f .typ) (x.I.take j) s) [] s1 iQ)/\Hid (Shape L (if x.j'=8 then j else 0) s s1))
 case atStart=>exact⟨0,s,fl,b_,by omega,rfl,H1,A Fr.refl,A (by rw[List.take_zero];exact eN.pure _ _),A (Shape.refl gd.o.ne _)⟩
 case round=>
  obtain⟨j,s1,iQ,rM,bg,rfl,k9,tt,yg,sl⟩:=hrel;generalize wr=bH at*;have uh:=A (dx.o bH tt.o);have bO:=az uh.o 0;have c3:=az uh.o 3;have c4:=az uh.o 4;have aeC:=bd uh.o;by_cases cr:j<D x.I
  .have⟨j3,me⟩:(j:Int)<D x.I/\(0:Int)<=j:=J;have hK:IntKind.i64.wrap (j+1)=j+1:=dI _ J;obtain⟨g2,qW,hF⟩:=dR (jN.o _ k9.o.av) J;cases hF;have cu:=nj (jN.o _ k9.o.av) rfl cr;have cV:=A (dy.o j cr bH rM s1 iQ k9.o (gd.o.step sl.o (by split<;>omega) (tq.o j cr)));have bW:Hid (x.I.take (j+1)=x.I.take j++[Y x.I j 0]):=A (by rw[p3,cd,cE cr];rfl);generalize Y x.I j 0=a at*;go_wp2;refine cV.o.mono ?_;rintro e w2 ⟨rfl,s2,ey,mJ,b1,b2,bC,bG⟩;have iV:=A b1;have en:=A (tt.o.trans b2);have gA:Hid (eN L fl (each (bE L f .typ) (x.I.take (j+1)) s) [] s2 ey):=A (by rw[bW.o,JB];exact yg.o.M (bC.M (eN.pure _ _)));have lx:Hid (Shape L (if x.j'=8 then j+1 else 0) s s2):=A ((sl.o.trans bG).mono (by split<;>omega));clear b1 k9 tt;go_wp2;go_roundg (D x.I-(j+1))
   case rel=>exact⟨j+1,s2,ey,mJ,by omega,by go_num,iV,en,gA,lx⟩
   case measure=>omega
  .obtain rfl:j=D x.I:=J;rw[mM] at yg;have MK:Hid ((if x.j'=8 then D x.I else 0)<=p6 L k):=A (by rw[z.o];split<;>(try split)<;>omega);have NZ:Hid (∀(d1 d2:Int),c7 L 12 x.O=d1->c7 L 10 x.O=d2-> ¬x.j'=7->eN L fl (bE L (f+1) .typ k s) [] (iA k (B.O L k) s1) (if x.j'=3 then m' iQ (decide (0<=d1)) 6 (x.an:Int) else if x.j'=4 then m' iQ (decide (0<=d2)) 6 (x.an:Int) else iQ)):=A λd1 d2 ag aE fW=>by
    rw[ba.o];refine yg.o.M ?_;rw[ag,aE];by_cases bU:x.j'=3
    .rw[aS bU,aS bU];have:=eN.bl (L:=L) (fl:=iQ) (decide (0<=d1)) 6 k [] (iA k (B.O L k) s1);rwa[vK.o] at this
    .rw[ao bU,ao bU];by_cases cL:x.j'=4
     .rw[aS cL,aS cL];have:=eN.bl (L:=L) (fl:=iQ) (decide (0<=d2)) 6 k [] (iA k (B.O L k) s1);rwa[vK.o] at this
     .rw[ao cL,ao cL,ao fW];exact eN.pure _ _
   have YV:Hid (x.j'=7->eN L fl (bE L (f+1) .typ k s) [] (x' x.O k s1) (m' iQ (!((s1.sc.getLastD []).any λe=>e.1==x.O)) 7 (x.an:Int))):=A λfW=>by
    rw[ba.o];refine yg.o.M ?_;rw[ao J,ao J,aS fW];have:=eN.declare (L:=L) (fl:=iQ) (s:=s1) (k:=k);rwa[vK.o] at this
   obtain⟨d1,k4⟩: ∃d,c7 L 12 x.O=d:=⟨_,rfl⟩;obtain⟨d2,w4⟩: ∃d,c7 L 10 x.O=d:=⟨_,rfl⟩;replace NZ:=A (NZ.o d1 d2 k4 w4);have AA:Hid (∀w',aL w0 w0 w'->aY 11 #[(g,D E,cA),(12:Int),x.O] w' λe mh=>e= .returned d1/\mh=w'):=A λw' G=>by rw[<-k4];exact eL.decl V G 12 x.O
   have ys:Hid (∀w',aL w0 w0 w'->aY 11 #[(g,D E,cA),(10:Int),x.O] w' λe mh=>e= .returned d2/\mh=w'):=A λw' G=>by rw[<-w4];exact eL.decl V G 10 x.O
   have YI:Hid (x.j'=7->p6 L k=1):=A λfW=>by rw[z.o,aS fW]
   go_upto_if 31 with fail;go_cut[6] (λ_ dN=> ∃jg,Hid (jg=if x.j'=3 then m' iQ (decide (0<=d1)) 6 (x.an:Int) else iQ)/\Hid (dK w0 p (g,D E,cA) (gt,D E,fQ) uv dN rM s1 jg)/\Hid (Fr p (gt,D E,fQ) uv w1 dN))
   case first=>
    by_cases bU:x.j'=3
    .have bC:(x.j'==3)=true:=(by simp[bU]);obtain⟨b',_,_,_,_⟩:=k9.o.at;have b9:=bd k9.o.blk;have eA:=A k9.o.drew;have hq:=A (AA.o _ eA.o.av);go_wp2;refine wp_region_still_lit cS cS ?_
     repeat still_step
     still_call hq.o
     repeat still_step
     refine wpStill_nil ?_;change Exit.then _ _ _ _ bH.drew;have fG:Hid (Fr p (gt,D E,fQ) uv w1 bH.drew):=A (tt.o.trans (Fr.below (aT _ _).drew));have c0:=A (tO (A V.o.aj) (A V.o.eq) eA.o (decide (0<=d1)) 6 k U);rw[vK.o] at c0;generalize bH.drew=bS at*;go_wp2;refine c0.o.mono ?_;rintro e bm ⟨rfl,yT,yd⟩;have eH:=A yT;have j0:=A (fG.o.trans yd);clear yT;go_wp2;go_meet;exact⟨_,A (by rw[aS bU]),eH,j0⟩
    .have bC:(x.j'==3)=false:=(by simp[bU]);go_wp2;go_meet;exact⟨_,A (by rw[ao bU]),k9,tt⟩
   case rest=>
    obtain⟨jg,Th,Ff,Iz⟩:=hcut;have Hz:=A (dx.o wc Iz.o);have bO:=az Hz.o 0;have c3:=az Hz.o 3;have c4:=az Hz.o 4;have aeC:=bd Hz.o;clear k9 tt;go_upto_if 46 with fail;go_cut[7] (λ_ dN=> ∃xj,Hid (xj=if x.j'=4 then m' jg (decide (0<=d2)) 6 (x.an:Int) else jg)/\Hid (dK w0 p (g,D E,cA) (gt,D E,fQ) uv dN rM s1 xj)/\Hid (Fr p (gt,D E,fQ) uv w1 dN))
    case first=>
     by_cases cL:x.j'=4
     .have bG:(x.j'==4)=true:=(by simp[cL]);obtain⟨b',_,_,_,_⟩:=Ff.o.at;have b9:=bd Ff.o.blk;have eA:=A Ff.o.drew;have hq:=A (ys.o _ eA.o.av);go_wp2;refine wp_region_still_lit cS cS ?_
      repeat still_step
      still_call hq.o
      repeat still_step
      refine wpStill_nil ?_;change Exit.then _ _ _ _ wc.drew;have fG:Hid (Fr p (gt,D E,fQ) uv w1 wc.drew):=A (Iz.o.trans (Fr.below (aT _ _).drew));have c0:=A (tO (A V.o.aj) (A V.o.eq) eA.o (decide (0<=d2)) 6 k U);rw[vK.o] at c0;generalize wc.drew=bS at*;go_wp2;refine c0.o.mono ?_;rintro e bm ⟨rfl,yT,yd⟩;have eH:=A yT;have j0:=A (fG.o.trans yd);clear yT;go_wp2;go_meet;exact⟨_,A (by rw[aS cL]),eH,j0⟩
     .have bG:(x.j'==4)=false:=(by simp[cL]);go_wp2;go_meet;exact⟨_,A (by rw[ao cL]),Ff,Iz⟩
    case rest=>
     obtain⟨xj,Ti,Ru,N0⟩:=hcut;generalize wc=wd at*;have TH:=A (dx.o wd N0.o);have bO:=az TH.o 0;have anC:=bd TH.o;clear Ff Iz;by_cases lY:x.j'=7
     .have qC:(x.j'==7)=true:=(by simp[lY]);obtain rfl:xj=iQ:=(by rw[Ti.o,ao J,Th.o,ao J]);have BG:D (e4 s1.sc)<=1000000000000:=by
       have R:=sl.o.sc.seen gd.o.ne;have T:=gd.o.room;rw[ao J] at R;omega
      have wZ:=A (OI (A V.o.aj) (A V.o.eq) Ru.o sl.o.sc.ne BG k U);rw[vK.o] at wZ;have AL:=A (YV.o lY);have IA:Hid (Shape L (p6 L k) s (x' x.O k s1)):=A ((sl.o.trans (Shape.add x.O (by rw[V.o.eq,h2];exact U) (.inl (by rw[vK.o];exact lY)))).mono (by rw[ao J,YI.o lY];exact bD _));go_wp2;refine wZ.o.mono ?_;rintro e bm ⟨rfl,sv5,a1,a2⟩;have eH:=A a1;have j0:=A (cJ.o.trans (N0.o.trans a2));clear a1;go_wp2;go_returns;exact⟨rfl,_,_,_,eH.o,j0.o,AL.o,IA.o⟩
     .have qC:(x.j'==7)=false:=(by simp[lY]);go_wp2;have hB:=A Ru.o.drew;have D4:Hid (Fr p (gt,D E,fQ) uv w1 wd.drew):=A (N0.o.trans (Fr.below (aT _ _).drew));refine jT 12 (λcc=>cc.cell? p=some (g,D E,cA)/\cc.cell? (p,1)=some (gt,D E,fQ)) ⟨az hB.o.blk 0,az hB.o.blk 1⟩ λaD=>?_;generalize wd.drew=b4 at*;refine a' 0 ?_;refine a' 1 ?_;refine a' 2 ?_;refine a' 3 ?_;refine a' 4 ?_;refine a' 5 ?_;refine a' 6 ?_;refine a' 7 ?_;refine a' 8 ?_;refine a' 9 ?_;refine cT 10 λK ab=>?_;go_simp;refine b7 (eL.O V hB.o.av k U) λb3 ie=>?_;have pZ:=A (hB.o.below ie);have Fc:=A (D4.o.trans (Fr.below ie));go_wp2;refine ab.o _ _ (λ_=>⟨az pZ.o.blk 0,az pZ.o.blk 1⟩) ?_;have aD:aG b3 p=some (g,D E,cA)/\aG b3 (p,1)=some (gt,D E,fQ):=⟨az pZ.o.blk 0,az pZ.o.blk 1⟩;refine a' 11 ?_;refine cT 12 λK ab=>?_;obtain⟨hp,kd,y3⟩:=pZ.o.x7 (k:=k) (by rw[sl.o.ty,ql];exact U);go_simp;refine ab.o _ _ (λh=>absurd rfl h) ?_;refine bV ?_;obtain⟨a1,a2⟩:=pZ.o.x0 k (B.O L k);have nG:=A a1;have uJ:=A (cJ.o.trans (Fc.o.trans a2));clear a1;generalize a7 b3 (gt,k) [B.O L k]=a6 at*;go_wp2;go_returns;refine⟨rfl,_,_,_,nG.o,uJ.o,?_,(sl.o.trans (Shape.iA sl.o.sc.ne k (hg (V.o.short k) aN))).mono MK.o⟩;have:=NZ.o lY;rw[Ti.o,Th.o];by_cases bU:x.j'=3
      .rw[aS bU] at this|-;rwa[ao J]
      .rw[ao bU] at this|-;exact this
end
end Rk
namespace Rk
open Ck
def qy (L:List aP)(w0:ai)(p:Nat)(nv tv uv:af)(k:Nat)(r:df)(s:b5)(fl:Option (Int×Int))(w:ai)(e:e7)(w':ai):Prop:=
 ∃t s' eT sv',e= .returned (.string (str t))/\D t<=200000000000/\dK w0 p nv tv uv w' sv' s' eT/\Fr p tv uv w w'/\eN L fl r t s' eT/\Shape L 0 s s'/\(eT=none->(Z L k).j'=36->0<=Y s'.eJ k (-1))
structure sB (L:List aP)(w0:ai)(p:Nat)(nv tv uv:af)(j f:Nat):Prop where
 block:(Z L j).j'=16-> ∀(w:ai) (b_:af) (s:b5) (fl:Option (Int×Int)),dK w0 p nv tv uv w b_ s fl->iF L s j->aY 57 #[(p,0),j] w (p1 L w0 p nv tv uv 0 (bE L f .block j s) s fl w)
 stmt:ct 2 (Z L j).j'=true-> ∀(w:ai) (b_:af) (s:b5) (fl:Option (Int×Int)),dK w0 p nv tv uv w b_ s fl->iF L s j->aY 86 #[(p,0),j] w (p1 L w0 p nv tv uv 1 (bE L f .stmt j s) s fl w)
 one:ct 3 (Z L j).j'=true-> ∀(w:ai) (b_:af) (s:b5) (fl:Option (Int×Int)),dK w0 p nv tv uv w b_ s fl->iF L s j->aY 132 #[(p,0),j] w (p1 L w0 p nv tv uv 0 (bE L f .one j s) s fl w)
 b6:ct 1 (Z L j).j'=true-> ∀(w:ai) (b_:af) (s:b5) (fl:Option (Int×Int)),dK w0 p nv tv uv w b_ s fl->iF L s j->aY 127 #[(p,0),j] w (qy L w0 p nv tv uv j (bE L f .b6 j s) s fl w)
section
variable{L:List aP}{E:List (aP×af)}{cG:Nat}{w0:ai}{p:Nat}{nv tv uv:af}
def abb(V:Hid (eL L E cG w0 nv)){k f}(U:k<D E)(bW:Hid (∀(w:ai) (b_:af) (s:b5),dK w0 p nv tv uv w b_ s none->iF L s k->aY 170 #[(p,0),k] w (qy L w0 p nv tv uv k (typed L (bE L f) k s) s none w)))
 {w b_ s fl}(h:dK w0 p nv tv uv w b_ s fl)(dT:iF L s k):aY 127 #[(p,0),k] w (qy L w0 p nv tv uv k (bE L (f+1) .b6 k s) s fl w):=by
 have ba:Hid (bE L (f+1) .b6 k s=(typed L (bE L f) k s).M λt s1=> .ok t (iA k t s1)):=A rfl;have gd:=A dT;have bK:=A h;obtain⟨_,c9,_,_,_,_,fg⟩:=h.at;have b9:=bd h.blk;cases fl with
 |some f0=>
  have fg:aG w (p,6)=some (.bool true):=fg;clear h;go_in;go_wp2;go_returns;exact⟨[],s,_,_,rfl,by decide,bK.o,Fr.refl,eN.any rfl,Shape.refl gd.o.ne 0,λh=>by cases h⟩
 |none=>
  have fg:aG w (p,6)=some (.bool false):=fg;have ql:D s.types=D E:=by rw[dT.ty,V.o.eq,h2]
  obtain⟨gt,fQ,bI⟩:=dR h.ty J;rw[ql] at bI;subst bI;have cV:=A (bW.o w b_ s h dT);clear h dT;have⟨hv,hi⟩:(k:Int)<D E/\(0:Int)<=k:=J;go_in;go_wp2_with fail;refine cV.o.mono ?_;rintro e w1 ⟨t,s1,iQ,rM,rfl,bI,b1,b2,bC,bG,cf⟩;have H1:=A b1;have cJ:=A b2;have H_:=A bC;have iC:=A bG;have vs:=A cf;clear b1 b2 bC bG cf;obtain⟨_,c9,_,_,_⟩:=H1.o.at;have b9:=bd H1.o.blk;obtain⟨hp,kd,y3⟩:=H1.o.x7 (k:=k) (by rw[iC.o.ty,ql];exact U);obtain⟨a1,a2⟩:=H1.o.x0 k t;have gR:=A a1;have en:=A (cJ.o.trans a2);clear a1;go_wp2;go_returns;exact⟨t,_,_,_,rfl,bI,gR.o,en.o,by rw[ba.o];exact H_.o.M (eN.pure _ _),iC.o.trans (Shape.iA iC.o.sc.ne k bI),vs.o⟩
def iF.open{s s' k g a}(h:iF L s k)(hs:Shape L g (fH s) s')(aB:g<=1000000)(aR:a<k):iF L s' a:=by
 have R:=hs.sc.seen (zc s);have T:=h.room;rw[Jl] at R;refine⟨hs.sc.ne,hs.ty.trans h.ty,hs.us.trans h.us,hs.inv h.inv.fH,by rw[hs.cx];have:=h.lp;show 0<=s.cx/\s.cx+(a:Int)<=20000;omega,?_⟩;generalize(e4 s.sc).length=bP at*;generalize(e4 s'.sc).length=A' at*;have ah:10000000*(a+1)+10000000<=10000000*(k+1):=by
  have:=Nat.mul_le_mul_left 10000000 (show a+1+1<=k+1 by omega);rwa[Nat.mul_succ] at this
 generalize 10000000*(a+1)=X at*;generalize 10000000*(k+1)=cj at*;omega
def iF.lt{s k}(h:iF L s k):D (e4 s.sc)<=1000000000000:=by have T:=h.room;generalize(e4 s.sc).length=bP at*;generalize 10000000*(k+1)=cj at*;omega
def Zs(V:Hid (eL L E cG w0 nv)){k f}(U:k<D E)(lj:(Z L k).j'=16)(dy:Hid (∀j,j<k->sB L w0 p nv tv uv j f))
 {w b_ s fl}(h:dK w0 p nv tv uv w b_ s fl)(dT:iF L s k):aY 57 #[(p,0),k] w (p1 L w0 p nv tv uv 0 (bE L (f+1) .block k s) s fl w):=by
 obtain⟨x,u,aF,ax,gj,hm⟩:=V.o.at U;have ba:Hid (bE L (f+1) .block k s=(each (bE L f .stmt) x.I (fH s)).M λ_ s1=> .ok [] (shut s1)):=A (by rw[<-ax];rfl);have gd:=A dT;have rq:=(V.o.fA x hm).2;have tq:Hid (∀i,i<D x.I->Y x.I i 0<k/\ct 2 (Z L (Y x.I i 0)).j'=true):=A λi ay=>by
  refine⟨(V.o.wf k x gj).lt _ (by rw[cd,cE ay];exact im ay),?_⟩;obtain⟨_,hc⟩:=(V.o.ws x hm).1.at i ay;rw[ax] at lj;rw[lj,show B.pat 16 x.aX (D x.I)=ef (D x.I) 2 from rfl,cd,ku,aS ay] at hc;exact hc
 have eX:=A (JQ h dT.lt);have ep:=A (λw' (G:aL w0 w0 w')=>V.o.aj w' G);obtain⟨gX,cA,rfl⟩:=eR (V.o.aj w h.av).row rfl;obtain⟨g,cap,aB⟩:=dR (V.o.aj w h.av).row J;cases aB;have vP:Hid (∀w',aL w0 w0 w'->aG w' (g,k*5+4)=some u):=A λw' G=>(n_ (ep.o w' G) rfl aF).2.2.2.2;have je:(x,u)∈E:=hX aF;have jN:Hid (∀w',aL w0 w0 w'->jC cG w' u x.I):=A λw' G=>(V.o.aj w' G).I _ je;obtain⟨bb,aQ,rfl⟩:=eR (jN.o _ h.av) rfl;have⟨hv,hi⟩:(k:Int)<D E/\(0:Int)<=k:=J;clear dT;go_in;have Go:=0;go_wp2;refine eX.o.mono ?_;rintro e w1 ⟨rfl,rM,b1,b2⟩;have H1:=A b1;have cJ:=A b2;clear b1 b2;go_wp2;go_loopg[4] (D x.I) (λr i wr=> ∃(j:Nat) (s1:b5) (iQ:Option (Int×Int)) (rM:af),j+r=D x.I/\i= j/\Hid (dK w0 p (g,D E,cA) tv uv wr rM s1 iQ)/\Hid (Fr p tv uv w wr)/\Hid (eN L fl (each (bE L f .stmt) (x.I.take j) (fH s)) [] s1 iQ)/\Hid (Shape L j (fH s) s1))
 case atStart=>exact⟨0,fH s,fl,rM,by omega,rfl,H1,cJ,A (by rw[List.take_zero];exact eN.pure _ _),A (Shape.refl (zc s) _)⟩
 case round=>
  obtain⟨j,s1,iQ,mJ,bg,rfl,k9,tt,yg,sl⟩:=hrel;generalize wr=bH at*;obtain⟨b',_,_,_,_⟩:=k9.o.at;have b9:=bd k9.o.blk;have c4:=vP.o bH k9.o.av;by_cases cr:j<D x.I
  .have⟨j3,me⟩:(j:Int)<D x.I/\(0:Int)<=j:=J;have hK:IntKind.i64.wrap (j+1)=j+1:=dI _ J;obtain⟨g2,qW,hF⟩:=dR (jN.o _ k9.o.av) J;cases hF;have cu:=nj (jN.o _ k9.o.av) rfl cr;have cV:=A ((dy.o _ (tq.o j cr).1).stmt (tq.o j cr).2 bH mJ s1 iQ k9.o (gd.o.open sl.o J (tq.o j cr).1));have bW:Hid (x.I.take (j+1)=x.I.take j++[Y x.I j 0]):=A (by rw[p3,cd,cE cr];rfl);generalize Y x.I j 0=a at*;go_wp2;refine cV.o.mono ?_;rintro e w2 ⟨rfl,s2,ey,pS,b1,b2,bC,bG⟩;have iV:=A b1;have en:=A (tt.o.trans b2);have gA:Hid (eN L fl (each (bE L f .stmt) (x.I.take (j+1)) (fH s)) [] s2 ey):=A (by rw[bW.o,JB];exact yg.o.M (bC.M (eN.pure _ _)));have lx:Hid (Shape L (j+1) (fH s) s2):=A (sl.o.trans bG);clear b1 b2 sl tt;go_wp2;go_roundg (D x.I-(j+1))
   case rel=>exact⟨j+1,s2,ey,pS,by omega,by go_num,iV,en,gA,lx⟩
   case measure=>omega
  .obtain rfl:j=D x.I:=J;rw[mM] at yg;have br:=A (JR k9.o sl.o.sc.ne);go_wp2;refine br.o.mono ?_;rintro e w2 ⟨rfl,pS,b1,b2⟩;have gR:=A b1;have en:=A (tt.o.trans b2);clear b1 b2;go_wp2;go_returns;exact⟨rfl,_,_,_,gR.o,en.o,by rw[ba.o];exact yg.o.M (eN.pure _ _),sl.o.shut gd.o.ne⟩
end
end Rk
namespace Rk
open Ck
def pT (s:b5):b5:=fH {s with cx:=0,res:=[]}
def GW:Option Nat->Int
 |none=> -1
 |some c=>(c:Int)
def zC (s s2:b5):b5:={s2 with sc:=s.sc,cx:=s.cx,res:=s.res}
structure pU (L:List aP)(s s':b5):Prop where
 ty:D s'.types=D s.types
 us:D s'.eJ=D s.eJ
 res:s'.res=s.res
 cx:s'.cx=s.cx
 sc:s'.sc=s.sc
 inv:Inv L s->Inv L s'
 gn: ∀k,0<=Y s.eJ k (-1)->0<=Y s'.eJ k (-1)
structure r6 (L:List aP)(s:b5)(k:Nat):Prop where
 ty:D s.types=D L
 us:D s.eJ=D L
 inv:Inv L s
 lp:0<=s.cx/\s.cx+(k:Int)<=20000
 room:D (e4 s.sc)+10000000*(k+1)<=1000000000000
section
variable{L:List aP}{E:List (aP×af)}{cG:Nat}{w0:ai}{p:Nat}{nv tv uv:af}
def pU.shape{s s'}(h:pU L s s')(hs:s.sc≠[]):Shape L 0 s s':=⟨h.ty,h.us,h.res,h.cx,by rw[h.sc];exact nh.refl hs 0,h.inv,h.gn⟩
def iF.dV{s k}(h:iF L s k):r6 L s k:=⟨h.ty,h.us,h.inv,h.lp,h.room⟩
def r6.lt{s k}(h:r6 L s k):D (e4 s.sc)<=1000000000000:=by have:=h.room;generalize 10000000*(k+1)=X at*;omega
def r6.fn{s s' k g a}(h:r6 L s k)(U:k<=20000)(hs:Shape L g (pT s) s')(aB:g<=1000001)(aR:a<k):iF L s' a:=by
 have R:=hs.sc.seen (zc _);have T:=h.room;unfold pT at R;rw[Jl] at R;refine⟨hs.sc.ne,hs.ty.trans h.ty,hs.us.trans h.us,hs.inv (Inv.fH ⟨h.inv.eo,h.inv.lS,h.inv.us⟩),by rw[hs.cx];show(0:Int)<=0/\(0:Int)+a<=20000;omega,?_⟩;have Av:D (e4 s'.sc)<=D (e4 s.sc)+1+g:=R;generalize(e4 s.sc).length=bP at*;generalize(e4 s'.sc).length=A' at*;have ah:10000000*(a+1)+10000000<=10000000*(k+1):=by
  have:=Nat.mul_le_mul_left 10000000 (show a+1+1<=k+1 by omega);rwa[Nat.mul_succ] at this
 generalize 10000000*(a+1)=X at*;generalize 10000000*(k+1)=cj at*;omega
def iF.res{s k}(h:iF L s k)(r):iF L {s with res:=r} k:=⟨h.ne,h.ty,h.us,⟨h.inv.eo,h.inv.lS,h.inv.us⟩,h.lp,h.room⟩
def Shape.fn{g s s1 s2 r}(R:Shape L g (pT s) s1)(T:Shape L 0 {s1 with res:=r} s2):{Ck.shut s2 with cx:=s.cx,res:=s.res}=zC s s2/\pU L s (zC s s2):=by
 have gU:s2.sc.dropLast=s.sc:=by
  obtain⟨m,hm,_⟩:=R.sc.trans T.sc;rw[hm,xF];show(s.sc++[[]]).dropLast=_;rw[xF]
 refine⟨by unfold zC Ck.shut;rw[gU],⟨T.ty.trans R.ty,T.us.trans R.us,rfl,rfl,rfl,λi=>?_,λk U=>T.gn k (R.gn k U)⟩⟩;have i1:=R.inv (Inv.fH ⟨i.eo,i.lS,i.us⟩);have i2:=T.inv ⟨i1.eo,i1.lS,i1.us⟩;exact⟨i2.eo,i.lS,i2.us⟩
def Ou(V:Hid (eL L E cG w0 nv)){k f}(U:k<D E)(nB:k<=f)(dy:Hid (∀j,j<k->sB L w0 p nv tv uv j f))(r':Option Nat)(a b:Nat)(Fa: ∀c,r'=some c->c<k/\(Z L c).j'=7)(aR:a<k/\(Z L a).j'=8)(G:b<k/\(Z L b).j'=16)
 {w b_ s fl}(h:dK w0 p nv tv uv w b_ s fl)(dT:r6 L s k):aY 19 #[(p,0),[(GW r':Int)],a,b] w λe w'=>e= .returned (.tuple #[])/\ ∃s' eT sv',dK w0 p nv tv uv w' sv' s' eT/\Fr p tv uv w w'/\eN L fl (function L (bE L f) r'.toList a b s) [] s' eT/\pU L s s':=by
 obtain⟨x,u,aF,ax,gj,hm⟩:=V.o.at (show a<D E by omega);have hle:=V.o.le;have ba:Hid (function L (bE L f) r'.toList a b s=(each (bE L f .typ) (r'.toList++[a]) (pT s)).M λ_ s1=>(bE L f .block b {s1 with res:=l6 L a}).M λ_ s2=> .ok [] (zC s s2)):=A rfl;have gd:=A dT;have HI:Hid (p6 L a<=1000000/\kq L a):=A ⟨by
  have:=(V.o.fA x hm).2;unfold p6;rw[ax];split
  .omega
  .split<;>omega,.inr (.inr aR.2)⟩
 have AM:Hid (∀c,r'=some c->p6 L c=1/\kq L c):=A λc hc=>⟨by unfold p6;rw[aS (Fa c hc).2],.inr (.inl (Fa c hc).2)⟩;obtain⟨m,oA,o3⟩:=(V.o.wf a x gj).aX (.inr (by rw[<-ax];exact aR.2));have B6:Hid (l6 L a=if m<D x.I then B.O L (Y x.I m 0) else[]):=A (by unfold l6;rw[ax,oA];rfl);have YS:Hid (m<D x.I->Y x.I m 0<D E):=A λbN=>by
  have:=(V.o.wf a x gj).lt (Y x.I m 0) (by rw[cd,cE bN];exact im bN);omega
 have ep:=A (λw' (G:aL w0 w0 w')=>V.o.aj w' G);obtain⟨gX,cA,rfl⟩:=eR (V.o.aj w h.av).row rfl;obtain⟨g,cap,aB⟩:=dR (V.o.aj w h.av).row J;cases aB;have vP:Hid (∀w',aL w0 w0 w'->aG w' (g,a*5)=some [x.j']/\aG w' (g,a*5+1)=some [x.an]/\aG w' (g,a*5+2)=some [m]/\aG w' (g,a*5+3)=some [x.O]/\aG w' (g,a*5+4)=some u):=A λw' G=>by rw[<-oA];exact n_ (ep.o w' G) rfl aF
 have je:(x,u)∈E:=hX aF;have jN:Hid (∀w',aL w0 w0 w'->jC cG w' u x.I):=A λw' G=>(V.o.aj w' G).I _ je;obtain⟨bb,aQ,rfl⟩:=eR (jN.o _ h.av) rfl;have⟨Ip,fB⟩:(a:Int)<D E/\(0:Int)<=a:=J;obtain⟨_,_,_,_,dQ,ij,_⟩:=h.at;have b9:=bd h.blk;have f4:=cX h.blk 4;have f5:=cX h.blk 5;have Fb:=A (h.od 5 (0:Int) {s with cx:=0} fl ⟨rfl,rfl,rfl⟩ rfl);have gR:=A (Fb.o.od 4 (.string ⟨#[]⟩) {s with cx:=0,res:=[]} fl ⟨rfl,rfl,rfl⟩ rfl);have en:Hid (Fr p tv uv w (a7 (a7 w (p,5) (0:Int)) (p,4) (.string ⟨#[]⟩))):=A ((Fr.set 5 _).trans (Fr.set 4 _));have x1:=az Fb.o.blk 4;have aoY:=cX Fb.o.blk 4;have Vm:=bd Fb.o.blk;have eX:=A (JQ gR.o dT.lt);clear h;go_in;have Go:=0;go_wp2;refine eX.o.mono ?_;rintro e w1 ⟨rfl,rM,b1,b2⟩;have jS:Hid (dK w0 p (g,D E,cA) tv uv w1 rM (pT s) fl):=A b1;have fj:=A (en.o.trans b2);clear b1 en Fb;go_upto_if 28 with fail;go_cut[] (λdN=> ∃(s1:b5) (iQ:Option (Int×Int)) (mJ:af),Hid (dK w0 p (g,D E,cA) tv uv dN mJ s1 iQ)/\Hid (Fr p tv uv w dN)/\Hid (eN L fl (each (bE L f .typ) r'.toList (pT s)) [] s1 iQ)/\Hid (Shape L 1 (pT s) s1))
 case first=>
  cases r' with
  |none=>
   have ag:GW none= -1:=rfl;go_wp2;go_meet;exact⟨_,_,_,jS,fj,A (eN.pure _ _),A (Shape.refl (zc _) 1)⟩
  |some c=>
   have ag:GW (some c)=(c:Int):=rfl;have yj:(0:Int)<=c:=J;obtain⟨M9,_⟩:=Fa c rfl;obtain⟨g1,g2⟩:=AM.o c rfl;have bW:=A (JT V c f w1 rM (pT s) fl J J g2 jS.o (gd.o.fn J (Shape.refl (zc _) 0) aN M9));go_wp2;refine bW.o.mono ?_;rintro e w2 ⟨rfl,s2,ey,mJ,b1,b2,bC,bG⟩;have eA:=A b1;have fG:=A (fj.o.trans b2);have vZ:=A bC;have ox:=A (bG.mono (by omega:p6 L c<=1));clear b1 bC bG;go_wp2;go_meet;exact⟨_,_,_,eA,fG,A (vZ.o.M (eN.pure _ _)),ox⟩
 case rest=>
  obtain⟨s1,iQ,mJ,eA,fG,vZ,ox⟩:=hcut;clear fj;have bW:=A (JT V a f wc mJ s1 iQ J J HI.o.2 eA.o (gd.o.fn J ox.o aN aR.1));go_wp2;refine bW.o.mono ?_;rintro e w2 ⟨rfl,s2,ey,pS,b1,b2,bC,bG⟩;have eH:=A b1;have j0:=A (fG.o.trans b2);have Eg:Hid (eN L fl (each (bE L f .typ) (r'.toList++[a]) (pT s)) [] s2 ey):=A (by rw[JB];exact vZ.o.M (bC.M (eN.pure _ _)));have ko:=A (ox.o.trans bG);clear b1 bC bG fG vZ ox;obtain⟨b',_,_,_,_⟩:=eH.o.at;have b9:=bd eH.o.blk;obtain⟨bO,bq,cK,c3,c4⟩:=vP.o w2 eH.o.av;have hB:=A (eH.o.alloc (aw #[x.j',x.an,m,x.O,(bb,D x.I,aQ)] 53));have D4:Hid (Fr p tv uv w2 (aA w2 (aw #[x.j',x.an,m,x.O,(bb,D x.I,aQ)] 53))):=A (Fr.below ((aT w2 w2).alloc (bD _) _));have nQ:=A (ek w2 (aw #[x.j',x.an,m,x.O,(bb,D x.I,aQ)] 53));go_upto_if 47 with fail;have qk:w2.heap.size<(aA w2 (aw #[x.j',x.an,m,x.O,(bb,D x.I,aQ)] 53)).heap.size:=bT;generalize uf:aA w2 (aw #[x.j',x.an,m,x.O,(bb,D x.I,aQ)] 53)=bc at*;generalize w2.heap.size=q at*;have dx:Hid (∀w',Fr p tv uv bc w'->w'.heap[q]?=some (.cells #[x.j',x.an,m,x.O,(bb,D x.I,aQ)] 53 (0,0))):=A λw' aI=>hB.o.node aI nQ.o;have Fc:=A (j0.o.trans D4.o);go_cut[] (λdN=>Hid (dK w0 p (g,D E,cA) tv uv dN pS {s2 with res:=l6 L a} ey)/\Hid (Fr p tv uv w dN))
  case first=>
   by_cases bN:m<D x.I
   .have⟨Aq,BN⟩:(m:Int)<D x.I/\(0:Int)<=m:=J;have lr:Hid (l6 L a=B.O L (Y x.I m 0)):=A (by rw[B6.o,aS bN]);have jZ:=A (YS.o bN);obtain⟨g2,qW,hF⟩:=dR (jN.o _ hB.o.av) J;cases hF;have wX:Hid (∀w',aL w0 w0 w'->aG w' (g2,m)=some [(x.I.getD m 0:Int)]):=A λw' G=>nj (jN.o _ G) rfl bN;generalize Y x.I m 0=d at*;go_wp2;have nG:=A hB.o.drew;have uJ:Hid (Fr p tv uv bc bc.drew):=A (Fr.below (aT _ _).drew);have dX:Hid (∀(cc:ai) (sv':af) (s':b5) (eT:Option (Int×Int)),dK w0 p (g,D E,cA) tv uv cc sv' s' eT->Fr p tv uv bc cc->(cc.cell? p=some (g,D E,cA)/\cc.cell? (q,4)=some (g2,D x.I,aQ)/\cc.cell? (q,2)=some [m]/\cc.cell? (g2,m)=some [d])):=A λcc sv' s' eT R T=>⟨az R.blk 0,az (dx.o cc T) 4,az (dx.o cc T) 2,wX.o cc R.av⟩;refine jT 14 (λcc=>(cc.cell? p=some (g,D E,cA)/\cc.cell? (q,4)=some (g2,D x.I,aQ)/\cc.cell? (q,2)=some [m]/\cc.cell? (g2,m)=some [d])) (dX.o _ _ _ _ nG.o uJ.o) λaD=>?_;generalize bc.drew=bS at*;refine a' 0 ?_;refine a' 1 ?_;refine a' 2 ?_;refine a' 3 ?_;refine a' 4 ?_;refine a' 5 ?_;refine a' 6 ?_;refine a' 7 ?_;refine a' 8 ?_;refine a' 9 ?_;refine a' 10 ?_;refine cT 11 λK ab=>?_;go_simp;refine b7 (eL.O V nG.o.av d jZ.o) λbm dh=>?_;have la:=A (nG.o.below dh);have B7:=A (uJ.o.trans (Fr.below dh));go_wp2;refine ab.o _ _ (λ_=>dX.o _ _ _ _ la.o B7.o) ?_;have aD:=dX.o _ _ _ _ la.o B7.o;refine cT 12 λK ab=>?_;go_simp;refine ab.o _ _ (λ_=>aD) ?_;refine a' 13 ?_;refine cT 14 λK ab=>?_;obtain⟨_,_,_,_,dQ,_,_⟩:=la.o.at;have b9:=bd la.o.blk;have f4:=cX la.o.blk 4;go_simp;refine ab.o _ _ (λh=>absurd rfl h) ?_;refine bV ?_;have L8:=A (la.o.od 4 [B.O L d] {s2 with res:=B.O L d} ey ⟨rfl,rfl,rfl⟩ rfl);have Hj:=A (Fc.o.trans (B7.o.trans (Fr.set 4 [B.O L d])));generalize a7 bm (p,4) [B.O L d]=b4 at*;go_wp2;go_meet;exact⟨A (by rw[lr.o];exact L8.o),Hj⟩
   .have Aq: ¬(m:Int)<D x.I:=J;have lr:Hid (l6 L a=[]):=A (by rw[B6.o,ao bN]);have yS:Hid ({s2 with res:=[]}=s2):=A (by
     have R:s2.res=[]:=ko.o.res;cases s2;cases R;rfl)
    go_wp2;go_meet;exact⟨A (by rw[lr.o,yS.o];exact hB.o),Fc⟩
  case rest=>
   obtain⟨L8,Hj⟩:=hcut;clear eH j0 hB Fc;have L3:=A ((dy.o b G.1).block G.2 wc pS {s2 with res:=l6 L a} ey L8.o ((gd.o.fn J ko.o (by have:=HI.o.1;omega) G.1).res _));go_wp2;refine L3.o.mono ?_;rintro e bm ⟨rfl,aq,iW,uF,b1,b2,bC,bG⟩;have ak':=A b1;have Tf:=A (Hj.o.trans b2);have afF:=A (Eg.o.M (f:=λ_ s1=>(bE L f .block b {s1 with res:=l6 L a}).M λ_ s2=> .ok [] (zC s s2)) (bC.M (eN.pure (L:=L) [] (zC s aq))));have Tg:=A (Shape.fn ko.o bG);have br:=A (JR b1 bG.sc.ne);clear b1 bC bG;go_wp2;refine br.o.mono ?_;rintro e b4 ⟨rfl,sv5,b1,b2⟩;have Fe:=A b1;have afG:=A (Tf.o.trans b2);clear b1 Tf Hj;obtain⟨_,_,_,_,dQ,ij,_⟩:=Fe.o.at;have b9:=bd Fe.o.blk;have f4:=cX Fe.o.blk 4;have f5:=cX Fe.o.blk 5;have Iy:=A (Fe.o.od 4 s.res {Ck.shut aq with res:=s.res} iW ⟨rfl,rfl,rfl⟩ rfl);have Yk:=A (Iy.o.od 5 s.cx {Ck.shut aq with cx:=s.cx,res:=s.res} iW ⟨rfl,rfl,rfl⟩ rfl);have afH:=A (afG.o.trans ((Fr.set (p:=p) (tv:=tv) (uv:=uv) 4 s.res).trans (Fr.set 5 s.cx)));have aoV:=az Iy.o.blk 5;have aoZ:=cX Iy.o.blk 5;have Vm:=bd Iy.o.blk;go_wp2;go_returns;exact⟨rfl,_,_,_,by rw[<-Tg.o.1];exact Yk.o,afH.o,by rw[ba.o];exact afF.o,Tg.o.2⟩
def Wx(V:Hid (eL L E cG w0 nv)){k f}(U:k<D E)(nB:k<=f)(dy:Hid (∀j,j<k->sB L w0 p nv tv uv j f))(r':Option Nat)(a b:Nat)(Fa: ∀c,r'=some c->c<k/\(Z L c).j'=7)(aR:a<k/\(Z L a).j'=8)(G:b<k/\(Z L b).j'=16)
 {w b_ s fl}(h:dK w0 p nv tv uv w b_ s fl)(dT:iF L s k):aY 19 #[(p,0),[(GW r':Int)],a,b] w (p1 L w0 p nv tv uv 0 (function L (bE L f) r'.toList a b s) s fl w):=by refine b7 (Ou V U nB dy r' a b Fa aR G h dT.dV) λw'⟨s',eT,sv',b1,b2,bC,bG⟩=>?_;exact⟨rfl,s',eT,sv',b1,b2,bC,bG.shape dT.ne⟩
end
end Rk
namespace Rk
open Ck
structure uX (L:List aP)(w0:ai)(k g:Nat)(x:aP)(bb:Option Addr)(aQ:Nat):Prop where
 Z:Z L k=x
 wf:oh L k x
 ly:gO L x.I (B.pat x.j' x.aX x.I.length)
 fA:x.O.length<=100000000000/\x.I.length<=1000000
 cells: ∀w',aL w0 w0 w'->w'.cell? (g,k*5)=some [x.j']/\w'.cell? (g,k*5+1)=some [x.an]/\w'.cell? (g,k*5+2)=some [x.aX]/\w'.cell? (g,k*5+3)=some [x.O]/\w'.cell? (g,k*5+4)=some (bb,x.I.length,aQ)
 bM: ∀w' i,aL w0 w0 w'->i<x.I.length-> ∃g2,bb=some ⟨g2,0,none⟩/\w'.cell? (g2,i)=some [(x.I.getD i 0:Int)]
def alM (x:aP)(bb:Option Addr)(aQ:Nat):Array af:= #[x.j',x.an,x.aX,x.O,(bb,D x.I,aQ)]
section
variable{L:List aP}{E:List (aP×af)}{cG:Nat}{w0:ai}{p:Nat}{nv tv uv:af}{w:ai}
def eL.gQ(V:eL L E cG w0 nv)(G:aL w0 w0 w){k}(U:k<D E): ∃g cA x bb aQ,nv= .slice (some ⟨g,0,none⟩) (D E) cA/\uX L w0 k g x bb aQ:=by obtain⟨x,u,aF,ax,gj,hm⟩:=V.at U;obtain⟨gX,cA,rfl⟩:=eR (V.aj w G).row rfl;obtain⟨g,cap,aB⟩:=dR (V.aj w G).row J;cases aB;have je:(x,u)∈E:=hX aF;have l':jC cG w u x.I:=(V.aj w G).I _ je;obtain⟨bb,aQ,rfl⟩:=eR l' rfl;refine⟨g,_,x,bb,aQ,rfl,ax,V.wf k x gj,(V.ws x hm).1,V.fA x hm,λw' pQ=>n_ (V.aj w' pQ) rfl aF,λw' i pQ ay=>?_⟩;obtain⟨g2,qW,hF⟩:=dR ((V.aj w' pQ).I _ je) (show 0<D x.I by omega);cases hF;exact⟨g2,rfl,nj ((V.aj w' pQ).I _ je) rfl ay⟩
def uX.at{k g x bb aQ}(h:uX L w0 k g x bb aQ){i}(ay:i<D x.I):Y x.I i 0<k/\ct (Y (B.pat x.j' x.aX (D x.I)) i 0) (Ck.Z L (Y x.I i 0)).j'=true:=
 ⟨h.wf.lt _ (by rw[cd,cE ay];exact im ay),(h.ly.at i ay).2⟩
def aco(V:Hid (eL L E cG w0 nv)){k f}(U:k<D E)(lj:ct 3 (Z L k).j'=true)(dy:Hid (∀j,j<k->sB L w0 p nv tv uv j f))
 {b_ s fl}(h:dK w0 p nv tv uv w b_ s fl)(dT:iF L s k):aY 132 #[(p,0),k] w (p1 L w0 p nv tv uv 0 (bE L (f+1) .one k s) s fl w):=by
 obtain⟨g,cA,x,bb,aQ,rfl,cg⟩:=V.o.gQ h.av U;have br:=A cg;have ax:=cg.Z;rw[ax] at lj;have ba:Hid (bE L (f+1) .one k s=if x.j'=29 then bE L f .block (Y x.I 0 0) s
   else if x.j'=28 then(bE L f .b6 (Y x.I 0 0) s).M λt s1=>(bE L f .b6 (Y x.I 1 0) s1).M λu s2=>(bE L f .block (Y x.I 2 0) s2).M λ_ aq=>bl (p_ L t u) 8 k [] aq
   else(bE L f .b6 (Y x.I 0 0) s).M λt s1=>(if x.O=[] then df.ok [] (fH s1) else declare L k (fH s1)).M λ_ s2=>(bE L f .block (Y x.I 1 0) s2).M λ_ aq=>bl (fq t).isSome 8 k [] (Ck.shut aq)):=A (by rw[<-ax];rfl)
 have gd:=A dT;have qt:Hid (x.j'=27\/x.j'=28\/x.j'=29):=A (by
  have:27<=x.j'/\x.j'<=29:=by simpa[ct] using lj
  omega)
 have c6:=cg.ly.len;have dG:0<D x.I:=by rcases qt.o with h|h|h<;>rw[h] at c6<;>simp[B.pat] at c6<;>omega
 replace c6:=A c6;have uc:(0:Int)<D x.I:=J;obtain⟨g2,rfl,_⟩:=cg.bM w 0 h.av dG;have eu:Hid (∀w' i,aL w0 w0 w'->i<D x.I->aG w' (g2,i)=some [(x.I.getD i 0:Int)]):=A λw' i G ay=>by
  obtain⟨g3,e,ah⟩:=cg.bM w' i G ay;cases e;exact ah
 obtain⟨bO,bq,cK,c3,c4⟩:=cg.cells w h.av;obtain⟨b',_,_,_,_⟩:=h.at;have b9:=bd h.blk;have⟨hv,hi⟩:(k:Int)<D E/\(0:Int)<=k:=J;have H1:=A (h.alloc (aw #[x.j',x.an,x.aX,x.O,(g2,D x.I,aQ)] 53));have cJ:Hid (Fr p tv uv w (aA w (aw #[x.j',x.an,x.aX,x.O,(g2,D x.I,aQ)] 53))):=A (Fr.below ((aT w w).alloc (bD _) _));have nQ:=A (ek w (aw #[x.j',x.an,x.aX,x.O,(g2,D x.I,aQ)] 53));have qk:w.heap.size<(aA w (aw #[x.j',x.an,x.aX,x.O,(g2,D x.I,aQ)] 53)).heap.size:=bT;clear h dT cg;go_in;have Go:=0;go_upto_if 19 with fail;generalize fp:aA w (aw #[x.j',x.an,x.aX,x.O,(g2,D x.I,aQ)] 53)=w1 at*;generalize w.heap.size=q at*;have dx:Hid (∀w',Fr p tv uv w1 w'->aL w0 w0 w'->aG w' q=some [x.j']/\aG w' (q,3)=some [x.O]/\aG w' (q,4)=some (g2,D x.I,aQ)/\q<w'.heap.size/\aG w' g2=some [(x.I.getD 0 0:Int)]):=A λw' aI G=>by
  have a_:=H1.o.node aI nQ.o;exact⟨az a_ 0,az a_ 3,az a_ 4,bd a_,eu.o w' 0 G dG⟩
 obtain⟨bO,c3,c4,cW,cl⟩:=dx.o w1 Fr.refl H1.o.av;by_cases tr:x.j'=29
 .have E8:(x.j'==29)=true:=by simp[tr]
  obtain⟨aR,hc⟩:=br.o.at dG;rw[tr] at hc;have cV:=A ((dy.o _ aR).block (by simpa[ct,B.pat] using hc) w1 b_ s fl H1.o (gd.o.step (Shape.refl gd.o.ne 0) aN aR));rw[aS tr] at ba;generalize Y x.I 0 0=a at*;go_wp2;refine cV.o.mono ?_;rintro e w2 ⟨rfl,s2,ey,mJ,b1,b2,bC,bG⟩;have gR:=A b1;have en:=A (cJ.o.trans b2);have gA:=A bC;have lx:=A bG;clear b1 b2 bC bG;go_wp2;go_returns;exact⟨rfl,s2,ey,mJ,gR.o,en.o,by rw[ba.o];exact gA.o,lx.o⟩
 .have E8:(x.j'==29)=false:=by simp[tr]
  rw[ao tr] at ba;by_cases rL:x.j'=28
  .have E_:(x.j'==28)=true:=(by simp[rL]);rw[aS rL] at ba;have tz:D x.I=3:=(by rw[c6.o,rL];rfl);have aH:=br.o.at dG;have R:=br.o.at (show 1<D x.I by omega);have T:=br.o.at (show 2<D x.I by omega);have DQ:(1:Int)<D x.I/\(2:Int)<D x.I:=J;obtain⟨tY,Hi⟩:=DQ;rw[rL] at aH R T;have aH:Y x.I 0 0<k/\ct 1 (Z L (Y x.I 0 0)).j'=true:=aH;have R:Y x.I 1 0<k/\ct 1 (Z L (Y x.I 1 0)).j'=true:=R;have T:Y x.I 2 0<k/\(Z L (Y x.I 2 0)).j'=16:=⟨T.1,by simpa[ct,B.pat] using T.2⟩;have iV:Hid (∀w',aL w0 w0 w'->aG w' (g2,1)=some [(x.I.getD 1 0:Int)]/\aG w' (g2,2)=some [(x.I.getD 2 0:Int)]):=A λw' G=>⟨eu.o w' 1 G J,eu.o w' 2 G J⟩;replace tz:=A tz;generalize Y x.I 0 0=a0 at*;generalize Y x.I 1 0=a1 at*;generalize Y x.I 2 0=a2 at*;have aH:=A aH;have R:=A R;have T:=A T;have cV:=A ((dy.o _ aH.o.1).b6 aH.o.2 w1 b_ s fl H1.o (gd.o.step (Shape.refl gd.o.ne 0) aN aH.o.1));go_wp2;refine cV.o.mono ?_;rintro e w2 ⟨t,s2,ey,mJ,rfl,lt,b1,b2,bC,bG,_⟩;have gR:=A b1;have fN:=A b2;have gA:=A bC;have lx:=A bG;clear b1 b2 bC bG;obtain⟨bO,c3,c4,cW,_⟩:=dx.o w2 fN.o gR.o.av;obtain⟨cu,k2⟩:=iV.o w2 gR.o.av;have cV:=A ((dy.o _ R.o.1).b6 R.o.2 w2 mJ s2 ey gR.o (gd.o.step lx.o aN R.o.1));go_wp2;refine cV.o.mono ?_;rintro e bc ⟨u,aq,iW,pS,rfl,U',b1,b2,bC,bG,_⟩;have jS:=A b1;have qS:=A (fN.o.trans b2);have YU:=A bC;have q1:=A (lx.o.trans bG);clear b1 b2 bC bG;obtain⟨bO,c3,c4,cW,_⟩:=dx.o bc qS.o jS.o.av;obtain⟨cu,k2⟩:=iV.o bc jS.o.av;have cV:=A ((dy.o _ T.o.1).block T.o.2 bc pS aq iW jS.o (gd.o.step q1.o aN T.o.1));go_wp2;refine cV.o.mono ?_;rintro e bS ⟨rfl,bA,jy,uF,b1,b2,bC,bG⟩;have eA:=A b1;have B5:=A (qS.o.trans b2);have vZ:=A bC;have ox:=A (q1.o.trans bG);clear b1 b2 bC bG;have cV:=A (Wi V eA.o t u);go_wp2;refine cV.o.mono ?_;rintro e bm ⟨rfl,b1⟩;have eH:=A (eA.o.below b1);have Ei:=A (B5.o.trans (Fr.below b1));clear b1;have cV:=A (tO (A V.o.aj) (A V.o.eq) eH.o (p_ L t u) 8 k U);have BL:=A (eN.bl (L:=L) (fl:=jy) (p_ L t u) 8 k [] bA);generalize Ai:p_ L t u=bo at*;replace Ai:=A Ai;go_wp2;refine cV.o.mono ?_;rintro e b4 ⟨rfl,b1,b2⟩;have hB:=A b1;have D4:=A (cJ.o.trans (Ei.o.trans b2));clear b1 b2;go_wp2;go_returns;refine⟨rfl,bA,_,_,hB.o,D4.o,?_,ox.o⟩;rw[ba.o];refine gA.o.M (YU.o.M (vZ.o.M ?_));rw[Ai.o];exact BL.o
  .have E_:(x.j'==28)=false:=(by simp[rL]);rw[ao rL] at ba;have xi:x.j'=27:=(by rcases qt.o with h|h|h<;>omega);have iL:D x.I=2:=(by rw[c6.o,xi];rfl);have aH:=br.o.at dG;have R:=br.o.at (show 1<D x.I by omega);have tY:(1:Int)<D x.I:=J;rw[xi] at aH R;have aH:Y x.I 0 0<k/\ct 1 (Z L (Y x.I 0 0)).j'=true:=aH;have R:Y x.I 1 0<k/\(Z L (Y x.I 1 0)).j'=16:=⟨R.1,by simpa[ct,B.pat] using R.2⟩;have iV:Hid (∀w',aL w0 w0 w'->aG w' (g2,1)=some [(x.I.getD 1 0:Int)]):=A λw' G=>eu.o w' 1 G J;have eh:(Z L k).j'=7\/(Z L k).j'=17\/(Z L k).j'=27:=(by rw[br.o.Z];exact .inr (.inr xi));have jZ:=A eh;clear eh;generalize Y x.I 0 0=a0 at*;generalize Y x.I 1 0=a1 at*;have aH:=A aH;have R:=A R;have cV:=A ((dy.o _ aH.o.1).b6 aH.o.2 w1 b_ s fl H1.o (gd.o.step (Shape.refl gd.o.ne 0) aN aH.o.1));go_wp2;refine cV.o.mono ?_;rintro e w2 ⟨t,s2,ey,mJ,rfl,lt,b1,b2,bC,bG,_⟩;have gR:=A b1;have fN:=A b2;have gA:=A bC;have lx:=A bG;clear b1 b2 bC bG;obtain⟨bO,c3,c4,cW,_⟩:=dx.o w2 fN.o gR.o.av;have tl:iF L s2 k:=⟨lx.o.sc.ne,lx.o.ty.trans gd.o.ty,lx.o.us.trans gd.o.us,lx.o.inv gd.o.inv,by rw[lx.o.cx];exact gd.o.lp,by
    have:=lx.o.sc.zero gd.o.ne;rw[this];exact gd.o.room⟩
   have lr:=A tl;have cV:=A (JQ gR.o tl.lt);clear tl;go_wp2;refine cV.o.mono ?_;rintro e bc ⟨rfl,pS,b1,b2⟩;have jS:=A b1;have qS:=A (fN.o.trans b2);clear b1 b2;obtain⟨bO,c3,c4,cW,_⟩:=dx.o bc qS.o jS.o.av;have sk:Hid ((str x.O).toList.isEmpty=decide (x.O=[])):=A (by rw[fC,f_];cases x.O<;>simp);go_upto_if 59 with fail;go_cut[] (λdN=> ∃(bA:b5) (jy:Option (Int×Int)) (uF:af),Hid (dK w0 p (g,D E,cA) tv uv dN uF bA jy)/\Hid (Fr p tv uv w1 dN)/\Hid (eN L ey (if x.O=[] then df.ok [] (fH s2) else declare L k (fH s2)) [] bA jy)/\Hid (Shape L 1 (fH s2) bA))
   case first=>
    have BG:D (e4 (fH s2).sc)<=1000000000000:=by
     rw[Jl];have:=lr.o.room;omega
    have cV:=A (OI (A V.o.aj) (A V.o.eq) jS.o (zc _) BG k U);go_wp2
    .have hJ:(!(str x.O).toList.isEmpty)=true:=(by assumption);have yR:Hid (¬x.O=[]):=A (by intro e;rw[sk.o,e] at hJ;simp at hJ);refine cV.o.mono ?_;rintro e bS ⟨rfl,uF,b1,b2⟩;have eA:=A b1;have B5:=A (qS.o.trans b2);clear b1 b2;go_wp2;go_meet;exact⟨_,_,_,eA,B5,A (by rw[ao yR.o];exact eN.declare),A (Shape.add _ (by rw[V.o.eq,h2];exact U) jZ.o)⟩
    .have hJ:(!(str x.O).toList.isEmpty)=false:=(by assumption);have yR:Hid (x.O=[]):=A (by rw[sk.o] at hJ;simpa using hJ);go_meet;exact⟨_,_,_,jS,qS,A (by rw[aS yR.o];exact eN.pure _ _),A (Shape.refl (zc _) 1)⟩
   case rest=>
    obtain⟨bA,jy,uF,eA,B5,vZ,ox⟩:=hcut;clear qS;generalize wc=bS at*;obtain⟨bO,c3,c4,cW,_⟩:=dx.o bS B5.o eA.o.av;have cu:=iV.o bS eA.o.av;have cV:=A ((dy.o _ R.o.1).block R.o.2 bS uF bA jy eA.o (lr.o.open ox.o aN R.o.1));go_wp2;refine cV.o.mono ?_;rintro e bm ⟨rfl,cm,jg,sv5,b1,b2,bC,bG⟩;have eH:=A b1;have Ei:=A (B5.o.trans b2);have Eg:=A bC;have ko:=A (Shape.shut lr.o.ne (ox.o.trans bG));have ny:=A (JR b1 bG.sc.ne);clear b1 b2 bC bG;go_wp2;refine ny.o.mono ?_;rintro e b4 ⟨rfl,sv6,b1,b2⟩;have hB:=A b1;have YH:=A (Ei.o.trans b2);clear b1 b2;have cV:=A (Kb t b4);go_wp2;refine cV.o.mono ?_;rintro e b3 ⟨rfl,rfl⟩;have c0:=A (tO (A V.o.aj) (A V.o.eq) hB.o (fq t).isSome 8 k U);go_wp2;refine c0.o.mono ?_;rintro e a6 ⟨rfl,b1,b2⟩;have nG:=A b1;have uJ:=A (cJ.o.trans (YH.o.trans b2));clear b1 b2;go_wp2;go_returns;refine⟨rfl,_,_,_,nG.o,uJ.o,?_,lx.o.trans ko.o⟩;rw[ba.o];exact gA.o.M (vZ.o.M (Eg.o.M (eN.bl _ 8 k [] (Ck.shut cm))))
end
end Rk
namespace Rk
open Ck
section
variable{L:List aP}{E:List (aP×af)}{cG:Nat}{w0:ai}{p:Nat}{nv tv uv:af}{w:ai}
def px{j' name}(h: ¬c7 L j' name<0): ∃k x,c7 L j' name=((k:Nat):Int)/\L[k]?=some x/\x.j'=j'/\x.O=name:=by
 unfold c7 at h|-;cases he:L.findIdx? (λn=>n.j'==j'&&n.O==name) with
 |none=>rw[he] at h;exact absurd aN h
 |some k=>
  obtain⟨U,aJ,_⟩:=List.findIdx?_eq_some_iff_getElem.1 he;simp only[pv,beq_iff_eq] at aJ;exact⟨k,L[k],rfl,cE U,aJ.1,aJ.2⟩
def sI{l}{q:Nat->Bool}{j}(bg:j<D l)(h:(l.take j).all (λa=>!q a)=true):(q (Y l j 0)=true->l.find? q=some (Y l j 0))/\(q (Y l j 0)=false->(l.take (j+1)).all (λa=>!q a)=true):=by
 have hs:l.take (j+1)=l.take j++[Y l j 0]:=by rw[p3,cd,cE bg];rfl
 refine⟨λa_=>?_,λa_=>by rw[hs,List.all_append,h];generalize Y l j 0=a at*;simp[a_]⟩;have hl:l=l.take j++Y l j 0::l.drop (j+1):=by
  rw[cd,cE bg];exact(xK j l).symm.trans (by rw[kS bg];rfl)
 have:(l.take j).find? q=none:=List.find?_eq_none.2 λa aR=>by
  have:=List.all_eq_true.1 h a aR;simpa using this
 generalize Y l j 0=a at*;generalize l.take j=u at*;generalize l.drop (j+1)=v at*;rw[hl,xI,this];simp[a_]
def sK{l:List Nat}{q:Nat->Bool}(h:l.all (λa=>!q a)=true):l.find? q=none:=List.find?_eq_none.2 λa aR=>by
 have:=List.all_eq_true.1 h a aR;simpa using this
def Oq(V:Hid (eL L E cG w0 nv))(G:aL w0 w0 w)(name nW:bz):aY 22 #[nv,.string (str name),.string (str nW)] w λe w'=>e= .returned (.tuple #[.string (str ((field L name nW).getD [])),.bool (field L name nW).isSome])/\aL w w w':=by
 have hq:=A (eL.decl V G 10 name);by_cases bB:c7 L 10 name<0
 .have cP:Hid (field L name nW=none):=A (by unfold field;rw[aS bB]);generalize c7 L 10 name=d at*;go_in;have Go:=0;go_wp2;refine hq.o.mono ?_;rintro e w1 ⟨rfl,rfl⟩;go_wp2;go_returns;exact⟨by rw[cP.o];rfl,aT _ _⟩
 .obtain⟨k,x,pI,gj,eh,_⟩:=px bB;have U:k<E.length:=by
   have:=(List.getElem?_eq_some_iff.1 gj).1;rw[V.o.eq,h2] at this;exact this
  have cP:Hid (field L name nW=(x.I.find? λa=>(Z L a).O==nW).map λa=>B.O L (bM L a 0)):=A (by
   unfold field;rw[ao bB,pI];show Option.map _ (List.find? _ (Z L k).I)=_;rw[show Z L k=x from mO gj])
  rw[pI] at hq;obtain⟨g,cA,fc,bb,aQ,rfl,cg⟩:=V.o.gQ G U;obtain rfl:fc=x:=cg.Z.symm.trans (mO gj);have br:=A cg;have bh:=A G;have hv:(k:Int)<E.length:=by omega
  have hi:(0:Int)<=k:=by omega
  have k5: ¬(k:Int)<0:=by omega
  have rq:=cg.fA.2;have jZ:Hid (∀i,i<fc.I.length->fc.I.getD i 0<E.length/\(Z L (fc.I.getD i 0)).j'=9):=A λi ay=>by
   obtain⟨R,T⟩:=cg.at ay;rw[eh,show B.pat 10 fc.aX fc.I.length=ef fc.I.length 9 from rfl,cd,ku,aS ay] at T;exact⟨by omega,by simpa[ct] using T⟩
  clear bB pI gj eh cg G;go_in;have Go:=0;go_wp2;refine hq.o.mono ?_;rintro e w1 ⟨rfl,rfl⟩;go_wp2;go_loopg[9] fc.I.length (λr i wr=> ∃(j:Nat),j+r=fc.I.length/\i= j/\Hid (aL w1.heap.size w1 wr)/\Hid ((fc.I.take j).all (λa=>!((Z L a).O==nW))=true))
  case atStart=>exact⟨0,by omega,rfl,A (aT _ _),A rfl⟩
  case round=>
   obtain⟨j,bg,rfl,yq,cz⟩:=hrel;generalize wr=bH at*;have uh:=A (bh.o.trans (yq.o.mono bh.o.size));obtain⟨bO,bq,cK,c3,c4⟩:=br.o.cells bH uh.o;by_cases cr:j<fc.I.length
   .have j3:(j:Int)<fc.I.length:=(by omega);have me:(0:Int)<=j:=(by omega);have hK:IntKind.i64.wrap (j+1)=j+1:=dI _ (by omega);obtain⟨g2,rfl,cu⟩:=br.o.bM bH j uh.o cr;obtain⟨pR,o0⟩:=jZ.o j cr;obtain⟨R,T⟩:=sI cr cz.o;have cJ:=A R;have en:=A T;clear R T;obtain⟨jE,akK,y,pY,hA,hG,dZ⟩:=V.o.gQ uh.o pR;cases hG;generalize fc.I.getD j 0=a at*;have sd:=dZ.Z;rw[sd] at cJ en o0;have nR:y.I.length=1:=(by rw[dZ.ly.len,o0];rfl);have ala:=A nR;have ajB:(0:Int)<y.I.length:=(by omega);obtain⟨g3,rfl,_⟩:=dZ.bM bH 0 uh.o (by omega);have Fi:Hid (∀w',aL w0.heap.size w0 w'->w'.cell? g3=some [(y.I.getD 0 0:Int)]):=A λw' pQ=>by
     obtain⟨g4,cL,bJ⟩:=dZ.bM w' 0 pQ (by omega);cases cL;exact bJ
    have hj:y.I.getD 0 0<E.length:=(by have:=(dZ.at (i:=0) (by omega)).1;omega);have NQ:Hid (B.O L (bM L a 0)=B.O L (y.I.getD 0 0)):=A (by unfold bM;rw[sd]);obtain⟨dY,ag,aE,bU,cL⟩:=dZ.cells bH uh.o;have vX:(a:Int)<E.length:=(by omega);have lz:(0:Int)<=a:=(by omega);have Rf:Hid (aL bH.heap.size bH (bH.alloc (aw #[y.j',y.an,y.aX,y.O,(g3,y.I.length,hA)] 53))):=A ((aT _ _).alloc (bD _) _);have nQ:=A (ek bH (aw #[y.j',y.an,y.aX,y.O,(g3,y.I.length,hA)] 53));have qk:bH.heap.size<(bH.alloc (aw #[y.j',y.an,y.aX,y.O,(g3,y.I.length,hA)] 53)).heap.size:=(by simp);clear dZ sd nR o0;go_upto_if 41 with fail;have cN:=A (uh.o.trans (Rf.o.mono uh.o.size));clear bO bq cK c3 c4 cu dY ag aE bU cL;generalize gT:bH.alloc (aw #[y.j',y.an,y.aX,y.O,(g3,y.I.length,hA)] 53)=w2 at*;generalize a_:bH.heap.size=q at*;have c4:=az nQ.o 4;have fu:Hid (aL w1.heap.size w1 w2):=A (yq.o.trans (Rf.o.mono (by rw[<-a_];exact yq.o.size)));clear gT a_;cases hT:((str y.O).toList==(str nW).toList) with
    |false=>
     have uI:=A (en.o (by rw[<-mR];exact hT));go_wp2;go_roundg (fc.I.length-(j+1))
     case rel=>exact⟨j+1,by omega,by go_num,fu,uI⟩
     case measure=>omega
    |true=>
     have cM:Hid (field L name nW=some (B.O L (y.I.getD 0 0))):=A (by rw[cP.o,cJ.o (by rw[<-mR];exact hT),Option.map_some,NQ.o]);have lB:=Fi.o w2 cN.o;have bW:=A (eL.O V cN.o _ hj);generalize y.I.getD 0 0=b at*;go_wp2;refine bW.o.mono ?_;rintro e bc ⟨rfl,b1⟩;have iO:=A (fu.o.trans (b1.mono fu.o.size));clear b1 bW;go_wp2;go_returns;exact⟨by rw[cM.o];rfl,iO.o⟩
   .obtain rfl:j=fc.I.length:=(by omega);have ep:Hid (field L name nW=none):=A (by
     have:=cz.o;rw[mM] at this;rw[cP.o,sK this];rfl)
    go_wp2;go_returns;exact⟨by rw[ep.o];rfl,yq.o⟩
def ED (L:List aP)(w0:ai)(p:Nat)(nv tv uv b_:af)(r:df)(s:b5)(fl:Option (Int×Int))(w:ai)(e:e7)(w':ai):Prop:=
 ∃t eT,e= .returned (.string (str t))/\D t<=200000000000/\dK w0 p nv tv uv w' b_ s eT/\Fr p tv uv w w'/\eN L fl r t s eT
def ir{a b}:((str a).toList==b)=(a==b):=by rw[fC,f_]
def aj3{a b c d e}(h:(a||(b||(c||(d||e))))=true):a=true\/(a=false/\b=true)\/(a=false/\b=false/\c=true)\/(a=false/\b=false/\c=false/\d=true)\/(a=false/\b=false/\c=false/\d=false/\e=true):=by revert h;cases a<;>cases b<;>cases c<;>cases d<;>cases e<;>decide
def Tk{a b c d e}(h: ¬(a||(b||(c||(d||e))))=true):a=false/\b=false/\c=false/\d=false/\e=false:=by revert h;cases a<;>cases b<;>cases c<;>cases d<;>cases e<;>decide
def LM{x a b c d e}:[a,b,c,d,e].contains x=((str x).toList==a||((str x).toList==b||((str x).toList==c||((str x).toList==d||((str x).toList==e))))):=by simp only[ir,xH,List.contains_nil,Bool.or_false]
def aj2{a b c d}(h:(a||(b||(c||d)))=true):a=true\/(a=false/\b=true)\/(a=false/\b=false/\c=true)\/(a=false/\b=false/\c=false/\d=true):=by revert h;cases a<;>cases b<;>cases c<;>cases d<;>decide
def Tl{a b c d}(h: ¬(a||(b||(c||d)))=true):a=false/\b=false/\c=false/\d=false:=by revert h;cases a<;>cases b<;>cases c<;>cases d<;>decide
def LN{x a b c d}:[a,b,c,d].contains x=((str x).toList==a||((str x).toList==b||((str x).toList==c||(str x).toList==d))):=by simp only[ir,xH,List.contains_nil,Bool.or_false]
def aj1{a b}(h:(a||b)=true):a=true\/(a=false/\b=true):=by revert h;cases a<;>cases b<;>decide
def agW{a b}(h: ¬(a||b)=true):a=false/\b=false:=by revert h;cases a<;>cases b<;>decide
def Tm{x a b}:[a,b].contains x=((str x).toList==a||(str x).toList==b):=by simp only[ir,xH,List.contains_nil,Bool.or_false]
def abd(V:Hid (eL L E cG w0 nv)){k}(U:k<D E){b_ s fl}(h:dK w0 p nv tv uv w b_ s fl)(a b:bz)(HJ: ¬[[43],[45],[42],[47],[37]].contains (Z L k).O=true)(hF: ¬[[60],[60,61],[62],[62,61]].contains (Z L k).O=true)(iD: ¬[[38,38],[124,124]].contains (Z L k).O=true):
  aY 200 #[(p,0),k,a,b] w (ED L w0 p nv tv uv b_ (binary L k a b s) s fl w):=by
 obtain⟨g,cA,x,bb,aQ,rfl,cg⟩:=V.o.gQ h.av U;obtain⟨_,_,_,c3,_⟩:=cg.cells w h.av;obtain⟨b',_,_,_,_⟩:=h.at;have b9:=bd h.blk;have⟨hv,hi⟩:(k:Int)<D E/\(0:Int)<=k:=J;have ax:=cg.Z;have bK:=A h;have c0:Hid (∀o,aY 21 #[(p,0),.bool o,(8:Int),k] w λe w'=>e= .returned (.tuple #[])/\dK w0 p (g,D E,cA) tv uv w' b_ s (m' fl o 8 ((Z L k).an:Int))/\Fr p tv uv w w'):=A λo=>tO (A V.o.aj) (A V.o.eq) h o 8 k U;have BL:Hid (∀o t,eN L fl (bl o 8 k t s) t s (m' fl o 8 ((Z L k).an:Int))):=A λo t=>eN.bl o 8 k t s;by_cases g1:[[43],[45],[42],[47],[37]].contains x.O=true
 .exact absurd g1 (by rw[<-ax];exact HJ)
 .have hS:=A g1;rw[LM] at g1;obtain⟨dq,cR,n3,n4,wE⟩:=Tk g1;clear g1;by_cases g2:[[60],[60,61],[62],[62,61]].contains x.O=true
  .exact absurd g2 (by rw[<-ax];exact hF)
  .have fN:=A g2;rw[LN] at g2;obtain⟨m1,m2,m3,m4⟩:=Tl g2;clear g2;by_cases g3:[[38,38],[124,124]].contains x.O=true
   .exact absurd g3 (by rw[<-ax];exact iD)
   .have ba:Hid (binary L k a b s=bl ((fS L a b||fS L b a)&&a !=[]&&b !=[]&&!(a==iK&&b==iK)&&(!cv a f'||b==iK)&&(!cv b f'||a==iK)) 8 k e6 s):=A (by unfold binary;rw[ax,ao hS.o,ao fN.o,ao g3]);rw[Tm] at g3;obtain⟨cu,k2⟩:=agW g3;have c1:=A (λw=>sH a f' w);have cN:=A (λw=>sH b f' w);have rF:=A (eL.fits V h.av a b);have te:=A (λ(w':ai) (G:aL w0 w0 w')=>eL.fits V G b a);clear h;generalize cv a f'=ui at*;generalize cv b f'=ml at*;generalize fS L a b=r5 at*;generalize fS L b a=nS at*;go_in;have Go:=0;go_wp2;refine b7 (c1.o _) ?_;rintro w1 rfl;go_wp2;refine b7 (cN.o _) ?_;rintro w2 rfl;go_wp2;refine rF.o.mono ?_;rintro e bc ⟨rfl,b1⟩;have jS:=A (bK.o.below b1);have fj:Hid (Fr p tv uv w2 bc):=A (Fr.below b1);have Zh:=A (te.o bc jS.o.av);clear b1 te;obtain⟨b',_,_,_,_⟩:=jS.o.at;have b9:=bd jS.o.blk;go_wp2;refine Zh.o.mono ?_;rintro e bS ⟨rfl,b1⟩;have eA:=A (jS.o.below b1);have fG:=A (fj.o.trans (Fr.below b1));clear b1;go_upto_region 6 with fail
    generalize ag:(str a).toList.isEmpty=i1 at*;generalize aE:(str b).toList.isEmpty=i2 at*;generalize bU:((str a).toList==[110,105,108])=i3 at*;generalize cL:((str b).toList==[110,105,108])=i4 at*;have o9:Hid (((r5||nS)&&a !=[]&&b !=[]&&!(a==iK&&b==iK))=((r5||nS)&&!i1&&!i2&&!(i3&&i4))):=A (by
     rw[<-ag,<-aE,<-bU,<-cL,nil_eq,nil_eq,fC,f_,fC,f_];cases a<;>cases b<;>rfl)
    go_cut[13] (λv dN=>v= .bool ((r5||nS)&&!i1&&!i2&&!(i3&&i4))/\Hid (dN=bS))
    case first=>
     cases r5
     .cases nS
      .go_wp2_with fail;go_meet;exact⟨rfl,A rfl⟩
      .cases i1
       .cases i2
        .cases i3
         .go_wp2_with fail;go_meet;exact⟨rfl,A rfl⟩
         .cases i4
          .go_wp2_with fail;go_meet;exact⟨rfl,A rfl⟩
          .go_wp2_with fail;go_meet;exact⟨rfl,A rfl⟩
        .go_wp2_with fail;go_meet;exact⟨rfl,A rfl⟩
       .go_wp2_with fail;go_meet;exact⟨rfl,A rfl⟩
     .cases i1
      .cases i2
       .cases i3
        .go_wp2_with fail;go_meet;exact⟨rfl,A rfl⟩
        .cases i4
         .go_wp2_with fail;go_meet;exact⟨rfl,A rfl⟩
         .go_wp2_with fail;go_meet;exact⟨rfl,A rfl⟩
       .go_wp2_with fail;go_meet;exact⟨rfl,A rfl⟩
      .go_wp2_with fail;go_meet;exact⟨rfl,A rfl⟩
    case rest=>
     obtain⟨rfl,Mt⟩:=hcut;obtain rfl:bS=wc:=Mt.o.symm;have cz:Hid ((a==iK)=i3):=A (by rw[<-nil_eq,bU]);have bh:Hid ((b==iK)=i4):=A (by rw[<-nil_eq,cL]);have yU:Hid (∀o,aY 21 #[(p,0),.bool o,(8:Int),k] bS λe w'=>e= .returned (.tuple #[])/\dK w0 p (g,D E,cA) tv uv w' b_ s (m' fl o 8 ((Z L k).an:Int))/\Fr p tv uv bS w'):=A λo=>tO (A V.o.aj) (A V.o.eq) eA.o o 8 k U;rw[o9.o,cz.o,bh.o] at ba;generalize((r5||nS)&&!i1&&!i2&&!(i3&&i4))=ok at*;have zD:Hid (∀o t,eN L fl (bl o 8 k t s) t s (m' fl o 8 ((Z L k).an:Int))):=A λo t=>eN.bl o 8 k t s;cases ok
     .go_wp2_with fail;refine b7 (yU.o _) λbm⟨b1,b2⟩=>?_;have eH:=A b1;have j0:=A (fG.o.trans b2);clear b1;go_wp2;go_returns;exact⟨e6,_,rfl,by decide,eH.o,j0.o,by rw[ba.o];exact zD.o _ _⟩
     .cases ui
      .cases ml
       .go_wp2_with fail;refine b7 (yU.o _) λbm⟨b1,b2⟩=>?_;have eH:=A b1;have j0:=A (fG.o.trans b2);clear b1;go_wp2;go_returns;exact⟨e6,_,rfl,by decide,eH.o,j0.o,by rw[ba.o];exact zD.o _ _⟩
       .cases i3
        .go_wp2_with fail;refine b7 (yU.o _) λbm⟨b1,b2⟩=>?_;have eH:=A b1;have j0:=A (fG.o.trans b2);clear b1;go_wp2;go_returns;exact⟨e6,_,rfl,by decide,eH.o,j0.o,by rw[ba.o];exact zD.o _ _⟩
        .go_wp2_with fail;refine b7 (yU.o _) λbm⟨b1,b2⟩=>?_;have eH:=A b1;have j0:=A (fG.o.trans b2);clear b1;go_wp2;go_returns;exact⟨e6,_,rfl,by decide,eH.o,j0.o,by rw[ba.o];exact zD.o _ _⟩
      .cases i4
       .go_wp2_with fail;refine b7 (yU.o _) λbm⟨b1,b2⟩=>?_;have eH:=A b1;have j0:=A (fG.o.trans b2);clear b1;go_wp2;go_returns;exact⟨e6,_,rfl,by decide,eH.o,j0.o,by rw[ba.o];exact zD.o _ _⟩
       .cases ml
        .go_wp2_with fail;refine b7 (yU.o _) λbm⟨b1,b2⟩=>?_;have eH:=A b1;have j0:=A (fG.o.trans b2);clear b1;go_wp2;go_returns;exact⟨e6,_,rfl,by decide,eH.o,j0.o,by rw[ba.o];exact zD.o _ _⟩
        .cases i3
         .go_wp2_with fail;refine b7 (yU.o _) λbm⟨b1,b2⟩=>?_;have eH:=A b1;have j0:=A (fG.o.trans b2);clear b1;go_wp2;go_returns;exact⟨e6,_,rfl,by decide,eH.o,j0.o,by rw[ba.o];exact zD.o _ _⟩
         .go_wp2_with fail;refine b7 (yU.o _) λbm⟨b1,b2⟩=>?_;have eH:=A b1;have j0:=A (fG.o.trans b2);clear b1;go_wp2;go_returns;exact⟨e6,_,rfl,by decide,eH.o,j0.o,by rw[ba.o];exact zD.o _ _⟩
def Xo(V:Hid (eL L E cG w0 nv)){k}(U:k<D E){b_ s fl}(h:dK w0 p nv tv uv w b_ s fl)(a b:bz):
  aY 200 #[(p,0),k,a,b] w (ED L w0 p nv tv uv b_ (binary L k a b s) s fl w):=by
 obtain⟨g,cA,x,bb,aQ,rfl,cg⟩:=V.o.gQ h.av U;obtain⟨_,_,_,c3,_⟩:=cg.cells w h.av;obtain⟨b',_,_,_,_⟩:=h.at;have b9:=bd h.blk;have⟨hv,hi⟩:(k:Int)<D E/\(0:Int)<=k:=J;have ax:=cg.Z;have bK:=A h;have c0:Hid (∀o,aY 21 #[(p,0),.bool o,(8:Int),k] w λe w'=>e= .returned (.tuple #[])/\dK w0 p (g,D E,cA) tv uv w' b_ s (m' fl o 8 ((Z L k).an:Int))/\Fr p tv uv w w'):=A λo=>tO (A V.o.aj) (A V.o.eq) h o 8 k U;have BL:Hid (∀o t,eN L fl (bl o 8 k t s) t s (m' fl o 8 ((Z L k).an:Int))):=A λo t=>eN.bl o 8 k t s;by_cases g1:[[43],[45],[42],[47],[37]].contains x.O=true
 .have ba:Hid (binary L k a b s=bl (a==g'&&b==g') 8 k g' s):=A (by unfold binary;rw[ax,aS g1]);rw[LM] at g1;have ma:=aj3 g1;clear h g1;obtain d1|⟨d1,d2⟩|⟨d1,d2,d3⟩|⟨d1,d2,d3,d4⟩|⟨d1,d2,d3,d4,d5⟩:=ma
  all_goals
   generalize Fh:((str a).toList==[105,110,116])=jF;generalize xk:((str b).toList==[105,110,116])=za;have cM:Hid ((a==g'&&b==g')=(jF&&za)):=A (by rw[<-Fh,<-xk,ir,ir];rfl);cases jF<;>cases za
   all_goals
    go_in;go_wp2_with fail;refine b7 (c0.o _) λw2⟨b1,b2⟩=>?_;have gR:=A b1;have en:=A b2;clear b1 b2;go_wp2;go_returns;exact⟨g',_,rfl,by decide,gR.o,en.o,by rw[ba.o,cM.o];exact BL.o _ _⟩
 .have hS:=A g1;rw[LM] at g1;obtain⟨dq,cR,n3,n4,wE⟩:=Tk g1;clear g1;by_cases g2:[[60],[60,61],[62],[62,61]].contains x.O=true
  .have ba:Hid (binary L k a b s=bl (a==g'&&b==g') 8 k e6 s):=A (by unfold binary;rw[ax,ao hS.o,aS g2]);rw[LN] at g2;have ma:=aj2 g2;clear h g2;obtain d1|⟨d1,d2⟩|⟨d1,d2,d3⟩|⟨d1,d2,d3,d4⟩:=ma
   all_goals
    generalize Fh:((str a).toList==[105,110,116])=jF;generalize xk:((str b).toList==[105,110,116])=za;have cM:Hid ((a==g'&&b==g')=(jF&&za)):=A (by rw[<-Fh,<-xk,ir,ir];rfl);cases jF<;>cases za
    all_goals
     go_in;go_wp2_with fail;refine b7 (c0.o _) λw2⟨b1,b2⟩=>?_;have gR:=A b1;have en:=A b2;clear b1 b2;go_wp2;go_returns;exact⟨e6,_,rfl,by decide,gR.o,en.o,by rw[ba.o,cM.o];exact BL.o _ _⟩
  .have fN:=A g2;rw[LN] at g2;obtain⟨m1,m2,m3,m4⟩:=Tl g2;clear g2;by_cases g3:[[38,38],[124,124]].contains x.O=true
   .have ba:Hid (binary L k a b s=bl (a==e6&&b==e6) 8 k e6 s):=A (by unfold binary;rw[ax,ao hS.o,ao fN.o,aS g3]);rw[Tm] at g3;have ma:=aj1 g3;clear h;obtain d1|⟨d1,d2⟩:=ma
    all_goals
     generalize Fh:((str a).toList==[98,111,111,108])=jF;generalize xk:((str b).toList==[98,111,111,108])=za;have cM:Hid ((a==e6&&b==e6)=(jF&&za)):=A (by rw[<-Fh,<-xk,ir,ir];rfl);cases jF<;>cases za
     all_goals
      go_in;go_wp2_with fail;refine b7 (c0.o _) λw2⟨b1,b2⟩=>?_;have gR:=A b1;have en:=A b2;clear b1 b2;go_wp2;go_returns;exact⟨e6,_,rfl,by decide,gR.o,en.o,by rw[ba.o,cM.o];exact BL.o _ _⟩
   .exact abd V U h a b (by rw[ax];exact hS.o) (by rw[ax];exact fN.o) (by rw[ax];exact g3)
end
end Rk
namespace Rk
open Ck
section
variable{L:List aP}{w0:ai}{p g n cap:Nat}{nv tv uv:af}{w:ai}{b_:af}{s:b5}{fl:Option (Int×Int)}
def dK.x8(h:dK w0 p nv tv (g,n,cap) w b_ s fl){k}(U:k<D s.eJ):aG w (g,k)=some [(s.eJ.getD k (-1):Int)]/\w.frozen? ⟨g,k,none⟩=false/\g<w.heap.size:=by
 have T:w.ownsRow w0.heap.size 3 1 (g,n,cap) (D s.eJ) (s.eJ.map (Value.int .i64)):=h.us;have ax:n=D s.eJ:=by
  obtain⟨aH,_⟩|⟨h5,ka,cur,hu,hN,G,_⟩:=T.2
  .cases aH
  .cases hu;rfl
 subst ax;have c:=tH T k J;obtain⟨aH,_⟩|⟨h5,ka,cur,hu,hN,G,_⟩:=T.2
 .cases aH
 .cases hu;refine⟨?_,cX G k,bd G⟩;rw[c,lW,cd,cE U];rfl
def dK.Dh(h:dK w0 p nv tv (g,n,cap) w b_ s fl)(k:Nat)(d:Int):dK w0 p nv tv (g,n,cap) (a7 w (g,k) d) b_ (Ck.oe k d s) fl/\Fr p tv (g,n,cap) w (a7 w (g,k) d):=by
 have T:w.ownsRow w0.heap.size 3 1 (g,n,cap) (D s.eJ) (s.eJ.map (Value.int .i64)):=h.us;obtain⟨aH,_⟩|⟨h5,ka,cur,hu,hN,G,_⟩:=T.2
 .cases aH
 .cases hu;refine⟨⟨h.av.setCell (p:=⟨g,k,none⟩) hN _,?_,eZ h.ty G aN,?_,eZ h.lR G aN,h.aJ⟩,?_⟩
  .exact fK h.blk (λe=>by rw[<-e,h.blk] at G;cases G) k _
  .have:=T.stored k d;unfold hD Ck.oe;simp only[Bp,List.map_set];exact this.1
  .exact⟨by simp,λb o b8 R ah bJ dH=>fK b8 (λe=>bJ (by rw[e];rfl)) k _⟩
end
structure fJ (L:List aP)(w0:ai)(p:Nat)(nv tv uv:af)(k:Nat)(s0:b5)(eE:Option (Int×Int))(pl:df)(w1:ai)(g:Nat)(wk:ai)(s:b5)(fl:Option (Int×Int))(r:df):Prop where
 st: ∃b_,dK w0 p nv tv uv wk b_ s fl
 fr:Fr p tv uv w1 wk
 ih: ∀hL s' eT,eN L fl r hL s' eT->eN L eE pl hL s' eT
 gx:Shape L g s0 s
 nc:iF L s0 k
 aB:g<=1000000
section
variable{L:List aP}{E:List (aP×af)}{cG:Nat}{w0:ai}{p:Nat}{nv tv uv:af}{k f g a:Nat}{s0 s:b5}{eE fl:Option (Int×Int)}{pl r r2:df}{w w1 wk:ai}{Q:e7->ai->Prop}{K:bz->b5->df}{b:Bool}{c:Int}{t:bz}
def fJ.av(h:fJ L w0 p nv tv uv k s0 eE pl w1 g wk s fl r):aL w0 w0 wk:=by obtain⟨b_,h⟩:=h.st;exact h.av
def fx{b_}(h:dK w0 p nv tv uv wk b_ s fl)(dT:iF L s k)(e:pl=r):Hid (fJ L w0 p nv tv uv k s fl pl wk 0 wk s fl r):=A ⟨⟨b_,h⟩,Fr.refl,λ_ _ _ h=>e▸h,Shape.refl dT.ne 0,dT,by decide⟩
def oG{g2}(aB:g<=g2)(aI:Hid (Fr p tv uv w w1))(h:Hid (fJ L w0 p nv tv uv k s0 eE pl w1 g wk s fl (.ok [] s))):p1 L w0 p nv tv uv g2 pl s0 eE w (.returned (.tuple #[])) wk:=by obtain⟨b_,R⟩:=h.o.st;exact⟨rfl,s,fl,b_,R,aI.o.trans h.o.fr,h.o.ih _ _ _ (eN.pure _ _),h.o.gx.mono aB⟩
def ot{j}(bg:(Z L j).j'≠36)(bI:D t<=200000000000)(aI:Hid (Fr p tv uv w w1))(h:Hid (fJ L w0 p nv tv uv k s0 eE pl w1 0 wk s fl (.ok t s))):qy L w0 p nv tv uv j pl s0 eE w (.returned t) wk:=by obtain⟨b_,R⟩:=h.o.st;exact⟨t,s,fl,b_,rfl,bI,R,aI.o.trans h.o.fr,h.o.ih _ _ _ (eN.pure _ _),h.o.gx,λ_ e=>absurd e bg⟩
def iw(e:r=r2)(h:Hid (fJ L w0 p nv tv uv k s0 eE pl w1 g wk s fl r)):Hid (fJ L w0 p nv tv uv k s0 eE pl w1 g wk s fl r2):=e▸h
def j5{w2}(h:Hid (fJ L w0 p nv tv uv k s0 eE pl w1 g wk s fl r))(G:aL wk wk w2):Hid (fJ L w0 p nv tv uv k s0 eE pl w1 g w2 s fl r):=by obtain⟨b_,R⟩:=h.o.st;exact A ⟨⟨b_,R.below G⟩,h.o.fr.trans (Fr.below G),h.o.ih,h.o.gx,h.o.nc,h.o.aB⟩
def pH{hx args v}(hc:aY hx args wk λe w'=>e= .returned v/\aL wk wk w')(h: ∀w2,Hid (fJ L w0 p nv tv uv k s0 eE pl w1 g w2 s fl r)->Q (.returned v) w2)(H:Hid (fJ L w0 p nv tv uv k s0 eE pl w1 g wk s fl r)):aY hx args wk Q:=by refine hc.mono ?_;rintro e w2 ⟨rfl,G⟩;exact h w2 (j5 H G)
def zr(V:Hid (eL L E cG w0 nv)){fr ty}(h: ∀w2,Hid (fJ L w0 p nv tv uv k s0 eE pl w1 g w2 s fl r)->Q (.returned (.bool (fS L fr ty))) w2)(H:Hid (fJ L w0 p nv tv uv k s0 eE pl w1 g wk s fl r)):aY 129 #[nv,fr,ty] wk Q:=pH (eL.fits V H.o.av fr ty) h H
def aeD(V:Hid (eL L E cG w0 nv)){fr ty}(h: ∀w2,Hid (fJ L w0 p nv tv uv k s0 eE pl w1 g w2 s fl r)->Q (.returned (.bool (p_ L ty fr))) w2)(H:Hid (fJ L w0 p nv tv uv k s0 eE pl w1 g wk s fl r)):aY 130 #[(p,0),ty,fr] wk Q:=by obtain⟨b_,R⟩:=H.o.st;exact pH (Wi V R ty fr) h H
def Lq(V:Hid (eL L E cG w0 nv))(aR:a<D E)(h: ∀w2,Hid (fJ L w0 p nv tv uv k s0 eE pl w1 g w2 s fl r)->Q (.returned [B.O L a]) w2)(H:Hid (fJ L w0 p nv tv uv k s0 eE pl w1 g wk s fl r)):aY 20 #[nv,a] wk Q:=pH (eL.O V H.o.av a aR) h H
def Lp(V:Hid (eL L E cG w0 nv)){x}(h:Q (.returned [(c7 L c x:Int)]) wk)(H:Hid (fJ L w0 p nv tv uv k s0 eE pl w1 g wk s fl r)):aY 11 #[nv,c,x] wk Q:=by refine b7 (eL.decl V H.o.av c x) ?_;rintro w2 rfl;exact h
def zf{x y}(h:Q (.returned (.bool (cv x y))) wk):aY 128 #[x,y] wk Q:=by refine b7 (sH x y wk) ?_;rintro w2 rfl;exact h
def Vd{x}(h:Q (.returned (.tuple #[[(fq x).getD []],.bool (fq x).isSome])) wk):aY 131 #[x] wk Q:=by refine b7 (Kb x wk) ?_;rintro w2 rfl;exact h
def pB(V:Hid (eL L E cG w0 nv))(U:a<D E){b2}(G:b=b2)(h: ∀w2 ey,Hid (fJ L w0 p nv tv uv k s0 eE pl w1 g w2 s ey (K t s))->Q (.returned (.tuple #[])) w2)(H:Hid (fJ L w0 p nv tv uv k s0 eE pl w1 g wk s fl ((bl b2 c a t s).M K))):aY 21 #[(p,0),.bool b,c,a] wk Q:=by subst G;obtain⟨b_,R⟩:=H.o.st;refine b7 (tO (A V.o.aj) (A V.o.eq) R b c a U) λw2⟨b1,b2⟩=>?_;exact h w2 _ (A ⟨⟨_,b1⟩,H.o.fr.trans b2,λhL s' eT T=>H.o.ih hL s' eT ((eN.bl b c a t s).M T),H.o.gx,H.o.nc,H.o.aB⟩)
def jU(b:Bool)(c:Int)(k:Nat)(t:bz)(s):bl b c k t s=(bl b c k t s).M .ok:=by unfold bl;split<;>rfl
def nL(V:Hid (eL L E cG w0 nv))(U:a<D E){b2}(G:b=b2)(h: ∀w2 ey,Hid (fJ L w0 p nv tv uv k s0 eE pl w1 g w2 s ey (.ok t s))->Q (.returned (.tuple #[])) w2)(H:Hid (fJ L w0 p nv tv uv k s0 eE pl w1 g wk s fl (bl b2 c a t s))):aY 21 #[(p,0),.bool b,c,a] wk Q:=pB V U G h (iw (jU ..) H)
def acU(V:Hid (eL L E cG w0 nv))(U:a<D E)(bB:(Z L a).j'=7\/(Z L a).j'=17\/(Z L a).j'=27)(aB:g+1<=1000000)(h: ∀w2 s2 ey,Hid (fJ L w0 p nv tv uv k s0 eE pl w1 (g+1) w2 s2 ey (.ok [] s2))->Q (.returned (.tuple #[])) w2)(H:Hid (fJ L w0 p nv tv uv k s0 eE pl w1 g wk s fl (declare L a s))):aY 58 #[(p,0),a] wk Q:=by
 obtain⟨b_,R⟩:=H.o.st;refine(OI (A V.o.aj) (A V.o.eq) R H.o.gx.sc.ne ?_ a U).mono ?_
 .have T:=H.o.gx.sc.seen H.o.nc.ne;have ah:=H.o.nc.room;omega
 .rintro e w2 ⟨rfl,mJ,b1,b2⟩;exact h w2 _ _ (A ⟨⟨_,b1⟩,H.o.fr.trans b2,λhL s' eT T=>H.o.ih hL s' eT (by
   have:=eN.M (f:= .ok) (eN.declare (L:=L) (fl:=fl) (s:=s) (k:=a)) T;rwa[show(declare L a s).M .ok=declare L a s from by unfold declare;split<;>rfl] at this),H.o.gx.trans (Shape.add _ (by rw[V.o.eq,h2];exact U) bB),H.o.nc,aB⟩)
def fJ.step(h:fJ L w0 p nv tv uv k s0 eE pl w1 g wk s fl r)(aR:a<k):iF L s a:=h.nc.step h.gx (by have:=h.aB;omega) aR
def IB(dy:Hid (∀j,j<k->sB L w0 p nv tv uv j f))(aR:a<k/\ct 1 (Z L a).j'=true)(h: ∀w2 t s2 ey,D t<=200000000000->(ey=none->(Z L a).j'=36->0<=Y s2.eJ a (-1))->(∀j,0<=Y s.eJ j (-1)->0<=Y s2.eJ j (-1))->(ey=none->fl=none)->Hid (fJ L w0 p nv tv uv k s0 eE pl w1 g w2 s2 ey (K t s2))->Q (.returned t) w2)(H:Hid (fJ L w0 p nv tv uv k s0 eE pl w1 g wk s fl ((bE L f .b6 a s).M K))):aY 127 #[(p,0),a] wk Q:=by
 obtain⟨b_,R⟩:=H.o.st;refine((dy.o a aR.1).b6 aR.2 wk b_ s fl R (H.o.step aR.1)).mono ?_;rintro e w2 ⟨t,s2,ey,mJ,rfl,bI,b1,b2,bC,bG,cf⟩;exact h w2 t s2 ey bI cf bG.gn (λe=>by
  cases aI:fl with
  |none=>rfl
  |some f0=>rw[bC.gP f0 aI] at e;cases e) (A ⟨⟨_,b1⟩,H.o.fr.trans b2,λhL s' eT T=>H.o.ih hL s' eT (bC.M T),H.o.gx.trans bG,H.o.nc,H.o.aB⟩)
def p1.use{er rc}(R:er=g->True){g2}(aB:g+g2<=1000000){hx args}(hc:aY hx args wk (p1 L w0 p nv tv uv g2 rc s fl wk))(h: ∀w2 s2 ey,Hid (fJ L w0 p nv tv uv k s0 eE pl w1 (g+g2) w2 s2 ey (K [] s2))->Q (.returned (.tuple #[])) w2)(H:Hid (fJ L w0 p nv tv uv k s0 eE pl w1 g wk s fl (rc.M K))):aY hx args wk Q:=by refine hc.mono ?_;rintro e w2 ⟨rfl,s2,ey,mJ,b1,b2,bC,bG⟩;exact h w2 s2 ey (A ⟨⟨_,b1⟩,H.o.fr.trans b2,λhL s' eT T=>H.o.ih hL s' eT (bC.M T),H.o.gx.trans bG,H.o.nc,aB⟩)
def Sb(dy:Hid (∀j,j<k->sB L w0 p nv tv uv j f))(aR:a<k/\(Z L a).j'=16)(h: ∀w2 s2 ey,Hid (fJ L w0 p nv tv uv k s0 eE pl w1 g w2 s2 ey (K [] s2))->Q (.returned (.tuple #[])) w2)(H:Hid (fJ L w0 p nv tv uv k s0 eE pl w1 g wk s fl ((bE L f .block a s).M K))):aY 57 #[(p,0),a] wk Q:=by obtain⟨b_,R⟩:=H.o.st;exact p1.use (er:=0) (λ_=>trivial) (g2:=0) H.o.aB ((dy.o a aR.1).block aR.2 wk b_ s fl R (H.o.step aR.1)) h H
def afo(dy:Hid (∀j,j<k->sB L w0 p nv tv uv j f))(aR:a<k/\ct 2 (Z L a).j'=true)(aB:g+1<=1000000)(h: ∀w2 s2 ey,Hid (fJ L w0 p nv tv uv k s0 eE pl w1 (g+1) w2 s2 ey (K [] s2))->Q (.returned (.tuple #[])) w2)(H:Hid (fJ L w0 p nv tv uv k s0 eE pl w1 g wk s fl ((bE L f .stmt a s).M K))):aY 86 #[(p,0),a] wk Q:=by obtain⟨b_,R⟩:=H.o.st;exact p1.use (er:=0) (λ_=>trivial) (g2:=1) aB ((dy.o a aR.1).stmt aR.2 wk b_ s fl R (H.o.step aR.1)) h H
def afK(dy:Hid (∀j,j<k->sB L w0 p nv tv uv j f))(aR:a<k/\ct 3 (Z L a).j'=true)(h: ∀w2 s2 ey,Hid (fJ L w0 p nv tv uv k s0 eE pl w1 g w2 s2 ey (K [] s2))->Q (.returned (.tuple #[])) w2)(H:Hid (fJ L w0 p nv tv uv k s0 eE pl w1 g wk s fl ((bE L f .one a s).M K))):aY 132 #[(p,0),a] wk Q:=by obtain⟨b_,R⟩:=H.o.st;exact p1.use (er:=0) (λ_=>trivial) (g2:=0) H.o.aB ((dy.o a aR.1).one aR.2 wk b_ s fl R (H.o.step aR.1)) h H
def Tj(V:Hid (eL L E cG w0 nv))(aI:k<=f)(aR:a<k/\a<D E/\(1<=(Z L a).j'/\(Z L a).j'<=6))(h: ∀w2 s2 ey,Hid (fJ L w0 p nv tv uv k s0 eE pl w1 g w2 s2 ey (K [] s2))->Q (.returned (.tuple #[])) w2)(H:Hid (fJ L w0 p nv tv uv k s0 eE pl w1 g wk s fl ((bE L f .typ a s).M K))):aY 24 #[(p,0),a] wk Q:=by obtain⟨b_,R⟩:=H.o.st;have hc:=JT V a f wk b_ s fl J aR.2.1 (.inl aR.2.2) R (H.o.step aR.1);rw[show p6 L a=0 from by unfold p6;rw[ao J,ao J]] at hc;exact p1.use (er:=0) (λ_=>trivial) (g2:=0) H.o.aB hc h H
def i'(r:df)(f g:bz->b5->df):(r.M f).M g=r.M λt s=>(f t s).M g:=by cases r<;>rfl
def Shape.loop{s1 bA}(h:Shape L 0 {s1 with cx:=s1.cx+1} bA):Shape L 0 s1 {bA with cx:=bA.cx- 1}:=
 ⟨h.ty,h.us,h.res,by show bA.cx- 1=_;rw[h.cx];show s1.cx+1- 1=_;omega,h.sc,λi=>by
  have j:=h.inv ⟨i.eo,i.lS,i.us⟩;exact⟨j.eo,j.lS,j.us⟩,h.gn⟩
def N1{f0}(e:fl=some f0)(H:Hid (fJ L w0 p nv tv uv k s0 eE pl w1 g wk s fl r))(r2):Hid (fJ L w0 p nv tv uv k s0 eE pl w1 g wk s fl r2):=
 A ⟨H.o.st,H.o.fr,λhL s' eT h=>H.o.ih hL s' eT (by subst e;exact eN.any (h.gP f0 rfl)),H.o.gx,H.o.nc,H.o.aB⟩
def hA(H:Hid (fJ L w0 p nv tv uv k s0 eE pl w1 g wk s fl r)):aG wk p=some nv/\aG wk (p,1)=some tv/\aG wk (p,2)=some uv/\aG wk (p,4)=some [s.res]/\aG wk (p,5)=some [s.cx]/\aG wk (p,6)=some (.bool fl.isSome)/\p<wk.heap.size:=by obtain⟨b_,R⟩:=H.o.st;obtain⟨b',c9,cw,_,dQ,ij,fg⟩:=R.at;exact⟨b',c9,cw,dQ,ij,fg,bd R.blk⟩
end
end Rk
namespace Rk
open Ck
def sP{q:bz->Bool}{l j}(bg:j<D l)(h:(l.take j).all (λa=>!q a)=true):(q (Y l j [])=true->l.find? q=some (Y l j []))/\(q (Y l j [])=false->(l.take (j+1)).all (λa=>!q a)=true):=by
 have hs:l.take (j+1)=l.take j++[Y l j []]:=by rw[p3,cd,cE bg];rfl
 refine⟨λa_=>?_,λa_=>by rw[hs,List.all_append,h];generalize Y l j []=a at*;simp[a_]⟩;have hl:l=l.take j++Y l j []::l.drop (j+1):=by
  rw[cd,cE bg];exact(xK j l).symm.trans (by rw[kS bg];rfl)
 have:(l.take j).find? q=none:=List.find?_eq_none.2 λa aR=>by
  have:=List.all_eq_true.1 h a aR;simpa using this
 generalize Y l j []=a at*;generalize l.take j=u at*;generalize l.drop (j+1)=v at*;rw[hl,xI,this];simp[a_]
def sM{q:bz->Bool}{l:List bz}(h:l.all (λa=>!q a)=true):l.find? q=none:=List.find?_eq_none.2 λa aR=>by
 have:=List.all_eq_true.1 h a aR;simpa using this
def abc{L}(hs: ∀k,D (B.O L k)<=100000000000){a b t}(h:field L a b=some t):D t<=200000000000:=by
 unfold field at h;split at h
 .cases h
 .obtain⟨f,_,rfl⟩:=Option.map_eq_some_iff.1 h;exact hg (hs _) aN
def acp{L}(hs: ∀k,D (B.O L k)<=100000000000)(aI: ∀n∈L,D n.O<=100000000000/\D n.I<=1000000){of m}(h:m∈fw (gv L of)):D m<=200000000001:=by
 obtain⟨n,ax,hm⟩:=List.mem_flatMap.1 (RZ.1 h);have R:=(aI n ax).1;unfold my at hm;split at hm
 .split at hm
  .rw[List.mem_singleton.1 hm,dW,iq];have:=hs (Y n.I 1 0);omega
  .cases hm
 split at hm
 .obtain⟨j,_,rfl⟩:=List.mem_map.1 hm;unfold qd;rw[dW,iq];have T:=hs ((Y L j eD).I.getD 0 0);have ah:(Y L j eD).O.length<=100000000000:=by
   by_cases bg:j<D L
   .rw[cd,cE bg];exact(aI _ (im bg)).1
   .rw[B.getD_none J];exact gp _
  omega
 .cases hm
section
variable{L:List aP}{E:List (aP×af)}{cG:Nat}{w0:ai}{p:Nat}{nv tv uv:af}{w:ai}
def wL (L:List aP)(k:Nat)(of x:bz)(s:b5):df:=match Ck.method L of x with
 |some t=> .ok t s
 |none=> .bL 6 k
def R_{k of s}:dot L k of s=(bl (decide (0<=c7 L 12 of)||cv of [42]) 8 k [] s).M λ_ s'=>if(if cv of [42] then field L (of.drop 1) (Z L k).O else none).isSome then .ok ((if cv of [42] then field L (of.drop 1) (Z L k).O else none).getD []) s' else wL L k of (Z L k).O s':=by
 unfold dot bl;cases(decide (0<=c7 L 12 of)||cv of [42]) with
 |false=>rfl
 |true=>
  rw[ao aN,aS rfl];show _=if _ then _ else _;cases(if cv of [42] then field L (of.drop 1) (Z L k).O else none)<;>rfl
def acw(V:Hid (eL L E cG w0 nv)){k}(U:k<D E)(eh:(Z L k).j'=37){b_ s fl}(h:dK w0 p nv tv uv w b_ s fl)(dT:iF L s k)(of:bz)(NP:D of<=200000000000):
  aY 198 #[(p,0),k,of] w (qy L w0 p nv tv uv k (dot L k of s) s fl w):=by
 obtain⟨g,cA,x,bb,aQ,rfl,cg⟩:=V.o.gQ h.av U;have ax:=cg.Z;have jd:Hid ((Z L k).j'≠36):=A (by rw[eh];decide);obtain⟨_,_,_,c3,_⟩:=cg.cells w h.av;have⟨hv,hi⟩:(k:Int)<D E/\(0:Int)<=k:=J;have ur:=cg.fA.1;have Fg:Hid (Fr p tv uv w w):=A Fr.refl;have H:=fx h dT (R_ (L:=L) (k:=k) (of:=of) (s:=s));rw[ax] at H;obtain⟨b',_,_,_,_,_,b9⟩:=hA H;have Ix:Hid (∀m∈fw (gv L of),D m<=200000000001):=A λm hm=>acp V.o.short V.o.fA hm;have EX:Hid (∀t,field L (of.drop 1) x.O=some t->D t<=200000000000):=A λt bI=>abc V.o.short bI;have rI:Hid ((str of).extract 1 (str of).size=str (of.drop 1)):=A (AS of);have l7:Hid (∀w',aY 128 #[of,.string (str [42])] w' λe mh=>e= .returned (.bool (cv of [42]))/\mh=w'):=A λw'=>sH of [42] w';go_in;have Go:=0;go_wp2;refine Lp V ?_ H;generalize TI:c7 L 12 of=gz at*;go_wp2;refine b7 (l7.o _) ?_;rintro w1 rfl;go_upto_region 4 with fail
 go_cut[9] from 30 to 38 (λv9 dN=>v9= .bool (cv of [42])/\ ∃iQ,Hid (fJ L w0 p (g,D E,cA) tv uv k s fl (dot L k of s) w1 0 dN s iQ (if(if cv of [42] then field L (of.drop 1) x.O else none).isSome then .ok ((if cv of [42] then field L (of.drop 1) x.O else none).getD []) s else wL L k of x.O s)))
 case first=>
  by_cases aH:(0:Int)<=gz
  .cases jP:cv of [42]
   all_goals
    go_wp2;refine pB V U (by rw[ri aH,jP]<;>rfl) (λw2 ey H=>?_) H;go_wp2;go_meet;exact⟨by rw[jP],ey,H⟩
  .cases jP:cv of [42]
   all_goals
    go_wp2;refine pB V U (by rw[jP];simp[aH]) (λw2 ey H=>?_) H;go_wp2;go_meet;exact⟨by rw[jP],ey,H⟩
 case rest=>
  obtain⟨rfl,iQ,eU⟩:=hcut;have H:=eU;generalize wc=w2 at*;obtain⟨b',_,_,_,_,_,b9⟩:=hA H;go_upto_if 39 with fail;go_cut[9] from 30 to 52 (λ_ dN=>Hid (fJ L w0 p (g,D E,cA) tv uv k s fl (dot L k of s) w1 0 dN s iQ (wL L k of x.O s)))
  case first=>
   cases jP:cv of [42] with
   |false=>
    rw[jP] at H;go_wp2;go_meet;exact H
   |true=>
    have hl:1<=D of:=by
     unfold cv at jP;simp only[pv,pt] at jP;exact jP.1
    have e_:1<=(str of).size:=(by rw[js];exact hl);have⟨ff,Ad⟩:(1:Int)<=((str of).size:Int)/\(1:Int)<=D of:=J;rw[jP] at H;go_wp2;have H:=j5 H (aT _ _).drew;refine jT 12 (λcc=>cc.cell? p=some (g,D E,cA)) (hA H).1 λaD=>?_;generalize w2.drew=b4 at*;obtain⟨_,_,_,_,_,_,b9⟩:=hA H;refine a' 0 ?_;refine a' 1 ?_;refine a' 2 ?_;refine a' 3 ?_;refine a' 4 ?_;refine a' 5 ?_;refine a' 6 ?_;refine cT 7 λK ab=>?_;go_simp
    try rw[rI.o]
    refine(Oq V H.o.av (of.drop 1) x.O).mono ?_;rintro lY b3 ⟨rfl,ie⟩;have H:=j5 H ie;generalize field L (of.drop 1) x.O=vb at*;go_wp2;refine ab.o _ _ (λ_=>(hA H).1) ?_;have aD:aG b3 p=some (g,D E,cA):=(hA H).1;refine a' 8 ?_;refine a' 9 ?_;refine a' 10 ?_;refine a' 11 ?_;refine cT 12 λK ab=>?_;go_simp;refine ab.o _ _ (λh=>absurd rfl h) ?_;refine bV ?_;cases vb with
    |none=>
     go_wp2;go_meet;exact H
    |some t=>
     have bI:=A (EX.o t rfl);go_wp2;go_returns;exact ot jd.o bI.o Fg H
  case rest=>
   have H:=hcut;generalize wc=bc at*;obtain⟨b',_,_,_,_,_,b9⟩:=hA H;have ou:=A (OB (A V.o.wf) (A V.o.short) (A V.o.eq) (A V.o.fA) (by have:=V.o.le;omega) (V.o.aj bc H.o.av) of);go_wp2;refine ou.o.mono ?_;rintro e bS ⟨u,rfl,hu,G⟩;have H:=j5 H G;have ia:=A hu;have nP:=hu.max;obtain⟨pE,lc,rfl⟩:=eR hu rfl;clear hu;have kK:Hid (wL L k of x.O s=match(((fw (gv L of)).find? λm=>cv m (x.O++[32])).map λm=>m.drop (D x.O+1)) with
    |some t=> .ok t s
    |none=> .bL 6 k):=A rfl
   generalize fw (gv L of)=oo at*;have LK:str x.O++(⟨#[32]⟩:ByteArray)=str (x.O++[32]):=by
    apply ByteArray.ext;simp[str]
   go_wp2;go_loopg[13] (D oo) (λr i wr=> ∃j:Nat,j+r=D oo/\i= j/\Hid (wr=bS)/\Hid ((oo.take j).all (λa=>!cv a (x.O++[32]))=true))
   case atStart=>exact⟨0,by omega,rfl,A rfl,A rfl⟩
   case round=>
    obtain⟨j,bg,rfl,hw,cz⟩:=hrel;obtain rfl:=hw.o;by_cases cr:j<D oo
    .obtain⟨g3,FR,iD⟩:=dR ia.o J;cases iD;have cu:=h3 ia.o rfl cr;obtain⟨f1,f2⟩:=sP (q:=λm=>cv m (x.O++[32])) cr cz.o;have cJ:=A f1;have en:=A f2;have oB:=Ix.o (Y oo j []) (by rw[cd,cE cr];exact im cr);clear f1 f2;generalize Y oo j []=m at*;have⟨j3,me⟩:(j:Int)<D oo/\(0:Int)<=j:=J;have hK:IntKind.i64.wrap (j+1)=j+1:=dI _ J;have cN:=A (sH m (x.O++[32]) wr);have gE:(str x.O).size=D x.O:=js _;cases qQ:cv m (x.O++[32]) with
     |false=>
      have uI:=A (en.o qQ);rw[qQ] at cN;go_wp2;refine cN.o.mono ?_;rintro e bm ⟨rfl,rfl⟩;go_wp2;go_roundg (D oo-(j+1))
      case rel=>exact⟨j+1,by omega,by go_num,A rfl,uI⟩
      case measure=>omega
     |true=>
      rw[qQ] at cN;have YD:=A (cJ.o qQ);have hR:D x.O+1<=D m:=by
       unfold cv at qQ;simp only[pv,pt] at qQ;have:=qQ.1;simpa using this
      have uD:=A (CR m (D x.O+1));have e_:D x.O+1<=(str m).size:=(by rw[js];exact hR);have⟨ff,Ad,anI⟩:(D x.O:Int)+1<=((str m).size:Int)/\(0:Int)<=D x.O+1/\((D x.O:Int)+1).toNat=D x.O+1:=J;have ti:IntKind.i64.wrap (D x.O+1)=D x.O+1:=dI _ J;have rK:Hid (D (m.drop (D x.O+1))<=200000000000):=A (by rw[qA];omega);have H:=iw (show _= .ok (m.drop (D x.O+1)) s by rw[kK.o,YD.o];rfl) H;go_wp2;refine cN.o.mono ?_;rintro e bm ⟨rfl,rfl⟩;go_wp2;go_returns;rw[uD.o];exact ot jd.o rK.o Fg H
    .obtain rfl:j=D oo:=J;have qO:=A (sM (q:=λm=>cv m (x.O++[32])) (by have:=cz.o;rwa[mM] at this));have H:=iw (show _=bl false 6 k [] s by rw[kK.o,qO.o];rfl) H;go_wp2;refine nL V U rfl (λbm jg H=>?_) H;go_wp2;go_returns;exact ot jd.o aN Fg H
end
end Rk
namespace Rk
open Ck
def Ky(t:bz){i}(h:i<(str t).size):(str t)[i]=Y t i 0:=by
 have T:i<D t:=by rwa[js] at h
 rw[cd,cE T];rfl
def zO{c}(d:UInt8):((c.toNat:Int)==(d.toNat:Int))=decide (c=d):=by
 by_cases h:c=d
 .subst h;simp
 .have: ¬(c.toNat:Int)=d.toNat:=λe=>h (UInt8.toNat_inj.1 J);simp[h,this]
def OH(t:bz){m i}(ay:i<=D t):(str t).extract m i=str ((t.drop m).take (i-m)):=by apply ByteArray.ext;simp[str,ByteArray.data_extract]
def Zt(t:bz)(dH:5<=D t)(G:D t<=200000000000)(w:ai):aY 217 #[t] w λe w'=> ∃u,e= .returned (.tuple #[u,.string (str (kX t).2)])/\db w.heap.size w' u (kX t).1/\aL w w w':=by
 have d_:Hid (kX t=wC (·.drop 1) t):=A rfl;have hsz:(str t).size=D t:=js t;have mI:=A hsz;clear hsz;go_in;have Go:=0;go_wp2;go_loopg[4,5,6,7] (D t- 5) (λr l d m i wr=> ∃(cH hW nK:Nat) (d':List bz),cH+r=D t/\i= cH/\m= hW/\d= nK/\Hid (j6 (·.drop 1) t cH hW nK d')/\Hid (db w.heap.size wr l d')/\Hid (aL w w wr))
 case atStart=>exact⟨5,5,0,[],by omega,rfl,rfl,rfl,A (j6.start dH),A (n7 _ _ _ _),A (aT _ _)⟩
 case round=>
  obtain⟨cH,hW,nK,d',ay,rfl,rfl,rfl,dA,cM,bh⟩:=hrel;obtain⟨pE,lc,rfl⟩:=eR cM.o rfl;by_cases h0:cH<D t
  .have N2:(cH:Int)<((str t).size:Int):=(by rw[mI.o];omega);have fM:(0:Int)<=cH:=J;have DM:cH<(str t).size:=(by rw[mI.o];exact h0);have oB:=dA.o.xV;have pR:=dA.o.dl;have Ia:=dA.o.al;have z:=A (Ky t DM);have hK:IntKind.i64.wrap (cH+1)=cH+1:=dI _ J;have ti:IntKind.i64.wrap ((cH:Int)+1+1)=(cH:Int)+1+1:=dI _ J;have ajF:IntKind.i64.wrap (nK+1)=nK+1:=dI _ J;have Co:Hid (D d'<=1000000000000):=A J;have uO:(((str t)[cH].toNat:Int)==40)=decide (Y t cH 0=40):=(by rw[z.o];exact zO 40);have tn:(((str t)[cH].toNat:Int)==41)=decide (Y t cH 0=41):=(by rw[z.o];exact zO 41);have xy:(((str t)[cH].toNat:Int)==44)=decide (Y t cH 0=44):=(by rw[z.o];exact zO 44);have Gx:=OH t (m:=hW) (Nat.le_of_lt h0);by_cases pz:Y t cH 0=44
   .rw[ri pz] at xy;rw[oJ (by rw[pz];decide)] at uO tn;cases nK with
    |zero=>
     by_cases hm:hW<cH
     .have lO:=A (dA.o.H' h0 pz hm);have oA:(hW:Int)<cH:=J;clear dA;go_wp2_with(at_builtin;refine vv ((t.drop hW).take (cH-hW)) Co.o bh.o.size cM.o (λjE og a6 fT di=>?_);have jm:=A fT;have hk:=A (bh.o.trans di);clear fT)
      go_wp2;go_roundg (D t-(cH+1))
      case rel=>exact⟨cH+1,cH+1,0,_,by omega,by go_num,by go_num,rfl,lO,jm,hk⟩
      case measure=>omega
     .have lO:=A (dA.o.SE h0 pz hm);have oA: ¬(hW:Int)<cH:=J;clear dA;go_wp2;go_roundg (D t-(cH+1))
      case rel=>exact⟨cH+1,cH+1,0,d',by omega,by go_num,by go_num,rfl,lO,cM,bh⟩
      case measure=>omega
    |succ ix=>
     have k4:(((ix+1:Nat):Int)==0)=false:=(by simp;omega);have w4:((ix:Int)+1==0)=false:=(by simp;omega);have N3:IntKind.i64.wrap ((ix:Int)+1+1)=(ix:Int)+1+1:=dI _ J;have Ir:IntKind.i64.wrap ((ix:Int)+1- 1)=(ix:Int):=(by rw[dI _ J];omega);have Is:IntKind.i64.wrap (ix:Int)=ix:=dI _ J;have lO:=A (dA.o.other h0 (by rw[pz];decide) (by rw[pz];decide) (λ_=>by omega));clear dA;go_wp2;go_roundg (D t-(cH+1))
     case rel=>exact⟨cH+1,hW,ix+1,d',by omega,by go_num,rfl,rfl,lO,cM,bh⟩
     case measure=>omega
   .rw[oJ pz] at xy;by_cases oV:Y t cH 0=41
    .rw[ri oV] at tn;rw[oJ (by rw[oV];decide)] at uO;cases nK with
     |zero=>
      by_cases hm:hW<cH
      .have cP:=A (dA.o.end h0 oV hm);have oA:(hW:Int)<cH:=J;clear dA;by_cases bN:cH+1<D t
       .have yz:(cH:Int)+1<((str t).size:Int):=(by rw[mI.o];omega);have EG:(cH:Int)+1+1<=((str t).size:Int):=(by rw[mI.o];omega);have⟨vQ,Iq⟩:(0:Int)<=cH+1+1/\((cH:Int)+1+1).toNat=cH+2:=J;have yd:cH+2<=(str t).size:=(by rw[mI.o];omega);have uD:Hid ((str t).extract (cH+2) (str t).size=str ((t.drop (cH+1)).drop 1)):=A (by rw[zK];exact CR t (cH+2));go_wp2_with(at_builtin;refine vv ((t.drop hW).take (cH-hW)) Co.o bh.o.size cM.o (λjE og a6 fT di=>?_);have jm:=A fT;have hk:=A (bh.o.trans di);clear fT)
        go_wp2;go_region
        go_wp2;go_returns;rw[uD.o];refine⟨(jE,D d'+1,og),by rw[d_.o,cP.o];rfl,?_,hk.o.trans (aT _ _).drew⟩;rw[d_.o,cP.o];exact fZ jm.o (aT _ _).drew λk U=>(eI jm.o k U).2
       .have yz: ¬(cH:Int)+1<((str t).size:Int):=(by rw[mI.o];omega);have uD:Hid ((t.drop (cH+1)).drop 1=[]):=A (by rw[zK];exact GK J);go_wp2_with(at_builtin;refine vv ((t.drop hW).take (cH-hW)) Co.o bh.o.size cM.o (λjE og a6 fT di=>?_);have jm:=A fT;have hk:=A (bh.o.trans di);clear fT)
        go_wp2;go_returns;refine⟨(jE,D d'+1,og),by rw[d_.o,cP.o];dsimp only;rw[uD.o];rfl,?_,hk.o⟩;rw[d_.o,cP.o];exact jm.o
      .have cP:=A (dA.o.SF h0 oV hm);have oA: ¬(hW:Int)<cH:=J;clear dA;by_cases bN:cH+1<D t
       .have yz:(cH:Int)+1<((str t).size:Int):=(by rw[mI.o];omega);have EG:(cH:Int)+1+1<=((str t).size:Int):=(by rw[mI.o];omega);have⟨vQ,Iq⟩:(0:Int)<=cH+1+1/\((cH:Int)+1+1).toNat=cH+2:=J;have yd:cH+2<=(str t).size:=(by rw[mI.o];omega);have uD:Hid ((str t).extract (cH+2) (str t).size=str ((t.drop (cH+1)).drop 1)):=A (by rw[zK];exact CR t (cH+2));go_wp2;go_region
        go_wp2;go_returns;rw[uD.o];refine⟨(pE,D d',lc),by rw[d_.o,cP.o];rfl,?_,bh.o.trans (aT _ _).drew⟩;rw[d_.o,cP.o];exact fZ cM.o (aT _ _).drew λk U=>(eI cM.o k U).2
       .have yz: ¬(cH:Int)+1<((str t).size:Int):=(by rw[mI.o];omega);have uD:Hid ((t.drop (cH+1)).drop 1=[]):=A (by rw[zK];exact GK J);go_wp2;go_returns;refine⟨(pE,D d',lc),by rw[d_.o,cP.o];dsimp only;rw[uD.o];rfl,?_,bh.o⟩;rw[d_.o,cP.o];exact cM.o
     |succ ix=>
      have k4:(((ix+1:Nat):Int)==0)=false:=(by simp;omega);have w4:((ix:Int)+1==0)=false:=(by simp;omega);have N3:IntKind.i64.wrap ((ix:Int)+1+1)=(ix:Int)+1+1:=dI _ J;have Ir:IntKind.i64.wrap ((ix:Int)+1- 1)=(ix:Int):=(by rw[dI _ J];omega);have Is:IntKind.i64.wrap (ix:Int)=ix:=dI _ J;have lO:=A (dA.o.shut h0 oV);clear dA;go_wp2;go_roundg (D t-(cH+1))
      case rel=>exact⟨cH+1,hW,ix,d',by omega,by go_num,rfl,by go_num,lO,cM,bh⟩
      case measure=>omega
    .rw[oJ oV] at tn;by_cases wF:Y t cH 0=40
     .rw[ri wF] at uO;have lO:=A (dA.o.open h0 wF);clear dA;cases nK with
      |zero=>
       go_wp2;go_roundg (D t-(cH+1))
       case rel=>exact⟨cH+1,hW,1,d',by omega,by go_num,rfl,by go_num,lO,cM,bh⟩
       case measure=>omega
      |succ ix=>
       have k4:(((ix+1:Nat):Int)==0)=false:=(by simp;omega);have w4:((ix:Int)+1==0)=false:=(by simp;omega);have N3:IntKind.i64.wrap ((ix:Int)+1+1)=(ix:Int)+1+1:=dI _ J;have Ir:IntKind.i64.wrap ((ix:Int)+1- 1)=(ix:Int):=(by rw[dI _ J];omega);have Is:IntKind.i64.wrap (ix:Int)=ix:=dI _ J;go_wp2;go_roundg (D t-(cH+1))
       case rel=>exact⟨cH+1,hW,ix+1+1,d',by omega,by go_num,rfl,by go_num,lO,cM,bh⟩
       case measure=>omega
     .rw[oJ wF] at uO;have lO:=A (dA.o.other h0 wF oV (λe=>absurd e pz));clear dA;cases nK with
      |zero=>
       go_wp2;go_roundg (D t-(cH+1))
       case rel=>exact⟨cH+1,hW,0,d',by omega,by go_num,rfl,rfl,lO,cM,bh⟩
       case measure=>omega
      |succ ix=>
       have k4:(((ix+1:Nat):Int)==0)=false:=(by simp;omega);have w4:((ix:Int)+1==0)=false:=(by simp;omega);have N3:IntKind.i64.wrap ((ix:Int)+1+1)=(ix:Int)+1+1:=dI _ J;have Ir:IntKind.i64.wrap ((ix:Int)+1- 1)=(ix:Int):=(by rw[dI _ J];omega);have Is:IntKind.i64.wrap (ix:Int)=ix:=dI _ J;go_wp2;go_roundg (D t-(cH+1))
       case rel=>exact⟨cH+1,hW,ix+1,d',by omega,by go_num,rfl,rfl,lO,cM,bh⟩
       case measure=>omega
  .have N2: ¬(cH:Int)<((str t).size:Int):=(by rw[mI.o];omega);have BW: ¬(cH:Int)<D t:=J;have cP:=A (dA.o.o h0);go_wp2;go_returns;refine⟨(pE,D d',lc),?_,by rw[d_.o,cP.o];exact cM.o,bh.o⟩;rw[d_.o,cP.o];rfl
end Rk
namespace Rk
open Ck
def Ga(fin:bz->bz)(tZ: ∀r,D (fin r)<=D r): ∀(f:Nat) (l:bz) (d:Nat) (cur:bz) (d':List bz) (m:Nat),(∀a∈d',D a<=m)->D cur+D l<=m->(∀a∈(Ck.parts fin f l d cur d').1,D a<=m)/\(Ck.parts fin f l d cur d').2.length<=m
 |0,l,d,cur,d',m,h,_=>by cases l<;>exact⟨h,gp _⟩
 |f+1,[],d,cur,d',m,h,_=>⟨h,gp _⟩
 |f+1,c::r,d,cur,d',m,h,hl=>by
  rw[iq] at hl;have ec: ∀a∈(if cur=[] then d' else d'++[cur]),D a<=m:=by
   split
   .exact h
   .intro a aR;obtain R|R:=List.mem_append.1 aR
    .exact h a R
    .rw[List.mem_singleton.1 R];omega
  rw[Ck.parts];split
  .split
   .exact⟨ec,by have:=tZ r;dsimp only;omega⟩
   .exact Ga fin tZ f r 0 [] _ m ec (by simp;omega)
  .exact Ga fin tZ f r _ _ d' m h (by rw[dW,y7];omega)
section
variable{L:List aP}{E:List (aP×af)}{cG:Nat}{w0:ai}{p:Nat}{nv tv uv:af}{k g a:Nat}{s0 s:b5}{eE fl:Option (Int×Int)}{pl r:df}{w w1 wk:ai}{Q:e7->ai->Prop}{K:bz->b5->df}{b:Bool}{c:Int}{t:bz}
def hh(V:Hid (eL L E cG w0 nv))(U:a<D E){b2}(G:b=b2)(h: ∀w2 ey,(ey=none->b2=true)->Hid (fJ L w0 p nv tv uv k s0 eE pl w1 g w2 s ey (K t s))->Q (.returned (.tuple #[])) w2)(H:Hid (fJ L w0 p nv tv uv k s0 eE pl w1 g wk s fl ((bl b2 c a t s).M K))):aY 21 #[(p,0),.bool b,c,a] wk Q:=by subst G;obtain⟨b_,R⟩:=H.o.st;refine b7 (tO (A V.o.aj) (A V.o.eq) R b c a U) λw2⟨b1,b2⟩=>?_;exact h w2 _ (λe=>by cases b<;>cases fl<;>simp_all [m']) (A ⟨⟨_,b1⟩,H.o.fr.trans b2,λhL s' eT T=>H.o.ih hL s' eT ((eN.bl b c a t s).M T),H.o.gx,H.o.nc,H.o.aB⟩)
def IC(H:Hid (fJ L w0 p nv tv uv k s0 eE pl w1 g wk s fl r)):Hid (fJ L w0 p nv tv uv k s0 eE pl wk g wk s fl r):=A ⟨H.o.st,Fr.refl,H.o.ih,H.o.gx,H.o.nc,H.o.aB⟩
def Ks{l}:call L k l s=(bl (cv (Y l 0 []) f') 8 k [] s).M λ_ s=>(bl (decide ((kX (Y l 0 [])).1.length=D l- 1)) 9 k [] s).M λ_ s=>bl (fitAll L (l.drop 1) (kX (Y l 0 [])).1) 8 k (kX (Y l 0 [])).2 s:=by
 unfold call bl;cases cv (Y l 0 []) f' with
 |false=>rfl
 |true=>
  rw[ao aN,aS rfl];by_cases h:(kX (Y l 0 [])).1.length=D l- 1
  .rw[ao (λe=>e h),ri h];rfl
  .rw[aS h,oJ h];rfl
def Pq{b1 b2}:bl (b1&&b2) c k t s=(bl b1 c k [] s).M λ_ s=>bl b2 c k t s:=by cases b1<;>cases b2<;>rfl
def fitAll_nil{l}:fitAll L l []=true:=by cases l<;>rfl
def abe(V:Hid (eL L E cG w0 nv))(U:k<D E)(eh:(Z L k).j'=38){b_}(h:dK w0 p nv tv uv w b_ s fl)(dT:iF L s k){fX u l}(hu:db fX w u l)(hy: ∀b,tv.ownBlock=some b->b<fX)(hl:l≠[])(G: ∀x∈l,D x<=200000000000):
  aY 199 #[(p,0),k,u] w (qy L w0 p nv tv uv k (call L k l s) s fl w):=by
 have jd:Hid ((Z L k).j'≠36):=A (by rw[eh];decide);have Fg:Hid (Fr p tv uv w w):=A Fr.refl;have H:=fx h dT (Ks (L:=L) (k:=k) (s:=s) (l:=l));have vB:0<D l:=List.length_pos_iff.2 hl;have nP:=hu.max;have alN:(0:Int)<D l:=J;have ia:=A hu;have NN:=A hy;obtain⟨eF,tK,rfl⟩:=dR hu vB;have z0:=h3 hu rfl vB;have Cq:=G (Y l 0 []) (by rw[cd,cE vB];exact im vB);have bK:=A h;have n5:Hid (∀w',Fr p tv uv w w'->db fX w' (eF,D l,tK) l):=A λw' aI=>bK.o.row aI ia.o NN.o;have Zn:Hid (∀w',Fr p tv uv w w'->aG w' eF=some [Y l 0 []]):=A λw' aI=>h3 (n5.o w' aI) rfl vB;clear h hu hy;generalize Y l 0 []=t0 at*;cases jP:cv t0 f' with
 |false=>
  rw[jP] at H;have H:=iw (show _=bl false 8 k [] s from rfl) H;have l7:=A (sH t0 f' w);rw[jP] at l7;go_in;have Go:=0;go_wp2;refine l7.o.mono ?_;rintro e w2 ⟨rfl,rfl⟩;go_wp2;refine nL V U rfl (λbm jg H=>?_) H;go_wp2;go_returns;exact ot jd.o aN Fg H
 |true=>
  rw[jP] at H;have l7:=A (sH t0 f' w);rw[jP] at l7;have dH:5<=D t0:=by
   unfold cv at jP;simp only[pv,pt] at jP;exact jP.1
  have L7:=A (λw'=>Zt t0 dH Cq w');have jJ:=A (Ga (·.drop 1) (λr=>by simp) (D t0) (t0.drop 5) 0 [] [] 200000000000 (λa aR=>by cases aR) (by simp;omega));go_in;have Go:=0;go_wp2;refine l7.o.mono ?_;rintro e w2 ⟨rfl,rfl⟩;go_wp2;refine pB V U rfl (λbc iW H=>?_) H;have z0:=Zn.o bc H.o.fr;go_wp2;refine(L7.o bc).mono ?_;rintro e bS ⟨pn,rfl,bQ,o5⟩;have wW:=H.o.fr.size;have H:=j5 H o5;obtain⟨pE,lc,rfl⟩:=eR bQ rfl;have ajj:=bQ.max;have HB: ∀b,tv.ownBlock=some b->b<bc.heap.size:=λb G=>kv (eI bK.o.ty b G).2 wW;have fG:=A H.o.fr;have H:=IC H;obtain⟨uF,DZ⟩:=H.o.st;have NO:Hid (∀w',Fr p tv uv bS w'->db bc.heap.size w' (.slice pE (kX t0).1.length lc) (kX t0).1):=A λw' aI=>DZ.row aI bQ HB;have RD:Hid ((kX t0).2.length<=200000000000):=A jJ.o.2;clear jJ;generalize kX t0=P at*;obtain⟨ps,res⟩:=P;dsimp only at*;obtain⟨b',_,_,_,_,_,b9⟩:=hA H;have anO:IntKind.i64.wrap (D l- 1)=D l- 1:=dI _ J;go_wp2;refine hh V U (b2:=decide (D ps=D l- 1)) ?_ (λbm jg HC H=>?_) H
  .by_cases h:D ps=D l- 1
   .rw[ri h];simp;omega
   .rw[oJ h];simp;omega
  go_wp2;go_loopg[10] (D ps) (λr i wr=> ∃(j:Nat) (xj:Option (Int×Int)),j+r=D ps/\i= j/\Hid (xj=none->D ps=D l- 1)/\Hid (fJ L w0 p nv tv uv k s fl (call L k l s) bS 0 wr s xj (bl (fitAll L ((l.drop 1).drop j) (ps.drop j)) 8 k res s)))
  case atStart=>exact⟨0,jg,by omega,rfl,A λe=>of_decide_eq_true (HC e),H⟩
  case round=>
   obtain⟨j,xj,bg,rfl,ep,eU⟩:=hrel;clear H;have H:=eU;generalize wr=bH at*;obtain⟨b',_,_,_,_,fg,b9⟩:=hA H;by_cases cr:j<D ps
   .have⟨j3,me⟩:(j:Int)<D ps/\(0:Int)<=j:=J;cases xj with
    |some f0=>
     have fg:aG bH (p,6)=some (.bool true):=fg;have H:=N1 rfl H (.ok res s);go_wp2;go_returns;exact ot jd.o RD.o fG H
    |none=>
     have fg:aG bH (p,6)=some (.bool false):=fg;have c6:=ep.o rfl;have Bw:=A c6;have hK:IntKind.i64.wrap (j+1)=j+1:=dI _ J;have x6:j+1<D l:=J;have bQ:=NO.o bH H.o.fr;obtain⟨y',FR,BT⟩:=dR bQ J;cases BT;have cu:=h3 bQ rfl cr;have k2:=h3 (n5.o bH (fG.o.trans H.o.fr)) rfl x6;have H:=iw (show _=(bl (fS L (Y l (j+1) []) (Y ps j [])) 8 k [] s).M λ_ s=>bl (fitAll L ((l.drop 1).drop (j+1)) (ps.drop (j+1))) 8 k res s by
      rw[zK,zK,kS cr,show 1+j=j+1 from yf 1 j,kS x6,show 1+(j+1)=j+1+1 from yf 1 (j+1),cd,cE x6,cd,cE cr];exact Pq) H
     have⟨ai9,anr,BU⟩:(j:Int)+1<(D l:Int)/\((j:Int)+1).toNat=j+1/\(0:Int)<=j+1:=J;clear c6;generalize Y l (j+1) []=v at*;generalize Y ps j []=q at*;go_wp2;go_still_tail 13,cS
     change fo _ _ _ _ _ bH.drew;have H:=j5 H (aT _ _).drew;generalize bH.drew=iR at*;go_wp2;revert H;refine zr V (λb4 H=>?_);go_wp2;refine hh V U rfl (λb3 sr _ H=>?_) H;go_wp2;go_roundg (D ps-(j+1))
     case rel=>exact⟨j+1,sr,by omega,by go_num,A λ_=>Bw.o,H⟩
     case measure=>omega
   .obtain rfl:j=D ps:=J;have H:=iw (show _= .ok res s by rw[rW,fitAll_nil];rfl) H;go_wp2;go_returns;exact ot jd.o RD.o fG H
end
end Rk
namespace Rk
open Ck
section
variable{L:List aP}{E:List (aP×af)}{cG:Nat}{w0:ai}{p:Nat}{nv tv uv:af}{k g a f:Nat}{s0 s:b5}{eE fl:Option (Int×Int)}{pl r:df}{w w1 wk w2:ai}{Q:e7->ai->Prop}{K:bz->b5->df}{b:Bool}{c:Int}{t:bz}
def Wb(aI:Fr p tv uv w2 w1)(H:Hid (fJ L w0 p nv tv uv k s0 eE pl w1 g wk s fl r)):Hid (fJ L w0 p nv tv uv k s0 eE pl w2 g wk s fl r):=A ⟨H.o.st,aI.trans H.o.fr,H.o.ih,H.o.gx,H.o.nc,H.o.aB⟩
def KA(x y:bz):str x++str y=str (x++y):=by apply ByteArray.ext;simp[str]
def yv{ops rest o cF fx}{er:Exit->Act->ai->Prop}{a N w u l}(x)(hl:D l<=1000000000000)(hN:N<=w.heap.size)(bQ:db N w u l)
 (h: ∀g cap a6,db N a6 (.slice (some ⟨g,0,none⟩) (D l+1) cap) (l++[x])->(aA w (aw #[.string (str x)] 9)).grownBy a6 u.ownBlock->fo prog ops er rest (a.put o.dst (.slice (some ⟨g,0,none⟩) (D l+1) cap)) a6)
 (jO:o.guard=none:=by rfl)(bX:o.op= .call {callee:= .builtin .append,args:= #[cF,fx],argTypes:= #[22,22]}:=by rfl)(hs:a.eval cF=u:=by rfl)(aF:a.eval fx= .slice (some ⟨w.heap.size,0,none⟩) 1 1:=by rfl):
  fo prog ops er (o::rest) a (aA w (aw #[.string (str x)] 9)):=by obtain⟨i0,fM,e',e_,ff⟩:=kT JJ;have pL:(aA w (aw #[x] 9)).ownsRow N 9 1 u (D l) (l.map λx=>mm (str x)):=fZ bQ ((aT w w).alloc (bD _) _) λk U=>(eI bQ k U).2;refine tI _ jO cF fx 22 bX N 9 i0 _ 1 16 underlying22 fM e' e_ ff rfl J u (D l) (l.map λx=>mm (str x)) hs pL ⟨w.heap.size,0,none⟩ 1 1 [x] aF rfl (j7 (cs:= #[x]) (t:=9) (fr:=(0,0)) (hf _ _)) (by intro y bx;simp at bx;subst bx;rfl) J (by unfold dc;omega) J (by simp;omega) (w.heap.size+1) bT ?_;intro g cap a6 fF dv e1 _;refine h g cap a6 ?_ dv;unfold db;rw[dW,rX];exact fF
def We{fX u l}(H:Hid (fJ L w0 p nv tv uv k s0 eE pl w1 g wk s fl r))(aB:wk.grownBy w2 u.ownBlock)(hu:db fX wk u l)(R:w1.heap.size<=fX)(aH:w0.heap.size<=fX)(hy: ∀b,tv.ownBlock=some b->b<fX):Hid (fJ L w0 p nv tv uv k s0 eE pl w1 g w2 s fl r):=by
 obtain⟨b_,ab⟩:=H.o.st;have G: ∀b,u.ownBlock=some b->fX<=b/\ ∃c,wk.heap[b]?=some (.cells c 9 (0,0)):=λb G=>by
  obtain⟨aH,_⟩|⟨g,cap,cur,rfl,hN,hc,_⟩:=hu.2
  .rw[aH] at G;cases G
  .cases G;exact⟨hN,_,hc⟩
 have Ll: ∀{b:Nat} {c:Array af} {t:TypeId},wk.heap[b]?=some (.cells c t (0,0))->t≠9\/b<fX->w2.heap[b]?=some (.cells c t (0,0)):=λ{b c t} hc bI=>(aB.block b (bd hc) λe=>by
  obtain⟨T,cK,ah⟩:=G b e.symm;rw[ah] at hc;cases hc;obtain bI|bI:=bI
  .exact bI rfl
  .omega).trans hc
 have h4: ∀{N e n:Nat} {v:af} {xs:List af},wk.ownsRow N e 1 v n xs->(e≠9\/ ∀b,v.ownBlock=some b->b<fX)->w2.ownsRow N e 1 v n xs:=λ{N e n v xs} bX aZ=>by
  refine⟨bX.1,?_⟩;obtain aH|⟨g,cap,cur,rfl,hN,hc,au⟩:=bX.2
  .exact .inl aH
  .exact .inr ⟨g,cap,cur,rfl,hN,Ll hc (aZ.imp id λh=>h g rfl),au⟩
 have afc:w2.ownsRow w0.heap.size 108 3 b_ (D (e4 s.sc)) ((e4 s.sc).flatMap nr):=by
  have bX:wk.ownsRow w0.heap.size 108 3 b_ (D (e4 s.sc)) ((e4 s.sc).flatMap nr):=ab.lR;refine⟨bX.1,?_⟩;obtain aH|⟨g,cap,cur,rfl,hN,hc,au⟩:=bX.2
  .exact .inl aH
  .exact .inr ⟨g,cap,cur,rfl,hN,Ll hc (.inl aN),au⟩
 refine A ⟨⟨b_,ab.av.grown aB ab.av.size (λb b8=>by have:=(G b b8).1;omega),Ll ab.blk (.inl aN),h4 ab.ty (.inr hy),h4 ab.us (.inl aN),afc,ab.aJ⟩,⟨hg H.o.fr.size aB.size,λb o bX c9 cw da dQ=>?_⟩,H.o.ih,H.o.gx,H.o.nc,H.o.aB⟩;have dH:=H.o.fr.gP b o bX c9 cw da dQ;exact(aB.block b (Array.getElem?_eq_some_iff.1 dH).1 λe=>by
  have fE:=(G b e.symm).1;have fW:=(Array.getElem?_eq_some_iff.1 bX).1;omega).trans dH
def qy.use{hx args rc j}(hc:aY hx args wk (qy L w0 p nv tv uv j rc s fl wk))(h: ∀w2 t s2 ey,D t<=200000000000->Hid (fJ L w0 p nv tv uv k s0 eE pl w1 g w2 s2 ey (.ok t s2))->Q (.returned t) w2)(H:Hid (fJ L w0 p nv tv uv k s0 eE pl w1 g wk s fl rc)):aY hx args wk Q:=by
 refine hc.mono ?_;rintro e w2 ⟨t,s2,ey,mJ,rfl,bI,b1,b2,bC,bG,_⟩;exact h w2 t s2 ey bI (A ⟨⟨_,b1⟩,H.o.fr.trans b2,λhL s' eT T=>H.o.ih hL s' eT (by
  have:=bC.M (f:= .ok) T;rwa[show rc.M .ok=rc from by cases rc<;>rfl] at this),H.o.gx.trans bG,H.o.nc,H.o.aB⟩)
def ED.use{hx args rc}(hc: ∀b_,dK w0 p nv tv uv wk b_ s fl->aY hx args wk (ED L w0 p nv tv uv b_ rc s fl wk))(h: ∀w2 t ey,D t<=200000000000->Hid (fJ L w0 p nv tv uv k s0 eE pl w1 g w2 s ey (.ok t s))->Q (.returned t) w2)(H:Hid (fJ L w0 p nv tv uv k s0 eE pl w1 g wk s fl rc)):aY hx args wk Q:=by
 obtain⟨b_,ab⟩:=H.o.st;refine(hc b_ ab).mono ?_;rintro e w2 ⟨t,ey,rfl,bI,b1,b2,bC⟩;exact h w2 t ey bI (A ⟨⟨_,b1⟩,H.o.fr.trans b2,λhL s' eT T=>H.o.ih hL s' eT (by
  have:=bC.M (f:= .ok) T;rwa[show rc.M .ok=rc from by cases rc<;>rfl] at this),H.o.gx,H.o.nc,H.o.aB⟩)
def fJ.Vk(h:fJ L w0 p nv tv uv k s0 eE pl w1 0 wk s fl r):iF L s k:=⟨h.gx.sc.ne,h.gx.ty.trans h.nc.ty,h.gx.us.trans h.nc.us,h.gx.inv h.nc.inv,by rw[h.gx.cx];exact h.nc.lp,by rw[h.gx.sc.zero h.nc.ne];exact h.nc.room⟩
def ZN(V:Hid (eL L E cG w0 nv))(U:k<D E)(nB:k<=f)(hc:ct 1 (Z L k).j'=true)(dy:Hid (∀j,j<k->sB L w0 p nv tv uv j f))
 (HYtjfkhpkicioakaaGreatDoor:Hid (∀(w:ai) (b_:af) (s:b5),dK w0 p nv tv uv w b_ s none->iF L s k->aY 197 #[(p,0),k] w (qy L w0 p nv tv uv k (named L k s) s none w)))
 {b_ s}(h:dK w0 p nv tv uv w b_ s none)(dT:iF L s k):aY 170 #[(p,0),k] w (qy L w0 p nv tv uv k (typed L (bE L f) k s) s none w):=by
 obtain⟨ch,cA,x,bb,aQ,rfl,cg⟩:=V.o.gQ h.av U;have br:=A cg;have ax:=cg.Z;have kP:Hid (∀i,bM L k i=Y x.I i 0):=A λi=>by unfold bM;rw[ax]
 rw[ax] at hc;have qt:Hid (x.j'=33\/x.j'=34\/x.j'=35\/x.j'=36\/x.j'=37\/x.j'=38\/x.j'=39\/x.j'=40\/x.j'=41\/x.j'=42\/x.j'=43\/x.j'=44\/x.j'=45\/x.j'=46):=A (by
  unfold ct at hc;simp at hc;omega)
 have gd:=A dT;have iM:=A cg.ly.len;obtain⟨bO,bq,cK,c3,c4⟩:=cg.cells w h.av;obtain⟨b',_,_,_,_⟩:=h.at;have b9:=bd h.blk;have⟨hv,hi⟩:(k:Int)<D E/\(0:Int)<=k:=J;have H1:=A (h.alloc (hb x bb aQ));have cJ:Hid (Fr p tv uv w (aA w (hb x bb aQ))):=A (Fr.below ((aT w w).alloc (bD _) _));have nQ:=A (ek w (hb x bb aQ));have qk:w.heap.size<(aA w (hb x bb aQ)).heap.size:=bT;have ur:=cg.fA.1;clear h dT ax hc cg;go_in;have Go:=0;go_upto_region 2 with fail
 clear bO bq cK c3 c4 b' b9;generalize fp:aA w (hb x bb aQ)=w1 at*;generalize w.heap.size=q at*;have dx:Hid (∀w',Fr p tv uv w1 w'->aG w' q=some [x.j']/\aG w' (q,2)=some [x.aX]/\aG w' (q,3)=some [x.O]/\aG w' (q,4)=some (bb,D x.I,aQ)/\q<w'.heap.size):=A λw' aI=>by
  have a_:=H1.o.node aI nQ.o;exact⟨az a_ 0,az a_ 2,az a_ 3,az a_ 4,bd a_⟩
 clear fp;obtain⟨bO,cK,c3,c4,cW⟩:=dx.o w1 Fr.refl;have hV:Hid (∀(cs:List Nat),B.pat x.j' x.aX (D x.I)=cs-> ∀i,i<D cs->i<D x.I/\Y x.I i 0<k/\ct (Y cs i 0) (Z L (Y x.I i 0)).j'=true):=A λcs aJ i ay=>by
  have hl:i<D x.I:=by rw[iM.o,aJ];exact ay
  have:=br.o.at hl;rw[aJ] at this;exact⟨hl,this⟩
 have mc:Hid (∀e,x.j'=e->(Z L k).j'=e):=A λe he=>by rw[br.o.Z];exact he
 obtain⟨b',_,_,_,_,_,b9⟩:=hA (fx H1.o gd.o (rfl:typed L (bE L f) k s=typed L (bE L f) k s));by_cases ev:x.j'=37\/x.j'=38\/x.j'=39\/x.j'=43\/x.j'=44\/x.j'=45\/x.j'=46
 .have H:=fx H1.o gd.o (show typed L (bE L f) k s=args L (bE L f) (decide (x.j'=39)) (after L k) x.I 0 [] s by
   unfold typed;rw[br.o.Z,ao J,ao J,ao J,ao J,ao J,ao J,ao J])
  have jd:Hid ((Z L k).j'≠36):=A (by rw[br.o.Z];omega);have E2:=A ev;have Ig:(x.j'==33)=false:=by rcases ev with h|h|h|h|h|h|h<;>rw[h]<;>rfl
  have E3:(x.j'==34)=false:=by rcases ev with h|h|h|h|h|h|h<;>rw[h]<;>rfl
  have Cu:(x.j'==35)=false:=by rcases ev with h|h|h|h|h|h|h<;>rw[h]<;>rfl
  have CG:(x.j'==36)=false:=by rcases ev with h|h|h|h|h|h|h<;>rw[h]<;>rfl
  have uO:(x.j'==40)=false:=by rcases ev with h|h|h|h|h|h|h<;>rw[h]<;>rfl
  have tn:(x.j'==41)=false:=by rcases ev with h|h|h|h|h|h|h<;>rw[h]<;>rfl
  have CH:(x.j'==42)=false:=by rcases ev with h|h|h|h|h|h|h<;>rw[h]<;>rfl
  have ou:Hid (∀b,tv.ownBlock=some b->b<w1.heap.size):=A λb G=>(eI H1.o.ty b G).2;have E4:=A H1.o.av.size;have rq:=br.o.fA.2;clear ev;go_wp2;clear Ig E3 Cu CG uO tn CH bO cK c3 c4 cW b' b9;go_loopg[8,9] (D x.I) (λr l i wr=> ∃(j:Nat) (aq:b5) (iW:Option (Int×Int)) (d':List bz),j+r=D x.I/\i= j/\Hid (db w1.heap.size wr l d')/\Hid (D d'=j/\ ∀y∈d',D y<=200000000000)/\Hid (fJ L w0 p (ch,D E,cA) tv uv k s none (typed L (bE L f) k s) w1 0 wr aq iW (args L (bE L f) (decide (x.j'=39)) (after L k) (x.I.drop j) j d' aq)))
  case atStart=>exact⟨0,s,none,[],by omega,rfl,A (n7 _ _ _ _),A ⟨rfl,λy bx=>by cases bx⟩,H⟩
  case round=>
   obtain⟨j,aq,iW,d',bg,rfl,cM,cz,eU⟩:=hrel;clear H;have H:=eU;clear eU;generalize wr=bH at*;obtain⟨pE,lc,rfl⟩:=eR cM.o rfl;obtain⟨bO,_,_,c4,cW⟩:=dx.o bH H.o.fr;obtain⟨b',_,_,_,_,fg,b9⟩:=hA H;by_cases cr:j<D x.I
   .have⟨j3,me⟩:(j:Int)<D x.I/\(0:Int)<=j:=J;have hK:IntKind.i64.wrap (j+1)=j+1:=dI _ J;obtain⟨g2,rfl,cu⟩:=br.o.bM bH j H.o.av cr;have uG:Hid (∀w',aL w0 w0 w'->aG w' (g2,j)=some [(x.I.getD j 0:Int)]):=A λw' G=>by
     obtain⟨g3,iD,ah⟩:=br.o.bM w' j G cr;cases iD;exact ah
    have E6:=A (br.o.at cr);have Fk:Hid (x.I.drop j=Y x.I j 0::x.I.drop (j+1)):=A (by rw[kS cr,cd,cE cr];rfl);have DL:Hid (D d'<=1000000000000):=A (by have:=cz.o.1;omega);have dj:=A H.o.fr;obtain⟨rM,Ed⟩:=H.o.st;have kc:Hid (∀w',Fr p tv uv bH w'->db w1.heap.size w' (pE,D d',lc) d'):=A λw' aI=>Ed.row aI cM.o ou.o;clear Ed;have FH:Hid ((x.j'=39/\j=1->1<=(Z L (Y x.I j 0)).j'/\(Z L (Y x.I j 0)).j'<=6)/\(¬(x.j'=39/\j=1)->ct 1 (Z L (Y x.I j 0)).j'=true)):=A (by
     have T:=E6.o.2;refine⟨λ⟨ah,bJ⟩=>?_,λah=>?_⟩
     .rw[ah] at T;subst bJ;simpa[ct,B.pat] using T
     .have aJ:Y (B.pat x.j' x.aX (D x.I)) j 0=1:=by
       have hR:=iM.o;rcases E2.o with h|h|h|h|h|h|h<;>rw[h] at hR|-
       .obtain rfl:j=0:=(by rw[hR] at cr;exact Nat.lt_one_iff.1 cr);rfl
       .show(ef (max (D x.I) 1) 1).getD j 0=1;rw[cd,ku,aS J];rfl
       .have:j<2:=(by rw[hR] at cr;exact cr);obtain rfl:j=0:=J;rfl
       .obtain rfl:j=0:=(by rw[hR] at cr;exact Nat.lt_one_iff.1 cr);rfl
       .obtain rfl:j=0:=(by rw[hR] at cr;exact Nat.lt_one_iff.1 cr);rfl
       .obtain rfl:j=0:=(by rw[hR] at cr;exact Nat.lt_one_iff.1 cr);rfl
       .have:j<2:=(by rw[hR] at cr;exact cr);rcases(by omega:j=0\/j=1) with rfl|rfl<;>rfl
      rwa[aJ] at T)
    have mE:=E6.o.1;by_cases nX:x.j'=39/\j=1
    .have q8:=FH.o.1 nX;have AD:(x.j'==39)=true:=(by simp[nX.1]);have Oe:((j:Int)==1)=true:=(by simp[nX.2]);have H:=iw (show _=(bE L f .typ (Y x.I j 0) aq).M λ_ bA=>args L (bE L f) (decide (x.j'=39)) (after L k) (x.I.drop (j+1)) (j+1) (d'++[B.O L (Y x.I j 0)]) bA by
      rw[Fk.o];show(if(decide (x.j'=39)&&j==1)=true then _ else _)=_;rw[aS (by simp[nX.1,nX.2])]) H
     clear nX;generalize Y x.I j 0=a at*;have q7:a<D E:=J;have H:=IC H;go_wp2;revert H;refine Tj V nB ⟨mE,q7,q8⟩ (λw2 bA jy H=>?_);clear bO c4 cW b' fg b9 cu;obtain⟨_,_,_,c4,cW⟩:=dx.o w2 (dj.o.trans H.o.fr);obtain⟨b',_,_,_,_,_,b9⟩:=hA H;have cu:=uG.o w2 H.o.av;go_wp2;go_still_tail 9,cS
     change fo _ _ _ _ _ w2.drew;have H:=j5 H (aT _ _).drew;clear c4 cW b' b9 cu;generalize w2.drew=bc at*;go_wp2;revert H;refine Lq V q7 (λbS H=>?_);have lt:=hg (V.o.short a) (show 100000000000<=200000000000 by decide);generalize B.O L a=cb at*;have iN:=A (kc.o bS H.o.fr);have H:=Wb dj.o H;have mI:=A H.o.fr.size;have z:=A (λa6 gl=>We (w2:=a6) (j5 H ((aT bS bS).alloc (bD _) (aw #[cb] 9))) gl (fZ iN.o ((aT _ _).alloc (bD _) _) λk U=>(eI iN.o k U).2) (bD _) E4.o ou.o);go_wp2_with(at_builtin;refine yv cb DL.o mI.o iN.o (λjE og a6 fT gl=>?_);have jm:=A fT;have nG:=z.o a6 gl;clear fT gl)
     go_wp2;go_roundg (D x.I-(j+1))
     case rel=>exact⟨j+1,bA,jy,d'++[cb],by omega,by go_num,jm,A ⟨by rw[dW,cz.o.1];rfl,λy bx=>(List.mem_append.1 bx).elim (cz.o.2 y) λe=>by rw[List.mem_singleton.1 e];exact lt⟩,nG⟩
     case measure=>omega
    .have q8:=FH.o.2 nX;have oM:((x.j'==39)=false)\/((x.j'==39)=true/\((j:Int)==1)=false):=by
      by_cases h:x.j'=39
      .exact .inr ⟨by simp[h],by have: ¬j=1:=λe=>nX ⟨h,e⟩;simp;omega⟩
      .exact .inl (by simp[h])
     have H:=iw (show _=(bE L f .b6 (Y x.I j 0) aq).M λt bA=>args L (bE L f) (decide (x.j'=39)) (after L k) (x.I.drop (j+1)) (j+1) (d'++[t]) bA by
      rw[Fk.o];show(if(decide (x.j'=39)&&j==1)=true then _ else _)=_;rw[ao (by simp;exact λh=>λe=>nX ⟨h,e⟩)]) H
     clear nX;generalize Y x.I j 0=a at*;have q7:a<D E:=J;have H:=IC H;obtain AD|⟨AD,Oe⟩:=oM
     all_goals
      go_wp2;refine IB dy ⟨mE,q8⟩ (λw2 t bA jy lt _ _ _ H=>?_) H;clear bO c4 cW b' fg b9 cu;have iN:=A (kc.o w2 H.o.fr);have H:=Wb dj.o H;have mI:=A H.o.fr.size;have z:=A (λa6 gl=>We (w2:=a6) (j5 H ((aT w2 w2).alloc (bD _) (aw #[t] 9))) gl (fZ iN.o ((aT _ _).alloc (bD _) _) λk U=>(eI iN.o k U).2) (bD _) E4.o ou.o);go_wp2_with(at_builtin;refine yv t DL.o mI.o iN.o (λjE og a6 fT gl=>?_);have jm:=A fT;have nG:=z.o a6 gl;clear fT gl)
      go_wp2;go_roundg (D x.I-(j+1))
      case rel=>exact⟨j+1,bA,jy,d'++[t],by omega,by go_num,jm,A ⟨by rw[dW,cz.o.1];rfl,λy bx=>(List.mem_append.1 bx).elim (cz.o.2 y) λe=>by rw[List.mem_singleton.1 e];exact lt⟩,nG⟩
      case measure=>omega
   .obtain rfl:j=D x.I:=J;have H:=iw (show _=after L k d' aq by rw[rW];rfl) H;have ag0:=cM.o.max;cases iW with
    |some f0=>
     have fg:aG bH (p,6)=some (.bool true):=fg;have H:=N1 rfl H (.ok [] aq);go_wp2;go_returns;exact ot jd.o aN cJ H
    |none=>
     have fg:aG bH (p,6)=some (.bool false):=fg;obtain e|e|e|e|e|e|e:=E2.o
     all_goals
      have eh:=mc.o _ e;rw[e] at bO
     .have ec:0<D d':=(by rw[cz.o.1,iM.o,e];exact oI _);obtain⟨kj,kg,ft⟩:=dR cM.o ec;cases ft;have z0:=h3 cM.o rfl ec;have hj:=cz.o.2 (Y d' 0 []) (by rw[cd,cE ec];exact im ec);have s6:(0:Int)<D d':=J;have H:=iw (show _=dot L k (Y d' 0 []) aq by unfold after;rw[aS eh]) H;obtain⟨pS,rD⟩:=H.o.st;have cV:=A (acw V U eh rD H.o.Vk (Y d' 0 []) hj);clear e eh rD ec;generalize Y d' 0 []=t0 at*;go_wp2;refine qy.use cV.o (λw2 t bA jy lt H=>?_) H;go_wp2;go_returns;exact ot jd.o lt cJ H
     .have ec:0<D d':=(by have R:=cz.o.1;have T:=iM.o;rw[e] at T;have ah:D (B.pat 38 x.aX (D x.I))=max (D x.I) 1:=wg;omega);obtain⟨kj,kg,ft⟩:=dR cM.o ec;cases ft;have z0:=h3 cM.o rfl ec;have hj:=cz.o.2 (Y d' 0 []) (by rw[cd,cE ec];exact im ec);have s6:(0:Int)<D d':=J;have H:=iw (show _=call L k d' aq by unfold after;rw[ao J,aS eh]) H;obtain⟨pS,rD⟩:=H.o.st;have cV:=A (abe V U eh rD H.o.Vk cM.o ou.o (List.length_pos_iff.1 ec) cz.o.2);clear e eh rD ec;go_wp2;refine qy.use cV.o (λw2 t bA jy lt H=>?_) H;go_wp2;go_returns;exact ot jd.o lt cJ H
     .have ec:0<D d':=(by rw[cz.o.1,iM.o,e];exact oI _);obtain⟨kj,kg,ft⟩:=dR cM.o ec;cases ft;have z0:=h3 cM.o rfl ec;have hj:=cz.o.2 (Y d' 0 []) (by rw[cd,cE ec];exact im ec);have s6:(0:Int)<D d':=J;have qe:1<D d':=(by rw[cz.o.1,iM.o,e];exact Nat.lt_succ_self 1);have lB:=h3 cM.o rfl qe;have ck:=cz.o.2 (Y d' 1 []) (by rw[cd,cE qe];exact im qe);have Lk:(1:Int)<D d':=J;have H:=iw (show _=(bl (decide (0<=c7 L 12 (Y d' 0 []))&&cv (Y d' 1 []) [42]&&fS L (Y d' 1 []) (Y d' 0 [])) 8 k [] aq).M λ_ s=> .ok (Y d' 1 []) s by
       unfold after;rw[ao J,ao J,aS eh];unfold bl;split<;>rfl) H
      obtain⟨pS,rD⟩:=H.o.st;have sw:Hid (∀w',Fr p tv uv bH w'->aG w' (kj,1)=some [Y d' 1 []]/\aG w' kj=some [Y d' 0 []]):=A λw' aI=>⟨h3 (rD.row aI cM.o ou.o) rfl qe,h3 (rD.row aI cM.o ou.o) rfl ec⟩;clear e eh rD;generalize Y d' 0 []=t0 at*;generalize Y d' 1 []=t1 at*;have l7:Hid (∀w',aY 128 #[t1,.string (str [42])] w' λe mh=>e= .returned (.bool (cv t1 [42]))/\mh=w'):=A λw'=>sH t1 [42] w';have dj:=A H.o.fr;have H:=IC H;have H:=j5 H (aT _ _).drew;go_wp2;go_still_tail 7,cS
      change fo _ _ _ _ _ bH.drew;clear bO c4 cW b' fg b9 z0 lB;generalize bH.drew=bc at*;obtain⟨lB,z0⟩:=sw.o bc H.o.fr;go_wp2;refine Lp V ?_ H;generalize c7 L 12 t0=gz at*;go_wp2;refine b7 (l7.o bc) ?_;rintro bS rfl;generalize cv t1 [42]=ahB at*;obtain⟨b',_,_,_,_,_,b9⟩:=hA H;have H:=j5 H (aT _ _).drew;go_wp2;go_still_tail 10,cS
      change fo _ _ _ _ _ bS.drew;clear b' b9 z0 lB;generalize bS.drew=bm at*;go_wp2;revert H;refine zr V (λb4 H=>?_);generalize fS L t1 t0=cy at*;have FJ:=A (cJ.o.trans dj.o);by_cases aH:(0:Int)<=gz<;>cases ahB<;>cases cy
      all_goals
       go_wp2;refine pB V U (by simp[aH]) (λb3 sr H=>?_) H;obtain⟨lB,_⟩:=sw.o b3 H.o.fr;go_wp2;go_returns;exact ot jd.o ck FJ H
     .have ec:0<D d':=(by rw[cz.o.1,iM.o,e];exact oI _);obtain⟨kj,kg,ft⟩:=dR cM.o ec;cases ft;have z0:=h3 cM.o rfl ec;have hj:=cz.o.2 (Y d' 0 []) (by rw[cd,cE ec];exact im ec);have s6:(0:Int)<D d':=J;have H:=iw (show _=(bl (Y d' 0 []==e6) 8 k [] aq).M λ_ s=> .ok e6 s by
       unfold after;rw[ao J,ao J,ao J,aS eh];unfold bl;split<;>rfl) H
      have AE:Hid ((Y d' 0 []==e6)=((str (Y d' 0 [])).toList==[98,111,111,108])):=A (by rw[ir];rfl);clear e eh ec;generalize Y d' 0 []=t0 at*;go_wp2;refine pB V U AE.o.symm (λbS jy H=>?_) H;go_wp2;go_returns;exact ot jd.o aN cJ H
     .have ec:0<D d':=(by rw[cz.o.1,iM.o,e];exact oI _);obtain⟨kj,kg,ft⟩:=dR cM.o ec;cases ft;have z0:=h3 cM.o rfl ec;have hj:=cz.o.2 (Y d' 0 []) (by rw[cd,cE ec];exact im ec);have s6:(0:Int)<D d':=J;have H:=iw (show _=(bl (Y d' 0 []==g') 8 k [] aq).M λ_ s=> .ok g' s by
       unfold after;rw[ao J,ao J,ao J,ao J,aS eh];unfold bl;split<;>rfl) H
      have AE:Hid ((Y d' 0 []==g')=((str (Y d' 0 [])).toList==[105,110,116])):=A (by rw[ir];rfl);clear e eh ec;generalize Y d' 0 []=t0 at*;go_wp2;refine pB V U AE.o.symm (λbS jy H=>?_) H;go_wp2;go_returns;exact ot jd.o aN cJ H
     .have ec:0<D d':=(by rw[cz.o.1,iM.o,e];exact oI _);obtain⟨kj,kg,ft⟩:=dR cM.o ec;cases ft;have z0:=h3 cM.o rfl ec;have hj:=cz.o.2 (Y d' 0 []) (by rw[cd,cE ec];exact im ec);have s6:(0:Int)<D d':=J;have H:=iw (show _=(bl (fq (Y d' 0 [])).isSome 8 k [] aq).M λ_ s=> .ok ((fq (Y d' 0 [])).getD []) s by
       unfold after;rw[ao J,ao J,ao J,ao J,ao J,aS eh];unfold bl;split<;>rfl) H
      clear e eh ec;generalize Y d' 0 []=t0 at*;have rK:Hid (D ((fq t0).getD [])<=200000000000):=A (by
       unfold fq;split
       .rw[Option.getD_some,qA];omega
       .exact gp _)
      go_wp2;refine Vd ?_;go_wp2;refine pB V U rfl (λbS jy H=>?_) H;go_wp2;go_returns;exact ot jd.o rK.o cJ H
     .have ec:0<D d':=(by rw[cz.o.1,iM.o,e];exact oI _);obtain⟨kj,kg,ft⟩:=dR cM.o ec;cases ft;have z0:=h3 cM.o rfl ec;have hj:=cz.o.2 (Y d' 0 []) (by rw[cd,cE ec];exact im ec);have s6:(0:Int)<D d':=J;have qe:1<D d':=(by rw[cz.o.1,iM.o,e];exact Nat.lt_succ_self 1);have lB:=h3 cM.o rfl qe;have ck:=cz.o.2 (Y d' 1 []) (by rw[cd,cE qe];exact im qe);have Lk:(1:Int)<D d':=J;have H:=iw (show _=binary L k (Y d' 0 []) (Y d' 1 []) aq by
       unfold after;rw[ao J,ao J,ao J,ao J,ao J,ao J]) H
      clear e eh;generalize Y d' 0 []=t0 at*;generalize Y d' 1 []=t1 at*;have H:=j5 H (aT _ _).drew;go_wp2;go_still_tail 8,cS
      change fo _ _ _ _ _ bH.drew;generalize bH.drew=bc at*;go_wp2;refine ED.use (λb_ ab=>Xo V U ab t0 t1) (λw2 t jy lt H=>?_) H;go_wp2;go_returns;exact ot jd.o lt cJ H
 have key:x.j'=33\/x.j'=34\/x.j'=35\/x.j'=36\/x.j'=40\/x.j'=41\/x.j'=42:=by
  have:=qt.o;omega
 clear ev;obtain e|e|e|e|e|e|e:=key
 all_goals
  have eh:=mc.o _ e;rw[e] at bO
 .have H:=fx H1.o gd.o (show typed L (bE L f) k s= .ok g' s by unfold typed;rw[aS eh]);have jd:Hid ((Z L k).j'≠36):=A (by rw[eh];decide);clear e eh;go_wp2;go_returns;exact ot jd.o aN cJ H
 .have H:=fx H1.o gd.o (show typed L (bE L f) k s= .ok e6 s by unfold typed;rw[ao J,aS eh]);have jd:Hid ((Z L k).j'≠36):=A (by rw[eh];decide);clear e eh;go_wp2;go_returns;exact ot jd.o aN cJ H
 .have H:=fx H1.o gd.o (show typed L (bE L f) k s= .ok iK s by unfold typed;rw[ao J,ao J,aS eh]);have jd:Hid ((Z L k).j'≠36):=A (by rw[eh];decide);clear e eh;go_wp2;go_returns;exact ot jd.o aN cJ H
 .have ba:Hid (typed L (bE L f) k s=named L k s):=A (by unfold typed;rw[ao J,ao J,ao J,aS eh]);clear e eh;go_wp2;refine(HYtjfkhpkicioakaaGreatDoor.o w1 b_ s H1.o gd.o).mono ?_;rintro e w2 ⟨t,s2,ey,mJ,rfl,lt,b1,b2,bC,bG,cf⟩;have X5:=A b1;have X6:=A (cJ.o.trans b2);have X7:=A bC;have X8:=A bG;have X9:=A cf;clear b1 b2 bC bG cf;go_wp2;go_returns;exact⟨t,s2,ey,mJ,rfl,lt,X5.o,X6.o,by rw[ba.o];exact X7.o,X8.o,X9.o⟩
 .obtain⟨dG,aR,q8⟩:=hV.o [8,16] (by rw[e];rfl) 0 aN;obtain⟨gq,G,e9⟩:=hV.o [8,16] (by rw[e];rfl) 1 aN;have q8:(Z L (Y x.I 0 0)).j'=8:=by simpa[ct] using q8
  have e9:(Z L (Y x.I 1 0)).j'=16:=by simpa[ct] using e9
  obtain⟨g2,rfl,cl⟩:=br.o.bM w1 0 H1.o.av dG;obtain⟨g3,iD,cu⟩:=br.o.bM w1 1 H1.o.av gq;cases iD;have uG:Hid (∀w',aL w0 w0 w'->aG w' g2=some [(x.I.getD 0 0:Int)]):=A λw' G=>by
   obtain⟨g3,iD,ah⟩:=br.o.bM w' 0 G dG;cases iD;exact ah
  have H:=fx H1.o gd.o (show typed L (bE L f) k s=(function L (bE L f) [] (Y x.I 0 0) (Y x.I 1 0) s).M λ_ s1=> .ok (B.O L (Y x.I 0 0)) s1 by
   unfold typed;rw[ao J,ao J,ao J,ao J,aS eh,kP.o,kP.o])
  have jd:Hid ((Z L k).j'≠36):=A (by rw[eh];decide);have⟨uc,tY⟩:(0:Int)<D x.I/\(1:Int)<D x.I:=J;clear e eh;generalize Y x.I 0 0=a0 at*;generalize Y x.I 1 0=a1 at*;have q7:a0<D E:=J;have H:=j5 H (aT _ _).drew;have Ro:=A (Wx V U nB dy none a0 a1 (λc h=>by cases h) ⟨aR,q8⟩ ⟨G,e9⟩ H1.o.drew gd.o);go_wp2;go_still_tail 9,cS
  change fo _ _ _ _ _ w1.drew;clear b' b9 bO cK c3 c4 cW cl cu;generalize w1.drew=bc at*;go_wp2;revert H;refine p1.use (er:=0) (λ_=>trivial) (g2:=0) aN Ro.o (λbS bA jy H=>?_);clear Ro;obtain⟨_,_,_,c4,cW⟩:=dx.o bS H.o.fr;obtain⟨b',_,_,_,_,_,b9⟩:=hA H;have cl:=uG.o bS H.o.av;go_wp2;go_still_tail 8,cS
  change fo _ _ _ _ _ bS.drew;have H:=j5 H (aT _ _).drew;clear c4 cW b' b9 cl;generalize bS.drew=bm at*;go_wp2;revert H;refine Lq V q7 (λb4 H=>?_);go_wp2;go_returns;exact ot jd.o (hg (V.o.short a0) aN) cJ H
 .have H:=fx H1.o gd.o (show typed L (bE L f) k s=(bl (decide (0<=c7 L 10 x.O)) 6 k [] s).M λ_ s=> .ok (42::x.O) s by
   unfold typed;rw[ao J,ao J,ao J,ao J,ao J,aS eh,br.o.Z];unfold bl;split<;>rfl)
  have jd:Hid ((Z L k).j'≠36):=A (by rw[eh];decide);have EB:(⟨#[42]⟩:ByteArray)++str x.O=str (42::x.O):=KA [42] x.O;have gE:(str x.O).size=D x.O:=js _;have H:=j5 H (aT _ _).drew;clear e eh;go_wp2;go_still_tail 6,cS
  change fo _ _ _ _ _ w1.drew;clear b' b9 bO cK c3 c4 cW;generalize w1.drew=bc at*;go_wp2;refine Lp V ?_ H;go_wp2;refine pB V U rfl (λbS jy H=>?_) H;obtain⟨_,_,c3,_,cW⟩:=dx.o bS H.o.fr;go_wp2;go_returns;exact ot jd.o (by rw[iq];omega) cJ H
 .obtain⟨dG,aR,q8⟩:=hV.o [0] (by rw[e];rfl) 0 aN;have q8:1<=(Z L (Y x.I 0 0)).j'/\(Z L (Y x.I 0 0)).j'<=6:=by simpa[ct] using q8
  obtain⟨g2,rfl,cl⟩:=br.o.bM w1 0 H1.o.av dG;have uG:Hid (∀w',aL w0 w0 w'->aG w' g2=some [(x.I.getD 0 0:Int)]):=A λw' G=>by
   obtain⟨g3,iD,ah⟩:=br.o.bM w' 0 G dG;cases iD;exact ah
  have H:=fx H1.o gd.o (show typed L (bE L f) k s=(bE L f .typ (Y x.I 0 0) s).M λ_ s1=>(bl (decide (x.aX<=8)) 11 k [] s1).M λ_ s2=> .ok (i_++B.O L (Y x.I 0 0)) s2 by
   unfold typed;rw[ao J,ao J,ao J,ao J,ao J,ao J,aS eh,br.o.Z,kP.o]
   congr 1
   funext _ s1
   unfold bl;split<;>rfl)
  have jd:Hid ((Z L k).j'≠36):=A (by rw[eh];decide);have uc:(0:Int)<D x.I:=J;clear e eh;generalize Y x.I 0 0=a0 at*;have q7:a0<D E:=J;go_wp2;revert H;refine Tj V nB ⟨aR,q7,q8⟩ (λw2 s2 ey H=>?_);clear b' b9 bO cK c3 c4 cW cl;obtain⟨_,cK,_,c4,cW⟩:=dx.o w2 H.o.fr;go_wp2;refine pB V U rfl (λbS jy H=>?_) H;clear cK c4 cW;obtain⟨_,cK,_,c4,cW⟩:=dx.o bS H.o.fr;obtain⟨b',_,_,_,_,_,b9⟩:=hA H;have cl:=uG.o bS H.o.av;go_wp2;go_still_tail 8,cS
  change fo _ _ _ _ _ bS.drew;have H:=j5 H (aT _ _).drew;clear cK c4 cW b' b9 cl;generalize bS.drew=bm at*;go_wp2;revert H;refine Lq V q7 (λb4 H=>?_);have EB:(⟨#[99,104,97,110,32]⟩:ByteArray)++str (B.O L a0)=str (i_++B.O L a0):=KA i_ _;have gE:(str (B.O L a0)).size=D (B.O L a0):=js _;have mK:=V.o.short a0;have rK:Hid (D (i_++B.O L a0)<=200000000000):=A (by rw[dW];have:D i_=5:=rfl;omega);generalize B.O L a0=cb at*;go_wp2;go_returns;exact ot jd.o rK.o cJ H
end
end Rk
end Go.Proofs.YtjfkhpkicioakaaGreatDoor
