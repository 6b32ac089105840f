/- PROVED HERE: what is told of a whole program by both; the law; the card. No condition. -/
import Derived.Test.YtjfkhpkicioakaaGreatDoorZLx1
import Derived.Test.YtjfkhpkicioakaaGreatDoorZCkM1
import Derived.Test.YtjfkhpkicioakaaGreatDoorZCkR4
import Derived.Test.YtjfkhpkicioakaaGreatDoorZP2
import Derived.StillTailTactics
import Derived.Test.YtjfkhpkicioakaaGreatDoorZP3
import Derived.Test.YtjfkhpkicioakaaGreatDoorZRs2
import Derived.Test.YtjfkhpkicioakaaGreatDoorZPs3
import Derived.Test.YtjfkhpkicioakaaGreatDoorZLx2
import Derived.Test.YtjfkhpkicioakaaGreatDoorZLxRef1
import Derived.Test.YtjfkhpkicioakaaGreatDoorTie
import Derived.Test.YtjfkhpkicioakaaGreatDoorCards
import Derived.Lay
import Derived.SevenTiedAt
import Derived.Shelf.Vars
set_option maxRecDepth 100000
set_option maxHeartbeats 60000000
set_option linter.all false
open ByteArray renaming empty->ke
open Go renaming Ending->e7,Value->af,World->ai,maxLen->dc,results->iX,wpList->fo
open Go.RowKit renaming Below->aL
open Go.World renaming alloc->aA,cell?->aG,setCell->a7
open List renaming getD->Y,length->D
open Go.Proofs.Tryz
namespace Go.Proofs.YtjfkhpkicioakaaGreatDoor
open Go.RowKit
section
open Rk (hD)
namespace Ck
def nN (S:ByteArray):Int×Int:=match lZ S with
 | .error x=>x
 | .ok _=>(0,0)
def p7 (S:ByteArray):List bz:=match lZ S with
 | .error _=>[]
 | .ok x=>x.1
def kB (S:ByteArray):List Int:=match lZ S with
 | .error _=>[]
 | .ok x=>x.2
end Ck
namespace Pk
open Ck
def RW{S w w' e}(h:Bn S w e w'):aL w w w'/\ ∃v,e= .returned (.tuple #[v,.agg #[.int .i64 (nN S).1,.int .i64 (nN S).2]])/\((nN S).1≠0->v= .pointer none/\p7 S=[]/\kB S=[])/\((nN S).1=0-> ∃p tp tv uv fv su s,v= .pointer (some ⟨p,0,none⟩)/\w'.heap[p]?=some (.cells (sQ tp tv uv fv su s) 49 (0,0))/\db w.heap.size w' tv (p7 S)/\hD w.heap.size w' uv (kB S)):=by
 obtain⟨G,h⟩:=h;refine⟨G,?_⟩;unfold nN p7 kB;cases hc:lZ S with
 |error x=>
  obtain⟨c,p⟩:=x;rw[hc] at h;exact⟨_,h,λ_=>⟨rfl,rfl,rfl⟩,λe=>absurd e (VH hc)⟩
 |ok x=>
  obtain⟨ts,us⟩:=x;rw[hc] at h;obtain⟨p,tp,tv,uv,fv,su,s,rfl,R,T,ah⟩:=h;exact⟨_,rfl,λe=>absurd rfl e,λ_=>⟨p,tp,tv,uv,fv,su,s,rfl,R,T,ah⟩⟩
def Xg(vU:Hid (zk 12))(V:Nat)(w:ai)(S:ByteArray)(hT:kF V w)(bY:V<=w.heap.size)(hm:S.size<=dc)(wV: ∃m,aG w ⟨4,0,none⟩=some (.int .i64 m)):
  aY 4 #[.string S] w λe w'=>(∃u,e= .returned (.tuple #[u,.agg #[.int .i64 (nN S).1,.int .i64 (nN S).2]])/\db w.heap.size w' u (p7 S))/\aL w w w':=by
 have bW:=A hT;have BS:=A wV;clear hT wV;obtain⟨c,qR⟩: ∃bp,(nN S).1=bp:=⟨_,rfl⟩;obtain⟨p,zX⟩: ∃bp,(nN S).2=bp:=⟨_,rfl⟩;rw[qR,zX];have zY:=A qR;have um:=A zX;clear qR zX;go_in;have Go:=0;go_wp2;have uo:=A (ek w (aw #[.int .i64 0,.int .i64 0] 25));have hj:aL w w (aA w (aw #[.int .i64 0,.int .i64 0] 25)):=(aT _ _).alloc (bD _) _;have e':(aA w (aw #[.int .i64 0,.int .i64 0] 25)).heap.size=w.heap.size+1:=by simp
 generalize(aA w (aw #[.int .i64 0,.int .i64 0] 25))=w0 at*;have lP:=A hj;clear hj;refine(Q4 vU V w0 S (bW.o.below lP.o bY) (by omega) hm (by
  obtain⟨m,h⟩:=BS.o;exact⟨m,(lP.o.cell (p:=⟨4,0,none⟩) (sF h)).trans h⟩)).mono ?_
 intro e w1 R;replace R:=RW R;rw[zY.o,um.o] at R;obtain⟨ck,v,rfl,nu,j1⟩:=R;clear bY zY um;have cJ:=A (ds uo.o ck (by omega));have c1:=A (lP.o.trans (ck.mono (by omega)));have e_:=ck.size;clear ck;have en:=A (hO cJ.o (aw #[.int .i64 c,.int .i64 p] 25));have fN:=A (ek w1 (aw #[.int .i64 c,.int .i64 p] 25));have cN:=A (c1.o.alloc (by omega) (aw #[.int .i64 c,.int .i64 p] 25));have HX:w.heap.size≠w1.heap.size:=by omega
 by_cases hc:c=0
 .obtain⟨pp,tp,tv,uv,fv,su,s,rfl,aJ,bI,hu⟩:=j1 hc;have e9:(c !=0)=false:=by simpa using hc
  have jk:=A (hO aJ (aw #[.int .i64 c,.int .i64 p] 25));have yi:=A (sD bI (aw #[.int .i64 c,.int .i64 p] 25));have Mi:w.heap.size<=w0.heap.size:=by omega
  clear hc j1 nu aJ bI hu;go_wp2;generalize(aA w1 (aw #[.int .i64 c,.int .i64 p] 25))=w2 at*;have g0:=az fN.o 0;have g1:=az fN.o 1;have ft:=bd fN.o;simp only[cO,cQ,c8] at g0 g1;have vn:=az jk.o 1;have gV:=bd jk.o;replace vn:w2.cell? ⟨pp,1,none⟩=some tv:=vn;go_still_tail 6,(by kernel_rfl)
  change fo _ _ _ _ _ w2.drew;clear g0 g1 ft vn gV;have fj:Hid (w2.drew.heap[w.heap.size]?=some (.cells #[.int .i64 0,.int .i64 0] 25 (0,0))):=en;have fu:=A cN.o.drew;have D8:Hid (db w0.heap.size w2.drew tv (p7 S)):=yi;generalize w2.drew=bc at*;clear en fN cN yi;have oY:=cX fj.o 0;have oZ:=cX fj.o 1;have f0:=az fj.o 0;have f1:=az fj.o 1;have jQ:=bd fj.o;simp only[cO,cQ,c8] at f0 f1;have gA:=A (Rk.sO fj.o (.int .i64 c) (.int .i64 p));have cu:=az gA.o.1 0;have k2:=az gA.o.1 1;have pe:=bd gA.o.1;simp only[cO,cQ,c8] at cu k2;have dn:=A (fu.o.trans (gA.o.2.1 w.heap.size (bD _)));have Mj:=A (qE (gA.o.2.2 _ _ _ _ _ _ (by decide) D8.o) Mi);go_wp2;generalize(a7 (a7 bc ⟨w.heap.size,0,none⟩ (.int .i64 c)) ⟨w.heap.size,1,none⟩ (.int .i64 p))=bm at*;refine oK (v:= .tuple #[tv,.agg #[.int .i64 c,.int .i64 p]]) (by simp[iX,results4,go_sem,cu,k2]) rfl ?_;exact⟨⟨_,rfl,Mj.o⟩,dn.o⟩
 .obtain⟨rfl,ag,aE⟩:=nu hc;have e9:(c !=0)=true:=by simpa using hc
  have ba:=A ag;clear hc j1 nu ag aE;go_wp2;generalize(aA w1 (aw #[.int .i64 c,.int .i64 p] 25))=w2 at*;have g0:=az fN.o 0;have g1:=az fN.o 1;have ft:=bd fN.o;simp only[cO,cQ,c8] at g0 g1;go_still_tail 2,(by kernel_rfl)
  change fo _ _ _ _ _ w2.drew;clear g0 g1 ft;have fj:Hid (w2.drew.heap[w.heap.size]?=some (.cells #[.int .i64 0,.int .i64 0] 25 (0,0))):=en;have fu:=A cN.o.drew;generalize w2.drew=bc at*;clear en fN cN;have oY:=cX fj.o 0;have oZ:=cX fj.o 1;have f0:=az fj.o 0;have f1:=az fj.o 1;have jQ:=bd fj.o;simp only[cO,cQ,c8] at f0 f1;have gA:=A (Rk.sO fj.o (.int .i64 c) (.int .i64 p));have cu:=az gA.o.1 0;have k2:=az gA.o.1 1;have pe:=bd gA.o.1;simp only[cO,cQ,c8] at cu k2;have dn:=A (fu.o.trans (gA.o.2.1 w.heap.size (bD _)));go_wp2;generalize(a7 (a7 bc ⟨w.heap.size,0,none⟩ (.int .i64 c)) ⟨w.heap.size,1,none⟩ (.int .i64 p))=bm at*;refine oK (v:= .tuple #[.slice none 0 0,.agg #[.int .i64 c,.int .i64 p]]) (by simp[iX,results4,go_sem,cu,k2]) rfl ?_;exact⟨⟨_,rfl,by rw[ba.o];exact n7 _ _ _ _⟩,dn.o⟩
def X1(vU:Hid (zk 12))(V:Nat)(w:ai)(S:ByteArray)(hT:kF V w)(bY:V<=w.heap.size)(hm:S.size<=dc)(wV: ∃m,aG w ⟨4,0,none⟩=some (.int .i64 m)):
  aY 5 #[.string S] w λe w'=>(∃u,e= .returned (.tuple #[u,.agg #[.int .i64 (nN S).1,.int .i64 (nN S).2]])/\hD w.heap.size w' u (kB S))/\aL w w w':=by
 have bW:=A hT;have BS:=A wV;clear hT wV;obtain⟨c,qR⟩: ∃bp,(nN S).1=bp:=⟨_,rfl⟩;obtain⟨p,zX⟩: ∃bp,(nN S).2=bp:=⟨_,rfl⟩;rw[qR,zX];have zY:=A qR;have um:=A zX;clear qR zX;go_in;have Go:=0;go_wp2;have uo:=A (ek w (aw #[.int .i64 0,.int .i64 0] 25));have hj:aL w w (aA w (aw #[.int .i64 0,.int .i64 0] 25)):=(aT _ _).alloc (bD _) _;have e':(aA w (aw #[.int .i64 0,.int .i64 0] 25)).heap.size=w.heap.size+1:=by simp
 generalize(aA w (aw #[.int .i64 0,.int .i64 0] 25))=w0 at*;have lP:=A hj;clear hj;refine(Q4 vU V w0 S (bW.o.below lP.o bY) (by omega) hm (by
  obtain⟨m,h⟩:=BS.o;exact⟨m,(lP.o.cell (p:=⟨4,0,none⟩) (sF h)).trans h⟩)).mono ?_
 intro e w1 R;replace R:=RW R;rw[zY.o,um.o] at R;obtain⟨ck,v,rfl,nu,j1⟩:=R;clear bY zY um;have cJ:=A (ds uo.o ck (by omega));have c1:=A (lP.o.trans (ck.mono (by omega)));have e_:=ck.size;clear ck;have en:=A (hO cJ.o (aw #[.int .i64 c,.int .i64 p] 25));have fN:=A (ek w1 (aw #[.int .i64 c,.int .i64 p] 25));have cN:=A (c1.o.alloc (by omega) (aw #[.int .i64 c,.int .i64 p] 25));have HX:w.heap.size≠w1.heap.size:=by omega
 by_cases hc:c=0
 .obtain⟨pp,tp,tv,uv,fv,su,s,rfl,aJ,bI,hu⟩:=j1 hc;have e9:(c !=0)=false:=by simpa using hc
  have jk:=A (hO aJ (aw #[.int .i64 c,.int .i64 p] 25));have yi:=A (sD hu (aw #[.int .i64 c,.int .i64 p] 25));have Mi:w.heap.size<=w0.heap.size:=by omega
  clear hc j1 nu aJ bI hu;go_wp2;generalize(aA w1 (aw #[.int .i64 c,.int .i64 p] 25))=w2 at*;have g0:=az fN.o 0;have g1:=az fN.o 1;have ft:=bd fN.o;simp only[cO,cQ,c8] at g0 g1;have vn:=az jk.o 2;have gV:=bd jk.o;replace vn:w2.cell? ⟨pp,2,none⟩=some uv:=vn;go_still_tail 6,(by kernel_rfl)
  change fo _ _ _ _ _ w2.drew;clear g0 g1 ft vn gV;have fj:Hid (w2.drew.heap[w.heap.size]?=some (.cells #[.int .i64 0,.int .i64 0] 25 (0,0))):=en;have fu:=A cN.o.drew;have D8:Hid (hD w0.heap.size w2.drew uv (kB S)):=yi;generalize w2.drew=bc at*;clear en fN cN yi;have oY:=cX fj.o 0;have oZ:=cX fj.o 1;have f0:=az fj.o 0;have f1:=az fj.o 1;have jQ:=bd fj.o;simp only[cO,cQ,c8] at f0 f1;have gA:=A (Rk.sO fj.o (.int .i64 c) (.int .i64 p));have cu:=az gA.o.1 0;have k2:=az gA.o.1 1;have pe:=bd gA.o.1;simp only[cO,cQ,c8] at cu k2;have dn:=A (fu.o.trans (gA.o.2.1 w.heap.size (bD _)));have Mj:=A (qE (gA.o.2.2 _ _ _ _ _ _ (by decide) D8.o) Mi);go_wp2;generalize(a7 (a7 bc ⟨w.heap.size,0,none⟩ (.int .i64 c)) ⟨w.heap.size,1,none⟩ (.int .i64 p))=bm at*;refine oK (v:= .tuple #[uv,.agg #[.int .i64 c,.int .i64 p]]) (by simp[iX,results5,go_sem,cu,k2]) rfl ?_;exact⟨⟨_,rfl,Mj.o⟩,dn.o⟩
 .obtain⟨rfl,ag,aE⟩:=nu hc;have e9:(c !=0)=true:=by simpa using hc
  have ba:=A aE;clear hc j1 nu ag aE;go_wp2;generalize(aA w1 (aw #[.int .i64 c,.int .i64 p] 25))=w2 at*;have g0:=az fN.o 0;have g1:=az fN.o 1;have ft:=bd fN.o;simp only[cO,cQ,c8] at g0 g1;go_still_tail 2,(by kernel_rfl)
  change fo _ _ _ _ _ w2.drew;clear g0 g1 ft;have fj:Hid (w2.drew.heap[w.heap.size]?=some (.cells #[.int .i64 0,.int .i64 0] 25 (0,0))):=en;have fu:=A cN.o.drew;generalize w2.drew=bc at*;clear en fN cN;have oY:=cX fj.o 0;have oZ:=cX fj.o 1;have f0:=az fj.o 0;have f1:=az fj.o 1;have jQ:=bd fj.o;simp only[cO,cQ,c8] at f0 f1;have gA:=A (Rk.sO fj.o (.int .i64 c) (.int .i64 p));have cu:=az gA.o.1 0;have k2:=az gA.o.1 1;have pe:=bd gA.o.1;simp only[cO,cQ,c8] at cu k2;have dn:=A (fu.o.trans (gA.o.2.1 w.heap.size (bD _)));go_wp2;generalize(a7 (a7 bc ⟨w.heap.size,0,none⟩ (.int .i64 c)) ⟨w.heap.size,1,none⟩ (.int .i64 p))=bm at*;refine oK (v:= .tuple #[.slice none 0 0,.agg #[.int .i64 c,.int .i64 p]]) (by simp[iX,results5,go_sem,cu,k2]) rfl ?_;exact⟨⟨_,rfl,by rw[ba.o];exact n7 _ _ _ _⟩,dn.o⟩
end Pk
end
section
open Ck
open Rk (hD)
namespace Rk
def aez{S:ByteArray}{w w':ai}{e:e7}(h:Lt S w e w'):aL w w w'/\ ∃v,e= .returned (.tuple #[v,.agg #[.int .i64 (nN S).1,.int .i64 (nN S).2]])/\((nN S).1=0-> ∃p nv tv uv b_ s fl,v= .pointer (some ⟨p,0,none⟩)/\w'.heap[p]?=some (.cells (rk nv tv uv b_ s fl) 38 (0,0))/\db w.heap.size w' tv (p7 S)/\hD w.heap.size w' uv (kB S)):=by
 obtain⟨G,h⟩:=h;refine⟨G,?_⟩;unfold nN p7 kB;cases hc:lZ S with
 |error x=>
  obtain⟨c,p⟩:=x;rw[hc] at h;exact⟨_,h,λe=>absurd e (VH hc)⟩
 |ok x=>
  obtain⟨ts,us⟩:=x;rw[hc] at h;obtain⟨p,nv,tv,uv,b_,s,fl,rfl,R,T,ah⟩:=h;exact⟨_,rfl,λ_=>⟨p,nv,tv,uv,b_,s,fl,rfl,R,T,ah⟩⟩
def Q3{N w g n cap l u}(h:hD N w u l)(hu:u= .slice (some ⟨g,0,none⟩) n cap){k}(U:k<D l):aG w ⟨g,k,none⟩=some (.int .i64 (Y l k 0)):=by
 have T:w.ownsRow N 3 1 u (D l) (l.map (Value.int .i64)):=h;subst hu;have ax:n=D l:=by
  obtain⟨aH,_⟩|⟨h5,ka,cur,hu,_⟩:=T.2
  .cases aH
  .cases hu;rfl
 subst ax;have c:=tH T k J;rw[c,lW,cd,cE U];rfl
end Rk
def ajZ{S}(h:(nN S).1≠0):p7 S=[]/\kB S=[]:=by
 unfold nN at h;unfold p7 kB;cases hc:lZ S with
 |error x=>exact⟨rfl,rfl⟩
 |ok x=>rw[hc] at h;exact absurd rfl h
def P2{w w'}(h:kF w.heap.size w)(G:aL w w w'):kF w.heap.size w':=h.below G (bD _)
def Xf(vU:Hid (zk 12))(Y_:Hid (zk 9))(w:ai)(S:ByteArray)(hT:kF w.heap.size w)(hm:S.size<=dc)(wV: ∃m,aG w ⟨4,0,none⟩=some (.int .i64 m)):
  aY 3 #[.string S] w λe w'=>e= .returned (.bool true)/\aL w w w':=by
 have bW:=A hT;obtain⟨c,hc⟩: ∃c,(nN S).1=c:=⟨_,rfl⟩;obtain⟨p,aJ⟩: ∃p,(nN S).2=p:=⟨_,rfl⟩;have br:Hid (∀w',aL w.heap.size w w'-> ∃m,aG w' ⟨4,0,none⟩=some (.int .i64 m)):=A λw' G=>by
  obtain⟨m,h⟩:=wV;exact⟨m,(G.cell (p:=⟨4,0,none⟩) (sF h)).trans h⟩
 have cz:Hid (∀w',aL w.heap.size w w'->aY 4 #[.string S] w' λe w2=>(∃u,e= .returned (.tuple #[u,.agg #[.int .i64 c,.int .i64 p]])/\db w'.heap.size w2 u (p7 S))/\aL w'.heap.size w' w2):=A λw' G=>by
  rw[<-hc,<-aJ];exact Pk.Xg vU w.heap.size w' S (P2 bW.o G) G.size hm (br.o w' G)
 have ia:Hid (∀w',aL w.heap.size w w'->aY 5 #[.string S] w' λe w2=>(∃u,e= .returned (.tuple #[u,.agg #[.int .i64 c,.int .i64 p]])/\hD w'.heap.size w2 u (kB S))/\aL w'.heap.size w' w2):=A λw' G=>by
  rw[<-hc,<-aJ];exact Pk.X1 vU w.heap.size w' S (P2 bW.o G) G.size hm (br.o w' G)
 have eX:Hid (∀w',aL w.heap.size w w'->aY 6 #[.string S] w' λe w2=>aL w'.heap.size w' w2/\ ∃v,e= .returned (.tuple #[v,.agg #[.int .i64 c,.int .i64 p]])/\(c=0-> ∃p nv tv uv b_ s fl,v= .pointer (some ⟨p,0,none⟩)/\w2.heap[p]?=some (.cells (Rk.rk nv tv uv b_ s fl) 38 (0,0))/\db w'.heap.size w2 tv (p7 S)/\hD w'.heap.size w2 uv (kB S))):=A λw' G=>by
  rw[<-hc,<-aJ];exact(Rk.abn Y_ w.heap.size w' S (P2 bW.o G) G.size hm).mono λe w2 h=>Rk.aez h
 have qO:Hid (c≠0->p7 S=[]/\kB S=[]):=A λh=>ajZ (by rw[hc];exact h);clear hT;go_enter func3,ntmps3;have Go:=0;go_wp2;refine(cz.o _ (aT _ _)).mono ?_;rintro e w1 ⟨⟨pn,rfl,D3⟩,ck⟩;have c1:=A (ck.alloc ck.size (aw #[.int .i64 c,.int .i64 p] 25));have vs:Hid (db w.heap.size (aA w1 (aw #[.int .i64 c,.int .i64 p] 25)) pn (p7 S)):=A (sD D3 _);have cJ:=A (ek w1 (aw #[.int .i64 c,.int .i64 p] 25));obtain⟨c9,qP⟩: ∃q,w1.heap.size=q:=⟨_,rfl⟩;rw[qP] at cJ;clear ck;go_wp2;generalize(aA w1 (aw #[.int .i64 c,.int .i64 p] 25))=w2 at*;refine(ia.o _ c1.o).mono ?_;rintro e bc ⟨⟨rH,rfl,jH⟩,e0⟩;have fu:=A ((c1.o.trans (e0.mono c1.o.size)).alloc (hg c1.o.size e0.size) (aw #[.int .i64 c,.int .i64 p] 25));have yi:Hid (hD w.heap.size (aA bc (aw #[.int .i64 c,.int .i64 p] 25)) rH (kB S)):=A (sD (qE jH c1.o.size) _);have Si:Hid (db w.heap.size (aA bc (aw #[.int .i64 c,.int .i64 p] 25)) pn (p7 S)):=A (sD (fZ vs.o e0 λk U=>(eI vs.o k U).2) _);have Sj:=A (hO (ds cJ.o e0 (bd cJ.o)) (aw #[.int .i64 c,.int .i64 p] 25));have en:=A (ek bc (aw #[.int .i64 c,.int .i64 p] 25));obtain⟨cw,s9⟩: ∃q,bc.heap.size=q:=⟨_,rfl⟩;rw[s9] at en;clear jH;go_wp2;generalize(aA bc (aw #[.int .i64 c,.int .i64 p] 25))=bS at*;refine(eX.o _ fu.o).mono ?_;rintro e bm ⟨dh,v,rfl,j1⟩;have dn:=A ((fu.o.trans (dh.mono fu.o.size)).alloc (hg fu.o.size dh.size) (aw #[.int .i64 c,.int .i64 p] 25));have Dy:Hid (hD w.heap.size (aA bm (aw #[.int .i64 c,.int .i64 p] 25)) rH (kB S)):=A (sD (fZ yi.o dh λk U=>(eI yi.o k U).2) _);have vs:Hid (db w.heap.size (aA bm (aw #[.int .i64 c,.int .i64 p] 25)) pn (p7 S)):=A (sD (fZ Si.o dh λk U=>(eI Si.o k U).2) _);have cJ:=A (hO (ds Sj.o dh (bd Sj.o)) (aw #[.int .i64 c,.int .i64 p] 25));have Tb:=A (hO (ds en.o dh (bd en.o)) (aw #[.int .i64 c,.int .i64 p] 25));have fj:=A (ek bm (aw #[.int .i64 c,.int .i64 p] 25));have acT:c=0-> ∃tX nv tv uv b_ s fl,v= .pointer (some ⟨tX,0,none⟩)/\(aA bm (aw #[.int .i64 c,.int .i64 p] 25)).heap[tX]?=some (.cells (Rk.rk nv tv uv b_ s fl) 38 (0,0))/\db 0 (aA bm (aw #[.int .i64 c,.int .i64 p] 25)) tv (p7 S)/\hD 0 (aA bm (aw #[.int .i64 c,.int .i64 p] 25)) uv (kB S):=λh=>by
  obtain⟨tX,nv,tv,uv,b_,s,fl,ag,aE,bU,cL⟩:=j1 h;exact⟨tX,nv,tv,uv,b_,s,fl,ag,hO aE _,sD (qE bU (gp _)) _,sD (qE cL (gp _)) _⟩
 obtain⟨da,pG⟩: ∃q,bm.heap.size=q:=⟨_,rfl⟩;rw[pG] at fj;obtain⟨a1,bq,rfl⟩:=eR vs.o rfl;obtain⟨a2,cK,rfl⟩:=eR Dy.o rfl;go_upto_region 4 with fail
 generalize(aA bm (aw #[.int .i64 c,.int .i64 p] 25))=b4 at*;have pK:=az cJ.o 0;have kQ:=az cJ.o 1;have s0:=az Tb.o 0;have s1:=az Tb.o 1;have t0:=az fj.o 0;have t1:=az fj.o 1;simp only[cO,cQ,c8] at pK kQ s0 s1 t0 t1;by_cases hc:c=0
 .have e9:(c !=0)=false:=by simpa using hc
  obtain⟨tX,nv,tv,uv,b_,s,fl,rfl,tb,wP,jH⟩:=acT hc;obtain⟨a3,c3,rfl⟩:=eR wP rfl;obtain⟨a4,c4,rfl⟩:=eR jH rfl;have vn:=az tb 1;have Hr:=az tb 2;have pl:=bd tb;replace vn:aG b4 ⟨tX,1,none⟩=some (.slice a3 (D (p7 S)) c3):=vn;replace Hr:aG b4 ⟨tX,2,none⟩=some (.slice a4 (D (kB S)) c4):=Hr;have te:=A wP;have iN:=A jH;have jk:=A tb;clear wP jH tb;go_wp2;refine b7 (X2 vs.o te.o) ?_;rintro b3 ⟨F8,rfl⟩;have Mh:Hid (aL b4.heap.size b4 (b4.drewN F8)):=A (rh (aT _ _) F8);have Hr:=(Mh.o.cell (p:=⟨tX,2,none⟩) pl).trans Hr;generalize b4.drewN F8=b3 at*;have pl:tX<b3.heap.size:=kv pl Mh.o.size;go_wp2;go_loopg[10] (D (kB S)) (λr i wr=> ∃k:Nat,k+r=D (kB S)/\i= .int .i64 (k:Int)/\Hid (aL b4.heap.size b4 wr))
  case atStart=>exact⟨0,by omega,rfl,Mh⟩
  case round=>
   obtain⟨k,U,rfl,yq⟩:=hrel;generalize wr=gN at*;by_cases uk:k<D (kB S)
   .have⟨hv,hi⟩:(k:Int)<(D (kB S):Int)/\(0:Int)<=k:=J;have nP:D (kB S)<=dc:=wu Dy.o;have hK:IntKind.i64.wrap (k+1)=k+1:=dI _ (by unfold dc at nP;omega);obtain⟨g2,_,hF⟩:=dR Dy.o J;cases hF;obtain⟨g4,_,ai3⟩:=dR iN.o J;cases ai3;have dX:Hid (∀w',aL b4.heap.size b4 w'->True->aG w' ⟨g2,k,none⟩=some (.int .i64 (Y (kB S) k 0))/\aG w' ⟨g4,k,none⟩=some (.int .i64 (Y (kB S) k 0))/\aG w' ⟨tX,2,none⟩=some (.slice (some ⟨g4,0,none⟩) (D (kB S)) c4)):=A λw' G _=>by
     have T:hD w.heap.size w' _ (kB S):=fZ Dy.o G λk U=>(eI Dy.o k U).2;have bJ:hD 0 w' _ (kB S):=fZ iN.o G λk U=>(eI iN.o k U).2;exact⟨Rk.Q3 T rfl uk,Rk.Q3 bJ rfl uk,az (ds jk.o G (bd jk.o)) 2⟩
    generalize(kB S).getD k 0=d at*;go_wp2;have kJ:aL gN.heap.size gN gN.drew:=(aT _ _).drew;have tg:=A (yq.o.trans (kJ.mono yq.o.size));refine jz 12 dX tg.o trivial λaD=>?_;generalize gN.drew=cp at*;refine ae 0 ?_;refine ae 1 ?_;refine ae 2 ?_;refine ae 3 ?_;refine ae 4 ?_;refine ae 5 ?_;refine ae 6 ?_;refine ae 7 ?_;refine ae 8 ?_;refine ae 9 ?_;refine ae 10 ?_;refine ae 11 ?_;refine bV ?_;go_wp2;go_roundg (D (kB S)-(k+1))
    case rel=>exact⟨k+1,by omega,by go_num,tg⟩
    case measure=>omega
   .obtain rfl:k=D (kB S):=J;go_wp2;go_returns;exact⟨rfl,dn.o.trans (yq.o.mono dn.o.size)⟩
 .have e9:(c !=0)=true:=by simpa using hc
  obtain⟨ag,aE⟩:=qO.o hc;rw[ag,aE];go_wp2;go_returns;exact⟨rfl,dn.o⟩
end
namespace ChecksP
open Go.ChangeShapes Go.WideShapes Go.ChangeAt Go.ChangeMaps Go.RowKit Go.Lib
def abk:Hid (∀(V:Nat) (w:ai) (S:ByteArray),kF V w->V<=w.heap.size->aY 17 #[S] w (vc S w)):=A (λV w S hT bY=>ZL V w S hT bY)
def aeS:Hid (∀X S,gg X S 28 lk (iT X B.fuel)):=A (λX S=>WS B.fuel aN)
def aeT:Hid (∀X S,il.gg X S 18 lk (il.iT X (B.fuel+4))):=A (λX S=>il.WT (B.fuel+4) aN)
def ZM:Hid (zk 12):=A (λV w S hT bY hm=>XY aeS V w S hT bY hm)
def Zw:Hid (zk 9):=A (λV w S hT bY _=>il.XZ abk aeT V w S hT bY)
def handed{H}{enc:TypeId×af->H}{a C os f fn s conds apart fresh handsOn again}{X:ai->Array af->Prop}(cg: ∀(w w':ai) (args:Array af),w.heap=w'.heap->X w args->X w' args)
 (own:ownKnob C.prog.godebug=none)(started:os.Started)(aey:C.prog.inits.idxOf? f=none)(vw:C.prog.funcs[f]?=some fn)
 (witness: ∃(w:ai) (tape:Tape) (i:Input),w.os=os/\(w.forCall tape i).Shaped C.prog/\i.vars=[]/\Input.okWide C.prog (w.forCall tape i) .any w.heap.size f i/\
   ((s.pre enc C.prog fn conds apart (w.forCall tape i).memory i.args/\X (w.forCall tape i).memory i.args)/\sizedMet enc C.prog fn (OpenSpec.ofChange s) apart (w.forCall tape i).memory i.args)/\a.holds C.prog (lone (Frame.enter C.prog f i.args .normal) [] (w.forCall tape i)))
 (abl: ∀(dC:ai) (base:Nat) (args:Array af) (nm gs:List (DataW H)) (before:List MemPlace),
   (∀(j:Nat) t v,fn.params[j]?=some t->args[j]?=some v->Value.okWide C.prog dC .any base t v)->
   DataW.Whole enc C.prog fn.params.toList s.vars apart dC args.toList nm gs before->X dC args->dC.ShapedOpen C.prog->
   Calls C.prog f args dC λe nH=> ∃v,e= .returned v/\s.post enc C.prog fn apart fresh handsOn again dC args v nH):
  ReturnsInHanded a C os f .any (λw args=>(s.pre enc C.prog fn conds apart w args/\X w args)/\sizedMet enc C.prog fn (OpenSpec.ofChange s) apart w args) (s.post enc C.prog fn apart fresh handsOn again):=by refine returnsInHanded_of_calls own started aey witness λw tape i _ Mg _ j1 pA _=>?_;obtain⟨_,_,_,ah4,af7,_,_,_,_,G9⟩:=j1;obtain rfl:ah4=fn:=gZ (af7.symm.trans vw);obtain⟨⟨⟨nm,gs,before,hw,_⟩,aF⟩,_⟩:=pA;refine(abl (w.forCall tape i) w.heap.size i.args nm gs before G9 (DataW.Whole.of_heap (w':=w.forCall tape i) (by rfl) hw) (cg _ _ _ (by rfl) aF) Mg).mono λe nH ⟨v,he,aJ⟩=>?_;subst he;exact ChangeSpec.post_blind aJ
def lifted(os:Os)(started:os.Started)(H:Type)(enc:TypeId×af->H):
  ReturnsInHanded {} checked os 3 .any (λw args=>(Rows.checkTellsSpec.pre enc prog f3 [] false w args/\laidMetH prog Rows.checkTellsRow.laid w)/\sizedMet enc prog f3 (OpenSpec.ofChange Rows.checkTellsSpec) false w args)
   (Rows.checkTellsSpec.post enc prog f3 false true false false):=by
 refine handed (C:=checked) (X:=λw _=>laidMetH prog Rows.checkTellsRow.laid w) (λ_ _ _ hJ h=>h.of_heap hJ) Tryz.own started cS func3
  (ChangeSpec.witness_shaped (enc:=enc) (C:=checked) (os:=os) (X:=λw _=>laidMetH prog Rows.checkTellsRow.laid w) false (World.laidAll prog os Rows.checkTellsRow.laid) #[ke] 8 (World.laidAll_os _ _ _)
   (World.shaped_of_ZipB cS cS) cS cS cS
   (by rw[MakeChecks.laidMetH_plain _ _ _ cS];exact laidMet_laidAll _ cS cS)) ?_
 intro dC base args nm gs before aeU ve h8 Mg;have G9: ∀(j:Nat) t v,f3.params[j]?=some t->args[j]?=some v->Value.okWide prog dC .any base t v:=aeU;have aiJ:=ve;obtain⟨p,q,fU,wm,rfl,_,_⟩:=ve;have ev:DataW.TrodAll enc prog dC 0 (λ_=>true) true f3.params.toList args.toList nm p:=fU;rw[params3] at ev G9;obtain⟨v0,d0,rfl,rfl,aH⟩:=trodAll_one ev;obtain⟨rfl,rfl⟩:=trodVars_none wm;obtain⟨S,rfl,rfl,rfl,ws⟩:=open_string underlying9 (G9 0 9 v0 rfl rfl) aH;rw[MakeChecks.laidMetH_plain _ _ _ cS] at h8;have hT:kF dC.heap.size dC:=ak9 (Lib.laidMet.reads h8 (by simp[Rows.checkTellsRow])) (Lib.laidMet.reads h8 (by simp[Rows.checkTellsRow])) (Lib.laidMet.reads h8 (by simp[Rows.checkTellsRow]));refine(Xf ZM Zw dC S hT ws (cell_of_shapedOpen_int (P:=prog) (g:=4) (t:=3) (zero:= #[(0:Int)]) Mg (of_decide_eq_true cS) cS rfl cS cS underlying3)).mono λe nH ⟨he,G⟩=>?_;subst he;exact⟨_,rfl,abm rfl aiJ (by
  rw[params3];intro t h;obtain rfl:t=9:=by simpa using h
  exact⟨by kernel_rfl,of_decide_eq_true cS⟩) cS rfl G⟩
def holds:Rows.CheckTellsSaid:=
 OpenClaim.holds_of_wide 3 f3 rfl rfl rfl rfl rfl rfl rfl ⟨rfl,rfl,rfl,rfl,rfl⟩ rfl rfl rfl rfl rfl cS func3 X0
  (of_decide_eq_true cS) (by unfold Func.isWrapper;first|(rw[aS (by decide+kernel)];kernel_rfl)|(rw[ao (by decide+kernel)];exact⟨rfl,rfl⟩))
  (λos started H enc _=>lifted os started H enc)
theorem proved:Rows.CheckTellsCardSaid:=
 Claim7.holds_tied_plain_at .later [] [.data,.data,.data,.data,.sentinel,.sentinel,.listed,.data,.pinned] true (true,"4523e5360baa06a2dac442ed5e6d87011bd6a9a333410a4b555e9cc9cf4b0f25") true holds (λ_ h=>by cases h) cS (λ_ h=>by cases h) checkTells_row_tie rfl ⟨rfl,rfl⟩ cS rfl
  (λf fn aI vw=>by
   obtain rfl:f=3:=gZ ((show prog.funcNamed "ravel/ravellaw.CheckTells" =some 3 by kernel_rfl).symm.trans aI)|>.symm
   obtain rfl:fn=f3:=(gZ (func3.symm.trans vw)).symm;exact⟨by kernel_rfl,λj t bI=>by
    rw[params3] at bI;have hm:t∈[9]:=(by simpa using Array.mem_of_getElem? bI);have Dx:([9].all λu=>!prog.wantsStandIn u)=true:=cS;exact(show prog.wantsStandIn t=false by simpa using List.all_eq_true.1 Dx t hm)⟩)
  cS
#print axioms proved
end ChecksP
end Go.Proofs.YtjfkhpkicioakaaGreatDoor
