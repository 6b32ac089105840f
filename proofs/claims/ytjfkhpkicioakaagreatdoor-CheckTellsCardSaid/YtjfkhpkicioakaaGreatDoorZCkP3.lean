/- PROVED HERE: the checker of the program, walked. No condition. -/
import Derived.Test.YtjfkhpkicioakaaGreatDoorZLx1
import Derived.Test.YtjfkhpkicioakaaGreatDoorZCkP2
import Derived.Test.YtjfkhpkicioakaaGreatDoorZCkP1
import Derived.Test.YtjfkhpkicioakaaGreatDoorZCkR2
import Derived.Test.YtjfkhpkicioakaaGreatDoorZCkR3
set_option maxRecDepth 100000
set_option maxHeartbeats 60000000
set_option linter.all false
open Go renaming Ending->e7,Value->af,World->ai,maxLen->dc,results->iX,wpList->fo,wp_region_noPanic->Br
open Go.Instr renaming lookup->vz
open Go.Proofs.Tryz renaming underlying44->rO,zeroValue3->rP
open Go.RowKit renaming Below->aL
open Go.World renaming alloc->aA,cell?->aG,setCell->a7
open List renaming getD->Y,length->D,replicate->ef
open Option.some renaming injEq->Kr
open Go.Proofs.YtjfkhpkicioakaaGreatDoor.B hiding f' fail i' i_ ja name named typed
open Go.Proofs.Tryz
namespace Go.Proofs.YtjfkhpkicioakaaGreatDoor
open Go.RowKit
section
open Go.RowKit Go.Shelf
namespace Pk
open Ck
open Rk (hD kq px)
attribute [local go_sem] Oper.semAt_some
def Ps{b w w'}(h:aL w.heap.size w w'):KeepsFrom b w w':=⟨h.size,λk o _ U _=>(h.block k (Array.getElem?_eq_some_iff.1 U).1).trans U⟩
def F7{n q i bP V}(h:aL n bP V)(a_:q<n)(u){c t}(hc:bP.heap[q]?=some (.cells c t (0,0))):aL n (bP.setCell ⟨q,i,none⟩ u) (V.setCell ⟨q,i,none⟩ u):=by
 have hs:=(aT bP bP).setCell (p:=⟨q,i,none⟩);refine⟨h.os,h.tape,h.output,by simpa using h.size,λk U=>?_⟩;by_cases e:k=q
 .subst e;rw[et hc,et ((h.block k U).trans hc)]
 .rw[fK rfl e,fK rfl e];exact h.block k U
def Se{L E cG w0 p tp tv uv fv nv su sb w s}(V:Hid (gY L E cG w0 tp fv nv))(h:dz L w0 p tp tv uv fv w su sb s)(aH:0<D E): ∃g c,uv= .slice (some ⟨g,0,none⟩) (D E) c:=by have jG:D L=D E:=V.o.pF;obtain⟨g,c,e⟩:=dR h.us (by rw[h.rw.us,jG];exact aH);rw[show D s.eJ=D E from h.rw.us.trans jG] at e;exact⟨g,c,e⟩
def Sf{L E cG w0 p tp tv uv fv nv su sb w s}(V:Hid (gY L E cG w0 tp fv nv))(h:dz L w0 p tp tv uv fv w su sb s)(aH:0<D E): ∃g c,tv= .slice (some ⟨g,0,none⟩) (D E) c:=by have jG:D L=D E:=V.o.pF;obtain⟨g,c,e⟩:=dR h.ty (by rw[h.rw.ty,jG];exact aH);rw[show D s.types=D E from h.rw.ty.trans jG] at e;exact⟨g,c,e⟩
def KH{N fR n g m c:Nat}{w:ai}{cs:List af}(h:w.ownsRow N fR 1 (g,m,c) n cs): ∃q t,w.heap[g]?=some (.cells q t (0,0)):=by
 obtain⟨aH,_⟩|⟨h5,ka,cur,hu,hN,G,_⟩:=h.2
 .cases aH
 .cases hu;exact⟨_,_,G⟩
abbrev tu (sb:List Nat):={x:Nat×Nat//sb[x.1]?=some x.2}
def Hl (sc:List (List (bz×Nat)))(eG:bz){sb:List Nat}(pre:List (tu sb)):Prop:= ∀y∈pre,((Y sc y.1.1 []).any λe=>e.1==eG)=false
def Ts {sb:List Nat}(x:tu sb):Array af:= #[x.1.1,.map (some x.1.2)]
def Ih (sb:List Nat)(aZ:sb≠[])(j:Nat):tu sb:=⟨FL sb j,by
 have:=List.length_pos_iff.2 aZ;unfold FL;rw[cE J];rfl⟩
def QR(x): ∀m:List (bz×Nat),(m.map (·.1)).Nodup->m.reverse.find? (λe=>e.1==x)=m.find? (λe=>e.1==x)
 |[],_=>rfl
 |e::r,h=>by
  rw[List.map_cons,List.nodup_cons] at h;rw[List.reverse_cons,xI,QR x r h.2,List.find?_cons,List.find?_cons,List.find?_nil];cases he:e.1==x with
  |false=>cases r.find? (λe=>e.1==x)<;>rfl
  |true=>
   have:r.find? (λe=>e.1==x)=none:=List.find?_eq_none.2 λy bx aE=>h.1 (List.mem_map.2 ⟨y,bx,(eq_of_beq aE).trans (eq_of_beq he).symm⟩);rw[this];rfl
def aed{m x}(h:(m.map (·.1)).Nodup){d}(bB:ph m x=some [d]):(m.reverse.find? λe=>e.1==x).map (·.2)=some d:=by
 rw[QR x m h];unfold ph at bB;cases aI:m.find? (λe=>e.1==x) with
 |none=>rw[aI] at bB;cases bB
 |some e=>
  rw[aI] at bB;simp only[Option.map_some,Kr,Value.int.injEq] at bB|-;omega
def Sg{m:List (bz×Nat)}{x}(h:(m.any λe=>e.1==x)=false):(m.reverse.find? λe=>e.1==x).map (·.2)=none:=by
 rw[List.find?_eq_none.2 λy bx e=>?_]
 .rfl
 .have:=List.any_eq_false.1 h y (List.mem_reverse.1 bx);exact this e
def KI{x:bz}{sc:List (List (bz×Nat))}{j:Nat}(bg:j<D sc):sc.reverse[j]?=some (Y sc (D sc- 1-j) []):=by rw[List.getElem?_reverse bg,cd,cE J];rfl
def acX{sc eG d j}(ajt: ∀m∈sc,(m.map (·.1)).Nodup)(bg:j<D sc)(ax: ∀i,i<j->((Y sc (D sc- 1-i) []).any λe=>e.1==eG)=false)(bB:ph (Y sc (D sc- 1-j) []) eG=some [d]):Ck.look eG sc=some d:=by
 have aR:=KI (x:=eG) bg;have hm:=hX aR;unfold Ck.look;obtain⟨R,T⟩:=List.getElem?_eq_some_iff.1 aR;refine List.findSome?_eq_some_iff.2 ⟨sc.reverse.take j,_,sc.reverse.drop (j+1),?_,aed (ajt _ (List.mem_reverse.1 hm)) bB,λm hm=>?_⟩
 .rw[<-T,List.getElem_cons_drop,xK]
 .obtain⟨i,ay,rfl⟩:=List.getElem_of_mem hm;rw[mr] at ay;rw[List.getElem_take];have:=KI (x:=eG) (sc:=sc) (j:=i) J;rw[cE (by rw[List.length_reverse];omega),Kr] at this;rw[this];exact Sg (ax i J)
def aee{sc eG}(ax: ∀i,i<D sc->((Y sc (D sc- 1-i) []).any λe=>e.1==eG)=false):Ck.look eG sc=none:=by unfold Ck.look;refine List.findSome?_eq_none_iff.2 λm hm=>?_;obtain⟨i,ay,rfl⟩:=List.getElem_of_mem hm;rw[List.length_reverse] at ay;have:=KI (x:=eG) (sc:=sc) (j:=i) ay;rw[cE (by rw[List.length_reverse];omega),Kr] at this;rw[this];exact Sg (ax i ay)
def RS{sc eG sb aZ}(hl:D sb=D sc){j}(h:Hl sc eG (upto (Ih sb aZ) j)): ∀i,i<j->((Y sc (D sc- 1-i) []).any λe=>e.1==eG)=false:=λi ay=>by
 have:=h (Ih sb aZ i) (List.mem_map.2 ⟨i,List.mem_range.2 ay,rfl⟩);rw[<-hl];exact this
def afd{L w0 p tp eF n cap tv fv su sb w w2 s k d t}(h:dz L w0 p tp tv (.slice (some ⟨eF,0,none⟩) n cap) fv w su sb s)(aZ:s.sc≠[])(U:k<D L)(bB:d<D L)(bI:eB t)(G:aL w (a7 w ⟨eF,k,none⟩ (.int .i64 (d:Int))) w2):jr L w0 p tp tv (.slice (some ⟨eF,0,none⟩) n cap) fv kI (sA L k) (.ok t (oe k (d:Int) s)) s su sb w (.returned (.string (str t))) w2:=by obtain⟨nf,yl⟩:=h.Dh k (d:=d) J;have S:=Rk.Shape.oe (L:=L) aZ k (d:=(d:Int)) J J;refine⟨rfl,⟨bI,λ_=>?_⟩,⟨S.gn,rfl,rfl⟩,su,nf.below (by simpa using G),yl.trans At.refl (dS.below (by simpa using G)),At.refl⟩;show 0<=Y (s.eJ.set k (d:Int)) k (-1);rw[cd,List.getElem?_set_self (by rw[h.rw.us];exact U)];show(0:Int)<=d;omega
def Sh {L:List aP} {w0:jf} {p tp eF n cap ar m:Nat} {tv fv su:af} {sb:List Nat} {w b4 dC:ai} {s:b5} {k d:Nat} {t:bz} {pl:df} {fR:Array af} (h:dz L w0 p tp tv (.slice (some ⟨eF,0,none⟩) n cap) fv w su sb s) (aZ:s.sc≠[]) (U:k<L.length) (bB:d<L.length) (bI:eB t) (hm:w.heap.size=m) (ah:aL w.heap.size w b4) (oB:m+1+1<b4.heap.size) (au:b4.heap[m+1+1]?=some (.cells #[.string ⟨#[]⟩] 9)) (bZ:b4.heap.size<=ar)
  (bY:aL b4.heap.size ((b4.setCell ⟨eF,k,none⟩ (.int .i64 (d:Int))).setCell ⟨m+1+1,0,none⟩ (.string (str t))) dC) (ab:dC.heap[ar]?=some (.deferred (some []))) (hT:fR[4]?=some (.pointer (some ⟨m+1+1,0,none⟩))) (gV:pl= .ok t (oe k (d:Int) s)):bodyPostM Fence.wide 3 prog f210 (jr L w0 p tp tv (.slice (some ⟨eF,0,none⟩) n cap) fv kI (sA L k) pl s su sb w) .ret {tmps:=fR,defers:=[{target:= .collected ar,args:= #[]}]} dC:=by
 have gT:aL b4 _ (dC.putObj ar (.deferred none)):=bY.trans (belowK_b (w:=b4) (bD _) dC ar _ _ bZ ab rfl rfl);have uz:=(eI h.us eF rfl).2;have aiO:=az (ds (et (fK au (show m+1+1≠eF by omega) k d) 0 t) gT oB) 0;obtain⟨c,t2,hc⟩:=KH h.us;rw[gV];refine⟨by simp,.inl ⟨_,_,rfl,run_takeDeferred ab,t,?_,afd h aZ U bB bI (((F7 ah uz (i:=k) d hc).setCell (p:=⟨m+1+1,0,none⟩) (by show _<=m+1+1;omega) _).trans (gT.mono ah.size))⟩⟩;simp[iX,results210,go_sem,aiO,hT]
def acY{P:Program}{sb fR}{assign body:Code}{Q:Exit->Act->ai->Prop}{w:ai}{gf:Nat}{lb:Array af}{S Sx:List (tu sb)->Prop}{N:Nat}(aB:({tmps:=fR,defers:=[]}:Act).eval (.tmp 30)= .func (.func gf) #[] lb)(ah1: ∀args w,(callFunc gf args).run P w= .ok (.enter gf args) w)
 (ahc:SeqStopsK Fence.wide 2 P gf lb Ts (aL w) S Sx N w)(rQ:List (tu sb)->ai->Prop)(G4:Code->List (tu sb)->ai->Prop)(CQ:OwnFrom w rQ)(aiz: ∀c,OwnFrom w (G4 c))(aH:rQ [] w)
 (aef: ∀(l:Nat) (x:tu sb) (dC:ai) (K:Act->ai->Prop),K {tmps:=((fR.setIfInBounds 31 x.1.1).setIfInBounds 32 (.map (some x.1.2))).setIfInBounds 7 (.map (some x.1.2)),defers:=[]} dC->assign.wpIn (Fence.wide.inRound l) 1 P (Exit.then K (λ_ _ _=>False)) {tmps:=(fR.setIfInBounds 31 x.1.1).setIfInBounds 32 (.map (some x.1.2)),defers:=[]} dC)
 (afe: ∀(l:Nat) (pre:List (tu sb)) (x:tu sb) (dC:ai),rQ pre dC->D pre<N->body.wpIn (Fence.wide.inRound l) 1 P (ownPostG w.heap.size (aL w) rQ G4 (pre++[x]) dC) {tmps:=((fR.setIfInBounds 31 x.1.1).setIfInBounds 32 (.map (some x.1.2))).setIfInBounds 7 (.map (some x.1.2)),defers:=[]} dC)
 (aff: ∀(E:Nat) (xs:List (tu sb)) (dC:ai),w.heap.size<=E->S xs->rQ xs dC->dC.heap[E]?=some (.deferred (some []))->Q .normal {tmps:=fR,defers:=[{target:= .collected E,args:= #[]}]} dC)
 (afg: ∀(E:Nat) (c:Code) (pre:List (tu sb)) (dC:ai),w.heap.size<=E->Sx pre->G4 c pre dC->dC.heap[E]?=some (.deferred (some []))->c.wpIn Fence.wide 3 P Q {tmps:=fR,defers:=[{target:= .collected E,args:= #[]}]} dC):(Code.rangeFunc (.tmp 30) #[31,32] assign body).wp P Q {tmps:=fR,defers:=[]} w:=
 wpIn_wide.1 (wpIn_rangeFunc_ownG (F:=Fence.wide) (n:=3) rfl aN aB trivial ah1 ahc belowK_t (belowK_b (bD _)) (aT _ _) (λ_=>rfl) rQ G4 CQ aiz aH (λx=>{tmps:=((fR.setIfInBounds 31 x.1.1).setIfInBounds 32 (.map (some x.1.2))).setIfInBounds 7 (.map (some x.1.2)),defers:=[]}) (λl x dC K ab=>by
  have:=aef l x dC K ab;unfold Ts;simpa using this) afe aff afg)
section
variable{L:List aP}{E:List (aP×af)}{cG:Nat}{w0:jf}{p tp:Nat}{tv uv fv nv su su0:af}{sb bf:List Nat}{w w1 wk w2:ai}{s s0:b5}{pl r r2 rc:df}{Q:e7->ai->Prop}{K:bz->b5->df}{b:Bool}{c:Int}{t:bz}{k a f:Nat}{dY:e7}
def acZ(kR:Option Addr)(n m:Nat)(w:ai):aY 227 #[(kR,n,m)] w λe w'=>e= .returned (.func (.func 237) #[] #[(w.heap.size,0)])/\w'=aA w (aw #[(kR,n,m)] 45):=by go_in;go_wp2;go_returns;exact⟨rfl,rfl⟩
def Zv(V:Hid (gY L E cG w0 tp fv nv))(U:k<D E)(eh:(Z L k).j'=36)(aZ:sb≠[])(hR:D sb<=1000000)(h:dz L w0 p tp tv uv fv w su sb s):aY 210 #[(p,0),k] w (jr L w0 p tp tv uv fv kI (sA L k) (named L k s) s su sb w):=by
 have Go:=0;obtain⟨g,cA,x,bb,aQ,rfl,cg⟩:=V.o.fe.gQ h.av U;have br:=A cg;have ax:=cg.Z;obtain⟨pl,gV⟩: ∃r,named L k s=r:=⟨_,rfl⟩;rw[gV];have jJ:=A gV;have⟨hv,hi⟩:(k:Int)<D E/\(0:Int)<=k:=J;obtain⟨gs,cs,yP⟩:=dR h.sc (by simpa[List.length_pos_iff] using aZ);subst yP;obtain⟨bc,uf⟩: ∃bp,aA (aA (aA w (aw #[.pointer (some ⟨p,0,none⟩)] 40)) (aw #[.int .i64 (k:Int)] 3)) (aw #[.string ⟨#[]⟩] 9)=bp:=⟨_,rfl⟩;obtain⟨m,hm⟩: ∃bp,w.heap.size=bp:=⟨_,rfl⟩;have jS:=((h.alloc (aw #[.pointer (some ⟨p,0,none⟩)] 40)).alloc (aw #[.int .i64 (k:Int)] 3)).alloc (aw #[.string ⟨#[]⟩] 9);have e0:aL w w (aA (aA (aA w (aw #[.pointer (some ⟨p,0,none⟩)] 40)) (aw #[.int .i64 (k:Int)] 3)) (aw #[.string ⟨#[]⟩] 9)):=(((aT _ _).alloc (bD _) _).alloc bT _).alloc (by simp;omega) _;have qP:(aA (aA (aA w (aw #[.pointer (some ⟨p,0,none⟩)] 40)) (aw #[.int .i64 (k:Int)] 3)) (aw #[.string ⟨#[]⟩] 9)).heap[w.heap.size]?=some (aw #[.pointer (some ⟨p,0,none⟩)] 40):=ds (ds (ek w (aw #[.pointer (some ⟨p,0,none⟩)] 40)) ((aT _ _).alloc (bD _) _) bT) ((aT _ _).alloc (bD _) _) (by simp;omega);have s9:(aA (aA (aA w (aw #[.pointer (some ⟨p,0,none⟩)] 40)) (aw #[.int .i64 (k:Int)] 3)) (aw #[.string ⟨#[]⟩] 9)).heap[w.heap.size+1]?=some (aw #[.int .i64 (k:Int)] 3):=by
  have:=ds (ek (aA w (aw #[.pointer (some ⟨p,0,none⟩)] 40)) (aw #[.int .i64 (k:Int)] 3)) ((aT _ _).alloc (bD _) (aw #[.string ⟨#[]⟩] 9)) bT;rwa[show(aA w (aw #[.pointer (some ⟨p,0,none⟩)] 40)).heap.size=w.heap.size+1 from by simp] at this
 have pG:(aA (aA (aA w (aw #[.pointer (some ⟨p,0,none⟩)] 40)) (aw #[.int .i64 (k:Int)] 3)) (aw #[.string ⟨#[]⟩] 9)).heap[w.heap.size+1+1]?=some (aw #[.string ⟨#[]⟩] 9):=by
  have:=ek (aA (aA w (aw #[.pointer (some ⟨p,0,none⟩)] 40)) (aw #[.int .i64 (k:Int)] 3)) (aw #[.string ⟨#[]⟩] 9);rwa[show(aA (aA w (aw #[.pointer (some ⟨p,0,none⟩)] 40)) (aw #[.int .i64 (k:Int)] 3)).heap.size=w.heap.size+1+1 from by simp] at this
 have wW:bc.heap.size=m+1+1+1:=by rw[<-uf,<-hm];simp
 refine callsIn_wide.1 (callsIn_of_wp_marks (n:=3) func210 rfl trivial ?_ rfl);refine wpIn_wide.2 ?_;simp only[ntmps210,List.size_toArray,iq,u1,Nat.reduceAdd,Nat.reduceSub,Array.replicate_succ,Array.replicate_zero,List.push_toArray,List.append_toArray,List.nil_append,List.cons_append];go_wp2;rw[uf] at jS e0 qP s9 pG;rw[hm] at qP s9 pG;have fu:=A e0;have c0:=A hm;clear uf e0 hm cg;have eV:Hid (∀w',aL bc bc w'->aG w' ⟨m,0,none⟩=some (.pointer (some ⟨p,0,none⟩))/\aG w' ⟨m+1,0,none⟩=some (.int .i64 (k:Int))/\w'.heap[m+1+1]?=some (aw #[.string ⟨#[]⟩] 9)):=A λw' G=>⟨az (ds qP G (bd qP)) 0,az (ds s9 G (bd s9)) 0,ds pG G (bd pG)⟩;have cC:Hid (∀w',aL bc bc w'->True->aG w' ⟨m,0,none⟩=some (.pointer (some ⟨p,0,none⟩))/\aG w' ⟨m+1,0,none⟩=some (.int .i64 (k:Int))/\aG w' ⟨p,0,none⟩=some (.pointer (some ⟨tp,0,none⟩))/\aG w' ⟨tp,0,none⟩=some (.slice (some ⟨g,0,none⟩) (D E) cA)/\aG w' ⟨g,k*5,none⟩=some (.int .i64 x.j')/\aG w' ⟨g,k*5+1,none⟩=some (.int .i64 x.an)/\aG w' ⟨g,k*5+2,none⟩=some (.int .i64 x.aX)/\aG w' ⟨g,k*5+3,none⟩=some (.string (str x.O))/\aG w' ⟨g,k*5+4,none⟩=some (bb,D x.I,aQ)):=A λw' G _=>by
  have bJ:=jS.below G;obtain⟨_,_,z0,_,_,_,_,_⟩:=V.o.eo bJ.av;obtain⟨dY,ag,aE,bU,cL⟩:=br.o.cells w' bJ.av;exact⟨(eV.o w' G).1,(eV.o w' G).2.1,bJ.at.1,z0,dY,ag,aE,bU,cL⟩
 clear qP s9 pG;refine Br (jz 12 cC ((aT _ _).drew) trivial λaD=>?_);have iO:=A ((aT bc bc).drew);have yW:bc.drew.heap.size=bc.heap.size:=rfl;generalize bc.drew=bS at*;refine ae 0 ?_;refine ae 1 ?_;refine ae 2 ?_;refine ae 3 ?_;refine ae 4 ?_;refine ae 5 ?_;refine ae 6 ?_;refine ae 7 ?_;refine ae 8 ?_;refine ae 9 ?_;refine cT 10 λK ab=>?_;go_simp;have dn:=A (iO.o.alloc (Nat.le_of_eq yW.symm) (aw #[.int .i64 x.j',.int .i64 x.an,.int .i64 x.aX,.string (str x.O),(bb,D x.I,aQ)] 53));replace iO:=A (iO.o.alloc (Nat.le_of_eq yW.symm) (aw #[.int .i64 0,.int .i64 0,.int .i64 0,.string ⟨#[]⟩,.slice none 0 0] 53));refine ab.o _ _ (λ_=>cC.o _ iO.o trivial) ?_;clear ab K aD;have aD:=cC.o _ iO.o trivial;refine cT 11 λK ab=>?_;go_simp;refine ab.o _ _ (λ_=>cC.o _ dn.o trivial) ?_;clear ab K aD iO;refine bV (u2 ?_);have FM:=ek bS (aw #[.int .i64 x.j',.int .i64 x.an,.int .i64 x.aX,.string (str x.O),(bb,D x.I,aQ)] 53);rw[yW,wW] at FM;have lo:(aA bS (aw #[.int .i64 x.j',.int .i64 x.an,.int .i64 x.aX,.string (str x.O),(bb,D x.I,aQ)] 53)).heap.size=m+1+1+1+1:=by rw[World.size_alloc,yW,wW]
 generalize aA bS (aw #[.int .i64 x.j',.int .i64 x.an,.int .i64 x.aX,.string (str x.O),(bb,D x.I,aQ)] 53)=bm at*;have eH:=jS.below dn.o;obtain⟨b',c9,cw,da,dQ,_,_,b9,_⟩:=eH.at;obtain⟨fx,hp,kd⟩:=eV.o bm dn.o;go_wp2;refine(acZ _ _ _ _).mono ?_;rintro _ _ ⟨rfl,rfl⟩;go_wp2;have UW:=ek bm (aw #[.slice (some ⟨gs,0,none⟩) (D sb) cs] 45);have lL:=A (dn.o.alloc J (aw #[.slice (some ⟨gs,0,none⟩) (D sb) cs] 45));have FM:=ds FM ((aT bm bm).alloc (bD _) (aw #[.slice (some ⟨gs,0,none⟩) (D sb) cs] 45)) J;have Mn:(aA bm (aw #[.slice (some ⟨gs,0,none⟩) (D sb) cs] 45)).heap.size=m+1+1+1+1+1:=by rw[World.size_alloc,lo]
 rw[lo] at UW;generalize aA bm (aw #[.slice (some ⟨gs,0,none⟩) (D sb) cs] 45)=b4 at*;have hB:=A (jS.below lL.o);clear b' c9 cw da dQ b9 fx hp kd eH yW;have yP:=(eI hB.o.sc gs rfl).2;obtain⟨eG,yX⟩: ∃bp,x.O=bp:=⟨_,rfl⟩;have uH:=A Mn;have⟨oB,Hm⟩:m+1+1+1<b4.heap.size/\m+1+1<b4.heap.size:=J;have Ix:=A oB;refine acY (sb:=sb) (gf:=237) (lb:= #[.pointer (some ⟨m+1+1+1+1,0,none⟩)]) rfl (enters_of func237 cS rfl)
  (ZO (f:=Ih sb aZ) Fence.wide 2 trivial rfl aN _ gs cs sb (λ_ _=>rfl) J b4 yP (az UW 0) J (λj bg=>by
   have:=tH hB.o.sc j J;rw[this,lF,lW,cE bg];rfl))
  (λpre dC=>Hl s.sc eG pre/\aL b4 b4 dC)
  (λc pre dC=>c= .ret/\ ∃dJ last d t,pre=dJ++[last]/\Hl s.sc eG dJ/\ph (Y s.sc last.1.1 []) eG=some (.int .i64 ((d:Nat):Int))/\t=(if(Z L d).j'=7 then B.O L d else if(Z L d).j'=27 then(fq (Y s.types (bM L d 0) [])).getD [] else Y s.types (bM L d 0) [])/\ ∃eF un,uv= .slice (some ⟨eF,0,none⟩) (D E) un/\aL b4 (a7 (a7 b4 ⟨eF,k,none⟩ (.int .i64 (d:Int))) ⟨m+1+1,0,none⟩ (.string (str t))) dC)
  (OwnFrom.and (λ_ _ _ _ hs _ _=>hs) (ownFrom_below (bD _) (bD _)))
  (λc=>?own) ⟨λy bx=>(by cases bx),aT _ _⟩ ?assign ?body ?done ?stop
 case own=>
  rintro pre bP dC row ⟨hc,dJ,last,d,t,ag,aE,bU,cL,eF,un,gi,G⟩ aB au;exact⟨hc,dJ,last,d,t,ag,aE,bU,cL,eF,un,gi,G.grown aB (by have:=G.size;simpa using this) (λk e=>(au k e).1)⟩
 case assign=>
  intro l y dC K ab;simp only[ld,lf,lg] at ab|-
  gi_wp2
  exact ab
 case body=>
  rintro l pre ⟨⟨i,b⟩,xk⟩ dC ⟨k7,bY⟩ _;simp only[ld,lf,lg];clear Mn;have hd:=A (hB.o.below bY);obtain⟨h0,anp⟩:=List.getElem?_eq_some_iff.1 xk;have BG:i<D s.sc:=by rw[<-hB.o.mp.mW];exact h0
  have Ii:s.sc[i]?=some (Y s.sc i []):=by rw[cd,cE BG];rfl
  have aje:=(hd.o.mp.mp i b _ xk Ii).2;have ih:=aje.qK underlying125 (rP dC) (show D eG<=dc by rw[<-yX];have:=br.o.fA.1;unfold dc;omega);rw[Pn] at ih;have B4:=ds FM bY oB;have n3:=az B4 3;simp only[cO,cQ,c8] at n3;rw[yX] at n3;cases aD:(Y s.sc i []).any λe=>e.1==eG with
  |false=>
   rw[aD] at ih;generalize(ph (Y s.sc i []) eG).getD (.int .i64 0)=ew at ih
   gi_wp2
   exact⟨KeepsFrom.refl _ _,aT _ _,λy bx=>(List.mem_append.1 bx).elim (k7 y) (λe=>by rw[sE] at e;subst e;exact aD),bY⟩
  |true=>
   rw[aD] at ih;obtain⟨d,bB,LX⟩: ∃d:Nat,ph (Y s.sc i []) eG=some (.int .i64 (d:Int))/\d<D L/\((Z L d).j'=7\/(Z L d).j'=17\/(Z L d).j'=27):=by
    rw[<-Pn] at aD;unfold ph at aD|-;cases aI:(Y s.sc i []).find? λe=>e.1==eG with
    |none=>rw[aI] at aD;cases aD
    |some e=>exact⟨e.2,rfl,((hB.o.mp.lS _ (hX Ii)).1 e (List.mem_of_find?_eq_some aI)).2⟩
   rw[bB,Option.getD_some] at ih;obtain⟨_,_,bp,wT,wU,hG,iU⟩:=V.o.fe.gQ (k:=d) hd.o.av (by have:D L=D E:=V.o.pF;omega);cases hG;obtain⟨eF,un,rfl⟩:=Se V hd.o J;have pR:(d:Int)<D E:=(by have:D L=D E:=V.o.pF;omega);have lz:(0:Int)<=d:=J;obtain⟨_,rH,wK⟩:=hd.o.x8 (k:=k) (by have:D L=D E:=V.o.pF;omega);have pn:=(hd.o.x8 (k:=k) (by have:D L=D E:=V.o.pF;omega)).1;obtain⟨b',_,cw,_,_,_,_,b9,_⟩:=hd.o.at;obtain⟨fx,hp,kd⟩:=eV.o dC (lL.o.trans (bY.mono lL.o.size));obtain⟨_,_,z0,_,_,eK,_,_⟩:=V.o.eo hd.o.av
   gi_wp2
   refine Nz 7 (A λw' (nM:aG w' ⟨m,0,none⟩=some (.pointer (some ⟨p,0,none⟩))/\aG w' ⟨m+1,0,none⟩=some (.int .i64 (k:Int))/\aG w' ⟨p,2,none⟩=some (.slice (some ⟨eF,0,none⟩) (D E) un)) (_:True)=>nM) ⟨fx,hp,cw⟩ trivial λaD=>?_;clear fx hp kd b' cw b9 ih pn z0 n3;have RI:=A (hd.o.below (aT dC dC).drew);have As:aL dC dC dC.drew:=(aT dC dC).drew;have yc:dC.drew.heap.size=dC.heap.size:=rfl;generalize dC.drew=b3 at*;refine a' 0 ?_;refine a' 1 ?_;refine a' 2 ?_;refine a' 3 ?_;refine a' 4 ?_;refine a' 5 ?_;refine a' 6 ?_;refine cT 7 λK ab=>?_;obtain⟨pn,rH,wK⟩:=RI.o.x8 (k:=k) (by have:D L=D E:=V.o.pF;omega);go_simp;refine ab.o _ _ (λh=>absurd rfl h) ?_;clear ab K aD pn rH wK;refine bV (u2 ?_);have iV:=A (RI.o.Dh k (d:=d) J).1;have LY:eF<b4.heap.size:=(eI hB.o.us eF rfl).2;have ai5:eF<m:=c0.o▸(eI h.us eF rfl).2;have ie:aL bc bc b3:=lL.o.trans ((bY.trans (As.mono bY.size)).mono (by have:=lL.o.size;omega));obtain⟨pK,kQ,r2⟩:=eV.o b3 ie;have NA:Hid (∀w',aL dC (a7 b3 ⟨eF,k,none⟩ (.int .i64 (d:Int))) w'->aG w' ⟨m,0,none⟩=some (.pointer (some ⟨p,0,none⟩))/\aG w' ⟨m+1,0,none⟩=some (.int .i64 (k:Int))/\w'.heap[m+1+1]?=some (aw #[.string ⟨#[]⟩] 9)):=A λw' G=>by
    have anJ:=uH.o;have anK:=bY.size;refine⟨(G.cell (p:=⟨m,0,none⟩) (by show m<_;omega)).trans ((World.cell?_setCell_far b3 ⟨eF,k,none⟩ ⟨m,0,none⟩ (.int .i64 (d:Int)) (by show eF≠m;omega)).trans pK),(G.cell (p:=⟨m+1,0,none⟩) (by show m+1<_;omega)).trans ((World.cell?_setCell_far b3 ⟨eF,k,none⟩ ⟨m+1,0,none⟩ (.int .i64 (d:Int)) (by show eF≠m+1;omega)).trans kQ),ds (fK r2 J _ _) G J⟩
   have hk:Hid (aL b4 (a7 b4 ⟨eF,k,none⟩ (.int .i64 (d:Int))) (a7 b3 ⟨eF,k,none⟩ (.int .i64 (d:Int)))):=by
    obtain⟨c,t,hc⟩:=KH hB.o.us;exact A (F7 (bY.trans (As.mono bY.size)) LY _ hc)
   have vG:(a7 b3 ⟨eF,k,none⟩ (.int .i64 (d:Int))).heap.size=b3.heap.size:=bT;have ahd:KeepsFrom b4.heap.size dC (a7 b3 ⟨eF,k,none⟩ (.int .i64 (d:Int))):=(Ps As).trans ((KeepsOthers.setCell _ _ _).from _);generalize UU:a7 b3 ⟨eF,k,none⟩ (.int .i64 (d:Int))=a6 at*;obtain⟨lQ,Tt⟩: ∃v,dC.heap.size=v:=⟨_,rfl⟩;rw[yc,Tt] at vG;clear yc;rw[Tt] at NA;have Ij:aL a6 a6 (aA a6 (aw #[.int .i64 bp.j',.int .i64 bp.an,.int .i64 bp.aX,.string (str bp.O),(wT,D bp.I,wU)] 53)):=(aT _ _).alloc (bD _) _;have NB:=ek a6 (aw #[.int .i64 bp.j',.int .i64 bp.an,.int .i64 bp.aX,.string (str bp.O),(wT,D bp.I,wU)] 53);rw[vG] at NB;have la:=A (iV.o.below Ij);obtain⟨b',c9,cw,_,_,_,_,b9,_⟩:=iV.o.at;obtain⟨_,_,z0,_,_,eK,_,_⟩:=V.o.eo iV.o.av;obtain⟨dY,ag,aE,bU,cL⟩:=iU.cells a6 iV.o.av;obtain⟨fx,hp,kd⟩:=NA.o a6 (by rw[<-vG];exact aT a6 a6);obtain⟨aop,IL,aov,_,_,_,_,_,_⟩:=la.o.at;obtain⟨_,_,apZ,_,_,_,_,_⟩:=V.o.eo la.o.av;obtain⟨V7,ak5,CI⟩:=NA.o _ (by rw[<-vG];exact Ij);have anE:(aA a6 (aw #[.int .i64 bp.j',.int .i64 bp.an,.int .i64 bp.aX,.string (str bp.O),(wT,D bp.I,wU)] 53)).heap.size=lQ+1:=(by rw[World.size_alloc,vG]);have tg:Hid (aL b4 (a7 b4 ⟨eF,k,none⟩ (.int .i64 (d:Int))) (aA a6 (aw #[.int .i64 bp.j',.int .i64 bp.an,.int .i64 bp.aX,.string (str bp.O),(wT,D bp.I,wU)] 53))):=A (hk.o.trans (Ij.mono (by have:=hk.o.size;simpa using this)));have o0:=az NB 0;have LZ:=az NB 4;simp only[cO,cQ,c8] at o0 LZ;have YQ:=A (ahd.trans (Ps Ij));generalize ta:aA a6 (aw #[.int .i64 bp.j',.int .i64 bp.an,.int .i64 bp.aX,.string (str bp.O),(wT,D bp.I,wU)] 53)=cp at*;rw[iU.Z] at LX;have aiL:=A iU;have Uw:Hid (17<=bp.j'->0<D bp.I/\Y bp.I 0 0<d):=A λe=>by
    have hl:=iU.ly.len;have aH:0<D bp.I:=by
     obtain e|e|e:=LX.2
     .omega
     .rw[hl,e];exact oI _
     .rw[hl,e];exact oI _
    exact⟨aH,(iU.at aH).1⟩
   have tZ:Hid (∀(t:bz) w',t=(if bp.j'=7 then B.O L d else if bp.j'=27 then(fq (Y s.types (bM L d 0) [])).getD [] else Y s.types (bM L d 0) [])->aL cp cp w'->KeepsFrom b4.heap.size dC (a7 w' ⟨m+1+1,0,none⟩ (.string (str t)))/\ ∃(dJ:List (tu sb)) (last:tu sb) (d:Nat) (t2:bz),pre++[⟨(i,b),xk⟩]=dJ++[last]/\Hl s.sc eG dJ/\ph (Y s.sc last.1.1 []) eG=some (.int .i64 ((d:Nat):Int))/\t2=(if(Z L d).j'=7 then B.O L d else if(Z L d).j'=27 then(fq (Y s.types (bM L d 0) [])).getD [] else Y s.types (bM L d 0) [])/\ ∃T7 akC,Value.slice (some ⟨eF,0,none⟩) (D E) un= .slice (some ⟨T7,0,none⟩) (D E) akC/\aL b4 (a7 (a7 b4 ⟨T7,k,none⟩ (.int .i64 (d:Int))) ⟨m+1+1,0,none⟩ (.string (str t2))) (a7 w' ⟨m+1+1,0,none⟩ (.string (str t)))):=A λt w' bI G=>by
    refine⟨(YQ.o.trans (Ps G)).trans ((KeepsOthers.setCell _ _ _).from _),pre,_,d,t,rfl,k7,bB,by rw[aiL.o.Z];exact bI,eF,un,rfl,?_⟩;exact F7 (tg.o.trans (G.mono (by have:=tg.o.size;simpa using this))) Hm _ (fK ((eV.o b4 lL.o).2.2) J _ _)
   obtain y9|y9|y9:=LX.2
   .rw[y9] at ta o0
    gi_wp2
    refine⟨trivial,(CallsIn.inRound l (callsIn_wide.2 (V.o.O la.o.av (k:=d) J))).mono ?_⟩;rintro _ gF ⟨rfl,t'⟩;have zH:=ds CI t' (bd CI);have FN:=az zH 0;have V8:=cX zH 0;simp only[cO,cQ] at FN;obtain⟨gG,nV⟩: ∃t,B.O L d=t:=⟨_,rfl⟩;rw[nV]
    gi_wp2
    exact(tZ.o gG _ (by rw[<-nV,aS y9]) t').imp id (⟨rfl,·⟩)
   .rw[y9] at ta o0;obtain⟨l8,DA⟩:0<D bp.I/\Y bp.I 0 0<d:=Uw.o J;obtain⟨gk,rfl,bO⟩:=iU.bM cp 0 la.o.av l8;obtain⟨gt,rZ,rfl⟩:=Sf V la.o J;obtain⟨t1,_,_⟩:=la.o.x7 (k:=Y bp.I 0 0) J;have hi:bM L d 0=Y bp.I 0 0:=(by unfold bM;rw[iU.Z]);obtain⟨a0,fB⟩: ∃a,Y bp.I 0 0=a:=⟨_,rfl⟩;rw[fB] at bO t1 DA hi;rw[hi] at tZ;obtain⟨gG,nV⟩: ∃t,Y s.types a0 []=t:=⟨_,rfl⟩;rw[show(oe k (d:Int) s).types=s.types from rfl,nV] at t1;rw[nV] at tZ
    gi_wp2
    have⟨q7,fB,Tu⟩:(a0:Int)<D E/\(0:Int)<=a0/\(0:Int)<D bp.I:=J;refine Nz 10 (A λw' (nM:aG w' ⟨m,0,none⟩=some (.pointer (some ⟨p,0,none⟩))/\aG w' ⟨p,1,none⟩=some (.slice (some ⟨gt,0,none⟩) (D E) rZ)/\aG w' ⟨lQ,4,none⟩=some (.slice (some ⟨gk,0,none⟩) (D bp.I) wU)/\aG w' ⟨gk,0,none⟩=some (.int .i64 (a0:Int))/\aG w' ⟨gt,a0,none⟩=some (.string (str gG))) (_:True)=>nM) ⟨V7,IL,LZ,bO,t1⟩ trivial λaD=>?_;have t':aL cp cp cp.drew:=(aT _ _).drew;have zH:=ds CI t' (bd CI);have FN:=az zH 0;have V8:=cX zH 0;simp only[cO,cQ] at FN;generalize cp.drew=gF at*;refine a' 0 ?_;refine a' 1 ?_;refine a' 2 ?_;refine a' 3 ?_;refine a' 4 ?_;refine a' 5 ?_;refine a' 6 ?_;refine a' 7 ?_;refine a' 8 ?_;refine a' 9 ?_;refine cT 10 λK ab=>?_;go_simp;refine ab.o _ _ (λh=>absurd rfl h) ?_;clear ab K aD;refine bV (u2 ?_)
    gi_wp2
    exact(tZ.o gG _ (by rw[ao J,ao J]) t').imp id (⟨rfl,·⟩)
   .rw[y9] at ta o0;obtain⟨l8,DA⟩:0<D bp.I/\Y bp.I 0 0<d:=Uw.o J;obtain⟨gk,rfl,bO⟩:=iU.bM cp 0 la.o.av l8;obtain⟨gt,rZ,rfl⟩:=Sf V la.o J;obtain⟨t1,_,_⟩:=la.o.x7 (k:=Y bp.I 0 0) J;have hi:bM L d 0=Y bp.I 0 0:=(by unfold bM;rw[iU.Z]);obtain⟨a0,fB⟩: ∃a,Y bp.I 0 0=a:=⟨_,rfl⟩;rw[fB] at bO t1 DA hi;rw[hi] at tZ;obtain⟨gG,nV⟩: ∃t,Y s.types a0 []=t:=⟨_,rfl⟩;rw[show(oe k (d:Int) s).types=s.types from rfl,nV] at t1;rw[nV] at tZ
    gi_wp2
    have⟨q7,fB,Tu⟩:(a0:Int)<D E/\(0:Int)<=a0/\(0:Int)<D bp.I:=J;refine Nz 16 (A λw' (nM:aG w' ⟨m,0,none⟩=some (.pointer (some ⟨p,0,none⟩))/\aG w' ⟨p,1,none⟩=some (.slice (some ⟨gt,0,none⟩) (D E) rZ)/\aG w' ⟨lQ,4,none⟩=some (.slice (some ⟨gk,0,none⟩) (D bp.I) wU)/\aG w' ⟨gk,0,none⟩=some (.int .i64 (a0:Int))/\aG w' ⟨gt,a0,none⟩=some (.string (str gG))) (_:True)=>nM) ⟨V7,IL,LZ,bO,t1⟩ trivial λaD=>?_;have t':aL cp cp cp.drew:=(aT _ _).drew;have zH:=ds CI t' (bd CI);have FN:=az zH 0;have V8:=cX zH 0;simp only[cO,cQ] at FN;generalize cp.drew=gF at*;refine ae 0 ?_;refine ae 1 ?_;refine ae 2 ?_;refine ae 3 ?_;refine ae 4 ?_;refine ae 5 ?_;refine ae 6 ?_;refine ae 7 ?_;refine ae 8 ?_;refine ae 9 ?_;refine cT 10 λK ab=>?_;go_simp;refine(Pr gG i_ gF).mono ?_;rintro _ _ ⟨rfl,rfl⟩;obtain⟨oM,s_⟩: ∃b,cv gG i_=b:=⟨_,rfl⟩;obtain⟨tK,UB⟩: ∃b,(if cv gG i_=true then gG.drop (D i_) else gG)=b:=⟨_,rfl⟩;rw[UB,s_];go_simp;refine ab.o _ _ (λ_=>aD) ?_;clear ab K;refine ae 11 ?_;refine ae 12 ?_;refine ae 13 ?_;refine ae 14 ?_;refine ae 15 ?_;refine bV (u2 ?_);cases oM with
    |true=>
     gi_wp2
     exact(tZ.o tK _ (by rw[ao J,aS y9,<-UB,fq,s_];rfl) t').imp id (⟨rfl,·⟩)
    |false=>
     gi_wp2
     exact(tZ.o [] _ (by rw[ao J,aS y9,fq,s_];rfl) t').imp id (⟨rfl,·⟩)
 case done=>
  rintro ar xs dC bZ rfl ⟨k7,bY⟩ ab;have hR:=hB.o.mp.mW;have yM:Ck.look eG s.sc=none:=aee (RS hR (by rw[hR] at k7;exact k7));obtain⟨cy,fl,ai2,vw⟩:=V.o.fns;subst ai2;have jG:D L=D E:=V.o.pF;have hd:=A (hB.o.below bY);have aF:=br.o.fA.1;obtain⟨FT,oM,Tv,s_⟩: ∃(FT:Int) (oM:Bool),(∀w',aL dC dC w'->(vz 44 (.map (some cy)) (.string (str eG)) true).run prog w'= .ok (.tuple #[.int .i64 FT,.bool oM]) w')/\((oM=false/\c7 L 13 eG<0)\/(oM=true/\c7 L 13 eG=FT/\ ¬c7 L 13 eG<0)):=by
   by_cases bB:c7 L 13 eG<0
   .have aI:fk L 13 (D L) eG=none:=by
     have:(fk L 13 (D L) eG).isSome=decide (0<=c7 L 13 eG):=wy;rw[oJ J] at this;exact Option.isSome_eq_false_iff.1 this|>Option.isNone_iff_eq_none.1
    refine⟨0,false,λw' G=>?_,.inl ⟨rfl,bB⟩⟩;have:=(vw w' (hd.o.below G).av).qK rO (rP w') (show D eG<=dc by rw[<-yX];unfold dc;omega);rw[aI] at this;exact this
   .obtain⟨lh,_,e,_⟩:=px bB;refine⟨lh,true,λw' G=>?_,.inr ⟨rfl,e,bB⟩⟩;have:=(vw w' (hd.o.below G).av).qK rO (rP w') (show D eG<=dc by rw[<-yX];unfold dc;omega);rw[Sa e] at this;exact this
  have iC:Hid (∀w',aL dC dC w'->True->aG w' ⟨m,0,none⟩=some (.pointer (some ⟨p,0,none⟩))/\aG w' ⟨p,3,none⟩=some (.map (some cy))/\aG w' ⟨m+1+1+1,3,none⟩=some (.string (str eG))/\(vz 44 (.map (some cy)) (.string (str eG)) true).run prog w'= .ok (.tuple #[.int .i64 FT,.bool oM]) w'):=A λw' G _=>by
   have n3:=az (ds (ds FM bY oB) G (kv oB bY.size)) 3;simp only[cO,cQ,c8] at n3;rw[yX] at n3;exact⟨(eV.o w' (lL.o.trans ((bY.trans (G.mono bY.size)).mono lL.o.size))).1,(hd.o.below G).at.2.2.2.1,n3,Tv w' G⟩
  clear Tv vw;go_wp2;refine Br (jz 12 iC ((aT _ _).drew) trivial λaD=>?_);have ie:aL dC dC dC.drew:=(aT _ _).drew;have Ik:dC.drew.heap[ar]?=some (.deferred (some [])):=ab;generalize dC.drew=b3 at*;refine ae 0 ?_;refine ae 1 ?_;refine ae 2 ?_;refine ae 3 ?_;refine ae 4 ?_;refine ae 5 ?_;refine ae 6 ?_;refine ae 7 ?_;refine ae 8 ?_;refine ae 9 ?_;refine ae 10 ?_;refine ae 11 ?_;refine bV (u2 ?_);have iM:=A hR;have AL:=A yM;have AF:=A (hd.o.below ie);obtain⟨fx,hp,kd⟩:=eV.o b3 (lL.o.trans ((bY.trans (ie.mono bY.size)).mono lL.o.size));clear hR yM aD;go_wp2;refine(Gi V U oM 6 AF.o).mono ?_;rintro _ a6 ⟨rfl,UU⟩;obtain rfl:b3=a6:=UU.symm;obtain⟨rfl,bB⟩|⟨rfl,bB,lz⟩:=s_
  .simp only[Bool.false_eq_true,if_false];have Il:pl= .bL 6 k:=(by rw[<-jJ.o,named,ax,yX,AL.o];exact aS bB);rw[Il];unfold gS;go_wp2;refine⟨by simp,.inl ⟨_,_,rfl,run_takeDeferred Ik,?_⟩⟩;exact⟨by show _=gS _ _;rw[ax];rfl,AF.o.av.trans ((belowK_b (w:=b4) (bD _) b3 ar _ _ bZ Ik rfl rfl).mono hB.o.av.size)⟩
  .simp only[if_true];obtain⟨lh,z0,pI,CJ,IE,_⟩:=px (L:=L) (j':=13) (name:=eG) J;obtain rfl:FT=(lh:Int):=bB.symm.trans pI;have pR:lh<D E:=by
    have:=(List.getElem?_eq_some_iff.1 CJ).1;omega
   obtain⟨_,_,bp,wT,wU,hG,iU⟩:=V.o.fe.gQ (k:=lh) AF.o.av pR;cases hG;have UX:bp.j'=13:=by
    rw[<-iU.Z,Z,cd,CJ];exact IE
   have l8:0<D bp.I:=by
    have:=iU.ly.len;rw[this,UX];exact oI _
   have ahe:=(iU.at l8).1;obtain⟨gk,rfl,_⟩:=iU.bM b3 0 AF.o.av l8;obtain⟨eF,un,rfl⟩:=Se V AF.o J;have⟨vX,alV,Tu⟩:(lh:Int)<D E/\(0:Int)<=lh/\(0:Int)<D bp.I:=J;have cw:=AF.o.at.2.2.1;go_wp2;refine Br (jz 7 (A λw' (nM:aG w' ⟨m,0,none⟩=some (.pointer (some ⟨p,0,none⟩))/\aG w' ⟨m+1,0,none⟩=some (.int .i64 (k:Int))/\aG w' ⟨p,2,none⟩=some (.slice (some ⟨eF,0,none⟩) (D E) un)) (_:True)=>nM) ⟨fx,hp,cw⟩ trivial λaD=>?_);have As:aL b3 b3 b3.drew:=(aT b3 b3).drew;have Ul:b3.drew.heap[ar]?=some (.deferred (some [])):=Ik;have vG:b3.drew.heap.size=b3.heap.size:=rfl;generalize b3.drew=a6 at*;have RJ:=A (AF.o.below As);refine a' 0 ?_;refine a' 1 ?_;refine a' 2 ?_;refine a' 3 ?_;refine a' 4 ?_;refine a' 5 ?_;refine a' 6 ?_;refine cT 7 λK ab=>?_;obtain⟨pn,rH,wK⟩:=RJ.o.x8 (k:=k) J;go_simp;refine ab.o _ _ (λh=>absurd rfl h) ?_;clear ab K aD pn rH fx hp cw;refine bV (u2 ?_);have ai5:eF<m:=c0.o▸(eI h.us eF rfl).2;have LY:eF<b4.heap.size:=(eI hB.o.us eF rfl).2;obtain⟨c,t2,hc⟩:=KH hB.o.us;have L0:aL b4 b4 a6:=bY.trans ((ie.trans (As.mono ie.size)).mono bY.size);have hk:=A (F7 L0 LY (i:=k) (.int .i64 (lh:Int)) hc);have iV:=A (RJ.o.Dh k (d:=lh) J).1;obtain⟨pK,_,r2⟩:=eV.o a6 (lL.o.trans (L0.mono lL.o.size));have Vf:=(World.cell?_setCell_far a6 ⟨eF,k,none⟩ ⟨m,0,none⟩ (.int .i64 (lh:Int)) (by show eF≠m;omega)).trans pK;have Vg:=fK r2 (show m+1+1≠eF by omega) k (.int .i64 (lh:Int));have Um:=fK Ul (show ar≠eF by omega) k (.int .i64 (lh:Int));have ajd:m<(a7 a6 ⟨eF,k,none⟩ (.int .i64 (lh:Int))).heap.size:=(by have:=L0.size;simp;omega);have aiv:ar<(a7 a6 ⟨eF,k,none⟩ (.int .i64 (lh:Int))).heap.size:=(Array.getElem?_eq_some_iff.1 Um).1;have ajp:=bd Vg;generalize a7 a6 ⟨eF,k,none⟩ (.int .i64 (lh:Int))=cp at*;obtain⟨a0,fB⟩: ∃a,Y bp.I 0 0=a:=⟨_,rfl⟩;rw[fB] at ahe;have lx:Hid (∀w',aL cp cp w'->True->aG w' ⟨m,0,none⟩=some (.pointer (some ⟨p,0,none⟩))/\aG w' ⟨p,0,none⟩=some (.pointer (some ⟨tp,0,none⟩))/\aG w' ⟨tp,0,none⟩=some (.slice (some ⟨g,0,none⟩) (D E) cA)/\aG w' ⟨g,lh*5+4,none⟩=some (.slice (some ⟨gk,0,none⟩) (D bp.I) wU)/\aG w' ⟨gk,0,none⟩=some (.int .i64 (a0:Int))):=A λw' G _=>by
    have bJ:=iV.o.below G;obtain⟨_,_,z0,_,_,_,_,_⟩:=V.o.eo bJ.av;obtain⟨g2,e,c⟩:=iU.bM w' 0 bJ.av l8;cases e;rw[fB] at c;exact⟨(G.cell (p:=⟨m,0,none⟩) ajd).trans Vf,bJ.at.1,z0,(iU.cells w' bJ.av).2.2.2.2,c⟩
   have eK:=(V.o.eo iV.o.av).choose_spec.choose_spec.2.2.2.1;clear pK r2 Vf Ik Ul;go_wp2;refine Br (jz 18 lx ((aT _ _).drew) trivial λaD=>?_);have kb:aL cp cp cp.drew:=(aT _ _).drew;generalize cp.drew=gF at*;refine a' 0 ?_;refine a' 1 ?_;refine a' 2 ?_;refine a' 3 ?_;refine a' 4 ?_;refine a' 5 ?_;refine a' 6 ?_;refine a' 7 ?_;refine a' 8 ?_;refine a' 9 ?_;refine a' 10 ?_;refine a' 11 ?_;refine a' 12 ?_;refine a' 13 ?_;refine a' 14 ?_;refine a' 15 ?_;refine a' 16 ?_;refine cT 17 λK ab=>?_;go_simp;refine(V.o.O (iV.o.below kb).av (k:=a0) J).mono ?_;rintro _ iP ⟨rfl,G_⟩;have zR:=kb.trans (G_.mono kb.size);obtain⟨gG,nV⟩: ∃t,B.O L a0=t:=⟨_,rfl⟩;rw[nV];go_simp;refine ab.o _ _ (λ_=>lx.o _ zR trivial) ?_;clear ab K aD;refine cT 18 λK ab=>?_;have n1:=ds Vg zR ajp;have Vh:=az n1 0;have akf:=cX n1 0;simp only[cO,cQ] at Vh;go_simp;refine ab.o _ _ (λh=>absurd rfl h) ?_;clear ab K Vh akf;refine bV (u2 ?_);go_wp2;have L':bM L lh 0=a0:=(by rw[bM,iU.Z,fB]);have hT:eB gG:=by
    have:=(iU.at l8).2;rw[fB,UX] at this;rw[<-nV];refine V.o.jn.gG J ?_;have R:ct 8 (Z L a0).j'=true:=this;unfold ct at R;simp at R;omega
   have hR:=iM.o;refine Sh h (by intro e;rw[e] at hR;exact aZ (List.length_eq_zero_iff.1 hR)) J (d:=lh) J hT c0.o (fu.o.trans (lL.o.mono fu.o.size)) Hm (eV.o b4 lL.o).2.2 bZ (F7 (hk.o.trans (zR.mono (by have:=hk.o.size;simpa using this))) Hm _ (fK ((eV.o b4 lL.o).2.2) J _ _)) (fK (ds Um zR aiv) J _ _) rfl ?_;rw[<-jJ.o,named,ax,yX,AL.o];dsimp only;rw[bB,ao J,xJ,L',nV]
 case stop=>
  rintro ar c pre dC bZ ⟨j,bg,rfl⟩ ⟨rfl,dJ,last,d,t,ag,aE,bU,cL,eF,un,gi,bY⟩ ab;cases gi;obtain⟨r3,rfl⟩: ∃r3,j=r3+1:=by
   cases j with
   |zero=>simp[upto] at ag
   |succ r3=>exact⟨r3,rfl⟩
  rw[Pj] at ag;obtain⟨rfl,tM⟩:=List.append_inj' ag rfl;obtain rfl:Ih sb aZ r3=last:=by simpa using tM
  have hR:=hB.o.mp.mW;have yM:Ck.look eG s.sc=some d:=acX (λm hm=>(hB.o.mp.lS m hm).2) (j:=r3) J (RS hR aE) (by rw[<-hR];exact bU);have uj:d<D L/\((Z L d).j'=7\/(Z L d).j'=17\/(Z L d).j'=27):=by
   have Ii:s.sc[D sb- 1-r3]?=some (Y s.sc (D sb- 1-r3) []):=(by rw[cd,cE J];rfl);have bU:ph (Y s.sc (D sb- 1-r3) []) eG=some (.int .i64 (d:Int)):=bU;unfold ph at bU;cases aI:(Y s.sc (D sb- 1-r3) []).find? λe=>e.1==eG with
   |none=>rw[aI] at bU;cases bU
   |some e=>
    rw[aI] at bU;obtain rfl:e.2=d:=by
     simp only[Option.map_some,Kr,Value.int.injEq] at bU;omega
    exact((hB.o.mp.lS _ (hX Ii)).1 e (List.mem_of_find?_eq_some aI)).2
  have ql: ∀a,eB (Y s.types a []):=λa=>by
   rw[cd];cases e:s.types[a]? with
   |none=>exact eB.nil
   |some t=>exact h.rw.gG t (hX e)
  have hT:eB t:=by
   rw[cL];split
   .exact V.o.jn.gG uj.1 J
   .split
    .exact(ql _).aeX
    .exact ql _
  have Il:pl= .ok t (oe k (d:Int) s):=by
   rw[<-jJ.o,named,ax,yX,yM,cL]
  have ah:aL w w b4:=fu.o.trans (lL.o.mono fu.o.size);have cV:=A (λ(fR:Array af) (aiG:fR[4]?=some (.pointer (some ⟨m+1+1,0,none⟩)))=>Sh (fR:=fR) h (by intro e;rw[e] at hR;exact aZ (List.length_eq_zero_iff.1 hR)) (by have:D L=D E:=V.o.pF;omega) uj.1 hT c0.o ah Hm (eV.o b4 lL.o).2.2 bZ bY ab aiG Il);clear cL uj yM Il ql h aE bU hR
  gi_wp2
  exact cV.o _ rfl
end
end Pk
end
namespace Pk
open Ck
open Rk (ir hD kq px sI sK sP sM)
section
variable{L:List aP}{E:List (aP×af)}{cG:Nat}{w0:jf}{p tp:Nat}{tv uv fv nv su su0:af}{sb bf:List Nat}{w w1 wk w2:ai}{s s0:b5}{pl r r2 rc:df}{Q:e7->ai->Prop}{K:bz->b5->df}{b:Bool}{c:Int}{t:bz}{k a f:Nat}{dY:e7}
def zj (x y:bz):Bool:=x !=[]&&(!cv x f'||y==iK)
def Di (a b t:bz):Bool:=a==t&&b==t
def ah2(f1 f2 x y n p q:Bool):((f1||f2)&&x&&y&&!n&&p&&q)=(((x&&p)&&(y&&q))&&!n&&(f1||f2)):=by cases f1<;>cases f2<;>cases x<;>cases y<;>cases n<;>cases p<;>cases q<;>rfl
def JG(a b t:bz){fg na}(fE:aG w ⟨fg,0,none⟩=some (.string (str a)))(fW:aG w ⟨na,0,none⟩=some (.string (str b))):aY 230 #[.string (str t),.pointer (some ⟨fg,0,none⟩),.pointer (some ⟨na,0,none⟩)] w λe w'=>e= .returned (.bool (Di a b t))/\w'=w:=by
 have bh:Hid (Di a b t=(((str a).toList==(str t).toList)&&((str b).toList==(str t).toList))):=A (by unfold Di;rw[mR,mR]);cases ev:((str a).toList==(str t).toList) with
 |false=>
  rw[ev] at bh;go_in;go_wp2;go_returns;exact⟨by rw[bh.o];rfl,rfl⟩
 |true=>
  rw[ev] at bh;generalize G:((str b).toList==(str t).toList)=b2 at*;go_in;go_wp2;go_returns;exact⟨by rw[bh.o];rfl,rfl⟩
def Wj(x y:bz)(w:ai):aY 232 #[x,y] w λe w'=>e= .returned (.bool (zj x y))/\w'=w:=by
 have uE:Hid (∀w',aY 89 #[x,f'] w' λe mh=>e= .returned (.bool (cv x f'))/\mh=w'):=A λw'=>zn x f' w';have bh:Hid (zj x y=(!(str x).toList.isEmpty&&(!cv x f'||((str y).toList==[110,105,108])))):=A (by unfold zj;rw[ir,fC,f_];cases x<;>rfl);generalize cv x f'=F at*;cases aF:(str x).toList.isEmpty with
 |true=>
  rw[aF] at bh;go_in;go_wp2;go_returns;exact⟨by rw[bh.o];rfl,rfl⟩
 |false=>
  rw[aF] at bh;cases F with
  |false=>
   go_in;go_wp2_with fail;refine b7 (uE.o _) ?_;rintro w' rfl;go_wp2;go_returns;exact⟨by rw[bh.o];rfl,rfl⟩
  |true=>
   generalize bx:((str y).toList==[110,105,108])=cj at*;go_in;go_wp2_with fail;refine b7 (uE.o _) ?_;rintro w' rfl;go_wp2;go_returns;exact⟨by rw[bh.o];rfl,rfl⟩
def aec{t}(h: ∃r∈mw,t∈r):(Lib.contains [43,45,42,47,37] t=true/\[[43],[45],[42],[47],[37]].contains t=true)\/(Lib.contains [43,45,42,47,37] t=false/\[[43],[45],[42],[47],[37]].contains t=false/\((t=[38,38]\/t=[124,124])\/(t=[61,61]\/t=[33,61])\/((t==[38,38])=false/\(t==[124,124])=false/\(t==[61,61])=false/\(t==[33,61])=false/\[[60],[60,61],[62],[62,61]].contains t=true))):=by have key: ∀r∈mw,∀t∈r,(Lib.contains [43,45,42,47,37] t=true/\[[43],[45],[42],[47],[37]].contains t=true)\/(Lib.contains [43,45,42,47,37] t=false/\[[43],[45],[42],[47],[37]].contains t=false/\((t=[38,38]\/t=[124,124])\/(t=[61,61]\/t=[33,61])\/((t==[38,38])=false/\(t==[124,124])=false/\(t==[61,61])=false/\(t==[33,61])=false/\[[60],[60,61],[62],[62,61]].contains t=true))):=aN;obtain⟨r,au,bI⟩:=h;exact key r au t bI
def Xp(V:Hid (gY L E cG w0 tp fv nv))(Nt:Hid (∃m,∀w',eO w0 w'->aG w' ⟨4,0,none⟩=some (.int .i64 m)))(U:k<D E)(eh:(Z L k).j'=46)(h:dz L w0 p tp tv uv fv w su sb s){a b}(aR:eB a)(G:eB b):aY 213 #[.pointer (some ⟨p,0,none⟩),.int .i64 (k:Int),.string (str a),.string (str b)] w (jr L w0 p tp tv uv fv kI (λhL _=>eB hL) (binary L k a b s) s su sb w):=by
 obtain⟨g,cA,x,bb,aQ,rfl,cg⟩:=V.o.fe.gQ h.av U;have ax:=cg.Z;have FK:Hid _:=A (aec (t:=x.O) (by
  obtain⟨fc,_,_,wi,_,hm⟩:=V.o.fe.at U;obtain rfl:fc=x:=wi.symm.trans ax;exact V.o.jn.op fc hm (by rw[<-ax];exact eh)))
 have ev:=A aR;have bY:=A G;have gR:=A ((h.alloc (aw #[a] 9)).alloc (aw #[b] 9));have dj:Hid (dS p tv uv su sb w (aA (aA w (aw #[a] 9)) (aw #[b] 9))):=A (dS.below (((aT w w).alloc (bD _) _).alloc bT _));have dx:Hid (∀w',dS p tv uv su sb (aA (aA w (aw #[a] 9)) (aw #[b] 9)) w'->aG w' w.heap.size=some [a]/\aG w' (w.heap.size+1,0)=some [b]):=A λw' aI=>by
  have tM:(aA (aA w (aw #[a] 9)) (aw #[b] 9)).heap[w.heap.size]?=some (aw #[a] 9):=(((aT (aA w (aw #[a] 9)).heap.size (aA w (aw #[a] 9))).alloc (bD _) (aw #[b] 9)).block _ bT).trans (hf w (aw #[a] 9));have lY:(aA (aA w (aw #[a] 9)) (aw #[b] 9)).heap[w.heap.size+1]?=some (aw #[b] 9):=by
   have:=hf (aA w (aw #[a] 9)) (aw #[b] 9);rwa[show(aA w (aw #[a] 9)).heap.size=w.heap.size+1 from by simp] at this
  have fE:=(h.fresh aI (bD _) (by simp;omega)).trans tM;have fW:=(h.fresh aI (Nat.le_succ _) bT).trans lY;exact⟨az fE 0,az fW 0⟩
 obtain⟨m,ajc⟩:=Nt.o;have Ie:=A (λw' G=>strings_Contains (str [43,45,42,47,37]) (str x.O) m w' (by rw[js];decide) (ajc w' G));obtain⟨_,_,_,bU,_⟩:=cg.cells _ gR.o.av;obtain⟨_,_,z0,_,_,eK,_,_⟩:=V.o.eo gR.o.av;obtain⟨b',_,_,_,_,_,_,b9,_⟩:=gR.o.at;have⟨hv,hi⟩:(k:Int)<D E/\(0:Int)<=k:=J;have H:=Pk.bO gR.o (show binary L k a b s=if[[43],[45],[42],[47],[37]].contains x.O then bl (a==g'&&b==g') 8 k g' s
  else if[[60],[60,61],[62],[62,61]].contains x.O then bl (a==g'&&b==g') 8 k e6 s
  else if[[38,38],[124,124]].contains x.O then bl (a==e6&&b==e6) 8 k e6 s
  else bl ((fS L a b||fS L b a)&&a !=[]&&b !=[]&&!(a==iK&&b==iK)&&(!cv a f'||b==iK)&&(!cv b f'||a==iK)) 8 k e6 s from by unfold binary;rw[ax])
 have qk:w.heap.size+1<(aA (aA w (aw #[a] 9)) (aw #[b] 9)).heap.size:=bT;clear aR G;go_in;have Go:=0;go_upto_region 4 with fail
 generalize gT:aA (aA w (aw #[a] 9)) (aw #[b] 9)=w2 at*;generalize anA:w.heap.size=fg at*;generalize anB:fg+1=na at*;obtain⟨y8,rj⟩:=dx.o w2 dS.refl;have dX:Hid (∀w',dS p tv uv su sb w2 w'->aG w' p=some (tp,0)->aG w' p=some (tp,0)/\aG w' fg=some [a]/\aG w' na=some [b]):=A λw' aI aH=>⟨aH,(dx.o w' aI).1,(dx.o w' aI).2⟩;go_wp2;refine b7 (Ie.o _ gR.o.av) ?_;rintro w2 rfl;obtain⟨tP,ho⟩|⟨tP,ho,dT⟩:=FK.o
 .rw[show Lib.contains (str [43,45,42,47,37]).data.toList (str x.O).data.toList=true from tP];rw[aS ho] at H;go_wp2;refine b7 (JG a b g' y8 rj) ?_;rintro w' rfl;go_wp2;have H:=eP (jU _ _ _ _ _) H;refine hh V U rfl (λbS _ eA=>?_) (H:=H);go_wp2;go_returns;exact ju dj.o (fs (show eB g' from eB.int) eA)
 .rw[show Lib.contains (str [43,45,42,47,37]).data.toList (str x.O).data.toList=false from tP];rw[ao (by rw[ho];decide)] at H;obtain dT|dT|⟨dq,cR,n3,n4,dT⟩:=dT
  .have a_:((str x.O).toList==[38,38])=true\/((str x.O).toList==[38,38])=false/\((str x.O).toList==[124,124])=true:=by
    rw[ir,ir];rcases dT with e|e<;>rw[e]
    .exact .inl rfl
    .exact .inr ⟨rfl,rfl⟩
   have H:=eP (show _=bl (a==e6&&b==e6) 8 k e6 s by rcases dT with e|e<;>rw[e]<;>rfl) H;obtain hp|⟨hp,kd⟩:=a_
   all_goals
    go_wp2;refine b7 (JG a b e6 y8 rj) ?_;rintro w' rfl;go_wp2;have H:=eP (jU _ _ _ _ _) H;refine hh V U rfl (λbS _ eA=>?_) (H:=H);go_wp2;go_returns;exact ju dj.o (fs (show eB e6 from eB.bool) eA)
  .have a_:((str x.O).toList==[38,38])=false/\((str x.O).toList==[124,124])=false/\(((str x.O).toList==[61,61])=true\/((str x.O).toList==[61,61])=false/\((str x.O).toList==[33,61])=true):=by
    rw[ir,ir,ir,ir];rcases dT with e|e<;>rw[e]
    .exact⟨rfl,rfl,.inl rfl⟩
    .exact⟨rfl,rfl,.inr ⟨rfl,rfl⟩⟩
   have H:=eP (show _=bl ((zj a b&&zj b a)&&!Di a b iK&&(fS L a b||fS L b a)) 8 k e6 s by
    unfold zj Di;rw[<-ah2];rcases dT with e|e<;>rw[e]<;>rfl) H
   have H:=eP (jU _ _ _ _ _) H;obtain⟨hp,kd,a_⟩:=a_;obtain y3|⟨y3,y4⟩:=a_
   all_goals
    obtain⟨b',_,_,_,_,_,b9,_⟩:=dL H;go_wp2;have H:=dE H (aT _ _).drew;refine jT 36 (λw'=>aG w' p=some (tp,0)/\aG w' fg=some [a]/\aG w' na=some [b]) (dX.o _ (cY H) (dL H).1) λaD=>?_;generalize w2.drew=bc at*;refine ae 0 ?_;refine ae 1 ?_;refine ae 2 ?_;refine ae 3 ?_;refine ae 34 ?_;refine cT 4 λK ab=>?_;go_simp;refine b7 (Wj a b _) ?_;rintro w' rfl;go_wp2;refine ab.o _ _ (λ_=>aD) ?_;generalize zj a b=acI at*;cases acI with
    |false=>
     refine ae 5 ?_;refine bt 6 ?_;refine bt 7 ?_;refine bt 8 ?_;refine bt 9 ?_;refine ae 10 ?_;refine ae 11 ?_;refine bt 12 ?_;refine bt 13 ?_;refine bt 14 ?_;refine ae 15 ?_;refine ae 16 ?_;refine bt 17 ?_;refine bt 18 ?_;refine bt 19 ?_;refine bt 20 ?_;refine bt 21 ?_;refine bt 22 ?_;refine bt 23 ?_;refine bt 24 ?_;refine bt 25 ?_;refine bt 26 ?_;refine bt 27 ?_;refine bt 28 ?_;refine bt 29 ?_;refine bt 30 ?_;refine bt 31 ?_;refine bt 32 ?_;refine ae 33 ?_;refine cT 35 λK ab=>?_;go_simp;refine hh V U rfl (λcp b8 la=>?_) (H:=H);cases b8
    |true=>
     refine ae 5 ?_;refine ae 6 ?_;refine ae 7 ?_;refine ae 8 ?_;refine cT 9 λK ab=>?_;go_simp;refine b7 (Wj b a _) ?_;rintro w' rfl;go_wp2;refine ab.o _ _ (λ_=>aD) ?_;generalize zj b a=acJ at*;cases acJ with
     |false=>
      refine ae 10 ?_;refine ae 11 ?_;refine bt 12 ?_;refine bt 13 ?_;refine bt 14 ?_;refine ae 15 ?_;refine ae 16 ?_;refine bt 17 ?_;refine bt 18 ?_;refine bt 19 ?_;refine bt 20 ?_;refine bt 21 ?_;refine bt 22 ?_;refine bt 23 ?_;refine bt 24 ?_;refine bt 25 ?_;refine bt 26 ?_;refine bt 27 ?_;refine bt 28 ?_;refine bt 29 ?_;refine bt 30 ?_;refine bt 31 ?_;refine bt 32 ?_;refine ae 33 ?_;refine cT 35 λK ab=>?_;go_simp;refine hh V U rfl (λcp b8 la=>?_) (H:=H);cases b8
     |true=>
      refine ae 10 ?_;refine ae 11 ?_;refine ae 12 ?_;refine cT 13 λK ab=>?_;go_simp;refine b7 (JG a b iK aD.2.1 aD.2.2) ?_;rintro w' rfl;go_wp2;refine ab.o _ _ (λ_=>aD) ?_;generalize Di a b iK=N at*;cases N with
      |true=>
       refine ae 14 ?_;refine ae 15 ?_;refine ae 16 ?_;refine bt 17 ?_;refine bt 18 ?_;refine bt 19 ?_;refine bt 20 ?_;refine bt 21 ?_;refine bt 22 ?_;refine bt 23 ?_;refine bt 24 ?_;refine bt 25 ?_;refine bt 26 ?_;refine bt 27 ?_;refine bt 28 ?_;refine bt 29 ?_;refine bt 30 ?_;refine bt 31 ?_;refine bt 32 ?_;refine ae 33 ?_;refine cT 35 λK ab=>?_;go_simp;refine hh V U rfl (λcp b8 la=>?_) (H:=H);cases b8
      |false=>
       refine ae 14 ?_;refine ae 15 ?_;refine ae 16 ?_;refine ae 17 ?_;refine ae 18 ?_;refine ae 19 ?_;refine ae 20 ?_;refine ae 21 ?_;refine ae 22 ?_;refine cT 23 λK ab=>?_;go_simp;refine pH (V.o.fits H.o.av ev.o bY.o) (λbm eH=>?_) H;generalize fS L a b=XI at*;go_wp2;refine ab.o _ _ (λ_=>dX.o _ (cY eH) (dL eH).1) ?_;have aD:=dX.o _ (cY eH) (dL eH).1;have H:=eH;cases XI with
       |true=>
        refine ae 24 ?_;refine bt 25 ?_;refine bt 26 ?_;refine bt 27 ?_;refine bt 28 ?_;refine bt 29 ?_;refine bt 30 ?_;refine bt 31 ?_;refine ae 32 ?_;refine ae 33 ?_;refine cT 35 λK ab=>?_;go_simp;refine hh V U rfl (λcp b8 la=>?_) (H:=H);go_wp2;refine ab.o _ _ (λ_=>dX.o _ (cY la) (dL la).1) ?_;refine bV ?_;go_wp2;go_returns;exact ju dj.o (fs (show eB e6 from eB.bool) la)
       |false=>
        refine ae 24 ?_;refine ae 25 ?_;refine ae 26 ?_;refine ae 27 ?_;refine ae 28 ?_;refine ae 29 ?_;refine ae 30 ?_;refine cT 31 λK ab=>?_;go_simp;refine pH (V.o.fits H.o.av bY.o ev.o) (λbm eH=>?_) H;generalize fS L b a=yl at*;go_wp2;refine ab.o _ _ (λ_=>dX.o _ (cY eH) (dL eH).1) ?_;have aD:=dX.o _ (cY eH) (dL eH).1;have H:=eH;refine ae 32 ?_;refine ae 33 ?_;refine cT 35 λK ab=>?_;go_simp;refine hh V U rfl (λcp b8 la=>?_) (H:=H);go_wp2;refine ab.o _ _ (λ_=>dX.o _ (cY la) (dL la).1) ?_;refine bV ?_;go_wp2;go_returns;exact ju dj.o (fs (show eB e6 from eB.bool) la)
  .have hp:((str x.O).toList==[38,38])=false:=(by rw[ir];exact dq);have kd:((str x.O).toList==[124,124])=false:=(by rw[ir];exact cR);have y3:((str x.O).toList==[61,61])=false:=(by rw[ir];exact n3);have y4:((str x.O).toList==[33,61])=false:=(by rw[ir];exact n4);rw[aS dT] at H;go_wp2;refine b7 (JG a b g' y8 rj) ?_;rintro w' rfl;go_wp2;have H:=eP (jU _ _ _ _ _) H;refine hh V U rfl (λbS _ eA=>?_) (H:=H);go_wp2;go_returns;exact ju dj.o (fs (show eB e6 from eB.bool) eA)
open Rk (yv ir KA hD kq px sI sK sP sM)
def AB{q6}(aI:dS p tv uv su0 sb w1 w2)(aR:At su0 q6 w1)(H:Hid (du L w0 p tp tv uv fv q6 sb w2 s0 pl sb wk s r)):Hid (du L w0 p tp tv uv fv su0 sb w1 s0 pl sb wk s r):=by obtain⟨su,R,T,ah⟩:=H.o.st;exact A ⟨⟨su,R,aI.trans aR T,aR.trans aI.size ah⟩,⟨[],(lU _).symm,λ_ h=>nomatch h⟩,H.o.gn,H.o.eq⟩
def TZ{fX u l}(H:Hid (du L w0 p tp tv uv fv su0 sb w1 s0 pl sb wk s r))(aB:wk.grownBy w2 u.ownBlock)(hu:db fX wk u l)(R:w1.heap.size<=fX)(aH:w0.heap.size<=fX)(hy: ∀b,tv.ownBlock=some b->b<fX):Hid (du L w0 p tp tv uv fv su0 sb w1 s0 pl sb w2 s r):=by
 obtain⟨su,h,aI,aR⟩:=H.o.st;have bN:=eI hu;have Aw: ∀b,u.ownBlock=some b-> ∃c,wk.heap[b]?=some (.cells c 9 (0,0)):=λb G=>by
  obtain⟨bQ,_⟩|⟨g2,cap,cur,bQ,_,hc,_⟩:=hu.2
  .rw[bQ] at G;cases G
  .rw[bQ] at G;rw[<-show g2=b from gZ G];exact⟨_,hc⟩
 have key: ∀{N e n:Nat} {v:af} {xs:List af},wk.ownsRow N e 1 v n xs->(9≠e\/ ∀b,v.ownBlock=some b->b<fX)->w2.ownsRow N e 1 v n xs:=λ{N e n v xs} bX aZ=>by
  refine⟨bX.1,?_⟩;obtain aH|⟨g,cap,cur,rfl,hN,G,au⟩:=bX.2
  .exact .inl aH
  .refine .inr ⟨g,cap,cur,rfl,hN,(aB.block g (bd G) λag=>?_).trans G,au⟩;obtain⟨c,hc⟩:=Aw g ag.symm;obtain aZ|aZ:=aZ
   .rw[G] at hc;cases hc;exact aZ rfl
   .have:=aZ g rfl;have:=(bN g ag.symm).1;omega
 have aJ:w2.heap[p]?=wk.heap[p]?:=aB.block p (bd h.blk) λag=>by
  obtain⟨c,hc⟩:=Aw p ag.symm;rw[h.blk] at hc;cases hc
 refine A ⟨⟨su,⟨h.av.grown aB h.av.size λk U=>hg aH (bN k U).1,aJ.trans h.blk,key h.ty (.inr hy),key h.us (.inl aN),key h.sc (.inl aN),h.mp.move λb G=>aB.block b (h.mp.lt G) λag=>?_,h.rw,h.aJ,h.o2,h.xX⟩,⟨hg aI.size aB.size,λb G g1 g2 g3 g4 g5=>(aB.block b (kv G aI.size) λag=>?_).trans (aI.gP b G g1 g2 g3 g4 g5)⟩,aR⟩,H.o.ex,H.o.gn,H.o.eq⟩
 .obtain⟨c,hc⟩:=Aw b ag.symm;exact h.mp.ne G hc rfl
 .have:=(bN b ag.symm).1;omega
def bq(h:dz L w0 p tp tv uv fv wk su sb s)(H:Hid (du L w0 p tp tv uv fv su0 sb w1 s0 pl sb wk s r)):Hid (du L w0 p tp tv uv fv su sb wk s0 pl sb wk s r):=A ⟨⟨su,h,dS.refl,At.refl⟩,⟨[],(lU _).symm,λ_ h=>nomatch h⟩,H.o.gn,H.o.eq⟩
def s4(bI:eB t)(h:(Z L k).j'≠36):sA L k t s:=⟨bI,λe=>absurd e h⟩
def Zu(V:Hid (gY L E cG w0 tp fv nv))(U:k<D E)(nB:k<=f)(hc:ct 1 (Z L k).j'=true)(dy:Hid (∀j,j<k->rS L w0 p tp tv uv fv j f))
 (HYtjfkhpkicioakaaGreatDoor:Hid ((Z L k).j'=36-> ∀w su s,dz L w0 p tp tv uv fv w su sb s->aY 210 #[(p,0),k] w (jr L w0 p tp tv uv fv kI (sA L k) (named L k s) s su sb w)))
 (Yo:Hid ((Z L k).j'=46-> ∀w su s a b,dz L w0 p tp tv uv fv w su sb s->eB a->eB b->aY 213 #[(p,0),k,a,b] w (jr L w0 p tp tv uv fv kI (λhL _=>eB hL) (binary L k a b s) s su sb w)))
 (h:dz L w0 p tp tv uv fv w su sb s)(ho:pb sb s k):aY 186 #[(p,0),k] w (jr L w0 p tp tv uv fv kI (sA L k) (typed L (bE L f) k s) s su sb w):=by
 obtain⟨g,cA,x,bb,aQ,rfl,cg⟩:=V.o.fe.gQ h.av U;have br:=A cg;have ax:=cg.Z;have kP:Hid (∀i,bM L k i=Y x.I i 0):=A λi=>by unfold bM;rw[ax]
 rw[ax] at hc;have qt:Hid (x.j'=33\/x.j'=34\/x.j'=35\/x.j'=36\/x.j'=37\/x.j'=38\/x.j'=39\/x.j'=40\/x.j'=41\/x.j'=42\/x.j'=43\/x.j'=44\/x.j'=45\/x.j'=46):=A (by
  unfold ct at hc;simp at hc;omega)
 have hI:=A ho;have iM:=A cg.ly.len;obtain⟨dY,ag,aE,bU,cL⟩:=cg.cells w h.av;obtain⟨_,_,z0,_,_,eK,_,_⟩:=V.o.eo h.av;obtain⟨b',_,_,_,_,_,_,b9,_⟩:=h.at;have⟨hv,hi⟩:(k:Int)<D E/\(0:Int)<=k:=J;obtain⟨H1,cJ,qk,dx⟩:=LJ h x bb aQ;have ur:=cg.fA.1;have Ny:Hid (D L=D E):=A V.o.pF;clear h ax hc cg ho;go_in;have Go:=0;go_upto_region 2 with fail
 clear dY ag aE bU cL b' b9 z0 eK hv hi;generalize fp:aA w (hb x bb aQ)=w1 at*;generalize w.heap.size=q at*;clear fp;obtain⟨cF,ml,iS,dO,hM⟩:=dx.o w1 dS.refl;have hV:Hid (∀(cs:List Nat),B.pat x.j' x.aX (D x.I)=cs-> ∀i,i<D cs->i<D x.I/\Y x.I i 0<k/\ct (Y cs i 0) (Z L (Y x.I i 0)).j'=true):=A λcs aJ i ay=>by
  have hl:i<D x.I:=by rw[iM.o,aJ];exact ay
  have:=br.o.at hl;rw[aJ] at this;exact⟨hl,this⟩
 have mc:Hid (∀e,x.j'=e->(Z L k).j'=e):=A λe he=>by rw[br.o.Z];exact he
 by_cases ev:x.j'=37\/x.j'=38\/x.j'=39\/x.j'=43\/x.j'=44\/x.j'=45\/x.j'=46
 .have H:=Pk.bO H1.o (show typed L (bE L f) k s=args L (bE L f) (decide (x.j'=39)) (after L k) x.I 0 [] s by
   unfold typed;rw[br.o.Z,ao J,ao J,ao J,ao J,ao J,ao J,ao J])
  have jd:Hid ((Z L k).j'≠36):=A (by rw[br.o.Z];omega);have E2:=A ev;have Ig:(x.j'==33)=false:=by rcases ev with h|h|h|h|h|h|h<;>rw[h]<;>rfl
  have E3:(x.j'==34)=false:=by rcases ev with h|h|h|h|h|h|h<;>rw[h]<;>rfl
  have Cu:(x.j'==35)=false:=by rcases ev with h|h|h|h|h|h|h<;>rw[h]<;>rfl
  have CG:(x.j'==36)=false:=by rcases ev with h|h|h|h|h|h|h<;>rw[h]<;>rfl
  have uO:(x.j'==40)=false:=by rcases ev with h|h|h|h|h|h|h<;>rw[h]<;>rfl
  have tn:(x.j'==41)=false:=by rcases ev with h|h|h|h|h|h|h<;>rw[h]<;>rfl
  have CH:(x.j'==42)=false:=by rcases ev with h|h|h|h|h|h|h<;>rw[h]<;>rfl
  have ou:Hid (∀b,tv.ownBlock=some b->b<w1.heap.size):=A λb G=>(eI H1.o.ty b G).2;have E4:=A H1.o.av.size;have rq:=br.o.fA.2;clear ev;go_wp2;clear Ig E3 Cu CG uO tn CH cF ml iS dO hM;go_loopg[8,106] (D x.I) (λr l i wr=> ∃(j:Nat) (aq:b5) (d':List bz),j+r=D x.I/\i= j/\Hid (db w1.heap.size wr l d')/\Hid (D d'=j/\ ∀y∈d',eB y)/\Hid (du L w0 p tp tv uv fv su sb w1 s (typed L (bE L f) k s) sb wr aq (args L (bE L f) (decide (x.j'=39)) (after L k) (x.I.drop j) j d' aq)))
  case atStart=>exact⟨0,s,[],by omega,rfl,A (n7 _ _ _ _),A ⟨rfl,λy bx=>by cases bx⟩,H⟩
  case round=>
   obtain⟨j,aq,d',bg,rfl,cM,cz,eU⟩:=hrel;clear H;have H:=eU;clear eU;generalize wr=bH at*;obtain⟨pE,lc,rfl⟩:=eR cM.o rfl;obtain⟨cF,_,_,_,hM⟩:=dx.o bH (cY H);by_cases cr:j<D x.I
   .have⟨j3,me⟩:(j:Int)<D x.I/\(0:Int)<=j:=J;have hK:IntKind.i64.wrap (j+1)=j+1:=dI _ J;obtain⟨g2,rfl,cu⟩:=br.o.bM bH j H.o.av cr;have E6:=A (br.o.at cr);have Fk:Hid (x.I.drop j=Y x.I j 0::x.I.drop (j+1)):=A (by rw[kS cr,cd,cE cr];rfl);have DL:Hid (D d'<=1000000000000):=A (by have:=cz.o.1;omega);obtain⟨q6,nd,oC,oD⟩:=H.o.st;have kc:Hid (∀w',dS p tv uv q6 sb bH w'->db w1.heap.size w' (pE,D d',lc) d'):=A λw' aI=>nd.row aI cM.o ou.o;have eA:=bq nd H;have oC:=A oC;have oD:=A oD;have FH:Hid ((x.j'=39/\j=1->1<=(Z L (Y x.I j 0)).j'/\(Z L (Y x.I j 0)).j'<=6)/\(¬(x.j'=39/\j=1)->ct 1 (Z L (Y x.I j 0)).j'=true)):=A (by
     have T:=E6.o.2;refine⟨λ⟨ah,bJ⟩=>?_,λah=>?_⟩
     .rw[ah] at T;subst bJ;simpa[ct,B.pat] using T
     .have aJ:Y (B.pat x.j' x.aX (D x.I)) j 0=1:=by
       have hR:=iM.o;rcases E2.o with h|h|h|h|h|h|h<;>rw[h] at hR|-
       .obtain rfl:j=0:=(by rw[hR] at cr;exact Nat.lt_one_iff.1 cr);rfl
       .show(ef (max (D x.I) 1) 1).getD j 0=1;rw[cd,ku,aS J];rfl
       .have:j<2:=(by rw[hR] at cr;exact cr);obtain rfl:j=0:=J;rfl
       .obtain rfl:j=0:=(by rw[hR] at cr;exact Nat.lt_one_iff.1 cr);rfl
       .obtain rfl:j=0:=(by rw[hR] at cr;exact Nat.lt_one_iff.1 cr);rfl
       .obtain rfl:j=0:=(by rw[hR] at cr;exact Nat.lt_one_iff.1 cr);rfl
       .have:j<2:=(by rw[hR] at cr;exact cr);rcases(by omega:j=0\/j=1) with rfl|rfl<;>rfl
      rwa[aJ] at T)
    have mE:=E6.o.1;clear nd H;by_cases nX:x.j'=39/\j=1
    .have q8:=FH.o.1 nX;have AD:(x.j'==39)=true:=(by simp[nX.1]);have Oe:((j:Int)==1)=true:=(by simp[nX.2]);have H:=eP (show _=(bE L f .typ (Y x.I j 0) aq).M λ_ bA=>args L (bE L f) (decide (x.j'=39)) (after L k) (x.I.drop (j+1)) (j+1) (d'++[B.O L (Y x.I j 0)]) bA by
      rw[Fk.o];show(if(decide (x.j'=39)&&j==1)=true then _ else _)=_;rw[aS (by simp[nX.1,nX.2])]) eA
     clear nX eA;generalize Y x.I j 0=a at*;have q7:a<D E:=J;have lt:=V.o.jn.gG (k:=a) (by rw[Ny.o];exact q7) J;go_wp2;refine Bv V (kv mE nB) ⟨q7,.inl q8,λ_=>q8.2⟩ (λ_ w2 bA H=>?_) (H:=H);clear cF hM cu;obtain⟨b',_,_,_,_,_,b9,_⟩:=dL H;go_wp2;refine pH (V.o.O H.o.av q7) (λbm eH=>?_) H;have iN:=A (kc.o bm (cY eH));clear H b' b9;have H:=AB oC.o oD.o eH;clear eH;generalize B.O L a=cb at*;have mI:=A (cY H).size;have z:=A (λa6 gl=>TZ (w2:=a6) (dE H ((aT bm bm).alloc (bD _) (aw #[cb] 9))) gl (fZ iN.o ((aT _ _).alloc (bD _) _) λk U=>(eI iN.o k U).2) (bD _) E4.o ou.o);go_wp2_with(at_builtin;refine Rk.yv cb DL.o mI.o iN.o (λjE og a6 fT gl=>?_);have jm:=A fT;have nG:=z.o a6 gl;clear fT gl)
     go_wp2;go_roundg (D x.I-(j+1))
     case rel=>exact⟨j+1,bA,d'++[cb],by omega,by go_num,jm,A ⟨by rw[dW,cz.o.1];rfl,λy bx=>(List.mem_append.1 bx).elim (cz.o.2 y) λe=>by rw[List.mem_singleton.1 e];exact lt⟩,nG⟩
     case measure=>omega
    .have q8:=FH.o.2 nX;have oM:((x.j'==39)=false)\/((x.j'==39)=true/\((j:Int)==1)=false):=by
      by_cases h:x.j'=39
      .exact .inr ⟨by simp[h],by have: ¬j=1:=λe=>nX ⟨h,e⟩;simp;omega⟩
      .exact .inl (by simp[h])
     have H:=eP (show _=(bE L f .b6 (Y x.I j 0) aq).M λt bA=>args L (bE L f) (decide (x.j'=39)) (after L k) (x.I.drop (j+1)) (j+1) (d'++[t]) bA by
      rw[Fk.o];show(if(decide (x.j'=39)&&j==1)=true then _ else _)=_;rw[ao (by simp;exact λh=>λe=>nX ⟨h,e⟩)]) eA
     clear nX eA;generalize Y x.I j 0=a at*;obtain AD|⟨AD,Oe⟩:=oM
     all_goals
      go_wp2;refine DO dy hI ⟨mE,q8⟩ (λt bm bA hT _ eH=>?_) (H:=H);have lt:=hT.1;have iN:=A (kc.o bm (cY eH));clear H cF hM cu hT;have H:=AB oC.o oD.o eH;clear eH;have mI:=A (cY H).size;have z:=A (λa6 gl=>TZ (w2:=a6) (dE H ((aT bm bm).alloc (bD _) (aw #[t] 9))) gl (fZ iN.o ((aT _ _).alloc (bD _) _) λk U=>(eI iN.o k U).2) (bD _) E4.o ou.o);go_wp2_with(at_builtin;refine Rk.yv t DL.o mI.o iN.o (λjE og a6 fT gl=>?_);have jm:=A fT;have nG:=z.o a6 gl;clear fT gl)
      go_wp2;go_roundg (D x.I-(j+1))
      case rel=>exact⟨j+1,bA,d'++[t],by omega,by go_num,jm,A ⟨by rw[dW,cz.o.1];rfl,λy bx=>(List.mem_append.1 bx).elim (cz.o.2 y) λe=>by rw[List.mem_singleton.1 e];exact lt⟩,nG⟩
      case measure=>omega
   .obtain rfl:j=D x.I:=J;have H:=eP (show _=after L k d' aq by rw[rW];rfl) H;have ag0:=cM.o.max;have kc:Hid (∀w',aL bH bH w'->db w1.heap.size w' (pE,D d',lc) d'):=A λw' G=>fZ cM.o G λk U=>(eI cM.o k U).2;obtain e|e|e|e|e|e|e:=E2.o
    all_goals
     have eh:=mc.o _ e;rw[e] at cF
    .have ec:0<D d':=(by rw[cz.o.1,iM.o,e];exact oI _);obtain⟨kj,kg,ft⟩:=dR cM.o ec;cases ft;have z0:=h3 cM.o rfl ec;have hj:=A (cz.o.2 (Y d' 0 []) (by rw[cd,cE ec];exact im ec));have s6:(0:Int)<D d':=J;have H:=eP (show _=dot L k (Y d' 0 []) aq by unfold after;rw[aS eh]) H;clear e ec;generalize Y d' 0 []=t0 at*;go_wp2;refine Da (val:=kI) (λsu h=>ack V U eh h hj.o) (λt w2 s2 hT _ H=>?_) (by intro c j w2 bZ bY;replace bZ:=A bZ;unfold gS;go_wp2;exact⟨rfl,kZ (k:=j) bZ.o bY⟩) H;unfold kI;go_wp2;go_returns;exact ju cJ.o (fs (s4 hT jd.o) H)
    .have ec:0<D d':=(by have R:=cz.o.1;have T:=iM.o;rw[e] at T;have ah:D (B.pat 38 x.aX (D x.I))=max (D x.I) 1:=wg;omega);obtain⟨kj,kg,ft⟩:=dR cM.o ec;cases ft;have z0:=h3 cM.o rfl ec;have hj:=A (cz.o.2 (Y d' 0 []) (by rw[cd,cE ec];exact im ec));have s6:(0:Int)<D d':=J;have H:=eP (show _=call L k d' aq by unfold after;rw[ao J,aS eh]) H;have UA:D d'<=lc:=by
      obtain⟨aH,_⟩|⟨_,_,_,aH,_,_,R,_⟩:=cM.o.2
      .cases aH
      .cases aH;exact R
     have⟨AN,uq⟩:(1:Int)<=D d'/\(D d':Int)<=lc:=J;have anh:1<=D d':=ec;have Yl:=A ec;obtain⟨q6,nd,oC,oD⟩:=H.o.st;have sw:Hid (∀w',dS p tv uv q6 sb bH w'->aG w' kj=some [Y d' 0 []]):=A λw' aI=>h3 (nd.row aI cM.o ou.o) rfl ec;have H:=bq nd H;have oC:=A oC;have oD:=A oD;obtain⟨t0,s5⟩: ∃t0,Y d' 0 []=t0:=⟨_,rfl⟩;rw[s5] at z0 sw;have Cq:=A s5;clear s5 hj;have vF:Hid (2<=D d'->(if lc=1 then some (⟨kj,0,none⟩:Addr) else some ⟨kj,1,none⟩)=some ⟨kj,1,none⟩):=A λh=>ao J;clear e nd;go_wp2;have iN:=A (kc.o _ (aT _ _).drew);have H:=dE H (aT _ _).drew;refine jT 9 (λw'=>aG w' kj=some [t0]) (sw.o _ (cY H)) λaD=>?_;clear z0 cF hM;generalize bH.drew=w2 at*;refine ae 0 ?_;refine ae 1 ?_;refine ae 2 ?_;refine ae 3 ?_;refine ae 4 ?_;refine ae 5 ?_;refine ae 6 ?_;refine cT 7 λK ab=>?_;go_simp;generalize(if lc=1 then some (⟨kj,0,none⟩:Addr) else some ⟨kj,1,none⟩)=ad at*;rw[<-Cq.o];refine Da (val:=kI) (λsu h=>aaz V (A λw t h G=>Zq w t h G) U h vF iN.o ou.o Yl.o cz.o.2) (λt bc bA hT _ H=>?_) (by intro c j w2 bZ bY;replace bZ:=A bZ;unfold gS;go_wp2;exact⟨rfl,kZ (k:=j) bZ.o bY⟩) H;have hT:=A hT;unfold kI;go_wp2;refine ab.o _ _ (λ_=>sw.o _ (cY H)) ?_;clear ab K aD;have aD:=sw.o _ (cY H);refine ae 8 ?_;refine bV ?_;go_wp2;go_returns;exact ju cJ.o (fs (s4 hT.o jd.o) (AB oC.o oD.o H))
    .have ec:0<D d':=(by rw[cz.o.1,iM.o,e];exact oI _);obtain⟨kj,kg,ft⟩:=dR cM.o ec;cases ft;have z0:=h3 cM.o rfl ec;have hj:=A (cz.o.2 (Y d' 0 []) (by rw[cd,cE ec];exact im ec));have s6:(0:Int)<D d':=J;have qe:1<D d':=(by rw[cz.o.1,iM.o,e];exact Nat.lt_succ_self 1);have lB:=h3 cM.o rfl qe;have ck:=A (cz.o.2 (Y d' 1 []) (by rw[cd,cE qe];exact im qe));have Lk:(1:Int)<D d':=J;have H:=eP (show _=(bl (decide (0<=c7 L 12 (Y d' 0 []))&&cv (Y d' 1 []) [42]&&fS L (Y d' 1 []) (Y d' 0 [])) 8 k [] aq).M λ_ s=> .ok (Y d' 1 []) s by
      unfold after;rw[ao J,ao J,aS eh];unfold bl;split<;>rfl) H
     obtain⟨q6,nd,oC,oD⟩:=H.o.st;have sw:Hid (∀w',dS p tv uv q6 sb bH w'->aG w' kj=some [Y d' 0 []]/\aG w' (kj,1)=some [Y d' 1 []]):=A λw' aI=>⟨h3 (nd.row aI cM.o ou.o) rfl ec,h3 (nd.row aI cM.o ou.o) rfl qe⟩;have H:=bq nd H;have oC:=A oC;have oD:=A oD;have alT:=ec;clear e eh nd;generalize Y d' 0 []=t0 at*;generalize Y d' 1 []=t1 at*;obtain⟨b',_,_,_,_,_,b9,_⟩:=dL H;obtain⟨v1,v2,fx,hp,kd,eK,⟨dq,m1⟩,cR,m2⟩:=V.o.eo H.o.av;have UP:D t0<=dc:=(by have:=hj.o.1;unfold dc;omega);have l2:=(m2.below (aT bH bH).drew).qK rO (rP bH.drew) UP;rw[wy] at l2;generalize(fk L 12 (D L) t0).getD (0:Int)=V2 at*;have uE:Hid (∀w',aY 89 #[t1,.string (str [42])] w' λe mh=>e= .returned (.bool (cv t1 [42]))/\mh=w'):=A λw'=>zn t1 [42] w';have H:=dE H (aT _ _).drew;have dX:Hid (∀w',dS p tv uv q6 sb bH w'->aG w' p=some (tp,0)->aG w' p=some (tp,0)/\aG w' kj=some [t0]/\aG w' (kj,1)=some [t1]):=A λw' aI aH=>⟨aH,(sw.o w' aI).1,(sw.o w' aI).2⟩;clear m1 m2 UP;generalize decide (0<=c7 L 12 t0)=rQ at*;generalize cv t1 [42]=S at*;go_wp2;go_region
     go_wp2;clear l2 b' b9 fx hp kd eK cF hM z0 lB;generalize bH.drew=w2 at*;have H:=dE H (aT _ _).drew;refine jT 23 (λw'=>aG w' p=some (tp,0)/\aG w' kj=some [t0]/\aG w' (kj,1)=some [t1]) (dX.o _ (cY H) (dL H).1) λaD=>?_;generalize w2.drew=bc at*;cases rQ with
     |false=>
      refine ae 0 ?_;refine ae 1 ?_;refine ae 2 ?_;refine ae 21 ?_;refine bt 3 ?_;refine bt 4 ?_;refine bt 5 ?_;refine bt 6 ?_;refine ae 7 ?_;refine ae 8 ?_;refine bt 9 ?_;refine bt 10 ?_;refine bt 11 ?_;refine bt 12 ?_;refine bt 13 ?_;refine bt 14 ?_;refine bt 15 ?_;refine bt 16 ?_;refine bt 17 ?_;refine bt 18 ?_;refine bt 19 ?_;refine ae 20 ?_;refine cT 22 λK ab=>?_;go_simp;refine hh V U rfl (λbS b8 eA=>?_) (H:=H);cases b8
     |true=>
      refine ae 0 ?_;refine ae 1 ?_;refine ae 2 ?_;refine ae 21 ?_;refine ae 3 ?_;refine ae 4 ?_;refine ae 5 ?_;refine cT 6 λK ab=>?_;go_simp;refine b7 (uE.o _) ?_;rintro w' rfl;go_wp2;refine ab.o _ _ (λ_=>aD) ?_;clear ab K;cases S with
      |false=>
       refine ae 7 ?_;refine ae 8 ?_;refine bt 9 ?_;refine bt 10 ?_;refine bt 11 ?_;refine bt 12 ?_;refine bt 13 ?_;refine bt 14 ?_;refine bt 15 ?_;refine bt 16 ?_;refine bt 17 ?_;refine bt 18 ?_;refine bt 19 ?_;refine ae 20 ?_;refine cT 22 λK ab=>?_;go_simp;refine hh V U rfl (λbS b8 eA=>?_) (H:=H);cases b8
      |true=>
       refine ae 7 ?_;refine ae 8 ?_;refine ae 9 ?_;refine ae 10 ?_;refine ae 11 ?_;refine ae 12 ?_;refine ae 13 ?_;refine ae 14 ?_;refine ae 15 ?_;refine ae 16 ?_;refine ae 17 ?_;refine ae 18 ?_;refine cT 19 λK ab=>?_;go_simp;refine pH (V.o.fits H.o.av ck.o hj.o) (λbm eH=>?_) H;clear H;generalize fS L t1 t0=F at*;go_wp2;refine ab.o _ _ (λ_=>dX.o _ (cY eH) (dL eH).1) ?_;clear ab K aD;have aD:=dX.o _ (cY eH) (dL eH).1;refine ae 20 ?_;refine cT 22 λK ab=>?_;go_simp;refine hh V U rfl (λb4 b8 hB=>?_) (H:=eH);clear eH b8;go_wp2;refine ab.o _ _ (λ_=>dX.o _ (cY hB) (dL hB).1) ?_;clear ab K aD;refine bV ?_;obtain⟨_,_,lB⟩:=dX.o _ (cY hB) (dL hB).1;go_wp2;go_returns;exact ju cJ.o (fs (s4 ck.o jd.o) (AB oC.o oD.o hB))
    .have ec:0<D d':=(by rw[cz.o.1,iM.o,e];exact oI _);obtain⟨kj,kg,ft⟩:=dR cM.o ec;cases ft;have z0:=h3 cM.o rfl ec;have hj:=A (cz.o.2 (Y d' 0 []) (by rw[cd,cE ec];exact im ec));have s6:(0:Int)<D d':=J;have H:=eP (show _=(bl (Y d' 0 []==e6) 8 k [] aq).M λ_ s=> .ok e6 s by
      unfold after;rw[ao J,ao J,ao J,aS eh];unfold bl;split<;>rfl) H
     have AE:Hid ((Y d' 0 []==e6)=((str (Y d' 0 [])).toList==[98,111,111,108])):=A (by rw[ir];rfl);obtain⟨q6,nd,oC,oD⟩:=H.o.st;have sw:Hid (∀w',dS p tv uv q6 sb bH w'->aG w' kj=some [Y d' 0 []]):=A λw' aI=>h3 (nd.row aI cM.o ou.o) rfl ec;have H:=bq nd H;have oC:=A oC;have oD:=A oD;clear e eh ec nd;generalize Y d' 0 []=t0 at*;go_wp2;refine hh V U AE.o.symm (λbS b8 eA=>?_) (H:=H);have s5:t0=e6:=(by simpa using b8);subst s5;clear b8 H z0;have z0:=sw.o bS (cY eA);go_wp2;go_returns;exact ju cJ.o (fs (s4 hj.o jd.o) (AB oC.o oD.o eA))
    .have ec:0<D d':=(by rw[cz.o.1,iM.o,e];exact oI _);obtain⟨kj,kg,ft⟩:=dR cM.o ec;cases ft;have z0:=h3 cM.o rfl ec;have hj:=A (cz.o.2 (Y d' 0 []) (by rw[cd,cE ec];exact im ec));have s6:(0:Int)<D d':=J;have H:=eP (show _=(bl (Y d' 0 []==g') 8 k [] aq).M λ_ s=> .ok g' s by
      unfold after;rw[ao J,ao J,ao J,ao J,aS eh];unfold bl;split<;>rfl) H
     have AE:Hid ((Y d' 0 []==g')=((str (Y d' 0 [])).toList==[105,110,116])):=A (by rw[ir];rfl);obtain⟨q6,nd,oC,oD⟩:=H.o.st;have sw:Hid (∀w',dS p tv uv q6 sb bH w'->aG w' kj=some [Y d' 0 []]):=A λw' aI=>h3 (nd.row aI cM.o ou.o) rfl ec;have H:=bq nd H;have oC:=A oC;have oD:=A oD;clear e eh ec nd;generalize Y d' 0 []=t0 at*;go_wp2;refine hh V U AE.o.symm (λbS b8 eA=>?_) (H:=H);have s5:t0=g':=(by simpa using b8);subst s5;clear b8 H z0;have z0:=sw.o bS (cY eA);go_wp2;go_returns;exact ju cJ.o (fs (s4 hj.o jd.o) (AB oC.o oD.o eA))
    .have ec:0<D d':=(by rw[cz.o.1,iM.o,e];exact oI _);obtain⟨kj,kg,ft⟩:=dR cM.o ec;cases ft;have z0:=h3 cM.o rfl ec;have hj:=A (cz.o.2 (Y d' 0 []) (by rw[cd,cE ec];exact im ec));have s6:(0:Int)<D d':=J;have H:=eP (show _=bl (fq (Y d' 0 [])).isSome 8 k ((fq (Y d' 0 [])).getD []) aq by
      unfold after;rw[ao J,ao J,ao J,ao J,ao J,aS eh]) H
     clear e eh ec;generalize Y d' 0 []=t0 at*;go_wp2;refine Da (val:=kI) (λsu h=>P5 V U h t0) (λt w2 s2 hT _ H=>?_) (by intro c j w2 bZ bY;replace bZ:=A bZ;unfold gS;go_wp2;exact⟨rfl,kZ (k:=j) bZ.o bY⟩) H;unfold kI;go_wp2;go_returns;exact ju cJ.o (fs (s4 (KX hj.o hT.1) jd.o) H)
    .have ag1:=A (mc.o _ e);have ec:0<D d':=(by rw[cz.o.1,iM.o,e];exact oI _);obtain⟨kj,kg,ft⟩:=dR cM.o ec;cases ft;have z0:=h3 cM.o rfl ec;have hj:=A (cz.o.2 (Y d' 0 []) (by rw[cd,cE ec];exact im ec));have s6:(0:Int)<D d':=J;have qe:1<D d':=(by rw[cz.o.1,iM.o,e];exact Nat.lt_succ_self 1);have lB:=h3 cM.o rfl qe;have ck:=A (cz.o.2 (Y d' 1 []) (by rw[cd,cE qe];exact im qe));have Lk:(1:Int)<D d':=J;have H:=eP (show _=binary L k (Y d' 0 []) (Y d' 1 []) aq by
      unfold after;rw[ao J,ao J,ao J,ao J,ao J,ao J]) H
     clear e eh;generalize Y d' 0 []=t0 at*;generalize Y d' 1 []=t1 at*;go_wp2;go_still_tail 8,cS
     change fo _ _ _ _ _ bH.drew;have H:=dE H (aT _ _).drew;clear z0 lB cF hM;generalize bH.drew=w2 at*;go_wp2;refine Da (val:=kI) (λsu h=>Yo.o ag1.o _ su _ _ _ h hj.o ck.o) (λt bc bA hT _ H=>?_) (by intro c j w2 bZ bY;replace bZ:=A bZ;unfold gS;go_wp2;exact⟨rfl,kZ (k:=j) bZ.o bY⟩) H;unfold kI;go_wp2;go_returns;exact ju cJ.o (fs (s4 hT jd.o) H)
 .have bY:x.j'=33\/x.j'=34\/x.j'=35\/x.j'=36\/x.j'=40\/x.j'=41\/x.j'=42:=by have:=qt.o;omega
  clear ev;obtain e|e|e|e|e|e|e:=bY
  all_goals
   have jZ:=A (mc.o _ e);rw[e] at cF
  .have H:=Pk.bO H1.o (show typed L (bE L f) k s= .ok g' s by unfold typed;rw[br.o.Z,aS e]);clear e;go_wp2;go_returns;exact ju cJ.o (fs (s4 eB.int (by rw[jZ.o];decide)) H)
  .have H:=Pk.bO H1.o (show typed L (bE L f) k s= .ok e6 s by unfold typed;rw[br.o.Z,ao J,aS e]);clear e;go_wp2;go_returns;exact ju cJ.o (fs (s4 eB.bool (by rw[jZ.o];decide)) H)
  .have H:=Pk.bO H1.o (show typed L (bE L f) k s= .ok iK s by unfold typed;rw[br.o.Z,ao J,ao J,aS e]);clear e;go_wp2;go_returns;exact ju cJ.o (fs (s4 eB.iK (by rw[jZ.o];decide)) H)
  .have H:=Pk.bO H1.o (show typed L (bE L f) k s=named L k s by unfold typed;rw[br.o.Z,ao J,ao J,ao J,aS e]);clear e;go_wp2;refine Da (val:=kI) (λsu h=>HYtjfkhpkicioakaaGreatDoor.o jZ.o _ su _ h) (λt w2 s2 aiE _ H=>?_) (by intro c j w2 bZ bY;replace bZ:=A bZ;unfold gS;go_wp2;exact⟨rfl,kZ (k:=j) bZ.o bY⟩) H;unfold kI;go_wp2;go_returns;exact ju cJ.o (fs aiE H)
  .obtain⟨dG,aH⟩:=hV.o [8,16] (by rw[e];rfl) 0 aN;obtain⟨gq,R⟩:=hV.o [8,16] (by rw[e];rfl) 1 aN;have fU:Hid (Y x.I 0 0<k/\(Z L (Y x.I 0 0)).j'=8):=A ⟨aH.1,by simpa[ct] using aH.2⟩;have mY:Hid (Y x.I 1 0<k/\(Z L (Y x.I 1 0)).j'=16):=A ⟨R.1,by simpa[ct] using R.2⟩;have⟨uc,tY⟩:(0:Int)<D x.I/\(1:Int)<D x.I:=J;obtain⟨g2,rfl,cl⟩:=br.o.bM w1 0 H1.o.av dG;obtain⟨g3,iD,cu⟩:=br.o.bM w1 1 H1.o.av gq;cases iD;have eu:Hid (∀w',eO w0 w'->aG w' g2=some [(x.I.getD 0 0:Int)]):=A λw' G=>by
    obtain⟨g3,e,ah⟩:=br.o.bM w' 0 G dG;cases e;exact ah
   have H:=Pk.bO H1.o (show typed L (bE L f) k s=(function L (bE L f) [] (Y x.I 0 0) (Y x.I 1 0) s).M λ_ s1=> .ok (B.O L (Y x.I 0 0)) s1 by unfold typed;rw[br.o.Z,kP.o 0,kP.o 1,ao J,ao J,ao J,ao J,aS e]);have ES:=A (V.o.jn.gG (k:=Y x.I 0 0) (by rw[Ny.o];omega) (by rw[fU.o.2];decide));clear e aH R;generalize Y x.I 0 0=a0 at*;generalize Y x.I 1 0=a1 at*;go_wp2;go_still_tail 9,cS
   change fo _ _ _ _ _ w1.drew;clear cl cu cF ml iS dO hM;have H:=dE H (aT _ _).drew;generalize w1.drew=w2 at*;go_wp2;refine oT (λsu h=>Ot V (Nat.le_of_lt U) nB dy [] a0 a1 (λj bg=>absurd bg bT) bT fU.o mY.o h hI.o.mW (pa:=none) (pc:=0) (A λ_ _ j bg=>absurd bg bT)) (λt bc aq _ _ H=>?_) (by intro c j w2 bZ bY;replace bZ:=A bZ;unfold gS;go_wp2;exact⟨rfl,kZ (k:=j) bZ.o bY⟩) H;obtain⟨_,_,_,dO,hM⟩:=dx.o bc (cY H);have cl:=eu.o bc H.o.av;obtain⟨b',_,_,_,_,_,b9,_⟩:=dL H;go_wp2;go_still_tail 8,cS
   change fo _ _ _ _ _ bc.drew;clear cl dO hM b' b9;have H:=dE H (aT _ _).drew;generalize bc.drew=bS at*;go_wp2;refine pH (V.o.O H.o.av (Nat.lt_trans fU.o.1 U)) (λbm H=>?_) H;go_wp2;go_returns;exact ju cJ.o (fs (s4 ES.o (by rw[jZ.o];decide)) H)
  .have H:=Pk.bO H1.o (show typed L (bE L f) k s=(bl (decide (0<=c7 L 10 x.O)) 6 k [] s).M λ_ s=> .ok (42::x.O) s by
    unfold typed;rw[br.o.Z,ao J,ao J,ao J,ao J,ao J,aS e];unfold bl;split<;>rfl)
   have It:B.Nm x.O:=by
    obtain⟨fc,_,_,wi,_,hm⟩:=V.o.fe.at U;obtain rfl:fc=x:=wi.symm.trans br.o.Z;exact V.o.jn.eG fc hm (by rw[e];rfl)
   have bW:Hid (eB (42::x.O)):=A ⟨by rw[iq];omega,.inr (.ptr It)⟩;obtain⟨b',_,_,_,_,_,b9,_⟩:=dL H;obtain⟨v1,v2,z0,lB,z2,eK,⟨dq,m1⟩,cR,m2⟩:=V.o.eo H.o.av;have D5:D x.O<=dc:=(by unfold dc;omega);have ig:=(m1.below (aT w1 w1).drew).qK rO (rP w1.drew) D5;rw[wy] at ig;generalize(fk L 10 (D L) x.O).getD (0:Int)=V1 at*;have H:=dE H (aT _ _).drew;have gE:(str x.O).size=D x.O:=js _;have LK:(⟨#[42]⟩:ByteArray)++str x.O=str (42::x.O):=by
    apply ByteArray.ext;simp[str]
   clear m1 m2 It D5 e;go_wp2;go_region
   go_wp2;clear ig b' b9 z0 lB z2 eK cF ml iS dO hM;generalize w1.drew=w2 at*;refine hh V U rfl (λbc _ H=>?_) (H:=H);obtain⟨_,_,iS,_,hM⟩:=dx.o bc (cY H);go_wp2;go_returns;exact ju cJ.o (fs (s4 bW.o (by rw[jZ.o];decide)) H)
  .obtain⟨dG,aH⟩:=hV.o [0] (by rw[e];rfl) 0 aN;have fU:Hid (Y x.I 0 0<k/\1<=(Z L (Y x.I 0 0)).j'/\(Z L (Y x.I 0 0)).j'<=6):=A ⟨aH.1,by simpa[ct] using aH.2⟩;have uc:(0:Int)<D x.I:=J;obtain⟨g2,rfl,cl⟩:=br.o.bM w1 0 H1.o.av dG;have eu:Hid (∀w',eO w0 w'->aG w' g2=some [(x.I.getD 0 0:Int)]):=A λw' G=>by
    obtain⟨g3,e,ah⟩:=br.o.bM w' 0 G dG;cases e;exact ah
   have H:=Pk.bO H1.o (show typed L (bE L f) k s=(bE L f .typ (Y x.I 0 0) s).M λ_ s1=>(bl (decide (x.aX<=8)) 11 k [] s1).M λ_ s=> .ok (i_++B.O L (Y x.I 0 0)) s by
    unfold typed;rw[br.o.Z,kP.o 0,ao J,ao J,ao J,ao J,ao J,ao J,aS e]
    congr 1
    funext _ s1
    unfold bl;split<;>rfl)
   have ES:=A (V.o.jn.ty (Y x.I 0 0) (by rw[Ny.o];have:=fU.o.1;omega) (by have:=fU.o.2;omega));have Fl:=V.o.jn.gx (Y x.I 0 0);clear e aH;generalize Y x.I 0 0=a0 at*;go_wp2;refine Bv V (kv fU.o.1 nB) ⟨Nat.lt_trans fU.o.1 U,.inl fU.o.2,λ_=>fU.o.2.2⟩ (λt w2 s2 H=>?_) (H:=H);clear cF ml iS dO hM cl;obtain⟨_,ml,_,_,hM⟩:=dx.o w2 (cY H);go_wp2;refine hh V U rfl (λbc _ H=>?_) (H:=H);clear ml hM;go_wp2;have H:=dE H (aT _ _).drew;have EY:bc.drew.cell? p=some (tp,0)/\bc.drew.cell? (q,4)=some (g2,D x.I,aQ)/\bc.drew.cell? g2=some [a0]:=⟨(dL H).1,(dx.o _ (cY H)).2.2.2.1,eu.o _ H.o.av⟩;refine jT 10 (λcc=>cc.cell? p=some (tp,0)/\cc.cell? (q,4)=some (g2,D x.I,aQ)/\cc.cell? g2=some [a0]) EY λaD=>?_;clear EY;generalize bc.drew=bS at*;have gE:(str (B.O L a0)).size=D (B.O L a0):=js _;have LK:(⟨#[99,104,97,110,32]⟩:ByteArray)++str (B.O L a0)=str (i_++B.O L a0):=by
    apply ByteArray.ext;simp[str,i_]
   refine a' 0 ?_;refine a' 1 ?_;refine a' 2 ?_;refine a' 3 ?_;refine a' 4 ?_;refine a' 5 ?_;refine a' 6 ?_;refine a' 7 ?_;refine cT 8 λK ab=>?_;go_simp;refine pH (V.o.O H.o.av (Nat.lt_trans fU.o.1 U)) (λbm eH=>?_) H;clear H;have Up:aG bm p=some (tp,0)/\aG bm (q,4)=some (g2,D x.I,aQ)/\aG bm g2=some [a0]:=⟨(dL eH).1,(dx.o _ (cY eH)).2.2.2.1,eu.o _ eH.o.av⟩;generalize B.O L a0=cb at*;go_wp2;refine ab.o _ _ (λ_=>Up) ?_;clear ab K aD;have aD:=Up;have anv: ¬9223372036854775807<5+D cb:=J;refine a' 9 ?_;refine cT 10 λK ab=>?_;go_simp;refine ab.o _ _ (λh=>absurd rfl h) ?_;clear ab K aD;refine bV ?_;go_wp2;go_returns;exact ju cJ.o (fs (s4 (eB.mk ES.o Fl) (by rw[jZ.o];decide)) eH)
open Rk (ir Gm Kt hD kq px sI sK sP sM)
def r7(dy:Hid (∀j,j<k->rS L w0 p tp tv uv fv j f))(d_:Hid (pb sb s0 k))(aR:a<k/\ct 1 (Z L a).j'=true){i jL q g2 n aQ}(hc:aG wk ⟨jL,0,none⟩=some (.pointer (some ⟨p,0,none⟩)))(bJ:aG wk ⟨q,4,none⟩=some (.slice (some ⟨g2,0,none⟩) n aQ))(CX:aG wk ⟨g2,i,none⟩=some (.int .i64 (a:Int)))(ay:i<n)
 (ok: ∀t w2 s2,sA L a t s2->rT s s2->Hid (du L w0 p tp tv uv fv su0 sb w1 s0 pl sb w2 s2 (K t s2))->Q (.returned (.string (str t))) w2)(bL: ∀c j w2,pl= .bL c j->eO w0 w2->Q (gS c ((Z L j).an:Int)) w2:=by intro c j w2 bZ bY;replace bZ:=A bZ;unfold gS;go_wp2;exact⟨rfl,kZ (k:=j) bZ.o bY⟩)(H:Hid (du L w0 p tp tv uv fv su0 sb w1 s0 pl sb wk s ((bE L f .b6 a s).M K))):
  aY 157 #[.int .i64 (i:Int),.pointer (some ⟨jL,0,none⟩),.pointer (some ⟨q,0,none⟩)] wk Q:=
 oT (val:=kI) (λsu h=>acW dy (A ⟨d_.o.ne,by rw[H.o.gn.lp];exact d_.o.lp,d_.o.mW,by rw[H.o.gn.rs];exact d_.o.rt⟩) aR h hc bJ CX ay) ok bL H
def zE(V:Hid (gY L E cG w0 tp fv nv))(U:k<D E)(aR:a<k){i jL q g2 n aQ lQ m FR:Nat}{ks:List Int}{tc:List af}(hm:D ks=m)(UG:D ks<=100)(hc:aG wk jL=some (p,0))(bJ:aG wk (q,4)=some (g2,n,aQ))(CX:aG wk (g2,i)=some [a])(ay:i<n)
 (bQ:tc=ks.map (.int .i64))(au:ks.contains (Z L a).j'=b)(zW:wk.heap[lQ]?=some (.cells tc.toArray 3))(ok: ∀w2,Hid (du L w0 p tp tv uv fv su0 sb w1 s0 pl bf w2 s r)->Q (.returned (.bool b)) w2)(H:Hid (du L w0 p tp tv uv fv su0 sb w1 s0 pl bf wk s r)):
  aY 159 #[i,(lQ,m,FR),(jL,0),(q,0)] wk Q:=by
 subst bQ hm au;refine(adN V H.o.av (Nat.lt_trans aR U) (dL H).1 ks UG hc bJ CX ay λj bg=>?_).mono ?_
 .rw[az zW j];simp[bg]
 .rintro e w2 ⟨rfl,G⟩;exact ok w2 (dE H G)
def RO {lQ:Nat} (h:wk.heap[lQ]?=some (.cells #[.string (str g'),.string (str e6)] 9)) (ok: ∀w2,Hid (du L w0 p tp tv uv fv su0 sb w1 s0 pl bf w2 s r)->Q (.returned (.bool (t==g'||t==e6))) w2) (H:Hid (du L w0 p tp tv uv fv su0 sb w1 s0 pl bf wk s r)):Calls prog 136 #[.slice (some ⟨lQ,0,none⟩) 2 2,.string (str t)] wk Q:=by
 refine(slices_Contains_string lQ 0 2 2 ([g',e6].map str) (str t) wk (by decide) (by omega) (λj bg=>?_)).mono ?_
 .rw[Nat.zero_add,az h j]
  match j,bg with
  |0,_=>rfl
  |1,_=>rfl
 .rintro e w' ⟨rfl,rfl⟩;have:Lib.containsS (List.take 2 ([g',e6].map str)) (str t)=(t==g'||t==e6):=by
   rw[u7 (by simp),Ji,qB];unfold hasB;rw[List.contains_iff_mem,List.mem_cons,sE,Bool.or_eq_true,beq_iff_eq,beq_iff_eq];exact Iff.rfl
  rw[this];exact ok _ H
def T1(j:Int)(H:Hid (du L w0 p tp tv uv fv su0 sb w1 s0 pl bf wk s r)):Hid (du L w0 p tp tv uv fv su0 sb w1 {s0 with cx:=s0.cx+j} pl bf (a7 wk (p,6) [(s.cx+j:Int)]) {s with cx:=s.cx+j} r):=by obtain⟨su,R,T,ah⟩:=H.o.st;exact A ⟨⟨su,R.od 6 [(s.cx+j:Int)] ⟨rfl,rfl⟩ rfl R.sc R.mp,T.step ah H.o.ex (dS.set 6 _),ah⟩,H.o.ex,⟨H.o.gn.us,by show s.cx+j=s0.cx+j;rw[H.o.gn.lp],H.o.gn.rs⟩,H.o.eq⟩
def bk{c2 mL:Prop}(g:mL)(h:mL->c2:=by intro bF;go_wp2_with fail;refine ab.o _ _ (λ_=>eu.o _ (cY H) H.o.av) ?_;have aD:=eu.o _ (cY H) H.o.av;revert aD;exact bF):c2:=h g
def zF{c2:Prop}(h:c2:=by go_wp2;go_returns;exact ju cJ.o (fs trivial H)):c2:=h
def sW{c2:Prop}(h:c2:=by refine bV ?_;go_wp2;go_returns;exact ju cJ.o (fs trivial H)):c2:=h
def akD(V:Hid (gY L E cG w0 tp fv nv))(H:Hid (du L w0 p tp tv uv fv su0 sb w1 s0 pl bf wk s r))(aH:0<D E): ∃g c,uv= .slice (some ⟨g,0,none⟩) (D E) c:=by obtain⟨su,h,_⟩:=H.o.st;have jG:D L=D E:=V.o.pF;obtain⟨g,c,e⟩:=dR h.us (by rw[h.rw.us,jG];exact aH);rw[show D s.eJ=D E from h.rw.us.trans jG] at e;exact⟨g,c,e⟩
def akA(V:Hid (gY L E cG w0 tp fv nv))(H:Hid (du L w0 p tp tv uv fv su0 sb w1 s0 pl bf wk s r))(aH:0<D E): ∃g c,tv= .slice (some ⟨g,0,none⟩) (D E) c:=by obtain⟨su,h,_⟩:=H.o.st;have jG:D L=D E:=V.o.pF;obtain⟨g,c,e⟩:=dR h.ty (by rw[h.rw.ty,jG];exact aH);rw[show D s.types=D E from h.rw.ty.trans jG] at e;exact⟨g,c,e⟩
def ahR(H:Hid (du L w0 p tp tv uv fv su0 sb w1 s0 pl bf wk s r)):D s.eJ=D L:=by obtain⟨su,h,_⟩:=H.o.st;exact h.rw.us
def ahQ(H:Hid (du L w0 p tp tv uv fv su0 sb w1 s0 pl bf wk s r)):eB (Y s.types k []):=by
 obtain⟨su,h,_⟩:=H.o.st;rw[cd];cases e:s.types[k]? with
 |none=>exact eB.nil
 |some t=>exact h.rw.gG t (hX e)
def T4{g n cap}(H:Hid (du L w0 p tp tv (.slice (some ⟨g,0,none⟩) n cap) fv su0 sb w1 s0 pl bf wk s r))(U:k<D L):aG wk ⟨g,k,none⟩=some (.int .i64 (Y s.eJ k (-1)))/\Y s.eJ k (-1)<(D L:Int):=by obtain⟨su,h,_⟩:=H.o.st;refine⟨(h.x8 U).1,?_⟩;rw[cd,cE (by rw[h.rw.us];exact U)];exact h.rw.gM _ (im _)
def EZ{c2 mL:Prop}(g:mL)(h:mL->c2:=by intro bF;go_wp2_with fail;refine ab.o _ _ (λ_=>dX.o _ H trivial) ?_;have aD:=dX.o _ H trivial;revert aD;exact bF):c2:=h g
def nT{c2 mL:Prop}(g:mL)(h:mL->c2:=by intro bF;go_wp2_with fail;refine ab.o _ _ (λ_=>⟨eu.o _ (cY H) H.o.av,(dL H).1⟩) ?_;have aD:=And.intro (eu.o _ (cY H) H.o.av) (dL H).1;revert aD;exact bF):c2:=h g
def abg(V:Hid (gY L E cG w0 tp fv nv))(U:k<D E)(lj:ct 2 (Z L k).j'=true)(dy:Hid (∀j,j<k->rS L w0 p tp tv uv fv j f))(h:dz L w0 p tp tv uv fv w su sb s)(ho:pb sb s k):aY 121 #[(p,0),k] w (jr L w0 p tp tv uv fv rv uY (bE L (f+1) .stmt k s) s su sb w):=by
 obtain⟨pl,gV⟩: ∃r,bE L (f+1) .stmt k s=r:=⟨_,rfl⟩;rw[gV];have jJ:=A (show pl=ja L (bE L f) k s from gV.symm);clear gV;obtain⟨g,cA,x,bb,aQ,rfl,cg⟩:=V.o.fe.gQ h.av U;have br:=A cg;have ax:=cg.Z;rw[ax] at lj;obtain⟨bP,ev⟩: ∃bP:Nat->Nat,∀i,Y x.I i 0=bP i:=⟨_,λ_=>rfl⟩;have kP:Hid (∀i,bM L k i=bP i):=A λi=>by unfold bM;rw[ax,ev]
 have hI:=A ho;have iM:=A cg.ly.len;have qt:Hid (x.j'=17\/x.j'=18\/x.j'=19\/x.j'=20\/x.j'=21\/x.j'=22\/x.j'=23\/x.j'=24\/x.j'=25\/x.j'=26\/x.j'=30\/x.j'=31\/x.j'=32):=A (by
  unfold ct at lj;simp at lj;omega)
 have hV:Hid (∀(cs:List Nat),B.pat x.j' x.aX (D x.I)=cs-> ∀i,i<D cs->i<D x.I/\Hid (bP i<k/\ct (Y cs i 0) (Z L (bP i)).j'=true)):=A λcs aJ i ay=>by
  have hl:i<D x.I:=by rw[iM.o,aJ];exact ay
  have:=cg.at hl;rw[aJ,ev] at this;exact⟨hl,A this⟩
 have H1:=h.alloc (aw #[(p,0)] 40);have gR:=A (H1.alloc (hb x bb aQ));have cJ:Hid (dS p tv uv su sb w (aA (aA w (aw #[(p,0)] 40)) (hb x bb aQ))):=A (dS.below (((aT w w).alloc (bD _) _).alloc bT _));have dx:Hid (∀w',dS p tv uv su sb (aA (aA w (aw #[(p,0)] 40)) (hb x bb aQ)) w'->aG w' w.heap.size=some (p,0)/\aG w' (w.heap.size+1,0)=some [x.j']/\aG w' (w.heap.size+1,4)=some (bb,D x.I,aQ)/\w.heap.size+1<w'.heap.size):=A λw' aI=>by
  have tM:(aA (aA w (aw #[(p,0)] 40)) (hb x bb aQ)).heap[w.heap.size]?=some (aw #[(p,0)] 40):=(((aT (aA w (aw #[(p,0)] 40)).heap.size (aA w (aw #[(p,0)] 40))).alloc (bD _) (hb x bb aQ)).block _ bT).trans (hf w (aw #[(p,0)] 40));have lY:(aA (aA w (aw #[(p,0)] 40)) (hb x bb aQ)).heap[w.heap.size+1]?=some (hb x bb aQ):=by
   have:=hf (aA w (aw #[(p,0)] 40)) (hb x bb aQ);rwa[show(aA w (aw #[(p,0)] 40)).heap.size=w.heap.size+1 from by simp] at this
  have fE:=(h.fresh aI (bD _) (by simp;omega)).trans tM;have fW:=(h.fresh aI (Nat.le_succ _) bT).trans lY;exact⟨az fE 0,az fW 0,az fW 4,bd fW⟩
 obtain⟨dY,ag,aE,bU,cL⟩:=cg.cells _ H1.av;obtain⟨_,_,z0,_,_,eK,_,_⟩:=V.o.eo H1.av;obtain⟨b',_,_,_,_,_,_,b9,_⟩:=H1.at;have⟨hv,hi⟩:(k:Int)<D E/\(0:Int)<=k:=J;have qk:w.heap.size+1<(aA (aA w (aw #[(p,0)] 40)) (hb x bb aQ)).heap.size:=bT;have agY:w.heap.size<(aA w (aw #[(p,0)] 40)).heap.size:=bT;have aiU:aG (aA w (aw #[(p,0)] 40)) w.heap.size=some (p,0):=az (hf w (aw #[(p,0)] 40)) 0;clear h ax lj cg ho H1;go_in;have Go:=0;go_upto_region 4 with fail
 clear dY ag aE bU cL b' b9 z0 eK hv hi aiU agY;generalize gT:aA (aA w (aw #[(p,0)] 40)) (hb x bb aQ)=w2 at*;generalize ajm:w.heap.size=jL at*;generalize a_:jL+1=q at*;clear gT ajm a_;obtain⟨cW,cF,dO,hM⟩:=dx.o w2 dS.refl;have lN:Hid (∀i,i<D x.I-> ∃g2,bb=some ⟨g2,0,none⟩/\Hid (∀w',dS p tv uv su sb w2 w'->eO w0 w'->aG w' jL=some (p,0)/\aG w' (q,4)=some (g2,D x.I,aQ)/\aG w' (g2,i)=some [(bP i:Int)])):=A λi ay=>by
  obtain⟨g2,e,_⟩:=br.o.bM w2 i gR.o.av ay;refine⟨g2,e,A λw' aI G=>?_⟩;subst e;obtain⟨g3,e,ah⟩:=br.o.bM w' i G ay;cases e;rw[ev] at ah;exact⟨(dx.o w' aI).1,(dx.o w' aI).2.2.1,ah⟩
 have H:=Pk.bO gR.o jJ.o;have Cm:=A ev;clear jJ ev;have mc:Hid (∀e,x.j'=e->(Z L k).j'=e):=A λe he=>by rw[br.o.Z];exact he
 obtain e|e|e|e|e|e|e|e|e|e|e|e|e:=qt.o
 all_goals
  have jZ:=A (mc.o _ e);rw[e] at cF;have eh:=jZ.o;simp only[ja,qF,eh,kP.o,Int.reduceEq,if_true,if_false] at H;clear eh
 .obtain⟨dG,fU⟩:=hV.o [1] (by rw[e];rfl) 0 aN;obtain⟨g2,rfl,eu⟩:=lN.o 0 dG;have gH:=A hI.o.ne;clear e;obtain⟨cW,dO,cl⟩:=eu.o _ (cY H) H.o.av;go_wp2;refine r7 dy hI fU.o cW dO cl dG (λt bS bA hT _ H=>?_) (H:=H);clear cW cF dO hM cl;clear hT;obtain⟨cW,_,_⟩:=eu.o _ (cY H) H.o.av;have cN:Hid ((t !=[]&&t !=iK)=(!(str t).toList.isEmpty&&!((str t).toList==[110,105,108]))):=A (by rw[Gm,bne,<-nil_eq]);rw[cN.o] at H;generalize hN:((str t).toList==[110,105,108])=N at*;cases bZ:(str t).toList.isEmpty with
  |true=>
   rw[bZ] at H;go_wp2;refine hh V U rfl (λbm b8 eH=>?_) (H:=H);cases b8
  |false=>
   rw[bZ] at H;clear cN;go_wp2;refine hh V U (by cases N<;>rfl) (λbm _ H=>?_) (H:=H);clear cW;obtain⟨cW,_,_⟩:=eu.o _ (cY H) H.o.av;have H:=eP (show _=(declare L k bA).M .ok by unfold declare;split<;>rfl) H;go_wp2;refine SM V U (.inr (.inl jZ.o)) gH.o (λb4 ha H=>?_) (H:=H);exact zF
 .obtain⟨dG,fU⟩:=hV.o [1,1] (by rw[e];rfl) 0 aN;obtain⟨gq,mY⟩:=hV.o [1,1] (by rw[e];rfl) 1 aN;obtain⟨g2,rfl,oW⟩:=lN.o 0 dG;obtain⟨_,ag,zG⟩:=lN.o 1 gq;cases ag;clear e;obtain⟨eF,wO,rfl⟩:=akD V H J;obtain⟨gt,a',rfl⟩:=akA V H J;obtain⟨cW,dO,cl⟩:=oW.o _ (cY H) H.o.av;go_wp2;refine r7 dy hI fU.o cW dO cl dG (λt bS bA hT _ H=>?_) (H:=H);have bW:=A hT;clear cW cF dO hM cl hT;obtain⟨cW,dO,cu⟩:=zG.o _ (cY H) H.o.av;go_wp2;refine r7 dy hI mY.o cW dO cu gq (λu bm cm qH Uu H=>?_) (H:=H);have ia:=A qH.1;have D':Hid ((Z L (bP 0)).j'=36->0<=Y cm.eJ (bP 0) (-1)):=A λe=>Uu.us _ (bW.o.2 e);clear cW dO cu qH Uu;have fB:=fU.o.1;obtain⟨_,_,y,pY,hA,hG,dZ⟩:=V.o.fe.gQ (k:=bP 0) H.o.av J;cases hG;have p0:=A dZ;have nC:=A (show rl L (bP 0) cm=if y.j'=36 then !((Z L (Y cm.eJ (bP 0) 0).toNat).j'==13) else if y.j'=37 then cv (Y cm.types (bM L (bP 0) 0) []) [42]&&(field L ((Y cm.types (bM L (bP 0) 0) []).drop 1) y.O).isSome else false by unfold rl;rw[p0.o.Z]);have⟨uc,alO,alP⟩:(0:Int)<D x.I/\((bP 0:Nat):Int)<(D E:Int)/\(0:Int)<=((bP 0:Nat):Int):=J;have jG:D L=D E:=V.o.pF;clear dZ;obtain⟨cW,dO,cl⟩:=oW.o _ (cY H) H.o.av;by_cases CF:y.j'=36
  .rw[aS CF] at nC;obtain⟨d,bB⟩: ∃d:Nat,Y cm.eJ (bP 0) (-1)=d:=⟨_,(Int.toNat_of_nonneg (D'.o (by rw[p0.o.Z];exact CF))).symm⟩;have pR:=(T4 H (k:=bP 0) J).2;rw[bB] at pR;have lz:Y cm.eJ (bP 0) 0=d:=by
    rw[<-bB,cd,cd,cE (by rw[ahR H];omega)];rfl
   rw[lz,xJ] at nC;obtain⟨_,_,bp,wT,wU,hG,iU⟩:=V.o.fe.gQ (k:=d) H.o.av J;cases hG;rw[iU.Z] at nC;have dX:Hid (∀w',Hid (du L w0 p tp (gt,D E,a') (eF,D E,wO) fv su sb w2 s pl sb w' cm (bl (rl L (bP 0) cm&&fS L u t) 8 k [] cm))->True->aG w' jL=some (p,0)/\aG w' (q,4)=some (g2,D x.I,aQ)/\aG w' g2=some [(bP 0:Int)]/\aG w' p=some (tp,0)/\aG w' (p,2)=some (eF,D E,wO)/\aG w' tp=some (g,D E,cA)/\aG w' (eF,bP 0)=some [d]/\aG w' (g,d*5)=some [bp.j']):=A λw' H _=>by
    obtain⟨R,T,ah⟩:=oW.o _ (cY H) H.o.av;obtain⟨_,_,z0,_,_,_,_,_⟩:=V.o.eo H.o.av;have:=(T4 H (k:=bP 0) J).1;rw[bB] at this;exact⟨R,T,ah,(dL H).1,(dL H).2.2.1,z0,this,(iU.cells w' H.o.av).1⟩
   have⟨vX,alQ⟩:(d:Int)<D E/\(0:Int)<=d:=J;clear iU bB lz pR;go_wp2;clear cW dO cl;have H:=dE H (aT _ _).drew;refine jz 24 dX H trivial λaD=>?_;generalize bm.drew=b4 at*;refine ae 0 ?_;refine cT 1 λK ab=>?_;go_simp;have bY:=hf b4 (aw #[(36:Int)] 3);have H:=dE H ((aT _ _).alloc (bD _) (aw #[(36:Int)] 3));generalize aA b4 (aw #[(36:Int)] 3)=b3 at*;generalize b4.heap.size=lQ at*;refine EZ ?_;clear ab K aD;intro aD;refine cT 2 λK ab=>?_;go_simp;refine zE (ks:=[36]) (b:=true) V U fU.o.1 rfl aN aD.1 aD.2.1 aD.2.2.1 dG rfl (by rw[p0.o.Z];rw[CF];rfl) bY (λa6 H=>?_) H;clear bY;refine EZ ?_;clear ab K aD;intro aD;cases i13:(bp.j'==13)
   all_goals
    rw[i13] at nC;have n13:(bp.j' !=13)=!(bp.j'==13):=rfl;rw[i13] at n13;simp only[Bool.not_true,Bool.not_false] at n13 nC;refine ae 3 ?_;refine ae 4 ?_;refine ae 5 ?_;refine ae 6 ?_;refine ae 7 ?_;refine ae 8 ?_;refine ae 9 ?_;refine ae 10 ?_;refine ae 11 ?_;refine ae 12 ?_;refine ae 13 ?_;refine ae 14 ?_;refine ae 15 ?_;refine ae 16 ?_;refine ae 17 ?_;refine ae 18 ?_;refine ae 19 ?_;refine ae 20 ?_;refine ae 21 ?_;refine ae 22 ?_;refine ae 23 ?_;refine bV ?_;clear aD;have bY:=hf a6 (aw #[(37:Int)] 3);have H:=dE H ((aT _ _).alloc (bD _) (aw #[(37:Int)] 3));obtain⟨cW,dO,cl⟩:=oW.o _ (cY H) H.o.av;go_wp2;generalize aA a6 (aw #[(37:Int)] 3)=cp at*;generalize a6.heap.size=lQ at*;refine zE (ks:=[37]) (b:=false) V U fU.o.1 rfl aN cW dO cl dG rfl (by rw[p0.o.Z];rw[CF];rfl) bY (λgF H=>?_) H;clear bY cW dO cl
   .have H:=eP (show _=(bl (fS L u t) 8 k [] cm).M .ok by rw[nC.o,Bool.true_and];exact jU _ _ _ _ _) H;have eu:Hid (∀w',dS p (gt,D E,a') (eF,D E,wO) su sb w2 w'->eO w0 w'->aG w' jL=some (p,0)):=A λw' aI _=>(dx.o w' aI).1;have H:=dE H (aT _ _).drew;go_wp2;refine jT 13 (λw'=>aG w' jL=some (p,0)/\aG w' p=some (tp,0)) ⟨eu.o _ (cY H) H.o.av,(dL H).1⟩ λaD=>?_;generalize World.drew _=q4 at*;refine ae 0 ?_;refine ae 1 ?_;refine ae 2 ?_;refine ae 3 ?_;refine ae 4 ?_;refine ae 5 ?_;refine ae 6 ?_;refine ae 7 ?_;refine ae 8 ?_;refine ae 11 ?_;refine cT 9 λK ab=>?_;go_simp;refine pH (V.o.fits H.o.av ia.o bW.o.1) (λuC H=>?_) H;refine nT ?_;clear ab K aD;intro aD;refine ae 10 ?_;refine cT 12 λK ab=>?_;go_simp;refine hh V U rfl (λq5 _ H=>?_) (H:=H);refine nT ?_;clear ab K aD;intro aD;exact sW
   .have H:=eP (show _=(bl false 8 k [] cm).M .ok by rw[nC.o,Bool.false_and];exact jU _ _ _ _ _) H;have eu:Hid (∀w',dS p (gt,D E,a') (eF,D E,wO) su sb w2 w'->eO w0 w'->aG w' jL=some (p,0)):=A λw' aI _=>(dx.o w' aI).1;have H:=dE H (aT _ _).drew;go_wp2;refine jT 13 (λw'=>aG w' jL=some (p,0)/\aG w' p=some (tp,0)) ⟨eu.o _ (cY H) H.o.av,(dL H).1⟩ λaD=>?_;generalize World.drew _=q4 at*;refine ae 0 ?_;refine ae 1 ?_;refine ae 2 ?_;refine bt 3 ?_;refine bt 4 ?_;refine bt 5 ?_;refine bt 6 ?_;refine bt 7 ?_;refine bt 8 ?_;refine bt 9 ?_;refine ae 10 ?_;refine ae 11 ?_;refine cT 12 λK ab=>?_;go_simp;refine hh V U rfl (λq5 _ H=>?_) (H:=H);refine nT ?_;clear ab K aD;intro aD;exact sW
  .rw[ao CF] at nC;have dX:Hid (∀w',Hid (du L w0 p tp (gt,D E,a') (eF,D E,wO) fv su sb w2 s pl sb w' cm (bl (rl L (bP 0) cm&&fS L u t) 8 k [] cm))->True->aG w' jL=some (p,0)/\aG w' (q,4)=some (g2,D x.I,aQ)/\aG w' g2=some [(bP 0:Int)]):=A λw' H _=>oW.o _ (cY H) H.o.av;go_wp2;clear cW dO cl;have H:=dE H (aT _ _).drew;refine jz 24 dX H trivial λaD=>?_;generalize bm.drew=b4 at*;refine ae 0 ?_;refine cT 1 λK ab=>?_;go_simp;have bY:=hf b4 (aw #[(36:Int)] 3);have H:=dE H ((aT _ _).alloc (bD _) (aw #[(36:Int)] 3));generalize aA b4 (aw #[(36:Int)] 3)=b3 at*;generalize b4.heap.size=lQ at*;refine EZ ?_;clear ab K aD;intro aD;refine cT 2 λK ab=>?_;go_simp;refine zE (ks:=[36]) (b:=false) V U fU.o.1 rfl aN aD.1 aD.2.1 aD.2.2 dG rfl (by rw[p0.o.Z];simp[CF]) bY (λa6 H=>?_) H;clear bY;refine EZ ?_;clear ab K aD;intro aD;refine ae 3 ?_;refine bt 4 ?_;refine bt 5 ?_;refine bt 6 ?_;refine bt 7 ?_;refine bt 8 ?_;refine bt 9 ?_;refine bt 10 ?_;refine bt 11 ?_;refine bt 12 ?_;refine bt 13 ?_;refine bt 14 ?_;refine bt 15 ?_;refine bt 16 ?_;refine bt 17 ?_;refine bt 18 ?_;refine bt 19 ?_;refine bt 20 ?_;refine bt 21 ?_;refine ae 22 ?_;refine ae 23 ?_;refine bV ?_;by_cases E0:y.j'=37
   .rw[aS E0] at nC;clear aD;have bY:=hf a6 (aw #[(37:Int)] 3);have H:=dE H ((aT _ _).alloc (bD _) (aw #[(37:Int)] 3));obtain⟨cW,dO,cl⟩:=oW.o _ (cY H) H.o.av;go_wp2;generalize aA a6 (aw #[(37:Int)] 3)=cp at*;generalize a6.heap.size=lQ at*;refine zE (ks:=[37]) (b:=true) V U fU.o.1 rfl aN cW dO cl dG rfl (by rw[p0.o.Z];rw[E0];rfl) bY (λgF H=>?_) H;clear bY cW dO cl;obtain⟨_,_,z0,_,_,_,_,_⟩:=V.o.eo H.o.av;have nR:0<D y.I:=(by have:=p0.o.ly.len;rw[E0] at this;rw[this];exact Nat.zero_lt_one);obtain⟨gk,rfl,_⟩:=p0.o.bM gF 0 H.o.av nR;have hj:=(p0.o.at nR).1;have Ib:bM L (bP 0) 0=Y y.I 0 0:=(by unfold bM;rw[p0.o.Z]);rw[Ib] at nC;have Ar:Hid (∀w',eO w0 w'->aG w' gk=some [(y.I.getD 0 0:Int)]):=A λw' G=>by
     obtain⟨g3,e,ah⟩:=p0.o.bM w' 0 G nR;cases e;exact ah
    generalize Y y.I 0 0=eS at*;have⟨ang,alR,alS⟩:(eS:Int)<D E/\(0:Int)<=eS/\(0:Int)<D y.I:=J;have vI:Hid (D (Y cm.types eS [])<=dc):=A (by have:=(ahQ H (k:=eS)).1;unfold dc;omega);have dX:Hid (∀w',Hid (du L w0 p tp (gt,D E,a') (eF,D E,wO) fv su sb w2 s pl sb w' cm (bl (rl L (bP 0) cm&&fS L u t) 8 k [] cm))->True->aG w' jL=some (p,0)/\aG w' p=some (tp,0)/\aG w' (p,1)=some (gt,D E,a')/\aG w' tp=some (g,D E,cA)/\aG w' (gt,eS)=some [Y cm.types eS []]/\aG w' (g,bP 0*5+3)=some [y.O]/\aG w' (g,bP 0*5+4)=some (gk,D y.I,hA)/\aG w' gk=some [eS]):=A λw' H _=>by
     obtain⟨_,_,z0,_,_,_,_,_⟩:=V.o.eo H.o.av;obtain⟨_,_,_,ah,bJ⟩:=p0.o.cells w' H.o.av;exact⟨(dx.o w' (cY H)).1,(dL H).1,(dL H).2.1,z0,(CO H J).1,ah,bJ,Ar.o w' H.o.av⟩
    clear Ib hj z0;generalize Y cm.types eS []=ty at*;obtain⟨CM,ux⟩: ∃CM,(if cv ty [42] then ty.drop 1 else ty)=CM:=⟨_,rfl⟩;have w7:Hid (∀w',aY 161 #[ty,.string ⟨#[42]⟩] w' λe mh=>e= .returned CM/\mh=w'):=A (by rw[<-ux];exact Qu ty);have uE:Hid (∀w',aY 89 #[ty,.string (str [42])] w' λe mh=>e= .returned (.bool (cv ty [42]))/\mh=w'):=A λw'=>zn ty [42] w';have rG:Hid (D CM<=dc):=A (by rw[<-ux];have:=vI.o;split<;>simp<;>omega);have o9:Hid (rl L (bP 0) cm=((field L CM y.O).isSome&&cv ty [42])):=A (by rw[nC.o,<-ux];cases cv ty [42]<;>simp);clear ux nC vI;have H:=dE H (aT _ _).drew;go_wp2;refine jz 37 dX H trivial λaD=>?_;generalize World.drew _=iP at*;refine ae 0 ?_;refine ae 1 ?_;refine ae 2 ?_;refine ae 3 ?_;refine ae 4 ?_;refine ae 5 ?_;refine ae 6 ?_;refine ae 7 ?_;refine ae 8 ?_;refine ae 9 ?_;refine ae 10 ?_;refine ae 11 ?_;refine ae 12 ?_;refine ae 13 ?_;refine ae 14 ?_;refine ae 15 ?_;refine ae 16 ?_;refine ae 17 ?_;refine ae 18 ?_;refine ae 19 ?_;refine ae 21 ?_;refine ae 22 ?_;refine ae 23 ?_;refine ae 24 ?_;refine ae 25 ?_;refine ae 26 ?_;refine ae 27 ?_;refine ae 28 ?_;refine ae 29 ?_;refine ae 30 ?_;refine ae 31 ?_;refine cT 20 λK ab=>?_;go_simp;refine(w7.o _).mono ?_;rintro _ _ ⟨rfl,rfl⟩;go_wp2;refine ab.o _ _ (λ_=>aD) ?_;clear ab K;refine cT 32 λK ab=>?_;go_simp;refine pH (OW V H.o.av (dL H).1 (dL H).2.2.2.2.2.2.1 rG.o) (λkp H=>?_) H;refine EZ ?_;clear ab K aD;intro aD;refine ae 33 ?_;refine ae 34 ?_;refine ae 35 ?_;refine ae 36 ?_;refine bV ?_;generalize(field L CM y.O).isSome=F at*;generalize cv ty [42]=c2 at*;cases F with
    |false=>
     go_wp2;have H:=dE H (aT _ _).drew;refine jz 24 dX H trivial λaD=>?_;generalize World.drew _=mH at*;refine ae 0 ?_;refine ae 1 ?_;refine bt 2 ?_;refine bt 3 ?_;refine bt 4 ?_;refine bt 5 ?_;refine bt 6 ?_;refine bt 7 ?_;refine bt 8 ?_;refine bt 9 ?_;refine bt 10 ?_;refine bt 11 ?_;refine bt 12 ?_;refine bt 13 ?_;refine bt 14 ?_;refine bt 15 ?_;refine bt 16 ?_;refine bt 17 ?_;refine bt 18 ?_;refine bt 19 ?_;refine bt 20 ?_;refine bt 21 ?_;refine ae 22 ?_;refine ae 23 ?_;refine bV ?_;clear aD;have H:=eP (show _=(bl false 8 k [] cm).M .ok by rw[o9.o];exact jU _ _ _ _ _) H;have eu:Hid (∀w',dS p (gt,D E,a') (eF,D E,wO) su sb w2 w'->eO w0 w'->aG w' jL=some (p,0)):=A λw' aI _=>(dx.o w' aI).1;have H:=dE H (aT _ _).drew;go_wp2;refine jT 13 (λw'=>aG w' jL=some (p,0)/\aG w' p=some (tp,0)) ⟨eu.o _ (cY H) H.o.av,(dL H).1⟩ λaD=>?_;generalize World.drew _=q4 at*;refine ae 0 ?_;refine ae 1 ?_;refine ae 2 ?_;refine bt 3 ?_;refine bt 4 ?_;refine bt 5 ?_;refine bt 6 ?_;refine bt 7 ?_;refine bt 8 ?_;refine bt 9 ?_;refine ae 10 ?_;refine ae 11 ?_;refine cT 12 λK ab=>?_;go_simp;refine hh V U rfl (λq5 _ H=>?_) (H:=H);refine nT ?_;clear ab K aD;intro aD;exact sW
    |true=>
     go_wp2;have H:=dE H (aT _ _).drew;refine jz 24 dX H trivial λaD=>?_;generalize World.drew _=mH at*;refine ae 0 ?_;refine ae 1 ?_;refine ae 2 ?_;refine ae 3 ?_;refine ae 4 ?_;refine ae 5 ?_;refine ae 6 ?_;refine ae 7 ?_;refine ae 8 ?_;refine ae 9 ?_;refine ae 10 ?_;refine ae 11 ?_;refine ae 12 ?_;refine ae 13 ?_;refine ae 14 ?_;refine ae 15 ?_;refine ae 16 ?_;refine ae 17 ?_;refine ae 18 ?_;refine ae 19 ?_;refine ae 20 ?_;refine cT 21 λK ab=>?_;go_simp;refine(uE.o _).mono ?_;rintro _ _ ⟨rfl,rfl⟩;go_wp2;refine ab.o _ _ (λ_=>aD) ?_;clear ab K;cases c2 with
     |false=>
      refine ae 22 ?_;refine ae 23 ?_;refine bV ?_;have H:=eP (show _=(bl false 8 k [] cm).M .ok by rw[o9.o];exact jU _ _ _ _ _) H;have eu:Hid (∀w',dS p (gt,D E,a') (eF,D E,wO) su sb w2 w'->eO w0 w'->aG w' jL=some (p,0)):=A λw' aI _=>(dx.o w' aI).1;have H:=dE H (aT _ _).drew;go_wp2;refine jT 13 (λw'=>aG w' jL=some (p,0)/\aG w' p=some (tp,0)) ⟨eu.o _ (cY H) H.o.av,(dL H).1⟩ λaD=>?_;generalize World.drew _=q4 at*;refine ae 0 ?_;refine ae 1 ?_;refine ae 2 ?_;refine bt 3 ?_;refine bt 4 ?_;refine bt 5 ?_;refine bt 6 ?_;refine bt 7 ?_;refine bt 8 ?_;refine bt 9 ?_;refine ae 10 ?_;refine ae 11 ?_;refine cT 12 λK ab=>?_;go_simp;refine hh V U rfl (λq5 _ H=>?_) (H:=H);refine nT ?_;clear ab K aD;intro aD;exact sW
     |true=>
      refine ae 22 ?_;refine ae 23 ?_;refine bV ?_;have H:=eP (show _=(bl (fS L u t) 8 k [] cm).M .ok by rw[o9.o,Bool.true_and,Bool.true_and];exact jU _ _ _ _ _) H;have eu:Hid (∀w',dS p (gt,D E,a') (eF,D E,wO) su sb w2 w'->eO w0 w'->aG w' jL=some (p,0)):=A λw' aI _=>(dx.o w' aI).1;have H:=dE H (aT _ _).drew;go_wp2;refine jT 13 (λw'=>aG w' jL=some (p,0)/\aG w' p=some (tp,0)) ⟨eu.o _ (cY H) H.o.av,(dL H).1⟩ λaD=>?_;generalize World.drew _=q4 at*;refine ae 0 ?_;refine ae 1 ?_;refine ae 2 ?_;refine ae 3 ?_;refine ae 4 ?_;refine ae 5 ?_;refine ae 6 ?_;refine ae 7 ?_;refine ae 8 ?_;refine ae 11 ?_;refine cT 9 λK ab=>?_;go_simp;refine pH (V.o.fits H.o.av ia.o bW.o.1) (λuC H=>?_) H;refine nT ?_;clear ab K aD;intro aD;refine ae 10 ?_;refine cT 12 λK ab=>?_;go_simp;refine hh V U rfl (λq5 _ H=>?_) (H:=H);refine nT ?_;clear ab K aD;intro aD;exact sW
   .rw[ao E0] at nC;clear aD;have bY:=hf a6 (aw #[(37:Int)] 3);have H:=dE H ((aT _ _).alloc (bD _) (aw #[(37:Int)] 3));obtain⟨cW,dO,cl⟩:=oW.o _ (cY H) H.o.av;go_wp2;generalize aA a6 (aw #[(37:Int)] 3)=cp at*;generalize a6.heap.size=lQ at*;refine zE (ks:=[37]) (b:=false) V U fU.o.1 rfl aN cW dO cl dG rfl (by rw[p0.o.Z];simp[E0]) bY (λgF H=>?_) H;clear bY cW dO cl;have H:=eP (show _=(bl false 8 k [] cm).M .ok by rw[nC.o,Bool.false_and];exact jU _ _ _ _ _) H;have eu:Hid (∀w',dS p (gt,D E,a') (eF,D E,wO) su sb w2 w'->eO w0 w'->aG w' jL=some (p,0)):=A λw' aI _=>(dx.o w' aI).1;have H:=dE H (aT _ _).drew;go_wp2;refine jT 13 (λw'=>aG w' jL=some (p,0)/\aG w' p=some (tp,0)) ⟨eu.o _ (cY H) H.o.av,(dL H).1⟩ λaD=>?_;generalize World.drew _=q4 at*;refine ae 0 ?_;refine ae 1 ?_;refine ae 2 ?_;refine bt 3 ?_;refine bt 4 ?_;refine bt 5 ?_;refine bt 6 ?_;refine bt 7 ?_;refine bt 8 ?_;refine bt 9 ?_;refine ae 10 ?_;refine ae 11 ?_;refine cT 12 λK ab=>?_;go_simp;refine hh V U rfl (λq5 _ H=>?_) (H:=H);refine nT ?_;clear ab K aD;intro aD;exact sW
 .obtain⟨dG,fU⟩:=hV.o [1] (by rw[e];rfl) 0 aN;obtain⟨g2,rfl,eu⟩:=lN.o 0 dG;obtain⟨cW,dO,cl⟩:=eu.o _ (cY H) H.o.av;go_wp2;refine r7 dy hI fU.o cW dO cl dG (λt bS bA hT _ H=>?_) (H:=H);clear cW cF dO hM cl;have H:=eP (jU _ _ _ _ _) H;clear e hT;go_wp2;have H:=dE H (aT _ _).drew;refine jz 6 eu (cY H) H.o.av λaD=>?_;generalize bS.drew=bc at*;refine ae 0 ?_;refine ae 1 ?_;refine ae 4 ?_;refine cT 2 λK ab=>?_;go_simp;have bY:=hf bc (aw #[(38:Int),(45:Int)] 3);have H:=dE H ((aT _ _).alloc (bD _) (aw #[(38:Int),(45:Int)] 3));generalize aA bc (aw #[(38:Int),(45:Int)] 3)=bm at*;generalize bc.heap.size=lQ at*;refine bk ?_;clear ab K aD;intro aD;refine cT 3 λK ab=>?_;go_simp;refine zE (ks:=[38,45]) (b:=((Z L (bP 0)).j'==38||(Z L (bP 0)).j'==45)) V U fU.o.1 rfl aN aD.1 aD.2.1 aD.2.2 dG rfl (by rw[qB];simp) bY (λb4 H=>?_) H;clear bY;refine bk ?_;clear ab K aD;intro aD;refine cT 5 λK ab=>?_;go_simp;refine hh V U rfl (λb3 _ H=>?_) (H:=H);refine bk ?_;clear ab K aD;intro aD;exact sW
 .obtain⟨dG,fU⟩:=hV.o [1,1] (by rw[e];rfl) 0 aN;obtain⟨gq,mY⟩:=hV.o [1,1] (by rw[e];rfl) 1 aN;obtain⟨g2,rfl,oW⟩:=lN.o 0 dG;obtain⟨_,ag,zG⟩:=lN.o 1 gq;cases ag;clear e;obtain⟨cW,dO,cl⟩:=oW.o _ (cY H) H.o.av;go_wp2;refine r7 dy hI fU.o cW dO cl dG (λt bS bA hT _ H=>?_) (H:=H);clear cW cF dO hM cl;have bW:=A hT.1;clear hT;obtain⟨cW,dO,cu⟩:=zG.o _ (cY H) H.o.av;go_wp2;refine r7 dy hI mY.o cW dO cu gq (λu bm cm qH _ H=>?_) (H:=H);have ia:=A qH.1;clear cW dO cu qH;have H:=eP QO H;have eu:Hid (∀w',dS p tv uv su sb w2 w'->eO w0 w'->aG w' jL=some (p,0)):=A λw' aI _=>(dx.o w' aI).1;go_wp2;have H:=dE H (aT _ _).drew;refine jT 13 (λw'=>aG w' jL=some (p,0)/\aG w' p=some (tp,0)) ⟨eu.o _ (cY H) H.o.av,(dL H).1⟩ λaD=>?_;generalize bm.drew=b4 at*;refine ae 0 ?_;refine ae 1 ?_;refine ae 2 ?_;refine ae 3 ?_;refine ae 4 ?_;refine ae 5 ?_;refine ae 6 ?_;refine ae 7 ?_;refine ae 8 ?_;refine ae 11 ?_;refine cT 9 λK ab=>?_;go_simp;refine Hh V U (λb3 o bX H=>?_) (H:=H);have eX:=A (KX bW.o bX);clear bX;refine nT ?_;clear ab K aD;intro aD;refine cT 10 λK ab=>?_;go_simp;refine pH (V.o.fits H.o.av ia.o eX.o) (λa6 H=>?_) H;refine nT ?_;clear ab K aD;intro aD;have H:=eP (jU _ _ _ _ _) H;refine cT 12 λK ab=>?_;go_simp;refine hh V U rfl (λcp _ H=>?_) (H:=H);refine nT ?_;clear ab K aD;intro aD;exact sW
 .obtain⟨dG,fU⟩:=hV.o [1] (by rw[e];rfl) 0 aN;obtain⟨g2,rfl,eu⟩:=lN.o 0 dG;obtain⟨cW,dO,cl⟩:=eu.o _ (cY H) H.o.av;go_wp2;refine r7 dy hI fU.o cW dO cl dG (λt bS bA hT _ H=>?_) (H:=H);clear cW cF dO hM cl;have H:=eP (jU _ _ _ _ _) H;clear e hT;go_wp2;have H:=dE H (aT _ _).drew;refine jz 6 eu (cY H) H.o.av λaD=>?_;generalize bS.drew=bc at*;refine ae 0 ?_;refine ae 1 ?_;refine ae 4 ?_;refine cT 2 λK ab=>?_;go_simp;have bY:=hf bc (aw #[(38:Int)] 3);have H:=dE H ((aT _ _).alloc (bD _) (aw #[(38:Int)] 3));generalize aA bc (aw #[(38:Int)] 3)=bm at*;generalize bc.heap.size=lQ at*;refine bk ?_;clear ab K aD;intro aD;refine cT 3 λK ab=>?_;go_simp;refine zE (ks:=[38]) (b:=(Z L (bP 0)).j'==38) V U fU.o.1 rfl aN aD.1 aD.2.1 aD.2.2 dG rfl (by rw[qB];simp) bY (λb4 H=>?_) H;clear bY;refine bk ?_;clear ab K aD;intro aD;refine cT 5 λK ab=>?_;go_simp;refine hh V U rfl (λb3 _ H=>?_) (H:=H);refine bk ?_;clear ab K aD;intro aD;exact sW
 .have aF:=br.o.Z;rw[aF] at H;clear aF;have Nu:D x.I=3\/D x.I=2:=by
   have:=iM.o;rw[e,show B.pat 22 x.aX (D x.I)=if D x.I=3 then[1,16,23] else[1,16] from rfl] at this;split at this
   .exact .inl this
   .exact .inr this
  have iV:Hid (∀i,i<D x.I->bP i<k/\ct ([1,16,23].getD i 0) (Z L (bP i)).j'=true):=A λi ay=>by
   have aJ:B.pat x.j' x.aX (D x.I)=if D x.I=3 then[1,16,23] else[1,16]:=(by rw[e];rfl);obtain h|h:=Nu
   .rw[aS h] at aJ;exact(hV.o _ aJ i (by simpa[h] using ay)).2.o
   .rw[ao J] at aJ;have:=(hV.o _ aJ i (by simpa[h] using ay)).2.o;rwa[show([1,16]:List Nat).getD i 0=[1,16,23].getD i 0 from by obtain _|_|i:=i;rfl;rfl;omega] at this
  have⟨dG,gq⟩:0<D x.I/\1<D x.I:=J;have fU:Hid (bP 0<k/\ct 1 (Z L (bP 0)).j'=true):=A (iV.o 0 dG);have mY:Hid (bP 1<k/\(Z L (bP 1)).j'=16):=A (by have:=iV.o 1 gq;exact⟨this.1,by simpa[ct] using this.2⟩);obtain⟨g2,rfl,oW⟩:=lN.o 0 dG;obtain⟨_,ag,zG⟩:=lN.o 1 gq;cases ag;have tY:(1:Int)<D x.I:=J;have Nu:=A Nu;clear e hV;obtain⟨cW,dO,cl⟩:=oW.o _ (cY H) H.o.av;go_wp2;refine r7 dy hI fU.o cW dO cl dG (λt bS bA hT _ H=>?_) (H:=H);clear cW cF dO hM cl hT;obtain⟨cW,dO,cu⟩:=zG.o _ (cY H) H.o.av;go_wp2;go_still_tail 5,cS
  change fo _ _ _ _ _ bS.drew;clear cW dO cu;have H:=dE H (aT _ _).drew;generalize bS.drew=bm at*;go_wp2;refine DN dy hI mY.o (λ_ b4 ha H=>?_) (H:=H);obtain⟨cW,dO,cu⟩:=zG.o _ (cY H) H.o.av;by_cases T:2<D x.I
  .rw[aS T] at H;have aio:(2:Int)<D x.I:=J;have xw:Hid (bP 2<k/\((Z L (bP 2)).j'=22\/(Z L (bP 2)).j'=16)):=A (by have:=iV.o 2 T;exact⟨this.1,by simpa[ct] using this.2⟩);obtain⟨_,ag,To⟩:=lN.o 2 T;cases ag;have bY:=hf b4 (aw #[(22:Int)] 3);have H:=dE H ((aT _ _).alloc (bD _) (aw #[(22:Int)] 3));obtain⟨T3,VR,UY⟩:=To.o _ (cY H) H.o.av;go_wp2;generalize aA b4 (aw #[(22:Int)] 3)=b3 at*;generalize b4.heap.size=lQ at*;refine zE (ks:=[22]) (b:=(Z L (bP 2)).j'==22) V U xw.o.1 rfl aN T3 VR UY T rfl (by rw[qB];simp) bY (λa6 H=>?_) H;clear bY cW dO cu T3 VR UY;obtain⟨cW,dO,k2⟩:=To.o _ (cY H) H.o.av;by_cases uT:(Z L (bP 2)).j'=22
   .rw[aS uT] at H;have E1:((Z L (bP 2)).j'==22)=true:=(by simp[uT]);rw[E1];go_wp2;go_still_tail 5,cS
    change fo _ _ _ _ _ a6.drew;clear cW dO k2 E1;have H:=dE H (aT _ _).drew;generalize a6.drew=cp at*;go_wp2;refine SN dy hI ⟨xw.o.1,by rw[uT];rfl⟩ (λ_ gF Ct H=>?_) (H:=H);have H:=eP (jU _ _ _ _ _) H;obtain⟨cW,_,_⟩:=oW.o _ (cY H) H.o.av;go_wp2;refine hh V U (by rw[ir];rfl) (λcp _ H=>?_) (H:=H);exact zF
   .rw[ao uT] at H;have E1:((Z L (bP 2)).j'==22)=false:=(by simp[uT]);rw[E1];go_wp2;go_still_tail 5,cS
    change fo _ _ _ _ _ a6.drew;clear cW dO k2 E1;have H:=dE H (aT _ _).drew;generalize a6.drew=cp at*;go_wp2;refine DN dy hI ⟨xw.o.1,xw.o.2.resolve_left uT⟩ (λ_ gF Ct H=>?_) (H:=H);have H:=eP (jU _ _ _ _ _) H;obtain⟨cW,_,_⟩:=oW.o _ (cY H) H.o.av;go_wp2;refine hh V U (by rw[ir];rfl) (λcp _ H=>?_) (H:=H);exact zF
  .rw[ao T] at H;have aio: ¬(2:Int)<D x.I:=J;have H:=eP (show _=bl (t==e6) 8 k [] ha from rfl) H;have H:=eP (jU _ _ _ _ _) H;obtain⟨cW,_,_⟩:=oW.o _ (cY H) H.o.av;go_wp2;refine hh V U (by rw[ir];rfl) (λcp _ H=>?_) (H:=H);exact zF
 .obtain⟨dG,fU⟩:=hV.o [1,16] (by rw[e];rfl) 0 aN;obtain⟨gq,mY⟩:=hV.o [1,16] (by rw[e];rfl) 1 aN;obtain⟨g2,rfl,oW⟩:=lN.o 0 dG;obtain⟨_,ag,zG⟩:=lN.o 1 gq;cases ag;have tY:(1:Int)<D x.I:=J;clear e;obtain⟨cW,dO,cl⟩:=oW.o _ (cY H) H.o.av;go_wp2;refine r7 dy hI fU.o cW dO cl dG (λt bS bA hT _ H=>?_) (H:=H);clear cW cF dO hM cl hT;obtain⟨cW,dO,cl⟩:=oW.o _ (cY H) H.o.av;obtain⟨_,_,_,_,_,fg,b9,mi⟩:=dL H;have f6:=mi 6;have Nv:=A (show 0<=bA.cx/\bA.cx<=20000 by have:=hI.o.lp;rw[H.o.gn.lp];omega);have hK:IntKind.i64.wrap (bA.cx+1)=bA.cx+1:=dI _ (by have:=Nv.o;omega);have H:=T1 1 H;obtain⟨T2,ak2,rm⟩:=zG.o _ (cY H) H.o.av;clear mi;go_upto_region 43 with fail
  clear cW dO cl fg b9 f6 hK;generalize a7 bS (p,6) [(bA.cx+1:Int)]=a6 at*;go_wp2;go_still_tail 5,cS
  change fo _ _ _ _ _ a6.drew;clear T2 ak2 rm;have H:=dE H (aT _ _).drew;generalize a6.drew=bm at*;go_wp2;refine oT (val:=rv) (λjl h=>(dy.o _ mY.o.1).block (by have:=mY.o.2;simpa[ct] using this) _ _ _ _ h ⟨hI.o.ne,by have:=hI.o.lp;have:=H.o.gn.lp;have:=mY.o.1;dsimp only at*;omega,by have:=hI.o.mW;have:=mY.o.1;omega,by rw[H.o.gn.rs];exact hI.o.rt⟩) (λ_ b4 ha _ _ H=>?_) (by intro c j w2 bZ bY;replace bZ:=A bZ;unfold gS;go_wp2;exact⟨rfl,kZ (k:=j) bZ.o bY⟩) H;obtain⟨cW,_,_⟩:=oW.o _ (cY H) H.o.av;obtain⟨_,_,_,_,_,fg,b9,mi⟩:=dL H;have f6:=mi 6;have agZ:=A (show 0<=ha.cx/\ha.cx<=20001 by have:=hI.o.lp;have:=H.o.gn.lp;dsimp only at*;omega);have hK:IntKind.i64.wrap (ha.cx- 1)=ha.cx+ -1:=dI _ (by have:=agZ.o;omega);have H:=T1 (-1) H;replace H:Hid (du L w0 p tp tv uv fv su sb w2 s pl sb (a7 b4 (p,6) [(ha.cx+ -1:Int)]) {ha with cx:=ha.cx- 1} (bl (t==e6) 8 k [] {ha with cx:=ha.cx- 1})):=A ⟨H.o.st,H.o.ex,⟨H.o.gn.us,by have:=H.o.gn.lp;dsimp only at*;omega,H.o.gn.rs⟩,H.o.eq⟩;obtain⟨T2,_,_⟩:=oW.o _ (cY H) H.o.av;have H:=eP (jU _ _ _ _ _) H;clear mi;go_upto_region 45 with fail
  clear cW fg b9 f6 hK;generalize a7 b4 (p,6) [(ha.cx+ -1:Int)]=a6 at*;go_wp2;refine hh V U (by rw[ir];rfl) (λcp _ H=>?_) (H:=H);exact zF
 .have aF:=br.o.Z;rw[aF] at H;clear aF;by_cases mX:x.I=[]
  .rw[aS mX] at H;have dG:D x.I=0:=(by rw[mX];rfl);have H:=eP (jU _ _ _ _ _) H;obtain⟨_,_,_,_,ij,_,b9,_⟩:=dL H;clear e mX;rw[dG] at dO;go_wp2;go_still_tail 8,cS
   change fo _ _ _ _ _ w2.drew;clear cW cF dO hM ij b9;have H:=dE H (aT _ _).drew;generalize w2.drew=bc at*;go_wp2;refine hh V U Kt.symm (λbS _ H=>?_) (H:=H);exact zF
  .rw[ao mX] at H;have dG:0<D x.I:=List.length_pos_iff.2 mX;have fU:=(hV.o _ rfl 0 (by rw[<-iM.o];exact dG)).2;have fU:Hid (bP 0<k/\ct 1 (Z L (bP 0)).j'=true):=A ⟨fU.o.1,by have:=fU.o.2;rwa[e,show B.pat 24 x.aX (D x.I)=ef (min (D x.I) 1) 1 from rfl,Nat.min_eq_right dG] at this⟩;obtain⟨g2,rfl,eu⟩:=lN.o 0 dG;have uc:(0:Int)<D x.I:=J;clear e mX;obtain⟨cW,dO,cl⟩:=eu.o _ (cY H) H.o.av;go_wp2;refine r7 dy hI fU.o cW dO cl dG (λt bS bA hT _ H=>?_) (H:=H);have bW:=A hT.1;clear cW cF dO hM cl hT;have cP:Hid (eB bA.res):=A (by rw[H.o.gn.rs];exact hI.o.rt);obtain⟨cW,_,_⟩:=eu.o _ (cY H) H.o.av;obtain⟨_,_,_,_,ij,_,b9,_⟩:=dL H;rw[Gm] at H;go_wp2;go_still_tail 8,cS
   change fo _ _ _ _ _ bS.drew;clear cW ij b9;have H:=dE H (aT _ _).drew;generalize bS.drew=bm at*;go_wp2;refine hh V U rfl (λb4 _ H=>?_) (H:=H);have H:=eP (jU _ _ _ _ _) H;go_wp2;have H:=dE H (aT _ _).drew;have eu:Hid (∀w',dS p tv uv su sb w2 w'->eO w0 w'->aG w' jL=some (p,0)):=A λw' aI _=>(dx.o w' aI).1;refine jT 14 (λw'=>aG w' jL=some (p,0)/\aG w' p=some (tp,0)/\aG w' (p,5)=some [bA.res]) ⟨eu.o _ (cY H) H.o.av,(dL H).1,(dL H).2.2.2.2.1⟩ λaD=>?_;generalize b4.drew=b3 at*;refine ae 0 ?_;refine ae 1 ?_;refine ae 2 ?_;refine ae 3 ?_;refine ae 4 ?_;refine ae 5 ?_;refine ae 6 ?_;refine ae 7 ?_;refine ae 8 ?_;refine ae 9 ?_;refine ae 10 ?_;refine ae 12 ?_;refine cT 11 λK ab=>?_;go_simp;refine pH (V.o.fits H.o.av bW.o cP.o) (λa6 H=>?_) H;go_wp2;refine ab.o _ _ (λ_=>⟨eu.o _ (cY H) H.o.av,(dL H).1,(dL H).2.2.2.2.1⟩) ?_;clear ab K aD;refine cT 13 λK ab=>?_;go_simp;refine hh V U rfl (λcp _ H=>?_) (H:=H);go_wp2;refine ab.o _ _ (λ_=>⟨eu.o _ (cY H) H.o.av,(dL H).1,(dL H).2.2.2.2.1⟩) ?_;clear ab K;exact sW
 .have H:=eP (jU _ _ _ _ _) H;obtain⟨_,_,_,_,_,fg,b9,_⟩:=dL H;clear e;go_wp2;go_still_tail 8,cS
  change fo _ _ _ _ _ w2.drew;clear cW cF dO hM fg b9;have H:=dE H (aT _ _).drew;generalize w2.drew=bc at*;go_wp2;refine hh V U rfl (λbS _ H=>?_) (H:=H);exact zF
 .have aF:=br.o.Z;rw[aF] at H;clear aF;have Fp:Hid (∀i,i<D x.I->bP i<k/\ct 3 (Z L (bP i)).j'=true):=A λi ay=>by
   obtain⟨_,b⟩:=hV.o (ef (D x.I) 3) (by rw[e];rfl) i (by rw[wg];exact ay);have:=b.o;rwa[cd,ku,aS ay] at this
  have rq:=br.o.fA.2;clear e hV;go_wp2;go_loopg[17,344] (D x.I) (λr o i wr=> ∃(j:Nat) (aq:b5),j+r=D x.I/\i= j/\o= [((D ((x.I.take j).filter λa=>(Z L a).j'==29):Nat):Int)]/\Hid (du L w0 p tp tv uv fv su sb w2 s pl sb wr aq ((each (bE L f .one) (x.I.drop j) aq).M λ_ s2=>bl (decide (D (x.I.filter λa=>(Z L a).j'==29)<2)) 7 k [] s2)))
  case atStart=>exact⟨0,s,by omega,rfl,rfl,H⟩
  case round=>
   obtain⟨j,aq,bg,rfl,rfl,eU⟩:=hrel;clear H cW cF dO hM;have H:=eU;clear eU;generalize wr=bH at*;obtain⟨cW,_,dO,_⟩:=dx.o bH (cY H);by_cases cr:j<D x.I
   .have⟨j3,me⟩:(j:Int)<D x.I/\(0:Int)<=j:=J;have hK:IntKind.i64.wrap (j+1)=j+1:=dI _ J;obtain⟨g2,rfl,eu⟩:=lN.o j cr;obtain⟨_,_,cu⟩:=eu.o bH (cY H) H.o.av;have aR:=Fp.o j cr;obtain⟨_,_,y,pY,sy,hG,dZ⟩:=V.o.fe.gQ (k:=bP j) H.o.av J;cases hG;have Ab:=A dZ.cells;have sv:=A dZ.Z;have bW:Hid (D ((x.I.take (j+1)).filter λa=>(Z L a).j'==29)=D ((x.I.take j).filter λa=>(Z L a).j'==29)+if(y.j'==29)=true then 1 else 0):=A (by
     rw[show x.I.take (j+1)=x.I.take j++[bP j] from by rw[<-Cm.o,p3,cd,cE cr];rfl,List.filter_append,dW]
     congr 1
     rw[<-sv.o];cases hJ:((Z L (bP j)).j'==29) with
     |true=>rw[List.filter_cons_of_pos (by exact hJ),aS rfl];rfl
     |false=>rw[List.filter_cons_of_neg (by rw[hJ];decide),ao aN];rfl)
    have hc:=List.length_filter_le (λa=>(Z L a).j'==29) (x.I.take j);rw[mr] at hc;have H:=eP (show _=(bE L f .one (bP j) aq).M λ_ bA=>(each (bE L f .one) (x.I.drop (j+1)) bA).M λ_ s2=>bl (decide (D (x.I.filter λa=>(Z L a).j'==29)<2)) 7 k [] s2 by
     rw[kS cr,<-Cm.o,cd,cE cr];exact i' _ _ _) H
    generalize((x.I.take j).filter λa=>(Z L a).j'==29).length=Nw at*;have ajE:IntKind.i64.wrap (Nw+1)=Nw+1:=dI _ J;clear dZ;have cz:=A aR;have⟨fB,v7⟩:(bP j:Int)<(D E:Int)/\(0:Int)<=(bP j:Int):=J;go_wp2;refine afD dy hI cz.o (λ_ bc bA H=>?_) (H:=H);clear cW dO cu;obtain⟨cW,_,dO,_⟩:=dx.o bc (cY H);obtain⟨b',_,_,_,_,_,b9,_⟩:=dL H;obtain⟨_,_,z0,_,_,eK,_,_⟩:=V.o.eo H.o.av;obtain⟨_,_,cu⟩:=eu.o bc (cY H) H.o.av;obtain⟨dY,_,_,_,_⟩:=Ab.o bc H.o.av;cases i1:(y.j'==29)
    all_goals
     rw[i1] at bW;go_wp2;go_roundg (D x.I-(j+1))
     case rel=>exact⟨j+1,bA,by omega,by go_num,by rw[bW.o];first|rfl|go_num,H⟩
     case measure=>omega
   .obtain rfl:j=D x.I:=J;have Hy:x.I.take (D x.I)=x.I:=mM;have H:=eP (show _=bl (decide (D (x.I.filter λa=>(Z L a).j'==29)<2)) 7 k [] aq by rw[rW];rfl) H;rw[Hy];generalize(x.I.filter λa=>(Z L a).j'==29).length=Nw at*;clear Hy;have H:=eP (jU _ _ _ _ _) H;go_wp2;refine hh V U (by rw[qB,decide_eq_true_iff,decide_eq_true_iff];omega) (λbS _ H=>?_) (H:=H);exact zF
 .obtain⟨dG,fU⟩:=hV.o [1] (by rw[e];rfl) 0 aN;obtain⟨g2,rfl,eu⟩:=lN.o 0 dG;clear e;go_wp2;have H:=dE H (aT _ _).drew;refine jz 5 eu (cY H) H.o.av λaD=>?_;clear cW cF dO hM;generalize w2.drew=bc at*;refine ae 0 ?_;refine ae 1 ?_;refine ae 3 ?_;refine cT 2 λK ab=>?_;go_simp;refine r7 dy hI fU.o aD.1 aD.2.1 aD.2.2 dG (λt bS bA hT _ H=>?_) (H:=H);clear hT;refine bk ?_;clear ab K aD;intro aD;have H:=eP (Sd _ _ [] ((fq t).getD [])) H;refine cT 4 λK ab=>?_;go_simp;refine Hh V U (λbm o _ H=>?_) (H:=H);refine bk ?_;clear ab K aD;intro aD;exact sW
 .obtain⟨dG,fU⟩:=hV.o [1] (by rw[e];rfl) 0 aN;obtain⟨g2,rfl,eu⟩:=lN.o 0 dG;clear e;go_wp2;have H:=dE H (aT _ _).drew;refine jz 6 eu (cY H) H.o.av λaD=>?_;clear cW cF dO hM;generalize w2.drew=bc at*;refine ae 0 ?_;refine ae 1 ?_;refine ae 4 ?_;refine cT 2 λK ab=>?_;go_simp;refine r7 dy hI fU.o aD.1 aD.2.1 aD.2.2 dG (λt bS bA hT _ H=>?_) (H:=H);clear hT;refine bk ?_;clear ab K aD;intro aD;have H:=eP (jU _ _ _ _ _) H;refine ae 3 ?_;refine cT 5 λK ab=>?_;go_simp;refine hh V U (by rw[ir];rfl) (λbm _ H=>?_) (H:=H);refine bk ?_;clear ab K aD;intro aD;exact sW
 .obtain⟨dG,fU⟩:=hV.o [1] (by rw[e];rfl) 0 aN;obtain⟨g2,rfl,eu⟩:=lN.o 0 dG;clear e;go_wp2;have H:=dE H (aT _ _).drew;refine jz 7 eu (cY H) H.o.av λaD=>?_;clear cW cF dO hM;generalize w2.drew=bc at*;refine ae 0 ?_;refine ae 2 ?_;refine ae 5 ?_;refine Vn 1 3 (λK ab=>?_) (λK ab=>?_)
  .go_simp;obtain⟨NT,ah,vQ,Nx⟩:=H.o.st;have bY:=hf bc (aw #[.string ⟨#[105,110,116]⟩,.string ⟨#[98,111,111,108]⟩] 9);have bN:bc.heap.size<(aA bc (aw #[.string ⟨#[105,110,116]⟩,.string ⟨#[98,111,111,108]⟩] 9)).heap.size:=bT;have e0:aL bc bc (aA bc (aw #[.string ⟨#[105,110,116]⟩,.string ⟨#[98,111,111,108]⟩] 9)):=(aT _ _).alloc (bD _) _;have fj:=A (vQ.trans Nx (dS.below (p:=p) (tv:=tv) (uv:=uv) (su:=NT) (sb:=sb) e0));have Iw:=A Nx;have H:=Pk.bq (ah.alloc (aw #[.string ⟨#[105,110,116]⟩,.string ⟨#[98,111,111,108]⟩] 9)) (dE H e0);clear vQ Nx e0;generalize aA bc (aw #[.string ⟨#[105,110,116]⟩,.string ⟨#[98,111,111,108]⟩] 9)=bm at*;generalize B4:bc.heap.size=lQ at bY bN|-;have YT:=eu;have eu:Hid (∀w',dS p tv uv NT sb bm w'->eO w0 w'->aG w' jL=some (p,0)/\aG w' (q,4)=some (g2,D x.I,aQ)/\aG w' g2=some [(bP 0:Int)]):=A λw' aI G=>YT.o w' (fj.o.trans Iw.o aI) G;refine bk ?_;clear ab K aD;intro aD;refine cT 3 λK ab=>?_;go_simp;refine r7 dy hI fU.o aD.1 aD.2.1 aD.2.2 dG (λt b4 bA hT _ H=>?_) (H:=H);clear hT;have H:=eP (jU _ _ _ _ _) H;have bY:=(ah.fresh (cY H) (Nat.le_of_eq B4) bN).trans bY;refine bk ?_;clear ab K aD;intro aD;refine cT 4 λK ab=>?_;go_simp;refine RO bY (λb3 H=>?_) H;refine bk ?_;clear ab K aD;intro aD;refine cT 6 λK ab=>?_;go_simp;refine hh V U rfl (λcp _ H=>?_) (H:=H);refine bk ?_;clear ab K aD;intro aD;refine bV ?_;go_wp2;go_returns;exact ju cJ.o (fs trivial (AB fj.o Iw.o H))
  .go_simp;refine r7 dy hI fU.o aD.1 aD.2.1 aD.2.2 dG (λt b4 bA hT _ H=>?_) (H:=H);clear hT;have H:=eP (jU _ _ _ _ _) H;refine bk ?_;clear ab K aD;intro aD;refine cT 1 λK ab=>?_;go_simp;have bY:=hf b4 (aw #[.string ⟨#[105,110,116]⟩,.string ⟨#[98,111,111,108]⟩] 9);have H:=dE H ((aT _ _).alloc (bD _) (aw #[.string ⟨#[105,110,116]⟩,.string ⟨#[98,111,111,108]⟩] 9));generalize aA b4 (aw #[.string ⟨#[105,110,116]⟩,.string ⟨#[98,111,111,108]⟩] 9)=bm at*;generalize b4.heap.size=lQ at*;refine bk ?_;clear ab K aD;intro aD;refine cT 4 λK ab=>?_;go_simp;refine RO bY (λb3 H=>?_) H;refine bk ?_;clear ab K aD;intro aD;refine cT 6 λK ab=>?_;go_simp;refine hh V U rfl (λcp _ H=>?_) (H:=H);refine bk ?_;clear ab K aD;intro aD;exact sW
end
end Pk
namespace Pk
open Ck
section
variable{L:List aP}{E:List (aP×af)}{cG:Nat}{w0:jf}{p tp:Nat}{tv uv fv nv:af}
def abo(V:Hid (gY L E cG w0 tp fv nv))(Nt:Hid (∃m,∀w',eO w0 w'->aG w' ⟨4,0,none⟩=some (.int .i64 m)))(k:Nat):
  ∀f,k<f->k<D E->rS L w0 p tp tv uv fv k f:=by
 induction k using Nat.strongRecOn with
 |ind k cB=>
 intro f aI U;obtain⟨f,rfl⟩: ∃mP,f=mP+1:=⟨f- 1,by omega⟩;have dy:Hid (∀j,j<k->rS L w0 p tp tv uv fv j f):=A λj bg=>cB j bg f J J;exact⟨λhc w su sb s h ho=>Zr V U hc dy h ho,λhc w su sb s h ho=>abg V U hc dy h ho,λhc w su sb s h ho=>acV V U hc dy h ho,
  λhc w su sb s h ho=>aa9 V U h (A λw su h=>Zu V U J hc dy (A λe w su s h=>Zv V U e ho.ne (by have:=ho.mW;omega) h) (A λe w su s a b h aR G=>Xp V Nt U e h aR G) h ho)⟩
end
end Pk
end Go.Proofs.YtjfkhpkicioakaaGreatDoor
