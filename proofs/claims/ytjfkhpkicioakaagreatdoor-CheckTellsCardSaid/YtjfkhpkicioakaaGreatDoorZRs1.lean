/- PROVED HERE: the parser of the reference, walked. No condition. -/
import Derived.Test.YtjfkhpkicioakaaGreatDoorZLx1
import Derived.Test.YtjfkhpkicioakaaGreatDoorZPs1
import Derived.Test.YtjfkhpkicioakaaGreatDoorZP3
set_option maxRecDepth 100000
set_option maxHeartbeats 60000000
set_option linter.all false
open Go renaming Ending->e7,Value->af,World->ai,maxLen->dc,wpList->fo
open Go.Proofs.Tryz renaming underlying28->rN
open Go.RowKit renaming Below->aL
open Go.Value renaming ownBlock->tA
open Go.World renaming alloc->aA,cell?->aG,setCell->a7
open List renaming getD->Y,length->D
open Go.Proofs.YtjfkhpkicioakaaGreatDoor.B hiding ch fail i' n8 one
open Go.Proofs.YtjfkhpkicioakaaGreatDoor.W
open Go.Proofs.Tryz
namespace Go.Proofs.YtjfkhpkicioakaaGreatDoor
open Go.RowKit
namespace il
def wc (s:W.ak):Int:=(s.w.getD (0,0)).1
def wp (s:W.ak):Nat:=(s.w.getD (0,0)).2
structure cn (N p:Nat)(w:ai)(X:B.Src)(S:ByteArray)(s:W.ak)(tv nv:af)(E:List (aP×af)):Prop where
 blk:w.heap[p]?=some (.cells #[S,tv,s.p.i,s.p.bR,nv,[(wc s:Int)],[(wp s:Int)],.bool (gJ s)] 67 (0,0))
 bu:lG N w tv X.bu
 aj:iJ N w nv E
 eq:s.p.aj=E.map (·.1)
 src:Sn X S
 i:s.p.i<=D X.bu
 many:D E<=W.room
 hN:N<=p
def RP:W.room=20000000:=rfl
def AW{N p:Nat}{w:ai}{nv:af}{E:List (aP×af)}{c:Array af}(h:iJ N w nv E)(aJ:w.heap[p]?=some (.cells c 67 (0,0)))(i:Nat)(u:af):iJ N (a7 w (p,i) u) nv E:=
 ⟨eZ h.row aJ aN,λx aF=>eZ (h.I x aF) aJ aN⟩
section
variable{N p:Nat}{w w':ai}{X:B.Src}{S:ByteArray}{s:W.ak}{tv nv:af}{E:List (aP×af)}
def cn.lt(h:cn N p w X S s tv nv E):p<w.heap.size:=bd h.blk
def cn.below(h:cn N p w X S s tv nv E)(G:aL w w w'):cn N p w' X S s tv nv E:=
 {h with
  blk:=ds h.blk G h.lt
  bu:=fZ h.bu G (λk U=>(h.bu.lt k U).2)
  aj:=⟨fZ h.aj.row G (λk U=>(h.aj.row.lt k U).2),λx aF=>fZ (h.aj.I x aF) G (λk U=>((h.aj.I x aF).lt k U).2)⟩}
def cn.Bz(h:cn N p w X S s tv nv E){j}(bg:j<=D X.bu):cn N p (a7 w (p,2) j) X S {s with p:={s.p with i:=j}} tv nv E:=
 {h with blk:=et h.blk 2 _,bu:=eZ h.bu h.blk aN,aj:=AW h.aj h.blk 2 _,i:=bg}
def cn.Lu(h:cn N p w X S s tv nv E)(d):cn N p (a7 w ⟨p,3,none⟩ (.int .i64 d)) X S {s with p:={s.p with bR:=d}} tv nv E:=
 {h with blk:=et h.blk 3 _,bu:=eZ h.bu h.blk aN,aj:=AW h.aj h.blk 3 _}
def cn.bO(h:cn N p w X S s tv nv E):aG w p=some [S]:=az h.blk 0
def cn.bq(h:cn N p w X S s tv nv E):aG w (p,1)=some tv:=az h.blk 1
def cn.cK(h:cn N p w X S s tv nv E):aG w (p,2)=some [s.p.i]:=az h.blk 2
def cn.c3(h:cn N p w X S s tv nv E):aG w (p,3)=some [s.p.bR]:=az h.blk 3
def cn.c4(h:cn N p w X S s tv nv E):aG w (p,4)=some nv:=az h.blk 4
def cn.c5(h:cn N p w X S s tv nv E):aG w (p,5)=some [(wc s:Int)]:=az h.blk 5
def cn.y8(h:cn N p w X S s tv nv E):aG w (p,6)=some [(wp s:Int)]:=az h.blk 6
def cn.rj(h:cn N p w X S s tv nv E):aG w (p,7)=some (.bool (gJ s)):=az h.blk 7
def cn.bs(h:cn N p w X S s tv nv E)(bg:s.p.i<D X.bu):cn N p (a7 w (p,2) [((s.p.i:Int)+1:Int)]) X S (W.bs s) tv nv E:=h.Bz (j:=s.p.i+1) bg
def cn.free(h:cn N p w X S s tv nv E)(i):w.frozen? ⟨p,i,none⟩=false:=cX h.blk i
def cn.jo(h:cn N p w X S s tv nv E):N<=w.heap.size:=hg h.hN (Nat.le_of_lt h.lt)
end
def Out (N p:Nat)(X:B.Src)(S:ByteArray)(w:ai)(tv nv:af)(E:List (aP×af))(val:List Nat->af)(r:W.aV)(e:e7)(w':ai):Prop:=
 match r with
 | .o=>True
 | .ok v s'=>e= .returned (val v)/\ ∃gL ar,cn N p w' X S s' tv gL (E++ar)/\gu N p w nv w' gL/\iu w.heap.size ar
section
variable{N p:Nat}{w:ai}{X:B.Src}{S:ByteArray}{s:W.ak}{tv nv:af}{E:List (aP×af)}
def Out.parts{val:List Nat->af}{r e w'}(h:Out N p X S w tv nv E val r e w')(aZ:r≠ .o):
  ∃v s' gL ar,r= .ok v s'/\e= .returned (val v)/\cn N p w' X S s' tv gL (E++ar)/\gu N p w nv w' gL/\iu w.heap.size ar:=by
 cases r with
 |o=>exact absurd rfl aZ
 |ok v s'=>
  obtain⟨R,gL,ar,T,ah,bJ⟩:=h;exact⟨v,s',gL,ar,rfl,R,T,ah,bJ⟩
def Dc{tv nv gL E ar w w' s'}{val:List Nat->af}{v e r}(au:r= .ok v s')(he:e= .returned (val v))(R:cn N p w' X S s' tv gL (E++ar))(T:gu N p w nv w' gL)(ah:iu w.heap.size ar):Out N p X S w tv nv E val r e w':=by subst au;exact⟨he,gL,ar,R,T,ah⟩
structure Go (N p:Nat)(X:B.Src)(S:ByteArray)(w:ai)(tv nv:af)(E:List (aP×af))(wk:ai)(s:W.ak)(aW:af)(ar:List (aP×af)):Prop where
 st:cn N p wk X S s tv aW (E++ar)
 de:gu N p w nv wk aW
 fr:iu w.heap.size ar
 eK: ∀k,tv.ownBlock=some k->k<w.heap.size
 pl:p<w.heap.size
section
variable{wk w2:ai}{aW cR:af}{ar h_:List (aP×af)}{s2:W.ak}
def Go.start(h:cn N p w X S s tv nv E):Go N p X S w tv nv E w s nv []:=⟨by rw[lU];exact h,gu.refl _ _ _ _,iu.nil _,λk U=>(h.bu.lt k U).2,h.lt⟩
def Go.size(h:Go N p X S w tv nv E wk s aW ar):w.heap.size<=wk.heap.size:=h.de.below.size
def Go.new(h:Go N p X S w tv nv E wk s aW ar)(G:aL wk wk w2):Go N p X S w tv nv E w2 s aW ar:=⟨h.st.below G,h.de.trans (gu.new G h.st.jo),h.fr,h.eK,h.pl⟩
def Go.alloc(h:Go N p X S w tv nv E wk s aW ar)(o:Obj):Go N p X S w tv nv E (aA wk o) s aW ar:=h.new ((aT _ _).alloc (bD _) o)
def Go.drawn(h:Go N p X S w tv nv E wk s aW ar)(n):Go N p X S w tv nv E (wk.drewN n) s aW ar:=h.new (rh (aT _ _) n)
def Go.bs(h:Go N p X S w tv nv E wk s aW ar)(bN:s.p.i<D X.bu):Go N p X S w tv nv E (a7 wk (p,2) [((s.p.i:Int)+1:Int)]) (W.bs s) aW ar:=⟨h.st.bs bN,h.de.set h.st.hN 2 _,h.fr,h.eK,h.pl⟩
def Go.bR(h:Go N p X S w tv nv E wk s aW ar)(d):Go N p X S w tv nv E (a7 wk ⟨p,3,none⟩ (.int .i64 d)) {s with p:={s.p with bR:=d}} aW ar:=⟨h.st.Lu d,h.de.set h.st.hN 3 _,h.fr,h.eK,h.pl⟩
def Go.ll(h:Go N p X S w tv nv E wk s aW ar)(bN:s.p.i+2<=D X.bu):Go N p X S w tv nv E (a7 wk (p,2) [((s.p.i:Int)+2:Int)]) (W.ll s) aW ar:=⟨h.st.Bz (j:=s.p.i+2) bN,h.de.set h.st.hN 2 _,h.fr,h.eK,h.pl⟩
def Go.then(h:Go N p X S w tv nv E wk s aW ar)(R:cn N p w2 X S s2 tv cR ((E++ar)++h_))(T:gu N p wk aW w2 cR)(ah:iu wk.heap.size h_):Go N p X S w tv nv E w2 s2 cR (ar++h_):=
 ⟨by rw[<-oH];exact R,h.de.trans T,h.fr.append (ah.mono h.size),h.eK,h.pl⟩
def Go.box(h:Go N p X S w tv nv E wk s aW ar){q c t}(a_:w.heap.size<=q)(hc:wk.heap[q]?=some (.cells c t (0,0)))(ax:aW.ownBlock≠some q)(bI:3≠t)(i u):Go N p X S w tv nv E (a7 wk ⟨q,i,none⟩ u) s aW ar:=by
 have w8:p≠q:=by have:=h.pl;omega
 have hN:N<=q:=hg h.st.hN (by have:=h.pl;omega);have U: ∀k,k≠q->(a7 wk (q,i) u).heap[k]?=wk.heap[k]?:=λk aZ=>Below.heap_setCell _ _ _ _ aZ;refine⟨{h.st with
   blk:=(U p w8).trans h.st.blk
   bu:=nk h.st.bu (λk ei=>U k (by have:=h.eK k ei;omega))
   aj:=⟨nk h.st.aj.row (λk ei=>U k (by rintro rfl;exact ax ei)),λx aF=>eZ (h.st.aj.I x aF) hc bI⟩},
  ⟨h.de.below.setCell (p:=⟨q,i,none⟩) hN _,λk R T ah=>(U k J).trans (h.de.gP k R T ah),h.de.row⟩,h.fr,h.eK,h.pl⟩
def Go.o{val:List Nat->af}{v e r}(h:Go N p X S w tv nv E wk s aW ar)(au:r= .ok v s)(he:e= .returned (val v)):Out N p X S w tv nv E val r e wk:=Dc au he h.st h.de h.fr
def Go.ahf{x u}(h:Go N p X S w tv nv E wk s aW ar){aq}(R:cn N p w2 X S aq tv cR ((E++ar)++[(x,u)]))(T:gu N p wk aW w2 cR)(hu: ∀b,u.ownBlock=some b->w.heap.size<=b):Go N p X S w tv nv E w2 aq cR (ar++[(x,u)]):=
 ⟨by rw[<-oH];exact R,h.de.trans T,h.fr.append (Qc hu),h.eK,h.pl⟩
def Go.step(h:Go N p X S w tv nv E wk s aW ar)(R:cn N p w2 X S s2 tv aW (E++ar))(T:gu N p wk aW w2 aW):Go N p X S w tv nv E w2 s2 aW ar:=⟨R,h.de.trans T,h.fr,h.eK,h.pl⟩
def Go.jW(h:Go N p X S w tv nv E wk s aW ar):Go N p X S w tv nv E wk.drew s aW ar:=h.new (aT _ _).drew
def eM.new(bF:Go N p X S w tv nv E wk s aW ar)(c:Array af)(t:TypeId):eM w (aA wk (.cells c t)) aW wk.heap.size c t:=
 ⟨ek _ _,bF.size,λe=>by have:=(bF.st.aj.row.lt _ e).2;omega⟩
end
end
section
variable{N p:Nat}{w:ai}{X:B.Src}{S:ByteArray}{s:W.ak}{tv nv:af}{E:List (aP×af)}
def sU (x:aP)(s:W.ak):W.ak:={s with p:={s.p with aj:=s.p.aj++[x]}}
def wq{x s}(h:W.put x s≠ .o):D s.p.aj<W.room:=by
 unfold W.put at h;split at h
 .assumption
 .exact absurd rfl h
def zm{x s}(h:W.put x s≠ .o):W.put x s= .ok [D s.p.aj] (sU x s):=by have:=wq h;unfold W.put;rw[aS this];rfl
def A_ (N p:Nat)(X:B.Src)(S:ByteArray)(w:ai)(tv nv:af)(E:List (aP×af))(s:W.ak)(x:aP)(u:af)(e:e7)(w':ai):Prop:=
 e= .returned (D s.p.aj)/\ ∃gL,cn N p w' X S (sU x s) tv gL (E++[(x,u)])/\gu N p w nv w' gL
def O9{w1 a6 x u g2 fz o}(h:Go N p X S w tv nv E w1 s nv [])(fF:a6.ownsRow N 53 5 (.slice (some ⟨g2,0,none⟩) (D E+1) fz) (D E+1) ((E.flatMap λx=>kW x.1 x.2)++kW x u))(dv:((aA w1 o).drew).grownBy a6 nv.ownBlock)
 (e1:nv.ownBlock=some g2\/g2=w1.heap.size+1)(hu:jC N w1 u x.I)(di:a6.heap[p]?=some (.cells #[.string S,tv,.int .i64 (s.p.i:Int),.int .i64 s.p.bR,nv,.int .i64 (wc s),.int .i64 (wp s:Int),.bool (gJ s)] 67 (0,0)))(aI:D s.p.aj<W.room):
  cn N p (a7 a6 ⟨p,4,none⟩ (.slice (some ⟨g2,0,none⟩) (D E+1) fz)) X S (sU x s) tv (.slice (some ⟨g2,0,none⟩) (D E+1) fz) (E++[(x,u)])/\gu N p w nv (a7 a6 ⟨p,4,none⟩ (.slice (some ⟨g2,0,none⟩) (D E+1) fz)) (.slice (some ⟨g2,0,none⟩) (D E+1) fz):=by
 have dD:=h.st;rw[lU] at dD;have th:D E=D s.p.aj:=by rw[dD.eq,h2]
 have U: ∀k,k<w1.heap.size->nv.ownBlock≠some k->a6.heap[k]?=w1.heap[k]?:=λk R T=>(dv.block k (by show k<(aA w1 o).heap.size;simp;omega) (λe=>T e.symm)).trans (Below.heap_alloc _ _ _ R);have Lb:lG N a6 tv X.bu:=nk dD.bu (λk ei=>U k (dD.bu.lt k ei).2 (λe=>r0 dD.bu dD.aj.row aN ei e));have Dn: ∀u l,jC N w1 u l->jC N a6 u l:=λu l hl=>nk hl (λk ei=>U k (hl.lt k ei).2 (λe=>r0 hl dD.aj.row aN ei e));have h4:iJ N a6 (g2,D E+1,fz) (E++[(x,u)]):=by
  refine⟨?_,λy bx=>?_⟩
  .rw[dW,xG];simpa using fF
  .obtain bx|bx:=List.mem_append.1 bx
   .exact Dn _ _ (dD.aj.I y bx)
   .obtain rfl:y=(x,u):=(by simpa using bx);exact Dn _ _ hu
 have hN:N<=p:=dD.hN;have o1:=RP;refine⟨{dD with
   blk:=et di 4 _
   bu:=eZ Lb di aN
   aj:=AW h4 di 4 _
   eq:=by show s.p.aj++[x]=_;rw[dD.eq,rX];rfl
   many:=by rw[dW];simp;omega},?_,λk R T ah=>?_,λg aB=>?_⟩
 .have ck:aL N w (aA w1 o).drew:=(h.de.below.alloc dD.jo o).drew;exact(Below.grown ck dv (by show N<=(aA w1 o).heap.size;simp;have:=dD.jo;omega) (λk ei=>(dD.aj.row.lt k ei).1)).setCell (p:=⟨p,4,none⟩) hN _
 .have hs:=h.size;exact(Below.heap_setCell _ _ _ _ T).trans ((U k J ah).trans (h.de.gP k R T ah))
 .have hs:=h.size;cases aB;show nv.ownBlock=some g2\/w.heap.size<=g2;obtain e|e:=e1
  .exact .inl e
  .exact .inr J
def Qq(h:cn N p w X S s tv nv E)(x:aP)(u:af)(hu:jC N w u x.I)(aI:D s.p.aj<W.room):aY 56 #[(p,0),.agg #[x.j',x.an,x.aX,x.O,u]] w (A_ N p X S w tv nv E s x u):=by
 have th:D E=D s.p.aj:=by rw[h.eq,h2]
 have z:=A (Go.start h);have ia:=A hu;have M':=A (QF hu x.j' x.an x.aX (str x.O));obtain⟨bb,aQ,Aa⟩:=eR hu rfl;obtain⟨i0,fM,e',e_,ff⟩:=kT Qe;have wZ:=A th;have air:D E<W.room:=J;have o1:=RP;have Eg:=A (VI E);have Yv:=A h.eq;clear h hu th;subst Aa;go_in;go_wp2_with fail;obtain⟨w1,fp⟩: ∃w1:ai,w1=(aA w (aw #[.int .i64 x.j',.int .i64 x.an,.int .i64 x.aX,.string (str x.O),(bb,D x.I,aQ)] 53)):=⟨_,rfl⟩;have eV:Hid (w1.heap[w.heap.size]?=some (.cells #[.int .i64 x.j',.int .i64 x.an,.int .i64 x.aX,.string (str x.O),(bb,D x.I,aQ)] 53 (0,0))):=A (by rw[fp];exact ek _ _);have hS:Hid (Go N p X S w tv nv E w1 s nv []):=A (by rw[fp];exact z.o.alloc _);have vs:Hid (jC N w1 (bb,D x.I,aQ) x.I):=A (by rw[fp];exact ia.o.alloc _);rw[<-fp];clear fp;have b':=az eV.o 0;have c9:=az eV.o 1;have cw:=az eV.o 2;have da:=az eV.o 3;have dQ:=az eV.o 4;have qZ:=bd eV.o;have d4:=hS.o.st.c4;have h7:=hS.o.st.lt;have aiC:=hS.o.st.jo;simp only[cO,cQ,c8] at b' c9 cw da dQ;have o6:Hid (w1.ownsRow N 53 5 nv (D E) (E.flatMap λx=>kW x.1 x.2)):=A (by have:=hS.o.st.aj.row;rwa[lU] at this);have n0:=A hS.o.st.blk;have qU:Hid (((aA w1 (.cells (kW x (bb,D x.I,aQ)).toArray 53)).drew).heap[p]?=some (.cells #[.string S,tv,.int .i64 (s.p.i:Int),.int .i64 s.p.bR,nv,.int .i64 (wc s),.int .i64 (wp s:Int),.bool (gJ s)] 67 (0,0))):=A (hO n0.o _);obtain⟨A7,A8,z_⟩:=eR o6.o rfl;subst z_;go_wp2_with fail;go_region_law(refine tJ _ (by rfl) _ _ _ (by rfl) N 53 i0 _ 5 64 underlying35 fM e' e_ ff rfl J (A7,D E,A8) (D E) (E.flatMap λx=>kW x.1 x.2) (by rfl) (by exact o6.o.alloc _) ⟨w1.heap.size,0,none⟩ 1 1 (kW x (bb,D x.I,aQ)) (by rfl) (by rfl) (j7 (cs:=(kW x (bb,D x.I,aQ)).toArray) (t:=53) (fr:=(0,0)) (hf _ _)) M'.o J (by unfold dc;omega) J (by simp;omega) (w1.heap.size+1) bT ?_;intro g2 fz a6 qa dv e1 bN;have di:=xO qU.o dv (λdY=>mu o6.o n0.o aN dY.symm);have dY:=az di 4;have ag:=cX di 4;have Eh:=bd di;simp only[cO,cQ,c8] at dY;have M_:=A dv;have uQ:=A qa;have hk:=A di;clear di dv qa)
 all_goals
  have dj:=A (O9 hS.o uQ.o M_.o e1 vs.o hk.o aI);clear e1 dY ag b' c9 cw da dQ d4;have y4:=dj.o.1.c4;have ajb:=dj.o.1.lt;have BE:IntKind.i64.wrap ((D E:Int)+1- 1)=(D E:Int):=by rw[Int.add_sub_cancel];exact dI _ J
  generalize(a7 a6 ⟨p,4,none⟩ (.slice (some ⟨g2,0,none⟩) (D E+1) fz))=cp at*;go_wp2;go_returns;exact⟨by show Ending.returned (.int .i64 (D E:Int))=_;rw[wZ.o],_,dj.o.1,dj.o.2⟩
end
section
variable{N p q:Nat}{w0 wk w2:ai}{X:B.Src}{S:ByteArray}{s s2:W.ak}{tv nv aW cR:af}{E ar h_:List (aP×af)}{c:Array af}{t:TypeId}
def cI.de{u l}(h:cI N w0 wk (E++ar) u l)(bF:Go N p X S w0 tv nv E wk s aW ar)(m:gu N p wk aW w2 cR)(bZ:iu wk.heap.size h_):cI N w0 w2 (E++(ar++h_)) u l:=by
 refine⟨nk h.row (λk U=>m.gP k (h.row.lt k U).2 (λe=>?_) (r0 h.row bF.st.aj.row aN U)),h.dV,?_⟩
 .subst e;exact mu h.row bF.st.blk aN U
 .rw[<-oH];intro x aF b G e;obtain aF|aF:=List.mem_append.1 aF
  .exact h.ap x aF b G e
  .have R:=bZ x aF b G;have T:=(h.row.lt b e).2;omega
def cI.new(bF:Go N p X S w0 tv nv E wk s aW ar)(l:List Nat)(hl:D l<=1000):cI N w0 (aA wk (.cells (fh l).toArray 3)) (E++ar) (wk,D l,D l) l:=by
 refine⟨⟨by simp[fh],.inr ⟨wk.heap.size,D l,(fh l).toArray,rfl,bF.st.jo,ek _ _,bD _,by unfold dc;omega,by simp[fh],?_⟩⟩,λb G=>by cases G;exact bF.size,λx aF b G e=>?_⟩
 .simp[fh,u7]
 .obtain rfl:wk.heap.size=b:=by simpa[tA] using e
  have:=((bF.st.aj.I x aF).lt _ G).2;omega
def cI.grown{u l l2 a6 o g2 m fz}(h:cI N w0 wk (E++ar) u l)(bF:Go N p X S w0 tv nv E wk s aW ar)(fF:a6.ownsRow N 3 1 (.slice (some ⟨g2,0,none⟩) (D l+m) fz) (D l+m) (fh l++fh l2))(hm:D l2=m)(dv:(aA wk o).grownBy a6 u.ownBlock)
 (e1:u.ownBlock=some g2\/g2=wk.heap.size+1):Go N p X S w0 tv nv E a6 s aW ar/\cI N w0 a6 (E++ar) (.slice (some ⟨g2,0,none⟩) (D l+m) fz) (l++l2)/\(∀k,k<wk.heap.size->u.ownBlock≠some k->a6.heap[k]?=wk.heap[k]?):=by
 have U: ∀k,k<wk.heap.size->u.ownBlock≠some k->a6.heap[k]?=wk.heap[k]?:=λk R T=>(dv.block k (by simp;omega) (λe=>T e.symm)).trans (Below.heap_alloc _ _ _ R);have dD:=bF.st;have hs:=bF.size;have bN: ∀k,u.ownBlock=some k->k<wk.heap.size:=λk ei=>(h.row.lt k ei).2;have vL:u.ownBlock≠some p:=λe=>mu h.row dD.blk aN e;have di:aL N wk a6:=Below.grown ((aT N wk).alloc dD.jo o) dv (by simp;have:=dD.jo;omega) (λk ei=>(h.row.lt k ei).1);have Az:Go N p X S w0 tv nv E a6 s aW ar:=by
  refine⟨{dD with
    blk:=(U p (bd dD.blk) vL).trans dD.blk
    bu:=nk dD.bu (λk ei=>U k (dD.bu.lt k ei).2 (λe=>r0 dD.bu h.row aN ei e))
    aj:=⟨nk dD.aj.row (λk ei=>U k (dD.aj.row.lt k ei).2 (λe=>r0 dD.aj.row h.row aN ei e)),λx aF=>nk (dD.aj.I x aF) (λk ei=>U k ((dD.aj.I x aF).lt k ei).2 (h.ap x aF k ei))⟩},
   ⟨bF.de.below.trans di,λk R T ah=>(U k J (λe=>?_)).trans (bF.de.gP k R T ah),bF.de.row⟩,bF.fr,bF.eK,bF.pl⟩
  have:=h.dV k e;omega
 refine⟨Az,⟨?_,λb G=>?_,λx aF b G e=>?_⟩,U⟩
 .have:fh (l++l2)=fh l++fh l2:=rX;show a6.ownsRow N 3 1 _ (D (l++l2)) (fh (l++l2));rw[this,dW,hm];exact fF
 .obtain rfl:g2=b:=by simpa[tA] using G
  obtain e|e:=e1
  .exact h.dV _ e
  .omega
 .obtain rfl:g2=b:=by simpa[tA] using e
  obtain e|e:=e1
  .exact h.ap x aF _ G e
  .have:=((dD.aj.I x aF).lt _ G).2;omega
end
section
variable{N p:Nat}{w:ai}{X:B.Src}{S:ByteArray}{s:W.ak}{tv nv:af}{E:List (aP×af)}
def cI.K1{wk aW ar u l l2 a6 g2 m fz}(h:cI N w wk (E++ar) u l)(bF:Go N p X S w tv nv E wk s aW ar)(fF:a6.ownsRow N 3 1 (.slice (some ⟨g2,0,none⟩) (D l+m) fz) (D l+m) (fh l++fh l2))(hm:D l2=m)(dv:wk.grownBy a6 u.ownBlock)
 (e1:u.ownBlock=some g2\/g2=wk.heap.size):Go N p X S w tv nv E a6 s aW ar/\cI N w a6 (E++ar) (.slice (some ⟨g2,0,none⟩) (D l+m) fz) (l++l2):=by
 have U: ∀k,k<wk.heap.size->u.ownBlock≠some k->a6.heap[k]?=wk.heap[k]?:=λk R T=>dv.block k R (λe=>T e.symm);have dD:=bF.st;have hs:=bF.size;have vL:u.ownBlock≠some p:=λe=>mu h.row dD.blk aN e;have di:aL N wk a6:=Below.grown (aT N wk) dv dD.jo (λk ei=>(h.row.lt k ei).1);have Az:Go N p X S w tv nv E a6 s aW ar:=by
  refine⟨{dD with
    blk:=(U p (bd dD.blk) vL).trans dD.blk
    bu:=nk dD.bu (λk ei=>U k (dD.bu.lt k ei).2 (λe=>r0 dD.bu h.row aN ei e))
    aj:=⟨nk dD.aj.row (λk ei=>U k (dD.aj.row.lt k ei).2 (λe=>r0 dD.aj.row h.row aN ei e)),λx aF=>nk (dD.aj.I x aF) (λk ei=>U k ((dD.aj.I x aF).lt k ei).2 (h.ap x aF k ei))⟩},
   ⟨bF.de.below.trans di,λk R T ah=>(U k J (λe=>?_)).trans (bF.de.gP k R T ah),bF.de.row⟩,bF.fr,bF.eK,bF.pl⟩
  have:=h.dV k e;omega
 refine⟨Az,⟨?_,λb G=>?_,λx aF b G e=>?_⟩⟩
 .have:fh (l++l2)=fh l++fh l2:=rX;show a6.ownsRow N 3 1 _ (D (l++l2)) (fh (l++l2));rw[this,dW,hm];exact fF
 .obtain rfl:g2=b:=by simpa[tA] using G
  obtain e|e:=e1
  .exact h.dV _ e
  .omega
 .obtain rfl:g2=b:=by simpa[tA] using e
  obtain e|e:=e1
  .exact h.ap x aF _ G e
  .have:=((dD.aj.I x aF).lt _ G).2;omega
end
def jM (N p:Nat)(X:B.Src)(S:ByteArray)(w:ai)(tv nv:af)(E:List (aP×af))(r:W.aV)(e:e7)(w':ai):Prop:=
 match r with
 | .o=>True
 | .ok v s'=> ∃u gL ar,e= .returned u/\cn N p w' X S s' tv gL (E++ar)/\gu N p w nv w' gL/\iu w.heap.size ar/\cI N w w' (E++ar) u v/\D v<=1000000
section
variable{N p:Nat}{w wk w2:ai}{X:B.Src}{S:ByteArray}{s bf:W.ak}{tv nv aW:af}{E ar:List (aP×af)}
def jM.parts{r e w'}(h:jM N p X S w tv nv E r e w')(aZ:r≠ .o):
  ∃v s' u gL ar,r= .ok v s'/\e= .returned u/\cn N p w' X S s' tv gL (E++ar)/\gu N p w nv w' gL/\iu w.heap.size ar/\cI N w w' (E++ar) u v/\D v<=1000000:=by
 cases r with
 |o=>exact absurd rfl aZ
 |ok v s'=>
  obtain⟨u,gL,ar,R,T,ah,bJ,dH⟩:=h;exact⟨v,s',u,gL,ar,rfl,R,T,ah,bJ,dH⟩
def Go.DJ{v u r}(h:Go N p X S w tv nv E wk bf aW ar)(U:cI N w wk (E++ar) u v)(hl:D v<=1000000)(au:r= .ok v bf):jM N p X S w tv nv E r (.returned u) wk:=by subst au;exact⟨u,aW,ar,rfl,h.st,h.de,h.fr,U,hl⟩
end
def gg (X:B.Src)(S:ByteArray)(f:FuncId)(val:List Nat->af)(plain:W.ak->W.aV):Prop:=
 ∀(N p:Nat) (w:ai) (s:W.ak) (tv nv:af) (E:List (aP×af)),cn N p w X S s tv nv E->plain s≠ .o->aY f #[(p,0)] w (Out N p X S w tv nv E val (plain s))
end il
namespace il
def Gg(a b):((str a).toList==b)=(a==b):=by rw[fC,f_]
section
variable{N p:Nat}{w:ai}{X:B.Src}{S:ByteArray}{s:W.ak}{tv nv:af}{E:List (aP×af)}
def A0(h:cn N p w X S s tv nv E):aY 53 #[(p,0)] w λe w'=>e= .returned (l1 (W.aM X s))/\aL w w w':=by
 have bO:=az h.blk 0;have bq:=az h.blk 1;have cK:=az h.blk 2;have gV:=h.lt;simp only[cO,cQ,c8] at bO bq cK;have aD:=h.src.small;have hl:=h.src.fA;have ay:=h.i;by_cases bN:s.p.i<D X.bu
 .obtain⟨g,gc,aB⟩:=dR h.bu J;subst aB;obtain⟨cF,ui,ml,iS⟩:=C4 h.bu bN (iz X);have ft:=(eI h.bu g rfl).2;have rn:Hid (W.aM X s=Y X.bu s.p.i (iz X)):=A rfl;have⟨eS,b1⟩:(0:Int)<=s.p.i/\(s.p.i:Int)<D X.bu:=J;generalize s.p.i=i at*;generalize Y X.bu i (iz X)=t at*;rw[rn.o];generalize D X.bu=n at*;go_in;go_wp2_with fail;go_quiet (fail)
  go_wp2_with fail;go_region
  go_wp2;go_returns;exact⟨rfl,Js _ _ _ _ _ _ _⟩
 .obtain⟨a,gc,aB⟩:=eR h.bu rfl;subst aB;have hle:D X.bu<=s.p.i:=J;have rn:Hid (W.aM X s=⟨0,[],0,S.size⟩):=A (by unfold W.aM B.aM iz;rw[cd,pr hle,h.src.len];rfl);rw[rn.o];generalize s.p.i=i at*;generalize D X.bu=n at*;go_in;go_wp2_with fail;go_quiet (fail)
  go_wp2;go_returns;exact⟨rfl,Js _ _ _ _ _ _ _⟩
def KT(X:B.Src)(s:W.ak)(cj:ByteArray):W.bw X s (aC cj)=(((str (W.aM X s).O).toList==cj.toList)&&((W.aM X s).j'==3||(W.aM X s).j'==4)):=by unfold W.bw B.bw;show((B.aM X s.p).O==aC cj&&_)=((str (B.aM X s.p).O).toList==cj.toList&&_);rw[fC,fC,f_];rfl
def acL(h:cn N p w X S s tv nv E)(cj):aY 79 #[.pointer (some ⟨p,0,none⟩),.string cj] w λe w'=>e= .returned (.bool (W.bw X s (aC cj)))/\aL w w w':=by
 have ep:=A (A0 h);rw[KT];generalize W.aM X s=t at*;obtain⟨j',O,aX,an⟩:=t;dsimp only;cases R:((str O).toList==cj.toList) with
 |false=>
  go_in;go_wp2_with fail;refine ep.o.mono ?_;rintro e w1 ⟨rfl,G⟩;have bh:=A G;clear G;unfold l1 e2;go_wp2;go_returns;exact⟨rfl,bh.o.alloc bh.o.size _⟩
 |true=>
  by_cases ah:j'=3
  .subst ah;go_in;go_wp2_with fail;refine ep.o.mono ?_;rintro e w1 ⟨rfl,G⟩;have bh:=A G;clear G;unfold l1 e2;go_wp2;go_returns;exact⟨rfl,bh.o.alloc bh.o.size _⟩
  .have g3:(j'==3)=false:=(by simpa using ah);have z:=A g3;go_in;go_wp2_with fail;refine ep.o.mono ?_;rintro e w1 ⟨rfl,G⟩;have bh:=A G;clear G;unfold l1 e2;go_wp2;go_returns;exact⟨lD (by rw[z.o];simp),bh.o.alloc bh.o.size _⟩
def xS(h:cn N p w X S s tv nv E)(cj)(b:Bool)(G:Hid (W.bw X s (aC cj)=b)):aY 79 #[(p,0),cj] w λe w'=>e= .returned (.bool b)/\aL w w w':=by have:=acL h cj;rw[G.o] at this;exact this
def cn.ad2{wk}(h:cn N p wk X S s tv nv E)(c:Int)(hw:s.w=none):
  cn N p (a7 (a7 (a7 (a7 wk (p,7) (.bool true)) (p,5) c) (p,6) [((W.aM X s).an:Int)]) (p,2) (D X.bu)) X S (W.stop X c s) tv nv E:=
 have ag:=et h.blk 7 (.bool true);have aE:=et ag 5 c;have bU:=et aE 6 [((W.aM X s).an:Int)]
 {blk:=by
   have cL:=et bU 2 (D X.bu);have hs:W.stop X c s=⟨{s.p with i:=D X.bu},some (c,(W.aM X s).an)⟩:=(by unfold W.stop;rw[hw];rfl);rw[hs];exact cL
  bu:=eZ (eZ (eZ (eZ h.bu h.blk aN) ag aN) aE aN) bU aN
  aj:=AW (AW (AW (AW h.aj h.blk 7 _) ag 5 _) aE 6 _) bU 2 _
  eq:=h.eq,src:=h.src,i:=bD _,many:=h.many,hN:=h.hN}
def cn.acM{wk}(h:cn N p wk X S s tv nv E)(c:Int){x}(hw:s.w=some x):
  cn N p (a7 wk (p,2) (D X.bu)) X S (W.stop X c s) tv nv E:=by
 have hs:W.stop X c s={s with p:={s.p with i:=D X.bu}}:=by unfold W.stop;rw[hw];cases s;cases hw;rfl
 rw[hs];exact h.Bz (bD _)
def Jo(h:cn N p w X S s tv nv E)(c:Int):aY 85 #[(p,0),c] w (Out N p X S w tv nv E lk (.ok [] (W.stop X c s))):=by
 have cC:=A h;have ep:=A (A0 h);have aiD:=h.jo;have aJ:=h.hN;obtain⟨cb,fQ,tj⟩:=eR h.bu rfl;cases hw:s.w with
 |none=>
  have rj:=h.rj;have Np:gJ s=false:=by unfold gJ;rw[hw];rfl
  rw[Np] at rj;have hd:=A hw;have gV:=h.lt;have pk:=A tj;clear h hw tj;go_in;go_wp2_with fail;refine ep.o.mono ?_;rintro e w1 ⟨rfl,G⟩;have n0:=A (cC.o.below G);have bh:=A G;have td:=G.size;clear G;generalize ln:W.aM X s=t at*;have rn:=A ln;clear ln;unfold l1 e2;have jk:=A (n0.o.below ((aT _ _).alloc (bD _) (aw #[t.j',t.O,t.aX,t.an] 97)));have En:=A (ek w1 (aw #[t.j',t.O,t.aX,t.an] 97));have cN:=A (bh.o.alloc td (aw #[t.j',t.O,t.aX,t.an] 97));have iS:=az En.o 3;have bq:=jk.o.bq;have f7:=jk.o.free 7;have f5:=jk.o.free 5;have f6:=jk.o.free 6;have f2:=jk.o.free 2;have d7:=jk.o.rj;have d5:=jk.o.c5;have d6:=jk.o.y8;have d2:=jk.o.cK;have iL:=jk.o.lt;have qZ:=bd En.o;simp only[cO,cQ,c8] at iS;rw[pk.o] at bq;have ba:=A (jk.o.ad2 c hd.o);rw[rn.o] at ba;have ajn:w1.heap.size≠p:=by have:=n0.o.lt;omega
  have w8:p≠w1.heap.size:=ajn.symm;go_wp2;go_returns;exact Dc (ar:=[]) rfl rfl (by rw[lU];exact ba.o) (((((gu.new cN.o aiD).set aJ 7 _).set aJ 5 _).set aJ 6 _).set aJ 2 _) (iu.nil _)
 |some x=>
  have rj:=h.rj;have Np:gJ s=true:=by unfold gJ;rw[hw];rfl
  rw[Np] at rj;have bq:=h.bq;rw[tj] at bq;have f2:=h.free 2;have d2:=h.cK;have gV:=h.lt;have ba:=A (h.acM c hw);clear h hw tj;go_in;go_wp2;go_returns;exact Dc (ar:=[]) rfl rfl (by rw[lU];exact ba.o) ((gu.refl _ _ _ _).set aJ 2 _) (iu.nil _)
end
end il
namespace il
section
variable{N p:Nat}{w:ai}{X:B.Src}{S:ByteArray}{s:W.ak}{tv nv:af}{E:List (aP×af)}
def eM.go{N p q w0 wk X S s tv nv aW E ar c t}(h:eM w0 wk aW q c t)(bF:Go N p X S w0 tv nv E wk s aW ar)(bI:3≠t)(i u):Go N p X S w0 tv nv E (a7 wk ⟨q,i,none⟩ u) s aW ar:=bF.box h.dV h.blk h.ne bI i u
def cI.step{N p w0 wk w2 X S s tv nv aW u E ar l}(h:cI N w0 wk (E++ar) u l)(bF:Go N p X S w0 tv nv E wk s aW ar)(T:gu N p wk aW w2 aW):cI N w0 w2 (E++ar) u l:=by have:=cI.de h bF T (iu.nil _);rwa[lU] at this
def cI.lift{N p w0 wk w2 X S s tv nv aW u E ar h_ l}(h:cI N wk w2 ((E++ar)++h_) u l)(bF:Go N p X S w0 tv nv E wk s aW ar):cI N w0 w2 (E++(ar++h_)) u l:=
 ⟨h.row,λb G=>hg bF.size (h.dV b G),by rw[<-oH];exact h.ap⟩
def vj{X s x}(h:W.bw X s x=true):s.p.i<D X.bu:=YtjfkhpkicioakaaGreatDoor.vj X s.p x h
def Jx{X s}(h:W.hZ X s=true):s.p.i<D X.bu:=YtjfkhpkicioakaaGreatDoor.Jx X s.p h
def Jn(h:cn N p w X S s tv nv E)(cj):aY 55 #[.pointer (some ⟨p,0,none⟩),.string cj] w (Out N p X S w tv nv E cD (W.take X (aC cj) s)):=by
 have z:=A (Go.start h);go_in;go_wp2_with fail;refine b7 (A0 z.o.st) λw1 G=>?_;replace z:=A (z.o.new G);clear G;generalize ln:W.aM X s=t at*;have jv:=A ln;clear ln;unfold l1 e2;go_wp2_with fail;have e5:=A (eM.new z.o #[t.j',t.O,t.aX,t.an] 97);replace z:=A (z.o.alloc (aw #[t.j',t.O,t.aX,t.an] 97));generalize gT:(aA w1 (aw #[t.j',t.O,t.aX,t.an] 97))=w2 at*;have qZ:=e5.o.lt;cases G:W.bw X s (aC cj) with
 |false=>
  have b0:=A G;skip;clear G;refine b7 (xS z.o.st cj false b0) λbc G=>?_;replace e5:=A (e5.o.below G);replace z:=A (z.o.new G);clear G;go_wp2_with fail;refine(Jo z.o.st 3).mono ?_;rintro e bS a_;obtain⟨v,bA,n4,Dt,au,rfl,R,T,ah⟩:=a_.parts ((λe=>by cases e));have au:W.aV.ok [] (W.stop X 3 s)= .ok v bA:=au;cases au;replace e5:=A (e5.o.de z.o.pl T);replace z:=A (z.o.then R T ah);unfold lk;have Kx:aG bS (w1.heap.size,3)=some [t.an]:=e5.o.cell 3;have Dm:=e5.o.lt;skip;have ba:Hid (Out N p X S w tv nv E cD (W.take X (aC cj) s) (.returned t.an) bS):=A (z.o.o (v:=[t.an]) (by simp[W.ns,jv.o,b0.o,W.take,W.enter,W.dU,W.name,W.fL,W.jt,W.aV.M]) rfl);go_wp2;go_returns;exact ba.o
 |true=>
  have b0:=A G;have bN:=vj G;clear G;refine b7 (xS z.o.st cj true b0) λbm G=>?_;replace e5:=A (e5.o.below G);replace z:=A (z.o.new G);clear G;have D7:s.p.i+1<=D X.bu:=J;have TE:=z.o.st.src.fA;have n':=z.o.st.cK;have AR:=z.o.st.free 2;have dl:=z.o.st.lt;have hK:IntKind.i64.wrap (s.p.i+1)=s.p.i+1:=dI _ J;replace e5:=A (e5.o.rC z.o.pl 2 [((s.p.i:Int)+1:Int)]);replace z:Hid (Go N p X S w tv nv E (a7 bm (p,2) [((s.p.i:Int)+1:Int)]) (W.bs s) nv _):=A (z.o.bs D7);have bU:aG (a7 bm (p,2) [((s.p.i:Int)+1:Int)]) (w1.heap.size,3)=some [t.an]:=e5.o.cell 3;have ba:Hid (Out N p X S w tv nv E cD (W.take X (aC cj) s) (.returned t.an) (a7 bm (p,2) [((s.p.i:Int)+1:Int)])):=A (z.o.o (v:=[t.an]) (by simp[W.ns,jv.o,b0.o,W.take,W.enter,W.dU,W.name,W.fL,W.jt,W.aV.M]) rfl);go_wp2;go_returns;exact ba.o
def Wl(h:cn N p w X S s tv nv E)(cj)(b:Bool)(G:Hid (W.bw X s (aC cj)=b)):aY 76 #[(p,0),cj] w λe w'=>e= .returned (.bool b)/\cn N p w' X S (if b then W.bs s else s) tv nv E/\gu N p w nv w' nv:=by
 have dA:=A (xS h cj b G);have cC:=A h;have gV:=h.lt;have hN:=h.jo;cases b with
 |false=>
  clear h;go_in;go_wp2_with fail;refine dA.o.mono ?_;rintro e w1 ⟨rfl,ck⟩;have bh:=A ck;clear ck;go_wp2;go_returns;exact⟨rfl,cC.o.below bh.o,gu.new bh.o hN⟩
 |true=>
  have bN:=vj G.o;have rq:=h.src.fA;clear h;go_in;go_wp2_with fail;refine dA.o.mono ?_;rintro e w1 ⟨rfl,ck⟩;have gE:=cC.o.below ck;have d2:=gE.cK;have DX:=gE.free 2;have gq:=gE.lt;have bh:=A ck;have iC:=A gE;clear ck gE;go_wp2;go_returns;exact⟨rfl,iC.o.bs bN,(gu.new bh.o hN).set iC.o.hN 2 _⟩
def Zy(h:cn N p w X S s tv nv E):aY 77 #[.pointer (some ⟨p,0,none⟩)] w (Out N p X S w tv nv E (λ_=> .string (str (jw X s))) (W.name X s)):=by
 have z:=A (Go.start h);clear h;go_in;go_wp2_with fail;refine b7 (A0 z.o.st) λw1 G=>?_;replace z:=A (z.o.new G);clear G;generalize ln:W.aM X s=t at*;have jv:=A ln;clear ln;unfold l1 e2;have e5:=A (eM.new z.o #[.int .i64 t.j',.string (str t.O),.int .i64 t.aX,.int .i64 (t.an:Int)] 97);replace z:=A (z.o.alloc (aw #[.int .i64 t.j',.string (str t.O),.int .i64 t.aX,.int .i64 (t.an:Int)] 97));have afa:aG (aA w1 (aw #[.int .i64 t.j',.string (str t.O),.int .i64 t.aX,.int .i64 (t.an:Int)] 97)) ⟨w1.heap.size,0,none⟩=some (.int .i64 t.j'):=e5.o.cell 0;have Kw:aG (aA w1 (aw #[.int .i64 t.j',.string (str t.O),.int .i64 t.aX,.int .i64 (t.an:Int)] 97)) ⟨w1.heap.size,1,none⟩=some (.string (str t.O)):=e5.o.cell 1;have Dm:=e5.o.lt;by_cases k5:t.j'=1
 .have ax:W.hZ X s=true:=by show((W.aM X s).j'==1)=true;rw[jv.o,k5];rfl
  have bN:=Jx ax;have D2:=A ax;have bW:Hid (jw X s=t.O):=A (by unfold jw;rw[ax,jv.o];rfl);have om:(t.j' !=1)=false:=by simp[k5]
  clear ax k5;have D7:s.p.i+1<=D X.bu:=J;have TE:=z.o.st.src.fA;have n':=z.o.st.cK;have AR:=z.o.st.free 2;have dl:=z.o.st.lt;have hK:IntKind.i64.wrap ((s.p.i:Int)+1)=(s.p.i:Int)+1:=dI _ J;replace e5:=A (e5.o.rC z.o.pl 2 (.int .i64 ((s.p.i:Int)+1)));replace z:Hid (Go N p X S w tv nv E (a7 (aA w1 (aw #[.int .i64 t.j',.string (str t.O),.int .i64 t.aX,.int .i64 (t.an:Int)] 97)) ⟨p,2,none⟩ (.int .i64 ((s.p.i:Int)+1))) (W.bs s) nv _):=A (z.o.bs D7);have ag:aG (a7 (aA w1 (aw #[.int .i64 t.j',.string (str t.O),.int .i64 t.aX,.int .i64 (t.an:Int)] 97)) ⟨p,2,none⟩ (.int .i64 ((s.p.i:Int)+1))) ⟨w1.heap.size,1,none⟩=some (.string (str t.O)):=e5.o.cell 1;have ba:Hid (Out N p X S w tv nv E (λ_=> .string (str (jw X s))) (W.name X s) (.returned (.string (str t.O))) (a7 (aA w1 (aw #[.int .i64 t.j',.string (str t.O),.int .i64 t.aX,.int .i64 (t.an:Int)] 97)) ⟨p,2,none⟩ (.int .i64 ((s.p.i:Int)+1)))):=A (z.o.o (v:=[]) (by simp[W.zt,jv.o,D2.o,W.take,W.enter,W.dU,W.name,W.fL,W.jt,W.aV.M]) (by rw[bW.o]));go_wp2;go_returns;exact ba.o
 .have ax:W.hZ X s=false:=by show((W.aM X s).j'==1)=false;rw[jv.o];simpa using k5
  have D2:=A ax;have bW:Hid (jw X s=[]):=A (by unfold jw;rw[ax];rfl);have om:(t.j' !=1)=true:=by simpa using k5
  clear ax k5;go_wp2_with fail;clear afa Kw Dm;clear om;generalize(aA w1 (aw #[.int .i64 t.j',.string (str t.O),.int .i64 t.aX,.int .i64 (t.an:Int)] 97))=w2 at*;refine(Jo z.o.st 3).mono ?_;rintro e bc a_;obtain⟨v,aq,n3,zT,au,rfl,R,T,ah⟩:=a_.parts ((λe=>by cases e));have au:W.aV.ok [] (W.stop X 3 s)= .ok v aq:=au;cases au;replace e5:=A (e5.o.de z.o.pl T);replace z:=A (z.o.then R T ah);clear a_ R T ah;unfold lk;have ba:Hid (Out N p X S w tv nv E (λ_=> .string (str (jw X s))) (W.name X s) (.returned (.string ⟨#[]⟩)) bc):=A (z.o.o (v:=[]) (by simp[W.zt,jv.o,D2.o,W.take,W.enter,W.dU,W.name,W.fL,W.jt,W.aV.M]) (by rw[bW.o];rfl));go_wp2;go_returns;exact ba.o
def Xt(h:cn N p w X S s tv nv E)(cj):aY 78 #[.pointer (some ⟨p,0,none⟩),.string cj] w (Out N p X S w tv nv E cD (W.enter X (aC cj) s)):=by
 have z:=A (Go.start h);go_in;go_wp2_with fail;refine b7 (A0 z.o.st) λw1 G=>?_;replace z:=A (z.o.new G);clear G;generalize ln:W.aM X s=t at*;have jv:=A ln;clear ln;unfold l1 e2;go_wp2_with fail;have e5:=A (eM.new z.o #[t.j',t.O,t.aX,t.an] 97);replace z:=A (z.o.alloc (aw #[t.j',t.O,t.aX,t.an] 97));generalize gT:(aA w1 (aw #[t.j',t.O,t.aX,t.an] 97))=w2 at*;have qZ:=e5.o.lt;cases G:W.bw X s (aC cj) with
 |false=>
  have b0:=A G;clear G;refine b7 (xS z.o.st cj false b0) λbc G=>?_;replace e5:=A (e5.o.below G);replace z:=A (z.o.new G);clear G;have D1:Hid (True):=A trivial;have om:True:=trivial;obtain⟨d4,bB⟩: ∃d,IntKind.i64.wrap (s.p.bR+1)=d:=⟨_,rfl⟩;have n':=z.o.st.c3;have AR:=z.o.st.free 3;have dl:=z.o.st.lt;replace e5:=A (e5.o.rC z.o.pl 3 d4);replace z:Hid (Go N p X S w tv nv E (a7 bc (p,3) d4) (W.up s) nv _):=A (by rw[<-bB];exact z.o.bR _);go_wp2_with fail;generalize(a7 bc (p,3) d4)=bm at*;refine(Jn z.o.st cj).mono ?_;rintro e b4 a_;obtain⟨v,ha,n6,QU,au,rfl,R,T,ah⟩:=a_.parts ((λe=>by cases e));have au:W.aV.ok [(W.aM X (W.up s)).an] (W.ns X (aC cj) (W.up s))= .ok v ha:=au;cases au;replace e5:=A (e5.o.de z.o.pl T);replace z:=A (z.o.then R T ah);unfold cD;rw[show(W.aM X (W.up s)).an=t.an from congrArg aa.Tok.an jv.o];have ba:Hid (Out N p X S w tv nv E cD (W.enter X (aC cj) s) (.returned t.an) b4):=A (z.o.o (v:=[t.an]) (by unfold W.enter W.wD;rw[ao (by simp[b0.o,D1.o]),jv.o]) rfl);go_wp2;go_returns;exact ba.o
 |true=>
  have b0:=A G;clear G;refine b7 (xS z.o.st cj true b0) λb3 G=>?_;replace e5:=A (e5.o.below G);replace z:=A (z.o.new G);clear G;by_cases Cz:s.p.bR=30
  .have D1:=A Cz;have n':=z.o.st.c3;have dl:=z.o.st.lt;have om:(s.p.bR==30)=true:=(by simp[Cz]);clear Cz;go_wp2_with fail;refine(Jo z.o.st 4).mono ?_;rintro e a6 a_;obtain⟨v,ik,ajW,Xn,au,rfl,R,T,ah⟩:=a_.parts ((λe=>by cases e));have au:W.aV.ok [] (W.stop X 4 s)= .ok v ik:=au;cases au;replace e5:=A (e5.o.de z.o.pl T);replace z:=A (z.o.then R T ah);unfold lk;have Kx:aG a6 (w1.heap.size,3)=some [t.an]:=e5.o.cell 3;have Dm:=e5.o.lt;have ba:Hid (Out N p X S w tv nv E cD (W.enter X (aC cj) s) (.returned t.an) a6):=A (z.o.o (v:=[t.an]) (by unfold W.enter W.wD;rw[aS ⟨b0.o,D1.o⟩,jv.o]) rfl);go_wp2;go_returns;exact ba.o
  .have D1:=A Cz;have om:(s.p.bR==30)=false:=(by simpa using Cz);clear Cz;obtain⟨d9,bB⟩: ∃d,IntKind.i64.wrap (s.p.bR+1)=d:=⟨_,rfl⟩;have n':=z.o.st.c3;have AR:=z.o.st.free 3;have dl:=z.o.st.lt;replace e5:=A (e5.o.rC z.o.pl 3 d9);replace z:Hid (Go N p X S w tv nv E (a7 b3 (p,3) d9) (W.up s) nv _):=A (by rw[<-bB];exact z.o.bR _);go_wp2_with fail;generalize(a7 b3 (p,3) d9)=gF at*;refine(Jn z.o.st cj).mono ?_;rintro e iP a_;obtain⟨v,qs,ajT,Xl,au,rfl,R,T,ah⟩:=a_.parts ((λe=>by cases e));have au:W.aV.ok [(W.aM X (W.up s)).an] (W.ns X (aC cj) (W.up s))= .ok v qs:=au;cases au;replace e5:=A (e5.o.de z.o.pl T);replace z:=A (z.o.then R T ah);unfold cD;rw[show(W.aM X (W.up s)).an=t.an from congrArg aa.Tok.an jv.o];have ba:Hid (Out N p X S w tv nv E cD (W.enter X (aC cj) s) (.returned t.an) iP):=A (z.o.o (v:=[t.an]) (by unfold W.enter W.wD;rw[ao (by simp[b0.o,D1.o]),jv.o]) rfl);go_wp2;go_returns;exact ba.o
def Xu(h:cn N p w X S s tv nv E)(cj):aY 82 #[.pointer (some ⟨p,0,none⟩),.string cj] w (Out N p X S w tv nv E lk (W.dU X (aC cj) s)):=by have z:=A (Go.start h);go_in;go_wp2_with fail;refine(Jn z.o.st cj).mono ?_;rintro e w1 a_;obtain⟨v,s1,dq,yk,au,rfl,R,T,ah⟩:=a_.parts ((λe=>by cases e));have au:W.aV.ok [(W.aM X s).an] (W.ns X (aC cj) s)= .ok v s1:=au;cases au;replace z:=A (z.o.then R T ah);unfold cD;obtain⟨d2,bB⟩: ∃d,IntKind.i64.wrap ((W.ns X (aC cj) s).p.bR- 1)=d:=⟨_,rfl⟩;have n':=z.o.st.c3;have AR:=z.o.st.free 3;have dl:=z.o.st.lt;replace z:Hid (Go N p X S w tv nv E (a7 w1 (p,3) d2) (W.down (W.ns X (aC cj) s)) dq _):=A (by rw[<-bB];exact z.o.bR _);have ba:Hid (Out N p X S w tv nv E lk (W.dU X (aC cj) s) (.returned (.tuple #[])) (a7 w1 (p,3) d2)):=A (z.o.o (v:=[]) (by simp[Ko,W.take,W.enter,W.dU,W.name,W.fL,W.jt,W.aV.M]) rfl);go_wp2;go_returns;exact ba.o
def Zz(h:cn N p w X S s tv nv E)(j' at_ I)(u:af)(hu:jC N w u I)(aI:D s.p.aj<W.room):aY 166 #[.pointer (some ⟨p,0,none⟩),.int .i64 j',.int .i64 (at_:Int),u] w (A_ N p X S w tv nv E s ⟨j',at_,0,[],I⟩ u):=by have d_:=A (Qq h ⟨j',at_,0,[],I⟩ u hu aI);obtain⟨bb,aQ,Aa⟩:=eR hu rfl;subst Aa;go_in;go_wp2_with fail;refine d_.o.mono ?_;rintro e w1 ⟨rfl,a_⟩;have eV:=A a_;clear a_;go_wp2;go_returns;exact⟨rfl,eV.o⟩
def ZT(h:cn N p w X S s tv nv E)(cj)(b:Bool)(G:Hid (W.ht X s (aC cj)=b)):aY 169 #[(p,0),cj] w λe w'=>e= .returned (.bool b)/\aL w w w':=by
 have z:=A (Go.start h);go_in;go_wp2_with fail;obtain⟨j,bg⟩: ∃j,j=s.p.i+1:=⟨_,rfl⟩;have anP:=z.o.st.src.fA;have anQ:=z.o.st.i;have apO:IntKind.i64.wrap (s.p.i+1)=(j:Int):=by rw[bg];exact dI _ J
 have dl:=z.o.st.lt;by_cases I':j<D X.bu
 .obtain⟨g,gc,aB⟩:=dR z.o.st.bu J;have pk:=A aB;clear aB;subst bg;have Tz:s.p.i+1<D X.bu:=I';have⟨apJ,apK⟩:(0:Int)<=s.p.i+1/\(s.p.i:Int)+1<(D X.bu:Int):=J;have ak1:decide ((s.p.i:Int)+1<(D X.bu:Int))=true:=by simp;omega
  have bI:((str (Y X.bu (s.p.i+1) (iz X)).O).toList==cj.toList)=b:=by
   rw[<-G.o,fC,fC,f_];unfold W.ht B.ht;simp[Tz]
  have Hp:=z.o.jW.st.bu;rw[pk.o] at Hp;refine lV (S:=λw'=>aG w' (p,2)=some [s.p.i]/\aG w' (p,1)=some (g,D X.bu,gc)/\aG w' (g,(s.p.i+1)*4+1)=some (.string (str (Y X.bu (s.p.i+1) (iz X)).O))) cS ⟨z.o.jW.st.cK,by rw[<-pk.o];exact z.o.jW.st.bq,(C4 Hp Tz (iz X)).2.1⟩ (λkC=>?_);have dx:=A ((aT w w).drew);generalize w.drew=w2 at*;generalize(Y X.bu (s.p.i+1) (iz X)).O=ae at*;refine aK 0 ?_;refine aK 1 ?_;refine aK 2 ?_;refine aK 3 ?_;refine aK 4 ?_;refine aK 5 ?_;refine aK 6 ?_;refine aK 7 ?_;refine aK 8 ?_;refine aK 9 ?_;refine aK 10 ?_;refine aK 11 ?_;refine aK 12 ?_;refine aK 13 ?_;refine aK 14 ?_;refine aK 15 ?_;refine aK 16 ?_;refine aK 17 ?_;refine aK 18 ?_;refine aK 19 ?_;refine aK 20 ?_;refine aK 21 ?_;refine aK 22 ?_;refine aK 23 ?_;refine aK 24 ?_;refine aK 25 ?_;refine aK 26 ?_;refine aK 27 ?_;refine p2 cS ?_ _;go_wp2;go_returns;exact⟨by first|rfl|(rw[bI]),dx.o⟩
 .obtain rfl:false=b:=by rw[<-G.o];unfold W.ht B.ht;rw[<-bg];simp[I']
  obtain⟨cb,fQ,tj⟩:=eR z.o.st.bu rfl;have pk:=A tj;clear tj;have ak1:decide ((s.p.i:Int)+1<(D X.bu:Int))=false:=by simp;omega
  refine lV (S:=λw'=>aG w' (p,2)=some [s.p.i]/\aG w' (p,1)=some (cb,D X.bu,fQ)) cS ⟨z.o.jW.st.cK,by rw[<-pk.o];exact z.o.jW.st.bq⟩ (λkC=>?_);have dx:=A ((aT w w).drew);generalize w.drew=w2 at*;refine aK 0 ?_;refine aK 1 ?_;refine aK 2 ?_;refine aK 3 ?_;refine aK 4 ?_;refine aK 5 ?_;refine aK 6 ?_;refine aK 7 ?_;refine aK 8 ?_;refine aK 9 ?_;refine aK 10 ?_;refine aK 11 ?_;refine dw 12 ?_;refine dw 13 ?_;refine dw 14 ?_;refine dw 15 ?_;refine dw 16 ?_;refine dw 17 ?_;refine dw 18 ?_;refine dw 19 ?_;refine dw 20 ?_;refine dw 21 ?_;refine dw 22 ?_;refine dw 23 ?_;refine dw 24 ?_;refine dw 25 ?_;refine aK 26 ?_;refine aK 27 ?_;refine p2 cS ?_ _;go_wp2;go_returns;exact⟨rfl,dx.o⟩
def ZU(h:cn N p w X S s tv nv E)(b:Bool)(G:Hid (tT X s=b)):aY 196 #[(p,0)] w λe w'=>e= .returned (.bool b)/\aL w w w':=by
 have cC:=A h;clear h;obtain⟨a1,R⟩: ∃a,W.bw X s wo=a:=⟨_,rfl⟩;obtain⟨a2,T⟩: ∃a,W.bw X s wB=a:=⟨_,rfl⟩;obtain⟨a3,ah⟩: ∃a,W.bw X s dm=a:=⟨_,rfl⟩;have bh:Hid (b=(a1||a2||a3)):=A (by rw[<-G.o];unfold tT;rw[R,T,ah]);have nd:=A R;have nf:=A T;have Lg:=A ah;clear R T ah;go_in;have Go:=0;go_wp2;refine b7 (xS cC.o ⟨#[99,97,115,101]⟩ a1 nd) λw1 ck=>?_;have c1:=A ck;have iC:=A (cC.o.below ck);clear ck;go_wp2;refine b7 (xS iC.o ⟨#[100,101,102,97,117,108,116]⟩ a2 nf) λw2 ck=>?_;have cN:=A (c1.o.trans (ck.mono c1.o.size));have lx:=A (iC.o.below ck);clear ck;go_wp2;refine b7 (xS lx.o ⟨#[125]⟩ a3 Lg) λbc ck=>?_;have fu:=A (cN.o.trans (ck.mono cN.o.size));clear ck;cases a1 with
 |true=>
  go_wp2;go_returns;exact⟨by rw[bh.o];rfl,fu.o⟩
 |false=>
  cases a2 with
  |true=>
   go_wp2;go_returns;exact⟨by rw[bh.o];rfl,fu.o⟩
  |false=>
   go_wp2;go_returns;exact⟨by rw[bh.o];cases a3<;>rfl,fu.o⟩
def WW(h:cn N p w X S s tv nv E)(b:Bool)(G:Hid (W.l0 X s=b)):aY 125 #[.pointer (some ⟨p,0,none⟩)] w λe w'=>e= .returned (.bool b)/\aL w w w':=by
 have cC:=A h;clear h;obtain⟨t,ln⟩: ∃t,W.aM X s=t:=⟨_,rfl⟩;obtain⟨c,hc⟩: ∃c,sJ.contains t.O=c:=⟨_,rfl⟩;have bh:Hid (b=((c&&t.j' !=1)||t.j'==1)):=A (by rw[<-G.o];unfold W.l0;rw[ln,hc]);have cV:Hid (hasB sJ (str t.O)=c):=A (by unfold hasB;rw[f_];exact hc);have rn:=A ln;clear ln hc;go_in;have Go:=0;go_wp2;refine b7 (A0 cC.o) λw1 ck=>?_;rw[rn.o];unfold l1 e2;have c1:=A ck;have e_:=ck.size;clear ck;have ag:aG (aA w1 (aw #[t.j',t.O,t.aX,t.an] 97)) (w1.heap.size,1)=some [t.O]:=az (ek _ _) 1;have dY:aG (aA w1 (aw #[t.j',t.O,t.aX,t.an] 97)) w1.heap.size=some [t.j']:=az (ek _ _) 0;have eV:Hid (p9 (aA (aA w1 (aw #[t.j',t.O,t.aX,t.an] 97)) (aw #[.string ⟨#[105,110,116]⟩,.string ⟨#[98,111,111,108]⟩,.string ⟨#[99,104,97,110]⟩,.string ⟨#[102,117,110,99]⟩,.string ⟨#[42]⟩] 9)) (w1.heap.size+1) sJ):=A (F0 (by simp));have ba:Hid (aL w w (aA (aA w1 (aw #[t.j',t.O,t.aX,t.an] 97)) (aw #[.string ⟨#[105,110,116]⟩,.string ⟨#[98,111,111,108]⟩,.string ⟨#[99,104,97,110]⟩,.string ⟨#[102,117,110,99]⟩,.string ⟨#[42]⟩] 9))):=A ((c1.o.alloc e_ _).alloc (by simp;omega) _);go_wp2;refine(KE sJ (w1.heap.size+1) (str t.O) _ eV.o (by decide)).mono ?_;rintro e w2 ⟨rfl,rfl⟩;rw[cV.o];by_cases U:t.j'=1
 .have jn:(t.j' !=1)=false:=by simp[U]
  have Oj:(t.j'==1)=true:=by simp[U]
  have bK:=A (And.intro jn Oj);clear U;cases c with
  |true=>
   go_wp2;go_returns;exact⟨lD (by rw[bh.o,bK.o.1,bK.o.2];rfl),ba.o⟩
  |false=>
   go_wp2;go_returns;exact⟨lD (by rw[bh.o,bK.o.1,bK.o.2];rfl),ba.o⟩
 .have jn:(t.j' !=1)=true:=by simpa using U
  have Oj:(t.j'==1)=false:=by simpa using U
  have bK:=A (And.intro jn Oj);clear U;cases c with
  |true=>
   go_wp2;go_returns;exact⟨lD (by rw[bh.o,bK.o.1,bK.o.2];rfl),ba.o⟩
  |false=>
   go_wp2;go_returns;exact⟨lD (by rw[bh.o,bK.o.1,bK.o.2];rfl),ba.o⟩
end
end il
namespace il
def ed (X:B.Src)(S:ByteArray)(f:FuncId)(gm:W.ak->W.aV)(xs:List af:=[]):Prop:=
 (∀(N p:Nat) (w:ai) (s:W.ak) (tv nv:af) (E:List (aP×af)),cn N p w X S s tv nv E->gm s≠ .o->aY f (.pointer (some ⟨p,0,none⟩)::xs).toArray w (Out N p X S w tv nv E cD (gm s)))/\ ∀s,W.bn (gm s)
def tC (X:B.Src)(S:ByteArray)(k:Int)(gm:W.ak->W.aV):Prop:=
 ∀(N p:Nat) (w:ai) (s:W.ak) (tv nv:af) (E:List (aP×af)),cn N p w X S s tv nv E->gm s≠ .o->aY 124 #[(p,0),k] w (jM N p X S w tv nv E (gm s))
structure re (N p:Nat)(X:B.Src)(S:ByteArray)(w:ai)(tv nv:af)(E:List (aP×af))(pl:W.aV)(wk:ai)(s:W.ak)(aW:af)(ar:List (aP×af))(L:List mo)(r:W.aV):Prop where
 go:Go N p X S w tv nv E wk s aW ar
 fP: ∀x∈L,x.Ok N w wk aW (E++ar)
 off:L.Pairwise mo.I4
 eq:pl=r
 ne:pl≠ .o
def aO (N p:Nat)(X:B.Src)(S:ByteArray)(w:ai)(tv nv:af)(E:List (aP×af))(pl:W.aV)(wk:ai)(s:W.ak)(L:List mo)(r:W.aV):Prop:=
 ∃aW ar,re N p X S w tv nv E pl wk s aW ar L r
def i'(r:W.aV)(f g:List Nat->W.ak->W.aV):(r.M f).M g=r.M λv s=>(f v s).M g:=by cases r<;>rfl
def n8{c} [Decidable c](a b:W.aV)(g:List Nat->W.ak->W.aV):(if c then a else b).M g=if c then a.M g else b.M g:=by split<;>rfl
def C1(r:W.aV):r=r.M λv s=> .ok v s:=by cases r<;>rfl
section
variable{N p:Nat}{w wk w2:ai}{X:B.Src}{S:ByteArray}{s s2:W.ak}{tv nv aW cR:af}{E ar h_:List (aP×af)}{pl r r2:W.aV}{L:List mo}{x:mo}
def mo.Ok.de(h:x.Ok N w wk aW (E++ar))(bF:Go N p X S w tv nv E wk s aW ar)(m:gu N p wk aW w2 cR)(bZ:iu wk.heap.size h_):x.Ok N w w2 cR (E++(ar++h_)):=by
 cases x with
 |ea q c t=>exact⟨h.1.de bF.pl m,h.2⟩
 |dd u l=>exact cI.de h bF m bZ
def re.below(h:re N p X S w tv nv E pl wk s aW ar L r)(G:aL wk wk w2):re N p X S w tv nv E pl w2 s aW ar L r:=
 ⟨h.go.new G,λx aF=>(h.fP x aF).below G,h.off,h.eq,h.ne⟩
def re.de(h:re N p X S w tv nv E pl wk s aW ar L r)(R:cn N p w2 X S s2 tv cR ((E++ar)++h_))(T:gu N p wk aW w2 cR)(ah:iu wk.heap.size h_)(he:r=r2):re N p X S w tv nv E pl w2 s2 cR (ar++h_) L r2:=
 ⟨h.go.then R T ah,λx aF=>mo.Ok.de (h.fP x aF) h.go T ah,h.off,h.eq.trans he,h.ne⟩
def cF(h:cn N p w X S s tv nv E)(aZ:pl≠ .o)(e:pl=r):Hid (aO N p X S w tv nv E pl w s [] r):=
 A ⟨nv,[],Go.start h,λ_ aF=>(by cases aF),.nil,e,aZ⟩
def fn{val:List Nat->af}{v}(h:Hid (aO N p X S w tv nv E pl wk s L (.ok v s))):Out N p X S w tv nv E val pl (.returned (val v)) wk:=by obtain⟨_,_,h⟩:=h.o;exact h.go.o h.eq rfl
def ah5{u l}(hl:D l<=1000000)(h:Hid (aO N p X S w tv nv E pl wk s (.dd u l::L) (.ok l s))):jM N p X S w tv nv E pl (.returned u) wk:=by obtain⟨_,_,h⟩:=h.o;have U:cI N w wk (E++_) u l:=h.fP _ (hY ..);exact h.go.DJ U hl h.eq
def c_{c2:Prop}(k:c2:=by go_wp2;go_returns;exact fn z):c2:=k
def dM(e:r=r2)(h:Hid (aO N p X S w tv nv E pl wk s L r)):Hid (aO N p X S w tv nv E pl wk s L r2):=e▸h
def ch(h:Hid (aO N p X S w tv nv E pl wk s L r)): ∃w2,wk=w2/\Hid (aO N p X S w tv nv E pl w2 s L r):=⟨wk,rfl,h⟩
def aO.st(h:Hid (aO N p X S w tv nv E pl wk s L r)): ∃aW ar,cn N p wk X S s tv aW (E++ar):=by obtain⟨aW,ar,h⟩:=h.o;exact⟨aW,ar,h.go.st⟩
def pc(h:Hid (aO N p X S w tv nv E pl wk s L r)):aG wk (p,1)=some tv/\aG wk (p,2)=some [s.p.i]/\aG wk (p,3)=some [s.p.bR]/\aG wk (p,7)=some (.bool (gJ s))/\(∀i,wk.frozen? ⟨p,i,none⟩=false)/\p<wk.heap.size:=by obtain⟨aW,ar,h⟩:=aO.st h;exact⟨h.bq,h.cK,h.c3,h.rj,h.free,h.lt⟩
def Gn(h:Hid (aO N p X S w tv nv E pl wk s L r)):D X.bu<=12001/\s.p.i<=D X.bu:=by obtain⟨aW,ar,h⟩:=aO.st h;exact⟨h.src.fA,h.i⟩
def aky(h:Hid (aO N p X S w tv nv E pl wk s L r)): ∃bb aQ,tv= .slice bb (D X.bu) aQ:=by obtain⟨aW,ar,h⟩:=aO.st h;exact eR h.bu rfl
variable{Q:e7->ai->Prop}{K:List Nat->W.ak->W.aV}{pfs:W.aV}{f:FuncId}{args:Array af}
def Gz(cV: ∀aW pq,cn N p wk X S s tv aW pq-> ∃v,aY f args wk (λe w2=>e= .returned v/\aL wk wk w2)/\ ∀w2,Hid (aO N p X S w tv nv E pl w2 s L r)->Q (.returned v) w2)(z:Hid (aO N p X S w tv nv E pl wk s L r)):aY f args wk Q:=by obtain⟨aW,ar,bF⟩:=z.o;obtain⟨v,R,T⟩:=cV _ _ bF.go.st;refine R.mono ?_;rintro e w2 ⟨rfl,G⟩;exact T w2 (A ⟨aW,ar,bF.below G⟩)
def kH(h: ∀w2,Hid (aO N p X S w tv nv E pl w2 s L r)->Q (.returned (.agg #[.int .i64 (W.aM X s).j',.string (str (W.aM X s).O),.int .i64 (W.aM X s).aX,.int .i64 ((W.aM X s).an:Int)])) w2):Hid (aO N p X S w tv nv E pl wk s L r)->aY 53 #[.pointer (some ⟨p,0,none⟩)] wk Q:=
 Gz λ_ _ R=>⟨_,A0 R,h⟩
def q'(x){cj}(h: ∀b w2,Hid (W.bw X s x=b)->Hid (aO N p X S w tv nv E pl w2 s L r)->Q (.returned (.bool b)) w2)(dZ:aC cj=x:=by rfl):Hid (aO N p X S w tv nv E pl wk s L r)->aY 79 #[(p,0),cj] wk Q:=by subst dZ;exact Gz λ_ _ R=>⟨_,xS R cj _ (A rfl),λw2=>h _ w2 (A rfl)⟩
def Dq(x){cj}(h: ∀b w2,Hid (W.ht X s x=b)->Hid (aO N p X S w tv nv E pl w2 s L r)->Q (.returned (.bool b)) w2)(dZ:aC cj=x:=by rfl):Hid (aO N p X S w tv nv E pl wk s L r)->aY 169 #[(p,0),cj] wk Q:=by subst dZ;exact Gz λ_ _ R=>⟨_,ZT R cj _ (A rfl),λw2=>h _ w2 (A rfl)⟩
def Lm(h: ∀b w2,Hid (tT X s=b)->Hid (aO N p X S w tv nv E pl w2 s L r)->Q (.returned (.bool b)) w2):Hid (aO N p X S w tv nv E pl wk s L r)->aY 196 #[(p,0)] wk Q:=
 Gz λ_ _ R=>⟨_,ZU R _ (A rfl),λw2=>h _ w2 (A rfl)⟩
def j2(x){cj}(R: ∀w2,Hid (W.bw X s x=true)->Hid (aO N p X S w tv nv E pl w2 s L r)->Q (.returned (.bool true)) w2)(aH: ∀w2,Hid (W.bw X s x=false)->Hid (aO N p X S w tv nv E pl w2 s L r2)->Q (.returned (.bool false)) w2)(dZ:aC cj=x:=by rfl):
  Hid (aO N p X S w tv nv E pl wk s L (if W.bw X s x=true then r else r2))->aY 79 #[(p,0),cj] wk Q:=by
 refine q' x (λb w2 G z=>?_) dZ;cases b with
 |true=>exact R w2 G (dM (aS G.o) z)
 |false=>exact aH w2 G (dM (ao (by rw[G.o];decide)) z)
def zf(R: ∀w2,Hid (aO N p X S w tv nv E pl w2 s L r)->Q (.returned (.bool true)) w2)(aH: ∀w2,Hid (aO N p X S w tv nv E pl w2 s L r2)->Q (.returned (.bool false)) w2):
  Hid (aO N p X S w tv nv E pl wk s L (if W.l0 X s=true then r else r2))->aY 125 #[(p,0)] wk Q:=by
 refine Gz λ_ _ h=>⟨_,WW h _ (A rfl),λw2 z=>?_⟩;cases G:W.l0 X s with
 |true=>exact R w2 (dM (aS G) z)
 |false=>exact aH w2 (dM (ao (by rw[G];decide)) z)
def iB(x){cj}(R: ∀w2,Hid (W.bw X s x=true)->Hid (aO N p X S w tv nv E pl w2 (W.bs s) L r)->Q (.returned (.bool true)) w2)(aH: ∀w2,Hid (W.bw X s x=false)->Hid (aO N p X S w tv nv E pl w2 s L r2)->Q (.returned (.bool false)) w2)(dZ:aC cj=x:=by rfl):
  Hid (aO N p X S w tv nv E pl wk s L (if W.bw X s x=true then r else r2))->aY 76 #[(p,0),cj] wk Q:=by
 intro z;obtain⟨aW,ar,bF⟩:=z.o;subst dZ;cases G:W.bw X s (aC cj) with
 |true=>
  refine b7 (Wl bF.go.st cj true (A G)) λw2⟨ah,bJ⟩=>?_;exact R w2 (A G) (A ⟨aW,ar++[],bF.de (by rw[lU];exact ah) bJ (iu.nil _) (aS G)⟩)
 |false=>
  refine b7 (Wl bF.go.st cj false (A G)) λw2⟨ah,bJ⟩=>?_;exact aH w2 (A G) (A ⟨aW,ar++[],bF.de (by rw[lU];exact ah) bJ (iu.nil _) (ao (by rw[G];decide))⟩)
def afl(x){cj}(h: ∀b w2,Hid (W.bw X s x=b)->Hid (aO N p X S w tv nv E pl w2 (cond b (W.bs s) s) L r)->Q (.returned (.bool b)) w2)(dZ:aC cj=x:=by rfl):
  Hid (aO N p X S w tv nv E pl wk s L r)->aY 76 #[(p,0),cj] wk Q:=by intro z;subst dZ;refine iB (r:=r) (r2:=r) _ (λw2 G H=>h true w2 G H) (λw2 G H=>h false w2 G H) rfl (dM (by split<;>rfl) z)
def ahH{s1 s0}(h:Hid (aO N p X S w tv nv E pl wk (cond true s1 s0) L r)):Hid (aO N p X S w tv nv E pl wk s1 L r):=h
def ahG{s1 s0}(h:Hid (aO N p X S w tv nv E pl wk (cond false s1 s0) L r)):Hid (aO N p X S w tv nv E pl wk s0 L r):=h
def sV{DE:List Nat->af}(cV: ∀aW pq,cn N p wk X S s tv aW pq->pfs≠ .o->aY f args wk (Out N p X S wk tv aW pq DE pfs))
 (ok: ∀v w2 s2,pfs= .ok v s2->Hid (aO N p X S w tv nv E pl w2 s2 L (K v s2))->Q (.returned (DE v)) w2):
  Hid (aO N p X S w tv nv E pl wk s L (pfs.M K))->aY f args wk Q:=by intro z;obtain⟨aW,ar,bF⟩:=z.o;have ax:pfs≠ .o:=λe=>bF.ne (by rw[bF.eq,e];rfl);refine(cV _ _ bF.go.st ax).mono ?_;rintro e w2 a_;obtain⟨v,s2,cR,h_,au,rfl,R,T,ah⟩:=a_.parts ax;exact ok v w2 s2 au (A ⟨cR,_,bF.de R T ah (by rw[au];rfl)⟩)
variable{gm:W.ak->W.aV}{xs:List af}
def bq(cV:ed X S f gm xs)(ok: ∀(a:Nat) w2 s2,Hid (aO N p X S w tv nv E pl w2 s2 L (K [a] s2))->Q (.returned (.int .i64 (a:Int))) w2):
  Hid (aO N p X S w tv nv E pl wk s L ((gm s).M K))->aY f (.pointer (some ⟨p,0,none⟩)::xs).toArray wk Q:=
 sV (λ_ _ h=>cV.1 _ _ _ _ _ _ _ h) λv w2 s2 au z=>by
  obtain⟨a,rfl⟩:=cV.2 _ v s2 au;exact ok a w2 s2 z
def eK(cV:ed X S f gm xs)(z:Hid (aO N p X S w tv nv E pl wk s L (gm s)))
 (ok: ∀(a:Nat) w2,Out N p X S w tv nv E cD pl (.returned (.int .i64 (a:Int))) w2->Q (.returned (.int .i64 (a:Int))) w2:=by intro a w2 ba;go_wp2;go_returns;exact ba):
  aY f (.pointer (some ⟨p,0,none⟩)::xs).toArray wk Q:=
 bq (K:=λv s2=> .ok v s2) cV (λa w2 s2 z=>ok a w2 (fn z)) (dM (C1 _) z)
def mA(ok: ∀w2 s2,Hid (aO N p X S w tv nv E pl w2 s2 L (K [] s2))->Q (.returned [jw X s]) w2):
  Hid (aO N p X S w tv nv E pl wk s L ((W.name X s).M K))->aY 77 #[(p,0)] wk Q:=
 sV (λ_ _ h _=>Zy h) λv w2 s2 au z=>by cases au;exact ok w2 _ z
def k0(x:List UInt8){cj}(ok: ∀w2 s2,Hid (aO N p X S w tv nv E pl w2 s2 L (K [(W.aM X s).an] s2))->Q (.returned [((W.aM X s).an:Int)]) w2)(dZ:aC cj=x:=by rfl):
  Hid (aO N p X S w tv nv E pl wk s L ((W.take X x s).M K))->aY 55 #[(p,0),cj] wk Q:=by subst dZ;exact sV (λ_ _ h _=>Jn h cj) λv w2 s2 au z=>by cases au;exact ok w2 _ z
def jB(x:List UInt8){cj}(ok: ∀w2 s2,Hid (aO N p X S w tv nv E pl w2 s2 L (K [(W.aM X s).an] s2))->Q (.returned [((W.aM X s).an:Int)]) w2)(dZ:aC cj=x:=by rfl):
  Hid (aO N p X S w tv nv E pl wk s L ((W.enter X x s).M K))->aY 78 #[(p,0),cj] wk Q:=by subst dZ;exact sV (λ_ _ h _=>Xt h cj) λv w2 s2 au z=>by cases au;exact ok w2 _ z
def lE(x:List UInt8){cj}(ok: ∀w2 s2,Hid (aO N p X S w tv nv E pl w2 s2 L (K [] s2))->Q (.returned (.tuple #[])) w2)(dZ:aC cj=x:=by rfl):
  Hid (aO N p X S w tv nv E pl wk s L ((W.dU X x s).M K))->aY 82 #[(p,0),cj] wk Q:=by subst dZ;exact sV (λ_ _ h _=>Xu h cj) λv w2 s2 au z=>by cases au;exact ok w2 _ z
def GZ{c}(ok: ∀w2,Hid (aO N p X S w tv nv E pl w2 (W.stop X c s) L r)->Q (.returned (.tuple #[])) w2):
  Hid (aO N p X S w tv nv E pl wk s L r)->aY 85 #[(p,0),c] wk Q:=λz=>
 sV (pfs:= .ok [] (W.stop X c s)) (K:=λ_ _=>r) (λ_ _ h _=>Jo h c) (λv w2 s2 au z=>by cases au;exact ok w2 z) z
def vR{k}(cV:tC X S k gm)
 (ok: ∀(l:List Nat) (bb:Option Addr) (aQ:Nat) w2 s2,D l<=1000000->Hid (aO N p X S w tv nv E pl w2 s2 (.dd (bb,D l,aQ) l::L) (K l s2))->Q (.returned (bb,D l,aQ)) w2):
  Hid (aO N p X S w tv nv E pl wk s L ((gm s).M K))->aY 124 #[(p,0),k] wk Q:=by intro z;obtain⟨aW,ar,bF⟩:=z.o;have ax:gm s≠ .o:=λe=>bF.ne (by rw[bF.eq,e];rfl);refine(cV _ _ _ _ _ _ _ bF.go.st ax).mono ?_;rintro e w2 a_;obtain⟨v,s2,u,cR,h_,au,rfl,R,T,ah,bJ,dH⟩:=a_.parts ax;obtain⟨bb,aQ,rfl⟩:=eR bJ.row rfl;have fE:=bF.de R T ah (r2:=K v s2) (by rw[au];rfl);exact ok v bb aQ w2 s2 dH (A ⟨cR,_,fE.go,List.forall_mem_cons.2 ⟨cI.lift bJ bF.go,fE.fP⟩,List.pairwise_cons.2 ⟨λy _=>by cases y<;>trivial,fE.off⟩,fE.eq,fE.ne⟩)
def OA(z:Hid (aO N p X S w tv nv E pl wk s L (pfs.M K))): ∃aW pq,Hid (aO N p X S wk tv aW pq pfs wk s [] pfs)/\ ∀v w2 s2 RX,Hid (aO N p X S wk tv aW pq pfs w2 s2 RX (.ok v s2))->Hid (aO N p X S w tv nv E pl w2 s2 L (K v s2)):=by obtain⟨aW,ar,bF⟩:=z.o;have ax:pfs≠ .o:=λe=>bF.ne (by rw[bF.eq,e];rfl);refine⟨aW,E++ar,cF bF.go.st ax rfl,λv w2 s2 RX H=>?_⟩;obtain⟨cR,h_,h⟩:=H.o;exact A ⟨cR,ar++h_,bF.de h.go.st h.go.de h.go.fr (by rw[h.eq];rfl)⟩
def Dg(h:Hid (aO N p X S w tv nv E pl wk s L (if gJ s=true then r else r2))):(gJ s=true/\Hid (aO N p X S w tv nv E pl wk s L r))\/(gJ s=false/\Hid (aO N p X S w tv nv E pl wk s L r2)):=by
 cases G:gJ s with
 |true=>exact .inl ⟨rfl,dM (aS G) h⟩
 |false=>exact .inr ⟨rfl,dM (ao (by rw[G];decide)) h⟩
def DF{x u l}(aF:x.I=l)(cV: ∀aW pq,cn N p wk X S s tv aW pq->jC N wk u x.I->D s.p.aj<W.room->aY f args wk (A_ N p X S wk tv aW pq s x u))
 (ok: ∀(a:Nat) w2 s2,Hid (aO N p X S w tv nv E pl w2 s2 (nA L) (K [a] s2))->Q (.returned a) w2):
  Hid (aO N p X S w tv nv E pl wk s (.dd u l::L) ((W.put x s).M K))->aY f args wk Q:=by intro z;obtain⟨aW,ar,bF⟩:=z.o;subst aF;have ax:W.put x s≠ .o:=λe=>bF.ne (by rw[bF.eq,e];rfl);have U:cI N w wk (E++ar) u x.I:=bF.fP _ (hY ..);refine b7 (cV _ _ bF.go.st U.row (wq ax)) λw2⟨cR,R,T⟩=>?_;have aB:=bF.go.ahf R T U.dV;refine ok (D s.p.aj) w2 (sU x s) (A ⟨cR,ar++[(x,u)],aB,λy bx=>?_,J7 (List.pairwise_cons.1 bF.off).2,bF.eq.trans (by rw[zm ax];rfl),bF.ne⟩);obtain⟨bx,q,c,t,rfl⟩:=vh bx;have ah:=bF.fP _ (hP _ bx);exact⟨ah.1.de bF.go.pl T,ah.2⟩
def xn{x u l}(ok: ∀(a:Nat) w2 s2,Hid (aO N p X S w tv nv E pl w2 s2 (nA L) (K [a] s2))->Q (.returned a) w2)(aF:x.I=l:=by rfl):
  Hid (aO N p X S w tv nv E pl wk s (.dd u l::L) ((W.put x s).M K))->aY 56 #[(p,0),.agg #[x.j',x.an,x.aX,x.O,u]] wk Q:=
 DF aF (λ_ _ h hu aI=>Qq h x u hu aI) ok
def xm{j' at_ u l}(ok: ∀(a:Nat) w2 s2,Hid (aO N p X S w tv nv E pl w2 s2 (nA L) (K [a] s2))->Q (.returned a) w2):
  Hid (aO N p X S w tv nv E pl wk s (.dd u l::L) ((W.fL j' at_ l s).M K))->aY 166 #[(p,0),j',at_,u] wk Q:=
 DF (x:=⟨j',at_,0,[],l⟩) rfl (λ_ _ h hu aI=>Zz h j' at_ l u hu aI) ok
def pu{x u l}(ok: ∀(a:Nat) w2 s2,Hid (aO N p X S w tv nv E pl w2 s2 (nA L) (.ok [a] s2))->Q (.returned a) w2)(aF:x.I=l:=by rfl):
  Hid (aO N p X S w tv nv E pl wk s (.dd u l::L) (W.put x s))->aY 56 #[(p,0),.agg #[x.j',x.an,x.aX,x.O,u]] wk Q:=λz=>
 xn (K:=λv s=> .ok v s) ok aF (dM (C1 _) z)
def bH{j' at_ u l}(ok: ∀(a:Nat) w2 s2,Hid (aO N p X S w tv nv E pl w2 s2 (nA L) (.ok [a] s2))->Q (.returned a) w2):
  Hid (aO N p X S w tv nv E pl wk s (.dd u l::L) (W.fL j' at_ l s))->aY 166 #[(p,0),j',at_,u] wk Q:=λz=>
 xm (K:=λv s=> .ok v s) ok (dM (C1 _) z)
def ng (t:W.ak->Bool)(lp:Nat->List Nat->W.ak->W.aV)(m:Nat)(d':List Nat)(s:W.ak):W.aV:=if t s=true then .ok d' s else lp m d' s
variable{t:W.ak->Bool}{lp:Nat->List Nat->W.ak->W.aV}{m:Nat}{d':List Nat}{g:List Nat->W.ak->W.aV}
def vE(aH: ∀a s,lp 0 a s= .o)(h:Hid (aO N p X S w tv nv E pl wk s L ((lp m d' s).M g))): ∃k,m=k+1:=by
 obtain⟨_,_,h⟩:=h.o;cases m with
 |zero=>exact absurd (h.eq.trans (by rw[aH];rfl)) h.ne
 |succ k=>exact⟨k,rfl⟩
def q9(aH: ∀a s,lp 0 a s= .o)(aF: ∀m a s,t s=true->lp (m+1) a s= .ok a s)(h:Hid (aO N p X S w tv nv E pl wk s L ((lp m d' s).M g))):Hid (aO N p X S w tv nv E pl wk s L ((ng t lp m d' s).M g)):=by
 obtain⟨k,rfl⟩:=vE aH h;refine dM ?_ h;unfold ng;by_cases G:t s=true
 .rw[aS G,aF _ _ _ G]
 .rw[ao G]
def FE(G:t s=true)(h:Hid (aO N p X S w tv nv E pl wk s L (g d' s))):Hid (aO N p X S w tv nv E pl wk s L ((ng t lp m d' s).M g)):=dM (by unfold ng;rw[aS G];rfl) h
def y0(G:t s=true)(h:Hid (aO N p X S w tv nv E pl wk s L ((ng t lp m d' s).M g))):Hid (aO N p X S w tv nv E pl wk s L (g d' s)):=dM (by unfold ng;rw[aS G];rfl) h
def FD(G:t s=false)(h:Hid (aO N p X S w tv nv E pl wk s L ((ng t lp m d' s).M g))):Hid (aO N p X S w tv nv E pl wk s L ((lp m d' s).M g)):=dM (by unfold ng;rw[ao (by rw[G];decide)]) h
def U9{c a1 b1}(hs:lp (m+1) d' s=if c=true then a1 else b1)(hc:c=false)(h:Hid (aO N p X S w tv nv E pl wk s L ((lp (m+1) d' s).M g))):Hid (aO N p X S w tv nv E pl wk s L (b1.M g)):=dM (by rw[hs,ao (by rw[hc];decide)]) h
def ac6(X:B.Src)(c:Int)(s k):W.bw X (W.stop X c s) k=false:=by show B.bw X (W.stop X c s).p k=false;unfold W.stop B.bw B.aM;dsimp only;rw[cd,pr (bD _)];simp[iz]
def jh (X:B.Src)(s:W.ak):Bool:=W.bw X s dm||gJ s
def tw (X:B.Src)(g:List Nat->W.ak->W.aV)(l:List Nat)(s:W.ak):W.aV:=(W.dU X dm s).M λ_ aq=>g l aq
def NJ{loop:W.ak->W.aV}(h:Hid (aO N p X S w tv nv E pl wk s L ((W.items X loop s).M g))):Hid (aO N p X S w tv nv E pl wk s L ((W.enter X qM s).M λ_ s1=>(loop s1).M (tw X g))):=
 dM (i' (loop (W.wD X qM s)) (λl s2=>(W.dU X dm s2).M λ_ aq=> .ok l aq) g) h
def Nk{one:Nat->W.ak->W.aV}(aH: ∀a s,lp 0 a s= .o)(hs: ∀m a s,lp (m+1) a s=W.kh X (one m) (lp m) a s)(G:jh X s=false)(h:Hid (aO N p X S w tv nv E pl wk s L ((ng (jh X) lp m d' s).M (tw X g)))):
  ∃k,m=k+1/\Hid (aO N p X S w tv nv E pl wk s L ((one k s).M λv s1=>if W.bw X s1 dm=true then tw X g (d'++v) s1 else(W.take X hC s1).M λ_ s2=>(lp k (d'++v) s2).M (tw X g))):=by have h:=FD G h;obtain⟨k,rfl⟩:=vE aH h;refine⟨k,rfl,dM ?_ h⟩;rw[hs,W.kh,ao (show¬(W.bw X s dm||gJ s)=true by rw[show(W.bw X s dm||gJ s)=false from G];decide),i'];refine congrArg _ (funext λv=>funext λs1=>?_);rw[n8];rfl
def cl(h:Hid (aO N p X S w tv nv E pl wk s L r)):Hid (aO N p X S w tv nv E pl wk s (.dd (.slice none 0 0) []::L) r):=by obtain⟨aW,ar,h⟩:=h.o;exact A ⟨aW,ar,h.go,List.forall_mem_cons.2 ⟨cI.nil _ _ _ _,h.fP⟩,List.pairwise_cons.2 ⟨λy _=>by cases y<;>trivial,h.off⟩,h.eq,h.ne⟩
def rE{y}(h:Hid (aO N p X S w tv nv E pl wk s (x::y::L) r)):Hid (aO N p X S w tv nv E pl wk s (y::x::L) r):=by
 obtain⟨aW,ar,h⟩:=h.o;have R:=List.pairwise_cons.1 h.off;have T:=List.pairwise_cons.1 R.2;refine A ⟨aW,ar,h.go,λbp hz=>h.fP bp ?_,List.pairwise_cons.2 ⟨λbp hz=>?_,List.pairwise_cons.2 ⟨λbp hz=>R.1 bp (hP _ hz),T.2⟩⟩,h.eq,h.ne⟩
 .obtain rfl|hz:=List.mem_cons.1 hz
  .exact hP _ (hY ..)
  .obtain rfl|hz:=List.mem_cons.1 hz
   .exact hY ..
   .exact hP _ (hP _ hz)
 .obtain rfl|hz:=List.mem_cons.1 hz
  .have ah:=R.1 y (hY ..);cases bp<;>cases y<;>first|trivial|exact λe=>ah e.symm
  .exact T.1 bp hz
def nZ(h:Hid (aO N p X S w tv nv E pl wk s (x::L) r)):Hid (aO N p X S w tv nv E pl wk s L r):=by obtain⟨aW,ar,h⟩:=h.o;exact A ⟨aW,ar,h.go,(List.forall_mem_cons.1 h.fP).2,(List.pairwise_cons.1 h.off).2,h.eq,h.ne⟩
def qD(c:Array af)(t:TypeId)(h:Hid (aO N p X S w tv nv E pl wk s L r))(bI:3≠t:=by decide): ∃w2 q,aA wk (.cells c t)=w2/\wk.heap.size=q/\q<w2.heap.size/\Hid (aO N p X S w tv nv E pl w2 s (.ea q c t::L) r):=by
 obtain⟨aW,ar,h⟩:=h.o;have T:=h.below ((aT _ _).alloc (bD _) (.cells c t));refine⟨_,_,rfl,rfl,by simp,A ⟨aW,ar,T.go,List.forall_mem_cons.2 ⟨⟨eM.new h.go c t,bI⟩,T.fP⟩,List.pairwise_cons.2 ⟨λy bx=>?_,h.off⟩,h.eq,h.ne⟩⟩;have ah:=h.fP y bx;cases y with
 |ea cw cK t2=>exact λe=>absurd ah.1.lt (by rw[<-e];exact Nat.lt_irrefl _)
 |dd u l=>trivial
def vo(l:List Nat)(hl:D l<=1000)(h:Hid (aO N p X S w tv nv E pl wk s L r)): ∃w2 q,aA wk (.cells (fh l).toArray 3)=w2/\wk.heap.size=q/\q<w2.heap.size/\Hid (aO N p X S w tv nv E pl w2 s (.dd (q,D l,D l) l::L) r):=by obtain⟨aW,ar,h⟩:=h.o;have T:=h.below ((aT _ _).alloc (bD _) (.cells (fh l).toArray 3));exact⟨_,_,rfl,rfl,by simp,A ⟨aW,ar,T.go,List.forall_mem_cons.2 ⟨cI.new h.go l hl,T.fP⟩,List.pairwise_cons.2 ⟨λy _=>by cases y<;>trivial,h.off⟩,h.eq,h.ne⟩⟩
def iE(a:Nat)(h:Hid (aO N p X S w tv nv E pl wk s L r)): ∃w2 q,aA wk (aw #[a] 3)=w2/\wk.heap.size=q/\q<w2.heap.size/\Hid (aO N p X S w tv nv E pl w2 s (.dd (.slice (some q) 1 1) [a]::L) r):=vo [a] bT h
def mf(a b:Nat)(h:Hid (aO N p X S w tv nv E pl wk s L r)): ∃w2 q,aA wk (aw #[a,b] 3)=w2/\wk.heap.size=q/\q<w2.heap.size/\Hid (aO N p X S w tv nv E pl w2 s (.dd (.slice (some q) 2 2) [a,b]::L) r):=vo [a,b] bT h
def MW(a b c:Nat)(h:Hid (aO N p X S w tv nv E pl wk s L r)): ∃w2 q,aA wk (aw #[a,b,c] 3)=w2/\wk.heap.size=q/\q<w2.heap.size/\Hid (aO N p X S w tv nv E pl w2 s (.dd (.slice (some q) 3 3) [a,b,c]::L) r):=vo [a,b,c] bT h
def Nl(h:Hid (aO N p X S w tv nv E pl wk s L r)): ∃w2 q,aA wk (aw #[(0:Int)] 3)=w2/\wk.heap.size=q/\q<w2.heap.size/\Hid (aO N p X S w tv nv E pl w2 s (.dd (.slice (some q) 1 1) [0]::L) r):=vo [0] bT h
def oN(t:aa.Tok)(h:Hid (aO N p X S w tv nv E pl wk s L r)): ∃w2 q,aA wk (aw #[t.j',t.O,t.aX,t.an] 97)=w2/\wk.heap.size=q/\q<w2.heap.size/\Hid (aO N p X S w tv nv E pl w2 s (.ea q #[t.j',t.O,t.aX,t.an] 97::L) r):=qD _ _ h
def rY(c:Array af)(t:TypeId)(h:Hid (aO N p X S w tv nv E pl wk s L r))(bI:3≠t:=by decide):Hid (aO N p X S w tv nv E pl (aA wk (.cells c t)) s (.ea wk.heap.size c t::L) r):=by obtain⟨_,_,rfl,rfl,_,T⟩:=qD c t h bI;exact T
def Bd(a:Nat)(h:Hid (aO N p X S w tv nv E pl wk s L r)):Hid (aO N p X S w tv nv E pl (aA wk (aw #[a] 3)) s (.dd (.slice (some wk.heap.size) 1 1) [a]::L) r):=by obtain⟨_,_,rfl,rfl,_,T⟩:=iE a h;exact T
def Vi(a b:Nat)(h:Hid (aO N p X S w tv nv E pl wk s L r)):Hid (aO N p X S w tv nv E pl (aA wk (aw #[a,b] 3)) s (.dd (.slice (some wk.heap.size) 2 2) [a,b]::L) r):=by obtain⟨_,_,rfl,rfl,_,T⟩:=mf a b h;exact T
def MU(a:Nat)(c:Array af)(t:TypeId)(h:Hid (aO N p X S w tv nv E pl wk s L r))(bI:3≠t:=by decide):Hid (aO N p X S w tv nv E pl (aA (aA wk (aw #[a] 3)) (.cells c t)) s (.ea (wk.heap.size+1) c t:: .dd (.slice (some wk.heap.size) 1 1) [a]::L) r):=by have T:=rY c t (Bd a h) bI;rwa[show(aA wk (aw #[a] 3)).heap.size=wk.heap.size+1 by simp] at T
def sN{ad v}(h:Hid (aO N p X S w tv nv E pl (a7 wk ad v) s L r)): ∃w2,a7 wk ad v=w2/\wk.heap.size=w2.heap.size/\Hid (aO N p X S w tv nv E pl w2 s L r):=⟨_,rfl,by simp,h⟩
variable{q:Nat}{c cK:Array af}{t:TypeId}
def c'(h:Hid (aO N p X S w tv nv E pl wk s (.ea q c t::L) r)):(∀i,aG wk ⟨q,i,none⟩=c[i]?)/\(∀i,wk.frozen? ⟨q,i,none⟩=false)/\q<wk.heap.size:=by obtain⟨aW,ar,h⟩:=h.o;have R:eM w wk aW q c t:=(h.fP _ (hY ..)).1;exact⟨R.cell,R.free,R.lt⟩
def dk(h:Hid (aO N p X S w tv nv E pl wk s (x:: .ea q c t::L) r)):(∀i,aG wk ⟨q,i,none⟩=c[i]?)/\(∀i,wk.frozen? ⟨q,i,none⟩=false)/\q<wk.heap.size:=c' (nZ h)
def Am{y}(h:Hid (aO N p X S w tv nv E pl wk s (x::y:: .ea q c t::L) r)):(∀i,aG wk ⟨q,i,none⟩=c[i]?)/\(∀i,wk.frozen? ⟨q,i,none⟩=false)/\q<wk.heap.size:=dk (nZ h)
def lM(i:Nat)(v)(h:Hid (aO N p X S w tv nv E pl wk s (.ea q c t::L) r))(e:c.setIfInBounds i v=cK:=by simp only[ld,lf,lg];rfl):Hid (aO N p X S w tv nv E pl (a7 wk (q,i) v) s (.ea q cK t::L) r):=by
 obtain⟨aW,ar,h⟩:=h.o;subst e;have R:eM w wk aW q c t/\3≠t:=h.fP _ (hY ..);have T:=List.pairwise_cons.1 h.off;refine A ⟨aW,ar,eM.go R.1 h.go R.2 i v,List.forall_mem_cons.2 ⟨⟨R.1.set i v,R.2⟩,λy bx=>?_⟩,List.pairwise_cons.2 ⟨λy bx=>?_,T.2⟩,h.eq,h.ne⟩
 .have ah:=h.fP y (hP _ bx);have bJ:=T.1 y bx;cases y with
  |ea da c3 t3=>exact⟨ah.1.Au (λe=>bJ e.symm) i v,ah.2⟩
  |dd u l=>exact cI.set ah R.1.blk R.2 i v
 .have bJ:=T.1 y bx;cases y with
  |ea da c3 t3=>exact bJ
  |dd u l=>trivial
def fV(i:Nat)(v)(h:Hid (aO N p X S w tv nv E pl wk s (x:: .ea q c t::L) r))(e:c.setIfInBounds i v=cK:=by simp only[ld,lf,lg];rfl):Hid (aO N p X S w tv nv E pl (a7 wk (q,i) v) s (x:: .ea q cK t::L) r):=rE (lM i v (rE h) e)
def A6{F}(bF:Go N p X S w tv nv E wk s aW ar)(h: ∀x∈L,x.Ok N w wk aW F)(i v): ∀x∈L,x.Ok N w (a7 wk ⟨p,i,none⟩ v) aW F:=λy bx=>by
 have ah:=h y bx;cases y with
 |ea da c3 t3=>exact⟨ah.1.rC bF.pl i v,ah.2⟩
 |dd u l=>exact cI.set ah bF.st.blk aN i v
def wh(h:Hid (aO N p X S w tv nv E pl wk s L r)):Hid (aO N p X S w tv nv E pl wk.drew s L r):=by obtain⟨aW,ar,h⟩:=h.o;exact A ⟨aW,ar,h.below (aT _ _).drew⟩
def jD{d}(bB:IntKind.i64.wrap (s.p.bR- 1)=d)(h:Hid (aO N p X S w tv nv E pl wk s L r)):Hid (aO N p X S w tv nv E pl (a7 wk (p,3) d) (W.down s) L r):=by obtain⟨aW,ar,h⟩:=h.o;subst bB;exact A ⟨aW,ar,h.go.bR _,A6 h.go h.fP _ _,h.off,h.eq,h.ne⟩
def jF(ay:s.p.i<D X.bu)(h:Hid (aO N p X S w tv nv E pl wk s L r)):Hid (aO N p X S w tv nv E pl (a7 wk (p,2) [((s.p.i:Int)+1:Int)]) (W.bs s) L r):=by obtain⟨aW,ar,h⟩:=h.o;exact A ⟨aW,ar,h.go.bs ay,A6 h.go h.fP _ _,h.off,h.eq,h.ne⟩
def Cl(ay:s.p.i+2<=D X.bu)(h:Hid (aO N p X S w tv nv E pl wk s L r)):Hid (aO N p X S w tv nv E pl (a7 wk (p,2) [((s.p.i:Int)+2:Int)]) (W.ll s) L r):=by obtain⟨aW,ar,h⟩:=h.o;exact A ⟨aW,ar,h.go.ll ay,A6 h.go h.fP _ _,h.off,h.eq,h.ne⟩
def hK(k:Nat)(ay:s.p.i+k<=D X.bu)(h:Hid (aO N p X S w tv nv E pl wk s L r)):IntKind.i64.wrap ((s.p.i:Int)+(k:Int))=(s.p.i:Int)+(k:Int):=by have:=Gn h;exact dI _ J
def mg(ay:s.p.i<D X.bu)(h:Hid (aO N p X S w tv nv E pl wk s L r)):IntKind.i64.wrap ((s.p.i:Int)+1)=(s.p.i:Int)+1:=hK 1 ay h
def Gh{cj}(h:Hid (W.ht X s cj=true)):s.p.i+2<=D X.bu:=by have R:B.ht X s.p cj=true:=h.o;unfold B.ht at R;simp only[pv,pt] at R;omega
def ti(ay:s.p.i+2<=D X.bu)(bF:Hid (aO N p X S w tv nv E pl wk s L r)):IntKind.i64.wrap ((s.p.i:Int)+2)=(s.p.i:Int)+2:=hK 2 ay bF
def ahE(h:Hid (aO N p X S w tv nv E pl wk s (.ea q c t::L) r)):q≠p/\p≠q:=by obtain⟨aW,ar,h⟩:=h.o;have R:eM w wk aW q c t:=(h.fP _ (hY ..)).1;have T:=R.dV;have ah:=h.go.pl;exact⟨by omega,by omega⟩
def Nn(h:Hid (aO N p X S w tv nv E pl wk s (x:: .ea q c t::L) r)):q≠p/\p≠q:=ahE (nZ h)
def FC(t:aa.Tok)(c:Array af)(ty:TypeId)(h:Hid (aO N p X S w tv nv E pl wk s L r))(bI:3≠ty:=by decide):Hid (aO N p X S w tv nv E pl (aA (aA wk (aw #[t.j',t.O,t.aX,t.an] 97)) (.cells c ty)) s (.ea (wk.heap.size+1) c ty:: .ea wk.heap.size #[t.j',t.O,t.aX,t.an] 97::L) r):=by have T:=rY c ty (rY #[t.j',t.O,t.aX,t.an] 97 h) bI;rwa[show(aA wk (aw #[t.j',t.O,t.aX,t.an] 97)).heap.size=wk.heap.size+1 by simp] at T
def No{t:aa.Tok}(c:Array af)(ay:s.p.i<D X.bu)(h:Hid (aO N p X S w tv nv E pl (aA wk (aw #[t.j',t.O,t.aX,t.an] 97)) s (.ea wk.heap.size #[t.j',t.O,t.aX,t.an] 97::L) r)):Hid (aO N p X S w tv nv E pl (aA (a7 (aA wk (aw #[t.j',t.O,t.aX,t.an] 97)) (p,2) [((s.p.i:Int)+1:Int)]) (.cells c 53)) (W.bs s) (.ea (wk.heap.size+1) c 53:: .ea wk.heap.size #[t.j',t.O,t.aX,t.an] 97::L) r):=by have T:=rY c 53 (jF ay h);rwa[show(a7 (aA wk (aw #[t.j',t.O,t.aX,t.an] 97)) (p,2) [((s.p.i:Int)+1:Int)]).heap.size=wk.heap.size+1 by simp] at T
section
variable{t:aa.Tok}
def wd(y)(ax:Hid (W.aM X s=t))(bJ:Hid ((t.j'==4)=true))(h:Hid (aO N p X S w tv nv E pl wk s L (if W.kO X s y=true then r else r2))):
  (((str t.O).toList==y)=true/\s.p.i<D X.bu/\Hid (aO N p X S w tv nv E pl wk s L r))\/(((str t.O).toList==y)=false/\Hid (aO N p X S w tv nv E pl wk s L r2)):=by
 have e:W.kO X s y=((str t.O).toList==y):=by unfold W.kO;rw[ax.o,bJ.o,Bool.true_and,Gg]
 cases G:((str t.O).toList==y) with
 |true=>
  refine .inl ⟨rfl,?_,dM (aS (by rw[e,G])) h⟩;refine we λhc=>?_;have dH:=bJ.o;rw[<-ax.o] at dH;unfold W.aM B.aM iz at dH;rw[cd,pr J] at dH;simp at dH
 |false=>exact .inr ⟨rfl,dM (ao (by rw[e,G];decide)) h⟩
def wn{y}(ax:Hid (W.aM X s=t))(bJ:Hid ((t.j'==4)=false))(h:Hid (aO N p X S w tv nv E pl wk s L (if W.kO X s y=true then r else r2))):Hid (aO N p X S w tv nv E pl wk s L r2):=
 dM (ao (by unfold W.kO;rw[ax.o,bJ.o,Bool.false_and];decide)) h
def O0(y)(ax:Hid (W.aM X s=t))(ah:Hid ((t.j'==3)=true))(h:Hid (aO N p X S w tv nv E pl wk s L (if W.qu X s y=true then r else r2))):
  (((str t.O).toList==y)=true/\str t.O=str y/\Hid (aO N p X S w tv nv E pl wk s L r))\/(((str t.O).toList==y)=false/\Hid (aO N p X S w tv nv E pl wk s L r2)):=by
 have e:W.qu X s y=((str t.O).toList==y):=by unfold W.qu;rw[ax.o,ah.o,Bool.true_and,Gg]
 cases G:((str t.O).toList==y) with
 |true=>exact .inl ⟨rfl,by rw[Gg] at G;rw[eq_of_beq G],dM (aS (by rw[e,G])) h⟩
 |false=>exact .inr ⟨rfl,dM (ao (by rw[e,G];decide)) h⟩
def lR{y}(ax:Hid (W.aM X s=t))(ah:Hid ((t.j'==3)=false))(h:Hid (aO N p X S w tv nv E pl wk s L (if W.qu X s y=true then r else r2))):Hid (aO N p X S w tv nv E pl wk s L r2):=
 dM (ao (by unfold W.qu;rw[ax.o,ah.o,Bool.false_and];decide)) h
def eG(ax:Hid (W.aM X s=t))(h:Hid (aO N p X S w tv nv E pl wk s L (if W.mB X s=true then r else r2))):
  ((t.j'==2)=true/\s.p.i<D X.bu/\Hid (aO N p X S w tv nv E pl wk s L r))\/((t.j'==2)=false/\Hid (aO N p X S w tv nv E pl wk s L r2)):=by
 have e:W.mB X s=(t.j'==2):=by show((W.aM X s).j'==2)=_;rw[ax.o]
 cases G:(t.j'==2) with
 |true=>exact .inl ⟨rfl,YtjfkhpkicioakaaGreatDoor.PO X s.p (e.trans G),dM (aS (e.trans G)) h⟩
 |false=>exact .inr ⟨rfl,dM (ao (by rw[e,G];decide)) h⟩
def F_{y b}(ax:Hid (W.aM X s=t))(G:Hid (W.ht X s y=b))(h:Hid (aO N p X S w tv nv E pl wk s L (if W.hZ X s=true/\W.ht X s y=true then r else r2))):
  ((t.j'==1)=true/\b=true/\s.p.i+2<=D X.bu/\Hid (aO N p X S w tv nv E pl wk s L r))\/(((t.j'==1)=false\/b=false)/\Hid (aO N p X S w tv nv E pl wk s L r2)):=by
 have e:W.hZ X s=(t.j'==1):=by show((W.aM X s).j'==1)=_;rw[ax.o]
 cases U:(t.j'==1) with
 |false=>exact .inr ⟨.inl rfl,dM (ao (by rw[e,U];simp)) h⟩
 |true=>
  cases b with
  |false=>exact .inr ⟨.inr rfl,dM (ao (by rw[G.o];simp)) h⟩
  |true=>exact .inl ⟨rfl,rfl,Gh G,dM (aS ⟨e.trans U,G.o⟩) h⟩
end
section
variable{ops:Array Oper}{rest:List Oper}{o:Oper}{s0 cF:Operand}{er:Exit->Act->ai->Prop}{a:Act}{u:af}{l:List Nat}
def TN(ks:List Nat)(m:Nat)(hm:D ks=m)(oA:1<=m)(o3:m<=1000)(hl:D l<=1000000)
 (h: ∀g cap a6,Hid (aO N p X S w tv nv E pl a6 s (.dd (.slice (some ⟨g,0,none⟩) (D l+m) cap) (l++ks)::L) r)->fo prog ops er rest (a.put o.dst (.slice (some ⟨g,0,none⟩) (D l+m) cap)) a6)
 (h8:nA L=L)(jO:o.guard=none)(bX:o.op= .call {callee:= .builtin .append,args:= #[s0,cF],argTypes:= #[28,28]})(hs:a.eval s0=u)(aF:a.eval cF= .slice (some ⟨wk.heap.size,0,none⟩) m m)
 (z:Hid (aO N p X S w tv nv E pl wk s (.dd u l::L) r)):fo prog ops er (o::rest) a (aA wk (.cells (fh ks).toArray 3)):=by obtain⟨aW,ar,bF⟩:=z.o;have U:cI N w wk (E++ar) u l:=bF.fP _ (hY ..);obtain⟨i0,fM,e',e_,ff⟩:=kT r1;have hN:=bF.go.st.jo;refine tI _ jO s0 cF 28 bX N 3 i0 _ 1 8 rN fM e' e_ ff rfl J u (D l) (fh l) hs (U.alloc _).row ⟨wk.heap.size,0,none⟩ m m (fh ks) aF (by simp[fh];omega) (j7 (cs:=(fh ks).toArray) (t:=3) (fr:=(0,0)) (hf _ _)) (OG ks) J (by unfold dc;omega) J (by simp;omega) (wk.heap.size+1) bT ?_;intro g cap a6 fF dv e1 _;obtain⟨a1,a2,a3⟩:=cI.grown U (l2:=ks) bF.go fF hm dv e1;refine h g cap a6 (A ⟨aW,ar,a1,List.forall_mem_cons.2 ⟨a2,λy bx=>?_⟩,List.pairwise_cons.2 ⟨λy _=>by cases y<;>trivial,(List.pairwise_cons.1 bF.off).2⟩,bF.eq,bF.ne⟩);obtain⟨_,q,c,t,rfl⟩:=vh (h8▸bx);have ah:=bF.fP _ (hP _ bx);exact⟨⟨(a3 q ah.1.lt (λe=>mu U.row ah.1.blk ah.2 e)).trans ah.1.blk,ah.1.dV,ah.1.ne⟩,ah.2⟩
def o_ (k:Nat) (hl:l.length<=1000000)
  (h: ∀g cap a6,Hid (aO N p X S w tv nv E pl a6 s (.dd (.slice (some ⟨g,0,none⟩) (l.length+1) cap) (l++[k])::L) r)->fo prog ops er rest (a.put o.dst (.slice (some ⟨g,0,none⟩) (l.length+1) cap)) a6)
  (h8:nA L=L:=by rfl) (jO:o.guard=none:=by rfl) (bX:o.op= .call {callee:= .builtin .append,args:= #[s0,cF],argTypes:= #[28,28]}:=by rfl) (hs:a.eval s0=u:=by rfl) (aF:a.eval cF= .slice (some ⟨wk.heap.size,0,none⟩) 1 1:=by rfl):
  Hid (aO N p X S w tv nv E pl wk s (.dd u l::L) r)->fo prog ops er (o::rest) a (wk.alloc (.cells #[.int .i64 (k:Int)] 3)):=TN [k] 1 rfl (by omega) (by omega) hl h h8 jO bX hs aF
def Ha (k j:Nat) (hl:l.length<=1000000)
  (h: ∀g cap a6,Hid (aO N p X S w tv nv E pl a6 s (.dd (.slice (some ⟨g,0,none⟩) (l.length+2) cap) (l++[k,j])::L) r)->fo prog ops er rest (a.put o.dst (.slice (some ⟨g,0,none⟩) (l.length+2) cap)) a6)
  (h8:nA L=L:=by rfl) (jO:o.guard=none:=by rfl) (bX:o.op= .call {callee:= .builtin .append,args:= #[s0,cF],argTypes:= #[28,28]}:=by rfl) (hs:a.eval s0=u:=by rfl) (aF:a.eval cF= .slice (some ⟨wk.heap.size,0,none⟩) 2 2:=by rfl):
  Hid (aO N p X S w tv nv E pl wk s (.dd u l::L) r)->fo prog ops er (o::rest) a (wk.alloc (.cells #[.int .i64 (k:Int),.int .i64 (j:Int)] 3)):=TN [k,j] 2 rfl (by omega) (by omega) hl h h8 jO bX hs aF
def IJ{e q bb aQ}(hl:D l<=1000000)
 (h: ∀gM Aj a6,Hid (aO N p X S w tv nv E pl a6 s (.dd (.slice gM (D l+1) Aj) (e::l)::L) r)->fo prog ops er rest (a.put o.dst (.slice gM (D l+1) Aj)) a6)
 (h8:nA L=L:=by rfl)(jO:o.guard=none:=by rfl)(bX:o.op= .call {callee:= .builtin .append,args:= #[s0,cF],argTypes:= #[28,28]}:=by rfl)(hs:a.eval s0= .slice (some q) 1 1:=by rfl)(aF:a.eval cF= .slice bb (D l) aQ:=by rfl):
  Hid (aO N p X S w tv nv E pl wk s (.dd (.slice bb (D l) aQ) l:: .dd (.slice (some q) 1 1) [e]::L) r)->fo prog ops er (o::rest) a wk:=by
 intro z;obtain⟨i0,fM,e',e_,ff⟩:=kT r1;cases l with
 |nil=>exact U_ wk jO s0 cF 28 3 bX i0 rN fM _ 1 1 (bD _) hs bb aQ aF (h _ _ _ (nZ z))
 |cons eS qc=>
  obtain⟨aW,ar,bF⟩:=z.o;have U:cI N w wk (E++ar) (.slice bb (D (eS::qc)) aQ) (eS::qc):=bF.fP _ (hY ..);have ev:cI N w wk (E++ar) (.slice (some q) 1 1) [e]:=bF.fP _ (hP _ (hY ..));have hN:=bF.go.st.jo;obtain⟨jE,gc,hG⟩:=dR U.row bT;cases hG;refine tI _ jO s0 cF 28 bX N 3 i0 _ 1 8 rN fM e' e_ ff rfl J _ [e].length (fh [e]) hs ev.row ⟨jE,0,none⟩ (D (eS::qc)) aQ (fh (eS::qc)) aF (by simp[fh]) (cI.news U) (OG _) bT (by unfold dc;simp at hl|-;omega) (by simp at hl|-;omega) J wk.heap.size rfl ?_;intro g cap a6 fF dv e1 _;obtain⟨a1,a2⟩:=cI.K1 ev (l2:=eS::qc) bF.go fF rfl dv e1;have a3: ∀k,k<wk.heap.size->(Value.slice (some q) 1 1).ownBlock≠some k->a6.heap[k]?=wk.heap[k]?:=λk R T=>dv.block k R (λe=>T e.symm);have ag:[e].length+D (eS::qc)=D (eS::qc)+1:=by simp;omega
  rw[ag] at a2|-;refine h _ _ _ (A ⟨aW,ar,a1,List.forall_mem_cons.2 ⟨a2,λy bx=>?_⟩,List.pairwise_cons.2 ⟨λy _=>by cases y<;>trivial,(List.pairwise_cons.1 (List.pairwise_cons.1 bF.off).2).2⟩,bF.eq,bF.ne⟩);obtain⟨_,da,c,t,rfl⟩:=vh (h8▸bx);have ah:=bF.fP _ (hP _ (hP _ bx));exact⟨⟨(a3 da ah.1.lt (λe=>mu ev.row ah.1.blk ah.2 e)).trans ah.1.blk,ah.1.dV,ah.1.ne⟩,ah.2⟩
end
end
end il
namespace il
section
variable{N p:Nat}{w:ai}{X:B.Src}{S:ByteArray}{s:W.ak}{tv nv:af}{E:List (aP×af)}
def Xk(n:Nat)(ax:n<=1000000)(kN:Hid (∀m,m<n->ed X S 126 (W.run X m .stmt))):gg X S 84 cD (W.mQ X (W.run X n)):=by
 intro N p w s tv nv E h aZ;have z:=cF h aZ (by unfold W.mQ;exact rfl);clear h aZ;go_in;go_wp2_with fail;revert z;refine kH λw1 z=>?_;generalize W.aM X s=t at z|-;have z:=FC t #[.int .i64 16,.int .i64 (t.an:Int),.int .i64 0,.string ⟨#[]⟩,.slice none 0 0] 53 z;go_wp2_with fail;obtain⟨w2,e,z⟩:=ch z;rw[e];clear e;have z:=NJ (nZ (rE z));revert z;refine jB qM λbc aq z=>?_;have z:=q9 (t:=jh X) (lp:=(λm a s=>W.run X m (.stmts a) s)) (λ_ _=>rfl) (λm a s h=>aS h) z;go_wp2_with fail;revert z;refine q' dm λy4 bS iO z=>?_;go_wp2_with fail;go_loopg[5] n (λm e wr=> ∃(d':List Nat) (bf:W.ak) (bb:Option Addr) (aQ:Nat),e= .bool (W.bw X bf dm)/\D d'+m=n/\Hid (aO N p X S w tv nv E (W.mQ X (W.run X n) s) wr bf [.dd (bb,D d',aQ) d',.ea (w1.heap.size+1) #[.int .i64 16,.int .i64 (t.an:Int),.int .i64 0,.string ⟨#[]⟩,(bb,D d',aQ)] 53] ((ng (jh X) (λm a s=>W.run X m (.stmts a) s) m d' bf).M (tw X (λl s1=>W.put ⟨16,t.an,0,[],l⟩ s1)))))
 case atStart=>exact⟨[],_,none,0,by rw[iO.o],by simp,cl z⟩
 case round=>
  clear z;obtain⟨d',bf,bb,aQ,rfl,rz,z⟩:=hrel;have c6: ∀a,D (d'++[a])=D d'+1:=λa=>by simp
  obtain⟨b1,b2,bC,bG,cf,fi⟩:=pc z;cases G:W.bw X bf dm<;>cases hw:gJ bf
  rotate_left
  all_goals try
   have z:=y0 (show jh X bf=true by simp[jh,G,hw]) z;rw[hw] at bG;clear G hw;go_wp2_with fail;clear b1 b2 bC bG cf fi;revert z;refine lE dm λbm cm z=>?_;have c:=dk z;go_wp2_with fail;revert z;refine pu λfi b4 ha z=>?_;exact c_
  have ay:=Nk (one:=λm=>W.run X m .stmt) (λ_ _=>rfl) (λ_ _ _=>rfl) (show jh X bf=false by simp[jh,G,hw]) z;clear z;obtain⟨m,rfl,z⟩:=ay;have gr:m<n:=J;rw[hw] at bG;clear G hw;go_wp2_with fail;clear b1 b2 bC bG cf fi;revert z;refine bq (kN.o m gr) λtF b3 mj z=>?_;have c:=dk z;go_wp2_with(at_builtin;revert z;refine o_ tF (show D d'<=1000000 by omega) λg8 Fv a6 z=>?_;clear c;have c:=dk z)
  have z:=fV 4 (.slice (some ⟨g8,0,none⟩) (d'.length+1) Fv) z;obtain⟨cp,e,z⟩:=ch z;rw[e];clear e;clear c;revert z;refine j2 dm (λgF b0 z=>?_) λiP b0 z=>?_
  .have z:=FE (t:=jh X) (lp:=(λm a s=>W.run X m (.stmts a) s)) (m:=m) (g:=tw X (λl s1=>W.put ⟨16,t.an,0,[],l⟩ s1)) (d':=d'++[tF]) (by simp[jh,b0.o]) z;go_wp2;go_roundg m
   case rel=>exact⟨d'++[tF],_,_,_,by rw[b0.o],by rw[c6];omega,by rw[c6];exact z⟩
   case measure=>omega
  go_wp2_with fail;revert z;refine k0 hC λkp Al z=>?_;have z:=q9 (t:=jh X) (lp:=(λm a s=>W.run X m (.stmts a) s)) (λ_ _=>rfl) (λm a s h=>aS h) z;go_wp2_with fail;revert z;refine q' dm λy13 mH zz z=>?_;go_wp2;go_roundg m
  case rel=>exact⟨d'++[tF],_,_,_,by rw[zz.o],by rw[c6];omega,by rw[c6];exact z⟩
  case measure=>omega
def W2(E':W.Rec)(ba:Hid (ed X S 165 (E' (.b6 0)) [(0:Int)]))(bh:Hid (ed X S 84 (E' .block)))(lv:Hid (ed X S 167 (E' .branch))):gg X S 167 cD (W.oa X E'):=by
 intro N p w s tv nv E h aZ;have z:=cF h aZ (by unfold W.oa;exact rfl);go_in;have Go:=0;go_wp2;revert z;refine k0 qJ λw1 s1 z=>?_;generalize W.aM X s=t at z|-;go_wp2;revert z;refine bq ba.o λa2 w2 s2 z=>?_;go_wp2;revert z;refine bq bh.o λa3 bc aq z=>?_;go_wp2;obtain⟨bS,dQ,ag,aE,U8,z⟩:=mf a2 a3 z;rw[ag,aE];revert z;refine j2 vg (λbm b0 z=>?_) λb4 b0 z=>?_
 .go_wp2_with fail;revert z;refine Dq qJ λak6 b3 Iu z=>?_;cases ak6
  .have z:=dM (ao (by rw[Iu.o];decide)) z;go_wp2;revert z;refine k0 vg λa6 ik z=>?_;go_wp2;revert z;refine bq bh.o λa9 cp k' z=>?_;go_wp2_with(at_builtin;revert z;refine o_ a9 (show[a2,a3].length<=1000000 by simp) λg10 al4 gF z=>?_)
   revert z;refine bH λEH iP qs z=>?_;exact c_
  have z:=dM (aS Iu.o) z;go_wp2;revert z;refine jB vg λkp Al z=>?_;go_wp2;revert z;refine bq lv.o λpV mH xo z=>?_;obtain⟨d15,bB⟩: ∃d,IntKind.i64.wrap (xo.p.bR- 1)=d:=⟨_,rfl⟩;obtain⟨b1,b2,bC,bG,cf,fi⟩:=pc z;obtain⟨q3,e,oO,z⟩:=sN (jD bB z);go_wp2_with(at_builtin;(try rw[e]);(try rw[oO]);revert z;refine o_ pV (show[a2,a3].length<=1000000 by simp) λg14 BB alw z=>?_)
  revert z;refine bH λamB sh IM z=>?_;exact c_
 go_wp2;revert z;refine Dq qJ λapR si alx z=>?_;go_wp2;revert z;refine bH λEI sj yA z=>?_;exact c_
def ZI(E':W.Rec)(ba:Hid (ed X S 165 (E' (.b6 0)) [(0:Int)]))(bh:Hid (ed X S 84 (E' .block)))(lv:Hid (ed X S 167 (E' .branch)))(NK:Hid (∀at_:Nat,ed X S 168 (W.choice X E' at_) [at_])):gg X S 126 cD (W.ja X E'):=by
 intro N p w s tv nv E h aZ;have z:=cF h aZ (by unfold W.ja;exact rfl);go_in;have Go:=0;go_wp2;revert z;refine kH λw1 z=>?_;generalize ax:W.aM X s=t at z|-;have gh:=A ax;clear ax;have z:=rY #[t.j',t.O,t.aX,t.an] 97 z;have rZ:=c' z;cases fY:(t.j'==4) with
 |true=>
  rcases wd [103,111] gh (A fY) z with⟨s5,bN,z⟩|⟨s5,z⟩
  .obtain⟨b1,b2,bC,bG,cf,fi⟩:=pc z;have f9:=mg bN z;have z:=jF bN z;have bO:=c' z;go_wp2;obtain⟨w2,e,z⟩:=ch z;rw[e];revert z;refine bq ba.o λa3 bc aq z=>?_;have c:=c' z;go_wp2;obtain⟨bS,dQ,ag,aE,U8,z⟩:=iE a3 z;rw[ag,aE];revert z;refine bH λcf bm cm z=>?_;exact c_
  rcases wd [99,108,111,115,101] gh (A fY) z with⟨Bk,bN,z⟩|⟨Bk,z⟩
  .have UK:((str t.O).toList==[112,97,110,105,99])=false:=(by rw[eq_of_beq Bk];rfl);have pf:((str t.O).toList==[112,114,105,110,116])=false:=(by rw[eq_of_beq Bk];rfl);obtain⟨b1,b2,bC,bG,cf,fi⟩:=pc z;have f9:=mg bN z;have z:=jF bN z;have bO:=c' z;go_wp2;obtain⟨b4,e,z⟩:=ch z;rw[e];revert z;refine jB gK λb3 mj z=>?_;go_wp2;revert z;refine bq ba.o λtG a6 ik z=>?_;go_wp2;revert z;refine lE eW λcp k' z=>?_;have c:=c' z;go_wp2;obtain⟨gF,aoq,ag,aE,U3,z⟩:=iE tG z;rw[ag,aE];revert z;refine bH λEH iP qs z=>?_;exact c_
  rcases wd [112,97,110,105,99] gh (A fY) z with⟨wP,bN,z⟩|⟨wP,z⟩
  .have pf:((str t.O).toList==[112,114,105,110,116])=false:=(by rw[eq_of_beq wP];rfl);obtain⟨b1,b2,bC,bG,cf,fi⟩:=pc z;have f9:=mg bN z;have z:=jF bN z;have bO:=c' z;go_wp2;obtain⟨kp,e,z⟩:=ch z;rw[e];revert z;refine jB gK λmH xo z=>?_;go_wp2;revert z;refine bq ba.o λAk q3 yy z=>?_;go_wp2;revert z;refine lE eW λuA IS z=>?_;have c:=c' z;go_wp2;obtain⟨sh,MT,ag,aE,U5,z⟩:=iE Ak z;rw[ag,aE];revert z;refine bH λTQ si IK z=>?_;exact c_
  rcases wd [112,114,105,110,116] gh (A fY) z with⟨LR,bN,z⟩|⟨LR,z⟩
  .obtain⟨b1,b2,bC,bG,cf,fi⟩:=pc z;have f9:=mg bN z;have z:=jF bN z;have bO:=c' z;go_wp2;obtain⟨sj,e,z⟩:=ch z;rw[e];revert z;refine jB gK λuB EN z=>?_;go_wp2;revert z;refine bq ba.o λa20 q4 EF z=>?_;go_wp2;revert z;refine lE eW λuC I_ z=>?_;have c:=c' z;go_wp2;obtain⟨q5,EO,ag,aE,IU,z⟩:=iE a20 z;rw[ag,aE];revert z;refine bH λTS vC AG z=>?_;exact c_
  rcases wd [105,102] gh (A fY) z with⟨LS,bN,z⟩|⟨LS,z⟩
  .go_wp2_with fail;obtain⟨yB,e,z⟩:=ch z;rw[e];exact eK lv.o z
  rcases wd [102,111,114] gh (A fY) z with⟨zU,bN,z⟩|⟨zU,z⟩
  .obtain⟨b1,b2,bC,bG,cf,fi⟩:=pc z;have f9:=mg bN z;have z:=jF bN z;have bO:=c' z;go_wp2;obtain⟨vD,e,z⟩:=ch z;rw[e];revert z;refine bq ba.o λN7 yC akh z=>?_;go_wp2;revert z;refine bq bh.o λEP xp Mw z=>?_;have c:=c' z;go_wp2;obtain⟨xq,My,ag,aE,U6,z⟩:=mf N7 EP z;rw[ag,aE];revert z;refine bH λE8 yD Jb z=>?_;exact c_
  rcases wd [114,101,116,117,114,110] gh (A fY) z with⟨ajw,bN,z⟩|⟨ajw,z⟩
  .obtain⟨b1,b2,bC,bG,cf,fi⟩:=pc z;have f9:=mg bN z;have z:=jF bN z;have bO:=c' z;go_wp2;obtain⟨xr,e,z⟩:=ch z;rw[e];revert z;refine q' hC λPQ yE TB z=>?_;go_wp2;revert z;refine q' dm λPR yF TC z=>?_;by_cases hc:W.bw X (W.bs s) hC=true\/W.bw X (W.bs s) dm=true
   .have z:=dM (aS hc) z;have G:(PQ||PR)=true:=(by rw[<-TB.o,<-TC.o];simpa using hc);cases PQ<;>cases PR
    . cases G
    all_goals
     have c:=c' z;go_wp2;have z:=cl z;revert z;refine bH λIg xt Vp z=>?_;exact c_
   .have z:=dM (ao hc) z;rw[TB.o,TC.o] at hc;cases PQ
    .cases PR
     .go_wp2_with fail;revert z;refine bq ba.o λafr xu Vq z=>?_;have c:=c' z;go_wp2;obtain⟨xv,Mz,ag,aE,U7,z⟩:=iE afr z;rw[ag,aE];revert z;refine bH λCG yG Cw z=>?_;exact c_
     exact absurd (.inr rfl) hc
    exact absurd (.inl rfl) hc
  rcases wd [98,114,101,97,107] gh (A fY) z with⟨ajx,bN,z⟩|⟨ajx,z⟩
  .obtain⟨b1,b2,bC,bG,cf,fi⟩:=pc z;have f9:=mg bN z;have z:=jF bN z;have bO:=c' z;go_wp2;obtain⟨Ao,e,z⟩:=ch z;rw[e];have z:=cl z;revert z;refine bH λahs Ap OQ z=>?_;exact c_
  rcases wd [115,101,108,101,99,116] gh (A fY) z with⟨L6,bN,z⟩|⟨L6,z⟩
  .obtain⟨b1,b2,bC,bG,cf,fi⟩:=pc z;have f9:=mg bN z;have z:=jF bN z;have bO:=c' z;go_wp2;obtain⟨Cx,e,z⟩:=ch z;rw[e];exact eK (NK.o _) z
  go_wp2;obtain⟨Cy,e,z⟩:=ch z;rw[e];revert z;refine Dq p8 λV9 B8 TD z=>?_;obtain⟨cu,rfl,vm,z⟩|⟨U,z⟩:=F_ gh TD z
  .have rZ:=c' z;obtain⟨b1,b2,bC,bG,cf,fi⟩:=pc z;have f9:=ti vm z;have z:=Cl vm z;have bO:=c' z;go_wp2;obtain⟨B9,e,z⟩:=ch z;rw[e];revert z;refine bq ba.o λTM B_ Vr z=>?_;have c:=c' z;go_wp2;obtain⟨Ca,aka,ag,aE,ajM,z⟩:=iE TM z;rw[ag,aE];revert z;refine pu λTU Cb Ez z=>?_;exact c_
  have rZ:=c' z;cases cu:(t.j'==1) with
  |false=>
   go_wp2;revert z;refine bq ba.o λa46 Cc IV z=>?_;go_wp2;revert z;refine iB Bh (λCd b0 z=>?_) λCe b0 z=>?_
   .go_wp2_with fail;revert z;refine bq ba.o λa49 Cf OR z=>?_;have c:=c' z;go_wp2;obtain⟨Cg,akc,ag,aE,ajN,z⟩:=mf a46 a49 z;rw[ag,aE];revert z;refine bH λaht Ch OS z=>?_;exact c_
   go_wp2;revert z;refine iB l4 (λCi b0 z=>?_) λCj b0 z=>?_
   .go_wp2_with fail;revert z;refine bq ba.o λN_ EA MB z=>?_;have c:=c' z;go_wp2;obtain⟨IW,aoE,ag,aE,an3,z⟩:=mf a46 N_ z;rw[ag,aE];revert z;refine bH λahv IX Vt z=>?_;exact c_
   have c:=c' z;go_wp2;obtain⟨IY,akd,ag,aE,ajO,z⟩:=iE a46 z;rw[ag,aE];revert z;refine bH λTW IZ Vu z=>?_;exact c_
  |true=>
   obtain rfl:V9=false:=(by obtain h|h:=U;exact absurd (cu.symm.trans h) aN;exact h);go_wp2;revert z;refine bq ba.o λa59 I0 Vv z=>?_;go_wp2;revert z;refine iB Bh (λVJ b0 z=>?_) λVK b0 z=>?_
   .go_wp2_with fail;revert z;refine bq ba.o λOb VL ako z=>?_;have c:=c' z;go_wp2;obtain⟨VM,aoH,ag,aE,an6,z⟩:=mf a59 Ob z;rw[ag,aE];revert z;refine bH λamI VN ao5 z=>?_;exact c_
   go_wp2;revert z;refine iB l4 (λVO b0 z=>?_) λVP b0 z=>?_
   .go_wp2_with fail;revert z;refine bq ba.o λafw akL akp z=>?_;have c:=c' z;go_wp2;obtain⟨akM,aoJ,ag,aE,an9,z⟩:=mf a59 afw z;rw[ag,aE];revert z;refine bH λahx akN akq z=>?_;exact c_
   have c:=c' z;go_wp2;obtain⟨akO,aoK,ag,aE,an',z⟩:=iE a59 z;rw[ag,aE];revert z;refine bH λamK akP ao7 z=>?_;exact c_
 |false=>
  have z:=wn gh (A fY) (wn gh (A fY) (wn gh (A fY) (wn gh (A fY) (wn gh (A fY) (wn gh (A fY) (wn gh (A fY) (wn gh (A fY) (wn gh (A fY) z))))))));go_wp2;obtain⟨akQ,e,z⟩:=ch z;rw[e];revert z;refine Dq p8 λak7 akR agC z=>?_;obtain⟨cu,rfl,vm,z⟩|⟨U,z⟩:=F_ gh agC z
  .have rZ:=c' z;obtain⟨b1,b2,bC,bG,cf,fi⟩:=pc z;have f9:=ti vm z;have z:=Cl vm z;have bO:=c' z;go_wp2;obtain⟨akS,e,z⟩:=ch z;rw[e];revert z;refine bq ba.o λa75 akT akr z=>?_;have c:=c' z;go_wp2;obtain⟨akU,aoL,ag,aE,an_,z⟩:=iE a75 z;rw[ag,aE];revert z;refine pu λamL akV aks z=>?_;exact c_
  have rZ:=c' z;cases cu:(t.j'==1) with
  |false=>
   go_wp2;revert z;refine bq ba.o λOc akW ao9 z=>?_;go_wp2;revert z;refine iB Bh (λakX b0 z=>?_) λakY b0 z=>?_
   .go_wp2_with fail;revert z;refine bq ba.o λafx akZ apa z=>?_;have c:=c' z;go_wp2;obtain⟨ak0,aoO,ag,aE,aod,z⟩:=mf Oc afx z;rw[ag,aE];revert z;refine bH λamO aps apc z=>?_;exact c_
   go_wp2;revert z;refine iB l4 (λapt b0 z=>?_) λapu b0 z=>?_
   .go_wp2_with fail;revert z;refine bq ba.o λafy apv apd z=>?_;have c:=c' z;go_wp2;obtain⟨apw,aoP,ag,aE,aoe,z⟩:=mf Oc afy z;rw[ag,aE];revert z;refine bH λamP apx ape z=>?_;exact c_
   have c:=c' z;go_wp2;obtain⟨apy,aoQ,ag,aE,aof,z⟩:=iE Oc z;rw[ag,aE];revert z;refine bH λamQ apz apf z=>?_;exact c_
  |true=>
   obtain rfl:ak7=false:=(by obtain h|h:=U;exact absurd (cu.symm.trans h) aN;exact h);go_wp2;revert z;refine bq ba.o λa91 apA apg z=>?_;go_wp2;revert z;refine iB Bh (λapB b0 z=>?_) λapC b0 z=>?_
   .go_wp2_with fail;revert z;refine bq ba.o λafz apD aph z=>?_;have c:=c' z;go_wp2;obtain⟨apE,aoS,ag,aE,aoh,z⟩:=mf a91 afz z;rw[ag,aE];revert z;refine bH λamR apF api z=>?_;exact c_
   go_wp2;revert z;refine iB l4 (λapG b0 z=>?_) λapH b0 z=>?_
   .go_wp2_with fail;revert z;refine bq ba.o λafA apI apj z=>?_;have c:=c' z;go_wp2;obtain⟨aly,alz,ag,aE,alA,z⟩:=mf a91 afA z;rw[ag,aE];revert z;refine bH λalB alC alD z=>?_;exact c_
   have c:=c' z;go_wp2;obtain⟨alE,alF,ag,aE,ami,z⟩:=iE a91 z;rw[ag,aE];revert z;refine bH λamj amk aml z=>?_;exact c_
def tU (X:B.Src)(S:ByteArray)(f:FuncId)(k:Int)(plain:W.ak->W.aV):Prop:=
  ∀(N p:Nat) (w:ai) (s:W.ak) (tv nv:af) (E:List (aP×af)),cn N p w X S s tv nv E->plain s≠ .o->aY f #[(p,0),k] w (Out N p X S w tv nv E cD (plain s))
def WQ:gg X S 83 cD (W.pointer X):=by intro N p w s tv nv E h aZ;have z:=cF h aZ (by unfold W.pointer;exact rfl);go_in;have Go:=0;go_wp2;revert z;refine k0 sR λw1 s1 z=>?_;generalize W.aM X s=t at z|-;go_wp2;revert z;refine mA λw2 s2 z=>?_;generalize jw X s1=nt at z|-;go_wp2;have z:=cl z;revert z;refine pu λbC bc aq z=>?_;exact c_
def F6:ed X S 83 (W.pointer X):=⟨WQ,λs=>W.FZ _⟩
def Xz(E':W.Rec)(bW:Hid (ed X S 123 (E' .typ)))(j':Int):tU X S 80 j' (W.named X E' j'):=by intro N p w s tv nv E h aZ;have z:=cF h aZ (by unfold W.named;exact rfl);go_in;have Go:=0;go_wp2;revert z;refine kH λw1 z=>?_;generalize W.aM X s=t at z|-;go_wp2;obtain⟨w2,cw,ag,aE,l2,z⟩:=oN t z;rw[ag,aE];go_wp2;revert z;refine mA λbc aq z=>?_;generalize jw X s=nt at z|-;go_wp2;revert z;refine bq bW.o λa4 bS bA z=>?_;have c:=c' z;go_wp2;obtain⟨bm,ij,ag,aE,F3,z⟩:=iE a4 z;rw[ag,aE];revert z;refine pu λfi b4 ha z=>?_;exact c_
def v' (X:B.Src)(s:W.ak):Bool:=W.bw X s eW||gJ s
def Fy (X:B.Src)(l:List Nat)(s:W.ak):W.aV:=(W.dU X eW s).M λ_ aq=> .ok l aq
def OX(n:Nat)(ax:n<=1000000)(Hb:Int)(lp:Nat->List Nat->W.ak->W.aV)(one:Nat->W.ak->W.aV)(aH: ∀a s,lp 0 a s= .o)(hs: ∀m a s,lp (m+1) a s=W.l3 X (one m) (lp m) a s)(j1: ∀m,m<n->(Hb=0/\ed X S 123 (one m))\/(Hb=1/\ed X S 80 (one m) [(7:Int)])\/(Hb=2/\ed X S 165 (one m) [(0:Int)])):tC X S Hb (W.list X (lp n [])):=by
 intro N p w s tv nv E h aZ;have jR:=A aH;have dX:=A hs;have o9:=A j1;clear aH hs j1;have z:=cF h aZ (by unfold W.list;exact rfl);go_in;have Go:=0;go_wp2;revert z;refine jB gK λw1 s1 z=>?_;have z:=q9 (t:=v' X) (g:=Fy X) jR.o (λm a s h=>(dX.o m a s).trans (aS h)) z;go_wp2;revert z;refine q' eW λkd w2 cN z=>?_;go_wp2;go_loopg[5,6] n (λm u e wr=> ∃(d':List Nat) (bf:W.ak) (bb:Option Addr) (aQ:Nat),u= (bb,D d',aQ)/\e= .bool (W.bw X bf eW)/\D d'+m=n/\Hid (aO N p X S w tv nv E (W.list X (lp n []) s) wr bf [.dd (bb,D d',aQ) d'] ((ng (v' X) lp m d' bf).M (Fy X))))
 case atStart=>exact⟨[],_,none,0,rfl,by rw[cN.o],by simp,cl z⟩
 case round=>
  obtain⟨d',bf,bb,aQ,rfl,rfl,rz,z⟩:=hrel;have c6: ∀a,D (d'++[a])=D d'+1:=λa=>by simp
  obtain⟨b1,b2,bC,bG,cf,fi⟩:=pc z;cases G:W.bw X bf eW<;>cases hw:gJ bf
  rotate_left
  all_goals try
   have z:=y0 (show v' X bf=true by simp[v',G,hw]) z;rw[hw] at bG;go_wp2;revert z;refine lE eW λbc aq z=>?_;go_wp2;go_returns;exact ah5 J z
  have z:=FD (show v' X bf=false by simp[v',G,hw]) z;obtain⟨m,rfl⟩:=vE jR.o z;have gr:m<n:=J;have z:=dM (by rw[dX.o,W.l3,ao (show¬(W.bw X bf eW||gJ bf)=true by simp[G,hw]),i']) z;rw[hw] at bG;obtain⟨rfl,cV⟩|⟨rfl,cV⟩|⟨rfl,cV⟩:=o9.o m gr
  all_goals
   go_wp2;revert z;refine bq cV λa4 bS bA z=>?_;go_wp2_with(at_builtin;revert z;refine o_ a4 (show D d'<=1000000 by omega) λg5 am5 bm z=>?_)
   have z:=dM (n8 _ _ _) z;revert z;refine j2 eW (λb4 b0 z=>?_) λb3 b0 z=>?_
   .have z:=FE (t:=v' X) (lp:=lp) (m:=m) (g:=Fy X) (d':=d'++[a4]) (by simp[v',b0.o]) z;go_wp2;go_roundg m
    case rel=>exact⟨d'++[a4],_,_,_,by rw[c6],by rw[b0.o],by rw[c6];omega,by rw[c6];exact z⟩
    case measure=>omega
   have z:=dM (i' _ _ _) z;go_wp2;revert z;refine k0 tV λa6 ik z=>?_;go_wp2;revert z;refine q' eW λak8 cp tg z=>?_;cases ak8
   .have z:=q9 (t:=v' X) (g:=Fy X) jR.o (λm a s h=>(dX.o m a s).trans (aS h)) (dM (by rw[ao (by rw[tg.o];decide)]) z);go_wp2;go_roundg m
    case rel=>exact⟨d'++[a4],_,_,_,by rw[c6],by rw[tg.o],by rw[c6];omega,by rw[c6];exact z⟩
    case measure=>omega
   go_wp2;revert z;refine GZ λgF z=>?_;have z:=q9 (t:=v' X) (g:=Fy X) jR.o (λm a s h=>(dX.o m a s).trans (aS h)) (dM (by rw[aS tg.o]) z);go_wp2;go_roundg m
   case rel=>exact⟨d'++[a4],_,_,_,by rw[c6],congrArg Value.bool (ac6 X 3 ik eW).symm,by rw[c6];omega,by rw[c6];exact z⟩
   case measure=>omega
def aa3(E':W.Rec)(bW:Hid (ed X S 123 (E' .typ)))(cZ:Hid (tC X S 1 (W.list X (E' (.params []))))):gg X S 81 cD (W.sig X E'):=by
 intro N p w s tv nv E h aZ;have z:=cF h aZ (by unfold W.sig;exact rfl);go_in;have Go:=0;go_wp2;revert z;refine kH λw1 z=>?_;generalize W.aM X s=t at z|-;have z:=FC t #[(8:Int),t.an,(0:Int),.string ⟨#[]⟩,.slice none 0 0] 53 z;go_wp2;obtain⟨w2,e,z⟩:=ch z;rw[e];revert z;refine vR cZ.o λr4 EL EM bc aq tz z=>?_;have d0:=dk z;have z:=fV 4 (EL,D r4,EM) z;have z:=fV 2 (D r4) z;go_wp2;obtain⟨bS,e,z⟩:=ch z;rw[e];revert z;refine zf (λbm z=>?_) λb4 z=>?_
 .go_wp2_with fail;revert z;refine bq bW.o λtF b3 mj z=>?_;have c:=dk z;go_wp2_with(at_builtin;revert z;refine o_ tF (tz) λg8 Fv a6 z=>?_;have c:=dk z)
  have z:=fV 4 (g8,D r4+1,Fv) z;obtain⟨cp,e,z⟩:=ch z;rw[e];revert z;refine pu λTP gF Ct z=>?_;exact c_
 have c:=dk z;go_wp2;revert z;refine pu λEH iP qs z=>?_;exact c_
def aa4(E':W.Rec)(bW:Hid (ed X S 123 (E' .typ)))(cZ:Hid (tC X S 0 (W.list X (E' (.jX []))))):gg X S 123 cD (W.l5 X E'):=by
 intro N p w s tv nv E h aZ;have z:=cF h aZ (by unfold W.l5;exact rfl);go_in;have Go:=0;go_wp2;revert z;refine kH λw1 z=>?_;generalize W.aM X s=t at z|-;go_wp2;obtain⟨w2,cw,ag,aE,l2,z⟩:=oN t z;rw[ag,aE];go_wp2;revert z;refine iB wH (λbc b0 z=>?_) λbS b0 z=>?_
 .have c:=c' z;go_wp2;have z:=cl z;revert z;refine pu λcf bm cm z=>?_;exact c_
 go_wp2;revert z;refine iB wz (λb4 b0 z=>?_) λb3 b0 z=>?_
 .have c:=c' z;go_wp2;have z:=cl z;revert z;refine pu λeY a6 ik z=>?_;exact c_
 go_wp2;revert z;refine j2 sR (λcp b0 z=>?_) λgF b0 z=>?_
 .go_wp2_with fail;exact eK F6 z
 go_wp2;revert z;refine j2 qI (λiP b0 z=>?_) λkp b0 z=>?_
 .go_wp2_with fail;revert z;refine jB qI λmH xo z=>?_;go_wp2;revert z;refine bq bW.o λAk q3 yy z=>?_;obtain⟨d15,bB⟩: ∃d,IntKind.i64.wrap (yy.p.bR- 1)=d:=⟨_,rfl⟩;obtain⟨b1,b2,bC,bG,cf,fi⟩:=pc z;have z:=jD bB z;have bO:=c' z;go_wp2;obtain⟨sh,e,oO,z⟩:=sN z;rw[e,oO];obtain⟨si,M0,ag,aE,M1,z⟩:=iE Ak z;rw[ag,aE];revert z;refine pu λEI sj yA z=>?_;exact c_
 go_wp2;revert z;refine j2 oR (λuB b0 z=>?_) λq4 b0 z=>?_
 .go_wp2_with fail;revert z;refine jB oR λuC I_ z=>?_;have c:=c' z;go_wp2;obtain⟨q5,EO,ag,aE,IU,z⟩:=qD #[(6:Int),t.an,(0:Int),.string ⟨#[]⟩,.slice none 0 0] 53 z;rw[ag,aE];revert z;refine vR cZ.o λIN agD agE vC AG DV z=>?_;have d0:=dk z;have z:=fV 4 (agD,D IN,agE) z;have z:=fV 2 (D IN) z;go_wp2;obtain⟨yB,e,z⟩:=ch z;rw[e];revert z;refine zf (λvD z=>?_) λyC z=>?_
  .go_wp2_with fail;revert z;refine bq bW.o λEP xp Mw z=>?_;have c:=dk z;obtain⟨d29,bB⟩: ∃d,IntKind.i64.wrap (Mw.p.bR- 1)=d:=⟨_,rfl⟩;go_wp2_with(at_builtin;revert z;refine o_ EP (DV) λlI agF xq z=>?_;have c:=dk z;have Sz:=Nn z;obtain⟨b1,b2,bC,bG,cf,fi⟩:=pc z)
   have z:=fV 4 (lI,D IN+1,agF) z;have z:=jD bB z;obtain⟨xr,e,z⟩:=ch z;rw[e];revert z;refine pu λCv yE EK z=>?_;exact c_
  obtain⟨d32,bB⟩: ∃d,IntKind.i64.wrap (AG.p.bR- 1)=d:=⟨_,rfl⟩;obtain⟨b1,b2,bC,bG,cf,fi⟩:=pc z;have z:=jD bB z;have c:=dk z;go_wp2;obtain⟨xt,e,z⟩:=ch z;rw[e];revert z;refine pu λE3 xu Vq z=>?_;exact c_
 go_wp2;revert z;refine mA λxv IP z=>?_;generalize jw X s=nt at z|-;have c:=c' z;go_wp2;have z:=cl z;revert z;refine pu λCG yG Cw z=>?_;exact c_
def XA(E':W.Rec)(cC:Hid (ed X S 81 (W.sig X E')))(bh:Hid (ed X S 84 (E' .block)))(ba:Hid (ed X S 165 (E' (.b6 0)) [(0:Int)]))(bW:Hid (ed X S 123 (E' .typ))):gg X S 216 cD (W.kA X E'):=by
 intro N p w s tv nv E h aZ;have z:=cF h aZ (by unfold W.kA;exact rfl);go_in;have Go:=0;go_wp2;revert z;refine kH λw1 z=>?_;generalize ax:W.aM X s=t at z|-;have gh:=A ax;clear ax;have z:=rY #[t.j',t.O,t.aX,t.an] 97 z;have rZ:=c' z;obtain⟨k2,bN,z⟩|⟨k2,z⟩:=eG gh z
 .obtain⟨b1,b2,bC,bG,cf,fi⟩:=pc z;have f9:=mg bN z;have z:=jF bN z;have bO:=c' z;go_wp2;obtain⟨w2,e,z⟩:=ch z;rw[e];have z:=cl z;revert z;refine pu λbC bc aq z=>?_;exact c_
 cases fY:(t.j'==4) with
 |true=>
  rcases wd [116,114,117,101] gh (A fY) z with⟨s5,bN,z⟩|⟨s5,z⟩
  .obtain⟨b1,b2,bC,bG,cf,fi⟩:=pc z;have f9:=mg bN z;have bO:=c' (jF bN z);have aH:=No #[(34:Int),t.an,(0:Int),.string ⟨#[]⟩,.slice none 0 0] bN z;have bq:=dk aH;have cK:=c' aH;have z:=No #[(34:Int),t.an,(1:Int),.string ⟨#[]⟩,.slice none 0 0] bN z;have c3:=c' z;go_wp2;obtain⟨bS,e,z⟩:=ch z;rw[e];have z:=cl z;revert z;refine pu λcf bm cm z=>?_;exact c_
  rcases wd [102,97,108,115,101] gh (A fY) z with⟨Bk,bN,z⟩|⟨Bk,z⟩
  .obtain⟨b1,b2,bC,bG,cf,fi⟩:=pc z;have f9:=mg bN z;have bO:=c' (jF bN z);have aH:=No #[(34:Int),t.an,(0:Int),.string ⟨#[]⟩,.slice none 0 0] bN z;have bq:=dk aH;have cK:=c' aH;have z:=aH;go_wp2;obtain⟨b4,e,z⟩:=ch z;rw[e];have z:=cl z;revert z;refine pu λqC b3 mj z=>?_;exact c_
  rcases wd [110,105,108] gh (A fY) z with⟨wP,bN,z⟩|⟨wP,z⟩
  .obtain⟨b1,b2,bC,bG,cf,fi⟩:=pc z;have f9:=mg bN z;have z:=jF bN z;have bO:=c' z;go_wp2;obtain⟨a6,e,z⟩:=ch z;rw[e];have z:=cl z;revert z;refine pu λeC cp k' z=>?_;exact c_
  rcases wd [102,117,110,99] gh (A fY) z with⟨LR,bN,z⟩|⟨LR,z⟩
  .obtain⟨b1,b2,bC,bG,cf,fi⟩:=pc z;have f9:=mg bN z;have z:=jF bN z;have bO:=c' z;go_wp2;obtain⟨gF,e,z⟩:=ch z;rw[e];revert z;refine bq cC.o λm_ iP qs z=>?_;go_wp2;revert z;refine bq bh.o λa12 kp Al z=>?_;have c:=c' z;go_wp2;obtain⟨mH,aj',ag,aE,ajI,z⟩:=mf m_ a12 z;rw[ag,aE];revert z;refine bH λxd q3 yy z=>?_;exact c_
  rcases wd [110,101,119] gh (A fY) z with⟨LS,bN,z⟩|⟨LS,z⟩
  .obtain⟨b1,b2,bC,bG,cf,fi⟩:=pc z;have f9:=mg bN z;have z:=jF bN z;have bO:=c' z;go_wp2;obtain⟨uA,e,z⟩:=ch z;rw[e];revert z;refine jB gK λsh IM z=>?_;go_wp2;revert z;refine mA λsi IK z=>?_;generalize jw X IM=nt at z|-;go_wp2;revert z;refine lE eW λsj yA z=>?_;have c:=c' z;go_wp2;have z:=cl z;revert z;refine pu λahp uB EN z=>?_;exact c_
  rcases wd [109,97,107,101] gh (A fY) z with⟨zU,bN,z⟩|⟨zU,z⟩
  .obtain⟨b1,b2,bC,bG,cf,fi⟩:=pc z;have f9:=mg bN z;have z:=jF bN z;have bO:=c' z;go_wp2;obtain⟨q4,e,z⟩:=ch z;rw[e];have z:=dM (by unfold W.made;exact rfl) z;revert z;refine jB gK λuC I_ z=>?_;go_wp2;revert z;refine jB qI λq5 Vo z=>?_;go_wp2;revert z;refine bq bW.o λafq vC AG z=>?_;obtain⟨d24,bB⟩: ∃d,IntKind.i64.wrap (AG.p.bR- 1)=d:=⟨_,rfl⟩;obtain⟨b1,b2,bC,bG,cf,fi⟩:=pc z;have z:=jD bB z;have bO:=c' z;go_wp2;obtain⟨vD,e,oO,z⟩:=sN z;rw[e,oO];have z:=MU afq #[(42:Int),t.an,(0:Int),.string ⟨#[]⟩,.slice (some vD.heap.size) 1 1] 53 z;obtain⟨yC,e,z⟩:=ch z;rw[e];revert z;refine iB tV (λxp b0 z=>?_) λxq b0 z=>?_
   .go_wp2_with fail;revert z;refine kH λyD z=>?_;generalize ax:W.aM X (W.bs (W.down AG))=t2 at z|-;have DR:=A ax;clear ax;have z:=rY #[t2.j',t2.O,t2.aX,t2.an] 97 z;have dE:=c' z;obtain⟨m2,vm,z⟩|⟨m2,z⟩:=eG DR z
    .have Hs:(t2.j' !=2)=false:=(by rw[bne,m2];rfl);have d:=dk z;have z:=fV 2 t2.aX z;obtain⟨b1,b2,bC,bG,cf,fi⟩:=pc z;have f9:=mg vm z;have z:=jF vm z;have bO:=c' z;go_wp2;obtain⟨xr,e,z⟩:=ch z;rw[e];have z:=nZ z;revert z;refine lE eW λyE EK z=>?_;have c:=c' z;go_wp2;have z:=rE z;revert z;refine pu λahr yF aki z=>?_;exact c_
    have Hs:(t2.j' !=2)=true:=(by rw[bne,m2];rfl);go_wp2;obtain⟨xt,e,z⟩:=ch z;rw[e];have z:=nZ z;revert z;refine GZ λxu z=>?_;go_wp2;revert z;refine lE eW λxv IP z=>?_;have c:=c' z;go_wp2;have z:=rE z;revert z;refine pu λCG yG Cw z=>?_;exact c_
   go_wp2;revert z;refine lE eW λAo akj z=>?_;have c:=c' z;go_wp2;have z:=rE z;revert z;refine pu λahs Ap OQ z=>?_;exact c_
  go_wp2;obtain⟨Cx,e,z⟩:=ch z;rw[e];clear fY;revert z;refine j2 gK (λCy b0 z=>?_) λB8 b0 z=>?_
  .go_wp2_with fail;revert z;refine jB gK λB9 Fu z=>?_;go_wp2;revert z;refine bq ba.o λTM B_ Vr z=>?_;go_wp2;revert z;refine lE eW λCa akk z=>?_;exact c_
  go_wp2;revert z;refine mA λCb Ez z=>?_;generalize jw X s=nt at z|-;have c:=c' z;go_wp2;have z:=cl z;revert z;refine pu λamE Cc IV z=>?_;exact c_
 |false=>
  have z:=wn gh (A fY) (wn gh (A fY) (wn gh (A fY) (wn gh (A fY) (wn gh (A fY) (wn gh (A fY) z)))));go_wp2;obtain⟨Cd,e,z⟩:=ch z;rw[e];clear fY;revert z;refine j2 gK (λCe b0 z=>?_) λCf b0 z=>?_
  .go_wp2_with fail;revert z;refine jB gK λCg akl z=>?_;go_wp2;revert z;refine bq ba.o λa51 Ch OS z=>?_;go_wp2;revert z;refine lE eW λCi OT z=>?_;exact c_
  go_wp2;revert z;refine mA λCj akm z=>?_;generalize jw X s=nt at z|-;have c:=c' z;go_wp2;have z:=cl z;revert z;refine pu λahu EA MB z=>?_;exact c_
def ZH(n:Nat)(ax:n<=1000000)(Y8:Hid (∀m,m<n->ed X S 80 (W.named X (W.run X m) 9) [.int .i64 9]))(cC:Hid (∀m,m<n->ed X S 81 (W.sig X (W.run X m))))(HP:Hid (ed X S 81 (W.sig X (W.run X n))))(bh:Hid (ed X S 84 (W.run X n .block))):gg X S 54 cD (W.j9 X (W.run X n)):=by
 intro N p w s tv nv E h aZ;have z:=cF h aZ (by unfold W.j9;exact rfl);clear h aZ;go_in;go_wp2_with fail;revert z;refine kH λw1 z=>?_;generalize W.aM X s=t at z|-;replace z:=FC t #[.int .i64 0,.int .i64 (t.an:Int),.int .i64 0,.string ⟨#[]⟩,.slice none 0 0] 53 z;go_wp2_with fail;replace z:=ch z;obtain⟨w2,e,z⟩:=z;rw[e];clear e;replace z:=nZ (rE z);go_wp2_with fail;revert z;refine iB Ke (λbc aaI z=>?_) λbS aaI z=>?_
 .replace z:=dM (by unfold W.typed;exact rfl) z;go_wp2_with fail;revert z;refine mA λbm cm z=>?_;generalize jw X (W.bs s)=nt at z|-;have d0:=c' z;replace z:=lM 3 (.string (str nt)) z;replace z:=lM 0 (.int .i64 10) z;go_wp2_with fail;replace z:=ch z;obtain⟨b4,e,z⟩:=z;rw[e];clear e;clear d0;revert z;refine iB JL (λb3 b0 z=>?_) λa6 b0 z=>?_
  .replace z:=NJ z;go_wp2_with fail;revert z;refine jB qM λcp k' z=>?_;replace z:=q9 (t:=jh X) (lp:=(λm a s=>W.run X m (.fields a) s)) (λ_ _=>rfl) (λm a s h=>aS h) z;go_wp2_with fail;revert z;refine q' dm λapQ gF agG z=>?_;go_wp2_with fail;go_loopg[7] n (λm e wr=> ∃(d':List Nat) (bf:W.ak) (bb:Option Addr) (aQ:Nat),e= .bool (W.bw X bf dm)/\D d'+m=n/\Hid (aO N p X S w tv nv E (W.j9 X (W.run X n) s) wr bf [.dd (bb,D d',aQ) d',.ea (w1.heap.size+1) #[.int .i64 10,.int .i64 (t.an:Int),.int .i64 0,.string (str nt),(bb,D d',aQ)] 53] ((ng (jh X) (λm a s=>W.run X m (.fields a) s) m d' bf).M (tw X (λl s2=>W.put ⟨10,t.an,0,nt,l⟩ s2)))))
   case atStart=>exact⟨[],_,none,0,by rw[agG.o],by simp,cl z⟩
   case round=>
    clear z;obtain⟨d',bf,bb,aQ,rfl,rz,z⟩:=hrel;have c6: ∀a,D (d'++[a])=D d'+1:=λa=>by simp
    obtain⟨b1,b2,bC,bG,cf,fi⟩:=pc z;cases G:W.bw X bf dm<;>cases hw:gJ bf
    rotate_left
    all_goals try
     replace z:=y0 (show jh X bf=true by simp[jh,G,hw]) z;rw[hw] at bG;clear G hw;go_wp2_with fail;clear b1 b2 bC bG cf fi;revert z;refine lE dm λiP qs z=>?_;have c:=dk z;go_wp2_with fail;revert z;refine pu λxe kp Al z=>?_;exact c_
    have ay:=Nk (one:=λm=>W.named X (W.run X m) 9) (λ_ _=>rfl) (λ_ _ _=>rfl) (show jh X bf=false by simp[jh,G,hw]) z;clear z;obtain⟨m,rfl,z⟩:=ay;have gr:m<n:=J;rw[hw] at bG;clear G hw;have bO:=dk z;go_wp2_with fail;clear b1 b2 bC bG cf fi bO;revert z;refine bq (Y8.o m gr) λpV mH xo z=>?_;have c:=dk z;go_wp2_with(at_builtin;revert z;refine o_ pV (show D d'<=1000000 by omega) λg14 BB q3 z=>?_;clear c;have c:=dk z)
    replace z:=fV 4 (.slice (some ⟨g14,0,none⟩) (d'.length+1) BB) z;replace z:=ch z;obtain⟨uA,e,z⟩:=z;rw[e];clear e;clear c;revert z;refine j2 dm (λsh b0 z=>?_) λsi b0 z=>?_
    .replace z:=FE (t:=jh X) (lp:=(λm a s=>W.run X m (.fields a) s)) (m:=m) (g:=tw X (λl s2=>W.put ⟨10,t.an,0,nt,l⟩ s2)) (d':=d'++[pV]) (by simp[jh,b0.o]) z;go_wp2;go_roundg m
     case rel=>exact⟨d'++[pV],_,_,_,by rw[b0.o],by rw[c6];omega,by rw[c6];exact z⟩
     case measure=>omega
    go_wp2_with fail;revert z;refine k0 hC λsj yA z=>?_;replace z:=q9 (t:=jh X) (lp:=(λm a s=>W.run X m (.fields a) s)) (λ_ _=>rfl) (λm a s h=>aS h) z;go_wp2_with fail;revert z;refine q' dm λak5 uB agH z=>?_;go_wp2;go_roundg m
    case rel=>exact⟨d'++[pV],_,_,_,by rw[agH.o],by rw[c6];omega,by rw[c6];exact z⟩
    case measure=>omega
  go_wp2_with fail;revert z;refine k0 Jj λq4 EF z=>?_;replace z:=NJ z;have d0:=c' z;replace z:=lM 0 (.int .i64 12) z;go_wp2_with fail;replace z:=ch z;obtain⟨uC,e,z⟩:=z;rw[e];clear e;clear d0;revert z;refine jB qM λq5 Vo z=>?_;replace z:=q9 (t:=jh X) (lp:=(λm a s=>W.run X m (.j_ a) s)) (λ_ _=>rfl) (λm a s h=>aS h) z;go_wp2_with fail;revert z;refine q' dm λy23 vC agI z=>?_;go_wp2_with fail;go_loopg[7] n (λm e wr=> ∃(d':List Nat) (bf:W.ak) (bb:Option Addr) (aQ:Nat),e= .bool (W.bw X bf dm)/\D d'+m=n/\Hid (aO N p X S w tv nv E (W.j9 X (W.run X n) s) wr bf [.dd (bb,D d',aQ) d',.ea (w1.heap.size+1) #[.int .i64 12,.int .i64 (t.an:Int),.int .i64 0,.string (str nt),(bb,D d',aQ)] 53] ((ng (jh X) (λm a s=>W.run X m (.j_ a) s) m d' bf).M (tw X (λl s2=>W.put ⟨12,t.an,0,nt,l⟩ s2)))))
  case atStart=>exact⟨[],_,none,0,by rw[agI.o],by simp,cl z⟩
  case round=>
   clear z;obtain⟨d',bf,bb,aQ,rfl,rz,z⟩:=hrel;have c6: ∀a,D (d'++[a])=D d'+1:=λa=>by simp
   obtain⟨b1,b2,bC,bG,cf,fi⟩:=pc z;cases G:W.bw X bf dm<;>cases hw:gJ bf
   rotate_left
   all_goals try
    replace z:=y0 (show jh X bf=true by simp[jh,G,hw]) z;rw[hw] at bG;clear G hw;go_wp2_with fail;clear b1 b2 bC bG cf fi;revert z;refine lE dm λyB akg z=>?_;have c:=dk z;go_wp2_with fail;revert z;refine pu λTT vD EJ z=>?_;exact c_
   have ay:=Nk (one:=λm=>W.jY X (W.run X m)) (λ_ _=>rfl) (λ_ _ _=>rfl) (show jh X bf=false by simp[jh,G,hw]) z;clear z;obtain⟨m,rfl,z⟩:=ay;have gr:m<n:=J;rw[hw] at bG;clear G hw;have bO:=dk z;go_wp2_with fail;clear b1 b2 bC bG cf fi bO;obtain⟨Va,QQ,dA,cV⟩:=OA z;replace z:=dM (by unfold W.jY;exact rfl) dA;clear dA;revert z;refine kH λyC z=>?_;generalize W.aM X bf=t2 at z|-;go_wp2_with fail;replace z:=oN t2 z;obtain⟨xp,aj_,ag,aE,ajK,z⟩:=z;rw[ag,aE];clear ag aE;go_wp2_with fail;revert z;refine mA λxq OO z=>?_;generalize jw X bf=eG at z|-;go_wp2_with fail;revert z;refine bq (cC.o m gr) λN8 yD Jb z=>?_;have c:=c' z;go_wp2_with fail;replace z:=iE N8 z;obtain⟨xr,aow,ag,aE,anW,z⟩:=z;rw[ag,aE];clear ag aE;clear c;revert z;refine pu λCv yE EK z=>?_;replace z:=cV _ _ _ _ z;clear cV;have c:=dk z;go_wp2_with(at_builtin;revert z;refine o_ Cv (show D d'<=1000000 by omega) λl9 agJ yF z=>?_;clear c;have c:=dk z)
   replace z:=fV 4 (.slice (some ⟨l9,0,none⟩) (D d'+1) agJ) z;replace z:=ch z;obtain⟨xt,e,z⟩:=z;rw[e];clear e;clear c;revert z;refine j2 dm (λxu b0 z=>?_) λxv b0 z=>?_
   .replace z:=FE (t:=jh X) (lp:=(λm a s=>W.run X m (.j_ a) s)) (m:=m) (g:=tw X (λl s2=>W.put ⟨12,t.an,0,nt,l⟩ s2)) (d':=d'++[Cv]) (by simp[jh,b0.o]) z;go_wp2;go_roundg m
    case rel=>exact⟨d'++[Cv],_,_,_,by rw[b0.o],by rw[c6];omega,by rw[c6];exact z⟩
    case measure=>omega
   go_wp2_with fail;revert z;refine k0 hC λyG Cw z=>?_;replace z:=q9 (t:=jh X) (lp:=(λm a s=>W.run X m (.j_ a) s)) (λ_ _=>rfl) (λm a s h=>aS h) z;go_wp2_with fail;revert z;refine q' dm λapS Ao agK z=>?_;go_wp2;go_roundg m
   case rel=>exact⟨d'++[Cv],_,_,_,by rw[agK.o],by rw[c6];omega,by rw[c6];exact z⟩
   case measure=>omega
 go_wp2_with fail;revert z;refine k0 oR λAp OQ z=>?_;go_wp2_with fail;revert z;refine j2 gK (λCx aaG z=>?_) λCy aaG z=>?_
 .replace z:=dM (by unfold W.method;exact rfl) z;have d0:=c' z;replace z:=lM 0 (.int .i64 13) z;replace z:=lM 0 (.int .i64 14) z;go_wp2_with fail;replace z:=ch z;obtain⟨B8,e,z⟩:=z;rw[e];clear e;clear d0;revert z;refine jB gK λB9 Fu z=>?_;go_wp2_with fail;revert z;refine kH λB_ z=>?_;generalize W.aM X Fu=t2 at z|-;go_wp2_with fail;replace z:=oN t2 z;obtain⟨Ca,aka,ag,aE,ajM,z⟩:=z;rw[ag,aE];clear ag aE;go_wp2_with fail;revert z;refine mA λCb Ez z=>?_;generalize jw X Fu=eG at z|-;go_wp2_with fail;revert z;refine bq F6 λa46 Cc IV z=>?_;go_wp2_with fail;revert z;refine lE eW λCd ao2 z=>?_;have c:=c' z;go_wp2_with fail;replace z:=iE a46 z;obtain⟨Ce,aoC,ag,aE,an1,z⟩:=z;rw[ag,aE];clear ag aE;clear c;revert z;refine xn λTV Cf OR z=>?_;replace z:=cl (nZ z);have c:=dk z;go_wp2_with(at_builtin;revert z;refine o_ TV (show([]:List Nat).length<=1000000 by simp) λaic agL Cg z=>?_;clear c;have c:=dk z)
  replace z:=fV 4 (.slice (some ⟨aic,0,none⟩) 1 agL) z;replace z:=ch z;obtain⟨Ch,e,z⟩:=z;rw[e];clear e;clear c;revert z;refine mA λCi OT z=>?_;generalize jw X OR=nt2 at z|-;have d0:=dk z;replace z:=fV 3 (.string (str nt2)) z;go_wp2_with fail;replace z:=ch z;obtain⟨Cj,e,z⟩:=z;rw[e];clear e;clear d0;revert z;refine bq HP.o λN_ EA MB z=>?_;go_wp2_with fail;revert z;refine bq bh.o λOa IW Vs z=>?_;have c:=dk z;go_wp2_with(at_builtin;revert z;refine Ha N_ Oa (show([TV]:List Nat).length<=1000000 by simp) λaie agM IX z=>?_;clear c;have c:=dk z)
  replace z:=fV 4 (.slice (some ⟨aie,0,none⟩) 3 agM) z;replace z:=ch z;obtain⟨IY,e,z⟩:=z;rw[e];clear e;clear c;revert z;refine pu λTW IZ Vu z=>?_;exact c_
 replace z:=cl z;have d0:=dk z;replace z:=fV 0 (.int .i64 13) z;go_wp2_with fail;replace z:=ch z;obtain⟨I0,e,z⟩:=z;rw[e];clear e;clear d0;revert z;refine mA λVJ akn z=>?_;generalize jw X OQ=nt2 at z|-;have d0:=dk z;replace z:=fV 3 (.string (str nt2)) z;go_wp2_with fail;replace z:=ch z;obtain⟨VK,e,z⟩:=z;rw[e];clear e;clear d0;revert z;refine bq HP.o λOb VL ako z=>?_;go_wp2_with fail;revert z;refine bq bh.o λafv VM ao4 z=>?_;have c:=dk z;go_wp2_with(at_builtin;revert z;refine Ha Ob afv (show(([]:List Nat):List Nat).length<=1000000 by simp) λaif agN VN z=>?_;clear c;have c:=dk z)
 replace z:=fV 4 (.slice (some ⟨aif,0,none⟩) 2 agN) z;replace z:=ch z;obtain⟨VO,e,z⟩:=z;rw[e];clear e;clear c;revert z;refine pu λamJ VP ao6 z=>?_;exact c_
end
end il
end Go.Proofs.YtjfkhpkicioakaaGreatDoor
