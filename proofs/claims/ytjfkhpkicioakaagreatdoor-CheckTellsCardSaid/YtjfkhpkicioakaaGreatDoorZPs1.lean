/- PROVED HERE: the parser of the program, walked. No condition. -/
import Derived.Test.YtjfkhpkicioakaaGreatDoorZLx1
import Derived.Test.YtjfkhpkicioakaaGreatDoorZLx2
import Derived.Test.YtjfkhpkicioakaaGreatDoorZP1
import Derived.Deep.Upon
set_option maxRecDepth 100000
set_option maxHeartbeats 60000000
set_option linter.all false
open Array renaming replicate->vy
open ByteArray renaming empty->ke
open Go renaming Ending->e7,Value->af,World->ai,maxLen->dc,results->iX,undef->eb,wpAny_ready->tB,wpList->fo
open Go.Proofs.Tryz renaming underlying28->rN
open Go.Region renaming ready->nE,wanted->nF
open Go.RowKit renaming Below->aL
open Go.Value renaming ownBlock->tA,string->mm
open Go.World renaming alloc->aA,cell?->aG,setCell->a7
open List renaming getD->Y,length->D
open Go.Proofs.YtjfkhpkicioakaaGreatDoor.B hiding fail n8 one
open Go.Proofs.Tryz
namespace Go.Proofs.YtjfkhpkicioakaaGreatDoor
open Go.RowKit
structure Lf where n:Nat
def hb (_:aP) (_:Option Addr) (_:Nat):Lf:=⟨0⟩
instance(x u c):CoeDep Lf (hb x u c) Obj:=⟨.cells #[.int .i64 x.j',.int .i64 x.an,.int .i64 x.aX,.string (str x.O),.slice u x.I.length c] 53⟩
instance(x u c):CoeDep (Option Lf) (some (hb x u c)) (Option Obj):=⟨some (.cells #[.int .i64 x.j',.int .i64 x.an,.int .i64 x.aX,.string (str x.O),.slice u x.I.length c] 53)⟩
def l1 (t:aa.Tok):af:= .agg (e2 t).toArray
def kW (x:aP)(u:af):List af:=[x.j',x.an,x.aX,x.O,u]
def fh (l:List Nat):List af:=l.map λ(k:Nat)=>Value.int .i64 (k:Int)
def Qe:(prog.info? 53).map (λi=>(i.zero,i.size,i.bytes))=some (some (.agg #[(0:Int),(0:Int),(0:Int),ke,.slice none 0 0]),5,64):=cS
def r1:(prog.info? 3).map (λi=>(i.zero,i.size,i.bytes))=some (some (.int .i64 0),1,8):=cS
def jC (N:Nat)(w:ai)(u:af)(l:List Nat):Prop:=w.ownsRow N 3 1 u (D l) (fh l)
structure iJ (N:Nat)(w:ai)(nv:af)(E:List (aP×af)):Prop where
 row:w.ownsRow N 53 5 nv (D E) (E.flatMap λx=>kW x.1 x.2)
 I: ∀x∈E,jC N w x.2 x.1.I
def iu (V:Nat)(E:List (aP×af)):Prop:= ∀x∈E,∀b,x.2.ownBlock=some b->V<=b
def ae9 (E:List (aP×af))(u:af):Prop:= ∀x∈E,∀b,x.2.ownBlock=some b->u.ownBlock≠some b
def nk{w w':ai}{base e size n:Nat}{v:af}{xs}(fF:w.ownsRow base e size v n xs)(U: ∀k,v.ownBlock=some k->w'.heap[k]?=w.heap[k]?):w'.ownsRow base e size v n xs:=by
 refine⟨fF.1,?_⟩;obtain h|⟨g,cap,cur,rfl,R,aB,T⟩:=fF.2
 .exact Or.inl h
 .exact Or.inr ⟨g,cap,cur,rfl,R,(U g rfl).trans aB,T⟩
def r0{w:ai}{b1 b2 ag aE s1 s2 dq cR:Nat}{v1 v2:af}{xs wS}(R:w.ownsRow b1 ag s1 v1 dq xs)(T:w.ownsRow b2 aE s2 v2 cR wS)(aZ:ag≠aE){k}(U:v1.ownBlock=some k):v2.ownBlock≠some k:=by
 intro ei;obtain⟨rfl,_⟩|⟨g,cap,cur,rfl,_,aB,_⟩:=R.2
 .cases U
 .cases U;obtain⟨rfl,_⟩|⟨h5,ka,cur',rfl,_,k3,_⟩:=T.2
  .cases ei
  .cases ei;rw[aB] at k3;cases k3;exact aZ rfl
structure Sn (X:B.Src)(S:ByteArray):Prop where
 len:X.len=S.size
 small:S.size<=6000
 fA:D X.bu<=12001
structure cn (N p:Nat)(w:ai)(X:B.Src)(S:ByteArray)(s:B.ak)(tv nv:af)(E:List (aP×af)):Prop where
 blk:w.heap[p]?=some (.cells #[S,tv,s.i,s.bR,nv] 77 (0,0))
 bu:lG N w tv X.bu
 aj:iJ N w nv E
 eq:s.aj=E.map (·.1)
 src:Sn X S
 i:s.i<=D X.bu
 d0:0<=s.bR
 d1:s.bR<=30
 many:D E<=100000
 hN:N<=p
structure gu (N p:Nat)(w:ai)(nv:af)(w':ai)(gL:af):Prop where
 below:aL N w w'
 gP: ∀k,k<w.heap.size->k≠p->nv.ownBlock≠some k->w'.heap[k]?=w.heap[k]?
 row: ∀g,gL.ownBlock=some g->nv.ownBlock=some g\/w.heap.size<=g
def gu.refl(N p:Nat)(w:ai)(nv:af):gu N p w nv w nv:=⟨aT _ _,λ_ _ _ _=>rfl,λ_ h=> .inl h⟩
def gu.trans{N p w w1 w2 nv Vb Vc}(h:gu N p w nv w1 Vb)(T:gu N p w1 Vb w2 Vc):gu N p w nv w2 Vc:=by
 have hs:=h.below.size;refine⟨h.below.trans T.below,λk ah bJ dH=>?_,λg aB=>?_⟩
 .refine(T.gP k J bJ λfE=>?_).trans (h.gP k ah bJ dH);obtain fW|fW:=h.row k fE
  .exact dH fW
  .omega
 .obtain fW|fW:=T.row g aB
  .exact h.row g fW
  .exact .inr J
def gu.new{N p:Nat}{w w':ai}{nv:af}(h:aL w w w')(hN:N<=w.heap.size):gu N p w nv w' nv:=⟨h.mono hN,λk U _ _=>h.block k U,λ_ h=> .inl h⟩
def iu.mono{bP V E}(h:iu V E)(ev:bP<=V):iu bP E:=λx aF b G=>hg ev (h x aF b G)
def iu.append{V E ar}(h:iu V E)(T:iu V ar):iu V (E++ar):=λx aF b G=>(List.mem_append.1 aF).elim (λah=>h x ah b G) (λah=>T x ah b G)
def iu.nil(V:Nat):iu V []:=λ_ h=>by cases h
section
variable{N p:Nat}{w w':ai}{X:B.Src}{S:ByteArray}{s:B.ak}{tv nv:af}{E:List (aP×af)}
def cn.lt(h:cn N p w X S s tv nv E):p<w.heap.size:=bd h.blk
def cn.below(h:cn N p w X S s tv nv E)(G:aL w w w'):cn N p w' X S s tv nv E:=
 {h with
  blk:=ds h.blk G h.lt
  bu:=fZ h.bu G (λk U=>(h.bu.lt k U).2)
  aj:=⟨fZ h.aj.row G (λk U=>(h.aj.row.lt k U).2),λx aF=>fZ (h.aj.I x aF) G (λk U=>((h.aj.I x aF).lt k U).2)⟩}
def iJ.set{c}(h:iJ N w nv E)(aJ:w.heap[p]?=some (.cells c 77 (0,0)))(i u):iJ N (a7 w ⟨p,i,none⟩ u) nv E:=
 ⟨eZ h.row aJ aN,λx aF=>eZ (h.I x aF) aJ aN⟩
def cn.Bz(h:cn N p w X S s tv nv E){j}(bg:j<=D X.bu):cn N p (a7 w (p,2) j) X S {s with i:=j} tv nv E:=
 {h with blk:=et h.blk 2 _,bu:=eZ h.bu h.blk aN,aj:=h.aj.set h.blk 2 _,i:=bg}
def cn.Lu(h:cn N p w X S s tv nv E){d}(aH:0<=d)(R:d<=30):cn N p (a7 w ⟨p,3,none⟩ (.int .i64 d)) X S {s with bR:=d} tv nv E:=
 {h with blk:=et h.blk 3 _,bu:=eZ h.bu h.blk aN,aj:=h.aj.set h.blk 3 _,d0:=aH,d1:=R}
def gu.set{gL}(h:gu N p w nv w' gL)(hN:N<=p)(i u):gu N p w nv (a7 w' ⟨p,i,none⟩ u) gL:=
 ⟨h.below.setCell (p:=⟨p,i,none⟩) hN _,λk R T ah=>(Below.heap_setCell _ _ _ _ T).trans (h.gP k R T ah),h.row⟩
end
def dt (c:Int)(j:Nat):e7:= .panicked [{v:= .iface 74 (.agg #[c,j]),recovered:=false}]
def Out (N p:Nat)(X:B.Src)(S:ByteArray)(w:ai)(tv nv:af)(E:List (aP×af))(val:List Nat->af)(r:B.aV)(e:e7)(w':ai):Prop:=
 match r with
 | .o=>True
 | .bL c q=>e=dt c q/\aL N w w'
 | .ok v s'=>e= .returned (val v)/\ ∃gL ar,cn N p w' X S s' tv gL (E++ar)/\gu N p w nv w' gL/\iu w.heap.size ar
def C4{N w g n cap l}(h:lG N w (.slice (some ⟨g,0,none⟩) n cap) l){k}(U:k<D l)(d:aa.Tok):
  aG w ⟨g,k*4,none⟩=some (.int .i64 (Y l k d).j')/\aG w ⟨g,k*4+1,none⟩=some (.string (str (Y l k d).O))/\aG w ⟨g,k*4+2,none⟩=some (.int .i64 (Y l k d).aX)/\aG w ⟨g,k*4+3,none⟩=some (.int .i64 ((Y l k d).an:Int)):=by
 have au:w.ownsRow N 97 4 (g,n,cap) (D l) (l.flatMap e2):=h;have ax:n=D l:=by
  obtain⟨aH,_⟩|⟨h5,ka,cur,hu,_⟩:=au.2
  .cases aH
  .cases hu;rfl
 subst ax;have KS:l=l.take k++(Y l k d::l.drop (k+1)):=by
  have R:Y l k d=l[k]:=by simp[cE U]
  rw[R,<-kS U,xK]
 have hl:D ((l.take k).flatMap e2)=k*4:=QG _ _ (by rw[mr];omega);have key: ∀j,j<4->aG w (g,k*4+j)=(e2 (Y l k d))[j]?:=by
  intro j bg;have hc:=au.cellAt (k*4+j) J;have h8:(l.flatMap e2)[k*4+j]?=(e2 (Y l k d))[j]?:=by
   have e:l.flatMap e2=(l.take k).flatMap e2++(e2 (Y l k d)++(l.drop (k+1)).flatMap e2):=by
    conv=>lhs;rw[KS]
    rw[xG,u']
   rw[e,rU J,hl,Nat.add_sub_cancel_left,qz (by simp[e2];omega)]
  exact hc.trans h8
 exact⟨key 0 J,key 1 J,key 2 J,key 3 J⟩
def Js(w:ai)(o:Obj)(n a b c d):aL w w (a7 (a7 (a7 (a7 ((aA w o).drewN n) w.heap.size a) (w.heap.size,1) b) (w.heap.size,2) c) (w.heap.size,3) d):=
 ((((rh ((aT w w).alloc (bD _) o) n).setCell (p:=⟨w.heap.size,0,none⟩) (bD _) a).setCell (p:=⟨w.heap.size,1,none⟩) (bD _) b).setCell (p:=⟨w.heap.size,2,none⟩) (bD _) c).setCell (p:=⟨w.heap.size,3,none⟩) (bD _) d
def JV: ∀(a b c d:af) (w:ai),(Instr.field 97 (.agg #[a,b,c,d]) 0).run prog w= .ok a w:=λ_ _ _ _ _=>by kernel_rfl
def Gj: ∀(a b c d:af) (w:ai),(Instr.field 97 (.agg #[a,b,c,d]) 1).run prog w= .ok b w:=λ_ _ _ _ _=>by kernel_rfl
def abK: ∀(a b c d:af) (w:ai),(Instr.field 97 (.agg #[a,b,c,d]) 2).run prog w= .ok c w:=λ_ _ _ _ _=>by kernel_rfl
def C5: ∀(a b c d:af) (w:ai),(Instr.field 97 (.agg #[a,b,c,d]) 3).run prog w= .ok d w:=λ_ _ _ _ _=>by kernel_rfl
section
variable{N p:Nat}{w:ai}{X:B.Src}{S:ByteArray}{s:B.ak}{tv nv:af}{E:List (aP×af)}
def zb(h:cn N p w X S s tv nv E):aY 61 #[(p,0)] w λe w'=>e= .returned (l1 (B.aM X s))/\aL w w w':=by
 have bO:=az h.blk 0;have bq:=az h.blk 1;have cK:=az h.blk 2;have gV:=h.lt;simp only[cO,cQ,c8] at bO bq cK;have aD:=h.src.small;have hl:=h.src.fA;have ay:=h.i;by_cases bN:s.i<D X.bu
 .obtain⟨g,gc,aB⟩:=dR h.bu J;subst aB;obtain⟨cF,ui,ml,iS⟩:=C4 h.bu bN (iz X);have ft:=(eI h.bu g rfl).2;have rn:Hid (B.aM X s=Y X.bu s.i (iz X)):=A rfl;have⟨eS,b1⟩:(0:Int)<=s.i/\(s.i:Int)<D X.bu:=J;generalize s.i=i at*;generalize Y X.bu i (iz X)=t at*;rw[rn.o];generalize D X.bu=n at*;go_in;go_wp2_with fail;go_quiet (fail)
  go_wp2_with fail;go_region
  go_wp2;go_returns;exact⟨rfl,Js _ _ _ _ _ _ _⟩
 .obtain⟨a,gc,aB⟩:=eR h.bu rfl;subst aB;have hle:D X.bu<=s.i:=J;have rn:Hid (B.aM X s=⟨0,[],0,S.size⟩):=A (by unfold B.aM iz;rw[cd,pr hle,h.src.len];rfl);rw[rn.o];generalize s.i=i at*;generalize D X.bu=n at*;go_in;go_wp2_with fail;go_quiet (fail)
  go_wp2;go_returns;exact⟨rfl,Js _ _ _ _ _ _ _⟩
def CV(h:cn N p w X S s tv nv E)(c:Int):aY 29 #[(p,0),c] w λe w'=>e=dt c (B.aM X s).an/\aL w w w':=by have ep:=A (zb h);generalize B.aM X s=t at*;go_in;go_wp2_with fail;refine ep.o.mono ?_;rintro e w1 ⟨rfl,G⟩;have bh:=A G;clear G;unfold l1 e2;have aI:=C5;go_wp2;exact⟨rfl,rfl,bh.o⟩
def KT(X:B.Src)(s:B.ak)(cj:ByteArray):B.bw X s (aC cj)=(((str (B.aM X s).O).toList==cj.toList)&&((B.aM X s).j'==3||(B.aM X s).j'==4)):=by unfold B.bw;rw[fC,fC,f_]
def abL(h:cn N p w X S s tv nv E)(cj):aY 101 #[.pointer (some ⟨p,0,none⟩),.string cj] w λe w'=>e= .returned (.bool (B.bw X s (aC cj)))/\aL w w w':=by
 have ep:=A (zb h);rw[KT];generalize B.aM X s=t at*;obtain⟨j',O,aX,an⟩:=t;dsimp only;cases R:((str O).toList==cj.toList) with
 |false=>
  go_in;go_wp2_with fail;refine ep.o.mono ?_;rintro e w1 ⟨rfl,G⟩;have bh:=A G;clear G;unfold l1 e2;go_wp2;go_returns;exact⟨rfl,bh.o.alloc bh.o.size _⟩
 |true=>
  by_cases ah:j'=3
  .subst ah;go_in;go_wp2_with fail;refine ep.o.mono ?_;rintro e w1 ⟨rfl,G⟩;have bh:=A G;clear G;unfold l1 e2;go_wp2;go_returns;exact⟨rfl,bh.o.alloc bh.o.size _⟩
  .have g3:(j'==3)=false:=(by simpa using ah);have z:=A g3;go_in;go_wp2_with fail;refine ep.o.mono ?_;rintro e w1 ⟨rfl,G⟩;have bh:=A G;clear G;unfold l1 e2;go_wp2;go_returns;exact⟨lD (by rw[z.o];simp),bh.o.alloc bh.o.size _⟩
def lX(h:cn N p w X S s tv nv E)(cj)(b:Bool)(G:Hid (B.bw X s (aC cj)=b)):aY 101 #[(p,0),cj] w λe w'=>e= .returned (.bool b)/\aL w w w':=by have:=abL h cj;rw[G.o] at this;exact this
def cn.bO(h:cn N p w X S s tv nv E):aG w p=some [S]:=az h.blk 0
def cn.bq(h:cn N p w X S s tv nv E):aG w (p,1)=some tv:=az h.blk 1
def cn.cK(h:cn N p w X S s tv nv E):aG w (p,2)=some [s.i]:=az h.blk 2
def cn.c3(h:cn N p w X S s tv nv E):aG w (p,3)=some [s.bR]:=az h.blk 3
def cn.c4(h:cn N p w X S s tv nv E):aG w (p,4)=some nv:=az h.blk 4
def cn.bs(h:cn N p w X S s tv nv E)(bg:s.i<D X.bu):cn N p (a7 w (p,2) [((s.i:Int)+1:Int)]) X S (B.bs s) tv nv E:=h.Bz (j:=s.i+1) bg
def cn.free(h:cn N p w X S s tv nv E)(i):w.frozen? ⟨p,i,none⟩=false:=cX h.blk i
def cn.jo(h:cn N p w X S s tv nv E):N<=w.heap.size:=hg h.hN (Nat.le_of_lt h.lt)
def vj(X:B.Src)(s:B.ak)(x)(h:B.bw X s x=true):s.i<D X.bu:=by refine we λax=>?_;unfold B.bw B.aM iz at h;rw[cd,pr J] at h;simp at h
def Jx(X:B.Src)(s:B.ak)(h:B.hZ X s=true):s.i<D X.bu:=by refine we λax=>?_;unfold B.hZ B.aM iz at h;rw[cd,pr J] at h;simp at h
def Dc{tv nv gL E ar w w' s'}{val:List Nat->af}{v e r}(au:r= .ok v s')(he:e= .returned (val v))(R:cn N p w' X S s' tv gL (E++ar))(T:gu N p w nv w' gL)(ah:iu w.heap.size ar):Out N p X S w tv nv E val r e w':=by subst au;exact⟨he,gL,ar,R,T,ah⟩
def abI{tv nv E w w' s'}{val:List Nat->af}{v e r}(au:r= .ok v s')(he:e= .returned (val v))(R:cn N p w' X S s' tv nv E)(T:gu N p w nv w' nv):Out N p X S w tv nv E val r e w':=
 Dc (ar:=[]) au he (by rw[lU];exact R) T (iu.nil _)
def Q1{tv nv E w w'}{val:List Nat->af}{e r c q}(au:r= .bL c q)(he:e=dt c q)(G:aL N w w'):Out N p X S w tv nv E val r e w':=by subst au;exact⟨he,G⟩
def lk (_:List Nat):af:= .tuple #[]
def cD (v:List Nat):af:= [((Y v 0 0:Nat):Int)]
def VT(h:cn N p w X S s tv nv E)(cj)(b:Bool)(G:Hid (B.bw X s (aC cj)=b)):aY 99 #[(p,0),cj] w λe w'=>e= .returned (.bool b)/\cn N p w' X S (if b then B.bs s else s) tv nv E/\gu N p w nv w' nv:=by
 have dA:=A (lX h cj b G);have cC:=A h;have gV:=h.lt;have hN:=h.jo;cases b with
 |false=>
  clear h;go_in;go_wp2_with fail;refine dA.o.mono ?_;rintro e w1 ⟨rfl,ck⟩;have bh:=A ck;clear ck;go_wp2;go_returns;exact⟨rfl,cC.o.below bh.o,gu.new bh.o hN⟩
 |true=>
  have bN:=vj X s _ G.o;have rq:=h.src.fA;clear h;go_in;go_wp2_with fail;refine dA.o.mono ?_;rintro e w1 ⟨rfl,ck⟩;have gE:=cC.o.below ck;have d2:=gE.cK;have DX:=gE.free 2;have gq:=gE.lt;have bh:=A ck;have iC:=A gE;clear ck gE;go_wp2;go_returns;exact⟨rfl,iC.o.bs bN,(gu.new bh.o hN).set iC.o.hN 2 _⟩
end
section
variable{N p:Nat}{w:ai}{X:B.Src}{S:ByteArray}{s:B.ak}{tv nv:af}{E:List (aP×af)}
def Out.parts{val:List Nat->af}{r e w'}(h:Out N p X S w tv nv E val r e w')(aZ:r≠ .o):
  (∃c q,r= .bL c q/\e=dt c q/\aL N w w')\/(∃v s' gL ar,r= .ok v s'/\e= .returned (val v)/\cn N p w' X S s' tv gL (E++ar)/\gu N p w nv w' gL/\iu w.heap.size ar):=by
 cases r with
 |o=>exact absurd rfl aZ
 |bL c q=>exact .inl ⟨c,q,rfl,h.1,h.2⟩
 |ok v s'=>
  obtain⟨R,gL,ar,T,ah,bJ⟩:=h;exact .inr ⟨v,s',gL,ar,rfl,R,T,ah,bJ⟩
structure Go (N p:Nat)(X:B.Src)(S:ByteArray)(w:ai)(tv nv:af)(E:List (aP×af))(wk:ai)(s:B.ak)(aW:af)(ar:List (aP×af)):Prop where
 st:cn N p wk X S s tv aW (E++ar)
 de:gu N p w nv wk aW
 fr:iu w.heap.size ar
 eK: ∀k,tv.ownBlock=some k->k<w.heap.size
 pl:p<w.heap.size
section
variable{wk w2:ai}{aW cR:af}{ar h_:List (aP×af)}{s2:B.ak}
def Go.start(h:cn N p w X S s tv nv E):Go N p X S w tv nv E w s nv []:=⟨by rw[lU];exact h,gu.refl _ _ _ _,iu.nil _,λk U=>(h.bu.lt k U).2,h.lt⟩
def Go.size(h:Go N p X S w tv nv E wk s aW ar):w.heap.size<=wk.heap.size:=h.de.below.size
def Go.new(h:Go N p X S w tv nv E wk s aW ar)(G:aL wk wk w2):Go N p X S w tv nv E w2 s aW ar:=⟨h.st.below G,h.de.trans (gu.new G h.st.jo),h.fr,h.eK,h.pl⟩
def Go.alloc(h:Go N p X S w tv nv E wk s aW ar)(o:Obj):Go N p X S w tv nv E (aA wk o) s aW ar:=h.new ((aT _ _).alloc (bD _) o)
def Go.drawn(h:Go N p X S w tv nv E wk s aW ar)(n):Go N p X S w tv nv E (wk.drewN n) s aW ar:=h.new (rh (aT _ _) n)
def Go.bs(h:Go N p X S w tv nv E wk s aW ar)(bN:s.i<D X.bu):Go N p X S w tv nv E (a7 wk (p,2) [((s.i:Int)+1:Int)]) (B.bs s) aW ar:=⟨h.st.bs bN,h.de.set h.st.hN 2 _,h.fr,h.eK,h.pl⟩
def Go.bR(h:Go N p X S w tv nv E wk s aW ar){d}(aH:0<=d)(R:d<=30):Go N p X S w tv nv E (a7 wk ⟨p,3,none⟩ (.int .i64 d)) {s with bR:=d} aW ar:=⟨h.st.Lu aH R,h.de.set h.st.hN 3 _,h.fr,h.eK,h.pl⟩
def Go.then(h:Go N p X S w tv nv E wk s aW ar)(R:cn N p w2 X S s2 tv cR ((E++ar)++h_))(T:gu N p wk aW w2 cR)(ah:iu wk.heap.size h_):Go N p X S w tv nv E w2 s2 cR (ar++h_):=
 ⟨by rw[<-oH];exact R,h.de.trans T,h.fr.append (ah.mono h.size),h.eK,h.pl⟩
def Go.box(h:Go N p X S w tv nv E wk s aW ar){q c t}(a_:w.heap.size<=q)(hc:wk.heap[q]?=some (.cells c t (0,0)))(ax:aW.ownBlock≠some q)(bI:3≠t)(i u):Go N p X S w tv nv E (a7 wk ⟨q,i,none⟩ u) s aW ar:=by
 have w8:p≠q:=by have:=h.pl;omega
 have hN:N<=q:=hg h.st.hN (by have:=h.pl;omega);have U: ∀k,k≠q->(a7 wk (q,i) u).heap[k]?=wk.heap[k]?:=λk aZ=>Below.heap_setCell _ _ _ _ aZ;refine⟨{h.st with
   blk:=(U p w8).trans h.st.blk
   bu:=nk h.st.bu (λk ei=>U k (by have:=h.eK k ei;omega))
   aj:=⟨nk h.st.aj.row (λk ei=>U k (by rintro rfl;exact ax ei)),λx aF=>eZ (h.st.aj.I x aF) hc bI⟩},
  ⟨h.de.below.setCell (p:=⟨q,i,none⟩) hN _,λk R T ah=>(U k J).trans (h.de.gP k R T ah),h.de.row⟩,h.fr,h.eK,h.pl⟩
def Go.o{val:List Nat->af}{v e r}(h:Go N p X S w tv nv E wk s aW ar)(au:r= .ok v s)(he:e= .returned (val v)):Out N p X S w tv nv E val r e wk:=Dc au he h.st h.de h.fr
def Go.bL{val:List Nat->af}{c q r}(h:Go N p X S w tv nv E wk s aW ar)(G:aL N wk w2)(au:r= .bL c q):Out N p X S w tv nv E val r (dt c q) w2:=Q1 au rfl (h.de.below.trans G)
end
def va(h:cn N p w X S s tv nv E)(cj):aY 63 #[.pointer (some ⟨p,0,none⟩),.string cj] w (Out N p X S w tv nv E cD (B.take X (aC cj) s)):=by
 have cC:=A h;have gV:=h.lt;have hN:=h.jo;cases G:B.bw X s (aC cj) with
 |false=>
  have cP:Hid (B.take X (aC cj) s= .bL 3 (B.aM X s).an):=A (by unfold B.take;rw[G];rfl);have dA:=A (lX h cj false (A G));clear h G;go_in;have Go:=0;go_wp2;refine dA.o.mono ?_;rintro e w1 ⟨rfl,ck⟩;have bh:=A ck;clear ck;go_wp2;refine b7 (CV (cC.o.below bh.o) 3) λw2 b8=>?_;have ba:Hid (Out N p X S w tv nv E cD (B.take X (aC cj) s) (dt 3 (B.aM X s).an) w2):=A (Q1 cP.o rfl ((bh.o.mono hN).trans (b8.mono (hg hN bh.o.size))));unfold dt;go_wp2;exact⟨rfl,ba.o⟩
 |true=>
  have bN:=vj X s _ G;have cP:Hid (B.take X (aC cj) s= .ok [(B.aM X s).an] (B.bs s)):=A (by unfold B.take;rw[G];rfl);have dA:=A (lX h cj true (A G));have rq:=h.src.fA;have ay:=h.i;clear h G;go_in;have Go:=0;go_wp2;refine dA.o.mono ?_;rintro e w1 ⟨rfl,ck⟩;have gE:=cC.o.below ck;have d2:=gE.cK;have DX:=gE.free 2;have gq:=gE.lt;have bh:=A ck;have iC:=A gE;clear ck gE;go_wp2;have mK:=iC.o.bs bN;have lx:=A mK;have d3:aG (a7 w1 (p,2) [((s.i:Int)+1:Int)]) (p,2)=some [((s.i:Int)+1:Int)]:=mK.cK;obtain⟨g,gc,aB⟩:=dR mK.bu J;subst aB;have d1:=mK.bq;have iS:=(C4 mK.bu bN (iz X)).2.2.2;have c0:=A ((gu.new (p:=p) (nv:=nv) bh.o hN).set iC.o.hN 2 [((s.i:Int)+1:Int)]);have ft:=(eI mK.bu g rfl).2;have iL:=mK.lt;have Lv:Hid (Y X.bu s.i (iz X)=B.aM X s):=A rfl;clear mK;generalize(a7 w1 (p,2) [((s.i:Int)+1:Int)])=w2 at*;generalize B.aM X s=t at*;rw[Lv.o] at iS;have BE:IntKind.i64.wrap ((s.i:Int)+1- 1)=(s.i:Int):=by rw[Int.add_sub_cancel];exact dI _ J
  have⟨Hn,ae7⟩:(0:Int)<=s.i/\(s.i:Int)<D X.bu:=J;generalize s.i=i at*;generalize D X.bu=n at*;go_quiet (fail)
  go_wp2;go_returns;exact abI cP.o rfl (lx.o.below (rh (aT _ _) _)) (c0.o.trans (gu.new (rh (aT _ _) _) (by have:=c0.o.below.size;omega)))
def ze(X:B.Src)(x:List UInt8)(s):B.take X x s≠ .o:=by unfold B.take B.fail;split<;>simp
def xT{X x s s' v}(h:B.take X x s= .ok v s'):v=[(B.aM X s).an]/\s'=B.bs s/\B.bw X s x=true:=by
 unfold B.take B.fail at h;split at h
 .rename_i U;cases h;exact⟨rfl,rfl,U⟩
 .cases h
def O3(h:cn N p w X S s tv nv E):aY 103 #[(p,0)] w (Out N p X S w tv nv E (λ_=>l1 (B.aM X s)) (B.name X s)):=by
 have z:=A (Go.start h);cases G:B.hZ X s with
 |false=>
  have cP:Hid (B.name X s= .bL 3 (B.aM X s).an):=A (by unfold B.name;rw[G];rfl);have U:((B.aM X s).j' !=1)=true:=by unfold B.hZ at G;simpa using G
  have rn:=A (λw1 (R:cn N p w1 X S s tv nv (E++[]))=>zb R);have ae8:=A (λw1 (R:cn N p w1 X S s tv nv (E++[]))=>CV R 3);generalize B.aM X s=t at*;go_in;have Go:=0;go_wp2;have hS:=A (z.o.alloc (aw #[(0:Int),.string ⟨#[]⟩,(0:Int),(0:Int)] 97));refine b7 (rn.o _ hS.o.st) λw1 ck=>?_;have fN:=A (hS.o.new ck);unfold l1 e2;have aI:=JV;go_wp2;refine b7 (ae8.o w1 fN.o.st) λw2 b8=>?_;have ba:Hid (Out N p X S w tv nv E (λ_=>l1 t) (B.name X s) (dt 3 t.an) w2):=A (fN.o.bL (b8.mono fN.o.st.jo) cP.o);unfold dt;go_wp2;exact⟨rfl,ba.o⟩
 |true=>
  have bN:=Jx X s G;have cP:Hid (B.name X s= .ok [] (B.bs s)):=A (by unfold B.name;rw[G];rfl);have U:((B.aM X s).j' !=1)=false:=by unfold B.hZ at G;simpa using G
  have rn:=A (λw1 (R:cn N p w1 X S s tv nv (E++[]))=>zb R);have rq:=h.src.fA;obtain⟨g,gc,aB⟩:=dR h.bu J;subst aB;have Lv:Hid (Y X.bu s.i (iz X)=B.aM X s):=A rfl;generalize B.aM X s=t at*;go_in;have Go:=0;go_wp2;have hS:=A (z.o.alloc (aw #[(0:Int),.string ⟨#[]⟩,(0:Int),(0:Int)] 97));have eV:=A (ek w (aw #[(0:Int),.string ⟨#[]⟩,(0:Int),(0:Int)] 97));refine b7 (rn.o _ hS.o.st) λw1 ck=>?_;have fN:=A (hS.o.new ck);have qP:=ds eV.o ck bT;have Ef:=A qP;have d2:=fN.o.st.cK;have DX:=fN.o.st.free 2;have gq:=fN.o.st.lt;clear qP;unfold l1 e2;have aI:=JV;go_wp2;have qS:=A (fN.o.bs bN);have aZ:w.heap.size≠p:=by have:=z.o.st.lt;omega
  have qY:=A (fK (p:=p) Ef.o aZ 2 [((s.i:Int)+1:Int)]);have d3:aG (a7 w1 (p,2) [((s.i:Int)+1:Int)]) (p,2)=some [((s.i:Int)+1:Int)]:=qS.o.st.cK;generalize(a7 w1 (p,2) [((s.i:Int)+1:Int)])=w2 at*;have d1:=qS.o.st.bq;have aF:=C4 qS.o.st.bu bN (iz X);rw[Lv.o] at aF;obtain⟨cF,ui,ml,iS⟩:=aF;have ft:=(eI qS.o.st.bu g rfl).2;have iL:=qS.o.st.lt;have dY:=az qY.o 0;have ag:=az qY.o 1;have aE:=az qY.o 2;have bU:=az qY.o 3;have z0:=cX qY.o 0;have lB:=cX qY.o 1;have z2:=cX qY.o 2;have z3:=cX qY.o 3;have qZ:=bd qY.o;simp only[cO,cQ,c8] at dY ag aE bU;have BE:IntKind.i64.wrap ((s.i:Int)+1- 1)=(s.i:Int):=by rw[Int.add_sub_cancel];exact dI _ J
  have⟨Hn,ae7⟩:(0:Int)<=s.i/\(s.i:Int)<D X.bu:=J;go_region
  all_goals
   have a_:=bD w.heap.size;have ax:nv.ownBlock≠some w.heap.size:=λaH=>by have:=(z.o.st.aj.row.lt _ aH).2;omega
   have cu:=et qY.o 0 t.j';have k2:=et cu 1 t.O;have iG:=et k2 2 t.aX;have fY:=et iG 3 t.an;have YJ:=A (((((qS.o.box a_ qY.o ax aN 0 t.j').box a_ cu ax aN 1 t.O).box a_ k2 ax aN 2 t.aX).box a_ iG ax aN 3 t.an));generalize(a7 (a7 (a7 (a7 w2 w.heap.size t.j') (w.heap.size,1) t.O) (w.heap.size,2) t.aX) (w.heap.size,3) t.an)=bS at*;have dY:=az fY 0;have ag:=az fY 1;have aE:=az fY 2;have bU:=az fY 3;simp only[ld,lf,lg,cO,cQ,c8] at dY ag aE bU;go_wp2;exact oK (v:=l1 t) (by simp[iX,results103,go_sem,dY,ag,aE,bU,l1,e2]) rfl ((YJ.o.drawn 1).o cP.o rfl)
def F4(h:cn N p w X S s tv nv E)(cj):aY 141 #[.pointer (some ⟨p,0,none⟩),.string cj] w (Out N p X S w tv nv E cD (B.enter X (aC cj) s)):=by
 have z:=A (Go.start h);have lz:=h.d0;have k4:=h.d1;cases G:B.bw X s (aC cj) with
 |false=>
  have cP:Hid (B.enter X (aC cj) s= .bL 3 (B.aM X s).an):=A (by simp[B.enter,B.take,B.fail,G,B.aV.M]);have bW:Hid (B.take X (aC cj) s= .bL 3 (B.aM X s).an):=A (by simp[B.take,B.fail,G]);have dA:=A (lX h cj false (A G));clear G;go_in;have Go:=0;go_wp2;refine dA.o.mono ?_;rintro e w1 ⟨rfl,ck⟩;have hS:=A (z.o.new ck);go_wp2;refine(va hS.o.st cj).mono ?_;rintro e w2 a_;rw[bW.o] at a_;obtain⟨rfl,b8⟩:=a_;have ba:Hid (Out N p X S w tv nv E cD (B.enter X (aC cj) s) (dt 3 (B.aM X s).an) w2):=A (hS.o.bL b8 cP.o);unfold dt;go_wp2;exact⟨rfl,ba.o⟩
 |true=>
  have dA:=A (lX h cj true (A G));by_cases bB:s.bR=30
  .have cP:Hid (B.enter X (aC cj) s= .bL 4 (B.aM X s).an):=A (by simp[B.enter,B.fail,G,bB]);have ah8:(s.bR==30)=true:=(by simpa using bB);clear G;go_in;have Go:=0;go_wp2;refine dA.o.mono ?_;rintro e w1 ⟨rfl,ck⟩;have hS:=A (z.o.new ck);have d3:=hS.o.st.c3;have gq:=hS.o.st.lt;go_wp2;refine b7 (CV hS.o.st 4) λw2 b8=>?_;have ba:Hid (Out N p X S w tv nv E cD (B.enter X (aC cj) s) (dt 4 (B.aM X s).an) w2):=A (hS.o.bL (b8.mono hS.o.st.jo) cP.o);unfold dt;go_wp2;exact⟨rfl,ba.o⟩
  .have cP:Hid (B.enter X (aC cj) s= .ok [(B.aM X s).an] (B.up (B.bs s))):=A (by simp[B.enter,B.take,G,bB,B.aV.M]);have bW:Hid (B.take X (aC cj) s= .ok [(B.aM X s).an] (B.bs s)):=A (by simp[B.take,G]);have ah8:(s.bR==30)=false:=(by simpa using bB);clear G;go_in;have Go:=0;go_wp2;refine dA.o.mono ?_;rintro e w1 ⟨rfl,ck⟩;have hS:=A (z.o.new ck);have d3:=hS.o.st.c3;have gq:=hS.o.st.lt;go_wp2;refine(va hS.o.st cj).mono ?_;rintro e w2 a_;rw[bW.o] at a_;obtain⟨rfl,cR,h_,R,T,ah⟩:=a_;have fN:=A (hS.o.then R T ah);have f3:=fN.o.st.c3;have ah3:=fN.o.st.free 3;have iL:=fN.o.st.lt;rw[show(B.bs s).bR=s.bR from rfl] at f3;unfold cD;go_wp2;go_returns;exact(fN.o.bR (d:=s.bR+1) J J).o cP.o rfl
def abJ{X x s s1 v}(h:B.take X x s= .ok v s1):B.dU X x s= .ok [] (B.down s1):=by simp[B.dU,h,B.aV.M]
def Jk(h:cn N p w X S s tv nv E)(cj)(bB:1<=s.bR):aY 143 #[.pointer (some ⟨p,0,none⟩),.string cj] w (Out N p X S w tv nv E lk (B.dU X (aC cj) s)):=by
 have z:=A (Go.start h);have k4:=h.d1;go_in;go_wp2_with fail;refine(va z.o.st cj).mono ?_;rintro e w2 a_;obtain⟨c,q,au,rfl,G⟩|⟨v,s2,cR,h_,au,rfl,R,T,ah⟩:=a_.parts (ze _ _ _)
 .have ba:Hid (Out N p X S w tv nv E lk (B.dU X (aC cj) s) (dt c q) w2):=A (z.o.bL G (by simp[B.dU,au,B.aV.M]));unfold dt;go_wp2;exact⟨rfl,ba.o⟩
 .have cP:Hid (B.dU X (aC cj) s= .ok [] (B.down s2)):=A (abJ au);obtain⟨_,mK,_⟩:=xT au;have fN:=A (z.o.then R T ah);have f3:=fN.o.st.c3;have ah3:=fN.o.st.free 3;have iL:=fN.o.st.lt;have uj:s2.bR=s.bR:=by rw[mK];rfl
  rw[uj] at f3;have Yu:=A uj;clear uj;unfold cD;go_wp2;go_returns;exact(fN.o.bR (d:=s.bR- 1) J J).o (by rw[cP.o];unfold B.down;rw[Yu.o]) rfl
def sU (x:aP)(s:B.ak):B.ak:={s with aj:=s.aj++[x]}
def wq{x s}(h:B.put x s≠ .o):D s.aj<100000:=by
 unfold B.put at h;split at h
 .assumption
 .exact absurd rfl h
def zm{x s}(h:B.put x s≠ .o):B.put x s= .ok [D s.aj] (sU x s):=by have:=wq h;unfold B.put;rw[aS this];rfl
def VI(E:List (aP×af)):D (E.flatMap λx=>kW x.1 x.2)=D E*5:=by
 induction E with
 |nil=>rfl
 |cons x l cB=>simp only[u',dW,cB,iq];simp[kW];omega
theorem QF {N:Nat} {w:ai} {u:af} {l:List Nat} (h:jC N w u l) (a b c:Int) (t:ByteArray): ∀x∈[Value.int .i64 a,.int .i64 b,.int .i64 c,.string t,u],x.oneCell'=true:=by
 intro x aF;simp only[List.mem_cons,List.not_mem_nil,or_false] at aF;obtain rfl|rfl|rfl|rfl|rfl:=aF
 ·rfl
 ·rfl
 ·rfl
 ·rfl
 ·obtain⟨a,c,rfl⟩:=eR h rfl
  rfl
def A_ (N p:Nat)(X:B.Src)(S:ByteArray)(w:ai)(tv nv:af)(E:List (aP×af))(s:B.ak)(x:aP)(u:af)(e:e7)(w':ai):Prop:=
 e= .returned (D s.aj)/\ ∃gL,cn N p w' X S (sU x s) tv gL (E++[(x,u)])/\gu N p w nv w' gL
def O9{w1 a6 x u g2 fz o}(h:Go N p X S w tv nv E w1 s nv [])(fF:a6.ownsRow N 53 5 (.slice (some ⟨g2,0,none⟩) (D E+1) fz) (D E+1) ((E.flatMap λx=>kW x.1 x.2)++kW x u))(dv:((aA w1 o).drew).grownBy a6 nv.ownBlock)
 (e1:nv.ownBlock=some g2\/g2=w1.heap.size+1)(hu:jC N w1 u x.I)(di:a6.heap[p]?=some (.cells #[.string S,tv,.int .i64 (s.i:Int),.int .i64 s.bR,nv] 77 (0,0)))(aI:D s.aj<100000):
  cn N p (a7 a6 ⟨p,4,none⟩ (.slice (some ⟨g2,0,none⟩) (D E+1) fz)) X S (sU x s) tv (.slice (some ⟨g2,0,none⟩) (D E+1) fz) (E++[(x,u)])/\gu N p w nv (a7 a6 ⟨p,4,none⟩ (.slice (some ⟨g2,0,none⟩) (D E+1) fz)) (.slice (some ⟨g2,0,none⟩) (D E+1) fz):=by
 have dD:=h.st;rw[lU] at dD;have th:D E=D s.aj:=by rw[dD.eq,h2]
 have U: ∀k,k<w1.heap.size->nv.ownBlock≠some k->a6.heap[k]?=w1.heap[k]?:=λk R T=>(dv.block k (by show k<(aA w1 o).heap.size;simp;omega) (λe=>T e.symm)).trans (Below.heap_alloc _ _ _ R);have Lb:lG N a6 tv X.bu:=nk dD.bu (λk ei=>U k (dD.bu.lt k ei).2 (λe=>r0 dD.bu dD.aj.row aN ei e));have Dn: ∀u l,jC N w1 u l->jC N a6 u l:=λu l hl=>nk hl (λk ei=>U k (hl.lt k ei).2 (λe=>r0 hl dD.aj.row aN ei e));have h4:iJ N a6 (g2,D E+1,fz) (E++[(x,u)]):=by
  refine⟨?_,λy bx=>?_⟩
  .rw[dW,xG];simpa using fF
  .obtain bx|bx:=List.mem_append.1 bx
   .exact Dn _ _ (dD.aj.I y bx)
   .obtain rfl:y=(x,u):=(by simpa using bx);exact Dn _ _ hu
 have hN:N<=p:=dD.hN;refine⟨{dD with
   blk:=et di 4 _
   bu:=eZ Lb di aN
   aj:=h4.set di 4 _
   eq:=by show s.aj++[x]=_;rw[dD.eq,rX];rfl
   many:=by rw[dW];simp;omega},?_,λk R T ah=>?_,λg aB=>?_⟩
 .have ck:aL N w (aA w1 o).drew:=(h.de.below.alloc dD.jo o).drew;exact(Below.grown ck dv (by show N<=(aA w1 o).heap.size;simp;have:=dD.jo;omega) (λk ei=>(dD.aj.row.lt k ei).1)).setCell (p:=⟨p,4,none⟩) hN _
 .have hs:=h.size;exact(Below.heap_setCell _ _ _ _ T).trans ((U k J ah).trans (h.de.gP k R T ah))
 .have hs:=h.size;cases aB;show nv.ownBlock=some g2\/w.heap.size<=g2;obtain e|e:=e1
  .exact .inl e
  .exact .inr J
def CY(h:cn N p w X S s tv nv E)(x:aP)(u:af)(hu:jC N w u x.I)(aI:D s.aj<100000):aY 64 #[(p,0),.agg #[x.j',x.an,x.aX,x.O,u]] w (A_ N p X S w tv nv E s x u):=by
 have th:D E=D s.aj:=by rw[h.eq,h2]
 have z:=A (Go.start h);have ia:=A hu;have M':=A (QF hu x.j' x.an x.aX (str x.O));obtain⟨bb,aQ,Aa⟩:=eR hu rfl;obtain⟨i0,fM,e',e_,ff⟩:=kT Qe;have wZ:=A th;have air:D E<100000:=J;have Eg:=A (VI E);have Yv:=A h.eq;clear h hu th;subst Aa;go_in;go_wp2_with fail;obtain⟨w1,fp⟩: ∃w1:ai,w1=(aA w (aw #[.int .i64 x.j',.int .i64 x.an,.int .i64 x.aX,.string (str x.O),(bb,D x.I,aQ)] 53)):=⟨_,rfl⟩;have eV:Hid (w1.heap[w.heap.size]?=some (.cells #[.int .i64 x.j',.int .i64 x.an,.int .i64 x.aX,.string (str x.O),(bb,D x.I,aQ)] 53 (0,0))):=A (by rw[fp];exact ek _ _);have hS:Hid (Go N p X S w tv nv E w1 s nv []):=A (by rw[fp];exact z.o.alloc _);have vs:Hid (jC N w1 (bb,D x.I,aQ) x.I):=A (by rw[fp];exact ia.o.alloc _);rw[<-fp];clear fp;have b':=az eV.o 0;have c9:=az eV.o 1;have cw:=az eV.o 2;have da:=az eV.o 3;have dQ:=az eV.o 4;have qZ:=bd eV.o;have d4:=hS.o.st.c4;have h7:=hS.o.st.lt;have aiC:=hS.o.st.jo;simp only[cO,cQ,c8] at b' c9 cw da dQ;have o6:Hid (w1.ownsRow N 53 5 nv (D E) (E.flatMap λx=>kW x.1 x.2)):=A (by have:=hS.o.st.aj.row;rwa[lU] at this);have n0:=A hS.o.st.blk;have qU:Hid (((aA w1 (.cells (kW x (bb,D x.I,aQ)).toArray 53)).drew).heap[p]?=some (.cells #[.string S,tv,.int .i64 (s.i:Int),.int .i64 s.bR,nv] 77 (0,0))):=A (hO n0.o _);obtain⟨A7,A8,z_⟩:=eR o6.o rfl;subst z_;go_wp2_with fail;go_region_law(refine tJ _ (by rfl) _ _ _ (by rfl) N 53 i0 _ 5 64 underlying35 fM e' e_ ff rfl J (A7,D E,A8) (D E) (E.flatMap λx=>kW x.1 x.2) (by rfl) (by exact o6.o.alloc _) ⟨w1.heap.size,0,none⟩ 1 1 (kW x (bb,D x.I,aQ)) (by rfl) (by rfl) (j7 (cs:=(kW x (bb,D x.I,aQ)).toArray) (t:=53) (fr:=(0,0)) (hf _ _)) M'.o J (by unfold dc;omega) J (by simp;omega) (w1.heap.size+1) bT ?_;intro g2 fz a6 qa dv e1 bN;have di:=xO qU.o dv (λdY=>mu o6.o n0.o aN dY.symm);have dY:=az di 4;have ag:=cX di 4;have Eh:=bd di;simp only[cO,cQ,c8] at dY;have M_:=A dv;have uQ:=A qa;have hk:=A di;clear di dv qa)
 all_goals
  have dj:=A (O9 hS.o uQ.o M_.o e1 vs.o hk.o aI);clear e1 dY ag b' c9 cw da dQ d4;have y4:=dj.o.1.c4;have ajb:=dj.o.1.lt;have BE:IntKind.i64.wrap ((D E:Int)+1- 1)=(D E:Int):=by rw[Int.add_sub_cancel];exact dI _ J
  generalize(a7 a6 ⟨p,4,none⟩ (.slice (some ⟨g2,0,none⟩) (D E+1) fz))=cp at*;go_wp2;go_returns;exact⟨by show Ending.returned (.int .i64 (D E:Int))=_;rw[wZ.o],_,dj.o.1,dj.o.2⟩
end
def gg (X:B.Src)(S:ByteArray)(f:FuncId)(val:List Nat->af)(plain:B.ak->B.aV):Prop:=
 ∀(N p:Nat) (w:ai) (s:B.ak) (tv nv:af) (E:List (aP×af)),cn N p w X S s tv nv E->plain s≠ .o->aY f #[(p,0)] w (Out N p X S w tv nv E val (plain s))
section
variable{N p:Nat}{w:ai}{X:B.Src}{S:ByteArray}{s:B.ak}{tv nv:af}{E:List (aP×af)}
def Qc{V x u}(hu: ∀b,u.ownBlock=some b->V<=b):iu V [(x,u)]:=λy bx b G=>by
 obtain rfl:y=(x,u):=by simpa using bx
 exact hu b G
def Go.put{wk w2 aW cR ar x u}(h:Go N p X S w tv nv E wk s aW ar)(R:cn N p w2 X S (sU x s) tv cR ((E++ar)++[(x,u)]))(T:gu N p wk aW w2 cR)(hu: ∀b,u.ownBlock=some b->w.heap.size<=b):Go N p X S w tv nv E w2 (sU x s) cR (ar++[(x,u)]):=
 ⟨by rw[<-oH];exact R,h.de.trans T,h.fr.append (Qc hu),h.eK,h.pl⟩
def QE(N:Nat)(w:ai):jC N w (.slice none 0 0) []:=n7 _ _ _ _
def Qd(V): ∀b,(Value.slice none 0 0).ownBlock=some b->V<=b:=λb h=>by cases h
def VS(h:cn N p w X S s tv nv E)(j' at_ I)(u:af)(hu:jC N w u I)(aI:D s.aj<100000):aY 178 #[.pointer (some ⟨p,0,none⟩),.int .i64 j',.int .i64 (at_:Int),u] w (A_ N p X S w tv nv E s ⟨j',at_,0,[],I⟩ u):=by have d_:=A (CY h ⟨j',at_,0,[],I⟩ u hu aI);obtain⟨bb,aQ,Aa⟩:=eR hu rfl;subst Aa;go_in;go_wp2_with fail;refine d_.o.mono ?_;rintro e w1 ⟨rfl,a_⟩;have eV:=A a_;clear a_;go_wp2;go_returns;exact⟨rfl,eV.o⟩
def Q0(X:B.Src)(s):B.name X s≠ .o:=by unfold B.name B.fail;split<;>simp
def WD{c q}(h:B.take X sR s= .bL c q):B.pointer X s= .bL c q:=by simp[B.pointer,h,B.aV.M]
def Wz:gg X S 142 cD (B.pointer X):=by
 intro N p w s tv nv E h aZ;have z:=A (Go.start h);have gH:=A aZ;clear aZ;go_in;have Go:=0;go_wp2;refine(va z.o.st ⟨#[42]⟩).mono ?_;rintro e w1 a_;obtain⟨c,q,au,rfl,G⟩|⟨v,s1,dq,yk,au,rfl,R,T,ah⟩:=a_.parts (ze _ _ _)
 .have ba:Hid (Out N p X S w tv nv E cD (B.pointer X s) (dt c q) w1):=A (z.o.bL G (WD au));clear au;unfold dt;go_wp2;exact⟨rfl,ba.o⟩
 have uP:Hid (B.take X sR s= .ok v s1):=A au;have bQ:=(xT au).1;have hS:=A (z.o.then R T ah);clear au;subst bQ;unfold cD;go_wp2;refine(O3 hS.o.st).mono ?_;rintro e w2 a_;obtain⟨c,q,au,rfl,G⟩|⟨v,s2,cR,h_,au,rfl,R,T,ah⟩:=a_.parts (Q0 _ _)
 .have ba:Hid (Out N p X S w tv nv E cD (B.pointer X s) (dt c q) w2):=A (hS.o.bL G (by simp[B.pointer,uP.o,au,B.aV.M]));clear au;unfold dt;go_wp2;exact⟨rfl,ba.o⟩
 have lr:Hid (B.pointer X s=B.put ⟨4,(B.aM X s).an,0,(B.aM X s1).O,[]⟩ s2):=A (by simp[B.pointer,uP.o,au,B.aV.M]);have fN:=A (hS.o.then R T ah);have mV:=gH.o;rw[lr.o] at mV;have aI:=wq mV;have hI:=A (zm mV);clear au;unfold l1 e2;have jQ:=Gj;go_wp2;refine b7 (CY fN.o.st ⟨4,(B.aM X s).an,0,(B.aM X s1).O,[]⟩ (.slice none 0 0) (QE _ _) aI) λbc⟨n3,R,T⟩=>?_;have ba:Hid (Out N p X S w tv nv E cD (B.pointer X s) (.returned (D s2.aj)) bc):=A ((fN.o.put R T (Qd _)).o (by rw[lr.o,hI.o]) rfl);go_wp2;go_returns;exact ba.o
end
def aeq(E:List (aP×af)):D (E.flatMap λx=>kW x.1 x.2)=D E*5:=by
 induction E with
 |nil=>rfl
 |cons x E cB=>rw[u',dW,cB,iq];simp[kW];omega
def n_{N w g n cap E nv}(h:iJ N w nv E)(z_:nv= .slice (some ⟨g,0,none⟩) n cap){k x}(U:E[k]?=some x):
  aG w ⟨g,k*5,none⟩=some (.int .i64 x.1.j')/\aG w ⟨g,k*5+1,none⟩=some (.int .i64 (x.1.an:Int))/\aG w ⟨g,k*5+2,none⟩=some (.int .i64 x.1.aX)/\aG w ⟨g,k*5+3,none⟩=some (.string (str x.1.O))/\aG w ⟨g,k*5+4,none⟩=some x.2:=by
 subst z_;have au:=h.row;obtain⟨bN,he⟩:=List.getElem?_eq_some_iff.1 U;have ax:n=D E:=by
  obtain⟨aH,_⟩|⟨h5,ka,cur,hu,_⟩:=au.2
  .cases aH
  .cases hu;rfl
 subst ax;have KS:E=E.take k++(x::E.drop (k+1)):=by
  rw[<-he,<-kS bN,xK]
 have hl:D ((E.take k).flatMap λx=>kW x.1 x.2)=k*5:=by rw[aeq,mr];congr 1;omega
 have key: ∀j,j<5->aG w (g,k*5+j)=(kW x.1 x.2)[j]?:=by
  intro j bg;have hc:=au.cellAt (k*5+j) J;have h8:(E.flatMap λx=>kW x.1 x.2)[k*5+j]?=(kW x.1 x.2)[j]?:=by
   have e:(E.flatMap λx=>kW x.1 x.2)=((E.take k).flatMap λx=>kW x.1 x.2)++(kW x.1 x.2++((E.drop (k+1)).flatMap λx=>kW x.1 x.2)):=by
    conv=>lhs;rw[KS]
    rw[xG,u']
   rw[e,rU J,hl,Nat.add_sub_cancel_left,qz (by simp[kW];omega)]
  exact hc.trans h8
 exact⟨key 0 J,key 1 J,key 2 J,key 3 J,key 4 J⟩
def nj{N w g n cap l u}(h:jC N w u l)(hu:u= .slice (some ⟨g,0,none⟩) n cap){k}(U:k<D l):aG w ⟨g,k,none⟩=some (.int .i64 ((Y l k 0:Nat):Int)):=by
 have T:w.ownsRow N 3 1 u (D l) (fh l):=h;subst hu;have ax:n=D l:=by
  obtain⟨aH,_⟩|⟨h5,ka,cur,hu,_⟩:=T.2
  .cases aH
  .cases hu;rfl
 subst ax;have hc:=tH T k J;rw[hc];unfold fh;rw[lW,cE U];simp[U]
def iJ.vf{N w w' nv E}(h:iJ N w nv E)(G:aL w w w'):iJ N w' nv E:=
 ⟨fZ h.row G λj bg=>(eI h.row j bg).2,λx aF=>fZ (h.I x aF) G λj bg=>(eI (h.I x aF) j bg).2⟩
def wu{w:ai}{b e s8 n:Nat}{v:af}{xs}(h:w.ownsRow b e s8 v n xs):n<=dc:=by
 obtain⟨_,rfl⟩|⟨_,_,_,_,_,_,R,T,_⟩:=h.2
 .exact gp _
 .omega
section
variable{N p q:Nat}{w0 wk w2:ai}{X:B.Src}{S:ByteArray}{s s2:B.ak}{tv nv aW cR:af}{E ar h_:List (aP×af)}{c:Array af}{t:TypeId}
structure eM (w0 wk:ai)(aW:af)(q:Nat)(c:Array af)(t:TypeId):Prop where
 blk:wk.heap[q]?=some (.cells c t (0,0))
 dV:w0.heap.size<=q
 ne:aW.ownBlock≠some q
def eM.lt(h:eM w0 wk aW q c t):q<wk.heap.size:=bd h.blk
def eM.de(h:eM w0 wk aW q c t)(aJ:p<w0.heap.size)(m:gu N p wk aW w2 cR):eM w0 w2 cR q c t:=
 ⟨(m.gP q h.lt (by have:=h.dV;omega) h.ne).trans h.blk,h.dV,λe=>(m.row q e).elim h.ne (λT=>by have:=h.lt;omega)⟩
def eM.new(bF:Go N p X S w0 tv nv E wk s aW ar)(c:Array af)(t:TypeId):eM w0 (aA wk (.cells c t)) aW wk.heap.size c t:=
 ⟨ek _ _,bF.size,λe=>by have:=(bF.st.aj.row.lt _ e).2;omega⟩
def eM.below(h:eM w0 wk aW q c t)(G:aL wk wk w2):eM w0 w2 aW q c t:=⟨ds h.blk G h.lt,h.dV,h.ne⟩
def eM.drew(h:eM w0 wk aW q c t):eM w0 wk.drew aW q c t:=h.below (aT _ _).drew
def eM.alloc(h:eM w0 wk aW q c t)(o:Obj):eM w0 (aA wk o) aW q c t:=h.below ((aT _ _).alloc (bD _) o)
def eM.set(h:eM w0 wk aW q c t)(i:Nat)(u):eM w0 (a7 wk (q,i) u) aW q (c.setIfInBounds i u) t:=⟨et h.blk i u,h.dV,h.ne⟩
def eM.Au(h:eM w0 wk aW q c t){k}(U:q≠k)(i u):eM w0 (a7 wk ⟨k,i,none⟩ u) aW q c t:=⟨fK h.blk U i u,h.dV,h.ne⟩
def eM.rC(h:eM w0 wk aW q c t)(aJ:p<w0.heap.size)(i u):eM w0 (a7 wk ⟨p,i,none⟩ u) aW q c t:=h.Au (by have:=h.dV;omega) i u
def eM.cell(h:eM w0 wk aW q c t)(i):aG wk ⟨q,i,none⟩=c[i]?:=az h.blk i
def eM.free(h:eM w0 wk aW q c t)(i):wk.frozen? ⟨q,i,none⟩=false:=cX h.blk i
def eM.go(h:eM w0 wk aW q c t)(bF:Go N p X S w0 tv nv E wk s aW ar)(bI:3≠t)(i u):Go N p X S w0 tv nv E (a7 wk ⟨q,i,none⟩ u) s aW ar:=bF.box h.dV h.blk h.ne bI i u
def Go.jW(h:Go N p X S w0 tv nv E wk s aW ar):Go N p X S w0 tv nv E wk.drew s aW ar:=h.new (aT _ _).drew
def Go.R8(h:Go N p X S w0 tv nv E wk s aW ar): ∀k,aW.ownBlock=some k->k<wk.heap.size:=λk U=>(h.st.aj.row.lt k U).2
structure cI (N:Nat)(w0 wk:ai)(F:List (aP×af))(u:af)(l:List Nat):Prop where
 row:jC N wk u l
 dV: ∀b,u.ownBlock=some b->w0.heap.size<=b
 ap:ae9 F u
def cI.nil(N:Nat)(w0 wk:ai)(F:List (aP×af)):cI N w0 wk F (.slice none 0 0) []:=⟨QE _ _,Qd _,λ_ _ _ _ h=>by cases h⟩
def cI.below{F u l}(h:cI N w0 wk F u l)(G:aL wk wk w2):cI N w0 w2 F u l:=⟨fZ h.row G (λk U=>(h.row.lt k U).2),h.dV,h.ap⟩
def cI.drew{F u l}(h:cI N w0 wk F u l):cI N w0 wk.drew F u l:=h.below (aT _ _).drew
def cI.alloc{F u l}(h:cI N w0 wk F u l)(o:Obj):cI N w0 (aA wk o) F u l:=h.below ((aT _ _).alloc (bD _) o)
def cI.set{F:List (aP×af)}{u:af}{l:List Nat}{k:Nat}(h:cI N w0 wk F u l)(U:wk.heap[k]?=some (.cells c t (0,0)))(bI:3≠t)(i:Nat)(x:af):cI N w0 (a7 wk (k,i) x) F u l:=⟨eZ h.row U bI,h.dV,h.ap⟩
def cI.de{u l}(h:cI N w0 wk (E++ar) u l)(bF:Go N p X S w0 tv nv E wk s aW ar)(m:gu N p wk aW w2 cR)(bZ:iu wk.heap.size h_):cI N w0 w2 (E++(ar++h_)) u l:=by
 refine⟨nk h.row (λk U=>m.gP k (h.row.lt k U).2 (λe=>?_) (r0 h.row bF.st.aj.row aN U)),h.dV,?_⟩
 .subst e;exact mu h.row bF.st.blk aN U
 .rw[<-oH];intro x aF b G e;obtain aF|aF:=List.mem_append.1 aF
  .exact h.ap x aF b G e
  .have R:=bZ x aF b G;have T:=(h.row.lt b e).2;omega
def OG(l): ∀x∈fh l,x.oneCell'=true:=by intro x aF;obtain⟨k,_,rfl⟩:=List.mem_map.1 aF;rfl
def cI.new(bF:Go N p X S w0 tv nv E wk s aW ar)(l:List Nat)(hl:D l<=1000):cI N w0 (aA wk (.cells (fh l).toArray 3)) (E++ar) (wk,D l,D l) l:=by
 refine⟨⟨by simp[fh],.inr ⟨wk.heap.size,D l,(fh l).toArray,rfl,bF.st.jo,ek _ _,bD _,by unfold dc;omega,by simp[fh],?_⟩⟩,λb G=>by cases G;exact bF.size,λx aF b G e=>?_⟩
 .simp[fh,u7]
 .obtain rfl:wk.heap.size=b:=by simpa[tA] using e
  have:=((bF.st.aj.I x aF).lt _ G).2;omega
def cI.grown{u l l2 a6 o g2 m fz}(h:cI N w0 wk (E++ar) u l)(bF:Go N p X S w0 tv nv E wk s aW ar)(fF:a6.ownsRow N 3 1 (.slice (some ⟨g2,0,none⟩) (D l+m) fz) (D l+m) (fh l++fh l2))(hm:D l2=m)(dv:(aA wk o).grownBy a6 u.ownBlock)
 (e1:u.ownBlock=some g2\/g2=wk.heap.size+1):Go N p X S w0 tv nv E a6 s aW ar/\cI N w0 a6 (E++ar) (.slice (some ⟨g2,0,none⟩) (D l+m) fz) (l++l2)/\(∀k,k<wk.heap.size->u.ownBlock≠some k->a6.heap[k]?=wk.heap[k]?):=by
 have U: ∀k,k<wk.heap.size->u.ownBlock≠some k->a6.heap[k]?=wk.heap[k]?:=λk R T=>(dv.block k (by simp;omega) (λe=>T e.symm)).trans (Below.heap_alloc _ _ _ R);have dD:=bF.st;have hs:=bF.size;have bN: ∀k,u.ownBlock=some k->k<wk.heap.size:=λk ei=>(h.row.lt k ei).2;have vL:u.ownBlock≠some p:=λe=>mu h.row dD.blk aN e;have di:aL N wk a6:=Below.grown ((aT N wk).alloc dD.jo o) dv (by simp;have:=dD.jo;omega) (λk ei=>(h.row.lt k ei).1);have Az:Go N p X S w0 tv nv E a6 s aW ar:=by
  refine⟨{dD with
    blk:=(U p (bd dD.blk) vL).trans dD.blk
    bu:=nk dD.bu (λk ei=>U k (dD.bu.lt k ei).2 (λe=>r0 dD.bu h.row aN ei e))
    aj:=⟨nk dD.aj.row (λk ei=>U k (dD.aj.row.lt k ei).2 (λe=>r0 dD.aj.row h.row aN ei e)),λx aF=>nk (dD.aj.I x aF) (λk ei=>U k ((dD.aj.I x aF).lt k ei).2 (h.ap x aF k ei))⟩},
   ⟨bF.de.below.trans di,λk R T ah=>(U k J (λe=>?_)).trans (bF.de.gP k R T ah),bF.de.row⟩,bF.fr,bF.eK,bF.pl⟩
  have:=h.dV k e;omega
 refine⟨Az,⟨?_,λb G=>?_,λx aF b G e=>?_⟩,U⟩
 .have:fh (l++l2)=fh l++fh l2:=rX;show a6.ownsRow N 3 1 _ (D (l++l2)) (fh (l++l2));rw[this,dW,hm];exact fF
 .obtain rfl:g2=b:=by simpa[tA] using G
  obtain e|e:=e1
  .exact h.dV _ e
  .omega
 .obtain rfl:g2=b:=by simpa[tA] using e
  obtain e|e:=e1
  .exact h.ap x aF _ G e
  .have:=((dD.aj.I x aF).lt _ G).2;omega
end
def qb (w:ai)(v:af)(l:List ByteArray):Prop:= ∃g cap,v= .slice (some ⟨g,0,none⟩) (D l) cap/\g<w.heap.size/\D l<=100/\ ∀k,k<D l->aG w ⟨g,k,none⟩=some (.string (Y l k ke))
def qb.below{w w' v l}(h:qb w v l)(G:aL w w w'):qb w' v l:=by obtain⟨g,cap,rfl,R,T,ah⟩:=h;exact⟨g,cap,rfl,kv R G.size,T,λk U=>(G.cell (p:=⟨g,k,none⟩) R).trans (ah k U)⟩
def adJ{l}{p:ByteArray->Bool}{k}(U:k<D l)(h:p (Y l k ke)=true):l.any p=true:=by rw[cd,cE U] at h;exact List.any_eq_true.2 ⟨l[k],im U,h⟩
def acA{l}{p:ByteArray->Bool}{k}(U:k<D l)(aH:(l.take k).any p=false)(h:p (Y l k ke)=false):(l.take (k+1)).any p=false:=by rw[cd,cE U] at h;rw[List.take_succ_eq_append_getElem U,List.any_append,aH];simpa using h
def any_none{l:List ByteArray}{p:ByteArray->Bool}(h:(l.take (D l)).any p=false):l.any p=false:=by rwa[mM] at h
section
variable{N p:Nat}{w:ai}{X:B.Src}{S:ByteArray}{s:B.ak}{tv nv:af}{E:List (aP×af)}
def Ku (any:Bool)(w:ai)(e:e7)(w':ai):Prop:=(∃n:Int,e= .returned n/\decide (0<=n)=any)/\aL w w w'
def acB(h:cn N p w X S s tv nv E)(v:af)(l:List ByteArray)(hl:qb w v l):
  aY 214 #[v,.func (.func 101) #[(p,0)] #[]] w (Ku (l.any λx=>B.bw X s (aC x)) w):=by
 obtain⟨g,cap,rfl,aB,c6,GQ⟩:=hl;have ae3:=A GQ;have cC:=A h;clear GQ h;go_in;go_wp2;go_loopw[8] (λi wr=>Hid (aL w w wr)/\ ∃k:Nat,k<=D l/\i= k/\Hid ((l.take k).any (λx=>B.bw X s (aC x))=false)) (λi _=>D l-(intOf i).toNat)
 case atStart=>exact⟨A (aT _ _),0,by omega,rfl,A bT⟩
 case round=>
  obtain⟨x3,k,U,rfl,yQ⟩:=hrel;by_cases l8:k<D l
  .have bE:=(x3.o.cell (p:=⟨g,k,none⟩) aB).trans (ae3.o k l8);have ft:g<wr.heap.size:=kv aB x3.o.size;have hit:=A (λh:B.bw X s (aC (Y l k ke))=true=>adJ (p:=λx=>B.bw X s (aC x)) l8 h);have DG:=A (λh:B.bw X s (aC (Y l k ke))=false=>acA (p:=λx=>B.bw X s (aC x)) l8 yQ.o h);generalize Y l k ke=x at*;have⟨b1,b2⟩:(0:Int)<=k/\(k:Int)<D l:=J;cases aJ:B.bw X s (aC x) with
   |true=>
    have hJ:=A (hit.o aJ);have cV:=A (lX (cC.o.below x3.o) x true (A aJ));clear aJ;go_wp2_with(refine cV.o.mono ?_;rintro e bm ⟨rfl,dh⟩;have dn:=A dh;clear dh)
    go_returns;exact⟨⟨k,rfl,by rw[hJ.o];simp⟩,x3.o.trans (dn.o.mono x3.o.size)⟩
   |false=>
    have hJ:=A (DG.o aJ);have cV:=A (lX (cC.o.below x3.o) x false (A aJ));clear aJ;go_wp2_with(refine cV.o.mono ?_;rintro e bm ⟨rfl,dh⟩;have dn:=A dh;clear dh)
    go_roundw
    case rel=>exact⟨A (x3.o.trans (dn.o.mono x3.o.size)),k+1,by omega,by go_num,hJ⟩
    case measure=>simp[intOf];omega
  .obtain rfl:k=D l:=J;have hJ:=A (any_none yQ.o);go_wp2;go_returns;exact⟨⟨-1,rfl,by rw[hJ.o];rfl⟩,x3.o⟩
def W3(h:cn N p w X S s tv nv E)(v:af)(l:List ByteArray)(hl:qb w v l):
  aY 189 #[v,.func (.func 101) #[(p,0)] #[]] w λe w'=>e= .returned (.bool (l.any λx=>B.bw X s (aC x)))/\aL w w w':=by
 have dA:=A (acB h v l hl);obtain⟨g,cap,rfl,_,_,_⟩:=hl;go_in;go_wp2_with(go_at_call 214;refine dA.o.mono ?_;rintro e bm ⟨⟨n,rfl,ax⟩,dh⟩;have dn:=A dh;have DP:=A ax;clear dh ax)
 go_returns;rw[<-DP.o];exact⟨by simp,dn.o⟩
def P6(h:cn N p w X S s tv nv E)(v:af)(l:List ByteArray)(hl:qb w v l):
  aY 177 #[(p,0),v] w λe w'=>e= .returned (.bool (l.any λx=>B.bw X s (aC x)))/\aL w w w':=by have dA:=A (W3 h v l hl);obtain⟨g,cap,rfl,_,_,_⟩:=hl;go_in;go_wp2_with fail;refine dA.o.mono ?_;rintro e bm ⟨rfl,dh⟩;have dn:=A dh;clear dh;go_wp2;go_returns;exact⟨rfl,dn.o⟩
def qb.new(w:ai)(l:List ByteArray)(hl:D l<=100)(t:TypeId):qb (aA w (.cells (l.map mm).toArray t)) (w,D l,D l) l:=by refine⟨_,_,rfl,by simp,hl,λk U=>?_⟩;rw[az (ek _ _) k];simp[U,cd]
def GR:ByteArray:=⟨#[105,110,116]⟩
def Kj:ByteArray:=⟨#[98,111,111,108]⟩
def Kk:ByteArray:=⟨#[99,104,97,110]⟩
def Kl:ByteArray:=⟨#[102,117,110,99]⟩
def Km:ByteArray:=⟨#[42]⟩
def VA (h:cn N p w X S s tv nv E) (b:Bool) (jP:Hid (B.l0 X s=b)):
  Calls prog 146 #[.pointer (some ⟨p,0,none⟩)] w λe w'=>e= .returned (.bool b)/\aL w.heap.size w w':=by
 obtain⟨c,hc⟩: ∃c,nw X s [wH,wz,qI,oR,sR]=c:=⟨_,rfl⟩;have bh:Hid (b=(c||(B.aM X s).j'==1)):=A (by rw[<-jP.o];unfold B.l0 B.hZ;rw[hc]);have d_:=A (P6 (h.below ((aT w.heap.size w).alloc (bD _) (.cells #[.string GR,.string Kj,.string Kk,.string Kl,.string Km] 9))) (.slice (some ⟨w.heap.size,0,none⟩) 5 5) [GR,Kj,Kk,Kl,Km] (qb.new w [GR,Kj,Kk,Kl,Km] (by decide) 9));have cV:Hid (([GR,Kj,Kk,Kl,Km].any λx=>B.bw X s (aC x))=c):=A (by rw[<-hc];rfl);rw[cV.o] at d_;have cC:=A h;clear h hc cV jP
 cases c with
 |true=>
  go_enter func146,ntmps146;have Go:=0
  go_wp2
  refine d_.o.mono ?_;rintro e w1 ⟨rfl,G⟩;have c1:=A (((aT w.heap.size w).alloc (bD _) _).trans (G.mono (by simp)));clear G;go_wp2
  go_returns
  exact⟨by rw[bh.o];rfl,c1.o⟩
 |false=>
  go_enter func146,ntmps146;have Go:=0
  go_wp2
  refine d_.o.mono ?_;rintro e w1 ⟨rfl,G⟩;have c1:=A (((aT w.heap.size w).alloc (bD _) _).trans (G.mono (by simp)));clear G;go_wp2
  refine(zb (cC.o.below c1.o)).mono ?_;rintro e w2 ⟨rfl,G⟩;have cN:=A (c1.o.trans (G.mono c1.o.size));clear G;unfold l1 e2;have aiZ:=JV;generalize B.aM X s=t at*;go_wp2
  go_returns
  exact⟨by rw[bh.o];rfl,cN.o⟩
end
def jM (N p:Nat)(X:B.Src)(S:ByteArray)(w:ai)(tv nv:af)(E:List (aP×af))(r:B.aV)(e:e7)(w':ai):Prop:=
 match r with
 | .o=>True
 | .bL c q=>e=dt c q/\aL N w w'
 | .ok v s'=> ∃u gL ar,e= .returned u/\cn N p w' X S s' tv gL (E++ar)/\gu N p w nv w' gL/\iu w.heap.size ar/\cI N w w' (E++ar) u v/\D v<=1000000
section
variable{N p:Nat}{w wk w2:ai}{X:B.Src}{S:ByteArray}{s bf:B.ak}{tv nv aW:af}{E ar:List (aP×af)}
def jM.parts{r e w'}(h:jM N p X S w tv nv E r e w')(aZ:r≠ .o):
  (∃c q,r= .bL c q/\e=dt c q/\aL N w w')\/(∃v s' u gL ar,r= .ok v s'/\e= .returned u/\cn N p w' X S s' tv gL (E++ar)/\gu N p w nv w' gL/\iu w.heap.size ar/\cI N w w' (E++ar) u v/\D v<=1000000):=by
 cases r with
 |o=>exact absurd rfl aZ
 |bL c q=>exact .inl ⟨c,q,rfl,h.1,h.2⟩
 |ok v s'=>
  obtain⟨u,gL,ar,R,T,ah,bJ,dH⟩:=h;exact .inr ⟨v,s',u,gL,ar,rfl,R,T,ah,bJ,dH⟩
def Go.s3{c q r}(h:Go N p X S w tv nv E wk bf aW ar)(G:aL N wk w2)(au:r= .bL c q):jM N p X S w tv nv E r (dt c q) w2:=by subst au;exact⟨rfl,h.de.below.trans G⟩
def Go.DJ{v u r}(h:Go N p X S w tv nv E wk bf aW ar)(U:cI N w wk (E++ar) u v)(hl:D v<=1000000)(au:r= .ok v bf):jM N p X S w tv nv E r (.returned u) wk:=by subst au;exact⟨u,aW,ar,rfl,h.st,h.de,h.fr,U,hl⟩
def JP(X:B.Src)(x:List UInt8)(s):B.enter X x s≠ .o:=by
 unfold B.enter B.fail B.take B.fail;split
 .simp
 .split<;>simp[B.aV.M]
def PN(X:B.Src)(x:List UInt8)(s):B.dU X x s≠ .o:=by unfold B.dU B.take B.fail;split<;>simp[B.aV.M]
def ki (X:B.Src)(x:List UInt8)(lp:Nat->List Nat->B.ak->B.aV)(m:Nat)(d':List Nat)(s:B.ak):B.aV:=if B.bw X s x=true then .ok d' s else lp m d' s
def jc (X:B.Src)(x:List UInt8)(l:List Nat)(s:B.ak):B.aV:=(B.dU X x s).M λ_ aq=> .ok l aq
def OU(n:Nat)(ax:n<=1000000)(hx:FuncId)(hc: ∀args w,(callFunc hx args).run prog w= .ok (.enter hx args) w)(lp:Nat->List Nat->B.ak->B.aV)(one:Nat->B.ak->B.aV)
 (aH: ∀a s,lp 0 a s= .o)(hs: ∀m a s,lp (m+1) a s=B.l3 X (one m) (lp m) a s)(zA: ∀m s,B.bn (one m s))(k4: ∀m s,dr (one m s) s.bR)(j1: ∀m,m<n->gg X S hx cD (one m))
 (h:cn N p w X S s tv nv E)(aZ:B.list X (lp n []) s≠ .o):
  aY 144 #[(p,0),.func (.func hx) #[(p,0)] #[]] w (jM N p X S w tv nv E (B.list X (lp n []) s)):=by
 have z:=A (Go.start h);have gH:=A aZ;have jR:=A aH;have dX:=A hs;have DK:=A zA;have AA:=A k4;have o9:=A j1;have lz:=h.d0;clear aZ aH hs zA k4 j1;go_in;go_wp2_with fail;refine(F4 z.o.st ⟨#[40]⟩).mono ?_;rintro e w1 a_;obtain⟨c,q,au,rfl,G⟩|⟨v,s1,dq,yk,au,rfl,R,T,ah⟩:=a_.parts (JP _ _ _)
 .have ba:Hid (jM N p X S w tv nv E (B.list X (lp n []) s) (dt c q) w1):=A (z.o.s3 G (by have h6:B.enter X gK s= .bL c q:=au;simp[B.list,h6,B.aV.M]));clear G;unfold dt;go_wp2;exact⟨rfl,ba.o⟩
 have h6:B.enter X gK s= .ok v s1:=au;have Dl:s1.bR=s.bR+1:=dr.enter X _ s v s1 h6;have jJ:Hid (B.list X (lp n []) s=(lp n [] s1).M (jc X eW)):=A (by simp only[B.list,h6,B.aV.M];rfl);have uu:n≠0:=by rintro rfl;exact gH.o (by rw[jJ.o,jR.o];rfl)
 have ic:Hid (B.list X (lp n []) s=(ki X eW lp n [] s1).M (jc X eW)):=A (by
  rw[jJ.o];unfold ki;obtain⟨m,rfl⟩: ∃m,n=m+1:=⟨n- 1,by omega⟩;split
  .rename_i G;rw[dX.o,B.l3,aS G]
  .rfl)
 replace z:=A (z.o.then R T ah);have qZ:=z.o.st.lt;have c1:=z;unfold cD;go_wp2_with fail;go_loopg[5] n (λm u wr=> ∃(d':List Nat) (bf:B.ak) (aW:af) (ar:List (aP×af)),Hid (Go N p X S w tv nv E wr bf aW ar)/\Hid (cI N w wr (E++ar) u d')/\D d'+m=n/\Hid (bf.bR=s.bR+1)/\Hid (B.list X (lp n []) s=(ki X eW lp m d' bf).M (jc X eW)))
 case atStart=>exact⟨[],s1,dq,_,z,A (cI.nil _ _ _ _),by simp,A Dl,ic⟩
 case round=>
  clear z;obtain⟨d',bf,aW,ar,z,bK,rz,yN,ic⟩:=hrel;cases G:B.bw X bf eW with
  |true=>
   have dA:=A (lX z.o.st ⟨#[41]⟩ true (A G));have mG:Hid (B.list X (lp n []) s=jc X eW d' bf):=A (by rw[ic.o];unfold ki;rw[aS G];rfl);clear G;go_wp2_with fail;refine dA.o.mono ?_;rintro e w2 ⟨rfl,G⟩;replace bK:=A (bK.o.below G);replace z:=A (z.o.new G);clear G;go_wp2_with fail;refine(Jk z.o.st ⟨#[41]⟩ (by rw[yN.o];omega)).mono ?_;rintro e bc a_;obtain⟨c,q,au,rfl,G⟩|⟨v,aq,n3,zT,au,rfl,R,T,ah⟩:=a_.parts (PN _ _ _)
   .have ba:Hid (jM N p X S w tv nv E (B.list X (lp n []) s) (dt c q) bc):=A (z.o.s3 G (by have h6:B.dU X eW bf= .bL c q:=au;rw[mG.o];unfold jc;rw[h6];rfl));clear G;unfold dt;go_wp2;exact⟨rfl,ba.o⟩
   .have ba:Hid (jM N p X S w tv nv E (B.list X (lp n []) s) (.returned u5) bc):=A ((z.o.then R T ah).DJ (bK.o.de z.o T ah) J (by have h6:B.dU X eW bf= .ok v aq:=au;rw[mG.o];unfold jc;rw[h6];rfl));unfold lk;go_wp2;go_returns;exact ba.o
  |false=>
   have dA:=A (lX z.o.st ⟨#[41]⟩ false (A G));obtain⟨m,rfl⟩: ∃m,gk=m+1:=by
    cases gk with
    |zero=>exact absurd (by rw[ic.o];unfold ki;rw[G,jR.o];rfl) gH.o
    |succ m=>exact⟨m,rfl⟩
   have c0:Hid (B.list X (lp n []) s=((one m bf).M λk s1=>if B.bw X s1 eW=true then .ok (d'++k) s1 else(B.take X tV s1).M λ_ s2=>if B.bw X s2 eW=true then B.fail X 3 s2 else lp m (d'++k) s2).M (jc X eW)):=A (by rw[ic.o];unfold ki;rw[G,dX.o,B.l3,G];rfl);have gr:m<n:=J;clear G;go_wp2_with fail;refine dA.o.mono ?_;rintro e w2 ⟨rfl,G⟩;replace bK:=A (bK.o.below G);replace z:=A (z.o.new G);clear G;have cV:=A (o9.o m gr _ _ _ _ _ _ _ z.o.st (λe=>gH.o (by rw[c0.o,e];rfl)));go_wp2_with fail;refine cV.o.mono ?_;rintro e bc a_;rcases a_.parts (λe=>gH.o (by rw[c0.o,e];rfl)) with⟨c,q,au,rfl,G⟩|⟨v,aq,n3,zT,au,rfl,R,T,ah⟩
   .have ba:Hid (jM N p X S w tv nv E (B.list X (lp n []) s) (dt c q) bc):=A (z.o.s3 G (by rw[c0.o,au];rfl));clear G;unfold dt;go_wp2;exact⟨rfl,ba.o⟩
   obtain⟨a,rfl⟩:=DK.o m bf v aq au;have zB:Hid (aq.bR=s.bR+1):=A ((AA.o m bf _ _ au).trans yN.o);replace c0:Hid (B.list X (lp n []) s=(if B.bw X aq eW=true then .ok (d'++[a]) aq else(B.take X tV aq).M λ_ s2=>if B.bw X s2 eW=true then B.fail X 3 s2 else lp m (d'++[a]) s2).M (jc X eW)):=A (by rw[c0.o,au];rfl);replace bK:=A (bK.o.de z.o T ah);replace z:=A (z.o.then R T ah);unfold cD;obtain⟨i0,fM,e',e_,ff⟩:=kT r1;have vq:=A (bK.o.alloc (aw #[a] 3)).row;have DB:=z.o.st.jo;go_wp2_with(at_builtin;refine tI _ rfl _ _ _ rfl N 3 i0 _ 1 8 rN fM e' e_ ff rfl J u5 (D d') (fh d') rfl vq.o ⟨bc.heap.size,0,none⟩ 1 1 [a] rfl rfl (j7 (cs:= #[a]) (t:=3) (fr:=(0,0)) (hf _ _)) (by intro x aF;simp at aF;subst aF;rfl) J (by unfold dc;omega) J (by simp;omega) (bc.heap.size+1) bT ?_;intro g2 fz a6 fF dv e1 bN;obtain⟨gl,qp,_⟩:=bK.o.grown (l2:=[a]) z.o fF rfl dv e1;replace z:=A gl;replace bK:=A qp;clear gl qp)
   cases G:B.bw X aq eW with
   |true=>
    have dA:=A (lX z.o.st ⟨#[41]⟩ true (A G));replace c0:Hid (B.list X (lp n []) s=(ki X eW lp m (d'++[a]) aq).M (jc X eW)):=A (by rw[c0.o];unfold ki;rw[G];rfl);clear G;refine dA.o.mono ?_;rintro e cp ⟨rfl,G⟩;replace bK:=A (bK.o.below G);replace z:=A (z.o.new G);clear G;go_wp2;go_roundg m
    case rel=>exact⟨d'++[a],aq,n3,_,z,bK,by simp;omega,zB,c0⟩
    case measure=>omega
   |false=>
    have dA:=A (lX z.o.st ⟨#[41]⟩ false (A G));replace c0:Hid (B.list X (lp n []) s=((B.take X tV aq).M λ_ s2=>if B.bw X s2 eW=true then B.fail X 3 s2 else lp m (d'++[a]) s2).M (jc X eW)):=A (by rw[c0.o];rw[G];rfl);clear G;refine dA.o.mono ?_;rintro e cp ⟨rfl,G⟩;replace bK:=A (bK.o.below G);replace z:=A (z.o.new G);clear G;go_wp2_with fail;refine(va z.o.st ⟨#[44]⟩).mono ?_;rintro e gF a_;obtain⟨c,q,au,rfl,G⟩|⟨v,bA,n4,Dt,au,rfl,R,T,ah⟩:=a_.parts (ze _ _ _)
    .have ba:Hid (jM N p X S w tv nv E (B.list X (lp n []) s) (dt c q) gF):=A (z.o.s3 G (by have h6:B.take X tV aq= .bL c q:=au;rw[c0.o,h6];rfl));clear G;unfold dt;go_wp2;exact⟨rfl,ba.o⟩
    have DC:Hid (bA.bR=s.bR+1):=A ((dr.take X _ aq _ _ au).trans zB.o);replace c0:Hid (B.list X (lp n []) s=(if B.bw X bA eW=true then B.fail X 3 bA else lp m (d'++[a]) bA).M (jc X eW)):=A (by have h6:B.take X tV aq= .ok v bA:=au;rw[c0.o,h6];rfl);replace bK:=A (bK.o.de z.o T ah);replace z:=A (z.o.then R T ah);unfold cD;cases G:B.bw X bA eW with
    |true=>
     have dA:=A (lX z.o.st ⟨#[41]⟩ true (A G));replace c0:Hid (B.list X (lp n []) s= .bL 3 (B.aM X bA).an):=A (by rw[c0.o,G];rfl);clear G;go_wp2_with fail;refine dA.o.mono ?_;rintro e iP ⟨rfl,G⟩;replace z:=A (z.o.new G);clear G;go_wp2_with fail;refine b7 (CV z.o.st 3) λkp b8=>?_;have ba:Hid (jM N p X S w tv nv E (B.list X (lp n []) s) (dt 3 (B.aM X bA).an) kp):=A (z.o.s3 (b8.mono z.o.st.jo) c0.o);unfold dt;go_wp2;exact⟨rfl,ba.o⟩
    |false=>
     have dA:=A (lX z.o.st ⟨#[41]⟩ false (A G));replace c0:Hid (B.list X (lp n []) s=(ki X eW lp m (d'++[a]) bA).M (jc X eW)):=A (by rw[c0.o];unfold ki;rw[G];rfl);clear G;go_wp2_with fail;refine dA.o.mono ?_;rintro e iP ⟨rfl,G⟩;replace bK:=A (bK.o.below G);replace z:=A (z.o.new G);clear G;go_wp2;go_roundg m
     case rel=>exact⟨d'++[a],bA,n4,_,z,bK,by simp;omega,DC,c0⟩
     case measure=>omega
end
section
variable{N p:Nat}{w wk w2:ai}{X:B.Src}{S:ByteArray}{s bf:B.ak}{tv nv aW:af}{E ar:List (aP×af)}
def eM.same{w0 q c t}(h:eM w0 wk aW q c t)(e:w2.heap[q]?=wk.heap[q]?):eM w0 w2 aW q c t:=⟨e.trans h.blk,h.dV,h.ne⟩
def VF(n:Nat)(ax:n<=1000000)(hx:FuncId)(hc: ∀args w,(callFunc hx args).run prog w= .ok (.enter hx args) w)(lp:Nat->List Nat->B.ak->B.aV)(one:Nat->B.ak->B.aV)
 (aH: ∀a s,lp 0 a s= .o)(hs: ∀m a s,lp (m+1) a s=B.kh X (one m) (lp m) a s)(zA: ∀m s,B.bn (one m s))(k4: ∀m s,dr (one m s) s.bR)(j1: ∀m,m<n->gg X S hx cD (one m))
 (h:cn N p w X S s tv nv E)(aZ:B.items X (lp n []) s≠ .o):
  aY 138 #[(p,0),.func (.func hx) #[(p,0)] #[]] w (jM N p X S w tv nv E (B.items X (lp n []) s)):=by
 have z:=A (Go.start h);have gH:=A aZ;have jR:=A aH;have dX:=A hs;have DK:=A zA;have AA:=A k4;have o9:=A j1;have lz:=h.d0;clear aZ aH hs zA k4 j1;go_in;go_wp2_with fail;refine(F4 z.o.st ⟨#[123]⟩).mono ?_;rintro e w1 a_;obtain⟨c,q,au,rfl,G⟩|⟨v,s1,dq,yk,au,rfl,R,T,ah⟩:=a_.parts (JP _ _ _)
 .have ba:Hid (jM N p X S w tv nv E (B.items X (lp n []) s) (dt c q) w1):=A (z.o.s3 G (by have h6:B.enter X qM s= .bL c q:=au;simp[B.items,h6,B.aV.M]));clear G;unfold dt;go_wp2;exact⟨rfl,ba.o⟩
 have h6:B.enter X qM s= .ok v s1:=au;have Dl:s1.bR=s.bR+1:=dr.enter X _ s v s1 h6;have jJ:Hid (B.items X (lp n []) s=(lp n [] s1).M (jc X dm)):=A (by simp only[B.items,h6,B.aV.M];rfl);have uu:n≠0:=by rintro rfl;exact gH.o (by rw[jJ.o,jR.o];rfl)
 have ic:Hid (B.items X (lp n []) s=(ki X dm lp n [] s1).M (jc X dm)):=A (by
  rw[jJ.o];unfold ki;obtain⟨m,rfl⟩: ∃m,n=m+1:=⟨n- 1,by omega⟩;split
  .rename_i G;rw[dX.o,B.kh,aS G]
  .rfl)
 replace z:=A (z.o.then R T ah);have qZ:=z.o.st.lt;have c1:=z;unfold cD;go_wp2_with fail;go_loopg[5] n (λm u wr=> ∃(d':List Nat) (bf:B.ak) (aW:af) (ar:List (aP×af)),Hid (Go N p X S w tv nv E wr bf aW ar)/\Hid (cI N w wr (E++ar) u d')/\D d'+m=n/\Hid (bf.bR=s.bR+1)/\Hid (B.items X (lp n []) s=(ki X dm lp m d' bf).M (jc X dm)))
 case atStart=>exact⟨[],s1,dq,_,z,A (cI.nil _ _ _ _),by simp,A Dl,ic⟩
 case round=>
  clear z;obtain⟨d',bf,aW,ar,z,bK,rz,yN,ic⟩:=hrel;cases G:B.bw X bf dm with
  |true=>
   have dA:=A (lX z.o.st ⟨#[125]⟩ true (A G));have mG:Hid (B.items X (lp n []) s=jc X dm d' bf):=A (by rw[ic.o];unfold ki;rw[aS G];rfl);clear G;go_wp2_with fail;refine dA.o.mono ?_;rintro e w2 ⟨rfl,G⟩;replace bK:=A (bK.o.below G);replace z:=A (z.o.new G);clear G;go_wp2_with fail;refine(Jk z.o.st ⟨#[125]⟩ (by rw[yN.o];omega)).mono ?_;rintro e bc a_;obtain⟨c,q,au,rfl,G⟩|⟨v,aq,n3,zT,au,rfl,R,T,ah⟩:=a_.parts (PN _ _ _)
   .have ba:Hid (jM N p X S w tv nv E (B.items X (lp n []) s) (dt c q) bc):=A (z.o.s3 G (by have h6:B.dU X dm bf= .bL c q:=au;rw[mG.o];unfold jc;rw[h6];rfl));clear G;unfold dt;go_wp2;exact⟨rfl,ba.o⟩
   .have ba:Hid (jM N p X S w tv nv E (B.items X (lp n []) s) (.returned u5) bc):=A ((z.o.then R T ah).DJ (bK.o.de z.o T ah) J (by have h6:B.dU X dm bf= .ok v aq:=au;rw[mG.o];unfold jc;rw[h6];rfl));unfold lk;go_wp2;go_returns;exact ba.o
  |false=>
   have dA:=A (lX z.o.st ⟨#[125]⟩ false (A G));obtain⟨m,rfl⟩: ∃m,gk=m+1:=by
    cases gk with
    |zero=>exact absurd (by rw[ic.o];unfold ki;rw[G,jR.o];rfl) gH.o
    |succ m=>exact⟨m,rfl⟩
   have c0:Hid (B.items X (lp n []) s=((one m bf).M λk s1=>if B.bw X s1 dm=true then .ok (d'++k) s1 else(B.take X hC s1).M λ_ s2=>lp m (d'++k) s2).M (jc X dm)):=A (by rw[ic.o];unfold ki;rw[G,dX.o,B.kh,G];rfl);have gr:m<n:=J;clear G;go_wp2_with fail;refine dA.o.mono ?_;rintro e w2 ⟨rfl,G⟩;replace bK:=A (bK.o.below G);replace z:=A (z.o.new G);clear G;have cV:=A (o9.o m gr _ _ _ _ _ _ _ z.o.st (λe=>gH.o (by rw[c0.o,e];rfl)));go_wp2_with fail;refine cV.o.mono ?_;rintro e bc a_;rcases a_.parts (λe=>gH.o (by rw[c0.o,e];rfl)) with⟨c,q,au,rfl,G⟩|⟨v,aq,n3,zT,au,rfl,R,T,ah⟩
   .have ba:Hid (jM N p X S w tv nv E (B.items X (lp n []) s) (dt c q) bc):=A (z.o.s3 G (by rw[c0.o,au];rfl));clear G;unfold dt;go_wp2;exact⟨rfl,ba.o⟩
   obtain⟨a,rfl⟩:=DK.o m bf v aq au;have zB:Hid (aq.bR=s.bR+1):=A ((AA.o m bf _ _ au).trans yN.o);replace c0:Hid (B.items X (lp n []) s=(if B.bw X aq dm=true then .ok (d'++[a]) aq else(B.take X hC aq).M λ_ s2=>lp m (d'++[a]) s2).M (jc X dm)):=A (by rw[c0.o,au];rfl);replace bK:=A (bK.o.de z.o T ah);replace z:=A (z.o.then R T ah);unfold cD;obtain⟨i0,fM,e',e_,ff⟩:=kT r1;have vq:=A (bK.o.alloc (aw #[a] 3)).row;have DB:=z.o.st.jo;go_wp2_with(at_builtin;refine tI _ rfl _ _ _ rfl N 3 i0 _ 1 8 rN fM e' e_ ff rfl J u5 (D d') (fh d') rfl vq.o ⟨bc.heap.size,0,none⟩ 1 1 [a] rfl rfl (j7 (cs:= #[a]) (t:=3) (fr:=(0,0)) (hf _ _)) (by intro x aF;simp at aF;subst aF;rfl) J (by unfold dc;omega) J (by simp;omega) (bc.heap.size+1) bT ?_;intro g2 fz a6 fF dv e1 bN;obtain⟨gl,qp,_⟩:=bK.o.grown (l2:=[a]) z.o fF rfl dv e1;replace z:=A gl;replace bK:=A qp;clear gl qp)
   cases G:B.bw X aq dm with
   |true=>
    have dA:=A (lX z.o.st ⟨#[125]⟩ true (A G));replace c0:Hid (B.items X (lp n []) s=(ki X dm lp m (d'++[a]) aq).M (jc X dm)):=A (by rw[c0.o];unfold ki;rw[G];rfl);clear G;refine dA.o.mono ?_;rintro e cp ⟨rfl,G⟩;replace bK:=A (bK.o.below G);replace z:=A (z.o.new G);clear G;go_wp2;go_roundg m
    case rel=>exact⟨d'++[a],aq,n3,_,z,bK,by simp;omega,zB,c0⟩
    case measure=>omega
   |false=>
    have dA:=A (lX z.o.st ⟨#[125]⟩ false (A G));replace c0:Hid (B.items X (lp n []) s=((B.take X hC aq).M λ_ s2=>lp m (d'++[a]) s2).M (jc X dm)):=A (by rw[c0.o];rw[G];rfl);clear G;refine dA.o.mono ?_;rintro e cp ⟨rfl,G⟩;replace bK:=A (bK.o.below G);replace z:=A (z.o.new G);clear G;go_wp2_with fail;refine(va z.o.st ⟨#[59]⟩).mono ?_;rintro e gF a_;obtain⟨c,q,au,rfl,G⟩|⟨v,bA,n4,Dt,au,rfl,R,T,ah⟩:=a_.parts (ze _ _ _)
    .have ba:Hid (jM N p X S w tv nv E (B.items X (lp n []) s) (dt c q) gF):=A (z.o.s3 G (by have h6:B.take X hC aq= .bL c q:=au;rw[c0.o,h6];rfl));clear G;unfold dt;go_wp2;exact⟨rfl,ba.o⟩
    have DC:Hid (bA.bR=s.bR+1):=A ((dr.take X _ aq _ _ au).trans zB.o);replace c0:Hid (B.items X (lp n []) s=(ki X dm lp m (d'++[a]) bA).M (jc X dm)):=A (by
     have h6:B.take X hC aq= .ok v bA:=au;have bJ:B.items X (lp n []) s=(lp m (d'++[a]) bA).M (jc X dm):=(by rw[c0.o,h6];rfl);rw[bJ];unfold ki;cases m with
     |zero=>exact absurd (by rw[bJ,jR.o];rfl) gH.o
     |succ m1=>
      split
      .rename_i G;rw[dX.o,B.kh,aS G]
      .rfl)
    replace bK:=A (bK.o.de z.o T ah);replace z:=A (z.o.then R T ah);unfold cD;go_wp2;go_roundg m
    case rel=>exact⟨d'++[a],bA,n4,_,z,bK,by simp;omega,DC,c0⟩
    case measure=>omega
def W4(w0:ai)(vO:p<w0.heap.size)(nb:Nat)(n:Nat)(ax:n<=1000000)(lp:Nat->List Nat->B.ak->B.aV)(one:Nat->B.ak->B.aV)
 (aH: ∀a s,lp 0 a s= .o)(hs: ∀m a s,lp (m+1) a s=B.kh X (one m) (lp m) a s)(zA: ∀m s,B.bn (one m s))(k4: ∀m s,dr (one m s) s.bR)(j1: ∀m,m<n-> ∀wk bf aW ar,cn N p wk X S bf tv aW (E++ar)->eM w0 wk aW nb #[(p,0)] 75->one m bf≠ .o->aY 140 #[(nb,0)] wk (Out N p X S wk tv aW (E++ar) cD (one m bf)))
 (h:cn N p w X S s tv nv E)(aF:eM w0 w nv nb #[(p,0)] 75)(aZ:B.items X (lp n []) s≠ .o):
  aY 138 #[(p,0),.func (.func 140) #[] #[(nb,0)]] w (jM N p X S w tv nv E (B.items X (lp n []) s)):=by
 have z:=A (Go.start h);have gH:=A aZ;have jR:=A aH;have dX:=A hs;have DK:=A zA;have AA:=A k4;have o9:=A j1;have lz:=h.d0;have br:=A aF;clear aF aZ aH hs zA k4 j1;go_in;go_wp2_with fail;refine(F4 z.o.st ⟨#[123]⟩).mono ?_;rintro e w1 a_;obtain⟨c,q,au,rfl,G⟩|⟨v,s1,dq,yk,au,rfl,R,T,ah⟩:=a_.parts (JP _ _ _)
 .have ba:Hid (jM N p X S w tv nv E (B.items X (lp n []) s) (dt c q) w1):=A (z.o.s3 G (by have h6:B.enter X qM s= .bL c q:=au;simp[B.items,h6,B.aV.M]));clear G;unfold dt;go_wp2;exact⟨rfl,ba.o⟩
 have h6:B.enter X qM s= .ok v s1:=au;have Dl:s1.bR=s.bR+1:=dr.enter X _ s v s1 h6;have jJ:Hid (B.items X (lp n []) s=(lp n [] s1).M (jc X dm)):=A (by simp only[B.items,h6,B.aV.M];rfl);have uu:n≠0:=by rintro rfl;exact gH.o (by rw[jJ.o,jR.o];rfl)
 have ic:Hid (B.items X (lp n []) s=(ki X dm lp n [] s1).M (jc X dm)):=A (by
  rw[jJ.o];unfold ki;obtain⟨m,rfl⟩: ∃m,n=m+1:=⟨n- 1,by omega⟩;split
  .rename_i G;rw[dX.o,B.kh,aS G]
  .rfl)
 replace br:=A (br.o.de vO T);replace z:=A (z.o.then R T ah);have qZ:=z.o.st.lt;have c1:=z;unfold cD;go_wp2_with fail;go_loopg[5] n (λm u wr=> ∃(d':List Nat) (bf:B.ak) (aW:af) (ar:List (aP×af)),Hid (Go N p X S w tv nv E wr bf aW ar)/\Hid (cI N w wr (E++ar) u d')/\Hid (eM w0 wr aW nb #[(p,0)] 75)/\D d'+m=n/\Hid (bf.bR=s.bR+1)/\Hid (B.items X (lp n []) s=(ki X dm lp m d' bf).M (jc X dm)))
 case atStart=>exact⟨[],s1,dq,_,z,A (cI.nil _ _ _ _),br,by simp,A Dl,ic⟩
 case round=>
  clear z br;obtain⟨d',bf,aW,ar,z,bK,br,rz,yN,ic⟩:=hrel;cases G:B.bw X bf dm with
  |true=>
   have dA:=A (lX z.o.st ⟨#[125]⟩ true (A G));have mG:Hid (B.items X (lp n []) s=jc X dm d' bf):=A (by rw[ic.o];unfold ki;rw[aS G];rfl);clear G;go_wp2_with fail;refine dA.o.mono ?_;rintro e w2 ⟨rfl,G⟩;replace bK:=A (bK.o.below G);replace br:=A (br.o.below G);replace z:=A (z.o.new G);clear G;go_wp2_with fail;refine(Jk z.o.st ⟨#[125]⟩ (by rw[yN.o];omega)).mono ?_;rintro e bc a_;obtain⟨c,q,au,rfl,G⟩|⟨v,aq,n3,zT,au,rfl,R,T,ah⟩:=a_.parts (PN _ _ _)
   .have ba:Hid (jM N p X S w tv nv E (B.items X (lp n []) s) (dt c q) bc):=A (z.o.s3 G (by have h6:B.dU X dm bf= .bL c q:=au;rw[mG.o];unfold jc;rw[h6];rfl));clear G;unfold dt;go_wp2;exact⟨rfl,ba.o⟩
   .have ba:Hid (jM N p X S w tv nv E (B.items X (lp n []) s) (.returned u5) bc):=A ((z.o.then R T ah).DJ (bK.o.de z.o T ah) J (by have h6:B.dU X dm bf= .ok v aq:=au;rw[mG.o];unfold jc;rw[h6];rfl));unfold lk;go_wp2;go_returns;exact ba.o
  |false=>
   have dA:=A (lX z.o.st ⟨#[125]⟩ false (A G));obtain⟨m,rfl⟩: ∃m,gk=m+1:=by
    cases gk with
    |zero=>exact absurd (by rw[ic.o];unfold ki;rw[G,jR.o];rfl) gH.o
    |succ m=>exact⟨m,rfl⟩
   have c0:Hid (B.items X (lp n []) s=((one m bf).M λk s1=>if B.bw X s1 dm=true then .ok (d'++k) s1 else(B.take X hC s1).M λ_ s2=>lp m (d'++k) s2).M (jc X dm)):=A (by rw[ic.o];unfold ki;rw[G,dX.o,B.kh,G];rfl);have gr:m<n:=J;clear G;go_wp2_with fail;refine dA.o.mono ?_;rintro e w2 ⟨rfl,G⟩;replace bK:=A (bK.o.below G);replace br:=A (br.o.below G);replace z:=A (z.o.new G);clear G;have cV:=A (o9.o m gr _ _ _ _ z.o.st br.o (λe=>gH.o (by rw[c0.o,e];rfl)));go_wp2_with fail;refine cV.o.mono ?_;rintro e bc a_;rcases a_.parts (λe=>gH.o (by rw[c0.o,e];rfl)) with⟨c,q,au,rfl,G⟩|⟨v,aq,n3,zT,au,rfl,R,T,ah⟩
   .have ba:Hid (jM N p X S w tv nv E (B.items X (lp n []) s) (dt c q) bc):=A (z.o.s3 G (by rw[c0.o,au];rfl));clear G;unfold dt;go_wp2;exact⟨rfl,ba.o⟩
   obtain⟨a,rfl⟩:=DK.o m bf v aq au;have zB:Hid (aq.bR=s.bR+1):=A ((AA.o m bf _ _ au).trans yN.o);replace c0:Hid (B.items X (lp n []) s=(if B.bw X aq dm=true then .ok (d'++[a]) aq else(B.take X hC aq).M λ_ s2=>lp m (d'++[a]) s2).M (jc X dm)):=A (by rw[c0.o,au];rfl);replace bK:=A (bK.o.de z.o T ah);replace br:=A (br.o.de vO T);replace z:=A (z.o.then R T ah);unfold cD;obtain⟨i0,fM,e',e_,ff⟩:=kT r1;have vq:=A (bK.o.alloc (aw #[a] 3)).row;have DB:=z.o.st.jo;go_wp2_with(at_builtin;refine tI _ rfl _ _ _ rfl N 3 i0 _ 1 8 rN fM e' e_ ff rfl J u5 (D d') (fh d') rfl vq.o ⟨bc.heap.size,0,none⟩ 1 1 [a] rfl rfl (j7 (cs:= #[a]) (t:=3) (fr:=(0,0)) (hf _ _)) (by intro x aF;simp at aF;subst aF;rfl) J (by unfold dc;omega) J (by simp;omega) (bc.heap.size+1) bT ?_;intro g2 fz a6 fF dv e1 bN;obtain⟨gl,qp,o0⟩:=bK.o.grown (l2:=[a]) z.o fF rfl dv e1;replace br:=A (eM.same br.o (o0 _ br.o.lt (λe=>mu bK.o.row br.o.blk aN e)));replace z:=A gl;replace bK:=A qp;clear gl qp)
   cases G:B.bw X aq dm with
   |true=>
    have dA:=A (lX z.o.st ⟨#[125]⟩ true (A G));replace c0:Hid (B.items X (lp n []) s=(ki X dm lp m (d'++[a]) aq).M (jc X dm)):=A (by rw[c0.o];unfold ki;rw[G];rfl);clear G;refine dA.o.mono ?_;rintro e cp ⟨rfl,G⟩;replace bK:=A (bK.o.below G);replace br:=A (br.o.below G);replace z:=A (z.o.new G);clear G;go_wp2;go_roundg m
    case rel=>exact⟨d'++[a],aq,n3,_,z,bK,br,by simp;omega,zB,c0⟩
    case measure=>omega
   |false=>
    have dA:=A (lX z.o.st ⟨#[125]⟩ false (A G));replace c0:Hid (B.items X (lp n []) s=((B.take X hC aq).M λ_ s2=>lp m (d'++[a]) s2).M (jc X dm)):=A (by rw[c0.o];rw[G];rfl);clear G;refine dA.o.mono ?_;rintro e cp ⟨rfl,G⟩;replace bK:=A (bK.o.below G);replace br:=A (br.o.below G);replace z:=A (z.o.new G);clear G;go_wp2_with fail;refine(va z.o.st ⟨#[59]⟩).mono ?_;rintro e gF a_;obtain⟨c,q,au,rfl,G⟩|⟨v,bA,n4,Dt,au,rfl,R,T,ah⟩:=a_.parts (ze _ _ _)
    .have ba:Hid (jM N p X S w tv nv E (B.items X (lp n []) s) (dt c q) gF):=A (z.o.s3 G (by have h6:B.take X hC aq= .bL c q:=au;rw[c0.o,h6];rfl));clear G;unfold dt;go_wp2;exact⟨rfl,ba.o⟩
    have DC:Hid (bA.bR=s.bR+1):=A ((dr.take X _ aq _ _ au).trans zB.o);replace c0:Hid (B.items X (lp n []) s=(ki X dm lp m (d'++[a]) bA).M (jc X dm)):=A (by
     have h6:B.take X hC aq= .ok v bA:=au;have bJ:B.items X (lp n []) s=(lp m (d'++[a]) bA).M (jc X dm):=(by rw[c0.o,h6];rfl);rw[bJ];unfold ki;cases m with
     |zero=>exact absurd (by rw[bJ,jR.o];rfl) gH.o
     |succ m1=>
      split
      .rename_i G;rw[dX.o,B.kh,aS G]
      .rfl)
    replace bK:=A (bK.o.de z.o T ah);replace br:=A (br.o.de vO T);replace z:=A (z.o.then R T ah);unfold cD;go_wp2;go_roundg m
    case rel=>exact⟨d'++[a],bA,n4,_,z,bK,br,by simp;omega,DC,c0⟩
    case measure=>omega
end
def alf (X:B.Src)(S:ByteArray)(hx:FuncId)(plain:B.ak->B.aV):Prop:=
 ∀(N p:Nat) (w:ai) (s:B.ak) (tv nv:af) (E:List (aP×af)),cn N p w X S s tv nv E->plain s≠ .o->aY 144 #[(p,0),.func (.func hx) #[(p,0)] #[]] w (jM N p X S w tv nv E (plain s))
def alc (X:B.Src)(S:ByteArray)(hx:FuncId)(plain:B.ak->B.aV):Prop:=
 ∀(N p:Nat) (w:ai) (s:B.ak) (tv nv:af) (E:List (aP×af)),cn N p w X S s tv nv E->plain s≠ .o->aY 138 #[(p,0),.func (.func hx) #[(p,0)] #[]] w (jM N p X S w tv nv E (plain s))
def x4 (X:B.Src)(S:ByteArray)(f:FuncId)(val:List Nat->af)(plain:Nat->B.ak->B.aV):Prop:=
 ∀(at_ N p:Nat) (w:ai) (s:B.ak) (tv nv:af) (E:List (aP×af)),cn N p w X S s tv nv E->plain at_ s≠ .o->aY f #[(p,0),at_] w (Out N p X S w tv nv E val (plain at_ s))
def ed (X:B.Src)(S:ByteArray)(f:FuncId)(gm:B.ak->B.aV)(xs:List af:=[]):Prop:=
 (∀(N p:Nat) (w:ai) (s:B.ak) (tv nv:af) (E:List (aP×af)),cn N p w X S s tv nv E->gm s≠ .o->aY f (.pointer (some ⟨p,0,none⟩)::xs).toArray w (Out N p X S w tv nv E cD (gm s)))/\(∀s,B.bn (gm s))/\ ∀s,dr (gm s) s.bR
def tC (X:B.Src)(S:ByteArray)(f hx:FuncId)(gm:B.ak->B.aV):Prop:=
 (∀(N p:Nat) (w:ai) (s:B.ak) (tv nv:af) (E:List (aP×af)),cn N p w X S s tv nv E->gm s≠ .o->aY f #[(p,0),.func (.func hx) #[(p,0)] #[]] w (jM N p X S w tv nv E (gm s)))/\ ∀s,dr (gm s) s.bR
def BM (X:B.Src)(S:ByteArray)(hx:FuncId)(gm:B.ak->B.aV):Prop:=tC X S 144 hx gm
def G3 (X:B.Src)(S:ByteArray)(hx:FuncId)(gm:B.ak->B.aV):Prop:=tC X S 138 hx gm
def cI.lift{N p w0 wk w2 X S s tv nv aW u E ar h_ l}(h:cI N wk w2 ((E++ar)++h_) u l)(bF:Go N p X S w0 tv nv E wk s aW ar):cI N w0 w2 (E++(ar++h_)) u l:=
 ⟨h.row,λb G=>hg bF.size (h.dV b G),by rw[<-oH];exact h.ap⟩
section
variable{N p:Nat}{w:ai}{X:B.Src}{S:ByteArray}{s:B.ak}{tv nv:af}{E:List (aP×af)}
def Go.ll{wk bf aW ar}(h:Go N p X S w tv nv E wk bf aW ar)(bN:bf.i+2<=D X.bu):Go N p X S w tv nv E (a7 wk (p,2) [((bf.i:Int)+2:Int)]) (B.ll bf) aW ar:=⟨h.st.Bz (j:=bf.i+2) bN,h.de.set h.st.hN 2 _,h.fr,h.eK,h.pl⟩
def Ju(h:cn N p w X S s tv nv E)(v:af)(l:List ByteArray)(hl:qb w v l)(b:Bool)(G:Hid ((l.any λx=>B.bw X s (aC x))=b)):aY 177 #[(p,0),v] w λe w'=>e= .returned (.bool b)/\aL w w w':=by have:=P6 h v l hl;rw[G.o] at this;exact this
def PO(X:B.Src)(s:B.ak)(h:B.mB X s=true):s.i<D X.bu:=by refine we λax=>?_;unfold B.mB B.aM iz at h;rw[cd,pr J] at h;simp at h
def Gg(a b):((str a).toList==b)=(a==b):=by rw[fC,f_]
end
def aeH:ByteArray:=⟨#[99,97,115,101]⟩
def aeI:ByteArray:=⟨#[100,101,102,97,117,108,116]⟩
def S9:ByteArray:=⟨#[125]⟩
def aeJ:ByteArray:=⟨#[59]⟩
def af0{X s a b x y}(aF:aC x=a:=by rfl)(bx:aC y=b:=by rfl):(B.bw X s a=true\/B.bw X s b=true)↔([x,y].any λbp=>B.bw X s (aC bp))=true:=by subst aF bx;simp
section
variable{N:Nat}
def U_{P}(w){ops rest o a}{Q:Exit->Act->ai->Prop}(jO:o.guard=none)(s x:Operand)(t e:TypeId)(bX:o.op= .call {callee:= .builtin .append,args:= #[s,x],argTypes:= #[t,t]})
 (i:TypeInfo)(bI:P.underlying t=some (.slice e))(ay:P.info? e=some i)(base:Option Addr)(Hf Hg:Nat)(hle:Hf<=Hg)(hs:a.eval s= .slice base Hf Hg)(bb:Option Addr)(aQ)(aF:a.eval x= .slice bb 0 aQ)
 (h:fo P ops Q rest (a.put o.dst (.slice base Hf Hg)) w):fo P ops Q (o::rest) a w:=by
 refine wpList_plain jO λK ab=>?_;have af1:Src P i.size t (.slice bb 0 aQ) 0 [] w:=by
  cases bb with
  |none=>exact Src.ofNil w bI aQ
  |some ad=>exact Src.ofSlice w bI ad 0 aQ [] bT (by intro j u hu;cases hu) (by intro u hu;cases hu)
 have au:=run_append_nothing (P:=P) w t t o.type e i bI ay base Hf Hg hle (.slice bb 0 aQ) af1;unfold Oper.wp;simp only[execOp,bX,resolve,invoke,builtin,Sem.run_bind,Sem.run_pure,Result.andThen_ok,List.map_toArray,List.map_cons,List.map_nil,hs,aF,au];exact ab _ _ h
def cI.news{w0 wk F g n c l}(h:cI N w0 wk F (.slice (some ⟨g,0,none⟩) n c) l): ∀j u,(fh l)[j]?=some u->aG wk ((⟨g,0,none⟩:Addr).add j)=some u:=by
 intro j u hu;have bg:j<D (fh l):=(List.getElem?_eq_some_iff.1 hu).1;have ax:n=D l:=by
  obtain⟨aH,_⟩|⟨h5,ka,cur,bQ,_⟩:=h.row.2
  .cases aH
  .cases bQ;rfl
 have hl:D (fh l)=D l:=by simp[fh]
 subst ax;have au:wk.ownsRow N 3 1 (g,D l,c) (D l) (fh l):=h.row;have hc:=au.cellAt j J;have LA:(⟨g,0,none⟩:Addr).add j=⟨g,j,none⟩:=by unfold Addr.add;split<;>simp_all
 rw[LA];exact hc.trans hu
end
inductive mo where
 |ea (q:Nat) (c:Array af) (t:TypeId)
 |dd (u:af) (l:List Nat)
def mo.Ok(N:Nat)(w wk:ai)(aW:af)(F:List (aP×af)):mo->Prop
 | .ea q c t=>eM w wk aW q c t/\3≠t
 | .dd u l=>cI N w wk F u l
def mo.I4:mo->mo->Prop
 | .ea q _ _,.ea cw _ _=>q≠cw
 |_,_=>True
def nA:List mo->List mo
 |[]=>[]
 | .ea q c t::L=> .ea q c t::nA L
 | .dd _ _::L=>nA L
structure re (N p:Nat)(X:B.Src)(S:ByteArray)(w:ai)(tv nv:af)(E:List (aP×af))(val:List Nat->af)(pl:B.aV)(bV:Int)(cU:Option Nat)(wk:ai)(s:B.ak)(aW:af)(ar:List (aP×af))(L:List mo)(r:B.aV):Prop where
 go:Go N p X S w tv nv E wk s aW ar
 fP: ∀x∈L,x.Ok N w wk aW (E++ar)
 off:L.Pairwise mo.I4
 eq:pl=r
 ne:pl≠ .o
 d0:0<=bV
 ib: ∀k,cU=some k->s.bR=bV+(k:Int)
def aO (N p:Nat)(X:B.Src)(S:ByteArray)(w:ai)(tv nv:af)(E:List (aP×af))(val:List Nat->af)(pl:B.aV)(bV:Int)(cU:Option Nat)(wk:ai)(s:B.ak)(L:List mo)(r:B.aV):Prop:=
 ∃aW ar,re N p X S w tv nv E val pl bV cU wk s aW ar L r
def ru:List mo->ai->Prop
 |[],_=>True
 | .ea q c _::L,w=>(∀i,aG w ⟨q,i,none⟩=c[i]?)/\ru L w
 | .dd _ _::L,w=>ru L w
section
variable{N p:Nat}{w wk w2:ai}{X:B.Src}{S:ByteArray}{s s2:B.ak}{tv nv aW cR:af}{E ar h_:List (aP×af)}{val:List Nat->af}{pl r r2:B.aV}{bV:Int}{cU:Option Nat}{L:List mo}{x:mo}
def mo.Ok.below{F}(h:x.Ok N w wk aW F)(G:aL wk wk w2):x.Ok N w w2 aW F:=by
 cases x with
 |ea q c t=>exact⟨h.1.below G,h.2⟩
 |dd u l=>exact cI.below h G
def mo.Ok.de(h:x.Ok N w wk aW (E++ar))(bF:Go N p X S w tv nv E wk s aW ar)(m:gu N p wk aW w2 cR)(bZ:iu wk.heap.size h_):x.Ok N w w2 cR (E++(ar++h_)):=by
 cases x with
 |ea q c t=>exact⟨h.1.de bF.pl m,h.2⟩
 |dd u l=>exact cI.de h bF m bZ
def re.below(h:re N p X S w tv nv E val pl bV cU wk s aW ar L r)(G:aL wk wk w2):re N p X S w tv nv E val pl bV cU w2 s aW ar L r:=
 ⟨h.go.new G,λx aF=>(h.fP x aF).below G,h.off,h.eq,h.ne,h.d0,h.ib⟩
def re.de{k2:Option Nat}(h:re N p X S w tv nv E val pl bV cU wk s aW ar L r)(R:cn N p w2 X S s2 tv cR ((E++ar)++h_))(T:gu N p wk aW w2 cR)(ah:iu wk.heap.size h_)(he:r=r2)(bB: ∀k,k2=some k->s2.bR=bV+(k:Int)):re N p X S w tv nv E val pl bV k2 w2 s2 cR (ar++h_) L r2:=
 ⟨h.go.then R T ah,λx aF=>(h.fP x aF).de h.go T ah,h.off,h.eq.trans he,h.ne,h.d0,bB⟩
def C7{F}: ∀{L},(∀x∈L,x.Ok N w wk aW F)->ru L wk
 |[],_=>trivial
 | .ea q c t::L,h=>⟨(h (.ea q c t) (hY ..)).1.cell,C7 λx aF=>h x (hP _ aF)⟩
 | .dd u l::L,h=>C7 (L:=L) λx aF=>h x (hP _ aF)
def jj(h:Hid (aO N p X S w tv nv E val pl bV cU wk s L r)):ru L wk:=by obtain⟨_,_,h⟩:=h.o;exact C7 h.fP
def o4(h:Hid (aO N p X S w tv nv E val pl bV cU wk s (x::L) r)):ru L wk:=by obtain⟨_,_,h⟩:=h.o;exact C7 λy bx=>h.fP y (hP _ bx)
def nT{y}(h:Hid (aO N p X S w tv nv E val pl bV cU wk s (x::y::L) r)):ru L wk:=by obtain⟨_,_,h⟩:=h.o;exact C7 λbp hz=>h.fP bp (hP _ (hP _ hz))
def L4{y bp}(h:Hid (aO N p X S w tv nv E val pl bV cU wk s (x::y::bp::L) r)):ru L wk:=by obtain⟨_,_,h⟩:=h.o;exact C7 λv bQ=>h.fP v (hP _ (hP _ (hP _ bQ)))
def cF(val:List Nat->af)(h:cn N p w X S s tv nv E)(aZ:pl≠ .o)(e:pl=r):Hid (aO N p X S w tv nv E val pl s.bR (some 0) w s [] r):=
 A ⟨nv,[],Go.start h,λ_ aF=>(by cases aF),.nil,e,aZ,h.d0,λk U=>by cases U;simp⟩
def fn{v}(h:Hid (aO N p X S w tv nv E val pl bV cU wk s L (.ok v s))):Out N p X S w tv nv E val pl (.returned (val v)) wk:=by obtain⟨_,_,h⟩:=h.o;exact h.go.o h.eq rfl
def c_{c2:Prop}(k:c2:=by go_wp2;go_returns;exact fn z):c2:=k
def dM(e:r=r2)(h:Hid (aO N p X S w tv nv E val pl bV cU wk s L r)):Hid (aO N p X S w tv nv E val pl bV cU wk s L r2):=e▸h
def dV(h:Hid (aO N p X S w tv nv E val pl bV cU wk s L r)):Hid (aO N p X S w tv nv E val pl bV none wk s L r):=by obtain⟨aW,ar,h⟩:=h.o;exact A ⟨aW,ar,h.go,h.fP,h.off,h.eq,h.ne,h.d0,λk U=>by cases U⟩
def ch(h:Hid (aO N p X S w tv nv E val pl bV cU wk s L r)): ∃w2,wk=w2/\Hid (aO N p X S w tv nv E val pl bV cU w2 s L r):=⟨wk,rfl,h⟩
def aO.st(h:Hid (aO N p X S w tv nv E val pl bV cU wk s L r)): ∃aW ar,cn N p wk X S s tv aW (E++ar):=by obtain⟨aW,ar,h⟩:=h.o;exact⟨aW,ar,h.go.st⟩
def pc(h:Hid (aO N p X S w tv nv E val pl bV cU wk s L r)):aG wk (p,1)=some tv/\aG wk (p,2)=some [s.i]/\aG wk (p,3)=some [s.bR]/\(∀i,wk.frozen? ⟨p,i,none⟩=false)/\p<wk.heap.size:=by obtain⟨aW,ar,h⟩:=aO.st h;exact⟨h.bq,h.cK,h.c3,h.free,h.lt⟩
def Gn(h:Hid (aO N p X S w tv nv E val pl bV cU wk s L r)):D X.bu<=12001/\s.i<=D X.bu:=by obtain⟨aW,ar,h⟩:=aO.st h;exact⟨h.src.fA,h.i⟩
def uM{k}(h:Hid (aO N p X S w tv nv E val pl bV (some (k+1)) wk s L r)):1<=s.bR/\s.bR<=30:=by obtain⟨aW,ar,h⟩:=h.o;have R:=h.ib _ rfl;have T:=h.d0;have ah:=h.go.st.d1;exact⟨by omega,ah⟩
variable{Q:e7->ai->Prop}{K:List Nat->B.ak->B.aV}{pfs:B.aV}{f:FuncId}{args:Array af}
def kH(h: ∀w2,Hid (aO N p X S w tv nv E val pl bV cU w2 s L r)->Q (.returned (.agg #[.int .i64 (B.aM X s).j',.string (str (B.aM X s).O),.int .i64 (B.aM X s).aX,.int .i64 ((B.aM X s).an:Int)])) w2):Hid (aO N p X S w tv nv E val pl bV cU wk s L r)->aY 61 #[.pointer (some ⟨p,0,none⟩)] wk Q:=by intro z;obtain⟨aW,ar,bF⟩:=z.o;refine b7 (zb bF.go.st) λw2 G=>?_;exact h w2 (A ⟨aW,ar,bF.below G⟩)
def iB(x){cj}(R: ∀w2,Hid (B.bw X s x=true)->Hid (aO N p X S w tv nv E val pl bV cU w2 (B.bs s) L r)->Q (.returned (.bool true)) w2)(aH: ∀w2,Hid (B.bw X s x=false)->Hid (aO N p X S w tv nv E val pl bV cU w2 s L r2)->Q (.returned (.bool false)) w2)(dZ:aC cj=x:=by rfl):
  Hid (aO N p X S w tv nv E val pl bV cU wk s L (if B.bw X s x=true then r else r2))->aY 99 #[(p,0),cj] wk Q:=by
 intro z;obtain⟨aW,ar,bF⟩:=z.o;subst dZ;cases G:B.bw X s (aC cj) with
 |true=>
  refine b7 (VT bF.go.st cj true (A G)) λw2⟨ah,bJ⟩=>?_;exact R w2 (A G) (A ⟨aW,ar++[],bF.de (by rw[lU];exact ah) bJ (iu.nil _) (aS G) bF.ib⟩)
 |false=>
  refine b7 (VT bF.go.st cj false (A G)) λw2⟨ah,bJ⟩=>?_;exact aH w2 (A G) (A ⟨aW,ar++[],bF.de (by rw[lU];exact ah) bJ (iu.nil _) (ao (by rw[G];decide)) bF.ib⟩)
def j2(x){cj}(R: ∀w2,Hid (B.bw X s x=true)->Hid (aO N p X S w tv nv E val pl bV cU w2 s L r)->Q (.returned (.bool true)) w2)(aH: ∀w2,Hid (B.bw X s x=false)->Hid (aO N p X S w tv nv E val pl bV cU w2 s L r2)->Q (.returned (.bool false)) w2)(dZ:aC cj=x:=by rfl):
  Hid (aO N p X S w tv nv E val pl bV cU wk s L (if B.bw X s x=true then r else r2))->aY 101 #[(p,0),cj] wk Q:=by
 intro z;obtain⟨aW,ar,bF⟩:=z.o;subst dZ;cases G:B.bw X s (aC cj) with
 |true=>
  refine b7 (lX bF.go.st cj true (A G)) λw2 ah=>?_;have bJ:=bF.below ah;exact R w2 (A G) (A ⟨aW,ar,bJ.go,bJ.fP,bJ.off,bJ.eq.trans (aS G),bJ.ne,bJ.d0,bJ.ib⟩)
 |false=>
  refine b7 (lX bF.go.st cj false (A G)) λw2 ah=>?_;have bJ:=bF.below ah;exact aH w2 (A G) (A ⟨aW,ar,bJ.go,bJ.fP,bJ.off,bJ.eq.trans (ao (by rw[G];decide)),bJ.ne,bJ.d0,bJ.ib⟩)
def zf(R: ∀w2,Hid (aO N p X S w tv nv E val pl bV cU w2 s L r)->Q (.returned (.bool true)) w2)(aH: ∀w2,Hid (aO N p X S w tv nv E val pl bV cU w2 s L r2)->Q (.returned (.bool false)) w2):
  Hid (aO N p X S w tv nv E val pl bV cU wk s L (if B.l0 X s=true then r else r2))->aY 146 #[(p,0)] wk Q:=by
 intro z;obtain⟨aW,ar,bF⟩:=z.o;cases G:B.l0 X s with
 |true=>
  refine b7 (VA bF.go.st true (A G)) λw2 ah=>?_;have bJ:=bF.below ah;exact R w2 (A ⟨aW,ar,bJ.go,bJ.fP,bJ.off,bJ.eq.trans (aS G),bJ.ne,bJ.d0,bJ.ib⟩)
 |false=>
  refine b7 (VA bF.go.st false (A G)) λw2 ah=>?_;have bJ:=bF.below ah;exact aH w2 (A ⟨aW,ar,bJ.go,bJ.fP,bJ.off,bJ.eq.trans (ao (by rw[G];decide)),bJ.ne,bJ.d0,bJ.ib⟩)
def S'(l:List ByteArray){c} [Decidable c]{cs t n}(R: ∀w2,Hid c->Hid (aO N p X S w tv nv E val pl bV cU w2 s L r)->Q (.returned (.bool true)) w2)(aH: ∀w2,Hid (¬c)->Hid (aO N p X S w tv nv E val pl bV cU w2 s L r2)->Q (.returned (.bool false)) w2)(hc:c↔(l.any λx=>B.bw X s (aC x))=true)(hl:D l<=100:=by decide)(ma:(l.map mm).toArray=cs:=by rfl)(ax:D l=n:=by rfl):
  Hid (aO N p X S w tv nv E val pl bV cU wk s L (if c then r else r2))->aY 177 #[(p,0),(wk,n,n)] (aA wk (.cells cs t)) Q:=by
 intro z;obtain⟨aW,ar,bF⟩:=z.o;subst ma ax;have ev:=bF.below ((aT _ _).alloc (bD _) (.cells (l.map mm).toArray t));cases G:(l.any λx=>B.bw X s (aC x)) with
 |true=>
  refine b7 (Ju ev.go.st _ l (qb.new wk l hl t) true (A G)) λw2 ah=>?_;have bJ:=ev.below ah;exact R w2 (A (hc.2 G)) (A ⟨aW,ar,bJ.go,bJ.fP,bJ.off,bJ.eq.trans (aS (hc.2 G)),bJ.ne,bJ.d0,bJ.ib⟩)
 |false=>
  refine b7 (Ju ev.go.st _ l (qb.new wk l hl t) false (A G)) λw2 ah=>?_;have bJ:=ev.below ah;have ax: ¬c:=λh=>by rw[hc.1 h] at G;cases G
  exact aH w2 (A ax) (A ⟨aW,ar,bJ.go,bJ.fP,bJ.off,bJ.eq.trans (ao ax),bJ.ne,bJ.d0,bJ.ib⟩)
def sV{k2:Option Nat}{DE:List Nat->af}(cV: ∀aW pq,cn N p wk X S s tv aW pq->pfs≠ .o->aY f args wk (Out N p X S wk tv aW pq DE pfs))(bB: ∀v s2,pfs= .ok v s2->(∀k,cU=some k->s.bR=bV+(k:Int))-> ∀k,k2=some k->s2.bR=bV+(k:Int))
 (ok: ∀v w2 s2,pfs= .ok v s2->Hid (aO N p X S w tv nv E val pl bV k2 w2 s2 L (K v s2))->Q (.returned (DE v)) w2)(bL: ∀c q w2,Out N p X S w tv nv E val pl (dt c q) w2->Q (dt c q) w2):
  Hid (aO N p X S w tv nv E val pl bV cU wk s L (pfs.M K))->aY f args wk Q:=by
 intro z;obtain⟨aW,ar,bF⟩:=z.o;have ax:pfs≠ .o:=λe=>bF.ne (by rw[bF.eq,e];rfl);refine(cV _ _ bF.go.st ax).mono ?_;rintro e w2 a_;obtain⟨c,q,au,rfl,G⟩|⟨v,s2,cR,h_,au,rfl,R,T,ah⟩:=a_.parts ax
 .exact bL c q w2 (bF.go.bL G (by rw[bF.eq,au];rfl))
 .exact ok v w2 s2 au (A ⟨cR,_,bF.de R T ah (by rw[au];rfl) (bB _ _ au bF.ib)⟩)
variable{gm:B.ak->B.aV}{xs:List af}
def bq(cV:ed X S f gm xs)(ok: ∀(a:Nat) w2 s2,Hid (aO N p X S w tv nv E val pl bV cU w2 s2 L (K [a] s2))->Q (.returned (.int .i64 (a:Int))) w2)
 (bL: ∀c q w2,Out N p X S w tv nv E val pl (dt c q) w2->Q (dt c q) w2:=by intro c q w2 ba;unfold dt;go_wp2;exact⟨rfl,ba⟩):
  Hid (aO N p X S w tv nv E val pl bV cU wk s L ((gm s).M K))->aY f (.pointer (some ⟨p,0,none⟩)::xs).toArray wk Q:=
 sV (λ_ _ h=>cV.1 _ _ _ _ _ _ _ h) (λv s2 au U k e=>(cV.2.2 _ v s2 au).trans (U k e)) (λv w2 s2 au z=>by
  obtain⟨a,rfl⟩:=cV.2.1 _ v s2 au;exact ok a w2 s2 z) bL
def eK(cV:ed X S f gm xs)(z:Hid (aO N p X S w tv nv E cD pl bV cU wk s L (gm s)))
 (ok: ∀(a:Nat) w2,Out N p X S w tv nv E cD pl (.returned (.int .i64 (a:Int))) w2->Q (.returned (.int .i64 (a:Int))) w2:=by intro a w2 ba;go_wp2;go_returns;exact ba)
 (bL: ∀c q w2,Out N p X S w tv nv E cD pl (dt c q) w2->Q (dt c q) w2:=by intro c q w2 ba;unfold dt;go_wp2;exact⟨rfl,ba⟩):
  aY f (.pointer (some ⟨p,0,none⟩)::xs).toArray wk Q:=
 sV (K:=λv s2=> .ok v s2) (k2:=none) (λ_ _ h=>cV.1 _ _ _ _ _ _ _ h) (λv s2 au U k e=>by cases e) (λv w2 s2 au z=>by
  obtain⟨a,rfl⟩:=cV.2.1 _ v s2 au;exact ok a w2 (fn z)) bL (dM (by cases gm s<;>rfl) z)
def mA(ok: ∀w2,Hid (aO N p X S w tv nv E val pl bV cU w2 (B.bs s) L (K [] (B.bs s)))->Q (.returned (.agg #[.int .i64 (B.aM X s).j',.string (str (B.aM X s).O),.int .i64 (B.aM X s).aX,.int .i64 ((B.aM X s).an:Int)])) w2)
 (bL: ∀c q w2,Out N p X S w tv nv E val pl (dt c q) w2->Q (dt c q) w2:=by intro c q w2 ba;unfold dt;go_wp2;exact⟨rfl,ba⟩):
  Hid (aO N p X S w tv nv E val pl bV cU wk s L ((B.name X s).M K))->aY 103 #[.pointer (some ⟨p,0,none⟩)] wk Q:=
 sV (λ_ _ h _=>O3 h) (λv s2 au U k e=>(dr.name X s v s2 au).trans (U k e)) (λv w2 s2 au z=>by
  unfold B.name B.fail at au;split at au
  .cases au;exact ok w2 z
  .cases au) bL
def k0(x:List UInt8){cj}(ok: ∀w2,Hid (B.bw X s x=true)->Hid (aO N p X S w tv nv E val pl bV cU w2 (B.bs s) L (K [(B.aM X s).an] (B.bs s)))->Q (.returned [((B.aM X s).an:Int)]) w2)(dZ:aC cj=x:=by rfl)
 (bL: ∀c q w2,Out N p X S w tv nv E val pl (dt c q) w2->Q (dt c q) w2:=by intro c q w2 ba;unfold dt;go_wp2;exact⟨rfl,ba⟩):
  Hid (aO N p X S w tv nv E val pl bV cU wk s L ((B.take X x s).M K))->aY 63 #[(p,0),cj] wk Q:=by
 subst dZ;exact sV (λ_ _ h _=>va h cj) (λv s2 au U k e=>(dr.take X _ s v s2 au).trans (U k e)) (λv w2 s2 au z=>by
  obtain⟨rfl,rfl,ah⟩:=xT au;exact ok w2 (A ah) z) bL
def acq{x v}(au:B.enter X x s= .ok v s2):v=[(B.aM X s).an]/\s2=B.up (B.bs s)/\B.bw X s x=true:=by
 unfold B.enter at au;split at au
 .cases au
 .cases bI:B.take X x s with
  |o=>rw[bI] at au;cases au
  |bL c q=>rw[bI] at au;cases au
  |ok v3 aq=>
   rw[bI] at au;obtain⟨rfl,rfl,ah⟩:=xT bI;cases au;exact⟨rfl,rfl,ah⟩
def jB(x:List UInt8){cj k}(ok: ∀w2,Hid (B.bw X s x=true)->Hid (aO N p X S w tv nv E val pl bV (some (k+1)) w2 (B.up (B.bs s)) L (K [(B.aM X s).an] (B.up (B.bs s))))->Q (.returned [((B.aM X s).an:Int)]) w2)(dZ:aC cj=x:=by rfl)
 (bL: ∀c q w2,Out N p X S w tv nv E val pl (dt c q) w2->Q (dt c q) w2:=by intro c q w2 ba;unfold dt;go_wp2;exact⟨rfl,ba⟩):
  Hid (aO N p X S w tv nv E val pl bV (some k) wk s L ((B.enter X x s).M K))->aY 141 #[(p,0),cj] wk Q:=by
 subst dZ;exact sV (k2:=some (k+1)) (λ_ _ h _=>F4 h cj) (λv s2 au U k2 e=>by
  cases e;have ah:=dr.enter X _ s v s2 au;have bJ:=U k rfl;omega) (λv w2 s2 au z=>by
  obtain⟨rfl,rfl,ah⟩:=acq au;exact ok w2 (A ah) z) bL
def acr{x v}(au:B.dU X x s= .ok v s2):v=[]/\s2=B.down (B.bs s):=by
 unfold B.dU at au;cases bI:B.take X x s with
 |o=>rw[bI] at au;cases au
 |bL c q=>rw[bI] at au;cases au
 |ok v3 aq=>
  rw[bI] at au;obtain⟨rfl,rfl,ah⟩:=xT bI;cases au;exact⟨rfl,rfl⟩
def lE(x:List UInt8){cj k}(ok: ∀w2,Hid (aO N p X S w tv nv E val pl bV (some k) w2 (B.down (B.bs s)) L (K [] (B.down (B.bs s))))->Q (.returned (.tuple #[])) w2)(dZ:aC cj=x:=by rfl)
 (bL: ∀c q w2,Out N p X S w tv nv E val pl (dt c q) w2->Q (dt c q) w2:=by intro c q w2 ba;unfold dt;go_wp2;exact⟨rfl,ba⟩):
  Hid (aO N p X S w tv nv E val pl bV (some (k+1)) wk s L ((B.dU X x s).M K))->aY 143 #[(p,0),cj] wk Q:=by
 subst dZ;intro z;have R:=uM z;exact sV (k2:=some k) (λ_ _ h _=>Jk h cj R.1) (λv s2 au U k2 e=>by
  cases e;have ah:=dr.dU X _ s v s2 au;have bJ:=U (k+1) rfl;omega) (λv w2 s2 au z=>by
  obtain⟨rfl,rfl⟩:=acr au;exact ok w2 z) bL z
def vR{hx}(cV:tC X S f hx gm)
 (ok: ∀(l:List Nat) (bb:Option Addr) (aQ:Nat) w2 s2,D l<=1000000->Hid (aO N p X S w tv nv E val pl bV cU w2 s2 (.dd (bb,D l,aQ) l::L) (K l s2))->Q (.returned (bb,D l,aQ)) w2)
 (bL: ∀c q w2,Out N p X S w tv nv E val pl (dt c q) w2->Q (dt c q) w2:=by intro c q w2 ba;unfold dt;go_wp2;exact⟨rfl,ba⟩):
  Hid (aO N p X S w tv nv E val pl bV cU wk s L ((gm s).M K))->aY f #[(p,0),.func (.func hx) #[(p,0)] #[]] wk Q:=by
 intro z;obtain⟨aW,ar,bF⟩:=z.o;have ax:gm s≠ .o:=λe=>bF.ne (by rw[bF.eq,e];rfl);refine(cV.1 _ _ _ _ _ _ _ bF.go.st ax).mono ?_;rintro e w2 a_;obtain⟨c,q,au,rfl,G⟩|⟨v,s2,u,cR,h_,au,rfl,R,T,ah,bJ,dH⟩:=a_.parts ax
 .exact bL c q w2 (bF.go.bL G (by rw[bF.eq,au];rfl))
 .obtain⟨bb,aQ,rfl⟩:=eR bJ.row rfl;have fE:=bF.de R T ah (r2:=K v s2) (by rw[au];rfl) (λk e=>(cV.2 _ _ _ au).trans (bF.ib k e));exact ok v bb aQ w2 s2 dH (A ⟨cR,_,fE.go,List.forall_mem_cons.2 ⟨bJ.lift bF.go,fE.fP⟩,List.pairwise_cons.2 ⟨λy _=>by cases y<;>trivial,fE.off⟩,fE.eq,fE.ne,fE.d0,fE.ib⟩)
def vh: ∀{L y},y∈nA L->y∈L/\ ∃q c t,y= .ea q c t
 | .ea q c t::L,y,h=>by
  obtain rfl|h:=List.mem_cons.1 h
  .exact⟨hY ..,q,c,t,rfl⟩
  .exact⟨hP _ (vh h).1,(vh h).2⟩
 | .dd u l::L,y,h=>⟨hP _ (vh (L:=L) h).1,(vh (L:=L) h).2⟩
def J7: ∀{L},L.Pairwise mo.I4->(nA L).Pairwise mo.I4
 |[],_=> .nil
 | .ea q c t::L,h=>List.pairwise_cons.2 ⟨λy bx=>(List.pairwise_cons.1 h).1 y (vh bx).1,J7 (List.pairwise_cons.1 h).2⟩
 | .dd u l::L,h=>J7 (L:=L) (List.pairwise_cons.1 h).2
def DF{x u l}(aF:x.I=l)(cV: ∀aW pq,cn N p wk X S s tv aW pq->jC N wk u x.I->D s.aj<100000->aY f args wk (A_ N p X S wk tv aW pq s x u))
 (ok: ∀(a:Nat) w2 s2,Hid (aO N p X S w tv nv E val pl bV cU w2 s2 (nA L) (K [a] s2))->Q (.returned a) w2):
  Hid (aO N p X S w tv nv E val pl bV cU wk s (.dd u l::L) ((B.put x s).M K))->aY f args wk Q:=by intro z;obtain⟨aW,ar,bF⟩:=z.o;subst aF;have ax:B.put x s≠ .o:=λe=>bF.ne (by rw[bF.eq,e];rfl);have U:cI N w wk (E++ar) u x.I:=bF.fP _ (hY ..);refine b7 (cV _ _ bF.go.st U.row (wq ax)) λw2⟨cR,R,T⟩=>?_;have aB:=bF.go.put R T U.dV;refine ok (D s.aj) w2 (sU x s) (A ⟨cR,ar++[(x,u)],aB,λy bx=>?_,J7 (List.pairwise_cons.1 bF.off).2,bF.eq.trans (by rw[zm ax];rfl),bF.ne,bF.d0,bF.ib⟩);obtain⟨bx,q,c,t,rfl⟩:=vh bx;have ah:=bF.fP _ (hP _ bx);exact⟨ah.1.de bF.go.pl T,ah.2⟩
def xn{x u l}(ok: ∀(a:Nat) w2 s2,Hid (aO N p X S w tv nv E val pl bV cU w2 s2 (nA L) (K [a] s2))->Q (.returned a) w2)(aF:x.I=l:=by rfl):
  Hid (aO N p X S w tv nv E val pl bV cU wk s (.dd u l::L) ((B.put x s).M K))->aY 64 #[(p,0),.agg #[x.j',x.an,x.aX,x.O,u]] wk Q:=
 DF aF (λ_ _ h hu aI=>CY h x u hu aI) ok
def xm{j' at_ u l}(ok: ∀(a:Nat) w2 s2,Hid (aO N p X S w tv nv E val pl bV cU w2 s2 (nA L) (K [a] s2))->Q (.returned a) w2):
  Hid (aO N p X S w tv nv E val pl bV cU wk s (.dd u l::L) ((B.fL j' at_ l s).M K))->aY 178 #[(p,0),j',at_,u] wk Q:=
 DF (x:=⟨j',at_,0,[],l⟩) rfl (λ_ _ h hu aI=>VS h j' at_ l u hu aI) ok
def C1(r:B.aV):r=r.M λv s=> .ok v s:=by cases r<;>rfl
def pu{x u l}(ok: ∀(a:Nat) w2 s2,Hid (aO N p X S w tv nv E val pl bV cU w2 s2 (nA L) (.ok [a] s2))->Q (.returned a) w2)(aF:x.I=l:=by rfl):
  Hid (aO N p X S w tv nv E val pl bV cU wk s (.dd u l::L) (B.put x s))->aY 64 #[(p,0),.agg #[x.j',x.an,x.aX,x.O,u]] wk Q:=λz=>
 xn (K:=λv s=> .ok v s) ok aF (dM (C1 _) z)
def bH{j' at_ u l}(ok: ∀(a:Nat) w2 s2,Hid (aO N p X S w tv nv E val pl bV cU w2 s2 (nA L) (.ok [a] s2))->Q (.returned a) w2):
  Hid (aO N p X S w tv nv E val pl bV cU wk s (.dd u l::L) (B.fL j' at_ l s))->aY 178 #[(p,0),j',at_,u] wk Q:=λz=>
 xm (K:=λv s=> .ok v s) ok (dM (C1 _) z)
def MX (X:B.Src)(S:ByteArray)(plain:B.ak->B.aV):Prop:=
 ∀(N p nb:Nat) (w0 w:ai) (s:B.ak) (tv nv:af) (E:List (aP×af)),p<w0.heap.size->cn N p w X S s tv nv E->eM w0 w nv nb #[(p,0)] 75->plain s≠ .o->aY 138 #[(p,0),.func (.func 140) #[] #[(nb,0)]] w (jM N p X S w tv nv E (plain s))
def ahM{nb}(c0:MX X S gm)(bB: ∀s,dr (gm s) s.bR)
 (ok: ∀(l:List Nat) (bb:Option Addr) (aQ:Nat) w2 s2,D l<=1000000->Hid (aO N p X S w tv nv E val pl bV cU w2 s2 (.dd (bb,D l,aQ) l::x:: .ea nb #[(p,0)] 75::L) (K l s2))->Q (.returned (bb,D l,aQ)) w2)
 (bL: ∀c q w2,Out N p X S w tv nv E val pl (dt c q) w2->Q (dt c q) w2:=by intro c q w2 ba;unfold dt;go_wp2;exact⟨rfl,ba⟩):
  Hid (aO N p X S w tv nv E val pl bV cU wk s (x:: .ea nb #[(p,0)] 75::L) ((gm s).M K))->aY 138 #[(p,0),.func (.func 140) #[] #[(nb,0)]] wk Q:=by
 intro z;obtain⟨aW,ar,bF⟩:=z.o;have ax:gm s≠ .o:=λe=>bF.ne (by rw[bF.eq,e];rfl);have aF:eM w wk aW nb #[(p,0)] 75:=(bF.fP _ (hP _ (hY ..))).1;refine(c0 _ _ _ _ _ _ _ _ _ bF.go.pl bF.go.st aF ax).mono ?_;rintro e w2 a_;obtain⟨c,q,au,rfl,G⟩|⟨v,s2,u,cR,h_,au,rfl,R,T,ah,bJ,dH⟩:=a_.parts ax
 .exact bL c q w2 (bF.go.bL G (by rw[bF.eq,au];rfl))
 .obtain⟨bb,aQ,rfl⟩:=eR bJ.row rfl;have fE:=bF.de R T ah (r2:=K v s2) (by rw[au];rfl) (λk e=>(bB _ _ _ au).trans (bF.ib k e));exact ok v bb aQ w2 s2 dH (A ⟨cR,_,fE.go,List.forall_mem_cons.2 ⟨bJ.lift bF.go,fE.fP⟩,List.pairwise_cons.2 ⟨λy _=>by cases y<;>trivial,fE.off⟩,fE.eq,fE.ne,fE.d0,fE.ib⟩)
def GZ{c}(z:Hid (aO N p X S w tv nv E val pl bV cU wk s L (B.fail X c s)))
 (bL: ∀c q w2,Out N p X S w tv nv E val pl (dt c q) w2->Q (dt c q) w2:=by intro c q w2 ba;unfold dt;go_wp2;exact⟨rfl,ba⟩):aY 29 #[(p,0),c] wk Q:=by obtain⟨aW,ar,bF⟩:=z.o;refine b7 (CV bF.go.st c) λw2 G=>?_;exact bL _ _ _ (bF.go.bL (G.mono bF.go.st.jo) bF.eq)
def n8{c} [Decidable c](a b:B.aV)(g:List Nat->B.ak->B.aV):(if c then a else b).M g=if c then a.M g else b.M g:=by split<;>rfl
def ng (c:B.ak->Bool)(lp:Nat->List Nat->B.ak->B.aV)(m:Nat)(d':List Nat)(s:B.ak):B.aV:=if c s=true then .ok d' s else lp m d' s
def I5{c:B.ak->Bool}{lp:Nat->List Nat->B.ak->B.aV}{m d'}{g:List Nat->B.ak->B.aV}:(ng c lp m d' s).M g=if c s=true then g d' s else(lp m d' s).M g:=n8 _ _ _
def vE{lp:Nat->List Nat->B.ak->B.aV}{m d'}{g:List Nat->B.ak->B.aV}(aH: ∀a s,lp 0 a s= .o)(h:Hid (aO N p X S w tv nv E val pl bV cU wk s L ((lp m d' s).M g))): ∃k,m=k+1:=by
 obtain⟨_,_,h⟩:=h.o;cases m with
 |zero=>exact absurd (h.eq.trans (by rw[aH];rfl)) h.ne
 |succ k=>exact⟨k,rfl⟩
def yI{c:B.ak->Bool}{lp:Nat->List Nat->B.ak->B.aV}{one:Nat->List Nat->B.ak->B.aV}{m d'}{g:List Nat->B.ak->B.aV}(aH: ∀a s,lp 0 a s= .o)(hs: ∀m a s,lp (m+1) a s=if c s=true then .ok a s else one m a s)(h:Hid (aO N p X S w tv nv E val pl bV cU wk s L ((lp m d' s).M g))):Hid (aO N p X S w tv nv E val pl bV cU wk s L ((ng c lp m d' s).M g)):=by obtain⟨k,rfl⟩:=vE aH h;refine dM ?_ h;rw[I5,hs,n8];split<;>rfl
def cl(h:Hid (aO N p X S w tv nv E val pl bV cU wk s L r)):Hid (aO N p X S w tv nv E val pl bV cU wk s (.dd (.slice none 0 0) []::L) r):=by obtain⟨aW,ar,h⟩:=h.o;exact A ⟨aW,ar,h.go,List.forall_mem_cons.2 ⟨cI.nil _ _ _ _,h.fP⟩,List.pairwise_cons.2 ⟨λy _=>by cases y<;>trivial,h.off⟩,h.eq,h.ne,h.d0,h.ib⟩
def rE{y}(h:Hid (aO N p X S w tv nv E val pl bV cU wk s (x::y::L) r)):Hid (aO N p X S w tv nv E val pl bV cU wk s (y::x::L) r):=by
 obtain⟨aW,ar,h⟩:=h.o;have R:=List.pairwise_cons.1 h.off;have T:=List.pairwise_cons.1 R.2;refine A ⟨aW,ar,h.go,λbp hz=>h.fP bp ?_,List.pairwise_cons.2 ⟨λbp hz=>?_,List.pairwise_cons.2 ⟨λbp hz=>R.1 bp (hP _ hz),T.2⟩⟩,h.eq,h.ne,h.d0,h.ib⟩
 .obtain rfl|hz:=List.mem_cons.1 hz
  .exact hP _ (hY ..)
  .obtain rfl|hz:=List.mem_cons.1 hz
   .exact hY ..
   .exact hP _ (hP _ hz)
 .obtain rfl|hz:=List.mem_cons.1 hz
  .have ah:=R.1 y (hY ..);cases bp<;>cases y<;>first|trivial|exact λe=>ah e.symm
  .exact T.1 bp hz
def nZ(h:Hid (aO N p X S w tv nv E val pl bV cU wk s (x::L) r)):Hid (aO N p X S w tv nv E val pl bV cU wk s L r):=by obtain⟨aW,ar,h⟩:=h.o;exact A ⟨aW,ar,h.go,(List.forall_mem_cons.1 h.fP).2,(List.pairwise_cons.1 h.off).2,h.eq,h.ne,h.d0,h.ib⟩
def qD(c:Array af)(t:TypeId)(h:Hid (aO N p X S w tv nv E val pl bV cU wk s L r))(bI:3≠t:=by decide): ∃w2 q,aA wk (.cells c t)=w2/\wk.heap.size=q/\q<w2.heap.size/\Hid (aO N p X S w tv nv E val pl bV cU w2 s (.ea q c t::L) r):=by
 obtain⟨aW,ar,h⟩:=h.o;have T:=h.below ((aT _ _).alloc (bD _) (.cells c t));refine⟨_,_,rfl,rfl,by simp,A ⟨aW,ar,T.go,List.forall_mem_cons.2 ⟨⟨eM.new h.go c t,bI⟩,T.fP⟩,List.pairwise_cons.2 ⟨λy bx=>?_,h.off⟩,h.eq,h.ne,h.d0,h.ib⟩⟩;have ah:=h.fP y bx;cases y with
 |ea cw cK t2=>exact λe=>absurd ah.1.lt (by rw[<-e];exact Nat.lt_irrefl _)
 |dd u l=>trivial
def vo(l:List Nat)(hl:D l<=1000)(h:Hid (aO N p X S w tv nv E val pl bV cU wk s L r)): ∃w2 q,aA wk (.cells (fh l).toArray 3)=w2/\wk.heap.size=q/\q<w2.heap.size/\Hid (aO N p X S w tv nv E val pl bV cU w2 s (.dd (q,D l,D l) l::L) r):=by obtain⟨aW,ar,h⟩:=h.o;have T:=h.below ((aT _ _).alloc (bD _) (.cells (fh l).toArray 3));exact⟨_,_,rfl,rfl,by simp,A ⟨aW,ar,T.go,List.forall_mem_cons.2 ⟨cI.new h.go l hl,T.fP⟩,List.pairwise_cons.2 ⟨λy _=>by cases y<;>trivial,h.off⟩,h.eq,h.ne,h.d0,h.ib⟩⟩
def iE(a:Nat)(h:Hid (aO N p X S w tv nv E val pl bV cU wk s L r)): ∃w2 q,aA wk (aw #[a] 3)=w2/\wk.heap.size=q/\q<w2.heap.size/\Hid (aO N p X S w tv nv E val pl bV cU w2 s (.dd (.slice (some q) 1 1) [a]::L) r):=vo [a] bT h
def mf(a b:Nat)(h:Hid (aO N p X S w tv nv E val pl bV cU wk s L r)): ∃w2 q,aA wk (aw #[a,b] 3)=w2/\wk.heap.size=q/\q<w2.heap.size/\Hid (aO N p X S w tv nv E val pl bV cU w2 s (.dd (.slice (some q) 2 2) [a,b]::L) r):=vo [a,b] bT h
def MW(a b c:Nat)(h:Hid (aO N p X S w tv nv E val pl bV cU wk s L r)): ∃w2 q,aA wk (aw #[a,b,c] 3)=w2/\wk.heap.size=q/\q<w2.heap.size/\Hid (aO N p X S w tv nv E val pl bV cU w2 s (.dd (.slice (some q) 3 3) [a,b,c]::L) r):=vo [a,b,c] bT h
def oN(t:aa.Tok)(h:Hid (aO N p X S w tv nv E val pl bV cU wk s L r)): ∃w2 q,aA wk (aw #[t.j',t.O,t.aX,t.an] 97)=w2/\wk.heap.size=q/\q<w2.heap.size/\Hid (aO N p X S w tv nv E val pl bV cU w2 s (.ea q #[t.j',t.O,t.aX,t.an] 97::L) r):=qD _ _ h
def rY(c:Array af)(t:TypeId)(h:Hid (aO N p X S w tv nv E val pl bV cU wk s L r))(bI:3≠t:=by decide):Hid (aO N p X S w tv nv E val pl bV cU (aA wk (.cells c t)) s (.ea wk.heap.size c t::L) r):=by obtain⟨_,_,rfl,rfl,_,T⟩:=qD c t h bI;exact T
def Bd(a:Nat)(h:Hid (aO N p X S w tv nv E val pl bV cU wk s L r)):Hid (aO N p X S w tv nv E val pl bV cU (aA wk (aw #[a] 3)) s (.dd (.slice (some wk.heap.size) 1 1) [a]::L) r):=by obtain⟨_,_,rfl,rfl,_,T⟩:=iE a h;exact T
def Vi(a b:Nat)(h:Hid (aO N p X S w tv nv E val pl bV cU wk s L r)):Hid (aO N p X S w tv nv E val pl bV cU (aA wk (aw #[a,b] 3)) s (.dd (.slice (some wk.heap.size) 2 2) [a,b]::L) r):=by obtain⟨_,_,rfl,rfl,_,T⟩:=mf a b h;exact T
def MU(a:Nat)(c:Array af)(t:TypeId)(h:Hid (aO N p X S w tv nv E val pl bV cU wk s L r))(bI:3≠t:=by decide):Hid (aO N p X S w tv nv E val pl bV cU (aA (aA wk (aw #[a] 3)) (.cells c t)) s (.ea (wk.heap.size+1) c t:: .dd (.slice (some wk.heap.size) 1 1) [a]::L) r):=by have T:=rY c t (Bd a h) bI;rwa[show(aA wk (aw #[a] 3)).heap.size=wk.heap.size+1 by simp] at T
def sN{ad v}(h:Hid (aO N p X S w tv nv E val pl bV cU (a7 wk ad v) s L r)): ∃w2,a7 wk ad v=w2/\wk.heap.size=w2.heap.size/\Hid (aO N p X S w tv nv E val pl bV cU w2 s L r):=⟨_,rfl,by simp,h⟩
variable{q:Nat}{c cK:Array af}{t:TypeId}
def c'(h:Hid (aO N p X S w tv nv E val pl bV cU wk s (.ea q c t::L) r)):(∀i,aG wk ⟨q,i,none⟩=c[i]?)/\(∀i,wk.frozen? ⟨q,i,none⟩=false)/\q<wk.heap.size:=by obtain⟨aW,ar,h⟩:=h.o;have R:eM w wk aW q c t:=(h.fP _ (hY ..)).1;exact⟨R.cell,R.free,R.lt⟩
def dk(h:Hid (aO N p X S w tv nv E val pl bV cU wk s (x:: .ea q c t::L) r)):(∀i,aG wk ⟨q,i,none⟩=c[i]?)/\(∀i,wk.frozen? ⟨q,i,none⟩=false)/\q<wk.heap.size:=c' (nZ h)
def Am{y}(h:Hid (aO N p X S w tv nv E val pl bV cU wk s (x::y:: .ea q c t::L) r)):(∀i,aG wk ⟨q,i,none⟩=c[i]?)/\(∀i,wk.frozen? ⟨q,i,none⟩=false)/\q<wk.heap.size:=dk (nZ h)
def lM(i:Nat)(v)(h:Hid (aO N p X S w tv nv E val pl bV cU wk s (.ea q c t::L) r))(e:c.setIfInBounds i v=cK:=by simp only[ld,lf,lg];rfl):Hid (aO N p X S w tv nv E val pl bV cU (a7 wk (q,i) v) s (.ea q cK t::L) r):=by
 obtain⟨aW,ar,h⟩:=h.o;subst e;have R:eM w wk aW q c t/\3≠t:=h.fP _ (hY ..);have T:=List.pairwise_cons.1 h.off;refine A ⟨aW,ar,R.1.go h.go R.2 i v,List.forall_mem_cons.2 ⟨⟨R.1.set i v,R.2⟩,λy bx=>?_⟩,List.pairwise_cons.2 ⟨λy bx=>?_,T.2⟩,h.eq,h.ne,h.d0,h.ib⟩
 .have ah:=h.fP y (hP _ bx);have bJ:=T.1 y bx;cases y with
  |ea da c3 t3=>exact⟨ah.1.Au (λe=>bJ e.symm) i v,ah.2⟩
  |dd u l=>exact cI.set ah R.1.blk R.2 i v
 .have bJ:=T.1 y bx;cases y with
  |ea da c3 t3=>exact bJ
  |dd u l=>trivial
def fV(i:Nat)(v)(h:Hid (aO N p X S w tv nv E val pl bV cU wk s (x:: .ea q c t::L) r))(e:c.setIfInBounds i v=cK:=by simp only[ld,lf,lg];rfl):Hid (aO N p X S w tv nv E val pl bV cU (a7 wk (q,i) v) s (x:: .ea q cK t::L) r):=rE (lM i v (rE h) e)
def A6{F}(bF:Go N p X S w tv nv E wk s aW ar)(h: ∀x∈L,x.Ok N w wk aW F)(i v): ∀x∈L,x.Ok N w (a7 wk ⟨p,i,none⟩ v) aW F:=λy bx=>by
 have ah:=h y bx;cases y with
 |ea da c3 t3=>exact⟨ah.1.rC bF.pl i v,ah.2⟩
 |dd u l=>exact cI.set ah bF.st.blk aN i v
def jD{k}(h:Hid (aO N p X S w tv nv E val pl bV (some (k+1)) wk s L r)):Hid (aO N p X S w tv nv E val pl bV (some k) (a7 wk (p,3) [(s.bR- 1:Int)]) (B.down s) L r):=by
 have R:=uM h;obtain⟨aW,ar,h⟩:=h.o;exact A ⟨aW,ar,h.go.bR (d:=s.bR- 1) J J,A6 h.go h.fP _ _,h.off,h.eq,h.ne,h.d0,λk2 e=>by
  cases e;have bJ:=h.ib _ rfl;show s.bR- 1=_;omega⟩
def jF(ay:s.i<D X.bu)(h:Hid (aO N p X S w tv nv E val pl bV cU wk s L r)):Hid (aO N p X S w tv nv E val pl bV cU (a7 wk (p,2) [((s.i:Int)+1:Int)]) (B.bs s) L r):=by obtain⟨aW,ar,h⟩:=h.o;exact A ⟨aW,ar,h.go.bs ay,A6 h.go h.fP _ _,h.off,h.eq,h.ne,h.d0,h.ib⟩
def Cl(ay:s.i+2<=D X.bu)(h:Hid (aO N p X S w tv nv E val pl bV cU wk s L r)):Hid (aO N p X S w tv nv E val pl bV cU (a7 wk (p,2) [((s.i:Int)+2:Int)]) (B.ll s) L r):=by obtain⟨aW,ar,h⟩:=h.o;exact A ⟨aW,ar,h.go.ll ay,A6 h.go h.fP _ _,h.off,h.eq,h.ne,h.d0,h.ib⟩
def hK(k:Nat)(ay:s.i+k<=D X.bu)(h:Hid (aO N p X S w tv nv E val pl bV cU wk s L r)):IntKind.i64.wrap ((s.i:Int)+(k:Int))=(s.i:Int)+(k:Int):=by have:=Gn h;exact dI _ J
def wh(h:Hid (aO N p X S w tv nv E val pl bV cU wk s L r)):Hid (aO N p X S w tv nv E val pl bV cU wk.drew s L r):=by obtain⟨aW,ar,h⟩:=h.o;exact A ⟨aW,ar,h.below (aT _ _).drew⟩
def MC(cj)(h:Hid (aO N p X S w tv nv E val pl bV cU wk s L r))(bg:s.i+1<D X.bu): ∃(g gc:Nat) (ae:List UInt8),IntKind.i64.wrap ((s.i:Int)+1)=((s.i+1:Nat):Int)/\(0:Int)<=(s.i:Int)+1/\(s.i:Int)+1<(D X.bu:Int)/\decide ((s.i:Int)+1<(D X.bu:Int))=true/\
  aG wk (p,1)=some (g,D X.bu,gc)/\aG wk (p,2)=some [s.i]/\aG wk (g,(s.i+1)*4+1)=some [ae]/\((str ae).toList==cj)=B.ht X s cj:=by have R:=Gn h;obtain⟨aW,ar,h⟩:=aO.st h;have bI:=h.bu;have hc:=h.bq;obtain⟨g,gc,rfl⟩:=dR bI J;refine⟨g,gc,(Y X.bu (s.i+1) (iz X)).O,by rw[dI _ J];rfl,by omega,by omega,by simp;omega,hc,h.cK,(C4 bI bg (iz X)).2.1,?_⟩;rw[Gg];unfold B.ht;simp[bg]
def MD(cj)(h:Hid (aO N p X S w tv nv E val pl bV cU wk s L r))(bg: ¬s.i+1<D X.bu): ∃bb aQ,IntKind.i64.wrap ((s.i:Int)+1)=((s.i+1:Nat):Int)/\decide ((s.i:Int)+1<(D X.bu:Int))=false/\
  aG wk (p,1)=some (.slice bb (D X.bu) aQ)/\aG wk (p,2)=some [s.i]/\B.ht X s cj=false:=by have R:=Gn h;obtain⟨aW,ar,h⟩:=aO.st h;have hc:=h.bq;obtain⟨bb,aQ,rfl⟩:=eR h.bu rfl;refine⟨bb,aQ,by rw[dI _ J];rfl,by simp;omega,hc,h.cK,?_⟩;unfold B.ht;simp[bg]
def mg(ay:s.i<D X.bu)(h:Hid (aO N p X S w tv nv E val pl bV cU wk s L r)):IntKind.i64.wrap ((s.i:Int)+1)=(s.i:Int)+1:=hK 1 ay h
def Gh{cj}(h:Hid (B.ht X s cj=true)):s.i+2<=D X.bu:=by have R:=h.o;unfold B.ht at R;simp only[pv,pt] at R;omega
def ti{cj}(h:Hid (B.ht X s cj=true))(bF:Hid (aO N p X S w tv nv E val pl bV cU wk s L r)):IntKind.i64.wrap ((s.i:Int)+2)=(s.i:Int)+2:=hK 2 (Gh h) bF
section
variable{id:Nat}{ops:Array Oper}{er:Exit->Act->ai->Prop}{a:Act}{md:Region.Mode}{fuel:Nat}{dB:Array Bool}{c2:ai->Prop}
def aiV(c2:ai->Prop)(aD: ∀w2,Hid (aO N p X S w tv nv E val pl bV cU w2 s L r)->(∀a,aG w2 a=aG wk a)->c2 w2)(h: ∀w2,Hid (aO N p X S w tv nv E val pl bV cU w2 s L r)->c2 w2->wpAnyH prog .any ops er c2 ops.size (vy ops.size false) a w2)(hm:prog.follows .mixedOrders=true:=by kernel_rfl):Hid (aO N p X S w tv nv E val pl bV cU wk s L r)->(Code.region id ops true).wp prog er a wk:=by intro z;obtain⟨aW,ar,T⟩:=z.o;have ah:Hid (aO N p X S w tv nv E val pl bV cU wk.drew s L r):=A ⟨aW,ar,T.below (aT _ _).drew⟩;exact lV (S:=c2) hm (aD _ ah λ_=>rfl) (λaB=>h _ ah aB)
def bB(h: ∀w2,Hid (aO N p X S w tv nv E val pl bV cU w2 s L r)->ru L w2->wpAnyH prog .any ops er (ru L) ops.size (vy ops.size false) a w2)(hm:prog.follows .mixedOrders=true:=by kernel_rfl):Hid (aO N p X S w tv nv E val pl bV cU wk s L r)->(Code.region id ops true).wp prog er a wk:=
 aiV (ru L) (λ_ ah _=>jj ah) h hm
def cb(i:Nat){fa v l2 a2}
 (h:wpAnyH prog md ops er (ru L) fuel l2 a2 wk)
 (ay:ops[i]?=some fa:=by rfl)(hs:Region.noSelect ops=true:=by kernel_rfl)(aI:Region.free md ops dB i=true:=by kernel_rfl)(au:(nE md ops dB).contains i=true:=by kernel_rfl)
 (hQ: ∀c a w,er (.panic c) (a.put fa.dst v) w->er (.panic c) a w:=by exact λ_ _ _ h=>h)
 (hw:nF fa (yielded ops a.tmps)=true:=by rfl)
 (bx: ∀w,ru L w->(execOp a.eval fa).run prog w= .ok (.value v) w:=by intro w vT;simp only[ru,and_true] at vT;(first|(go_simp;done)|(go_simp;with_reducible rfl)))
 (aD:ru L wk:=by assumption)
 (aR:a.put fa.dst v=a2:=by simp only[Act.put,List.getElem_toArray,List.getElem_cons_succ,List.getElem_cons_zero,ld,lf,lg];rfl)
 (hl:dB.setIfInBounds i true=l2:=by first|(simp only[ld,lf,lg];rfl)|rfl):wpAnyH prog md ops er (ru L) (fuel+1) dB a wk:=by subst aR hl;exact wpAnyH_take ay hs aI au hQ (Or.inl ⟨hw,bx⟩) aD h
def gw(i:Nat){o}(h: ∀gI:Act->ai->Prop,Shut (∀a w,c2 w->(c2 w->wpAnyH prog md ops er c2 fuel (dB.setIfInBounds i true) a w)->gI a w)->if nF o (yielded ops a.tmps)=true then Oper.wp prog o a wk gI er else gI (a.put o.dst eb) wk)
 (bX:ops[i]?=some o:=by rfl)(au:nE md ops dB=[i]:=by kernel_rfl):wpAnyH prog md ops er c2 (fuel+1) dB a wk:=
 wpAnyH_ready au bT (AllReadyH.cons bX h AllReadyH.nil)
def Vj(i j:Nat){o nS}(h: ∀gI:Act->ai->Prop,Shut (∀a w,c2 w->(c2 w->wpAnyH prog md ops er c2 fuel (dB.setIfInBounds i true) a w)->gI a w)->if nF o (yielded ops a.tmps)=true then Oper.wp prog o a wk gI er else gI (a.put o.dst eb) wk)
 (T: ∀gI:Act->ai->Prop,Shut (∀a w,c2 w->(c2 w->wpAnyH prog md ops er c2 fuel (dB.setIfInBounds j true) a w)->gI a w)->if nF nS (yielded ops a.tmps)=true then Oper.wp prog nS a wk gI er else gI (a.put nS.dst eb) wk)
 (bX:ops[i]?=some o:=by rfl)(rJ:ops[j]?=some nS:=by rfl)(au:nE md ops dB=[i,j]:=by kernel_rfl):wpAnyH prog md ops er c2 (fuel+1) dB a wk:=
 wpAnyH_ready au bT (AllReadyH.cons bX h (AllReadyH.cons rJ T AllReadyH.nil))
def gz(h:er .normal a wk)(au:nE md ops dB=[]:=by kernel_rfl):wpAnyH prog md ops er c2 fuel dB a wk:=p2 au h _
def IQ(h: ∀w2,Hid (aO N p X S w tv nv E val pl bV cU w2 s L r)->wpAny prog .any ops er ops.size (vy ops.size false) a w2)(hm:prog.follows .mixedOrders=true:=by kernel_rfl):Hid (aO N p X S w tv nv E val pl bV cU wk s L r)->(Code.region id ops true).wp prog er a wk:=λz=>
 wp_region_any hm (h _ (wh z))
def oE(i:Nat){fa v l2 a2}
 (h:wpAny prog md ops er fuel l2 a2 wk)
 (ay:ops[i]?=some fa:=by rfl)(hs:Region.noSelect ops=true:=by kernel_rfl)(aI:Region.free md ops dB i=true:=by kernel_rfl)(au:(nE md ops dB).contains i=true:=by kernel_rfl)
 (hQ: ∀c a w,er (.panic c) (a.put fa.dst v) w->er (.panic c) a w:=by exact λ_ _ _ h=>h)
 (hw:nF fa (yielded ops a.tmps)=true:=by rfl)
 (bx: ∀w,(execOp a.eval fa).run prog w= .ok (.value v) w:=by intro w;(first|(go_simp;done)|(go_simp;with_reducible rfl)))
 (aR:a.put fa.dst v=a2:=by simp only[Act.put,List.getElem_toArray,List.getElem_cons_succ,List.getElem_cons_zero,ld,lf,lg];rfl)
 (hl:dB.setIfInBounds i true=l2:=by first|(simp only[ld,lf,lg];rfl)|rfl):wpAny prog md ops er (fuel+1) dB a wk:=by subst aR hl;exact wpAny_take ay hs aI au hQ (Or.inl ⟨hw,bx⟩) h
def iv(i:Nat){o}(h: ∀gI:Act->ai->Prop,(∀a w,wpAny prog md ops er fuel (dB.setIfInBounds i true) a w->gI a w)->if nF o (yielded ops a.tmps)=true then Oper.wp prog o a wk gI er else gI (a.put o.dst eb) wk)
 (bX:ops[i]?=some o:=by rfl)(au:nE md ops dB=[i]:=by kernel_rfl):wpAny prog md ops er (fuel+1) dB a wk:=
 tB au bT (p4 bX h rV)
def yH(i j:Nat){o nS}(h: ∀gI:Act->ai->Prop,(∀a w,wpAny prog md ops er fuel (dB.setIfInBounds i true) a w->gI a w)->if nF o (yielded ops a.tmps)=true then Oper.wp prog o a wk gI er else gI (a.put o.dst eb) wk)
 (T: ∀gI:Act->ai->Prop,(∀a w,wpAny prog md ops er fuel (dB.setIfInBounds j true) a w->gI a w)->if nF nS (yielded ops a.tmps)=true then Oper.wp prog nS a wk gI er else gI (a.put nS.dst eb) wk)
 (bX:ops[i]?=some o:=by rfl)(rJ:ops[j]?=some nS:=by rfl)(au:nE md ops dB=[i,j]:=by kernel_rfl):wpAny prog md ops er (fuel+1) dB a wk:=
 tB au bT (p4 bX h (p4 rJ T rV))
def tL(h:er .normal a wk)(au:nE md ops dB=[]:=by kernel_rfl):wpAny prog md ops er fuel dB a wk:=wpAny_done au h _
def yv{u:af}{l:List Nat}{k:Nat}{a6:ai}{g cap:Nat}(h:Hid (aO N p X S w tv nv E val pl bV cU wk s (.dd u l::L) r))(h8:nA L=L)(fF:a6.ownsRow N 3 1 (g,D l+1,cap) (D l+1) (fh l++fh [k]))(dv:(aA wk (aw #[k] 3)).grownBy a6 u.ownBlock)(e1:u.ownBlock=some g\/g=wk.heap.size+1):
  Hid (aO N p X S w tv nv E val pl bV cU a6 s (.dd (g,D l+1,cap) (l++[k])::L) r):=by obtain⟨aW,ar,h⟩:=h.o;have U:cI N w wk (E++ar) u l:=h.fP _ (hY ..);obtain⟨a1,a2,a3⟩:=U.grown (l2:=[k]) h.go fF rfl dv e1;refine A ⟨aW,ar,a1,List.forall_mem_cons.2 ⟨a2,λy bx=>?_⟩,List.pairwise_cons.2 ⟨λy _=>by cases y<;>trivial,(List.pairwise_cons.1 h.off).2⟩,h.eq,h.ne,h.d0,h.ib⟩;obtain⟨_,q,c,t,rfl⟩:=vh (h8▸bx);have ah:=h.fP _ (hP _ bx);exact⟨⟨(a3 q ah.1.lt (λe=>mu U.row ah.1.blk ah.2 e)).trans ah.1.blk,ah.1.dV,ah.1.ne⟩,ah.2⟩
def o_ {u:af} {l:List Nat} (k:Nat) {rest:List Oper} {o:Oper} {s0 cF:Operand} (hl:l.length<=1000000)
  (h: ∀g cap a6,Hid (aO N p X S w tv nv E val pl bV cU a6 s (.dd (.slice (some ⟨g,0,none⟩) (l.length+1) cap) (l++[k])::L) r)->fo prog ops er rest (a.put o.dst (.slice (some ⟨g,0,none⟩) (l.length+1) cap)) a6)
  (h8:nA L=L:=by rfl) (jO:o.guard=none:=by rfl) (bX:o.op= .call {callee:= .builtin .append,args:= #[s0,cF],argTypes:= #[28,28]}:=by rfl) (hs:a.eval s0=u:=by rfl) (aF:a.eval cF= .slice (some ⟨wk.heap.size,0,none⟩) 1 1:=by rfl):
  Hid (aO N p X S w tv nv E val pl bV cU wk s (.dd u l::L) r)->fo prog ops er (o::rest) a (wk.alloc (.cells #[.int .i64 (k:Int)] 3)):=by
 intro z;obtain⟨aW,ar,bF⟩:=z.o;have U:cI N w wk (E++ar) u l:=bF.fP _ (hY ..);obtain⟨i0,fM,e',e_,ff⟩:=kT r1;have hN:=bF.go.st.jo;refine tI _ jO s0 cF 28 bX N 3 i0 _ 1 8 rN fM e' e_ ff rfl (by omega) u l.length (fh l) hs (U.alloc _).row ⟨wk.heap.size,0,none⟩ 1 1 [k] aF rfl (j7 (cs:= #[k]) (t:=3) (fr:=(0,0)) (hf _ _)) (by intro x aF;simp at aF;subst aF;rfl) (by omega) (by unfold dc;omega) (by omega) (by simp;omega) (wk.heap.size+1) (by simp) ?_;intro g cap a6 fF dv e1 _;exact h g cap a6 (yv z h8 fF dv e1)
def sg {u:af} {l:List Nat} (k:Nat) {o:Oper} {s0 cF:Operand} {bP:Prop} {gI:Act->ai->Prop} (hl:l.length<=1000000)
  (h: ∀g cap a6,Hid (aO N p X S w tv nv E val pl bV cU a6 s (.dd (.slice (some ⟨g,0,none⟩) (l.length+1) cap) (l++[k])::L) r)->gI (a.put o.dst (.slice (some ⟨g,0,none⟩) (l.length+1) cap)) a6)
  (h8:nA L=L:=by rfl) (jO:o.guard=none:=by rfl) (bX:o.op= .call {callee:= .builtin .append,args:= #[s0,cF],argTypes:= #[28,28]}:=by rfl) (hs:a.eval s0=u:=by rfl) (aF:a.eval cF= .slice (some ⟨wk.heap.size,0,none⟩) 1 1:=by rfl):
  Hid (aO N p X S w tv nv E val pl bV cU wk s (.dd u l::L) r)->if nF o (yielded ops a.tmps)=true then Oper.wp prog o a (wk.alloc (.cells #[.int .i64 (k:Int)] 3)) gI er else bP:=by
 intro z;obtain⟨aW,ar,bF⟩:=z.o;have U:cI N w wk (E++ar) u l:=bF.fP _ (hY ..);obtain⟨i0,fM,e',e_,ff⟩:=kT r1;have hN:=bF.go.st.jo;refine tJ _ jO s0 cF 28 bX N 3 i0 _ 1 8 rN fM e' e_ ff rfl (by omega) u l.length (fh l) hs (U.alloc _).row ⟨wk.heap.size,0,none⟩ 1 1 [k] aF rfl (j7 (cs:= #[k]) (t:=3) (fr:=(0,0)) (hf _ _)) (by intro x aF;simp at aF;subst aF;rfl) (by omega) (by unfold dc;omega) (by omega) (by simp;omega) (wk.heap.size+1) (by simp) ?_;intro g cap a6 fF dv e1 _;exact h g cap a6 (yv z h8 fF dv e1)
end
end
end Go.Proofs.YtjfkhpkicioakaaGreatDoor
