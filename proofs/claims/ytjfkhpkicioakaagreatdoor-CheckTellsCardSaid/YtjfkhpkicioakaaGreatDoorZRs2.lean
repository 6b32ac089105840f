/- PROVED HERE: the parser of the reference, walked. No condition. -/
import Derived.Test.YtjfkhpkicioakaaGreatDoorZLx1
import Derived.Test.YtjfkhpkicioakaaGreatDoorZRs1
import Derived.Test.YtjfkhpkicioakaaGreatDoorZP3
import Derived.Test.YtjfkhpkicioakaaGreatDoorZPs2
set_option maxRecDepth 100000
set_option maxHeartbeats 60000000
set_option linter.all false
open Go renaming Value->af,World->ai,results->iX
open Go.Lib renaming hid->sz
open Go.RowKit renaming Below->aL
open Go.World renaming alloc->aA,setCell->a7
open List renaming getD->Y,length->D
open Go.Proofs.YtjfkhpkicioakaaGreatDoor.B hiding KR ch fail i' n8
open Go.Proofs.YtjfkhpkicioakaaGreatDoor.W
open Go.Proofs.Tryz
namespace Go.Proofs.YtjfkhpkicioakaaGreatDoor
open Go.RowKit
namespace il
section
variable{N p:Nat}{w:ai}{X:B.Src}{S:ByteArray}{s:W.ak}{tv nv:af}{E:List (aP×af)}
def v_ (X:B.Src)(s:W.ak):Bool:=tT X s||gJ s
def aeP{X s}(h:W.bw X s dm=true):v_ X s=true:=by unfold v_ tT;rw[h,Bool.or_true,Bool.true_or]
def W1(n:Nat)(ax:n<=1000000)(br:Hid (∀m,m<n->ed X S 165 (W.run X m (.b6 0)) [(0:Int)]))(kN:Hid (∀m,m<n->ed X S 126 (W.run X m .stmt)))(at_:Nat)(h:cn N p w X S s tv nv E)(aZ:W.choice X (W.run X n) at_ s≠ .o):aY 168 #[(p,0),at_] w (Out N p X S w tv nv E cD (W.choice X (W.run X n) at_ s)):=by
 skip;have z:=cF h aZ (by unfold W.choice;exact rfl);go_in;have Go:=0;go_wp2;obtain⟨w1,c9,ag,aE,ig,z⟩:=qD #[(26:Int),at_,(0:Int),.string ⟨#[]⟩,.slice none 0 0] 53 z;rw[ag,aE];revert z;refine jB qM λw2 s2 z=>?_;have z:=q9 (t:=jh X) (lp:=(λm a s=>W.run X m (.cases a) s)) (g:=(tw X λl aq=>W.put ⟨26,at_,0,[],l⟩ aq)) (λ_ _=>rfl) (λm a s h=>aS h) z;go_wp2;revert z;refine q' dm λy3 bc fu z=>?_;go_wp2;go_loopg[6] n (λm e wr=> ∃(d':List Nat) (bf:W.ak) (bb:Option Addr) (aQ:Nat),e= .bool (W.bw X bf dm)/\D d'+m=n/\Hid (aO N p X S w tv nv E (W.choice X (W.run X n) at_ s) wr bf [.dd (bb,D d',aQ) d',.ea c9 #[(26:Int),at_,(0:Int),.string ⟨#[]⟩,(bb,D d',aQ)] 53] ((ng (jh X) (λm a s=>W.run X m (.cases a) s) m d' bf).M (tw X λl aq=>W.put ⟨26,at_,0,[],l⟩ aq))))
 case atStart=>exact⟨[],_,none,0,by rw[fu.o],by simp,cl z⟩
 case round=>
  obtain⟨d',bf,bb,aQ,rfl,rz,z⟩:=hrel;generalize wr=gN at*;have c6: ∀a,D (d'++[a])=D d'+1:=λa=>by simp
  obtain⟨b1,b2,bC,bG,cf,fi⟩:=pc z;cases G:W.bw X bf dm<;>cases hw:gJ bf
  rotate_left
  all_goals try
   have z:=y0 (show jh X bf=true by simp[jh,G,hw]) z;rw[hw] at bG;go_wp2;revert z;refine lE dm λbS bA z=>?_;have c:=dk z;go_wp2;revert z;refine pu λcf bm cm z=>?_;exact c_
  have z:=FD (show jh X bf=false by simp[jh,G,hw]) z;obtain⟨m,rfl⟩:=vE (lp:=(λm a s=>W.run X m (.cases a) s)) (λ_ _=>rfl) z;have gr:m<n:=J;have z:=dM (i' _ _ _) (U9 (lp:=(λm a s=>W.run X m (.cases a) s)) (c:=W.bw X bf dm||gJ bf) rfl (by simp[G,hw]) z);rw[hw] at bG;go_wp2;obtain⟨Va,QQ,dA,qj⟩:=OA z;have z:=dM (by unfold W.mz;exact rfl) dA;revert z;refine kH λb4 z=>?_;generalize W.aM X bf=t at z|-;have z:=FC t #[(29:Int),t.an,(0:Int),.string ⟨#[]⟩,.slice none 0 0] 53 z;go_wp2;obtain⟨b3,e,z⟩:=ch z;rw[e];have z:=nZ (rE z);revert z;refine afl wB λsy a6 hq z=>?_;go_upto_if 45 with fail;go_cut[10,11,12,13,14,15,16] from 28 to 163 (λ_ _ _ _ _ _ _ dN=> ∃(j':Int) (O:List UInt8) (bE:List Nat) (sc:W.ak) (jq:Option Addr) (Pg:Nat),D bE<=1000/\Hid (aO N p X S gN tv Va QQ (W.mz X (W.run X m) bf) dN sc [.dd (jq,D bE,Pg) bE,.ea (b4.heap.size+1) #[j',t.an,(0:Int),O,(jq,D bE,Pg)] 53] ((W.kD X (W.run X m) sc).M λb bA=>W.put ⟨j',t.an,0,O,bE++b⟩ bA)))
  case first=>
   cases sy with
   |true=>
    have z:=cl (ahH (dM (aS hq.o) z));go_wp2;go_meet
    case rel=>exact⟨29,[],[],_,_,_,by simp,z⟩
   |false=>
    have z:=ahG (dM (ao (by rw[hq.o];decide)) z);go_wp2;revert z;refine k0 wo λcp k' z=>?_;go_wp2;revert z;refine kH λgF z=>?_;generalize ax:W.aM X k'=t2 at z|-;have DR:=A ax;clear ax;go_wp2;obtain⟨iP,Fw,ag,aE,U4,z⟩:=oN t2 z;rw[ag,aE];revert z;refine Dq p8 λak4 kp agO z=>?_;go_wp2;revert z;refine q' l4 λy13 mH zz z=>?_;obtain⟨cu,rfl,vm,z⟩|⟨U,z⟩:=F_ DR agO z
    .have fs:=c' z;obtain⟨b1,b2,bC,bG,cf,fi⟩:=pc z;have f9:=ti vm z;have z:=Cl vm z;have bO:=c' z;go_wp2;obtain⟨q3,e,z⟩:=ch z;rw[e];revert z;refine k0 l4 λuA IS z=>?_;have fs:=c' z;have d0:=dk z;have z:=fV 0 (27:Int) z;have z:=fV 3 t2.O z;go_wp2;obtain⟨sh,e,z⟩:=ch z;rw[e];revert z;refine bq (br.o m gr) λTJ si IK z=>?_;have z:=cl (nZ z);have c:=dk z;go_wp2_with(at_builtin;revert z;refine o_ TJ (show([]:List Nat).length<=1000000 by simp) λg18 agP sj z=>?_;have c:=dk z)
     have z:=fV 4 (.slice (some g18) 1 agP) z;go_wp2;go_meet
     case rel=>exact⟨27,t2.O,[TJ],_,_,_,by simp,z⟩
    have fs:=c' z;cases cu:(t2.j'==1) with
    |false=>
     cases y13
     .have z:=dM (ao (by rw[zz.o];decide)) z;have d0:=dk z;have z:=fV 0 (28:Int) z;go_wp2;obtain⟨uB,e,z⟩:=ch z;rw[e];revert z;refine bq (br.o m gr) λa20 q4 EF z=>?_;go_wp2;revert z;refine k0 l4 λuC I_ z=>?_;go_wp2;revert z;refine bq (br.o m gr) λTK q5 Vo z=>?_;have z:=cl (nZ z);have c:=dk z;go_wp2_with(at_builtin;revert z;refine Ha a20 TK (show([]:List Nat).length<=1000000 by simp) λg23 agQ vC z=>?_;have c:=dk z)
      have z:=fV 4 (.slice (some g23) 2 agQ) z;go_wp2;go_meet
      case rel=>exact⟨28,[],[a20,TK],_,_,_,by simp,z⟩
     have z:=dM (aS zz.o) z;have bN:=vj zz.o;obtain⟨b1,b2,bC,bG,cf,fi⟩:=pc z;have f9:=mg bN z;have Sz:=Nn z;have z:=jF bN z;have d0:=dk z;have z:=fV 0 (27:Int) z;go_wp2;obtain⟨yB,e,z⟩:=ch z;rw[e];revert z;refine bq (br.o m gr) λTL vD EJ z=>?_;have z:=cl (nZ z);have c:=dk z;go_wp2_with(at_builtin;revert z;refine o_ TL (show([]:List Nat).length<=1000000 by simp) λah7 agR yC z=>?_;have c:=dk z)
     have z:=fV 4 (.slice (some ah7) 1 agR) z;go_wp2;go_meet
     case rel=>exact⟨27,[],[TL],_,_,_,by simp,z⟩
    |true=>
     obtain rfl:ak4=false:=(by obtain h|h:=U;exact absurd (cu.symm.trans h) aN;exact h);cases y13
     .have z:=dM (ao (by rw[zz.o];decide)) z;have d0:=dk z;have z:=fV 0 (28:Int) z;go_wp2;obtain⟨xp,e,z⟩:=ch z;rw[e];revert z;refine bq (br.o m gr) λa28 xq OO z=>?_;go_wp2;revert z;refine k0 l4 λyD Jb z=>?_;go_wp2;revert z;refine bq (br.o m gr) λCB xr OP z=>?_;have z:=cl (nZ z);have c:=dk z;go_wp2_with(at_builtin;revert z;refine Ha a28 CB (show([]:List Nat).length<=1000000 by simp) λah9 agS yE z=>?_;have c:=dk z)
      have z:=fV 4 (.slice (some ah9) 2 agS) z;go_wp2;go_meet
      case rel=>exact⟨28,[],[a28,CB],_,_,_,by simp,z⟩
     have z:=dM (aS zz.o) z;have bN:=vj zz.o;obtain⟨b1,b2,bC,bG,cf,fi⟩:=pc z;have f9:=mg bN z;have Sz:=Nn z;have z:=jF bN z;have d0:=dk z;have z:=fV 0 (27:Int) z;go_wp2;obtain⟨yF,e,z⟩:=ch z;rw[e];revert z;refine bq (br.o m gr) λJc xt Vp z=>?_;have z:=cl (nZ z);have c:=dk z;go_wp2_with(at_builtin;revert z;refine o_ Jc (show([]:List Nat).length<=1000000 by simp) λah' agT xu z=>?_;have c:=dk z)
     have z:=fV 4 (.slice (some ah') 1 agT) z;go_wp2;go_meet
     case rel=>exact⟨27,[],[Jc],_,_,_,by simp,z⟩
  case rest=>
   obtain⟨j',O,bE,sc,jq,Pg,M9,z⟩:=hcut;obtain⟨ajY,pq,dA,ny⟩:=OA z;have z:=dM (by unfold W.kD;exact rfl) dA;go_wp2;obtain⟨xv,Mz,ag,aE,U7,z⟩:=qD #[(16:Int),(0:Int),(0:Int),.string ⟨#[]⟩,.slice none 0 0] 53 z;rw[ag,aE];revert z;refine k0 GH λyG Cw z=>?_;generalize W.aM X sc=t3 at z|-;have d0:=c' z;have z:=lM 1 t3.an z;go_wp2;obtain⟨Ao,e,z⟩:=ch z;rw[e];have z:=q9 (t:=v_ X) (lp:=(λm a s=>W.run X m (.body a) s)) (g:=(λl s2=>W.put ⟨16,t3.an,0,[],l⟩ s2)) (λ_ _=>rfl) (λm a s h=>aS h) z;revert z;refine Lm λapT Ap agU z=>?_;go_wp2;go_loopg[18] m (λj e fb=> ∃(s7:List Nat) (wJ:W.ak) (gM:Option Addr) (dP:Nat),e= .bool (tT X wJ)/\D s7+j=m/\Hid (aO N p X S wc tv ajY pq (W.kD X (W.run X m) sc) fb wJ [.dd (gM,D s7,dP) s7,.ea Mz #[(16:Int),t3.an,(0:Int),.string ⟨#[]⟩,(gM,D s7,dP)] 53] ((ng (v_ X) (λm a s=>W.run X m (.body a) s) j s7 wJ).M (λl s2=>W.put ⟨16,t3.an,0,[],l⟩ s2))))
   case atStart=>exact⟨[],_,none,0,by rw[agU.o],by simp,cl z⟩
   case round=>
    obtain⟨s7,wJ,gM,dP,rfl,al',z⟩:=hrel;generalize wr=fb at*;have GY: ∀a,D (s7++[a])=D s7+1:=λa=>by simp
    obtain⟨b1,b2,bC,bG,cf,fi⟩:=pc z;cases G:tT X wJ<;>cases hw:gJ wJ
    rotate_left
    all_goals try
     have z:=y0 (show v_ X wJ=true by simp[v_,G,hw]) z;rw[hw] at bG;have c:=dk z;go_wp2;revert z;refine pu λAD Cx ao0 z=>?_;have z:=ny _ _ _ _ z;have c:=dk z;go_wp2_with(at_builtin;revert z;refine o_ AD (show D bE<=1000000 by omega) λah_ agV Cy z=>?_;have c:=dk z)
     have z:=fV 4 (ah_,D bE+1,agV) z;obtain⟨B8,e,z⟩:=ch z;rw[e];revert z;refine pu λCH B9 Fu z=>?_;have z:=qj _ _ _ _ z;have c:=dk z;go_wp2_with(at_builtin;revert z;refine o_ CH (show D d'<=1000000 by omega) λaib agn B_ z=>?_;have c:=dk z)
     have z:=fV 4 (aib,D d'+1,agn) z;obtain⟨Ca,e,z⟩:=ch z;rw[e];have z:=q9 (t:=jh X) (lp:=(λm a s=>W.run X m (.cases a) s)) (g:=(tw X λl aq=>W.put ⟨26,at_,0,[],l⟩ aq)) (λ_ _=>rfl) (λm a s h=>aS h) z;revert z;refine q' dm λapU Cb ago z=>?_;go_wp2;go_roundg m
     case rel=>exact⟨d'++[CH],_,_,_,by rw[ago.o],by rw[c6];omega,by rw[c6];exact z⟩
     case measure=>omega
    have z:=FD (show v_ X wJ=false by simp[v_,G,hw]) z;obtain⟨j,rfl⟩:=vE (lp:=(λm a s=>W.run X m (.body a) s)) (λ_ _=>rfl) z;have I':j<n:=J;have z:=dM (i' _ _ _) (U9 (lp:=(λm a s=>W.run X m (.body a) s)) (c:=tT X wJ||gJ wJ) rfl (by simp[G,hw]) z);rw[hw] at bG;go_wp2;revert z;refine bq (kN.o j I') λa46 Cc IV z=>?_;have c:=dk z;go_wp2_with(at_builtin;revert z;refine o_ a46 (show D s7<=1000000 by omega) λMA Lz Cd z=>?_;have c:=dk z)
    have z:=fV 4 (MA,D s7+1,Lz) z;obtain⟨Ce,e,z⟩:=ch z;rw[e];have z:=dM (n8 _ _ _) z;revert z;refine j2 dm (λCf b0 z=>?_) λCg b0 z=>?_
    .have z:=FE (t:=v_ X) (lp:=(λm a s=>W.run X m (.body a) s)) (m:=j) (g:=(λl s2=>W.put ⟨16,t3.an,0,[],l⟩ s2)) (d':=s7++[a46]) (aeP b0.o) z;go_wp2;revert z;refine Lm λapV Ch agp z=>?_;go_wp2;go_roundg j
     case rel=>exact⟨s7++[a46],_,_,_,by rw[agp.o],by rw[GY];omega,by rw[GY];exact z⟩
     case measure=>omega
    have z:=dM (i' _ _ _) z;go_wp2;revert z;refine k0 hC λCi OT z=>?_;have z:=q9 (t:=v_ X) (lp:=(λm a s=>W.run X m (.body a) s)) (g:=(λl s2=>W.put ⟨16,t3.an,0,[],l⟩ s2)) (λ_ _=>rfl) (λm a s h=>aS h) z;go_wp2;revert z;refine Lm λapW Cj agq z=>?_;go_wp2;go_roundg j
    case rel=>exact⟨s7++[a46],_,_,_,by rw[agq.o],by rw[GY];omega,by rw[GY];exact z⟩
    case measure=>omega
end
end il
namespace il
section
variable{N p:Nat}{w:ai}{X:B.Src}{S:ByteArray}{s:W.ak}{tv nv:af}{E:List (aP×af)}
def xZ (X:B.Src)(n:Nat)(s:W.ak):W.aV:=(W.kA X (W.run X n) s).M λe s1=>W.run X n (.part (Y e 0 0)) s1
def runN{wk pl L m f}(h:Hid (aO N p X S w tv nv E pl wk s L (W.run X m f s))): ∃k,m=k+1:=by
  obtain⟨_,_,h⟩:=h.o;cases m with
  |zero=>exact absurd h.eq h.ne
  |succ k=>exact⟨k,rfl⟩
def Xm(n:Nat)(dj:Hid (ed X S 216 (W.kA X (W.run X n))))(ia:Hid (ed X S 194 (W.run X n .unary)))(cZ:Hid (∀m,m<n->tC X S 2 (W.list X (W.run X m (.exprs [])))))(bW:Hid (∀m,m<n->ed X S 123 (W.run X m .typ))):gg X S 194 cD (W.jV X (W.run X n)):=by
 intro N p w s tv nv E h aZ;have z:=cF h aZ (by unfold W.jV;exact rfl);go_in;have Go:=0;go_wp2;revert z;refine kH λw1 z=>?_;generalize ax:W.aM X s=t at z|-;have gh:=A ax;clear ax;have z:=rY #[t.j',t.O,t.aX,t.an] 97 z;have rZ:=c' z;cases iG:(t.j'==3) with
 |true=>
  obtain⟨s5,aF,z⟩|⟨s5,z⟩:=O0 [33] gh (A iG) z
  .have br:=A aF;clear aF;go_wp2;obtain⟨w2,e,z⟩:=ch z;rw[e];clear iG;have z:=dM (by unfold W.ky;rw[gh.o]) z;revert z;refine jB _ (λbc aq z=>?_) ((congrArg aC br.o).trans (f_ _));have z:=dM (n8 _ _ _) z;obtain⟨b1,b2,bC,bG,cf,fi⟩:=pc z;rcases Dg z with⟨hw,z⟩|⟨hw,z⟩<;>rw[hw] at bG<;>clear hw
   .have qC:=bG;obtain⟨d4,bB⟩: ∃d,IntKind.i64.wrap (aq.p.bR- 1)=d:=⟨_,rfl⟩;obtain⟨b1,b2,bC,bG,cf,fi⟩:=pc z;have z:=jD bB z;have bO:=c' z;go_wp2;obtain⟨bm,e,oO,z⟩:=sN z;rw[e,oO];obtain⟨b4,fg,ag,aE,Om,z⟩:=Nl z;rw[ag,aE];revert z;refine bH λqC b3 mj z=>?_;exact c_
   go_wp2;revert z;refine bq ia.o λtG a6 ik z=>?_;obtain⟨d9,bB⟩: ∃d,IntKind.i64.wrap (ik.p.bR- 1)=d:=⟨_,rfl⟩;obtain⟨b1,b2,bC,bG,cf,fi⟩:=pc z;have z:=jD bB z;have bO:=c' z;go_wp2;obtain⟨gF,e,oO,z⟩:=sN z;rw[e,oO];obtain⟨iP,Fw,ag,aE,U4,z⟩:=iE tG z;rw[ag,aE];revert z;refine bH λxe kp Al z=>?_;exact c_
  obtain⟨Bk,aF,z⟩|⟨Bk,z⟩:=O0 [45] gh (A iG) z
  .have br:=A aF;clear aF;go_wp2;obtain⟨mH,e,z⟩:=ch z;rw[e];clear iG;have z:=dM (by unfold W.ky;rw[gh.o]) z;revert z;refine jB _ (λq3 yy z=>?_) ((congrArg aC br.o).trans (f_ _));have z:=dM (n8 _ _ _) z;obtain⟨b1,b2,bC,bG,cf,fi⟩:=pc z;rcases Dg z with⟨hw,z⟩|⟨hw,z⟩<;>rw[hw] at bG<;>clear hw
   .have qC:=bG;obtain⟨d15,bB⟩: ∃d,IntKind.i64.wrap (yy.p.bR- 1)=d:=⟨_,rfl⟩;obtain⟨b1,b2,bC,bG,cf,fi⟩:=pc z;have z:=jD bB z;have bO:=c' z;go_wp2;obtain⟨sh,e,oO,z⟩:=sN z;rw[e,oO];obtain⟨si,M0,ag,aE,M1,z⟩:=Nl z;rw[ag,aE];revert z;refine bH λEI sj yA z=>?_;exact c_
   go_wp2;revert z;refine bq ia.o λN6 uB EN z=>?_;obtain⟨d20,bB⟩: ∃d,IntKind.i64.wrap (EN.p.bR- 1)=d:=⟨_,rfl⟩;obtain⟨b1,b2,bC,bG,cf,fi⟩:=pc z;have z:=jD bB z;have bO:=c' z;go_wp2;obtain⟨uC,e,oO,z⟩:=sN z;rw[e,oO];obtain⟨q5,EO,ag,aE,IU,z⟩:=iE N6 z;rw[ag,aE];revert z;refine bH λTS vC AG z=>?_;exact c_
  rcases O0 [60,45] gh (A iG) z with⟨wP,aF,z⟩|⟨wP,z⟩
  .have br:=A aF;clear aF;go_wp2;obtain⟨yB,e,z⟩:=ch z;rw[e];clear iG;have z:=dM (by unfold W.ky;rw[gh.o]) z;revert z;refine jB _ (λvD EJ z=>?_) ((congrArg aC br.o).trans (f_ _));have z:=dM (n8 _ _ _) z;obtain⟨b1,b2,bC,bG,cf,fi⟩:=pc z;rcases Dg z with⟨hw,z⟩|⟨hw,z⟩<;>rw[hw] at bG<;>clear hw
   .have qC:=bG;obtain⟨d26,bB⟩: ∃d,IntKind.i64.wrap (EJ.p.bR- 1)=d:=⟨_,rfl⟩;obtain⟨b1,b2,bC,bG,cf,fi⟩:=pc z;have z:=jD bB z;have bO:=c' z;go_wp2;obtain⟨xp,e,oO,z⟩:=sN z;rw[e,oO];obtain⟨xq,My,ag,aE,U6,z⟩:=Nl z;rw[ag,aE];revert z;refine bH λE8 yD Jb z=>?_;exact c_
   go_wp2;revert z;refine bq ia.o λCB xr OP z=>?_;obtain⟨d31,bB⟩: ∃d,IntKind.i64.wrap (OP.p.bR- 1)=d:=⟨_,rfl⟩;obtain⟨b1,b2,bC,bG,cf,fi⟩:=pc z;have z:=jD bB z;have bO:=c' z;go_wp2;obtain⟨yF,e,oO,z⟩:=sN z;rw[e,oO];obtain⟨xt,aoy,ag,aE,anY,z⟩:=iE CB z;rw[ag,aE];revert z;refine bH λE3 xu Vq z=>?_;exact c_
  go_wp2;obtain⟨xv,e,z⟩:=ch z;rw[e];clear iG;revert z;refine bq dj.o λalp yG Cw z=>?_;go_wp2;go_loopg[6] n (λm e wr=> ∃(a:Nat) (bf:W.ak) (aK:aa.Tok),e= a/\m<=n/\Hid (aO N p X S w tv nv E (W.jV X (W.run X n) s) wr bf [.ea (w1.heap.size) #[aK.j',aK.O,aK.aX,aK.an] 97] (W.run X m (.part a) bf)))
  case atStart=>exact⟨_,_,t,rfl,bD _,z⟩
  case round=>
   obtain⟨a,bf,aK,rfl,hm,z⟩:=hrel;obtain⟨m,rfl⟩:=runN z;have gr:m<n:=J;have z:=dM (r2:=_) (by unfold W.run W.kE W.oU;exact rfl) z;obtain⟨b1,b2,bC,bG,cf,fi⟩:=pc z;rcases Dg z with⟨hw,z⟩|⟨hw,z⟩<;>rw[hw] at bG<;>clear hw
   .exact c_
   go_wp2;revert z;refine kH λAo z=>?_;generalize W.aM X bf=t2 at z|-;have d0:=c' z;have z:=lM 0 t2.j' z;have z:=lM 1 t2.O z;have z:=lM 2 t2.aX z;have z:=lM 3 t2.an z;go_wp2;obtain⟨Ap,e,z⟩:=ch z;rw[e];revert z;refine j2 gK (λCx b0 z=>?_) λCy b0 z=>?_
   .go_wp2_with fail;revert z;refine q' Bg λV9 B8 TD z=>?_;go_wp2;obtain⟨B9,aoA,ag,aE,an0,z⟩:=iE a z;rw[ag,aE];revert z;refine vR (cZ.o m gr) λajL amm amn B_ Vr agr z=>?_;go_wp2_with(at_builtin;revert z;refine IJ agr λamo amp Ca z=>?_;have c:=dk z)
    revert z;refine xm λTU Cb Ez z=>?_;go_wp2;go_roundg m
    case rel=>exact⟨_,_,t2,rfl,by omega,z⟩
    case measure=>omega
   go_wp2;revert z;refine j2 Bg (λCc D0 z=>?_) λCd D0 z=>?_
   .have bN:=vj D0.o;obtain⟨b1,b2,bC,bG,cf,fi⟩:=pc z;have f9:=mg bN z;have z:=jF bN z;go_wp2;obtain⟨Ce,e,z⟩:=ch z;rw[e];revert z;refine j2 gK (λCf b0 z=>?_) λCg b0 z=>?_
    .go_wp2_with fail;revert z;refine jB gK λCh OS z=>?_;go_wp2;revert z;refine bq (bW.o m gr) λafu Ci OT z=>?_;go_wp2;revert z;refine lE eW λCj akm z=>?_;have c:=c' z;go_wp2;obtain⟨EA,aoD,ag,aE,an2,z⟩:=mf a afu z;rw[ag,aE];revert z;refine xm λamG IW Vs z=>?_;go_wp2;go_roundg m
     case rel=>exact⟨_,_,t2,rfl,by omega,z⟩
     case measure=>omega
    go_wp2;revert z;refine mA λIX Vt z=>?_;generalize jw X (W.bs bf)=nt at z|-;have c:=c' z;go_wp2;obtain⟨IY,akd,ag,aE,ajO,z⟩:=iE a z;rw[ag,aE];revert z;refine xn λTW IZ Vu z=>?_;go_wp2;go_roundg m
    case rel=>exact⟨_,_,t2,rfl,by omega,z⟩
    case measure=>omega
   exact c_
 |false=>
  have z:=lR gh (A iG) (lR gh (A iG) (lR gh (A iG) z));go_wp2;obtain⟨I0,e,z⟩:=ch z;rw[e];clear iG;revert z;refine bq dj.o λalq VJ akn z=>?_;go_wp2;go_loopg[6] n (λm e wr=> ∃(a:Nat) (bf:W.ak) (aK:aa.Tok),e= a/\m<=n/\Hid (aO N p X S w tv nv E (W.jV X (W.run X n) s) wr bf [.ea (w1.heap.size) #[aK.j',aK.O,aK.aX,aK.an] 97] (W.run X m (.part a) bf)))
  case atStart=>exact⟨_,_,t,rfl,bD _,z⟩
  case round=>
   obtain⟨a,bf,aK,rfl,hm,z⟩:=hrel;obtain⟨m,rfl⟩:=runN z;have gr:m<n:=J;have z:=dM (r2:=_) (by unfold W.run W.kE W.oU;exact rfl) z;obtain⟨b1,b2,bC,bG,cf,fi⟩:=pc z;rcases Dg z with⟨hw,z⟩|⟨hw,z⟩<;>rw[hw] at bG<;>clear hw
   .exact c_
   go_wp2;revert z;refine kH λVK z=>?_;generalize W.aM X bf=t2 at z|-;have d0:=c' z;have z:=lM 0 t2.j' z;have z:=lM 1 t2.O z;have z:=lM 2 t2.aX z;have z:=lM 3 t2.an z;go_wp2;obtain⟨VL,e,z⟩:=ch z;rw[e];revert z;refine j2 gK (λVM b0 z=>?_) λVN b0 z=>?_
   .go_wp2_with fail;revert z;refine q' Bg λapX VO amq z=>?_;go_wp2;obtain⟨VP,aoI,ag,aE,an7,z⟩:=iE a z;rw[ag,aE];revert z;refine vR (cZ.o m gr) λan8 amr ams akL akp ags z=>?_;go_wp2_with(at_builtin;revert z;refine IJ ags λamt amu akM z=>?_;have c:=dk z)
    revert z;refine xm λahx akN akq z=>?_;go_wp2;go_roundg m
    case rel=>exact⟨_,_,t2,rfl,by omega,z⟩
    case measure=>omega
   go_wp2;revert z;refine j2 Bg (λakO D0 z=>?_) λakP D0 z=>?_
   .have bN:=vj D0.o;obtain⟨b1,b2,bC,bG,cf,fi⟩:=pc z;have f9:=mg bN z;have z:=jF bN z;go_wp2;obtain⟨akQ,e,z⟩:=ch z;rw[e];revert z;refine j2 gK (λakR b0 z=>?_) λakS b0 z=>?_
    .go_wp2_with fail;revert z;refine jB gK λakT akr z=>?_;go_wp2;revert z;refine bq (bW.o m gr) λa76 akU ao8 z=>?_;go_wp2;revert z;refine lE eW λakV aks z=>?_;have c:=c' z;go_wp2;obtain⟨akW,aoM,ag,aE,aoa,z⟩:=mf a a76 z;rw[ag,aE];revert z;refine xm λamM akX ao' z=>?_;go_wp2;go_roundg m
     case rel=>exact⟨_,_,t2,rfl,by omega,z⟩
     case measure=>omega
    go_wp2;revert z;refine mA λakY ao_ z=>?_;generalize jw X (W.bs bf)=nt at z|-;have c:=c' z;go_wp2;obtain⟨akZ,aoN,ag,aE,aoc,z⟩:=iE a z;rw[ag,aE];revert z;refine xn λamN ak0 apb z=>?_;go_wp2;go_roundg m
    case rel=>exact⟨_,_,t2,rfl,by omega,z⟩
    case measure=>omega
   exact c_
def KR{X s}(h:0<W.hn X s):s.p.i<D X.bu:=by refine we λax=>?_;unfold W.hn W.aM B.aM iz at h;rw[cd,pr J] at h;simp at h
def aa5(x)(w:ai):aY 195 #[.string x] w λe w'=>e= .returned (.int .i64 (ub (aC x):Int))/\w=w':=by
  cases ck:(x.toList==[124,124]) with
  |true=>
    have bK:Hid (aC x=[124,124]):=sz ((fC x).symm.trans (eq_of_beq ck));go_in;go_wp2;go_returns;exact⟨by rw[bK.o];rfl,rfl⟩
  |false=>
    cases b8:(x.toList==[38,38]) with
    |true=>
      have bK:Hid (aC x=[38,38]):=sz ((fC x).symm.trans (eq_of_beq b8));go_in;go_wp2;go_returns;exact⟨by rw[bK.o];rfl,rfl⟩
    |false=>
      cases e0:(x.toList==[61,61]) with
      |true=>
        have bK:Hid (aC x=[61,61]):=sz ((fC x).symm.trans (eq_of_beq e0));go_in;go_wp2;go_returns;exact⟨by rw[bK.o];rfl,rfl⟩
      |false=>
        cases o5:(x.toList==[33,61]) with
        |true=>
          have bK:Hid (aC x=[33,61]):=sz ((fC x).symm.trans (eq_of_beq o5));go_in;go_wp2;go_returns;exact⟨by rw[bK.o];rfl,rfl⟩
        |false=>
          cases dh:(x.toList==[60]) with
          |true=>
            have bK:Hid (aC x=[60]):=sz ((fC x).symm.trans (eq_of_beq dh));go_in;go_wp2;go_returns;exact⟨by rw[bK.o];rfl,rfl⟩
          |false=>
            cases g_:(x.toList==[60,61]) with
            |true=>
              have bK:Hid (aC x=[60,61]):=sz ((fC x).symm.trans (eq_of_beq g_));go_in;go_wp2;go_returns;exact⟨by rw[bK.o];rfl,rfl⟩
            |false=>
              cases ie:(x.toList==[62]) with
              |true=>
                have bK:Hid (aC x=[62]):=sz ((fC x).symm.trans (eq_of_beq ie));go_in;go_wp2;go_returns;exact⟨by rw[bK.o];rfl,rfl⟩
              |false=>
                cases di:(x.toList==[62,61]) with
                |true=>
                  have bK:Hid (aC x=[62,61]):=sz ((fC x).symm.trans (eq_of_beq di));go_in;go_wp2;go_returns;exact⟨by rw[bK.o];rfl,rfl⟩
                |false=>
                  cases kb:(x.toList==[43]) with
                  |true=>
                    have bK:Hid (aC x=[43]):=sz ((fC x).symm.trans (eq_of_beq kb));go_in;go_wp2;go_returns;exact⟨by rw[bK.o];rfl,rfl⟩
                  |false=>
                    cases t':(x.toList==[45]) with
                    |true=>
                      have bK:Hid (aC x=[45]):=sz ((fC x).symm.trans (eq_of_beq t'));go_in;go_wp2;go_returns;exact⟨by rw[bK.o];rfl,rfl⟩
                    |false=>
                      cases G_:(x.toList==[42]) with
                      |true=>
                        have bK:Hid (aC x=[42]):=sz ((fC x).symm.trans (eq_of_beq G_));go_in;go_wp2;go_returns;exact⟨by rw[bK.o];rfl,rfl⟩
                      |false=>
                        cases zR:(x.toList==[47]) with
                        |true=>
                          have bK:Hid (aC x=[47]):=sz ((fC x).symm.trans (eq_of_beq zR));go_in;go_wp2;go_returns;exact⟨by rw[bK.o];rfl,rfl⟩
                        |false=>
                          cases Td:(x.toList==[37]) with
                          |true=>
                            have bK:Hid (aC x=[37]):=sz ((fC x).symm.trans (eq_of_beq Td));go_in;go_wp2;go_returns;exact⟨by rw[bK.o];rfl,rfl⟩
                          |false=>
                            have bK:Hid (ub (aC x)=0):=sz (by rw[<-fC];unfold ub mw;simp only[List.getD_cons_zero,List.getD_cons_succ,List.any_cons,List.any_nil,ck,b8,e0,o5,dh,g_,ie,di,kb,t',G_,zR,Td];rfl);go_in;go_wp2;go_returns;exact⟨by rw[bK.o];rfl,rfl⟩
def ZJ(n k:Nat)(ia:Hid (ed X S 194 (W.run X n .unary)))(br:Hid (∀m,m<n-> ∀j:Nat,ed X S 165 (W.run X m (.b6 j)) [j])):tU X S 165 (k:Int) (W.run X (n+1) (.b6 k)):=by
 intro N p w s tv nv E h aZ;have z:=cF (r:=(W.run X n .unary s).M λe s1=>W.run X n (.iy k (Y e 0 0)) s1) h aZ rfl;have anS:decide ((0:Int)<=k)=true:=bT;go_in;have Go:=0;go_wp2;revert z;refine bq ia.o λa1 w1 s1 z=>?_;go_wp2;go_loopg[5] n (λm e wr=> ∃(a:Nat) (bf:W.ak),e= a/\m<=n/\Hid (aO N p X S w tv nv E (W.run X (n+1) (.b6 k) s) wr bf [] (W.run X m (.iy k a) bf)))
 case atStart=>exact⟨_,_,rfl,bD _,z⟩
 case round=>
  obtain⟨a,bf,rfl,hm,z⟩:=hrel;obtain⟨m,rfl⟩:=runN z;have gr:m<n:=J;have z:=dM (r2:=_) (by unfold W.run W.kE W.mS;exact rfl) z;obtain⟨b1,b2,bC,bG,cf,fi⟩:=pc z;rcases Dg z with⟨hw,z⟩|⟨hw,z⟩<;>rw[hw] at bG<;>clear hw
  .exact c_
  go_wp2;revert z;refine kH λw2 z=>?_;generalize ax:W.aM X bf=t at z|-;have gh:=A ax;clear ax;have z:=rY #[t.j',t.O,t.aX,t.an] 97 z;have rZ:=c' z;cases iG:(t.j'==3) with
  |true=>
   have km:Hid (ub (aC (str t.O))=W.hn X bf):=A (by unfold W.hn;rw[gh.o,aS (by simpa using iG),f_];rfl);go_wp2;obtain⟨bc,e,z⟩:=ch z;rw[e];refine b7 (aa5 (str t.O) _) ?_;rintro cp rfl;rw[km.o];generalize Ht:W.hn X bf=C2 at z|-;by_cases hle:k<C2
   .have bN:bf.p.i<D X.bu:=KR (by rw[Ht];omega);have ajH:decide (C2<=k)=false:=(by simp;omega);have z:=dM (aS hle) z;obtain⟨b1,b2,bC,bG,cf,fi⟩:=pc z;have f9:=mg bN z;have z:=jF bN z;have bO:=c' z;go_wp2;obtain⟨bS,e,z⟩:=ch z;rw[e];revert z;refine bq (br.o m gr C2) λa5 bm cm z=>?_;have c:=c' z;go_wp2;obtain⟨b4,fg,ag,aE,Om,z⟩:=mf a a5 z;rw[ag,aE];revert z;refine xn λqC b3 mj z=>?_;go_wp2;go_roundg m
    case rel=>exact⟨_,_,rfl,by omega,nZ z⟩
    case measure=>omega
   have ajH:decide (C2<=k)=true:=(by simp;omega);have z:=dM (ao hle) z;exact c_
  |false=>
   have z:=dM (ao (show¬k<W.hn X bf by unfold W.hn;rw[gh.o,ao (by simpa using iG)];omega)) z;exact c_
def iT (X:B.Src)(n:Nat)(s:W.ak):W.aV:=(W.run X n (.decls []) s).M λl s1=>W.put ⟨15,(W.aM X s).an,0,[],l⟩ s1
def sX (X:B.Src)(s:W.ak):Bool:=!(decide (s.p.i<D X.bu)&&!gJ s)
def aj5{X s}(h: ¬s.p.i<D X.bu):sX X s=true:=by unfold sX;simp[h]
def aj6{X s}(h:gJ s=true):sX X s=true:=by unfold sX;simp[h]
def aj4{X s}(h:s.p.i<D X.bu)(T:gJ s=false):sX X s=false:=by unfold sX;simp[h,T]
def ajQ{wk pl L m d'}{g:List Nat->W.ak->W.aV}(h:s.p.i<D X.bu)(T:gJ s=false)(z:Hid (aO N p X S w tv nv E pl wk s L ((W.run X (m+1) (.decls d') s).M g))):Hid (aO N p X S w tv nv E pl wk s L (((W.j9 X (W.run X m) s).M λk s1=>if s1.p.i<D X.bu then(W.take X hC s1).M λ_ s2=>W.run X m (.decls (d'++k)) s2 else W.run X m (.decls (d'++k)) s1).M g)):=dM (congrArg (λr=>W.aV.M r g) (aS (by simp[h,T]))) z
def WO(n:Nat)(ax:n<=1000000)(qT:Hid (∀m,m<n->ed X S 54 (W.j9 X (W.run X m)))):gg X S 18 lk (iT X n):=by
 intro N p w s tv nv E h aZ;have z:=cF h aZ (by unfold iT;exact rfl);obtain⟨cb,fQ,rfl⟩:=aky z;go_in;have Go:=0;go_wp2;revert z;refine kH λw1 z=>?_;generalize W.aM X s=t at z|-;have z:=FC t #[.int .i64 15,.int .i64 (t.an:Int),.int .i64 0,.string ⟨#[]⟩,.slice none 0 0] 53 z;go_wp2;obtain⟨w2,e,z⟩:=ch z;rw[e];have z:=nZ (rE z);have z:=q9 (t:=sX X) (lp:=(λm a s=>W.run X m (.decls a) s)) (g:=(λl s1=>W.put ⟨15,t.an,0,[],l⟩ s1)) (λ_ _=>rfl) (λm a s h=>ao (λhc=>by unfold sX at h;rw[hc] at h;cases h)) z;go_loopg[10] n (λm _ wr=> ∃(d':List Nat) (bf:W.ak) (bb:Option Addr) (aQ:Nat),D d'+m=n/\Hid (aO N p X S w (cb,D X.bu,fQ) nv E (iT X n s) wr bf [.dd (bb,D d',aQ) d',.ea (w1.heap.size+1) #[.int .i64 15,.int .i64 (t.an:Int),.int .i64 0,.string ⟨#[]⟩,(bb,D d',aQ)] 53] ((ng (sX X) (λm a s=>W.run X m (.decls a) s) m d' bf).M (λl s1=>W.put ⟨15,t.an,0,[],l⟩ s1))))
 case atStart=>exact⟨[],_,none,0,by simp,cl z⟩
 case round=>
  obtain⟨d',bf,bb,aQ,rz,z⟩:=hrel;have c6: ∀a,D (d'++[a])=D d'+1:=λa=>by simp
  go_wp2;obtain⟨b1,b2,bC,bG,cf,fi⟩:=pc z;obtain⟨lT,hw⟩: ∃b,gJ bf=b:=⟨_,rfl⟩;rw[hw] at bG;by_cases bN:bf.p.i<D X.bu
  .cases lT with
   |true=>
    have iR:decide ((bf.p.i:Int)<X.bu.length)=true:=(by simp;omega);refine lV (S:=λv=>v.cell? ⟨p,2,none⟩=some (.int .i64 (bf.p.i:Int))/\v.cell? ⟨p,1,none⟩=some (cb,X.bu.length,fQ)/\v.cell? ⟨p,7,none⟩=some (.bool true)) (by kernel_rfl) ⟨b2,b1,bG⟩ λkC=>?_;refine aK 0 ?_;refine aK 1 ?_;refine aK 2 ?_;refine aK 3 ?_;refine aK 4 ?_;refine aK 5 ?_;refine aK 6 ?_;refine aK 7 ?_;refine aK 8 ?_;refine aK 9 ?_;refine aK 10 ?_;refine aK 11 ?_;refine aK 12 ?_;refine aK 13 ?_;refine aK 14 ?_;refine aK 15 ?_;refine aK 16 ?_;refine p2 (by kernel_rfl) ?_ _;have z:=wh z;obtain⟨bc,e,z⟩:=ch z;rw[e];have z:=y0 (aj6 hw) z;have c:=dk z;go_wp2;revert z;refine pu λbG bS bA z=>?_;exact c_
   |false=>
    have iR:decide ((bf.p.i:Int)<X.bu.length)=true:=(by simp;omega);refine lV (S:=λv=>v.cell? ⟨p,2,none⟩=some (.int .i64 (bf.p.i:Int))/\v.cell? ⟨p,1,none⟩=some (cb,X.bu.length,fQ)/\v.cell? ⟨p,7,none⟩=some (.bool false)) (by kernel_rfl) ⟨b2,b1,bG⟩ λkC=>?_;refine aK 0 ?_;refine aK 1 ?_;refine aK 2 ?_;refine aK 3 ?_;refine aK 4 ?_;refine aK 5 ?_;refine aK 6 ?_;refine aK 7 ?_;refine aK 8 ?_;refine aK 9 ?_;refine aK 10 ?_;refine aK 11 ?_;refine aK 12 ?_;refine aK 13 ?_;refine aK 14 ?_;refine aK 15 ?_;refine aK 16 ?_;refine p2 (by kernel_rfl) ?_ _;have z:=wh z;obtain⟨bm,e,z⟩:=ch z;rw[e];have z:=FD (aj4 bN hw) z;obtain⟨m,rfl⟩:=vE (lp:=(λm a s=>W.run X m (.decls a) s)) (λ_ _=>rfl) z;have gr:m<n:=(by omega);have z:=dM (i' _ _ _) (ajQ bN hw z);go_wp2;revert z;refine bq (qT.o m gr) λrf b4 ha z=>?_;have c:=dk z;go_wp2_with(at_builtin;revert z;refine o_ rf (show D d'<=1000000 by omega) λg7 aih b3 z=>?_;have c:=dk z)
    have z:=fV 4 (.slice (some ⟨g7,0,none⟩) (D d'+1) aih) z;obtain⟨a6,e,z⟩:=ch z;rw[e];by_cases bN:ha.p.i<D X.bu
    .have z:=dM (i' _ _ _) (dM (congrArg (λr=>W.aV.M r _) (aS bN)) z);have iR:decide ((ha.p.i:Int)<X.bu.length)=true:=(by simp;omega);obtain⟨b1,b2,bC,bG,cf,fi⟩:=pc z;refine lV (S:=λv=>v.cell? ⟨p,2,none⟩=some (.int .i64 (ha.p.i:Int))/\v.cell? ⟨p,1,none⟩=some (cb,X.bu.length,fQ)) (by kernel_rfl) ⟨b2,b1⟩ λkC=>?_;refine aK 0 ?_;refine aK 1 ?_;refine aK 2 ?_;refine aK 3 ?_;refine aK 4 ?_;refine aK 5 ?_;refine aK 6 ?_;refine aK 7 ?_;refine aK 8 ?_;refine aK 9 ?_;refine p2 (by kernel_rfl) ?_ _;have z:=wh z;obtain⟨cp,e,z⟩:=ch z;rw[e];go_wp2;revert z;refine k0 hC λgF Ct z=>?_;have z:=q9 (t:=sX X) (lp:=(λm a s=>W.run X m (.decls a) s)) (g:=(λl s1=>W.put ⟨15,t.an,0,[],l⟩ s1)) (λ_ _=>rfl) (λm a s h=>ao (λhc=>by unfold sX at h;rw[hc] at h;cases h)) z;go_wp2;go_roundg m
     case rel=>exact⟨d'++[rf],_,_,_,by rw[c6];omega,by rw[c6];exact z⟩
     case measure=>omega
    have z:=dM (congrArg (λr=>W.aV.M r _) (ao bN)) z;have iR:decide ((ha.p.i:Int)<X.bu.length)=false:=(by simp;omega);obtain⟨b1,b2,bC,bG,cf,fi⟩:=pc z;refine lV (S:=λv=>v.cell? ⟨p,2,none⟩=some (.int .i64 (ha.p.i:Int))/\v.cell? ⟨p,1,none⟩=some (cb,X.bu.length,fQ)) (by kernel_rfl) ⟨b2,b1⟩ λkC=>?_;refine aK 0 ?_;refine aK 1 ?_;refine aK 2 ?_;refine aK 3 ?_;refine aK 4 ?_;refine aK 5 ?_;refine aK 6 ?_;refine aK 7 ?_;refine aK 8 ?_;refine aK 9 ?_;refine p2 (by kernel_rfl) ?_ _;have z:=wh z;obtain⟨iP,e,z⟩:=ch z;rw[e];have z:=q9 (t:=sX X) (lp:=(λm a s=>W.run X m (.decls a) s)) (g:=(λl s1=>W.put ⟨15,t.an,0,[],l⟩ s1)) (λ_ _=>rfl) (λm a s h=>ao (λhc=>by unfold sX at h;rw[hc] at h;cases h)) z;go_wp2;go_roundg m
    case rel=>exact⟨d'++[rf],_,_,_,by rw[c6];omega,by rw[c6];exact z⟩
    case measure=>omega
  have iR:decide ((bf.p.i:Int)<X.bu.length)=false:=by simp;omega
  refine lV (S:=λv=>v.cell? ⟨p,2,none⟩=some (.int .i64 (bf.p.i:Int))/\v.cell? ⟨p,1,none⟩=some (cb,X.bu.length,fQ)/\v.cell? ⟨p,7,none⟩=some (.bool lT)) (by kernel_rfl) ⟨b2,b1,bG⟩ λkC=>?_;refine aK 0 ?_;refine aK 1 ?_;refine aK 2 ?_;refine aK 3 ?_;refine aK 4 ?_;refine aK 5 ?_;refine aK 6 ?_;refine aK 7 ?_;refine aK 8 ?_;refine aK 9 ?_;refine aK 10 ?_;refine dw 11 ?_;refine dw 12 ?_;refine dw 13 ?_;refine dw 14 ?_;refine dw 15 ?_;refine aK 16 ?_;refine p2 (by kernel_rfl) ?_ _;have z:=wh z;obtain⟨kp,e,z⟩:=ch z;rw[e];have z:=y0 (aj5 bN) z;have c:=dk z;go_wp2;revert z;refine pu λqn mH xo z=>?_;exact c_
end
end il
namespace il
section
variable{X:B.Src}{S:ByteArray}
structure ej (X:B.Src)(S:ByteArray)(n:Nat):Prop where
 typ:gg X S 123 cD (W.run X n .typ)
 block:gg X S 84 cD (W.run X n .block)
 stmt:gg X S 126 cD (W.run X n .stmt)
 branch:gg X S 167 cD (W.run X n .branch)
 unary:gg X S 194 cD (W.run X n .unary)
 b6: ∀k:Nat,tU X S 165 (k:Int) (W.run X n (.b6 k))
def gg.fs{f}{gm:W.ak->W.aV}(h:gg X S f cD gm)(R: ∀s,W.bn (gm s)):Hid (ed X S f gm):=A ⟨h,R⟩
def tU.fs{f k}{gm:W.ak->W.aV}(h:tU X S f k gm)(R: ∀s,W.bn (gm s)):Hid (ed X S f gm [k]):=A ⟨h,R⟩
def oQ{n f g}(h:gg X S f cD (W.run X n g))(aB:GI g=true:=by rfl):Hid (ed X S f (W.run X n g)):=h.fs λs=>W.p5 X n g aB s
def ej.ex{n}(h:ej X S n)(k):Hid (ed X S 165 (W.run X n (.b6 k)) [k]):=(h.b6 k).fs λs=>W.p5 X n (.b6 k) rfl s
def ej.Fx{n}(h:ej X S n):Hid (ed X S 165 (W.run X n (.b6 0)) [(0:Int)]):=h.ex 0
def ej.ty{n}(h:ej X S n):Hid (ed X S 123 (W.run X n .typ)):=oQ h.typ
def ej.par{n}(h:ej X S n)(k):Hid (ed X S 80 (W.named X (W.run X n) k) [k]):=(Xz (W.run X n) h.ty k).fs λs=>W.JF k s
section
variable{n:Nat}(ax:n<=1000000)(h: ∀m,m<=n->ej X S m)
include ax h
theorem ej.jX:tC X S 0 (W.list X (W.run X n (.jX []))):=OX n ax 0 (λm a=>W.run X m (.jX a)) (λm=>W.run X m .typ) (λ_ _=>rfl) (λ_ _ _=>rfl) λm hm=> .inl ⟨rfl,(h m J).ty.o⟩
theorem ej.params:tC X S 1 (W.list X (W.run X n (.params []))):=OX n ax 1 (λm a=>W.run X m (.params a)) (λm=>W.named X (W.run X m) 7) (λ_ _=>rfl) (λ_ _ _=>rfl) λm hm=> .inr (.inl ⟨rfl,((h m J).par 7).o⟩)
theorem ej.exprs:tC X S 2 (W.list X (W.run X n (.exprs []))):=OX n ax 2 (λm a=>W.run X m (.exprs a)) (λm=>W.run X m (.b6 0)) (λ_ _=>rfl) (λ_ _ _=>rfl) λm hm=> .inr (.inr ⟨rfl,(h m J).Fx.o⟩)
theorem ej.sig:Hid (ed X S 81 (W.sig X (W.run X n))):=(aa3 _ (h n (bD _)).ty (A (ej.params ax h))).fs λs=>W.C8 s
omit ax in
theorem ej.blk:Hid (ed X S 84 (W.run X n .block)):=oQ (h n (bD _)).block
theorem ej.first:Hid (ed X S 216 (W.kA X (W.run X n))):=(XA _ (ej.sig ax h) (ej.blk h) (h n (bD _)).Fx (h n (bD _)).ty).fs λs=>W.Jp (W.p5 X n) s
theorem ej.decl:Hid (ed X S 54 (W.j9 X (W.run X n))):=
 (ZH n ax (A (λm hm=>((h m J).par 9).o)) (A (λm hm=>(ej.sig (n:=m) J (λj bg=>h j J)).o)) (ej.sig ax h) (ej.blk h)).fs λs=>W.Jv s
theorem ej.succ:ej X S (n+1):=by
 have aH:=h n (bD _);have kN:Hid (∀m,m<n->ed X S 126 (W.run X m .stmt)):=A λm hm=>(oQ (h m J).stmt).o;have br:Hid (∀m,m<n->ed X S 165 (W.run X m (.b6 0)) [(0:Int)]):=A λm hm=>(h m J).Fx.o;refine⟨?_,?_,?_,?_,?_,λk=>?_⟩
 .exact aa4 _ aH.ty (A (ej.jX ax h))
 .exact Xk n ax kN
 .exact ZI _ aH.Fx (ej.blk h) (oQ aH.branch) (A λat_=>⟨λN p w s tv nv E aJ aZ=>W1 n ax br kN at_ aJ aZ,λs=>W.Jr at_ s⟩)
 .exact W2 _ aH.Fx (ej.blk h) (oQ aH.branch)
 .exact Xm n (ej.first ax h) (oQ aH.unary) (A (λm hm=>ej.exprs (n:=m) J (λj bg=>h j J))) (A (λm hm=>(h m J).ty.o))
 .exact ZJ n k (oQ aH.unary) (A (λm hm j=>((h m J).ex j).o))
end
def K0(n:Nat)(ax:n<=1000000): ∀m,m<=n->ej X S m:=by
 induction n with
 |zero=>
  intro m hm;obtain rfl:m=0:=J;exact⟨λ_ _ _ _ _ _ _ _ h=>absurd rfl h,λ_ _ _ _ _ _ _ _ h=>absurd rfl h,λ_ _ _ _ _ _ _ _ h=>absurd rfl h,λ_ _ _ _ _ _ _ _ h=>absurd rfl h,λ_ _ _ _ _ _ _ _ h=>absurd rfl h,λ_ _ _ _ _ _ _ _ _ h=>absurd rfl h⟩
 |succ n cB=>
  intro m hm;by_cases e:m=n+1
  .subst e;exact ej.succ J (cB J)
  .exact cB J m J
def WT(n)(ax:n<=1000000):gg X S 18 lk (iT X n):=WO n ax (A (λm hm=>(ej.decl (n:=m) J (λj bg=>K0 n ax j J)).o))
end
end il
namespace il
def sO{cy:Nat}{f0 f1}{w:ai}(e3:w.heap[cy]?=some (.cells #[f0,f1] 25 (0,0)))(c a):
  (a7 (a7 w cy c) (cy,1) a).heap[cy]?=some (.cells #[c,a] 25 (0,0))/\(∀V,V<=cy->aL V w (a7 (a7 w cy c) (cy,1) a))/\
  ∀N e bp n x xs,25≠e->w.ownsRow N e bp x n xs->(a7 (a7 w cy c) (cy,1) a).ownsRow N e bp x n xs:=
 ⟨et (et e3 0 c) 1 a,λV T=>((aT V w).setCell (p:=⟨cy,0,none⟩) T _).setCell (p:=⟨cy,1,none⟩) T _,λN e bp n x xs T h=>eZ (eZ h e3 T.symm) (et e3 0 c) T.symm⟩
def XZ(dT:Hid (∀(V:Nat) (w:ai) (S:ByteArray),kF V w->V<=w.heap.size->aY 17 #[S] w (vc S w)))(um:Hid (∀X S,gg X S 18 lk (iT X (B.fuel+4))))(V:Nat)(w:ai)(S:ByteArray)(hT:kF V w)(bY:V<=w.heap.size):aY 9 #[S] w (y_ S w):=by
 have bW:=A hT;clear hT;go_in;have Go:=0;go_wp2;obtain⟨w0,qh⟩: ∃w0:ai,w0=(aA w (aw #[(0:Int),(0:Int)] 25)):=⟨_,rfl⟩;have e':w0.heap.size=w.heap.size+1:=by rw[qh];simp
 have uo:Hid (w0.heap[w.heap.size]?=some (.cells #[(0:Int),(0:Int)] 25 (0,0))):=A (by rw[qh];exact ek _ _);have lP:Hid (aL w w w0):=A (by rw[qh];exact((aT _ _).alloc (bD _) _));rw[<-qh];refine(dT.o V w0 S (bW.o.below lP.o bY) J).mono ?_;rintro e w1 ⟨ck,gE⟩;have cJ:=A (ds uo.o ck J);have c1:=A (lP.o.trans (ck.mono J));have e_:=ck.size;cases gU:aa.scan (aC S) with
 |error x=>
  obtain⟨c,q⟩:=x;rw[gU] at gE;dsimp only at gE;subst gE;have hc:=Pe gU;have cP:Hid (j8 S= .error (c,q)):=A (by unfold j8;rw[gU]);clear gU;have e9:(c !=0)=true:=by simpa using hc
  have en:=A (hO cJ.o (aw #[c,q] 25));have fN:=A (ek w1 (aw #[c,q] 25));have cN:=A (c1.o.alloc J (aw #[c,q] 25));have HX:w.heap.size≠w1.heap.size:=J;go_wp2;generalize(aA w1 (aw #[c,q] 25))=w2 at*;have oY:=cX en.o 0;have oZ:=cX en.o 1;have f0:=az en.o 0;have f1:=az en.o 1;have g0:=az fN.o 0;have g1:=az fN.o 1;have jQ:=bd en.o;have ft:=bd fN.o;simp only[cO,cQ,c8] at f0 f1 g0 g1;have cZ:=A (sO en.o c q);go_region
  all_goals
   have ba:=A (Gf cP.o ((cN.o.trans (cZ.o.2.1 w.heap.size (bD _)))).drew);have cu:=az cZ.o.1 0;have k2:=az cZ.o.1 1;have iG:=az (ds cZ.o.1 ((aT _ _).drew) (bd cZ.o.1)) 0;have fY:=az (ds cZ.o.1 ((aT _ _).drew) (bd cZ.o.1)) 1;have pe:=bd cZ.o.1;simp only[cO,cQ,c8] at cu k2 iG fY;generalize(a7 (a7 w2 w.heap.size c) (w.heap.size,1) q)=bm at*;go_wp2
   (try simp only[Exit.inBlock,Exit.then])
   refine oK (by simp[iX,results9,go_sem,iG,fY];try rfl) rfl ?_;exact ba.o
 |ok l=>
  rw[gU] at gE;obtain⟨v,rfl,bQ,hl⟩:=gE;have uL:=A gU;have D6:=OV gU;have Zl:=A (ad1 gU);have cM:=A bQ;clear gU bQ;obtain⟨gX,cA,MO⟩:=eR cM.o rfl;subst MO;have en:=A (hO cJ.o (aw #[(0:Int),(0:Int)] 25));have cN:=A (c1.o.alloc J (aw #[(0:Int),(0:Int)] 25));have b8:aL w1 w1 (aA w1 (aw #[(0:Int),(0:Int)] 25)):=(aT _ _).alloc (bD _) _;have iN:=A (show lG w0.heap.size (aA w1 (aw #[(0:Int),(0:Int)] 25)) (gX,D l,cA) l from fZ cM.o b8 (λk U=>(eI cM.o k U).2));have ff:(aA w1 (aw #[(0:Int),(0:Int)] 25)).heap.size=w1.heap.size+1:=bT;go_wp2;generalize(aA w1 (aw #[(0:Int),(0:Int)] 25))=w2 at*;have zI:=Xs (X:=⟨l,S.size⟩) hl Zl.o;have DD:B.program ⟨l,S.size⟩ B.fuel≠ .o:=O2 (X:=⟨l,S.size⟩) hl;have e0:aL w2 w2 (aA w2 (aw #[S,(gX,D l,cA),(0:Int),(0:Int),.slice none 0 0,(0:Int),(0:Int),.bool false] 67)):=(aT _ _).alloc (bD _) _;have d_:Hid (cn w0.heap.size (w1.heap.size+1) (aA w2 (aw #[S,(gX,D l,cA),(0:Int),(0:Int),.slice none 0 0,(0:Int),(0:Int),.bool false] 67)) ⟨l,S.size⟩ S W.start (gX,D l,cA) (.slice none 0 0) []):=A
   {blk:=by rw[<-ff];exact ek _ _
    bu:=fZ iN.o e0 (λk U=>(eI iN.o k U).2)
    aj:=⟨n7 _ _ _ _,λx aF=>by cases aF⟩
    eq:=rfl
    src:=⟨rfl,by rw[kf] at D6;exact D6,hl⟩
    i:=gp _
    many:=gp _
    hN:=by omega}
  have fj:=A (ds en.o e0 J);have fu:=A (cN.o.trans (e0.mono J));generalize(aA w2 (aw #[S,(gX,D l,cA),(0:Int),(0:Int),.slice none 0 0,(0:Int),(0:Int),.bool false] 67))=bc at*;have aZ:iT ⟨l,S.size⟩ (B.fuel+4) W.start≠ .o:=by
   intro e;have aE:W.program ⟨l,S.size⟩ (B.fuel+4)= .o:=e;cases a_:B.program ⟨l,S.size⟩ B.fuel with
   |o=>exact DD a_
   |bL c q=>
    rw[a_] at zI;obtain⟨v,s,R,_⟩:=zI;rw[aE] at R;cases R
   |ok v s=>
    rw[a_] at zI;have R:W.program ⟨l,S.size⟩ (B.fuel+4)= .ok v (W.em s):=zI;rw[aE] at R;cases R
  refine(um.o ⟨l,S.size⟩ S w0.heap.size (w1.heap.size+1) bc W.start _ _ [] d_.o aZ).mono ?_;rintro e bS a_;obtain⟨v,s',gL,ar,au,rfl,R,T,ah⟩:=a_.parts aZ;have h6:W.program ⟨l,S.size⟩ (B.fuel+4)= .ok v s':=au;rw[List.nil_append] at R;have o':=A R;have fG:=A (ds fj.o T.below J);have iO:=A (fu.o.trans (T.below.mono J));unfold lk;have d7:=o'.o.rj;have d5:=o'.o.c5;have d6:=o'.o.y8;have d4:=o'.o.c4;have gV:=o'.o.lt;have oY:=cX fG.o 0;have oZ:=cX fG.o 1;have f0:=az fG.o 0;have f1:=az fG.o 1;have jQ:=bd fG.o;simp only[cO,cQ,c8] at f0 f1;obtain⟨A7,A8,MP⟩:=eR o'.o.aj.row rfl;subst MP;clear a_ R;cases a_:B.program ⟨l,S.size⟩ B.fuel with
  |o=>exact absurd a_ DD
  |bL c q=>
   rw[a_] at zI;obtain⟨v2,s2,g1,g2⟩:=zI;rw[h6] at g1;cases g1;have hw:=g2.w;have cP:Hid (j8 S= .error (c,q)):=A (Wg uL.o a_);rw[show gJ s'=true from g2.Dp] at d7;rw[show wc s'=c by unfold wc;rw[hw];rfl] at d5;rw[show wp s'=q by unfold wp;rw[hw];rfl] at d6;clear a_;have cZ:=A (sO fG.o c q);go_wp2;go_region
   all_goals
    have ba:=A (Gf cP.o ((iO.o.trans (cZ.o.2.1 w.heap.size (bD _)))).drew);have cu:=az cZ.o.1 0;have k2:=az cZ.o.1 1;have iG:=az (ds cZ.o.1 ((aT _ _).drew) (bd cZ.o.1)) 0;have fY:=az (ds cZ.o.1 ((aT _ _).drew) (bd cZ.o.1)) 1;have pe:=bd cZ.o.1;simp only[cO,cQ,c8] at cu k2 iG fY;generalize(a7 (a7 bS w.heap.size c) (w.heap.size,1) q)=bm at*;go_wp2
    (try simp only[Exit.inBlock,Exit.then])
    refine oK (by simp[iX,results9,go_sem,iG,fY];try rfl) rfl ?_;exact ba.o
  |ok v2 s2=>
   rw[a_] at zI;have g1:W.program ⟨l,S.size⟩ (B.fuel+4)= .ok v2 (W.em s2):=zI;rw[h6] at g1;cases g1;have aix:D s2.aj=D ar:=(by rw[show s2.aj=ar.map (·.1) from o'.o.eq,h2]);rw[show gJ (W.em s2)=false from rfl] at d7;have kK:=A a_;clear a_;by_cases aI:1200<D ar
   .have pP:decide ((1200:Int)<D ar)=true:=(by simp;omega);have cP:Hid (j8 S= .error (5,S.size)):=A (VG uL.o kK.o J);go_wp2;have cZ:=A (sO fG.o (5:Int) S.size);have ba:=A (Gf cP.o (iO.o.trans (cZ.o.2.1 w.heap.size (bD _))));have cu:=az cZ.o.1 0;have k2:=az cZ.o.1 1;have pe:=bd cZ.o.1;simp only[cO,cQ,c8] at cu k2;generalize(a7 (a7 bS w.heap.size (5:Int)) (w.heap.size,1) S.size)=bm at*
    (try simp only[Exit.inBlock,Exit.then])
    refine oK (by simp[iX,results9,go_sem,cu,k2];try rfl) rfl ?_;exact ba.o
   .have pP:decide ((1200:Int)<D ar)=false:=(by simp;omega);have cP:Hid (j8 S= .ok (ar.map (·.1))):=A (by rw[<-show s2.aj=ar.map (·.1) from o'.o.eq];exact P9 uL.o kK.o J);have EX:=A (show D ar<=1200 by omega);go_wp2;have cZ:=A (sO fG.o (0:Int) (0:Int));have cM:Hid (iJ w.heap.size (a7 (a7 bS w.heap.size (0:Int)) (w.heap.size,1) (0:Int)) (A7,D ar,A8) ar):=A (by
     refine⟨?_,λx aF=>?_⟩
     .exact qE (cZ.o.2.2 _ _ _ _ _ _ aN o'.o.aj.row) J
     .exact qE (cZ.o.2.2 _ _ _ _ _ _ aN (o'.o.aj.I x aF)) J)
    have ba:=A (Qw cP.o (iO.o.trans (cZ.o.2.1 w.heap.size (bD _))) cM.o EX.o);have cu:=az cZ.o.1 0;have k2:=az cZ.o.1 1;have pe:=bd cZ.o.1;simp only[cO,cQ,c8] at cu k2;generalize(a7 (a7 bS w.heap.size (0:Int)) (w.heap.size,1) (0:Int))=bm at*
    (try simp only[Exit.inBlock,Exit.then])
    refine oK (by simp[iX,results9,go_sem,cu,k2];try rfl) rfl ?_;exact ba.o
end il
end Go.Proofs.YtjfkhpkicioakaaGreatDoor
