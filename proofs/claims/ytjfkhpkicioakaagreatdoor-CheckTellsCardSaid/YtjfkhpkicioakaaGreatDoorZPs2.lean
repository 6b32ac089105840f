/- PROVED HERE: the parser of the program, walked. No condition. -/
import Derived.Test.YtjfkhpkicioakaaGreatDoorZLx1
import Derived.Test.YtjfkhpkicioakaaGreatDoorZPs1
import Derived.Test.YtjfkhpkicioakaaGreatDoorZP1
import Derived.Test.YtjfkhpkicioakaaGreatDoorZLx2
import Derived.Recover
import Derived.RegionTactic
import Derived.BigRegion
set_option maxRecDepth 100000
set_option maxHeartbeats 60000000
set_option linter.all false
open Array renaming replicate->vy
open ByteArray renaming empty->ke
open Go renaming Ending->e7,Value->af,World->ai,maxLen->dc,results->iX,undef->eb,wpAny_ready->tB,wpList->fo
open Go.Proofs.Tryz renaming underlying28->rN
open Go.RowKit renaming Below->aL
open Go.Value renaming ownBlock->tA,string->mm
open Go.World renaming alloc->aA,cell?->aG,setCell->a7
open List renaming getD->Y,length->D
open Go.Proofs.YtjfkhpkicioakaaGreatDoor.B hiding fail n8 one
open Go.Proofs.YtjfkhpkicioakaaGreatDoor.aa
open Go.Proofs.Tryz
namespace Go.Proofs.YtjfkhpkicioakaaGreatDoor
open Go.RowKit
section
variable{N p:Nat}{w:ai}{X:B.Src}{S:ByteArray}{s:B.ak}{tv nv:af}{E:List (aP×af)}
def XF(E':B.Rec)(bW:Hid (ed X S 147 (E' .typ))):gg X S 145 cD (B.named X E' 7):=by intro N p w s tv nv E h aZ;have z:=cF cD h aZ (by unfold B.named;exact rfl);go_in;have Go:=0;go_wp2;revert z;refine mA λw1 z=>?_;generalize B.aM X s=t at z|-;go_wp2;obtain⟨w2,cw,ag,aE,l2,z⟩:=oN t z;rw[ag,aE];go_wp2;revert z;refine bB λbc z aD=>?_;refine cb 0 ?_;refine cb 1 ?_;refine cb 2 ?_;refine cb 3 ?_;refine cb 4 ?_;refine cb 5 ?_;refine gw 6 λK ab=>?_;go_simp;revert z;refine bq bW.o λa4 bS bA z=>?_;go_wp2;refine ab.o _ _ (jj z) λaD=>?_;refine gw 7 λK ab=>?_;go_simp;obtain⟨bm,ij,ag,aE,F3,z⟩:=iE a4 z;rw[ag,aE];refine ab.o _ _ (o4 z) λaD=>?_;refine cb 8 ?_;refine gw 9 λK ab=>?_;go_simp;revert z;refine pu λfi b4 ha z=>?_;go_wp2;refine ab.o _ _ (jj z) λaD=>?_;refine cb 10 ?_;refine gz ?_;exact c_
def XG(E':B.Rec)(bW:Hid (ed X S 147 (E' .typ))):gg X S 139 cD (B.named X E' 9):=by intro N p w s tv nv E h aZ;have z:=cF cD h aZ (by unfold B.named;exact rfl);go_in;have Go:=0;go_wp2;revert z;refine mA λw1 z=>?_;generalize B.aM X s=t at z|-;go_wp2;obtain⟨w2,cw,ag,aE,l2,z⟩:=oN t z;rw[ag,aE];go_wp2;revert z;refine bB λbc z aD=>?_;refine cb 0 ?_;refine cb 1 ?_;refine cb 2 ?_;refine cb 3 ?_;refine cb 4 ?_;refine cb 5 ?_;refine gw 6 λK ab=>?_;go_simp;revert z;refine bq bW.o λa4 bS bA z=>?_;go_wp2;refine ab.o _ _ (jj z) λaD=>?_;refine gw 7 λK ab=>?_;go_simp;obtain⟨bm,ij,ag,aE,F3,z⟩:=iE a4 z;rw[ag,aE];refine ab.o _ _ (o4 z) λaD=>?_;refine cb 8 ?_;refine gw 9 λK ab=>?_;go_simp;revert z;refine pu λfi b4 ha z=>?_;go_wp2;refine ab.o _ _ (jj z) λaD=>?_;refine cb 10 ?_;refine gz ?_;exact c_
def F6:ed X S 142 (B.pointer X):=⟨Wz,λs=>B.FZ _,λs=>XS s⟩
def aaH(E':B.Rec)(bW:Hid (ed X S 147 (E' .typ)))(cZ:Hid (BM X S 145 (B.list X (E' (.params []))))):gg X S 104 cD (B.sig X E'):=by
 intro N p w s tv nv E h aZ;have z:=cF cD h aZ (by unfold B.sig;exact rfl);go_in;have Go:=0;have vQ:=C5;go_wp2;revert z;refine kH λw1 z=>?_;generalize B.aM X s=t at z|-;go_wp2;obtain⟨w2,cw,ag,aE,l2,z⟩:=qD #[(8:Int),t.an,(0:Int),.string ⟨#[]⟩,.slice none 0 0] 53 z;rw[ag,aE];go_wp2;revert z;refine vR cZ.o λr4 EL EM bc aq tz z=>?_;have d0:=dk z;have z:=fV 4 (EL,D r4,EM) z;have z:=fV 2 (D r4) z;go_wp2;obtain⟨bS,e,z⟩:=ch z;rw[e];revert z;refine zf (λbm z=>?_) λb4 z=>?_
 .go_wp2_with fail;revert z;refine IQ λb3 z=>?_;refine oE 0 ?_;refine oE 2 ?_;refine yH 1 3 (λK ab=>?_) λK ab=>?_
  .have c:=dk z;go_simp;refine ab _ _ ?_;refine iv 3 λK ab=>?_;go_simp;revert z;refine bq bW.o λtG a6 ik z=>?_;go_wp2;refine iv 4 λK ab=>?_;go_simp;refine ab _ _ ?_;refine iv 5 λK ab=>?_;revert z;refine sg tG (tz) λg9 M3 cp z=>?_;refine ab _ _ ?_;refine oE 6 ?_;refine iv 7 λK ab=>?_;have c:=dk z;go_simp;refine ab _ _ ?_;have z:=fV 4 (g9,D r4+1,M3) z;obtain⟨gF,e,z⟩:=ch z;rw[e];refine tL ?_;have c:=dk z;go_wp2;revert z;refine pu λEH iP qs z=>?_;exact c_
  go_simp;revert z;refine bq bW.o λa12 kp Al z=>?_;go_wp2;refine yH 1 4 (λK ab=>?_) λK ab=>?_
  .have c:=dk z;go_simp;refine ab _ _ ?_;refine iv 4 λK ab=>?_;go_simp;refine ab _ _ ?_;refine iv 5 λK ab=>?_;revert z;refine sg a12 (tz) λg13 afV mH z=>?_;refine ab _ _ ?_;refine oE 6 ?_;refine iv 7 λK ab=>?_;have c:=dk z;go_simp;refine ab _ _ ?_;have z:=fV 4 (g13,D r4+1,afV) z;obtain⟨q3,e,z⟩:=ch z;rw[e];refine tL ?_;have c:=dk z;go_wp2;revert z;refine pu λamA uA IS z=>?_;exact c_
  go_simp;refine ab _ _ ?_;refine iv 1 λK ab=>?_;have c:=Am (Bd a12 z);go_simp;refine ab _ _ ?_;refine iv 5 λK ab=>?_;revert z;refine sg a12 (tz) λg16 S8 sh z=>?_;refine ab _ _ ?_;refine oE 6 ?_;refine iv 7 λK ab=>?_;have c:=dk z;go_simp;refine ab _ _ ?_;have z:=fV 4 (g16,D r4+1,S8) z;obtain⟨si,e,z⟩:=ch z;rw[e];refine tL ?_;have c:=dk z;go_wp2;revert z;refine pu λEI sj yA z=>?_;exact c_
 have c:=dk z;go_wp2;revert z;refine pu λahp uB EN z=>?_;exact c_
def aaJ(E':B.Rec)(bW:Hid (ed X S 147 (E' .typ)))(cZ:Hid (BM X S 147 (B.list X (E' (.jX []))))):gg X S 147 cD (B.l5 X E'):=by
 intro N p w s tv nv E h aZ;have z:=cF cD h aZ (by unfold B.l5;exact rfl);go_in;have Go:=0;go_wp2;revert z;refine kH λw1 z=>?_;generalize ax:B.aM X s=t at z|-;have gh:=A ax;clear ax;go_wp2;obtain⟨w2,cw,ag,aE,l2,z⟩:=oN t z;rw[ag,aE];go_wp2;revert z;refine iB wH (λbc b0 z=>?_) λbS b0 z=>?_
 .have c:=c' z;have z:=cl z;go_wp2;revert z;refine pu λcf bm cm z=>?_;exact c_
 go_wp2;revert z;refine iB wz (λb4 b0 z=>?_) λb3 b0 z=>?_
 .have c:=c' z;have z:=cl z;go_wp2;revert z;refine pu λeY a6 ik z=>?_;exact c_
 go_wp2;revert z;refine j2 sR (λcp b0 z=>?_) λgF b0 z=>?_
 .go_wp2_with fail;exact eK F6 z
 go_wp2;revert z;refine j2 qI (λiP b0 z=>?_) λkp b0 z=>?_
 .go_wp2_with fail;revert z;refine jB qI λmH b0 z=>?_;go_wp2;revert z;refine bB λq3 z aD=>?_;refine cb 0 ?_;refine cb 1 ?_;refine cb 2 ?_;refine Vj 3 6 (λK ab=>?_) λK ab=>?_
  .go_simp;revert z;refine bq bW.o λIT uA IS z=>?_;go_wp2;refine ab.o _ _ (jj z) λaD=>?_;refine Vj 4 6 (λK ab=>?_) λK ab=>?_
   .go_simp;obtain⟨sh,MT,ag,aE,U5,z⟩:=iE IT z;rw[ag,aE];refine ab.o _ _ (o4 z) λaD=>?_;refine cb 5 ?_;refine gw 6 λK ab=>?_;go_simp;obtain⟨si,M0,ag,aE,M1,z⟩:=qD #[(0:Int),(0:Int),(0:Int),.string ⟨#[]⟩,.slice none 0 0] 53 z;rw[ag,aE];refine ab.o _ _ (nT z) λaD=>?_;refine gw 7 λK ab=>?_;have c:=c' z;go_simp;have z:=lM 0 (5:Int) z;have z:=lM 1 t.an z;have z:=lM 2 (0:Int) z;have z:=lM 3 (.string ⟨#[]⟩) z;have z:=lM 4 (.slice (some MT) 1 1) z;obtain⟨sj,e,z⟩:=ch z;rw[e];refine ab.o _ _ (nT z) λaD=>?_;refine gz ?_;obtain⟨b1,b2,bC,bG,cf⟩:=pc z;have bB:=uM z;have z:=jD z;have bO:=c' z;go_wp2;obtain⟨uB,e,z⟩:=ch z;rw[e];have z:=rE z;revert z;refine pu λTR q4 EF z=>?_;exact c_
   go_simp;obtain⟨uC,aos,ag,aE,anU,z⟩:=qD #[(0:Int),(0:Int),(0:Int),.string ⟨#[]⟩,.slice none 0 0] 53 z;rw[ag,aE];refine ab.o _ _ (o4 z) λaD=>?_;refine gw 4 λK ab=>?_;go_simp;obtain⟨q5,EO,ag,aE,IU,z⟩:=iE IT z;rw[ag,aE];refine ab.o _ _ (nT z) λaD=>?_;refine cb 5 ?_;refine gw 7 λK ab=>?_;have c:=dk z;go_simp;have z:=fV 0 (5:Int) z;have z:=fV 1 t.an z;have z:=fV 2 (0:Int) z;have z:=fV 3 (.string ⟨#[]⟩) z;have z:=fV 4 (.slice (some EO) 1 1) z;obtain⟨vC,e,z⟩:=ch z;rw[e];refine ab.o _ _ (nT z) λaD=>?_;refine gz ?_;obtain⟨b1,b2,bC,bG,cf⟩:=pc z;have bB:=uM z;have z:=jD z;have bO:=dk z;go_wp2;obtain⟨yB,e,z⟩:=ch z;rw[e];revert z;refine pu λTT vD EJ z=>?_;exact c_
  go_simp;obtain⟨yC,aou,ag,aE,anV,z⟩:=qD #[(0:Int),(0:Int),(0:Int),.string ⟨#[]⟩,.slice none 0 0] 53 z;rw[ag,aE];refine ab.o _ _ (o4 z) λaD=>?_;refine gw 3 λK ab=>?_;go_simp;revert z;refine bq bW.o λEP xp Mw z=>?_;go_wp2;refine ab.o _ _ (o4 z) λaD=>?_;refine gw 4 λK ab=>?_;go_simp;obtain⟨xq,My,ag,aE,U6,z⟩:=iE EP z;rw[ag,aE];refine ab.o _ _ (nT z) λaD=>?_;refine cb 5 ?_;refine gw 7 λK ab=>?_;have c:=dk z;go_simp;have z:=fV 0 (5:Int) z;have z:=fV 1 t.an z;have z:=fV 2 (0:Int) z;have z:=fV 3 (.string ⟨#[]⟩) z;have z:=fV 4 (.slice (some My) 1 1) z;obtain⟨yD,e,z⟩:=ch z;rw[e];refine ab.o _ _ (nT z) λaD=>?_;refine gz ?_;obtain⟨b1,b2,bC,bG,cf⟩:=pc z;have bB:=uM z;have z:=jD z;have bO:=dk z;go_wp2;obtain⟨xr,e,z⟩:=ch z;rw[e];revert z;refine pu λCv yE EK z=>?_;exact c_
 go_wp2;revert z;refine j2 oR (λyF b0 z=>?_) λxt b0 z=>?_
 .go_wp2_with fail;revert z;refine jB oR λxu b0 z=>?_;have c:=c' z;go_wp2;obtain⟨xv,Mz,ag,aE,U7,z⟩:=qD #[(6:Int),t.an,(0:Int),.string ⟨#[]⟩,.slice none 0 0] 53 z;rw[ag,aE];go_wp2;revert z;refine vR cZ.o λER afW afX yG Cw LF z=>?_;have d0:=dk z;have z:=fV 4 (afW,D ER,afX) z;have z:=fV 2 (D ER) z;go_wp2;obtain⟨Ao,e,z⟩:=ch z;rw[e];revert z;refine zf (λAp z=>?_) λCx z=>?_
  .go_wp2_with fail;revert z;refine IQ λCy z=>?_;refine oE 0 ?_;refine oE 2 ?_;refine yH 1 3 (λK ab=>?_) λK ab=>?_
   .have c:=dk z;go_simp;refine ab _ _ ?_;refine iv 3 λK ab=>?_;go_simp;revert z;refine bq bW.o λafs B8 ao1 z=>?_;go_wp2;refine iv 4 λK ab=>?_;go_simp;refine ab _ _ ?_;refine iv 5 λK ab=>?_;revert z;refine sg afs (LF) λaia afY B9 z=>?_;refine ab _ _ ?_;refine oE 6 ?_;refine iv 7 λK ab=>?_;have c:=dk z;go_simp;refine ab _ _ ?_;have z:=fV 4 (aia,D ER+1,afY) z;obtain⟨B_,e,z⟩:=ch z;rw[e];refine tL ?_;obtain⟨b1,b2,bC,bG,cf⟩:=pc z;have bB:=uM z;have z:=jD z;have bO:=dk z;go_wp2;obtain⟨Ca,e,z⟩:=ch z;rw[e];revert z;refine pu λTU Cb Ez z=>?_;exact c_
   go_simp;revert z;refine bq bW.o λa46 Cc IV z=>?_;go_wp2;refine yH 1 4 (λK ab=>?_) λK ab=>?_
   .have c:=dk z;go_simp;refine ab _ _ ?_;refine iv 4 λK ab=>?_;go_simp;refine ab _ _ ?_;refine iv 5 λK ab=>?_;revert z;refine sg a46 (LF) λMA Lz Cd z=>?_;refine ab _ _ ?_;refine oE 6 ?_;refine iv 7 λK ab=>?_;have c:=dk z;go_simp;refine ab _ _ ?_;have z:=fV 4 (MA,D ER+1,Lz) z;obtain⟨Ce,e,z⟩:=ch z;rw[e];refine tL ?_;obtain⟨b1,b2,bC,bG,cf⟩:=pc z;have bB:=uM z;have z:=jD z;have bO:=dk z;go_wp2;obtain⟨Cf,e,z⟩:=ch z;rw[e];revert z;refine pu λamF Cg akl z=>?_;exact c_
   go_simp;refine ab _ _ ?_;refine iv 1 λK ab=>?_;have c:=Am (Bd a46 z);go_simp;refine ab _ _ ?_;refine iv 5 λK ab=>?_;revert z;refine sg a46 (LF) λaid afZ Ch z=>?_;refine ab _ _ ?_;refine oE 6 ?_;refine iv 7 λK ab=>?_;have c:=dk z;go_simp;refine ab _ _ ?_;have z:=fV 4 (aid,D ER+1,afZ) z;obtain⟨Ci,e,z⟩:=ch z;rw[e];refine tL ?_;obtain⟨b1,b2,bC,bG,cf⟩:=pc z;have bB:=uM z;have z:=jD z;have bO:=dk z;go_wp2;obtain⟨Cj,e,z⟩:=ch z;rw[e];revert z;refine pu λahu EA MB z=>?_;exact c_
  obtain⟨b1,b2,bC,bG,cf⟩:=pc z;have bB:=uM z;have z:=jD z;have bO:=dk z;go_wp2;obtain⟨IW,e,z⟩:=ch z;rw[e];revert z;refine pu λahv IX Vt z=>?_;exact c_
 go_wp2;revert z;refine bB λIY z aD=>?_;refine cb 0 ?_;refine cb 1 ?_;refine cb 2 ?_;refine cb 3 ?_;refine gw 4 λK ab=>?_;go_simp;revert z;refine mA λIZ z=>?_;rw[gh.o];have yz:=Gj;go_wp2;refine ab.o _ _ (jj z) λaD=>?_;refine cb 5 ?_;refine cb 6 ?_;refine gw 7 λK ab=>?_;go_simp;have z:=cl z;revert z;refine pu λahw I0 Vv z=>?_;go_wp2;refine ab.o _ _ (jj z) λaD=>?_;refine cb 8 ?_;refine gz ?_;exact c_
end
section
variable{N p:Nat}{w:ai}{X:B.Src}{S:ByteArray}{s:B.ak}{tv nv:af}{E:List (aP×af)}
def Yc(E':B.Rec)(bW:Hid (ed X S 147 (E' .typ))):x4 X S 246 cD (B.made X E'):=by
 intro at_ N p w s tv nv E h aZ;have z:=cF cD h aZ (by unfold B.made;exact rfl);go_in;have Go:=0;go_wp2;revert z;refine jB gK λw1 b0 z=>?_;go_wp2;revert z;refine jB qI λw2 b0 z=>?_;go_wp2;revert z;refine bq bW.o λa3 bc aq z=>?_;have z:=MU a3 #[(42:Int),at_,(0:Int),.string ⟨#[]⟩,.slice (some bc.heap.size) 1 1] 53 z;obtain⟨b1,b2,bC,bG,cf⟩:=pc z;have bB:=uM z;have z:=jD z;go_wp2;obtain⟨bS,e,z⟩:=ch z;rw[e];revert z;refine iB tV (λbm b0 z=>?_) λb4 b0 z=>?_
 .have aiZ:=JV;have EG:=abK;go_wp2;revert z;refine kH λb3 z=>?_;generalize ax:B.aM X (B.bs (B.down aq))=t at z|-;have gh:=A ax;clear ax;cases G:B.mB X (B.bs (B.down aq))
  .have om:(t.j' !=2)=true:=(by have R:=G;unfold B.mB at R;rw[gh.o] at R;simpa using R);have z:=dM (ao (by rw[G];decide)) z;go_wp2;exact GZ z
  have om:(t.j' !=2)=false:=by have R:=G;unfold B.mB at R;rw[gh.o] at R;simpa using R
  have bN:=PO _ _ G;have z:=dM (aS G) z;go_wp2;revert z;refine kH λa6 z=>?_;rw[gh.o];have d:=c' z;have z:=lM 2 t.aX z;obtain⟨b1,b2,bC,bG,cf⟩:=pc z;have f9:=mg bN z;have z:=jF bN z;go_wp2;obtain⟨cp,e,z⟩:=ch z;rw[e];revert z;refine lE eW λgF z=>?_;have c:=c' z;go_wp2;have z:=rE z;revert z;refine pu λEH iP qs z=>?_;exact c_
 go_wp2;revert z;refine lE eW λkp z=>?_;have c:=c' z;go_wp2;have z:=rE z;revert z;refine pu λqn mH xo z=>?_;exact c_
def WA(E':B.Rec)(cC:Hid (ed X S 104 (B.sig X E')))(bh:Hid (ed X S 105 (E' .block))):x4 X S 102 cD (B.method X E'):=by intro at_ N p w s tv nv E h aZ;have z:=cF cD h aZ (by unfold B.method;exact rfl);go_in;have Go:=0;go_wp2;revert z;refine jB gK λw1 b0 z=>?_;go_wp2;revert z;refine mA λw2 z=>?_;generalize B.aM X (B.up (B.bs s))=t at z|-;go_wp2;obtain⟨bc,da,ag,aE,r4,z⟩:=oN t z;rw[ag,aE];go_wp2;revert z;refine bq F6 λa4 bS bA z=>?_;go_wp2;revert z;refine lE eW λbm z=>?_;have c:=c' z;go_wp2;obtain⟨b4,fg,ag,aE,Om,z⟩:=iE a4 z;rw[ag,aE];have c:=dk z;go_wp2;revert z;refine xn λqC b3 mj z=>?_;go_wp2;revert z;refine mA λa6 z=>?_;generalize B.aM X mj=t2 at z|-;go_wp2;obtain⟨cp,aoR,ag,aE,aog,z⟩:=oN t2 z;rw[ag,aE];go_wp2;revert z;refine bq cC.o λMV gF Ct z=>?_;go_wp2;revert z;refine bB λiP z aD=>?_;refine cb 0 ?_;refine cb 1 ?_;refine cb 2 ?_;refine cb 3 ?_;refine cb 4 ?_;refine cb 5 ?_;refine cb 6 ?_;refine gw 7 λK ab=>?_;go_simp;revert z;refine bq bh.o λa12 kp Al z=>?_;go_wp2;refine ab.o _ _ (jj z) λaD=>?_;refine gw 8 λK ab=>?_;go_simp;obtain⟨mH,aj',ag,aE,ajI,z⟩:=MW qC MV a12 z;rw[ag,aE];refine ab.o _ _ (o4 z) λaD=>?_;refine cb 9 ?_;refine gw 10 λK ab=>?_;go_simp;revert z;refine pu λxd q3 yy z=>?_;go_wp2;refine ab.o _ _ (jj z) λaD=>?_;refine cb 11 ?_;refine gz ?_;exact c_
def XD(E':B.Rec)(dA:Hid (G3 X S 139 (B.items X (E' (.fields [])))))(c0:Hid (MX X S (B.items X (E' (.j_ [])))/\ ∀s,dr (B.items X (E' (.j_ [])) s) s.bR)):x4 X S 100 cD (B.typed X E'):=by
 intro at_ N p w s tv nv E h aZ;have z:=cF cD h aZ (by unfold B.typed;exact rfl);go_in;have Go:=0;have yz:=Gj;have z:=rY #[(p,0)] 75 z;have c:=c' z;go_wp2;revert z;refine mA λw1 z=>?_;generalize B.aM X s=t at z|-;have z:=rY #[(0:Int),at_,(0:Int),t.O,.slice none 0 0] 53 z;have c:=dk z;go_wp2;revert z;refine iB JL (λw2 b0 z=>?_) λbc b0 z=>?_
 .have d:=c' z;have z:=lM 0 (10:Int) z;have c:=dk z;go_wp2;obtain⟨bS,e,z⟩:=ch z;rw[e];revert z;refine vR dA.o λF3 akB BX bm cm BK z=>?_;have d0:=dk z;have z:=fV 4 (akB,D F3,BX) z;have bO:=dk z;have bq:=Am z;go_wp2;obtain⟨b4,e,z⟩:=ch z;rw[e];revert z;refine pu λqC b3 mj z=>?_;exact c_
 have c:=dk z;go_wp2;revert z;refine k0 Jj λa6 b0 z=>?_;have d:=c' z;have z:=lM 0 (12:Int) z;have c:=dk z;go_wp2;obtain⟨cp,e,z⟩:=ch z;rw[e];revert z;refine ahM c0.o.1 c0.o.2 λU3 afT afU gF Ct alG z=>?_;have d0:=dk z;have z:=fV 4 (afT,D U3,afU) z;have bO:=dk z;have bq:=Am z;go_wp2;obtain⟨iP,e,z⟩:=ch z;rw[e];revert z;refine pu λxe kp Al z=>?_;exact c_
def Yd(E':B.Rec)(cC:Hid (ed X S 104 (B.sig X E')))(bh:Hid (ed X S 105 (E' .block)))(mc:Hid (∀at_:Nat,ed X S 100 (B.typed X E' at_) [at_]))(An:Hid (∀at_:Nat,ed X S 102 (B.method X E' at_) [at_])):gg X S 62 cD (B.j9 X E'):=by
 intro N p w s tv nv E h aZ;have z:=cF cD h aZ (by unfold B.j9;exact rfl);go_in;have Go:=0;have vQ:=C5;go_wp2;revert z;refine kH λw1 z=>?_;generalize B.aM X s=t at z|-;go_wp2;revert z;refine iB Ke (λw2 b0 z=>?_) λbc b0 z=>?_
 .go_wp2_with fail;exact eK (mc.o _) z
 go_wp2;revert z;refine k0 oR λbS b0 z=>?_;go_wp2;revert z;refine j2 gK (λbm b0 z=>?_) λb4 b0 z=>?_
 .go_wp2_with fail;exact eK (An.o _) z
 go_wp2;revert z;refine mA λb3 z=>?_;generalize B.aM X (B.bs s)=t2 at z|-;go_wp2;obtain⟨a6,xY,ag,aE,aob,z⟩:=oN t2 z;rw[ag,aE];go_wp2;revert z;refine bq cC.o λa9 cp k' z=>?_;go_wp2;revert z;refine bB λgF z aD=>?_;refine cb 0 ?_;refine cb 1 ?_;refine cb 2 ?_;refine cb 3 ?_;refine cb 4 ?_;refine cb 5 ?_;refine gw 6 λK ab=>?_;go_simp;revert z;refine bq bh.o λm_ iP qs z=>?_;go_wp2;refine ab.o _ _ (jj z) λaD=>?_;refine gw 7 λK ab=>?_;go_simp;obtain⟨kp,aor,ag,aE,anT,z⟩:=mf a9 m_ z;rw[ag,aE];refine ab.o _ _ (o4 z) λaD=>?_;refine cb 8 ?_;refine gw 9 λK ab=>?_;go_simp;revert z;refine pu λqn mH xo z=>?_;go_wp2;refine ab.o _ _ (jj z) λaD=>?_;refine cb 10 ?_;refine gz ?_;exact c_
def XE(E':B.Rec)(cC:Hid (ed X S 104 (B.sig X E')))(bh:Hid (ed X S 105 (E' .block)))(ba:Hid (ed X S 179 (E' (.b6 0))))(MY:Hid (∀at_:Nat,ed X S 246 (B.made X E' at_) [at_])):gg X S 240 cD (B.kA X E'):=by
 intro N p w s tv nv E h aZ;have z:=cF cD h aZ (by unfold B.kA;exact rfl);go_in;have Go:=0;go_wp2;revert z;refine kH λw1 z=>?_;generalize ax:B.aM X s=t at z|-;have gh:=A ax;clear ax;have z:=rY #[t.j',t.O,t.aX,t.an] 97 z;have c:=c' z;cases G:B.mB X s
 .have om:(t.j'==2)=false:=by have R:=G;unfold B.mB at R;rw[gh.o] at R;exact R
  have z:=dM (ao (by rw[G];decide)) z;go_wp2;obtain⟨w2,e,z⟩:=ch z;rw[e];go_wp2;revert z;refine iB PY (λbc b0 z=>?_) λbS b0 z=>?_
  .have c:=c' z;have z:=cl z;go_wp2;revert z;refine pu λcf bm cm z=>?_;exact c_
  go_wp2;revert z;refine iB PA (λb4 b0 z=>?_) λb3 b0 z=>?_
  .have c:=c' z;have z:=cl z;go_wp2;revert z;refine bH λeY a6 ik z=>?_;exact c_
  go_wp2;revert z;refine iB La (λcp b0 z=>?_) λgF b0 z=>?_
  .have c:=c' z;have z:=cl z;go_wp2;revert z;refine bH λEH iP qs z=>?_;exact c_
  go_wp2;revert z;refine iB oR (λkp b0 z=>?_) λmH b0 z=>?_
  .go_wp2_with fail;revert z;refine bq cC.o λAk q3 yy z=>?_;go_wp2;revert z;refine bB λuA z aD=>?_;refine cb 0 ?_;refine cb 1 ?_;refine cb 2 ?_;refine cb 3 ?_;refine cb 4 ?_;refine gw 5 λK ab=>?_;go_simp;revert z;refine bq bh.o λMZ sh IM z=>?_;go_wp2;refine ab.o _ _ (jj z) λaD=>?_;refine gw 6 λK ab=>?_;go_simp;obtain⟨si,M0,ag,aE,M1,z⟩:=mf Ak MZ z;rw[ag,aE];refine ab.o _ _ (o4 z) λaD=>?_;refine gw 7 λK ab=>?_;go_simp;revert z;refine bH λEI sj yA z=>?_;go_wp2;refine ab.o _ _ (jj z) λaD=>?_;refine cb 8 ?_;refine gz ?_;exact c_
  go_wp2;revert z;refine iB K_ (λuB b0 z=>?_) λq4 b0 z=>?_
  .go_wp2_with fail;revert z;refine jB gK λuC b0 z=>?_;go_wp2;revert z;refine mA λq5 z=>?_;generalize B.aM X (B.up (B.bs (B.bs s)))=t2 at z|-;go_wp2;obtain⟨vC,aot,ag,aE,IN,z⟩:=oN t2 z;rw[ag,aE];go_wp2;revert z;refine lE eW λyB z=>?_;have d:=dk z;have c:=c' z;have z:=cl z;go_wp2;revert z;refine pu λTT vD EJ z=>?_;exact c_
  go_wp2;revert z;refine iB KO (λyC b0 z=>?_) λxp b0 z=>?_
  .have c:=c' z;go_wp2;exact eK (MY.o _) z
  go_wp2;revert z;refine j2 gK (λxq b0 z=>?_) λyD b0 z=>?_
  .go_wp2_with fail;revert z;refine jB gK λxr b0 z=>?_;go_wp2;revert z;refine bq ba.o λa31 yE EK z=>?_;go_wp2;revert z;refine lE eW λyF z=>?_;exact c_
  go_wp2;revert z;refine bB λxt z aD=>?_;refine cb 0 ?_;refine cb 1 ?_;refine cb 2 ?_;refine cb 3 ?_;refine gw 4 λK ab=>?_;go_simp;revert z;refine mA λxu z=>?_;rw[gh.o];have yz:=Gj;go_wp2;refine ab.o _ _ (jj z) λaD=>?_;refine cb 5 ?_;refine cb 6 ?_;refine gw 7 λK ab=>?_;go_simp;have z:=cl z;revert z;refine pu λCu xv IP z=>?_;go_wp2;refine ab.o _ _ (jj z) λaD=>?_;refine cb 8 ?_;refine gz ?_;exact c_
 have om:(t.j'==2)=true:=by have R:=G;unfold B.mB at R;rw[gh.o] at R;exact R
 have bN:=PO _ _ G;have z:=dM (aS G) z;obtain⟨b1,b2,bC,bG,cf⟩:=pc z;have f9:=mg bN z;have z:=jF bN z;have d:=c' z;go_wp2;obtain⟨yG,e,z⟩:=ch z;rw[e];have z:=cl z;revert z;refine pu λamD Ao akj z=>?_;exact c_
end
section
variable{N p:Nat}{w:ai}{X:B.Src}{S:ByteArray}{s:B.ak}{tv nv:af}{E:List (aP×af)}
def xZ (X:B.Src)(n:Nat)(s:B.ak):B.aV:=(B.kA X (B.run X n) s).M λe s1=>B.run X n (.part (Y e 0 0)) s1
def cI.K1{wk aW ar u l l2 a6 g2 m fz}(h:cI N w wk (E++ar) u l)(bF:Go N p X S w tv nv E wk s aW ar)(fF:a6.ownsRow N 3 1 (.slice (some ⟨g2,0,none⟩) (D l+m) fz) (D l+m) (fh l++fh l2))(hm:D l2=m)(dv:wk.grownBy a6 u.ownBlock)
   (e1:u.ownBlock=some g2\/g2=wk.heap.size):Go N p X S w tv nv E a6 s aW ar/\cI N w a6 (E++ar) (.slice (some ⟨g2,0,none⟩) (D l+m) fz) (l++l2)/\(∀k,k<wk.heap.size->u.ownBlock≠some k->a6.heap[k]?=wk.heap[k]?):=by
  have U: ∀k,k<wk.heap.size->u.ownBlock≠some k->a6.heap[k]?=wk.heap[k]?:=λk R T=>dv.block k R (λe=>T e.symm);have dD:=bF.st;have hs:=bF.size;have vL:u.ownBlock≠some p:=λe=>mu h.row dD.blk aN e;have di:aL N wk a6:=Below.grown (aT N wk) dv dD.jo (λk ei=>(h.row.lt k ei).1);have Az:Go N p X S w tv nv E a6 s aW ar:=by
    refine⟨{dD with
        blk:=(U p (bd dD.blk) vL).trans dD.blk
        bu:=nk dD.bu (λk ei=>U k (dD.bu.lt k ei).2 (λe=>r0 dD.bu h.row aN ei e))
        aj:=⟨nk dD.aj.row (λk ei=>U k (dD.aj.row.lt k ei).2 (λe=>r0 dD.aj.row h.row aN ei e)),λx aF=>nk (dD.aj.I x aF) (λk ei=>U k ((dD.aj.I x aF).lt k ei).2 (h.ap x aF k ei))⟩},
      ⟨bF.de.below.trans di,λk R T ah=>(U k J (λe=>?_)).trans (bF.de.gP k R T ah),bF.de.row⟩,bF.fr,bF.eK,bF.pl⟩
    have:=h.dV k e;omega
  refine⟨Az,⟨?_,λb G=>?_,λx aF b G e=>?_⟩,U⟩
  . have:fh (l++l2)=fh l++fh l2:=rX
    show a6.ownsRow N 3 1 _ (D (l++l2)) (fh (l++l2));rw[this,dW,hm];exact fF
  . obtain rfl:g2=b:=by simpa[tA] using G
    obtain e|e:=e1
    . exact h.dV _ e
    . omega
  . obtain rfl:g2=b:=by simpa[tA] using e
    obtain e|e:=e1
    . exact h.ap x aF _ G e
    . have:=((dD.aj.I x aF).lt _ G).2
      omega
def runN{wk}{val:List Nat->af}{pl bV cU L m f}(h:Hid (aO N p X S w tv nv E val pl bV cU wk s L (B.run X m f s))): ∃k,m=k+1:=by
  obtain⟨_,_,h⟩:=h.o;cases m with
  |zero=>exact absurd h.eq h.ne
  |succ k=>exact⟨k,rfl⟩
def IJ{ops rest o s0 cF}{er:Exit->Act->ai->Prop}{a wk}{val:List Nat->af}{pl r bV cU L l e q bb aQ}(hl:D l<=1000000)
   (h: ∀gM Aj a6,Hid (aO N p X S w tv nv E val pl bV cU a6 s (.dd (.slice gM (D l+1) Aj) (e::l)::L) r)->fo prog ops er rest (a.put o.dst (.slice gM (D l+1) Aj)) a6)
   (h8:nA L=L:=by rfl)(jO:o.guard=none:=by rfl)(bX:o.op= .call {callee:= .builtin .append,args:= #[s0,cF],argTypes:= #[28,28]}:=by rfl)(hs:a.eval s0= .slice (some ⟨q,0,none⟩) 1 1:=by rfl)(aF:a.eval cF= .slice bb (D l) aQ:=by rfl):
    Hid (aO N p X S w tv nv E val pl bV cU wk s (.dd (.slice bb (D l) aQ) l:: .dd (.slice (some ⟨q,0,none⟩) 1 1) [e]::L) r)->fo prog ops er (o::rest) a wk:=by
  intro z;obtain⟨i0,fM,e',e_,ff⟩:=kT r1;cases l with
  |nil=>exact U_ wk jO s0 cF 28 3 bX i0 rN fM _ 1 1 (bD _) hs bb aQ aF (h _ _ _ (nZ z))
  |cons eS qc=>
    obtain⟨aW,ar,bF⟩:=z.o;have U:cI N w wk (E++ar) (.slice bb (eS::qc).length aQ) (eS::qc):=bF.fP _ (hY ..);have ev:cI N w wk (E++ar) (.slice (some q) 1 1) [e]:=bF.fP _ (hP _ (hY ..));have hN:=bF.go.st.jo;obtain⟨jE,gc,hG⟩:=dR U.row bT;cases hG;refine tI _ jO s0 cF 28 bX N 3 i0 _ 1 8 rN fM e' e_ ff rfl J _ [e].length (fh [e]) hs ev.row ⟨jE,0,none⟩ (D (eS::qc)) aQ (fh (eS::qc)) aF (by simp[fh]) U.news (OG _) bT (by unfold dc;simp at hl|-;omega) (by simp at hl|-;omega) J wk.heap.size rfl ?_;intro g cap a6 fF dv e1 _;obtain⟨a1,a2,a3⟩:=ev.K1 (l2:=eS::qc) bF.go fF rfl dv e1;have ag:[e].length+D (eS::qc)=D (eS::qc)+1:=(by simp;omega);rw[ag] at a2|-;refine h _ _ _ (A ⟨aW,ar,a1,List.forall_mem_cons.2 ⟨a2,λy bx=>?_⟩,List.pairwise_cons.2 ⟨λy _=>by cases y<;>trivial,(List.pairwise_cons.1 (List.pairwise_cons.1 bF.off).2).2⟩,bF.eq,bF.ne,bF.d0,bF.ib⟩);obtain⟨_,da,c,t,rfl⟩:=vh (h8▸bx);have ah:=bF.fP _ (hP _ (hP _ bx));exact⟨⟨(a3 da ah.1.lt (λe=>mu ev.row ah.1.blk ah.2 e)).trans ah.1.blk,ah.1.dV,ah.1.ne⟩,ah.2⟩
def Yb(n:Nat)(dj:Hid (ed X S 240 (B.kA X (B.run X n))))(cZ:Hid (∀m,m<n->BM X S 179 (B.list X (B.run X m (.exprs [])))))(bW:Hid (∀m,m<n->ed X S 147 (B.run X m .typ))):gg X S 236 cD (xZ X n):=by
 intro N p w s tv nv E h aZ;have z:=cF cD h aZ (by unfold xZ;exact rfl);go_in;have Go:=0;go_wp2;revert z;refine bq dj.o λa1 w1 s1 z=>?_;go_wp2;go_loopg[3] n (λm e wr=> ∃(a:Nat) (bf:B.ak),e= a/\m<=n/\Hid (aO N p X S w tv nv E cD (xZ X n s) s.bR (some 0) wr bf [] (B.run X m (.part a) bf)))
 case atStart=>exact⟨_,_,rfl,bD _,z⟩
 case round=>
  obtain⟨a,bf,rfl,hm,z⟩:=hrel;obtain⟨m,rfl⟩:=runN z;have gr:m<n:=J;have z:=dM (r2:=_) (by unfold B.run B.kE B.oU;exact rfl) z;have vQ:=C5;go_wp2;revert z;refine kH λw2 z=>?_;generalize B.aM X bf=t at z|-;go_wp2;revert z;refine j2 gK (λbc b0 z=>?_) λbS b0 z=>?_
  .go_wp2_with fail;obtain⟨bm,ij,ag,aE,F3,z⟩:=iE a z;rw[ag,aE];go_wp2;revert z;refine vR (cZ.o m gr) λOm apm apq b4 ha aja z=>?_;go_wp2_with(at_builtin;revert z;refine IJ aja λapn apr b3 z=>?_)
   revert z;refine xm λeY a6 ik z=>?_;go_wp2;go_roundg m
   case rel=>exact⟨_,_,rfl,by omega,z⟩
   case measure=>omega
  go_wp2;revert z;refine iB Bg (λcp b0 z=>?_) λgF b0 z=>?_
  .go_wp2_with fail;revert z;refine j2 gK (λiP b0 z=>?_) λkp b0 z=>?_
   .go_wp2_with fail;revert z;refine jB gK λmH b0 z=>?_;go_wp2;revert z;refine bq (bW.o m gr) λAk q3 yy z=>?_;go_wp2;revert z;refine lE eW λuA z=>?_;go_wp2;obtain⟨sh,MT,ag,aE,U5,z⟩:=mf a Ak z;rw[ag,aE];revert z;refine xm λTQ si IK z=>?_;go_wp2;go_roundg m
    case rel=>exact⟨_,_,rfl,by omega,z⟩
    case measure=>omega
   have yz:=Gj;go_wp2;revert z;refine mA λsj z=>?_;generalize B.aM X (B.bs bf)=t2 at z|-;go_wp2;obtain⟨uB,IL,ag,aE,ajJ,z⟩:=iE a z;rw[ag,aE];revert z;refine xn λTR q4 EF z=>?_;go_wp2;go_roundg m
   case rel=>exact⟨_,_,rfl,by omega,z⟩
   case measure=>omega
  exact c_
end
section
variable{N p:Nat}{w:ai}{X:B.Src}{S:ByteArray}{s:B.ak}{tv nv:af}{E:List (aP×af)}
def tR:List ByteArray:=[⟨#[33]⟩,⟨#[45]⟩,⟨#[60,45]⟩]
def aaD{X x s s' v}(h:B.enter X x s= .ok v s'):v=[(B.aM X s).an]:=by
 unfold B.enter at h;split at h
 .cases h
 .cases R:B.take X x s with
  |o=>rw[R] at h;cases h
  |bL c q=>rw[R] at h;cases h
  |ok v1 s1=>
   rw[R] at h;cases h;exact(xT R).1
def acH{X E' s k}(U:k<3)(aH: ∀j,j<k->B.bw X s (aC (Y tR j ke))=false)(R:B.bw X s (aC (Y tR k ke))=true):B.jV X E' s=B.ky X E' (aC (Y tR k ke)) (43+(k:Int)) s:=by
 unfold B.jV;obtain _|_|_|k:=k
 .exact aS R
 .rw[ao (by rw[show B.bw X s Bc=false from aH 0 J];simp)];exact aS R
 .rw[ao (by rw[show B.bw X s Bc=false from aH 0 J];simp),ao (by rw[show B.bw X s C9=false from aH 1 J];simp)];exact aS R
 .omega
def aaE{X n s}(aH: ∀j,j<3->B.bw X s (aC (Y tR j ke))=false):B.jV X (B.run X n) s=xZ X n s:=by unfold B.jV;rw[ao (by rw[show B.bw X s Bc=false from aH 0 J];simp),ao (by rw[show B.bw X s C9=false from aH 1 J];simp),ao (by rw[show B.bw X s l4=false from aH 2 J];simp)];rfl
def aaF(X:B.Src)(n:Nat)(s):B.bn (xZ X n s):=B.bn.M λ_ _=>B.p5 X n _ rfl _
def XC(n)(IH:Hid (gg X S 236 cD (xZ X n)))(ia:Hid (gg X S 225 cD (B.run X n .unary))):gg X S 225 cD (B.jV X (B.run X n)):=by
 intro N p w s tv nv E h aZ;have z:=A (Go.start h);have gH:=A aZ;have lz:=h.d0;clear h aZ;go_in;obtain⟨t,ln⟩: ∃t,B.aM X s=t:=⟨_,rfl⟩;have jv:=A ln;clear ln;go_wp2_with fail;have q1:Hid (qb (aA w (aw #[.string ⟨#[33]⟩,.string ⟨#[45]⟩,.string ⟨#[60,45]⟩] 9)) (.slice (some w.heap.size) 3 3) tR):=A (qb.new w tR aN 9);replace z:=A (z.o.alloc (aw #[.string ⟨#[33]⟩,.string ⟨#[45]⟩,.string ⟨#[60,45]⟩] 9));go_loopw[9] (λi wr=> ∃k:Nat,k<=3/\i= k/\Hid (Go N p X S w tv nv E wr s nv [])/\Hid (qb wr (.slice (some w.heap.size) 3 3) tR)/\Hid (∀j,j<k->B.bw X s (aC (tR.getD j ke))=false)) (λi _=>3-(intOf i).toNat)
 case atStart=>exact⟨0,by omega,rfl,z,q1,A (λj bg=>absurd bg (Nat.not_lt_zero _))⟩
 case round=>
  clear z q1;obtain⟨k,U,rfl,z,q1,jR⟩:=hrel;by_cases II:k<3
  .have GQ:wr.cell? (w,k)=some (.string (tR.getD k ke)):=by
    obtain⟨g,cap,bQ,aB,hl,hc⟩:=q1.o;cases bQ;exact hc k II
   have S7:=A (λR=>acH (X:=X) (E':=B.run X n) (s:=s) II jR.o R);have k7:Hid (B.bw X s (aC (Y tR k ke))=false-> ∀j,j<k+1->B.bw X s (aC (Y tR j ke))=false):=A (λR j bg=>by
    by_cases e:j=k
    .subst e;exact R
    .exact jR.o j J)
   have⟨eS,b1⟩:(0:Int)<=k/\(k:Int)<3:=J;have apP:IntKind.i64.wrap (43+(k:Int))=43+(k:Int):=dI _ J;have apN:IntKind.i64.wrap (k+1)=((k+1:Nat):Int):=(by rw[dI _ J];rfl);generalize Y tR k ke=x at*;cases G:B.bw X s (aC x) with
   |false=>
    have b0:=A G;clear G;go_wp2_with fail;refine b7 (lX z.o.st x false b0) λw1 G=>?_;have ox:=A (q1.o.below G);replace z:=A (z.o.new G);clear G;go_wp2;go_roundw
    case rel=>exact⟨k+1,by omega,by go_num,z,ox,A (k7.o b0.o)⟩
    case measure=>simp[intOf];omega
   |true=>
    have b0:=A G;clear G;go_wp2_with fail;refine b7 (lX z.o.st x true b0) λw2 G=>?_;have ox:=A (q1.o.below G);replace z:=A (z.o.new G);clear G;have mG:=A (S7.o b0.o);clear GQ q1 ox k7 S7;go_wp2_with fail;refine(F4 z.o.st x).mono ?_;rintro e bc a_;obtain⟨c,q,au,rfl,G⟩|⟨v,aq,n3,zT,au,rfl,R,T,ah⟩:=a_.parts (JP _ _ _)
    .have ba:Hid (Out N p X S w tv nv E cD (B.jV X (B.run X n) s) (dt c q) bc):=A (z.o.bL G (by simp[B.ky,B.fL,mG.o,jv.o,au,B.aV.M]));clear a_ au G;unfold dt;go_wp2;exact⟨rfl,ba.o⟩
    obtain rfl:=aaD au;have HH:=A (dr.enter X _ _ _ _ au);rw[jv.o] at au;have Af:=A au;replace z:=A (z.o.then R T ah);clear a_ au R T ah;unfold cD;rw[jv.o];go_wp2_with fail;refine(ia.o _ _ _ _ _ _ _ z.o.st (λe=>gH.o (by simp[B.ky,B.fL,mG.o,jv.o,Af.o,e,B.aV.M]))).mono ?_;rintro e bS a_;rcases a_.parts (λe=>gH.o (by simp[B.ky,B.fL,mG.o,jv.o,Af.o,e,B.aV.M])) with⟨c,q,au,rfl,G⟩|⟨v,bA,n4,Dt,au,rfl,R,T,ah⟩
    .skip;have ba:Hid (Out N p X S w tv nv E cD (B.jV X (B.run X n) s) (dt c q) bS):=A (z.o.bL G (by simp[B.ky,B.fL,mG.o,jv.o,Af.o,au,B.aV.M]));clear a_ au G;unfold dt;go_wp2;exact⟨rfl,ba.o⟩
    have MR:=A (mv X n .unary _ _ _ au);obtain⟨a4,rfl⟩:=B.p5 X n .unary rfl _ _ _ au;have MS:=A au;replace z:=A (z.o.then R T ah);clear a_ au R T ah;unfold cD;have ahV:1<=bA.bR:=(by have:=HH.o;have:=MR.o;omega);have ahW:=z.o.st.d1;have n':=z.o.st.c3;have AR:=z.o.st.free 3;have dl:=z.o.st.lt;replace z:Hid (Go N p X S w tv nv E (a7 bS (p,3) [(bA.bR- 1:Int)]) (B.down bA) n4 _):=A (z.o.bR (d:=bA.bR- 1) J J);go_wp2_with fail;have hsz:(a7 bS (p,3) [(bA.bR- 1:Int)]).heap.size=bS.heap.size:=bT;clear n' AR dl ahV ahW;generalize(a7 bS (p,3) [(bA.bR- 1:Int)])=bm at*;have bK:Hid (cI N w (aA bm (aw #[a4] 3)) _ (.slice (some bm.heap.size) 1 1) [a4]):=A (cI.new z.o [a4] bT);replace z:=A (z.o.alloc (aw #[a4] 3));generalize UT:(aA bm (.cells #[a4] 3))=b4 at*;have amh:bm.heap.size<b4.heap.size:=(by rw[<-UT];simp);clear UT;rw[hsz] at bK;go_wp2_with fail;have jJ:Hid (B.jV X (B.run X n) s=B.put ⟨(43+(k:Int)),t.an,0,[],[a4]⟩ (B.down bA)):=A (by simp[B.ky,B.fL,mG.o,jv.o,Af.o,MS.o,B.aV.M]);have mV:=gH.o;rw[jJ.o] at mV;have aI:=wq mV;have hI:=A (zm mV);clear mV;refine(VS z.o.st (43+(k:Int)) t.an [a4] (.slice (some bS.heap.size) 1 1) bK.o.row aI).mono ?_;rintro e b3 ⟨rfl,F8,R,T⟩;have ba:Hid (Out N p X S w tv nv E cD (B.jV X (B.run X n) s) (.returned [((B.down bA).aj.length:Int)]) b3):=A ((z.o.put R T bK.o.dV).o (by rw[jJ.o,hI.o]) rfl);clear R T;go_wp2;go_returns;exact ba.o
  .obtain rfl:k=3:=J;have mG:Hid (B.jV X (B.run X n) s=xZ X n s):=A (aaE jR.o);clear q1 jR;go_wp2_with fail;refine(IH.o _ _ _ _ _ _ _ z.o.st (λe=>gH.o (mG.o.trans e))).mono ?_;rintro e a6 a_;obtain⟨c,q,au,rfl,G⟩|⟨v,ik,ajW,Xn,au,rfl,R,T,ah⟩:=a_.parts (λe=>gH.o (mG.o.trans e))
   .skip;have ba:Hid (Out N p X S w tv nv E cD (B.jV X (B.run X n) s) (dt c q) a6):=A (z.o.bL G (by simp[mG.o,au,B.aV.M]));clear a_ au G;unfold dt;go_wp2;exact⟨rfl,ba.o⟩
   obtain⟨tG,rfl⟩:=aaF _ _ _ _ _ au;have Zc:=A au;replace z:=A (z.o.then R T ah);clear a_ au R T ah;unfold cD;have ba:Hid (Out N p X S w tv nv E cD (B.jV X (B.run X n) s) (.returned tG) a6):=A (z.o.o (v:=[tG]) (by simp[mG.o,Zc.o,B.aV.M]) rfl);go_wp2;go_returns;exact ba.o
end
section
variable{N p:Nat}{w:ai}{X:B.Src}{S:ByteArray}{s:B.ak}{tv nv:af}{E:List (aP×af)}
def w_:List (List ByteArray):=[[⟨#[124,124]⟩],[⟨#[38,38]⟩],[⟨#[61,61]⟩,⟨#[33,61]⟩,⟨#[60]⟩,⟨#[60,61]⟩,⟨#[62]⟩,⟨#[62,61]⟩],[⟨#[43]⟩,⟨#[45]⟩],[⟨#[42]⟩,⟨#[47]⟩,⟨#[37]⟩]]
def jx (k:Nat):Array af:=((Y w_ k []).map mm).toArray
def MQ (H:Nat):Array af:= #[.slice (some H) 1 1,.slice (some (H+1,0)) 1 1,.slice (some (H+2,0)) 6 6,.slice (some (H+3,0)) 2 2,.slice (some (H+4,0)) 3 3]
def EE (w:ai):ai:=aA (aA (aA (aA (aA (aA w (.cells (jx 0) 9)) (.cells (jx 1) 9)) (.cells (jx 2) 9)) (.cells (jx 3) 9)) (.cells (jx 4) 9)) (.cells (MQ w.heap.size) 22)
def VB(w:ai):aY 224 #[] w λe w'=>e= .returned (.slice (some (w.heap.size+5,0)) 5 5)/\w'=EE w:=by go_in;go_wp2;go_returns;exact⟨rfl,rfl⟩
structure oy (w0 wk:ai)(aW:af)(H:Nat):Prop where
 pK:eM w0 wk aW H (jx 0) 9
 kQ:eM w0 wk aW (H+1) (jx 1) 9
 r2:eM w0 wk aW (H+2) (jx 2) 9
 n1:eM w0 wk aW (H+3) (jx 3) 9
 x1:eM w0 wk aW (H+4) (jx 4) 9
 eo:eM w0 wk aW (H+5) (MQ H) 22
section
variable{w0 wk w2:ai}{aW cR:af}{H:Nat}{ar:List (aP×af)}
def oy.lt(h:oy w0 wk aW H):H+5<wk.heap.size:=h.eo.lt
def oy.de(h:oy w0 wk aW H)(aJ:p<w0.heap.size)(m:gu N p wk aW w2 cR):oy w0 w2 cR H:=⟨h.pK.de aJ m,h.kQ.de aJ m,h.r2.de aJ m,h.n1.de aJ m,h.x1.de aJ m,h.eo.de aJ m⟩
def oy.below(h:oy w0 wk aW H)(G:aL wk wk w2):oy w0 w2 aW H:=⟨h.pK.below G,h.kQ.below G,h.r2.below G,h.n1.below G,h.x1.below G,h.eo.below G⟩
def oy.alloc(h:oy w0 wk aW H)(o:Obj):oy w0 (aA wk o) aW H:=⟨h.pK.alloc o,h.kQ.alloc o,h.r2.alloc o,h.n1.alloc o,h.x1.alloc o,h.eo.alloc o⟩
def oy.rC(h:oy w0 wk aW H)(aJ:p<w0.heap.size)(i u):oy w0 (a7 wk ⟨p,i,none⟩ u) aW H:=⟨h.pK.rC aJ i u,h.kQ.rC aJ i u,h.r2.rC aJ i u,h.n1.rC aJ i u,h.x1.rC aJ i u,h.eo.rC aJ i u⟩
def P_(w:ai):aL w w (EE w):=((((((aT w w).alloc (bD _) _).alloc bT _).alloc (by simp;omega) _).alloc (by simp;omega) _).alloc (by simp;omega) _).alloc (by simp;omega) _
def oy.new(bF:Go N p X S w0 tv nv E wk s aW ar):oy w0 (EE wk) aW wk.heap.size:=by have g0:=bF.alloc (.cells (jx 0) 9);have g1:=g0.alloc (.cells (jx 1) 9);have g2:=g1.alloc (.cells (jx 2) 9);have g3:=g2.alloc (.cells (jx 3) 9);have g4:=g3.alloc (.cells (jx 4) 9);have ag:(aA wk (.cells (jx 0) 9)).heap.size=wk.heap.size+1:=bT;have aE:(aA (aA wk (.cells (jx 0) 9)) (.cells (jx 1) 9)).heap.size=wk.heap.size+2:=bT;have bU:(aA (aA (aA wk (.cells (jx 0) 9)) (.cells (jx 1) 9)) (.cells (jx 2) 9)).heap.size=wk.heap.size+3:=bT;have cL:(aA (aA (aA (aA wk (.cells (jx 0) 9)) (.cells (jx 1) 9)) (.cells (jx 2) 9)) (.cells (jx 3) 9)).heap.size=wk.heap.size+4:=bT;have gi:(aA (aA (aA (aA (aA wk (.cells (jx 0) 9)) (.cells (jx 1) 9)) (.cells (jx 2) 9)) (.cells (jx 3) 9)) (.cells (jx 4) 9)).heap.size=wk.heap.size+5:=bT;have eS:=eM.new bF (jx 0) 9;have b1:=eM.new g0 (jx 1) 9;have b2:=eM.new g1 (jx 2) 9;have bC:=eM.new g2 (jx 3) 9;have bG:=eM.new g3 (jx 4) 9;have cf:=eM.new g4 (MQ wk.heap.size) 22;rw[ag] at b1;rw[aE] at b2;rw[bU] at bC;rw[cL] at bG;rw[gi] at cf;exact⟨((((eS.alloc _).alloc _).alloc _).alloc _).alloc _,(((b1.alloc _).alloc _).alloc _).alloc _,((b2.alloc _).alloc _).alloc _,(bC.alloc _).alloc _,bG.alloc _,cf⟩
def IG (H k:Nat):af:= .slice (some (H+k,0)) (D (Y w_ k [])) (D (Y w_ k []))
def Gs{w:ai}{g:Nat}{l:List ByteArray}(hl:D l<=100)(h:w.heap[g]?=some (.cells (l.map mm).toArray 9 (0,0))):qb w (g,D l,D l) l:=by refine⟨_,_,rfl,bd h,hl,λk U=>?_⟩;rw[az h k];simp[U,cd]
def oy.at(h:oy w0 wk aW H){k}(U:k<5):aG wk (H+5,k)=some (IG H k)/\qb wk (IG H k) (Y w_ k []):=by
 obtain _|_|_|_|_|k:=k
 .exact⟨h.eo.cell 0,Gs aN h.pK.blk⟩
 .exact⟨h.eo.cell 1,Gs aN h.kQ.blk⟩
 .exact⟨h.eo.cell 2,Gs aN h.r2.blk⟩
 .exact⟨h.eo.cell 3,Gs aN h.n1.blk⟩
 .exact⟨h.eo.cell 4,Gs aN h.x1.blk⟩
 .omega
end
def R9(X:B.Src)(s:B.ak){k}(U:k<5):((Y w_ k []).any λx=>B.bw X s (aC x))=B.rowIs X s k:=by
 obtain _|_|_|_|_|k:=k
 .rfl
 .rfl
 .rfl
 .rfl
 .rfl
 .omega
def R8{X s k}(h:B.rowIs X s k=true):s.i<D X.bu:=by obtain⟨x,aF,ay⟩:=List.any_eq_true.1 h;exact vj X s x ay
def Qa{X n k s s' v}(h:B.run X n (.b6 k) s= .ok v s'):B.hn X s'<=k:=by
 cases n with
 |zero=>cases h
 |succ n=>exact ace h
def zM (X:B.Src)(S:ByteArray)(k:Nat)(plain:B.ak->B.aV):Prop:=
 ∀(N p:Nat) (w:ai) (s:B.ak) (tv nv:af) (E:List (aP×af)),cn N p w X S s tv nv E->plain s≠ .o->aY 208 #[(p,0),k] w (Out N p X S w tv nv E cD (plain s))
def WM(n:Nat)(ia:Hid (gg X S 225 cD (B.run X n .unary))):zM X S 5 (B.run X (n+1) (.b6 5)):=by
 intro N p w s tv nv E h aZ;have z:=A (Go.start h);have gH:=A aZ;have mG:Hid (B.run X (n+1) (.b6 5) s=B.run X n .unary s):=A (Z8 X n s);clear aZ;go_in;have Go:=0;have om:(((5:Nat):Int)==5)=true:=rfl;go_wp2;refine b7 (VB w) ?_;rintro w1 rfl;replace z:=A (z.o.new (P_ w));generalize EE w=w2 at*;go_wp2;refine(ia.o _ _ _ _ _ _ _ z.o.st (λe=>gH.o (mG.o.trans e))).mono ?_;rintro e b4 a_;obtain⟨c,q,au,rfl,G⟩|⟨v,ha,n6,QU,au,rfl,R,T,ah⟩:=a_.parts (λe=>gH.o (mG.o.trans e))
 .skip;have ba:Hid (Out N p X S w tv nv E cD (B.run X (n+1) (.b6 5) s) (dt c q) b4):=A (z.o.bL G (by simp[mG.o,au,B.aV.M]));clear au;unfold dt;go_wp2;exact⟨rfl,ba.o⟩
 obtain⟨rf,rfl⟩:=B.p5 X n .unary rfl _ _ _ au;have Hu:=A au;replace z:=A (z.o.then R T ah);clear au;unfold cD;have ba:Hid (Out N p X S w tv nv E cD (B.run X (n+1) (.b6 5) s) (.returned rf) b4):=A (z.o.o (v:=[rf]) (by simp[mG.o,Hu.o,B.aV.M]) rfl);go_wp2;go_returns;exact ba.o
def XB(k:Nat)(U:k<5)(n:Nat)(ep:Hid (zM X S (k+1) (B.run X (n+1) (.b6 (k+1)))))(tx:Hid (∀m,m<n->zM X S (k+1) (B.run X m (.b6 (k+1))))):zM X S k (B.run X (n+1) (.b6 k)):=by
 intro N p w s tv nv E h aZ;have z:=A (Go.start h);have gH:=A aZ;have Hv:Hid (B.run X (n+1) (.b6 k) s=(B.run X (n+1) (.b6 (k+1)) s).M λe s1=>B.run X n (.iy k (Y e 0 0)) s1):=A (XT n s aZ);clear aZ;go_in;have⟨eS,b1⟩:(0:Int)<=k/\(k:Int)<5:=J;have om:((k:Int)==5)=false:=by simp;omega
 have apM:IntKind.i64.wrap (k+1)=((k+1:Nat):Int):=by rw[dI _ J];rfl
 go_wp2_with fail;refine b7 (VB w) ?_;rintro w1 rfl;have km:=A (oy.new z.o);replace z:=A (z.o.new (P_ w));generalize Ht:EE w=w2 at*;go_wp2_with fail;refine(ep.o _ _ _ _ _ _ _ z.o.st (λe=>gH.o (by simp[Hv.o,e,B.aV.M]))).mono ?_;rintro e b4 a_;rcases a_.parts (λe=>gH.o (by simp[Hv.o,e,B.aV.M])) with⟨c,q,au,rfl,G⟩|⟨v,ha,n6,QU,au,rfl,R,T,ah⟩
 .skip;have ba:Hid (Out N p X S w tv nv E cD (B.run X (n+1) (.b6 k) s) (dt c q) b4):=A (z.o.bL G (by simp[Hv.o,au,B.aV.M]));clear au;unfold dt;go_wp2;exact⟨rfl,ba.o⟩
 obtain⟨rf,rfl⟩:=B.p5 X (n+1) (.b6 (k+1)) rfl _ _ _ au;have Hu:=A au;replace km:=A (km.o.de z.o.pl T);replace z:=A (z.o.then R T ah);clear au;unfold cD;have ic:Hid (B.run X (n+1) (.b6 k) s=B.run X n (.iy k rf) ha):=A (by rw[Hv.o,Hu.o];rfl);have Hw:Hid (B.hn X ha<=k+1):=A (Qa Hu.o);go_wp2_with fail;go_loopg[6] n (λm e wr=> ∃(a:Nat) (bf:B.ak) (aW:af) (ar:List (aP×af)),e= a/\Hid (Go N p X S w tv nv E wr bf aW ar)/\Hid (oy w wr aW w.heap.size)/\m<=n/\Hid (B.hn X bf<=k+1)/\Hid (B.run X (n+1) (.b6 k) s=B.run X m (.iy k a) bf))
 case atStart=>exact⟨rf,ha,n6,_,rfl,z,km,bD _,Hw,ic⟩
 case round=>
  clear z ic km;obtain⟨a,bf,aW,ar,rfl,z,km,hm,Hw,ic⟩:=hrel;obtain⟨m,rfl⟩: ∃m,gk=m+1:=by
   cases gk with
   |zero=>exact absurd ic.o gH.o
   |succ m=>exact⟨m,rfl⟩
  have gr:m<n:=J;obtain⟨hc,hs⟩:=km.o.at U;have kN:=A hs;clear hs;cases G:B.rowIs X bf k with
  |false=>
   have c0:Hid (B.run X (n+1) (.b6 k) s= .ok [a] bf):=A (ic.o.trans (XU G Hw.o));have b0:Hid (((Y w_ k []).any λx=>B.bw X bf (aC x))=false):=A ((R9 X bf U).trans G);skip;clear ic;go_wp2_with fail;refine b7 (Ju z.o.st (IG w.heap.size k) (Y w_ k []) kN.o false b0) λb3 G=>?_;replace km:=A (km.o.below G);replace z:=A (z.o.new G);have ba:Hid (Out N p X S w tv nv E cD (B.run X (n+1) (.b6 k) s) (.returned a) b3):=A (z.o.o (v:=[a]) c0.o rfl);go_wp2;go_returns;exact ba.o
  |true=>
   have c0:Hid (B.run X (n+1) (.b6 k) s=(B.run X m (.b6 (k+1)) (B.bs bf)).M λb s1=>(B.put ⟨46,(B.aM X bf).an,0,(B.aM X bf).O,a::b⟩ s1).M λe s2=>B.run X m (.iy k (Y e 0 0)) s2):=A (ic.o.trans (W8 U G));have b0:Hid (((Y w_ k []).any λx=>B.bw X bf (aC x))=true):=A ((R9 X bf U).trans G);have bN:bf.i<D X.bu:=R8 G;clear ic;go_wp2_with fail;refine b7 (Ju z.o.st (IG w.heap.size k) (Y w_ k []) kN.o true b0) λa6 G=>?_;replace km:=A (km.o.below G);replace z:=A (z.o.new G);go_wp2_with fail;refine b7 (zb z.o.st) λcp G=>?_;replace km:=A (km.o.below G);replace z:=A (z.o.new G);generalize ln:B.aM X bf=t at*;have jv:=A ln;clear ln;unfold l1 e2;have als:(w.heap.size+5)≠cp.heap.size:=Nat.ne_of_lt km.o.lt;have e5:=A (eM.new z.o #[t.j',t.O,t.aX,t.an] 97);replace z:=A (z.o.alloc (aw #[t.j',t.O,t.aX,t.an] 97));replace km:=A (km.o.alloc (aw #[t.j',t.O,t.aX,t.an] 97));have D7:bf.i+1<=D X.bu:=J;have TE:=z.o.st.src.fA;have n':=z.o.st.cK;have AR:=z.o.st.free 2;have dl:=z.o.st.lt;have hK:IntKind.i64.wrap (bf.i+1)=bf.i+1:=dI _ J;replace km:=A (km.o.rC z.o.pl 2 [((bf.i:Int)+1:Int)]);replace e5:=A (e5.o.rC z.o.pl 2 [((bf.i:Int)+1:Int)]);replace z:Hid (Go N p X S w tv nv E (a7 (aA cp (aw #[t.j',t.O,t.aX,t.an] 97)) (p,2) [((bf.i:Int)+1:Int)]) (B.bs bf) aW _):=A (z.o.bs D7);go_wp2_with fail;generalize(a7 (aA cp (aw #[t.j',t.O,t.aX,t.an] 97)) (p,2) [((bf.i:Int)+1:Int)])=gF at*;skip;go_wp2_with fail;refine(tx.o m gr _ _ _ _ _ _ _ z.o.st (λe=>gH.o (by simp[c0.o,jv.o,e,B.aV.M]))).mono ?_;rintro e iP a_;rcases a_.parts (λe=>gH.o (by simp[c0.o,jv.o,e,B.aV.M])) with⟨c,q,au,rfl,G⟩|⟨v,qs,ajT,Xl,au,rfl,R,T,ah⟩
   .skip;have ba:Hid (Out N p X S w tv nv E cD (B.run X (n+1) (.b6 k) s) (dt c q) iP):=A (z.o.bL G (by simp[c0.o,jv.o,au,B.aV.M]));clear au;unfold dt;go_wp2;exact⟨rfl,ba.o⟩
   obtain⟨m_,rfl⟩:=B.p5 X m (.b6 (k+1)) rfl _ _ _ au;have LD:=A au;replace km:=A (km.o.de z.o.pl T);replace e5:=A (e5.o.de z.o.pl T);replace z:=A (z.o.then R T ah);clear au;unfold cD;have afP:Hid (B.hn X qs<=k+1):=A (Qa LD.o);have Kw:iP.cell? (cp.heap.size,1)=some [t.O]:=e5.o.cell 1;have Kx:iP.cell? (cp.heap.size,3)=some [t.an]:=e5.o.cell 3;have Dm:=e5.o.lt;go_wp2_with fail;have bK:Hid (cI N w (iP.alloc (aw #[a,m_] 3)) _ (.slice (some iP.heap.size) 2 2) [a,m_]):=A (cI.new z.o [a,m_] bT);replace z:=A (z.o.alloc (aw #[a,m_] 3));replace km:=A (km.o.alloc (aw #[a,m_] 3));replace e5:=A (e5.o.alloc (aw #[a,m_] 3));generalize aeK:(iP.alloc (aw #[a,m_] 3))=kp at*;have al7:iP.heap.size<kp.heap.size:=(by rw[<-aeK];simp);have Kw:kp.cell? (cp.heap.size,1)=some [t.O]:=e5.o.cell 1;have Kx:kp.cell? (cp.heap.size,3)=some [t.an]:=e5.o.cell 3;have Dm:=e5.o.lt;go_wp2_with fail;have DD:B.put ⟨46,t.an,0,t.O,[a,m_]⟩ qs≠ .o:=λe=>gH.o (by simp[c0.o,jv.o,LD.o,e,B.aV.M]);have aI:=wq DD;have afQ:=A (zm DD);refine b7 (CY z.o.st ⟨46,t.an,0,t.O,[a,m_]⟩ (.slice (some iP.heap.size) 2 2) bK.o.row aI) λmH⟨n13,R,T⟩=>?_;replace km:=A (km.o.de z.o.pl T);replace e5:=A (e5.o.de z.o.pl T);replace z:=A (z.o.put R T bK.o.dV);have afR:Hid (B.run X (n+1) (.b6 k) s=B.run X m (.iy k (D qs.aj)) (sU ⟨46,t.an,0,t.O,[a,m_]⟩ qs)):=A (by simp[c0.o,jv.o,LD.o,afQ.o,B.aV.M]);have afS:Hid (B.hn X (sU ⟨46,t.an,0,t.O,[a,m_]⟩ qs)<=k+1):=afP;go_wp2;go_roundg m
   case rel=>exact⟨_,_,_,_,rfl,z,km,by omega,afS,afR⟩
   case measure=>omega
def Ya(n:Nat)(MN:Hid (zM X S 0 (B.run X n (.b6 0)))):gg X S 179 cD (B.run X n (.b6 0)):=by
 intro N p w s tv nv E h aZ;have z:=A (Go.start h);have gH:=A aZ;clear aZ;go_in;go_wp2_with fail;refine(MN.o _ _ _ _ _ _ _ z.o.st gH.o).mono ?_;rintro e w1 a_;obtain⟨c,q,au,rfl,G⟩|⟨v,s1,dq,yk,au,rfl,R,T,ah⟩:=a_.parts (gH.o)
 .skip;have ba:Hid (Out N p X S w tv nv E cD (B.run X n (.b6 0) s) (dt c q) w1):=A (z.o.bL G (by simp[au,B.aV.M]));clear au;unfold dt;go_wp2;exact⟨rfl,ba.o⟩
 obtain⟨a1,rfl⟩:=B.p5 X n (.b6 0) rfl _ _ _ au;have uP:=A au;replace z:=A (z.o.then R T ah);clear au;unfold cD;have ba:Hid (Out N p X S w tv nv E cD (B.run X n (.b6 0) s) (.returned a1) w1):=A (z.o.o (v:=[a1]) (by simp[uP.o,B.aV.M]) rfl);go_wp2;go_returns;exact ba.o
end
section
variable{N p:Nat}{w:ai}{X:B.Src}{S:ByteArray}{s:B.ak}{tv nv:af}{E:List (aP×af)}
def iT (X:B.Src)(n:Nat)(s:B.ak):B.aV:=(B.run X n (.decls []) s).M λl s1=>B.put ⟨15,(B.aM X s).an,0,[],l⟩ s1
def oP (at_:Nat)(l:List Nat)(s1:B.ak):B.aV:=B.put ⟨15,at_,0,[],l⟩ s1
def Wy(n:Nat)(ax:n<=1000000)(qT:Hid (∀m,m<n->gg X S 62 cD (B.j9 X (B.run X m)))):gg X S 28 lk (iT X n):=by
 intro N p w s tv nv E h aZ;have z:=A (Go.start h);have gH:=A aZ;obtain⟨cb,fQ,tj⟩:=eR h.bu rfl;have pk:=A tj;clear tj;clear aZ;go_in;go_wp2_with fail;refine b7 (zb z.o.st) λw1 G=>?_;replace z:=A (z.o.new G);unfold l1 e2;have vQ:=C5;generalize ln:B.aM X s=t at*;have jv:=A ln;clear ln;go_wp2_with fail;have bh:=A (eM.new z.o #[(15:Int),t.an,(0:Int),.string ⟨#[]⟩,.slice none 0 0] 53);replace z:=A (z.o.alloc (aw #[(15:Int),t.an,(0:Int),.string ⟨#[]⟩,.slice none 0 0] 53));generalize gT:(aA w1 (aw #[(15:Int),t.an,(0:Int),.string ⟨#[]⟩,.slice none 0 0] 53))=w2 at*;have qZ:=bh.o.lt;have ic:Hid (iT X n s=(B.run X n (.decls []) s).M (oP t.an)):=A (by unfold iT;rw[jv.o];rfl);go_loopg[7] n (λm _ wr=> ∃(d':List Nat) (bf:B.ak) (aW:af) (ar:List (aP×af)) (bb:Option Addr) (aQ:Nat),Hid (Go N p X S w tv nv E wr bf aW ar)/\Hid (cI N w wr (E++ar) (bb,D d',aQ) d')/\Hid (eM w wr aW (w1.heap.size) #[(15:Int),t.an,(0:Int),.string ⟨#[]⟩,(bb,D d',aQ)] 53)/\D d'+m=n/\Hid (iT X n s=(B.run X m (.decls d') bf).M (oP t.an)))
 case atStart=>exact⟨[],s,nv,[],none,0,z,A (cI.nil _ _ _ _),bh,by simp,ic⟩
 case round=>
  clear z bh ic;obtain⟨d',bf,aW,ar,bb,aQ,z,bK,bh,rz,ic⟩:=hrel;obtain⟨m,rfl⟩: ∃m,gk=m+1:=by
   cases gk with
   |zero=>exact absurd ic.o gH.o
   |succ m=>exact⟨m,rfl⟩
  have gr:m<n:=J;by_cases bN:bf.i<D X.bu
  .have c0:Hid (iT X n s=((B.j9 X (B.run X m) bf).M λk s1=>if s1.i<D X.bu then(B.take X hC s1).M λ_ s2=>B.run X m (.decls (d'++k)) s2 else B.run X m (.decls (d'++k)) s1).M (oP t.an)):=A (ic.o.trans (congrArg (λr=>B.aV.M r (oP t.an)) (aS bN)));go_wp2_with fail;have iR:decide ((bf.i:Int)<D X.bu)=true:=(by simp;omega);refine lV (S:=λw'=>aG w' (p,2)=some [bf.i]/\aG w' (p,1)=some (cb,D X.bu,fQ)) cS ⟨z.o.jW.st.cK,by rw[<-pk.o];exact z.o.jW.st.bq⟩ (λkC=>?_);replace bh:=A (bh.o.drew);replace bK:=A (bK.o.drew);replace z:=A (z.o.jW);generalize wr.drew=bc at*;refine aK 0 ?_;refine aK 1 ?_;refine aK 2 ?_;refine aK 3 ?_;refine aK 4 ?_;refine aK 5 ?_;refine aK 6 ?_;refine aK 7 ?_;refine aK 8 ?_;refine aK 9 ?_;refine p2 cS ?_ _;clear ic;go_wp2_with fail;refine wp_region_any cS ?_;change wpAny _ _ _ _ _ _ _ (World.drew _);replace bh:=A (bh.o.drew);replace bK:=A (bK.o.drew);replace z:=A (z.o.jW);generalize bc.drew=bS at*;refine wpAny_take (i:=0) (v:=?_) rfl cS cS cS (λ_ _ _ h=>h) (Or.inl ⟨by rfl,?_⟩) ?_;rotate_left
   .intro w;first|(go_simp;done)|(go_simp;with_reducible rfl)
   refine wpAny_take (i:=2) (v:=?_) rfl cS cS cS (λ_ _ _ h=>h) (Or.inl ⟨by rfl,?_⟩) ?_;rotate_left
   .intro w;first|(go_simp;done)|(go_simp;with_reducible rfl)
   refine tB (rs:=[1,3]) cS bT ?_;refine p4 rfl (λK ab=>?_) (p4 rfl (λK ab=>?_) rV)
   .skip;have C':(bS).cell? (w1.heap.size,4)=some (bb,D d',aQ):=bh.o.cell 4;go_simp;refine ab _ _ ?_;refine tB (rs:=[3]) cS bT ?_;refine p4 rfl (λK ab=>?_) rV;go_simp;refine(qT.o m gr _ _ _ _ _ _ _ z.o.st (λe=>gH.o (by rw[c0.o,e];rfl))).mono ?_;rintro e bm a_;rcases a_.parts (λe=>gH.o (by rw[c0.o,e];rfl)) with⟨c,q,au,rfl,G⟩|⟨v,cm,wE,E5,au,rfl,R,T,ah⟩
    .skip;have ba:Hid (Out N p X S w tv nv E lk (iT X n s) (dt c q) bm):=A (z.o.bL G (by simp[c0.o,au,B.aV.M]));clear au;unfold dt;go_wp2;exact⟨rfl,ba.o⟩
    obtain⟨a5,rfl⟩:=B.Jv _ _ _ au;have IF:=A au;replace bK:=A (bK.o.de z.o T ah);replace bh:=A (bh.o.de z.o.pl T);replace z:=A (z.o.then R T ah);clear au;unfold cD;go_wp2_with fail;refine tB (rs:=[4]) cS bT ?_;refine p4 rfl (λK ab=>?_) rV;go_simp;refine ab _ _ ?_;refine tB (rs:=[5]) cS bT ?_;refine p4 rfl (λK ab=>?_) rV;obtain⟨i0,fM,e',e_,ff⟩:=kT r1;have vq:=A (bK.o.alloc (aw #[a5] 3)).row;have DB:=z.o.st.jo;have Sv:=show D d'<=1000000 by omega
    refine tJ _ (by rfl) _ _ _ (by rfl) N 3 i0 _ 1 8 rN fM e' e_ ff rfl J (bb,D d',aQ) (D d') (fh d') (by rfl) vq.o ⟨bm.heap.size,0,none⟩ 1 1 [a5] (by rfl) (by rfl) (j7 (cs:= #[a5]) (t:=3) (fr:=(0,0)) (hf _ _)) (by intro x aF;simp at aF;subst aF;rfl) J (by unfold dc;omega) J (by simp;omega) (bm.heap.size+1) bT ?_;intro g6 oj b4 fF dv e1 bN;obtain⟨gl,qp,o0⟩:=bK.o.grown (l2:=[a5]) z.o fF rfl dv e1;replace bh:=A (eM.same bh.o (o0 _ bh.o.lt (λe=>mu bK.o.row bh.o.blk aN e)));replace z:=A gl;replace bK:=A qp;clear gl qp;refine ab _ _ ?_;refine wpAny_take (i:=6) (v:=?_) rfl cS cS cS (λ_ _ _ h=>h) (Or.inl ⟨by rfl,?_⟩) ?_;rotate_left
    .intro w;first|(go_simp;done)|(go_simp;with_reducible rfl)
    refine tB (rs:=[7]) cS bT ?_;refine p4 rfl (λK ab=>?_) rV;have C':aG b4 (w1.heap.size,4)=some (bb,D d',aQ):=bh.o.cell 4;have Q7:=bh.o.free 4;have Lr:=bh.o.lt;go_simp;refine ab _ _ ?_;replace bK:=A (bK.o.set bh.o.blk aN 4 (g6,D d'+1,oj));replace z:=A (bh.o.go z.o aN 4 (g6,D d'+1,oj));replace bh:Hid (eM w (a7 b4 (w1.heap.size,4) (g6,D d'+1,oj)) wE (w1.heap.size) #[(15:Int),t.an,(0:Int),.string ⟨#[]⟩,(g6,D d'+1,oj)] 53):=A (bh.o.set 4 (g6,D d'+1,oj));generalize(a7 b4 (w1.heap.size,4) (g6,D d'+1,oj))=b3 at*;refine wpAny_done cS ?_ _;have c6:D (d'++[a5])=D d'+1:=bT;replace c0:Hid (iT X n s=(if cm.i<D X.bu then(B.take X hC cm).M λ_ s2=>B.run X m (.decls (d'++[a5])) s2 else B.run X m (.decls (d'++[a5])) cm).M (oP t.an)):=A (by rw[c0.o,IF.o];rfl);go_wp2_with fail;by_cases bN:cm.i<D X.bu
    .replace c0:Hid (iT X n s=((B.take X hC cm).M λ_ s2=>B.run X m (.decls (d'++[a5])) s2).M (oP t.an)):=A (by rw[c0.o,aS bN]);have iR:decide ((cm.i:Int)<D X.bu)=true:=(by simp;omega);refine lV (S:=λw'=>aG w' (p,2)=some [cm.i]/\aG w' (p,1)=some (cb,D X.bu,fQ)) cS ⟨z.o.jW.st.cK,by rw[<-pk.o];exact z.o.jW.st.bq⟩ (λkC=>?_);replace bh:=A (bh.o.drew);replace bK:=A (bK.o.drew);replace z:=A (z.o.jW);generalize b3.drew=a6 at*;refine aK 0 ?_;refine aK 1 ?_;refine aK 2 ?_;refine aK 3 ?_;refine aK 4 ?_;refine aK 5 ?_;refine aK 6 ?_;refine aK 7 ?_;refine aK 8 ?_;refine aK 9 ?_;refine p2 cS ?_ _;go_wp2_with fail;refine(va z.o.st ⟨#[59]⟩).mono ?_;rintro e cp a_;obtain⟨c,q,au,rfl,G⟩|⟨v,k',n9,E9,au,rfl,R,T,ah⟩:=a_.parts (ze _ _ _)
     .have au:B.take X hC cm=_:=au;have ba:Hid (Out N p X S w tv nv E lk (iT X n s) (dt c q) cp):=A (z.o.bL G (by simp[c0.o,au,B.aV.M]));clear au;unfold dt;go_wp2;exact⟨rfl,ba.o⟩
     have au:B.take X hC cm=_:=au;obtain rfl:=(xT au).1;have EC:=A au;replace bK:=A (bK.o.de z.o T ah);replace bh:=A (bh.o.de z.o.pl T);replace z:=A (z.o.then R T ah);clear au;unfold cD;have tx:Hid (iT X n s=(B.run X m (.decls (d'++[a5])) k').M (oP t.an)):=A (by rw[c0.o,EC.o];rfl);go_wp2;go_roundg m
     case rel=>exact⟨d'++[a5],k',n9,_,_,_,z,by rw[c6];exact bK,by rw[c6];exact bh,by omega,tx⟩
     case measure=>omega
    .have tx:Hid (iT X n s=(B.run X m (.decls (d'++[a5])) cm).M (oP t.an)):=A (by rw[c0.o,ao bN]);have iR:decide ((cm.i:Int)<D X.bu)=false:=(by simp;omega);refine lV (S:=λw'=>aG w' (p,2)=some [cm.i]/\aG w' (p,1)=some (cb,D X.bu,fQ)) cS ⟨z.o.jW.st.cK,by rw[<-pk.o];exact z.o.jW.st.bq⟩ (λkC=>?_);replace bh:=A (bh.o.drew);replace bK:=A (bK.o.drew);replace z:=A (z.o.jW);generalize b3.drew=gF at*;refine aK 0 ?_;refine aK 1 ?_;refine aK 2 ?_;refine aK 3 ?_;refine aK 4 ?_;refine aK 5 ?_;refine aK 6 ?_;refine aK 7 ?_;refine aK 8 ?_;refine aK 9 ?_;refine p2 cS ?_ _;go_wp2;go_roundg m
     case rel=>exact⟨d'++[a5],cm,wE,_,_,_,z,by rw[c6];exact bK,by rw[c6];exact bh,by omega,tx⟩
     case measure=>omega
   .skip;go_simp;refine(qT.o m gr _ _ _ _ _ _ _ z.o.st (λe=>gH.o (by rw[c0.o,e];rfl))).mono ?_;rintro e bm a_;rcases a_.parts (λe=>gH.o (by rw[c0.o,e];rfl)) with⟨c,q,au,rfl,G⟩|⟨v,cm,wE,E5,au,rfl,R,T,ah⟩
    .skip;have ba:Hid (Out N p X S w tv nv E lk (iT X n s) (dt c q) bm):=A (z.o.bL G (by simp[c0.o,au,B.aV.M]));clear au;unfold dt;go_wp2;exact⟨rfl,ba.o⟩
    obtain⟨a5,rfl⟩:=B.Jv _ _ _ au;have IF:=A au;replace bK:=A (bK.o.de z.o T ah);replace bh:=A (bh.o.de z.o.pl T);replace z:=A (z.o.then R T ah);clear au;unfold cD;go_wp2_with fail;refine tB (rs:=[1,4]) cS bT ?_;refine p4 rfl (λK ab=>?_) (p4 rfl (λK ab=>?_) rV)
    .skip;have C':(bm).cell? (w1.heap.size,4)=some (bb,D d',aQ):=bh.o.cell 4;go_simp;refine ab _ _ ?_;refine tB (rs:=[4]) cS bT ?_;refine p4 rfl (λK ab=>?_) rV;go_simp;refine ab _ _ ?_;refine tB (rs:=[5]) cS bT ?_;refine p4 rfl (λK ab=>?_) rV;obtain⟨i0,fM,e',e_,ff⟩:=kT r1;have vq:=A (bK.o.alloc (aw #[a5] 3)).row;have DB:=z.o.st.jo;have Sv:=show D d'<=1000000 by omega
     refine tJ _ (by rfl) _ _ _ (by rfl) N 3 i0 _ 1 8 rN fM e' e_ ff rfl J (bb,D d',aQ) (D d') (fh d') (by rfl) vq.o ⟨bm.heap.size,0,none⟩ 1 1 [a5] (by rfl) (by rfl) (j7 (cs:= #[a5]) (t:=3) (fr:=(0,0)) (hf _ _)) (by intro x aF;simp at aF;subst aF;rfl) J (by unfold dc;omega) J (by simp;omega) (bm.heap.size+1) bT ?_;intro g6 oj b4 fF dv e1 bN;obtain⟨gl,qp,o0⟩:=bK.o.grown (l2:=[a5]) z.o fF rfl dv e1;replace bh:=A (eM.same bh.o (o0 _ bh.o.lt (λe=>mu bK.o.row bh.o.blk aN e)));replace z:=A gl;replace bK:=A qp;clear gl qp;refine ab _ _ ?_;refine wpAny_take (i:=6) (v:=?_) rfl cS cS cS (λ_ _ _ h=>h) (Or.inl ⟨by rfl,?_⟩) ?_;rotate_left
     .intro w;first|(go_simp;done)|(go_simp;with_reducible rfl)
     refine tB (rs:=[7]) cS bT ?_;refine p4 rfl (λK ab=>?_) rV;have C':aG b4 (w1.heap.size,4)=some (bb,D d',aQ):=bh.o.cell 4;have Q7:=bh.o.free 4;have Lr:=bh.o.lt;go_simp;refine ab _ _ ?_;replace bK:=A (bK.o.set bh.o.blk aN 4 (g6,D d'+1,oj));replace z:=A (bh.o.go z.o aN 4 (g6,D d'+1,oj));replace bh:Hid (eM w (a7 b4 (w1.heap.size,4) (g6,D d'+1,oj)) wE (w1.heap.size) #[(15:Int),t.an,(0:Int),.string ⟨#[]⟩,(g6,D d'+1,oj)] 53):=A (bh.o.set 4 (g6,D d'+1,oj));generalize(a7 b4 (w1.heap.size,4) (g6,D d'+1,oj))=b3 at*;refine wpAny_done cS ?_ _;have c6:D (d'++[a5])=D d'+1:=bT;replace c0:Hid (iT X n s=(if cm.i<D X.bu then(B.take X hC cm).M λ_ s2=>B.run X m (.decls (d'++[a5])) s2 else B.run X m (.decls (d'++[a5])) cm).M (oP t.an)):=A (by rw[c0.o,IF.o];rfl);go_wp2_with fail;by_cases bN:cm.i<D X.bu
     .replace c0:Hid (iT X n s=((B.take X hC cm).M λ_ s2=>B.run X m (.decls (d'++[a5])) s2).M (oP t.an)):=A (by rw[c0.o,aS bN]);have iR:decide ((cm.i:Int)<D X.bu)=true:=(by simp;omega);refine lV (S:=λw'=>aG w' (p,2)=some [cm.i]/\aG w' (p,1)=some (cb,D X.bu,fQ)) cS ⟨z.o.jW.st.cK,by rw[<-pk.o];exact z.o.jW.st.bq⟩ (λkC=>?_);replace bh:=A (bh.o.drew);replace bK:=A (bK.o.drew);replace z:=A (z.o.jW);generalize b3.drew=a6 at*;refine aK 0 ?_;refine aK 1 ?_;refine aK 2 ?_;refine aK 3 ?_;refine aK 4 ?_;refine aK 5 ?_;refine aK 6 ?_;refine aK 7 ?_;refine aK 8 ?_;refine aK 9 ?_;refine p2 cS ?_ _;go_wp2_with fail;refine(va z.o.st ⟨#[59]⟩).mono ?_;rintro e cp a_;obtain⟨c,q,au,rfl,G⟩|⟨v,k',n9,E9,au,rfl,R,T,ah⟩:=a_.parts (ze _ _ _)
      .have au:B.take X hC cm=_:=au;have ba:Hid (Out N p X S w tv nv E lk (iT X n s) (dt c q) cp):=A (z.o.bL G (by simp[c0.o,au,B.aV.M]));clear au;unfold dt;go_wp2;exact⟨rfl,ba.o⟩
      have au:B.take X hC cm=_:=au;obtain rfl:=(xT au).1;have EC:=A au;replace bK:=A (bK.o.de z.o T ah);replace bh:=A (bh.o.de z.o.pl T);replace z:=A (z.o.then R T ah);clear au;unfold cD;have tx:Hid (iT X n s=(B.run X m (.decls (d'++[a5])) k').M (oP t.an)):=A (by rw[c0.o,EC.o];rfl);go_wp2;go_roundg m
      case rel=>exact⟨d'++[a5],k',n9,_,_,_,z,by rw[c6];exact bK,by rw[c6];exact bh,by omega,tx⟩
      case measure=>omega
     .have tx:Hid (iT X n s=(B.run X m (.decls (d'++[a5])) cm).M (oP t.an)):=A (by rw[c0.o,ao bN]);have iR:decide ((cm.i:Int)<D X.bu)=false:=(by simp;omega);refine lV (S:=λw'=>aG w' (p,2)=some [cm.i]/\aG w' (p,1)=some (cb,D X.bu,fQ)) cS ⟨z.o.jW.st.cK,by rw[<-pk.o];exact z.o.jW.st.bq⟩ (λkC=>?_);replace bh:=A (bh.o.drew);replace bK:=A (bK.o.drew);replace z:=A (z.o.jW);generalize b3.drew=gF at*;refine aK 0 ?_;refine aK 1 ?_;refine aK 2 ?_;refine aK 3 ?_;refine aK 4 ?_;refine aK 5 ?_;refine aK 6 ?_;refine aK 7 ?_;refine aK 8 ?_;refine aK 9 ?_;refine p2 cS ?_ _;go_wp2;go_roundg m
      case rel=>exact⟨d'++[a5],cm,wE,_,_,_,z,by rw[c6];exact bK,by rw[c6];exact bh,by omega,tx⟩
      case measure=>omega
    .skip;go_simp;refine ab _ _ ?_;refine tB (rs:=[1]) cS bT ?_;refine p4 rfl (λK ab=>?_) rV;have C':aG (aA bm (aw #[a5] 3)) (w1.heap.size,4)=some (bb,D d',aQ):=(bh.o.alloc _).cell 4;go_simp;refine ab _ _ ?_;refine tB (rs:=[5]) cS bT ?_;refine p4 rfl (λK ab=>?_) rV;obtain⟨i0,fM,e',e_,ff⟩:=kT r1;have vq:=A (bK.o.alloc (aw #[a5] 3)).row;have DB:=z.o.st.jo;have Sv:=show D d'<=1000000 by omega
     refine tJ _ (by rfl) _ _ _ (by rfl) N 3 i0 _ 1 8 rN fM e' e_ ff rfl J (bb,D d',aQ) (D d') (fh d') (by rfl) vq.o ⟨bm.heap.size,0,none⟩ 1 1 [a5] (by rfl) (by rfl) (j7 (cs:= #[a5]) (t:=3) (fr:=(0,0)) (hf _ _)) (by intro x aF;simp at aF;subst aF;rfl) J (by unfold dc;omega) J (by simp;omega) (bm.heap.size+1) bT ?_;intro g6 oj b4 fF dv e1 bN;obtain⟨gl,qp,o0⟩:=bK.o.grown (l2:=[a5]) z.o fF rfl dv e1;replace bh:=A (eM.same bh.o (o0 _ bh.o.lt (λe=>mu bK.o.row bh.o.blk aN e)));replace z:=A gl;replace bK:=A qp;clear gl qp;refine ab _ _ ?_;refine wpAny_take (i:=6) (v:=?_) rfl cS cS cS (λ_ _ _ h=>h) (Or.inl ⟨by rfl,?_⟩) ?_;rotate_left
     .intro w;first|(go_simp;done)|(go_simp;with_reducible rfl)
     refine tB (rs:=[7]) cS bT ?_;refine p4 rfl (λK ab=>?_) rV;have C':aG b4 (w1.heap.size,4)=some (bb,D d',aQ):=bh.o.cell 4;have Q7:=bh.o.free 4;have Lr:=bh.o.lt;go_simp;refine ab _ _ ?_;replace bK:=A (bK.o.set bh.o.blk aN 4 (g6,D d'+1,oj));replace z:=A (bh.o.go z.o aN 4 (g6,D d'+1,oj));replace bh:Hid (eM w (a7 b4 (w1.heap.size,4) (g6,D d'+1,oj)) wE (w1.heap.size) #[(15:Int),t.an,(0:Int),.string ⟨#[]⟩,(g6,D d'+1,oj)] 53):=A (bh.o.set 4 (g6,D d'+1,oj));generalize(a7 b4 (w1.heap.size,4) (g6,D d'+1,oj))=b3 at*;refine wpAny_done cS ?_ _;have c6:D (d'++[a5])=D d'+1:=bT;replace c0:Hid (iT X n s=(if cm.i<D X.bu then(B.take X hC cm).M λ_ s2=>B.run X m (.decls (d'++[a5])) s2 else B.run X m (.decls (d'++[a5])) cm).M (oP t.an)):=A (by rw[c0.o,IF.o];rfl);go_wp2_with fail;by_cases bN:cm.i<D X.bu
     .replace c0:Hid (iT X n s=((B.take X hC cm).M λ_ s2=>B.run X m (.decls (d'++[a5])) s2).M (oP t.an)):=A (by rw[c0.o,aS bN]);have iR:decide ((cm.i:Int)<D X.bu)=true:=(by simp;omega);refine lV (S:=λw'=>aG w' (p,2)=some [cm.i]/\aG w' (p,1)=some (cb,D X.bu,fQ)) cS ⟨z.o.jW.st.cK,by rw[<-pk.o];exact z.o.jW.st.bq⟩ (λkC=>?_);replace bh:=A (bh.o.drew);replace bK:=A (bK.o.drew);replace z:=A (z.o.jW);generalize b3.drew=a6 at*;refine aK 0 ?_;refine aK 1 ?_;refine aK 2 ?_;refine aK 3 ?_;refine aK 4 ?_;refine aK 5 ?_;refine aK 6 ?_;refine aK 7 ?_;refine aK 8 ?_;refine aK 9 ?_;refine p2 cS ?_ _;go_wp2_with fail;refine(va z.o.st ⟨#[59]⟩).mono ?_;rintro e cp a_;obtain⟨c,q,au,rfl,G⟩|⟨v,k',n9,E9,au,rfl,R,T,ah⟩:=a_.parts (ze _ _ _)
      .have au:B.take X hC cm=_:=au;have ba:Hid (Out N p X S w tv nv E lk (iT X n s) (dt c q) cp):=A (z.o.bL G (by simp[c0.o,au,B.aV.M]));clear au;unfold dt;go_wp2;exact⟨rfl,ba.o⟩
      have au:B.take X hC cm=_:=au;obtain rfl:=(xT au).1;have EC:=A au;replace bK:=A (bK.o.de z.o T ah);replace bh:=A (bh.o.de z.o.pl T);replace z:=A (z.o.then R T ah);clear au;unfold cD;have tx:Hid (iT X n s=(B.run X m (.decls (d'++[a5])) k').M (oP t.an)):=A (by rw[c0.o,EC.o];rfl);go_wp2;go_roundg m
      case rel=>exact⟨d'++[a5],k',n9,_,_,_,z,by rw[c6];exact bK,by rw[c6];exact bh,by omega,tx⟩
      case measure=>omega
     .have tx:Hid (iT X n s=(B.run X m (.decls (d'++[a5])) cm).M (oP t.an)):=A (by rw[c0.o,ao bN]);have iR:decide ((cm.i:Int)<D X.bu)=false:=(by simp;omega);refine lV (S:=λw'=>aG w' (p,2)=some [cm.i]/\aG w' (p,1)=some (cb,D X.bu,fQ)) cS ⟨z.o.jW.st.cK,by rw[<-pk.o];exact z.o.jW.st.bq⟩ (λkC=>?_);replace bh:=A (bh.o.drew);replace bK:=A (bK.o.drew);replace z:=A (z.o.jW);generalize b3.drew=gF at*;refine aK 0 ?_;refine aK 1 ?_;refine aK 2 ?_;refine aK 3 ?_;refine aK 4 ?_;refine aK 5 ?_;refine aK 6 ?_;refine aK 7 ?_;refine aK 8 ?_;refine aK 9 ?_;refine p2 cS ?_ _;go_wp2;go_roundg m
      case rel=>exact⟨d'++[a5],cm,wE,_,_,_,z,by rw[c6];exact bK,by rw[c6];exact bh,by omega,tx⟩
      case measure=>omega
  .have c0:Hid (iT X n s=oP t.an d' bf):=A (ic.o.trans (congrArg (λr=>B.aV.M r (oP t.an)) (ao bN)));go_wp2_with fail;have iR:decide ((bf.i:Int)<D X.bu)=false:=(by simp;omega);refine lV (S:=λw'=>aG w' (p,2)=some [bf.i]/\aG w' (p,1)=some (cb,D X.bu,fQ)) cS ⟨z.o.jW.st.cK,by rw[<-pk.o];exact z.o.jW.st.bq⟩ (λkC=>?_);replace bh:=A (bh.o.drew);replace bK:=A (bK.o.drew);replace z:=A (z.o.jW);generalize wr.drew=bm at*;refine aK 0 ?_;refine aK 1 ?_;refine aK 2 ?_;refine aK 3 ?_;refine aK 4 ?_;refine aK 5 ?_;refine aK 6 ?_;refine aK 7 ?_;refine aK 8 ?_;refine aK 9 ?_;refine p2 cS ?_ _;clear ic;have amd:aG bm w1.heap.size=some [(15:Int)]:=bh.o.cell 0;have ame:aG bm (w1.heap.size,1)=some [t.an]:=bh.o.cell 1;have amf:aG bm (w1.heap.size,2)=some [(0:Int)]:=bh.o.cell 2;have amg:aG bm (w1.heap.size,3)=some (.string ⟨#[]⟩):=bh.o.cell 3;have C':aG bm (w1.heap.size,4)=some (bb,D d',aQ):=bh.o.cell 4;have Lr:=bh.o.lt;go_wp2_with fail;have jJ:Hid (iT X n s=B.put ⟨15,t.an,0,[],d'⟩ bf):=A (by simp[oP,c0.o,B.aV.M]);have mV:=gH.o;rw[jJ.o] at mV;have aI:=wq mV;have hI:=A (zm mV);refine b7 (CY z.o.st ⟨15,t.an,0,[],d'⟩ (bb,D d',aQ) bK.o.row aI) λb4⟨n6,R,T⟩=>?_;have ba:Hid (Out N p X S w tv nv E lk (iT X n s) (.returned (.tuple #[])) b4):=A ((z.o.put R T bK.o.dV).o (by rw[jJ.o,hI.o]) rfl);replace bh:=A (bh.o.de z.o.pl T);go_wp2;go_returns;exact ba.o
end
def j8 (S:ByteArray):Except (Int×Nat) (List aP):=
 match aa.scan (aC S) with
 | .error x=> .error x
 | .ok l=>match B.parse ⟨l,S.size⟩ B.fuel with
  | .o=> .error (0,0)
  | .bL c p=> .error (c,p)
  | .ok _ s=> .ok s.aj
def y_ (S:ByteArray)(w:ai)(e:e7)(w':ai):Prop:=
 aL w w w'/\match j8 S with
  | .ok l=> ∃v E,e= .returned (.tuple #[v,.agg #[(0:Int),(0:Int)]])/\iJ w.heap.size w' v E/\l=E.map (·.1)/\D l<=1200
  | .error (c,p)=>e= .returned (.tuple #[.slice none 0 0,.agg #[c,p]])
def Gf{S w w' c p}(h:j8 S= .error (c,p))(G:aL w.heap.size w w'):y_ S w (.returned (.tuple #[.slice none 0 0,.agg #[c,p]])) w':=by refine⟨G,?_⟩;rw[h]
def Qw{S:ByteArray}{w w':ai}{E:List (aP×af)}{v:af}(h:j8 S= .ok (E.map (·.1)))(G:aL w w w')(bQ:iJ w.heap.size w' v E)(hl:D E<=1200):y_ S w (.returned (.tuple #[v,.agg #[(0:Int),(0:Int)]])) w':=by refine⟨G,?_⟩;rw[h];exact⟨v,E,rfl,bQ,rfl,by rw[h2];exact hl⟩
def go_code(s:List UInt8)(k:Nat): ∀(i:Nat) (line:Bool) (d':List aa.Tok) (c:Int) (p:Nat),D s-i<=k->aa.go s i line d'= .error (c,p)->c≠0:=by
 induction k with
 |zero=>
  intro i line d' c p U aB;rw[aa.go_end J] at aB;cases aB
 |succ k cB=>
  intro i line d' c p U aB;by_cases ay:i<D s
  .by_cases kr:Y s i 0=10
   .rw[aa.go_feed ay kr] at aB;exact cB _ _ _ _ _ J aB
   .cases hs:kY s i with
    |bL cK j=>
     rw[aa.go_bad ay kr hs] at aB;cases aB;unfold kY at hs;split at hs
     .cases hs
     .split at hs
      .split at hs
       .cases hs;decide
       .cases hs
      .split at hs
       .cases hs
       .split at hs
        .split at hs
         .cases hs;decide
         .cases hs
        .split at hs
         .cases hs;decide
         .cases hs
    |skip r3=>
     rw[aa.go,aS ay,ao kr,hs] at aB;exact cB _ _ _ _ _ J aB
    |tok t r3=>
     rw[aa.go,aS ay,ao kr,hs] at aB;exact cB _ _ _ _ _ J aB
  .rw[aa.go_end ay] at aB;cases aB
def Pe{s c p}(h:aa.scan s= .error (c,p)):c≠0:=by
 unfold aa.scan at h;split at h
 .cases h;decide
 .exact go_code s (D s) 0 false [] c p J h
def OV{s l}(h:aa.scan s= .ok l):D s<=6000:=by
 unfold aa.scan at h;split at h
 .cases h
 .omega
def aaC{X n d' v s s'}(h:B.run X n (.decls d') s= .ok v s'):D X.bu<=s'.i:=by
 induction n generalizing d' s with
 |zero=>cases h
 |succ n cB=>
  by_cases hl:s.i<D X.bu
  .have T:((B.j9 X (B.run X n) s).M λk s1=>if s1.i<D X.bu then(B.take X hC s1).M λ_ s2=>B.run X n (.decls (d'++k)) s2 else B.run X n (.decls (d'++k)) s1)= .ok v s':=(aS hl).symm.trans h;cases ah:B.j9 X (B.run X n) s with
   |o=>rw[ah] at T;cases T
   |bL c q=>rw[ah] at T;cases T
   |ok v1 s1=>
    rw[ah,B.jt] at T;split at T
    .cases bJ:B.take X hC s1 with
     |o=>rw[bJ] at T;cases T
     |bL c q=>rw[bJ] at T;cases T
     |ok v2 s2=>rw[bJ,B.jt] at T;exact cB T
    .exact cB T
  .have T:B.aV.ok d' s= .ok v s':=(ao hl).symm.trans h;cases T;omega
def W5{X n v s'}(h:B.program X n= .ok v s'):D X.bu<=s'.i:=by
 unfold B.program at h;cases R:B.run X n (.decls []) B.start with
 |o=>rw[R] at h;cases h
 |bL c q=>rw[R] at h;cases h
 |ok v1 s1=>
  rw[R,B.jt] at h;unfold B.put at h;split at h
  .cases h;exact(show D X.bu<=s1.i from aaC R)
  .cases h
def Wg{S l c q}(h:aa.scan (aC S)= .ok l)(aJ:B.program ⟨l,S.size⟩ B.fuel= .bL c q):j8 S= .error (c,q):=by unfold j8;rw[h];dsimp only;unfold B.parse;rw[aJ];rfl
def VG{S l v s}(h:aa.scan (aC S)= .ok l)(aJ:B.program ⟨l,S.size⟩ B.fuel= .ok v s)(aI:1200<D s.aj):j8 S= .error (5,S.size):=by unfold j8;rw[h];dsimp only;unfold B.parse;rw[aJ,B.jt,aS aI]
def P9{S l v s}(h:aa.scan (aC S)= .ok l)(aJ:B.program ⟨l,S.size⟩ B.fuel= .ok v s)(aI: ¬1200<D s.aj):j8 S= .ok s.aj:=by unfold j8;rw[h];dsimp only;unfold B.parse;rw[aJ,B.jt,ao aI]
def adM{X s}(h:D X.bu<=s.i):(B.aM X s).an=X.len:=by unfold B.aM;rw[cd,pr h];rfl
def JS{dP cy:Nat}{v0 f0 f1}{w:ai}(e9:w.heap[dP]?=some (.cells #[v0] 35 (0,0)))(e3:w.heap[cy]?=some (.cells #[f0,f1] 25 (0,0)))(u c a):
  (a7 (a7 (a7 w dP u) cy c) (cy,1) a).heap[dP]?=some (.cells #[u] 35 (0,0))/\
  (a7 (a7 (a7 w dP u) cy c) (cy,1) a).heap[cy]?=some (.cells #[c,a] 25 (0,0))/\
  (∀V,V<=dP->V<=cy->aL V w (a7 (a7 (a7 w dP u) cy c) (cy,1) a))/\
  ∀N e bp n x xs,35≠e->25≠e->w.ownsRow N e bp x n xs->(a7 (a7 (a7 w dP u) cy c) (cy,1) a).ownsRow N e bp x n xs:=by
 have aZ:dP≠cy:=by
  rintro rfl;rw[e9] at e3;cases e3
 have a1:=et e9 0 u;have a2:=fK (p:=cy) a1 aZ 0 c;have a3:=fK (p:=cy) a2 aZ 1 a;have b1:=fK (p:=dP) e3 aZ.symm 0 u;have b2:=et b1 0 c;have bC:=et b2 1 a;exact⟨a3,bC,λV R T=>(((aT V w).setCell (p:=⟨dP,0,none⟩) R _).setCell (p:=⟨cy,0,none⟩) T _).setCell (p:=⟨cy,1,none⟩) T _,λN e bp n x xs R T h=>eZ (eZ (eZ h e9 R.symm) b1 T.symm) b2 T.symm⟩
def X_{dP cy:Nat}{v0 f0 f1:af}{w:ai}(e9:w.heap[dP]?=some (.cells #[v0] 35 (0,0)))(e3:w.heap[cy]?=some (.cells #[f0,f1] 25 (0,0)))(c a):
  (a7 (a7 (a7 w dP (.slice none 0 0)) cy c) (cy,1) a).heap[dP]?=some (.cells #[.slice none 0 0] 35 (0,0))/\
  (a7 (a7 (a7 w dP (.slice none 0 0)) cy c) (cy,1) a).heap[cy]?=some (.cells #[c,a] 25 (0,0)):=
 ⟨(JS e9 e3 _ c a).1,(JS e9 e3 _ c a).2.1⟩
def aeG(dP cy:Nat)(v0 f0 f1 c a)(w:ai)(e9:w.heap[dP]?=some (.cells #[v0] 35 (0,0)))(e3:w.heap[cy]?=some (.cells #[f0,f1] 25 (0,0))):
  CallsD prog 27 #[.pointer (some ⟨dP,0,none⟩),.pointer (some ⟨cy,0,none⟩)] (.panicking [{v:= .iface 74 (.agg #[.int .i64 c,.int .i64 a]),recovered:=false}]) w λe pX w'=>
   e= .returned (.tuple #[])/\pX= .panicking [{v:= .iface 74 (.agg #[.int .i64 c,.int .i64 a]),recovered:=true}]/\w'.heap[dP]?=some (.cells #[.slice none 0 0] 35 (0,0))/\w'.heap[cy]?=some (.cells #[.int .i64 c,.int .i64 a] 25 (0,0))/\ ∀V,V<=dP->V<=cy->aL V w w':=by
 have bO:=az e9 0;have g0:=az e3 0;have g1:=az e3 1;have cl:=cX e9 0;have aH:=cX e3 0;have R:=cX e3 1;have hl:=bd e9;have iL:=bd e3;have aZ:dP≠cy:=by
  rintro rfl;rw[e9] at e3;cases e3
 simp only[cO,cQ,c8] at bO g0 g1;have Eb:=A e9;have Ec:=A e3;clear e9 e3;refine callsD_of_wpS func27 rfl λzv cs hu=>?_;apply wpS_seq;apply wpS_region;simp[wpOpsS,go_sem,recoverD,hu,ntmps27,Exit.thenS];refine wpS_of_wp ?_;clear hu;have tj: ∀w,(Instr.typeAssert (.iface 74 (.agg #[.int .i64 c,.int .i64 a])) 20 74 true).run prog w= .ok (.tuple #[.agg #[.int .i64 c,.int .i64 a],.bool true]) w:=λw=>by kernel_rfl
 have e:(#[Value.pointer (some ⟨dP,0,none⟩),Value.pointer (some ⟨cy,0,none⟩)]++(vy 11 eb).setIfInBounds 3 (Value.iface 74 (Value.agg #[Value.int IntKind.i64 c,Value.int IntKind.i64 a])):Array af)= #[.pointer (some ⟨dP,0,none⟩),.pointer (some ⟨cy,0,none⟩),eb,eb,eb,.iface 74 (.agg #[.int .i64 c,.int .i64 a]),eb,eb,eb,eb,eb,eb,eb]:=rfl;rw[e];clear e;go_wp2;go_region
 all_goals
  go_wp2;obtain⟨m1,m2⟩:=X_ Eb.o Ec.o (.int .i64 c) (.int .i64 a);refine⟨rfl,_,rfl,.tuple #[],by simp[iX,results27,go_sem],rfl,rfl,hO m1 _,hO m2 _,λV R T=>?_⟩;exact(((((aT V w).setCell (p:=⟨dP,0,none⟩) R _).setCell (p:=⟨cy,0,none⟩) T _).setCell (p:=⟨cy,1,none⟩) T _).alloc (by simp;omega) _).drew
def W6(dP cy)(w:ai):
  CallsD prog 27 #[.pointer (some ⟨dP,0,none⟩),.pointer (some ⟨cy,0,none⟩)] .returning w λe pX w'=>e= .returned (.tuple #[])/\pX= .returning/\w'=w:=by
 refine callsD_of_wpS func27 rfl λzv cs hu=>?_;apply wpS_seq;apply wpS_region;simp[wpOpsS,go_sem,recoverD,hu,ntmps27,Exit.thenS];refine wpS_of_wp ?_;have e:(#[Value.pointer (some ⟨dP,0,none⟩),Value.pointer (some ⟨cy,0,none⟩)]++(vy 11 eb).setIfInBounds 3 Value.nilIface:Array af)= #[.pointer (some ⟨dP,0,none⟩),.pointer (some ⟨cy,0,none⟩),eb,eb,eb,.nilIface,eb,eb,eb,eb,eb,eb,eb]:=rfl;rw[e];go_wp2;refine⟨rfl,.returning,?_,.tuple #[],by simp[iX,results27,go_sem],rfl,rfl,rfl⟩;cases zv
 simp_all
def JA (n:Nat):List Deferred:=[{target:= .fn (.func 27) #[(n,0),(n+1,0)],args:= #[]}]
def P' {w dN:ai} {S:ByteArray} {c:Int} {a:Nat} {v0 f0 f1:af} {fR:Array af} (c9:dN.heap[w.heap.size]?=some (.cells #[v0] 35 (0,0))) (cw:dN.heap[w.heap.size+1]?=some (.cells #[f0,f1] 25 (0,0))) (da:aL w.heap.size w dN) (hc:j8 S= .error (c,a)) (T:fR[2]?=some (.pointer (some ⟨w.heap.size,0,none⟩))) (ah:fR[3]?=some (.pointer (some ⟨w.heap.size+1,0,none⟩))):
  bodyPostD prog f12 (y_ S w) (Exit.panic [{v:= .iface 74 (.agg #[.int .i64 c,.int .i64 (a:Int)]),recovered:=false}]) {tmps:=fR,defers:=JA w.heap.size} dN:=by
 unfold JA;refine leaves_cons (f:=27) (args:= #[(w.heap.size,0),(w.heap.size+1,0)]) (by simp) (by simp[go_sem]) ?_;refine(aeG _ _ _ _ _ c a _ c9 cw).mono ?_;rintro e pX bc ⟨rfl,rfl,m1,m2,m3⟩;have cl:=az m1 0;have cu:=az m2 0;have k2:=az m2 1;have gq:=bd m1;have iL:=bd m2;simp only[cO,cQ,c8] at cl cu k2;have dj:=A (Gf hc (da.trans (m3 w.heap.size (by omega) (by omega))));simp[Leaves,settle,iX,results12,go_sem,cl,cu,k2,T,ah];exact dj.o
def acG{w dN S v f0 f1 fR dY}(he:dY= .ret)(e9:dN.heap[w.heap.size]?=some (.cells #[v] 35 (0,0)))(e3:dN.heap[w.heap.size+1]?=some (.cells #[f0,f1] 25 (0,0)))(aJ:y_ S w (.returned (.tuple #[v,.agg #[f0,f1]])) dN)
 (T:fR[2]?=some (.pointer (some ⟨w.heap.size,0,none⟩)))(ah:fR[3]?=some (.pointer (some ⟨w.heap.size+1,0,none⟩))):
  bodyPostD prog f12 (y_ S w) dY {tmps:=fR,defers:=JA w.heap.size} dN:=by subst he;unfold JA;refine leaves_cons (f:=27) (args:= #[(w.heap.size,0),(w.heap.size+1,0)]) bT (by simp[go_sem]) ?_;refine(W6 _ _ _).mono ?_;rintro e pX bc ⟨rfl,rfl,rfl⟩;have cl:=az e9 0;have cu:=az e3 0;have k2:=az e3 1;have gq:=bd e9;have iL:=bd e3;simp only[cO,cQ,c8] at cl cu k2;have dj:=A aJ;clear aJ;simp[Leaves,settle,iX,results12,go_sem,cl,cu,k2,T,ah];exact dj.o
def XY(um:Hid (∀X S,gg X S 28 lk (iT X B.fuel)))(V:Nat)(w:ai)(S:ByteArray)(hT:kF V w)(bY:V<=w.heap.size)(hm:S.size<=dc):aY 12 #[S] w (y_ S w):=by
 have Go:=0;have HY: ∀(fn:Fn) (first cap:Array af) (w:ai),(Instr.makeFunc fn first cap).run prog w= .ok (.func fn first cap) w:=λ_ _ _ _=>rfl;have bW:=A hT;clear hT;go_enter_defers func12,ntmps12
 go_wp2;obtain⟨w0,qh⟩: ∃w0:ai,w0=(aA (aA w (aw #[.slice none 0 0] 35)) (aw #[(0:Int),(0:Int)] 25)):=⟨_,rfl⟩;have e':w0.heap.size=w.heap.size+2:=by rw[qh];simp
 have HZ:Hid (w0.heap[w.heap.size]?=some (.cells #[.slice none 0 0] 35 (0,0))):=A (by rw[qh];exact hO (ek _ _) _);have uo:Hid (w0.heap[w.heap.size+1]?=some (.cells #[(0:Int),(0:Int)] 25 (0,0))):=A (by rw[qh];exact F0 bT);have lP:Hid (aL w w w0):=A (by rw[qh];exact(((aT _ _).alloc (bD _) _).alloc bT _));rw[<-qh];refine(Z' V w0 S (bW.o.below lP.o bY) J hm).mono ?_;rintro e w1 ⟨ck,gE⟩;have qj:=A (ds HZ.o ck J);have cJ:=A (ds uo.o ck J);have c1:=A (lP.o.trans (ck.mono J));have e_:=ck.size;have pM:=A ck;have f0:=az cJ.o 0;have f1:=az cJ.o 1;have oY:=cX cJ.o 0;have oZ:=cX cJ.o 1;have cl:=az qj.o 0;have zJ:=cX qj.o 0;have l8:=bd qj.o;have jQ:=bd cJ.o;simp only[cO,cQ,c8] at f0 f1 cl;clear ck;cases gU:aa.scan (aC S) with
 |error x=>
  obtain⟨c,q⟩:=x;rw[gU] at gE;dsimp only at gE;subst gE;have hc:=Pe gU;have cP:Hid (j8 S= .error (c,q)):=A (by unfold j8;rw[gU]);clear gU;have e9:(c !=0)=true:=by simpa using hc
  have aZ:w.heap.size≠w.heap.size+1:=J;have en:=A (show(a7 (a7 w1 (w.heap.size+1,0) c) (w.heap.size+1,1) q).heap[w.heap.size+1]?=some (.cells #[c,q] 25 (0,0)) from et (et cJ.o 0 c) 1 q);have ny:=A (fK (fK qj.o aZ 0 c) aZ 1 q);have cN:=A ((c1.o.setCell (p:=⟨w.heap.size+1,0,none⟩) bT c).setCell (p:=⟨w.heap.size+1,1,none⟩) bT q);go_wp2;generalize(a7 (a7 w1 (w.heap.size+1,0) c) (w.heap.size+1,1) q)=w2 at*;have f0:=az en.o 0;have f1:=az en.o 1;have oY:=cX en.o 0;have oZ:=cX en.o 1;have cl:=az ny.o 0;have zJ:=cX ny.o 0;have l8:=bd ny.o;have jQ:=bd en.o;simp only[cO,cQ,c8] at f0 f1 cl;have kK:=A (JS ny.o en.o (.slice none 0 0) c q);go_region
  all_goals
   have cl:=az (ds kK.o.1 ((aT _ _).drew) (bd kK.o.1)) 0;have cu:=az (ds kK.o.2.1 ((aT _ _).drew) (bd kK.o.2.1)) 0;have k2:=az (ds kK.o.2.1 ((aT _ _).drew) (bd kK.o.2.1)) 1;have yr:=bd kK.o.1;have pe:=bd kK.o.2.1;simp only[cO,cQ,c8] at cl cu k2;have ba:=A (Gf cP.o ((cN.o.trans (kK.o.2.2.1 w.heap.size J J)).drew));generalize(a7 (a7 (a7 w2 w.heap.size (.slice none 0 0)) (w.heap.size+1,0) c) (w.heap.size+1,1) q)=bc at*;go_wp2;simp[bodyPostD,Leaves,iX,results12,go_sem,cl,cu,k2];exact ba.o
 |ok l=>
  rw[gU] at gE;obtain⟨v,rfl,bQ,hl⟩:=gE;have uL:=A gU;have D6:=OV gU;have cM:=A bQ;clear gU bQ;obtain⟨gX,cA,MO⟩:=eR cM.o rfl;subst MO;have w3:w.heap.size≠w.heap.size+1:=J;have en:=A (show(a7 (a7 w1 (w.heap.size+1,0) (0:Int)) (w.heap.size+1,1) (0:Int)).heap[w.heap.size+1]?=some (.cells #[(0:Int),(0:Int)] 25 (0,0)) from et (et cJ.o 0 (0:Int)) 1 (0:Int));have ny:=A (fK (fK qj.o w3 0 (0:Int)) w3 1 (0:Int));have cN:=A ((c1.o.setCell (p:=⟨w.heap.size+1,0,none⟩) bT (0:Int)).setCell (p:=⟨w.heap.size+1,1,none⟩) bT (0:Int));have iN:=A (show lG w0.heap.size (a7 (a7 w1 (w.heap.size+1,0) (0:Int)) (w.heap.size+1,1) (0:Int)) (gX,D l,cA) l from eZ (eZ cM.o cJ.o aN) (et cJ.o 0 (0:Int)) aN);have ff:(a7 (a7 w1 (w.heap.size+1,0) (0:Int)) (w.heap.size+1,1) (0:Int)).heap.size=w1.heap.size:=bT;go_wp2;generalize(a7 (a7 w1 (w.heap.size+1,0) (0:Int)) (w.heap.size+1,1) (0:Int))=w2 at*;have aZ:iT ⟨l,S.size⟩ B.fuel B.start≠ .o:=O2 (X:=⟨l,S.size⟩) hl;have e0:aL w2 w2 (aA w2 (aw #[S,(gX,D l,cA),(0:Int),(0:Int),.slice none 0 0] 77)):=(aT _ _).alloc (bD _) _;have d_:Hid (cn w0.heap.size w1.heap.size (aA w2 (aw #[S,(gX,D l,cA),(0:Int),(0:Int),.slice none 0 0] 77)) ⟨l,S.size⟩ S B.start (gX,D l,cA) (.slice none 0 0) []):=A
   {blk:=by rw[<-ff];exact ek _ _
    bu:=fZ iN.o e0 (λk U=>(eI iN.o k U).2)
    aj:=⟨n7 _ _ _ _,λx aF=>by cases aF⟩
    eq:=rfl
    src:=⟨rfl,by rw[kf] at D6;exact D6,hl⟩
    i:=gp _
    d0:=aN
    d1:=aN
    many:=gp _
    hN:=e_}
  have Rh:=A (ds ny.o e0 J);have fj:=A (ds en.o e0 J);have fu:=A (cN.o.trans (e0.mono J));generalize(aA w2 (aw #[S,(gX,D l,cA),(0:Int),(0:Int),.slice none 0 0] 77))=bc at*;refine(um.o ⟨l,S.size⟩ S w0.heap.size w1.heap.size bc B.start _ _ [] d_.o aZ).mono ?_;rintro e bS a_;obtain⟨c,q,au,rfl,G⟩|⟨v,s',gL,ar,au,rfl,R,T,ah⟩:=a_.parts aZ
  .have c9:=A (ds Rh.o G J);have cw:=A (ds fj.o G J);have da:=A (fu.o.trans (G.mono J));have dQ:=A (Wg uL.o au);clear au;unfold dt;go_wp2;exact P' c9.o cw.o da.o dQ.o rfl rfl
  .have G:=T.below;have vP:=A (ds Rh.o G J);have fG:=A (ds fj.o G J);have iO:=A (fu.o.trans (G.mono J));rw[List.nil_append] at R;have o':=A R;have kK:=A au;clear au R;obtain⟨A7,A8,MP⟩:=eR o'.o.aj.row rfl;subst MP;have aix:D s'.aj=D ar:=(by rw[o'.o.eq,h2]);have d4:=o'.o.c4;have gV:=o'.o.lt;unfold lk;by_cases aI:1200<D ar
   .have pP:decide ((1200:Int)<D ar)=true:=(by simp;omega);have cP:Hid (j8 S= .error (5,S.size)):=A (VG uL.o kK.o J);have Y4:Hid ((B.aM ⟨l,S.size⟩ s').an=S.size):=A (adM (X:=⟨l,S.size⟩) (W5 kK.o));go_wp2;refine b7 (CV o'.o 5) λbm dh=>?_;rw[Y4.o];have c9:=A (ds vP.o dh (bd vP.o));have cw:=A (ds fG.o dh (bd fG.o));have da:=A (iO.o.trans (dh.mono J));unfold dt;go_wp2;exact P' c9.o cw.o da.o cP.o rfl rfl
   .have pP:decide ((1200:Int)<D ar)=false:=(by simp;omega);have cP:Hid (j8 S= .ok (ar.map (·.1))):=A (by rw[<-o'.o.eq];exact P9 uL.o kK.o J);have jQ:D ar<=1200:=J;have EX:=A jQ;have f0:=az fG.o 0;have f1:=az fG.o 1;have oY:=cX fG.o 0;have oZ:=cX fG.o 1;have cl:=az vP.o 0;have zJ:=cX vP.o 0;have yr:=bd vP.o;have pe:=bd fG.o;simp only[cO,cQ,c8] at f0 f1 cl;have cZ:=A (JS vP.o fG.o (A7,D ar,A8) (0:Int) (0:Int));clear jQ;go_wp2;refine acG rfl cZ.o.1 cZ.o.2.1 (Qw cP.o (iO.o.trans (cZ.o.2.2.1 w.heap.size J J)) ⟨?_,λx aF=>?_⟩ EX.o) rfl rfl
    .exact qE (cZ.o.2.2.2 _ _ _ _ _ _ aN aN o'.o.aj.row) J
    .exact qE (cZ.o.2.2.2 _ _ _ _ _ _ aN aN (o'.o.aj.I x aF)) J
section
variable{N p:Nat}{w:ai}{X:B.Src}{S:ByteArray}{s:B.ak}{tv nv:af}{E:List (aP×af)}
def ZE (E':B.Rec) (cC:Hid (gg X S 104 cD (B.sig X E'))) (w0:ai) (vO:p<w0.heap.size) (nb:Nat) (h:cn N p w X S s tv nv E) (aF:eM w0 w nv nb #[.pointer (some ⟨p,0,none⟩)] 75) (aZ:B.jY X E' s≠ .o):Calls prog 140 #[.pointer (some ⟨nb,0,none⟩)] w (Out N p X S w tv nv E cD (B.jY X E' s)):=by
 have br:=A aF;clear aF;have z:=A (Go.start h);have gH:=A aZ;clear h aZ
 go_enter func140,ntmps140;have Go:=0
 have LW:w.cell? ⟨nb,0,none⟩=some (.pointer (some ⟨p,0,none⟩)):=br.o.cell 0;have Ns:=br.o.lt;go_wp2
 refine(O3 z.o.st).mono ?_;rintro e w1 a_;obtain⟨c,q,au,rfl,G⟩|⟨v,s1,dq,yk,au,rfl,R,T,ah⟩:=a_.parts (Q0 _ _)
 .skip
  have ba:Hid (Out N p X S w tv nv E cD (B.jY X E' s) (dt c q) w1):=A (z.o.bL G (by simp[B.jY,au,B.aV.M]));clear a_ au G;unfold dt;go_wp2
  exact⟨rfl,ba.o⟩
 have uP:=A au;replace br:=A (br.o.de vO T);replace z:=A (z.o.then R T ah);clear a_ au R T ah;clear LW Ns;generalize ln:B.aM X s=t at*;have jv:=A ln;clear ln;have alv:nb≠w1.heap.size:=Nat.ne_of_lt br.o.lt;unfold l1 e2;go_wp2
 have e5:=A (eM.new z.o #[.int .i64 t.j',.string (str t.O),.int .i64 t.aX,.int .i64 (t.an:Int)] 97);replace z:=A (z.o.alloc (.cells #[.int .i64 t.j',.string (str t.O),.int .i64 t.aX,.int .i64 (t.an:Int)] 97));replace br:=A (br.o.alloc (.cells #[.int .i64 t.j',.string (str t.O),.int .i64 t.aX,.int .i64 (t.an:Int)] 97));generalize gT:(w1.alloc (.cells #[.int .i64 t.j',.string (str t.O),.int .i64 t.aX,.int .i64 (t.an:Int)] 97))=w2 at*;have qZ:=e5.o.lt;clear gT;have LW:w2.cell? ⟨nb,0,none⟩=some (.pointer (some ⟨p,0,none⟩)):=br.o.cell 0;have Ns:=br.o.lt;go_wp2
 clear LW Ns;refine lV (S:=λw'=>w'.cell? ⟨w1.heap.size,3,none⟩=some (.int .i64 (t.an:Int))/\w'.cell? ⟨w1.heap.size,1,none⟩=some (.string (str t.O))/\w'.cell? ⟨nb,0,none⟩=some (.pointer (some ⟨p,0,none⟩))) (by kernel_rfl) ⟨e5.o.drew.cell 3,e5.o.drew.cell 1,br.o.drew.cell 0⟩ (λkC=>?_);replace br:=A (br.o.drew);replace e5:=A (e5.o.drew);replace z:=A (z.o.jW);generalize w2.drew=bc at*;refine aK 0 ?_;refine aK 1 ?_;refine aK 2 ?_;refine aK 3 ?_;refine aK 4 ?_;refine aK 5 ?_;clear kC;refine wpAnyH_ready (rs:=[6]) (by kernel_rfl) (by simp) ?_;refine AllReadyH.cons rfl (λK ab=>?_) AllReadyH.nil
 go_simp
 refine(cC.o _ _ _ _ _ _ _ z.o.st (λe=>gH.o (by simp[B.jY,uP.o,jv.o,e,B.aV.M]))).mono ?_;rintro e bS a_;rcases a_.parts (λe=>gH.o (by simp[B.jY,uP.o,jv.o,e,B.aV.M])) with⟨c,q,au,rfl,G⟩|⟨v,bA,n4,Dt,au,rfl,R,T,ah⟩
 .skip
  have ba:Hid (Out N p X S w tv nv E cD (B.jY X E' s) (dt c q) bS):=A (z.o.bL G (by simp[B.jY,uP.o,jv.o,au,B.aV.M]));clear a_ au G;unfold dt;go_wp2
  exact⟨rfl,ba.o⟩
 obtain⟨a4,rfl⟩:=B.C8 _ _ _ au;have MS:=A au;replace br:=A (br.o.de vO T);replace e5:=A (e5.o.de z.o.pl T);replace z:=A (z.o.then R T ah);clear a_ au R T ah;unfold cD;go_wp2
 refine ab.o _ _ (⟨e5.o.cell 3,e5.o.cell 1,br.o.cell 0⟩) (λkC=>?_);clear ab K;clear kC;refine wpAnyH_ready (rs:=[7]) (by kernel_rfl) (by simp) ?_;refine AllReadyH.cons rfl (λK ab=>?_) AllReadyH.nil
 go_simp
 have bK:Hid (cI N w (bS.alloc (.cells #[.int .i64 (a4:Int)] 3)) _ (.slice (some ⟨bS.heap.size,0,none⟩) 1 1) [a4]):=A (cI.new z.o [a4] (by simp));replace z:=A (z.o.alloc (.cells #[.int .i64 (a4:Int)] 3));replace br:=A (br.o.alloc (.cells #[.int .i64 (a4:Int)] 3));replace e5:=A (e5.o.alloc (.cells #[.int .i64 (a4:Int)] 3));generalize US:(bS.alloc (.cells #[.int .i64 (a4:Int)] 3))=bm at*;have al2:bS.heap.size<bm.heap.size:=by rw[<-US];simp
 clear US;refine ab.o _ _ (⟨e5.o.cell 3,e5.o.cell 1,br.o.cell 0⟩) (λkC=>?_);clear ab K;refine aK 8 ?_;have jJ:Hid (B.jY X E' s=B.put ⟨11,t.an,0,t.O,[a4]⟩ bA):=A (by simp[B.jY,uP.o,jv.o,MS.o,B.aV.M]);have mV:=gH.o;rw[jJ.o] at mV;have aI:=wq mV;have hI:=A (zm mV);clear mV;clear kC;refine wpAnyH_ready (rs:=[9]) (by kernel_rfl) (by simp) ?_;refine AllReadyH.cons rfl (λK ab=>?_) AllReadyH.nil
 go_simp
 refine(CY z.o.st ⟨11,t.an,0,t.O,[a4]⟩ (.slice (some ⟨bS.heap.size,0,none⟩) 1 1) bK.o.row aI).mono ?_;rintro e b4 ⟨rfl,n6,R,T⟩;have ba:Hid (Out N p X S w tv nv E cD (B.jY X E' s) (.returned (.int .i64 (bA.aj.length:Int))) b4):=A ((z.o.put R T bK.o.dV).o (by rw[jJ.o,hI.o]) rfl);replace br:=A (br.o.de vO T);replace e5:=A (e5.o.de z.o.pl T);clear R T;go_wp2
 refine ab.o _ _ (⟨e5.o.cell 3,e5.o.cell 1,br.o.cell 0⟩) (λkC=>?_);clear ab K;refine aK 10 ?_;refine p2 (by kernel_rfl) ?_ _;go_wp2
 go_returns
 exact ba.o
end
section
variable{N p:Nat}{w:ai}{X:B.Src}{S:ByteArray}{s:B.ak}{tv nv:af}{E:List (aP×af)}
def Ka (X:B.Src)(loop:B.ak->B.aV)(at_:Nat)(s:B.ak):B.aV:=(B.enter X qM s).M λ_ s1=>(loop s1).M λl s2=>(B.dU X dm s2).M λ_ aq=>B.put ⟨26,at_,0,[],l⟩ aq
def Qr (X:B.Src)(at_:Nat)(l:List Nat)(s2:B.ak):B.aV:=(B.dU X dm s2).M λ_ aq=>B.put ⟨26,at_,0,[],l⟩ aq
def GX (X:B.Src)(loop:B.ak->B.aV)(s:B.ak):B.aV:=(B.take X GH s).M λ_ s1=>(loop s1).M λl s2=>B.put ⟨16,(B.aM X s).an,0,[],l⟩ s2
def zg (at_:Nat)(l:List Nat)(s2:B.ak):B.aV:=B.put ⟨16,at_,0,[],l⟩ s2
def vl (X:B.Src)(s:B.ak):Bool:=nw X s [wo,wB,dm]
def Pw{X s}(h:B.bw X s dm=true):vl X s=true:=by simp[vl,nw,h]
def Ln{wk}{val:List Nat->af}{pl bV cU L}{c:B.ak->Bool}{lp:Nat->List Nat->B.ak->B.aV}{m d'}{g:List Nat->B.ak->B.aV}(hc:c s=true)(h:Hid (aO N p X S w tv nv E val pl bV cU wk s L (g d' s))):Hid (aO N p X S w tv nv E val pl bV cU wk s L ((ng c lp m d' s).M g)):=dM (by rw[I5,aS hc]) h
def Xy(E':B.Rec)(cZ:Hid (G3 X S 148 (B.items X (E' (.stmts []))))):gg X S 105 cD (B.mQ X E'):=by intro N p w s tv nv E h aZ;have z:=cF cD h aZ (by unfold B.mQ;exact rfl);go_in;have Go:=0;have vQ:=C5;go_wp2;revert z;refine kH λw1 z=>?_;generalize B.aM X s=t at z|-;go_wp2;obtain⟨w2,cw,ag,aE,l2,z⟩:=qD #[(16:Int),t.an,(0:Int),.string ⟨#[]⟩,.slice none 0 0] 53 z;rw[ag,aE];go_wp2;revert z;refine vR cZ.o λr4 EL EM bc aq tz z=>?_;have d0:=dk z;have z:=fV 4 (EL,D r4,EM) z;have bO:=dk z;go_wp2;obtain⟨bS,e,z⟩:=ch z;rw[e];revert z;refine pu λcf bm cm z=>?_;exact c_
def Oo(E':B.Rec)(FG:Hid (Dw E'))(ba:Hid (ed X S 179 (E' (.b6 0))))(j':Int)(at_):ed X S 180 (B.bracketed X E' j' at_) [j',at_]:=by refine⟨λN p w s tv nv E h aZ=>?_,λs=>B.FX _ _ _,λs=>WC FG.o _ _ s⟩;have z:=cF cD h aZ (by unfold B.bracketed;exact rfl);go_in;have Go:=0;go_wp2;revert z;refine jB gK λw1 b0 z=>?_;go_wp2;revert z;refine bq ba.o λa2 w2 s2 z=>?_;go_wp2;revert z;refine lE eW λbc z=>?_;go_wp2;obtain⟨bS,dQ,ag,aE,U8,z⟩:=iE a2 z;rw[ag,aE];revert z;refine bH λcf bm cm z=>?_;exact c_
def WZ(n:Nat)(ax:n<=1000000)(lp:Nat->List Nat->B.ak->B.aV)(one:Nat->B.ak->B.aV)(aH: ∀a s,lp 0 a s= .o)(hs: ∀m a s,lp (m+1) a s=if B.bw X s dm=true then .ok a s else(one m s).M λk s1=>lp m (a++k) s1)(j1: ∀m,m<n->ed X S 209 (one m))(at_:Nat)(h:cn N p w X S s tv nv E)(aZ:Ka X (lp n []) at_ s≠ .o):aY 182 #[(p,0),at_] w (Out N p X S w tv nv E cD (Ka X (lp n []) at_ s)):=by
 have jR:=A aH;have dX:=A hs;have o9:=A j1;clear aH hs j1;have z:=cF cD h aZ (by unfold Ka;exact rfl);go_in;have Go:=0;go_wp2;obtain⟨w1,c9,ag,aE,ig,z⟩:=qD #[(26:Int),at_,(0:Int),.string ⟨#[]⟩,.slice none 0 0] 53 z;rw[ag,aE];revert z;refine jB qM λw2 b0 z=>?_;have z:=yI (c:=λs=>B.bw X s dm) (g:=Qr X at_) jR.o dX.o z;go_wp2;go_loopg[10] n (λm _ wr=> ∃(d':List Nat) (bf:B.ak) (bb:Option Addr) (aQ:Nat),D d'+m=n/\Hid (aO N p X S w tv nv E cD (Ka X (lp n []) at_ s) s.bR (some 1) wr bf [.dd (bb,D d',aQ) d',.ea c9 #[(26:Int),at_,(0:Int),.string ⟨#[]⟩,(bb,D d',aQ)] 53] ((ng (λs=>B.bw X s dm) lp m d' bf).M (Qr X at_))))
 case atStart=>exact⟨[],_,none,0,by simp,cl z⟩
 case round=>
  obtain⟨d',bf,bb,aQ,rz,z⟩:=hrel;have z:=dM I5 z;go_wp2;revert z;refine j2 dm (λbc b0 z=>?_) λbS b0 z=>?_
  .go_wp2_with fail;revert z;refine lE dm λbm z=>?_;have c:=dk z;go_wp2;revert z;refine pu λfi b4 ha z=>?_;exact c_
  obtain⟨m,rfl⟩:=vE jR.o z;have gr:m<n:=J;have z:=dM (by rw[dX.o,ao (by rw[b0.o];decide),B.i']) z;go_wp2;revert z;refine IQ λb3 z=>?_;refine oE 0 ?_;refine oE 2 ?_;refine yH 1 3 (λK ab=>?_) λK ab=>?_
  .have c:=dk z;go_simp;refine ab _ _ ?_;refine iv 3 λK ab=>?_;go_simp;revert z;refine bq (o9.o m gr) λtG a6 ik z=>?_;go_wp2;refine iv 4 λK ab=>?_;go_simp;refine ab _ _ ?_;refine iv 5 λK ab=>?_;revert z;refine sg tG (show D d'<=1000000 by omega) λg9 M3 cp z=>?_;refine ab _ _ ?_;refine oE 6 ?_;refine iv 7 λK ab=>?_;have c:=dk z;go_simp;refine ab _ _ ?_;have z:=fV 4 (g9,D d'+1,M3) z;obtain⟨gF,e,z⟩:=ch z;rw[e];refine tL ?_;have z:=yI (c:=λs=>B.bw X s dm) jR.o dX.o z;have c6:D (d'++[tG])=D d'+1:=bT;go_wp2;go_roundg m
   case rel=>exact⟨d'++[tG],_,_,_,by omega,by rw[c6];exact z⟩
   case measure=>omega
  go_simp;revert z;refine bq (o9.o m gr) λm_ iP qs z=>?_;go_wp2;refine yH 1 4 (λK ab=>?_) λK ab=>?_
  .have c:=dk z;go_simp;refine ab _ _ ?_;refine iv 4 λK ab=>?_;go_simp;refine ab _ _ ?_;refine iv 5 λK ab=>?_;revert z;refine sg m_ (show D d'<=1000000 by omega) λg12 agA kp z=>?_;refine ab _ _ ?_;refine oE 6 ?_;refine iv 7 λK ab=>?_;have c:=dk z;go_simp;refine ab _ _ ?_;have z:=fV 4 (g12,D d'+1,agA) z;obtain⟨mH,e,z⟩:=ch z;rw[e];refine tL ?_;have z:=yI (c:=λs=>B.bw X s dm) jR.o dX.o z;have c6:D (d'++[m_])=D d'+1:=bT;go_wp2;go_roundg m
   case rel=>exact⟨d'++[m_],_,_,_,by omega,by rw[c6];exact z⟩
   case measure=>omega
  go_simp;refine ab _ _ ?_;refine iv 1 λK ab=>?_;have c:=Am (Bd m_ z);go_simp;refine ab _ _ ?_;refine iv 5 λK ab=>?_;revert z;refine sg m_ (show D d'<=1000000 by omega) λg14 BB q3 z=>?_;refine ab _ _ ?_;refine oE 6 ?_;refine iv 7 λK ab=>?_;have c:=dk z;go_simp;refine ab _ _ ?_;have z:=fV 4 (g14,D d'+1,BB) z;obtain⟨uA,e,z⟩:=ch z;rw[e];refine tL ?_;have z:=yI (c:=λs=>B.bw X s dm) jR.o dX.o z;have c6:D (d'++[m_])=D d'+1:=bT;go_wp2;go_roundg m
  case rel=>exact⟨d'++[m_],_,_,_,by omega,by rw[c6];exact z⟩
  case measure=>omega
def ZF(n:Nat)(ax:n<=1000000)(lp:Nat->List Nat->B.ak->B.aV)(one:Nat->B.ak->B.aV)(aH: ∀a s,lp 0 a s= .o)(hs: ∀m a s,lp (m+1) a s=if vl X s=true then .ok a s else(one m s).M λk s1=>if B.bw X s1 dm=true then .ok (a++k) s1 else(B.take X hC s1).M λ_ s2=>lp m (a++k) s2)(j1: ∀m,m<n->ed X S 148 (one m))(h:cn N p w X S s tv nv E)(aZ:GX X (lp n []) s≠ .o):aY 226 #[(p,0)] w (Out N p X S w tv nv E cD (GX X (lp n []) s)):=by
 have jR:=A aH;have dX:=A hs;have o9:=A j1;clear aH hs j1;have z:=cF cD h aZ (by unfold GX;exact rfl);go_in;have Go:=0;go_wp2;revert z;refine k0 GH λw1 b0 z=>?_;generalize B.aM X s=t at z|-;go_wp2;obtain⟨w2,cw,ag,aE,l2,z⟩:=qD #[(16:Int),t.an,(0:Int),.string ⟨#[]⟩,.slice none 0 0] 53 z;rw[ag,aE];have z:=yI (c:=vl X) (g:=zg t.an) jR.o dX.o z;go_loopg[10] n (λm _ wr=> ∃(d':List Nat) (bf:B.ak) (bb:Option Addr) (aQ:Nat),D d'+m=n/\Hid (aO N p X S w tv nv E cD (GX X (lp n []) s) s.bR (some 0) wr bf [.dd (bb,D d',aQ) d',.ea cw #[(16:Int),t.an,(0:Int),.string ⟨#[]⟩,(bb,D d',aQ)] 53] ((ng (vl X) lp m d' bf).M (zg t.an))))
 case atStart=>exact⟨[],_,none,0,by simp,cl z⟩
 case round=>
  obtain⟨d',bf,bb,aQ,rz,z⟩:=hrel;have z:=dM I5 z;go_wp2;revert z;refine S' [aeH,aeI,S9] (λbc b0 z=>?_) (λbS b0 z=>?_) Iff.rfl
  .have c:=dk z;go_wp2;revert z;refine pu λcf bm cm z=>?_;exact c_
  obtain⟨m,rfl⟩:=vE jR.o z;have gr:m<n:=J;have z:=dM (by rw[dX.o,ao b0.o,B.i']) z;go_wp2;revert z;refine IQ λb4 z=>?_;refine oE 0 ?_;refine oE 2 ?_;refine yH 1 3 (λK ab=>?_) λK ab=>?_
  .have c:=dk z;go_simp;refine ab _ _ ?_;refine iv 3 λK ab=>?_;go_simp;revert z;refine bq (o9.o m gr) λtF b3 mj z=>?_;go_wp2;refine iv 4 λK ab=>?_;go_simp;refine ab _ _ ?_;refine iv 5 λK ab=>?_;revert z;refine sg tF (show D d'<=1000000 by omega) λg8 Fv a6 z=>?_;refine ab _ _ ?_;refine oE 6 ?_;refine iv 7 λK ab=>?_;have c:=dk z;go_simp;refine ab _ _ ?_;have z:=fV 4 (g8,D d'+1,Fv) z;obtain⟨cp,e,z⟩:=ch z;rw[e];refine tL ?_;have c6:D (d'++[tF])=D d'+1:=bT;have z:=dM (n8 _ _ _) z;go_wp2;revert z;refine j2 dm (λgF b0 z=>?_) λiP b0 z=>?_
   .have z:=Ln (c:=vl X) (lp:=lp) (m:=m) (g:=zg t.an) (d':=d'++[tF]) (Pw b0.o) z;go_wp2;go_roundg m
    case rel=>exact⟨d'++[tF],_,_,_,by omega,by rw[c6];exact z⟩
    case measure=>omega
   have z:=dM (B.i' _ _ _) z;go_wp2;revert z;refine k0 hC λkp b0 z=>?_;have z:=yI (c:=vl X) (g:=zg t.an) jR.o dX.o z;go_wp2;go_roundg m
   case rel=>exact⟨d'++[tF],_,_,_,by omega,by rw[c6];exact z⟩
   case measure=>omega
  go_simp;revert z;refine bq (o9.o m gr) λpV mH xo z=>?_;go_wp2;refine yH 1 4 (λK ab=>?_) λK ab=>?_
  .have c:=dk z;go_simp;refine ab _ _ ?_;refine iv 4 λK ab=>?_;go_simp;refine ab _ _ ?_;refine iv 5 λK ab=>?_;revert z;refine sg pV (show D d'<=1000000 by omega) λg14 BB q3 z=>?_;refine ab _ _ ?_;refine oE 6 ?_;refine iv 7 λK ab=>?_;have c:=dk z;go_simp;refine ab _ _ ?_;have z:=fV 4 (g14,D d'+1,BB) z;obtain⟨uA,e,z⟩:=ch z;rw[e];refine tL ?_;have c6:D (d'++[pV])=D d'+1:=bT;have z:=dM (n8 _ _ _) z;go_wp2;revert z;refine j2 dm (λsh b0 z=>?_) λsi b0 z=>?_
   .have z:=Ln (c:=vl X) (lp:=lp) (m:=m) (g:=zg t.an) (d':=d'++[pV]) (Pw b0.o) z;go_wp2;go_roundg m
    case rel=>exact⟨d'++[pV],_,_,_,by omega,by rw[c6];exact z⟩
    case measure=>omega
   have z:=dM (B.i' _ _ _) z;go_wp2;revert z;refine k0 hC λsj b0 z=>?_;have z:=yI (c:=vl X) (g:=zg t.an) jR.o dX.o z;go_wp2;go_roundg m
   case rel=>exact⟨d'++[pV],_,_,_,by omega,by rw[c6];exact z⟩
   case measure=>omega
  go_simp;refine ab _ _ ?_;refine iv 1 λK ab=>?_;have c:=Am (Bd pV z);go_simp;refine ab _ _ ?_;refine iv 5 λK ab=>?_;revert z;refine sg pV (show D d'<=1000000 by omega) λg19 agB uB z=>?_;refine ab _ _ ?_;refine oE 6 ?_;refine iv 7 λK ab=>?_;have c:=dk z;go_simp;refine ab _ _ ?_;have z:=fV 4 (g19,D d'+1,agB) z;obtain⟨q4,e,z⟩:=ch z;rw[e];refine tL ?_;have c6:D (d'++[pV])=D d'+1:=bT;have z:=dM (n8 _ _ _) z;go_wp2;revert z;refine j2 dm (λuC b0 z=>?_) λq5 b0 z=>?_
  .have z:=Ln (c:=vl X) (lp:=lp) (m:=m) (g:=zg t.an) (d':=d'++[pV]) (Pw b0.o) z;go_wp2;go_roundg m
   case rel=>exact⟨d'++[pV],_,_,_,by omega,by rw[c6];exact z⟩
   case measure=>omega
  have z:=dM (B.i' _ _ _) z;go_wp2;revert z;refine k0 hC λvC b0 z=>?_;have z:=yI (c:=vl X) (g:=zg t.an) jR.o dX.o z;go_wp2;go_roundg m
  case rel=>exact⟨d'++[pV],_,_,_,by omega,by rw[c6];exact z⟩
  case measure=>omega
end
section
variable{N p:Nat}{w:ai}{X:B.Src}{S:ByteArray}{s:B.ak}{tv nv:af}{E:List (aP×af)}
def ZG(E':B.Rec)(FG:Hid (Dw E'))(ba:Hid (ed X S 179 (E' (.b6 0))))(bh:Hid (ed X S 105 (E' .block)))(lv:Hid (ed X S 181 (E' .branch)))(NK:Hid (∀at_:Nat,ed X S 182 (B.choice X E' at_) [at_])):gg X S 148 cD (B.ja X E'):=by
 intro N p w s tv nv E h aZ;have z:=cF cD h aZ (by unfold B.ja;exact rfl);go_in;have Go:=0;go_wp2;revert z;refine kH λw1 z=>?_;generalize ax:B.aM X s=t at z|-;have gh:=A ax;clear ax;go_wp2;obtain⟨w2,cw,ag,aE,l2,z⟩:=oN t z;rw[ag,aE];go_wp2;revert z;refine iB K' (λbc b0 z=>?_) λbS b0 z=>?_
 .go_wp2_with fail;revert z;refine bB λbm z aD=>?_;refine cb 0 ?_;refine cb 1 ?_;refine cb 2 ?_;refine cb 3 ?_;refine gw 4 λK ab=>?_;go_simp;revert z;refine bq ba.o λrf b4 ha z=>?_;go_wp2;refine ab.o _ _ (jj z) λaD=>?_;refine gw 5 λK ab=>?_;go_simp;obtain⟨b3,na,ag,aE,ajP,z⟩:=iE rf z;rw[ag,aE];refine ab.o _ _ (o4 z) λaD=>?_;refine gw 6 λK ab=>?_;go_simp;revert z;refine bH λeY a6 ik z=>?_;go_wp2;refine ab.o _ _ (jj z) λaD=>?_;refine cb 7 ?_;refine gz ?_;exact c_
 go_wp2;revert z;refine iB PV (λcp b0 z=>?_) λgF b0 z=>?_
 .have c:=c' z;go_wp2;exact eK (Oo E' FG ba _ _) z
 go_wp2;revert z;refine iB PW (λiP b0 z=>?_) λkp b0 z=>?_
 .have c:=c' z;go_wp2;exact eK (Oo E' FG ba _ _) z
 go_wp2;revert z;refine iB PX (λmH b0 z=>?_) λq3 b0 z=>?_
 .have c:=c' z;go_wp2;exact eK (Oo E' FG ba _ _) z
 go_wp2;revert z;refine j2 qJ (λuA b0 z=>?_) λsh b0 z=>?_
 .go_wp2_with fail;exact eK lv.o z
 go_wp2;revert z;refine iB KN (λsi b0 z=>?_) λsj b0 z=>?_
 .go_wp2_with fail;revert z;refine bq ba.o λN6 uB EN z=>?_;go_wp2;revert z;refine bB λq4 z aD=>?_;refine cb 0 ?_;refine cb 1 ?_;refine cb 2 ?_;refine cb 3 ?_;refine cb 4 ?_;refine gw 5 λK ab=>?_;go_simp;revert z;refine bq bh.o λa21 uC I_ z=>?_;go_wp2;refine ab.o _ _ (jj z) λaD=>?_;refine gw 6 λK ab=>?_;go_simp;obtain⟨q5,EO,ag,aE,IU,z⟩:=mf N6 a21 z;rw[ag,aE];refine ab.o _ _ (o4 z) λaD=>?_;refine gw 7 λK ab=>?_;go_simp;revert z;refine bH λTS vC AG z=>?_;go_wp2;refine ab.o _ _ (jj z) λaD=>?_;refine cb 8 ?_;refine gz ?_;exact c_
 go_wp2;revert z;refine iB K8 (λyB b0 z=>?_) λvD b0 z=>?_
 .go_wp2_with fail;revert z;refine S' [aeJ,S9] (λyC b0 z=>?_) (λxp b0 z=>?_) af0
  .have c:=c' z;have z:=cl z;go_wp2;revert z;refine bH λE_ xq OO z=>?_;exact c_
  go_wp2;revert z;refine bB λyD z aD=>?_;refine cb 0 ?_;refine cb 1 ?_;refine cb 2 ?_;refine cb 3 ?_;refine gw 4 λK ab=>?_;go_simp;revert z;refine bq ba.o λCB xr OP z=>?_;go_wp2;refine ab.o _ _ (jj z) λaD=>?_;refine gw 5 λK ab=>?_;go_simp;obtain⟨yE,aox,ag,aE,anX,z⟩:=iE CB z;rw[ag,aE];refine ab.o _ _ (o4 z) λaD=>?_;refine gw 6 λK ab=>?_;go_simp;revert z;refine bH λahr yF aki z=>?_;go_wp2;refine ab.o _ _ (jj z) λaD=>?_;refine cb 7 ?_;refine gz ?_;exact c_
 go_wp2;revert z;refine iB K9 (λxt b0 z=>?_) λxu b0 z=>?_
 .have c:=c' z;have z:=cl z;go_wp2;revert z;refine bH λCu xv IP z=>?_;exact c_
 go_wp2;revert z;refine iB Pz (λyG b0 z=>?_) λAo b0 z=>?_
 .have c:=c' z;go_wp2;exact eK (NK.o _) z
 go_upto_region 23 with fail
 obtain⟨Ap,e,z⟩:=ch z;rw[e];go_cut[118] (λc dN=>c= .bool (B.hZ X s&&B.ht X s p8)/\dN=Ap.drew)
 case first=>
  have ea:=(c' z).1;have mX:B.hZ X s=(t.j'==1):=by unfold B.hZ;rw[gh.o]
  cases om:(t.j'==1) with
  |false=>
   refine lV (S:=λv=>v.cell? ⟨cw,0,none⟩=some (.int .i64 t.j')) cS (ea 0) λkC=>?_;refine aK 0 ?_;refine aK 1 ?_;refine aK 2 ?_;refine aK 3 ?_;refine dw 4 ?_;refine dw 5 ?_;refine dw 6 ?_;refine dw 7 ?_;refine dw 8 ?_;refine dw 9 ?_;refine dw 10 ?_;refine dw 11 ?_;refine dw 12 ?_;refine dw 13 ?_;refine dw 14 ?_;refine aK 15 ?_;refine aK 16 ?_;refine dw 17 ?_;refine dw 18 ?_;refine dw 19 ?_;refine dw 20 ?_;refine dw 21 ?_;refine dw 22 ?_;refine dw 23 ?_;refine dw 24 ?_;refine dw 25 ?_;refine dw 26 ?_;refine dw 27 ?_;refine dw 28 ?_;refine dw 29 ?_;refine aK 30 ?_;refine gz ?_;go_wp2;go_meet;exact⟨by rw[mX,om];rfl,rfl⟩
  |true=>
   by_cases bg:s.i+1<D X.bu
   .obtain⟨g,gc,ae,f1,f2,f3,f4,f5,f6,f7,f8⟩:=MC [58,61] z bg;cases a_:B.ht X s [58,61]<;>rw[a_] at f8
    all_goals
     refine lV (S:=λv=>v.cell? ⟨cw,0,none⟩=some (.int .i64 t.j')/\v.cell? ⟨p,1,none⟩=some (.slice (some ⟨g,0,none⟩) (D X.bu) gc)/\v.cell? ⟨p,2,none⟩=some (.int .i64 (s.i:Int))/\v.cell? ⟨g,(s.i+1)*4+1,none⟩=some (.string (str ae))) cS ⟨(ea 0),f5,f6,f7⟩ λkC=>?_;refine aK 0 ?_;refine aK 1 ?_;refine aK 2 ?_;refine aK 3 ?_;refine aK 4 ?_;refine aK 5 ?_;refine aK 6 ?_;refine aK 7 ?_;refine aK 8 ?_;refine aK 9 ?_;refine aK 10 ?_;refine aK 11 ?_;refine aK 12 ?_;refine aK 13 ?_;refine aK 14 ?_;refine aK 15 ?_;refine aK 16 ?_;refine aK 17 ?_;refine aK 18 ?_;refine aK 19 ?_;refine aK 20 ?_;refine aK 21 ?_;refine aK 22 ?_;refine aK 23 ?_;refine aK 24 ?_;refine aK 25 ?_;refine aK 26 ?_;refine aK 27 ?_;refine aK 28 ?_;refine aK 29 ?_;refine aK 30 ?_;refine gz ?_;go_wp2;go_meet;exact⟨congrArg Value.bool (by rw[mX,om,show B.ht X s p8=_ from a_]<;>rfl),rfl⟩
   obtain⟨bb,aQ,f1,f4,f5,f6,a_⟩:=MD [58,61] z bg;refine lV (S:=λv=>v.cell? ⟨cw,0,none⟩=some (.int .i64 t.j')/\v.cell? ⟨p,1,none⟩=some (bb,D X.bu,aQ)/\v.cell? ⟨p,2,none⟩=some (.int .i64 (s.i:Int))) cS ⟨(ea 0),f5,f6⟩ λkC=>?_;refine aK 0 ?_;refine aK 1 ?_;refine aK 2 ?_;refine aK 3 ?_;refine aK 4 ?_;refine aK 5 ?_;refine aK 6 ?_;refine aK 7 ?_;refine aK 8 ?_;refine aK 9 ?_;refine aK 10 ?_;refine aK 11 ?_;refine aK 12 ?_;refine aK 13 ?_;refine aK 14 ?_;refine aK 15 ?_;refine aK 16 ?_;refine dw 17 ?_;refine dw 18 ?_;refine dw 19 ?_;refine dw 20 ?_;refine dw 21 ?_;refine dw 22 ?_;refine dw 23 ?_;refine dw 24 ?_;refine dw 25 ?_;refine dw 26 ?_;refine dw 27 ?_;refine dw 28 ?_;refine dw 29 ?_;refine aK 30 ?_;refine gz ?_;go_wp2;go_meet;exact⟨congrArg Value.bool (by rw[mX,om,show B.ht X s p8=_ from a_]<;>rfl),rfl⟩
 case rest=>
  obtain⟨rfl,rfl⟩:=hcut;have z:=wh z;obtain⟨Cx,e,z⟩:=ch z;rw[e];cases G:(B.hZ X s&&B.ht X s p8) with
  |true=>
   have eV:Hid (B.ht X s p8=true):=A (by revert G;simp);have z:=dM (aS (by simpa using G)) z;obtain⟨b1,b2,bC,bG,cf⟩:=pc z;have f9:=ti eV z;go_wp2;have z:=Cl (Gh eV) z;obtain⟨Cy,e,z⟩:=ch z;rw[e];go_wp2;revert z;refine bB λB8 z aD=>?_;refine cb 0 ?_;refine cb 1 ?_;refine cb 2 ?_;refine cb 3 ?_;refine cb 4 ?_;refine cb 5 ?_;refine gw 6 λK ab=>?_;go_simp;revert z;refine bq ba.o λaft B9 Fu z=>?_;go_wp2;refine ab.o _ _ (jj z) λaD=>?_;refine gw 7 λK ab=>?_;go_simp;obtain⟨B_,aoB,ag,aE,ajL,z⟩:=iE aft z;rw[ag,aE];refine ab.o _ _ (o4 z) λaD=>?_;refine cb 8 ?_;refine gw 9 λK ab=>?_;go_simp;revert z;refine pu λxy Ca akk z=>?_;go_wp2;refine ab.o _ _ (jj z) λaD=>?_;refine cb 10 ?_;refine gz ?_;exact c_
  |false=>
   have z:=dM (ao (by simpa using G)) z;go_wp2;revert z;refine bq ba.o λN9 Cb Ez z=>?_;go_wp2;revert z;refine iB Bh (λCc b0 z=>?_) λCd b0 z=>?_
   .go_wp2_with fail;revert z;refine bB λCe z aD=>?_;refine cb 0 ?_;refine cb 1 ?_;refine cb 2 ?_;refine cb 3 ?_;refine cb 4 ?_;refine gw 5 λK ab=>?_;go_simp;revert z;refine bq ba.o λa49 Cf OR z=>?_;go_wp2;refine ab.o _ _ (jj z) λaD=>?_;refine gw 6 λK ab=>?_;go_simp;obtain⟨Cg,akc,ag,aE,ajN,z⟩:=mf N9 a49 z;rw[ag,aE];refine ab.o _ _ (o4 z) λaD=>?_;refine gw 7 λK ab=>?_;go_simp;revert z;refine bH λaht Ch OS z=>?_;go_wp2;refine ab.o _ _ (jj z) λaD=>?_;refine cb 8 ?_;refine gz ?_;exact c_
   go_wp2;revert z;refine iB l4 (λCi b0 z=>?_) λCj b0 z=>?_
   .go_wp2_with fail;revert z;refine bB λEA z aD=>?_;refine cb 0 ?_;refine cb 1 ?_;refine cb 2 ?_;refine cb 3 ?_;refine cb 4 ?_;refine gw 5 λK ab=>?_;go_simp;revert z;refine bq ba.o λOa IW Vs z=>?_;go_wp2;refine ab.o _ _ (jj z) λaD=>?_;refine gw 6 λK ab=>?_;go_simp;obtain⟨IX,aoF,ag,aE,an4,z⟩:=mf N9 Oa z;rw[ag,aE];refine ab.o _ _ (o4 z) λaD=>?_;refine gw 7 λK ab=>?_;go_simp;revert z;refine bH λamH IY ao3 z=>?_;go_wp2;refine ab.o _ _ (jj z) λaD=>?_;refine cb 8 ?_;refine gz ?_;exact c_
   have c:=c' z;go_wp2;obtain⟨IZ,aoG,ag,aE,an5,z⟩:=iE N9 z;rw[ag,aE];revert z;refine bH λahw I0 Vv z=>?_;exact c_
end
section
variable{N p:Nat}{w:ai}{X:B.Src}{S:ByteArray}{s:B.ak}{tv nv:af}{E:List (aP×af)}
def akx{wk}{val:List Nat->af}{pl bV cU L x}(g:B.ak->B.aV)(G:B.bw X s x=true)(h:Hid (aO N p X S w tv nv E val pl bV cU wk s L (g (B.bs s)))):Hid (aO N p X S w tv nv E val pl bV cU wk s L ((B.take X x s).M λ_ cm=>g cm)):=dM (by unfold B.take;rw[aS G];rfl) h
def W0(E':B.Rec)(ba:Hid (ed X S 179 (E' (.b6 0))))(bh:Hid (ed X S 105 (E' .block)))(lv:Hid (ed X S 181 (E' .branch))):gg X S 181 cD (B.oa X E'):=by
 intro N p w s tv nv E h aZ;have z:=cF cD h aZ (by unfold B.oa;exact rfl);go_in;have Go:=0;go_wp2;revert z;refine k0 qJ λw1 b0 z=>?_;generalize B.aM X s=t at z|-;go_wp2;revert z;refine bq ba.o λa2 w2 s2 z=>?_;go_wp2;revert z;refine bq bh.o λa3 bc aq z=>?_;have z:=Vi a2 a3 z;go_wp2;obtain⟨bS,e,z⟩:=ch z;rw[e];revert z;refine j2 vg (λbm b0 z=>?_) λb4 b0 z=>?_
 .go_upto_region 5 with fail
  obtain⟨b3,e,z⟩:=ch z;rw[e];go_cut[41] (λc dN=>c= .bool (B.ht X aq qJ)/\dN=b3.drew)
  case first=>
   by_cases bg:aq.i+1<D X.bu
   .obtain⟨g,gc,ae,f1,f2,f3,f4,f5,f6,f7,f8⟩:=MC [105,102] z bg;cases a_:B.ht X aq [105,102]<;>rw[a_] at f8
    all_goals
     refine lV (S:=λv=>v.cell? ⟨p,1,none⟩=some (.slice (some ⟨g,0,none⟩) (D X.bu) gc)/\v.cell? ⟨p,2,none⟩=some (.int .i64 (aq.i:Int))/\v.cell? ⟨g,(aq.i+1)*4+1,none⟩=some (.string (str ae))) cS ⟨f5,f6,f7⟩ λkC=>?_;refine aK 0 ?_;refine aK 1 ?_;refine aK 2 ?_;refine aK 3 ?_;refine aK 4 ?_;refine aK 5 ?_;refine aK 6 ?_;refine aK 7 ?_;refine aK 8 ?_;refine aK 9 ?_;refine aK 10 ?_;refine aK 11 ?_;refine aK 12 ?_;refine aK 13 ?_;refine aK 14 ?_;refine aK 15 ?_;refine aK 16 ?_;refine aK 17 ?_;refine aK 18 ?_;refine aK 19 ?_;refine aK 20 ?_;refine aK 21 ?_;refine aK 22 ?_;refine aK 23 ?_;refine aK 24 ?_;refine aK 25 ?_;refine gz ?_;go_wp2;go_meet;exact⟨congrArg Value.bool (by rw[show B.ht X aq qJ=_ from a_]<;>rfl),rfl⟩
   obtain⟨bb,aQ,f1,f4,f5,f6,a_⟩:=MD [105,102] z bg;refine lV (S:=λv=>v.cell? ⟨p,1,none⟩=some (bb,D X.bu,aQ)/\v.cell? ⟨p,2,none⟩=some (.int .i64 (aq.i:Int))) cS ⟨f5,f6⟩ λkC=>?_;refine aK 0 ?_;refine aK 1 ?_;refine aK 2 ?_;refine aK 3 ?_;refine aK 4 ?_;refine aK 5 ?_;refine aK 6 ?_;refine aK 7 ?_;refine aK 8 ?_;refine aK 9 ?_;refine aK 10 ?_;refine aK 11 ?_;refine dw 12 ?_;refine dw 13 ?_;refine dw 14 ?_;refine dw 15 ?_;refine dw 16 ?_;refine dw 17 ?_;refine dw 18 ?_;refine dw 19 ?_;refine dw 20 ?_;refine dw 21 ?_;refine dw 22 ?_;refine dw 23 ?_;refine dw 24 ?_;refine aK 25 ?_;refine gz ?_;go_wp2;go_meet;exact⟨congrArg Value.bool (by rw[show B.ht X aq qJ=_ from a_]<;>rfl),rfl⟩
  case rest=>
   obtain⟨rfl,rfl⟩:=hcut;have z:=wh z;obtain⟨a6,e,z⟩:=ch z;rw[e];cases G:(B.ht X aq qJ) with
   |true=>
    have eV:Hid (B.ht X aq qJ=true):=A (by revert G;simp);have z:=dM (aS (by simpa using G)) z;go_wp2;revert z;refine jB vg λcp b0 z=>?_;go_wp2;revert z;refine bq lv.o λMV gF Ct z=>?_;go_wp2_with(at_builtin;revert z;refine o_ MV (show[a2,a3].length<=1000000 by simp) λg11 al3 iP z=>?_;obtain⟨b1,b2,bC,bG,cf⟩:=pc z;have bB:=uM z;have z:=jD z)
    obtain⟨kp,e,z⟩:=ch z;rw[e];revert z;refine bH λqn mH xo z=>?_;exact c_
   |false=>
    have z:=dM (ao (by simpa using G)) z;go_wp2;have z:=akx (λcm=>(E' .block cm).M λe ha=>B.fL 22 t.an ([a2]++[a3]++e) ha) b0.o z;revert z;refine k0 vg λq3 ale z=>?_;go_wp2;revert z;refine bq bh.o λIT uA IS z=>?_;go_wp2_with(at_builtin;revert z;refine o_ IT (show[a2,a3].length<=1000000 by simp) λg16 S8 sh z=>?_)
    revert z;refine bH λTQ si IK z=>?_;exact c_
 go_wp2;revert z;refine bH λEI sj yA z=>?_;exact c_
def aa2(E':B.Rec)(ba:Hid (ed X S 179 (E' (.b6 0))))(Ja:Hid (ed X S 226 (B.kD X E'))):gg X S 209 cD (B.mz X E'):=by
 intro N p w s tv nv E h aZ;have z:=cF cD h aZ (by unfold B.mz;exact rfl);go_in;have Go:=0;go_wp2;revert z;refine kH λw1 z=>?_;generalize B.aM X s=t at z|-;go_wp2;obtain⟨w2,cw,ag,aE,l2,z⟩:=oN t z;rw[ag,aE];go_wp2;revert z;refine iB wB (λbc b0 z=>?_) λbS b0 z=>?_
 .go_wp2_with fail;revert z;refine bB λbm z aD=>?_;refine cb 0 ?_;refine cb 1 ?_;refine cb 2 ?_;refine cb 3 ?_;refine gw 4 λK ab=>?_;go_simp;revert z;refine bq Ja.o λrf b4 ha z=>?_;go_wp2;refine ab.o _ _ (jj z) λaD=>?_;refine gw 5 λK ab=>?_;go_simp;obtain⟨b3,na,ag,aE,ajP,z⟩:=iE rf z;rw[ag,aE];refine ab.o _ _ (o4 z) λaD=>?_;refine gw 6 λK ab=>?_;go_simp;revert z;refine bH λeY a6 ik z=>?_;go_wp2;refine ab.o _ _ (jj z) λaD=>?_;refine cb 7 ?_;refine gz ?_;exact c_
 go_wp2;revert z;refine k0 wo λcp b0 z=>?_;go_wp2;revert z;refine kH λgF z=>?_;generalize ax:B.aM X (B.bs s)=t2 at z|-;have DR:=A ax;clear ax;go_wp2;obtain⟨iP,Fw,ag,aE,U4,z⟩:=oN t2 z;rw[ag,aE];go_upto_region 6 with fail
 obtain⟨kp,e,z⟩:=ch z;rw[e];go_cut[53] (λc dN=>c= .bool (B.hZ X (B.bs s)&&B.ht X (B.bs s) p8)/\dN=kp.drew)
 case first=>
  have ea:=(c' z).1;have mX:B.hZ X (B.bs s)=(t2.j'==1):=by unfold B.hZ;rw[DR.o]
  cases om:(t2.j'==1) with
  |false=>
   refine lV (S:=λv=>v.cell? ⟨Fw,0,none⟩=some (.int .i64 t2.j')) cS (ea 0) λkC=>?_;refine aK 0 ?_;refine aK 1 ?_;refine aK 2 ?_;refine aK 3 ?_;refine dw 4 ?_;refine dw 5 ?_;refine dw 6 ?_;refine dw 7 ?_;refine dw 8 ?_;refine dw 9 ?_;refine dw 10 ?_;refine dw 11 ?_;refine dw 12 ?_;refine dw 13 ?_;refine dw 14 ?_;refine aK 15 ?_;refine aK 16 ?_;refine dw 17 ?_;refine dw 18 ?_;refine dw 19 ?_;refine dw 20 ?_;refine dw 21 ?_;refine dw 22 ?_;refine dw 23 ?_;refine dw 24 ?_;refine dw 25 ?_;refine dw 26 ?_;refine dw 27 ?_;refine dw 28 ?_;refine dw 29 ?_;refine aK 30 ?_;refine gz ?_;go_wp2;go_meet;exact⟨by rw[mX,om];rfl,rfl⟩
  |true=>
   by_cases bg:(B.bs s).i+1<D X.bu
   .obtain⟨g,gc,ae,f1,f2,f3,f4,f5,f6,f7,f8⟩:=MC [58,61] z bg;cases a_:B.ht X (B.bs s) [58,61]<;>rw[a_] at f8
    all_goals
     refine lV (S:=λv=>v.cell? ⟨Fw,0,none⟩=some (.int .i64 t2.j')/\v.cell? ⟨p,1,none⟩=some (.slice (some ⟨g,0,none⟩) (D X.bu) gc)/\v.cell? ⟨p,2,none⟩=some (.int .i64 ((B.bs s).i:Int))/\v.cell? ⟨g,((B.bs s).i+1)*4+1,none⟩=some (.string (str ae))) cS ⟨(ea 0),f5,f6,f7⟩ λkC=>?_;refine aK 0 ?_;refine aK 1 ?_;refine aK 2 ?_;refine aK 3 ?_;refine aK 4 ?_;refine aK 5 ?_;refine aK 6 ?_;refine aK 7 ?_;refine aK 8 ?_;refine aK 9 ?_;refine aK 10 ?_;refine aK 11 ?_;refine aK 12 ?_;refine aK 13 ?_;refine aK 14 ?_;refine aK 15 ?_;refine aK 16 ?_;refine aK 17 ?_;refine aK 18 ?_;refine aK 19 ?_;refine aK 20 ?_;refine aK 21 ?_;refine aK 22 ?_;refine aK 23 ?_;refine aK 24 ?_;refine aK 25 ?_;refine aK 26 ?_;refine aK 27 ?_;refine aK 28 ?_;refine aK 29 ?_;refine aK 30 ?_;refine gz ?_;go_wp2;go_meet;exact⟨congrArg Value.bool (by rw[mX,om,show B.ht X (B.bs s) p8=_ from a_]<;>rfl),rfl⟩
   obtain⟨bb,aQ,f1,f4,f5,f6,a_⟩:=MD [58,61] z bg;refine lV (S:=λv=>v.cell? ⟨Fw,0,none⟩=some (.int .i64 t2.j')/\v.cell? ⟨p,1,none⟩=some (bb,D X.bu,aQ)/\v.cell? ⟨p,2,none⟩=some (.int .i64 ((B.bs s).i:Int))) cS ⟨(ea 0),f5,f6⟩ λkC=>?_;refine aK 0 ?_;refine aK 1 ?_;refine aK 2 ?_;refine aK 3 ?_;refine aK 4 ?_;refine aK 5 ?_;refine aK 6 ?_;refine aK 7 ?_;refine aK 8 ?_;refine aK 9 ?_;refine aK 10 ?_;refine aK 11 ?_;refine aK 12 ?_;refine aK 13 ?_;refine aK 14 ?_;refine aK 15 ?_;refine aK 16 ?_;refine dw 17 ?_;refine dw 18 ?_;refine dw 19 ?_;refine dw 20 ?_;refine dw 21 ?_;refine dw 22 ?_;refine dw 23 ?_;refine dw 24 ?_;refine dw 25 ?_;refine dw 26 ?_;refine dw 27 ?_;refine dw 28 ?_;refine dw 29 ?_;refine aK 30 ?_;refine gz ?_;go_wp2;go_meet;exact⟨congrArg Value.bool (by rw[mX,om,show B.ht X (B.bs s) p8=_ from a_]<;>rfl),rfl⟩
 case rest=>
  obtain⟨rfl,rfl⟩:=hcut;have z:=wh z;obtain⟨mH,e,z⟩:=ch z;rw[e];cases G:(B.hZ X (B.bs s)&&B.ht X (B.bs s) p8) with
  |true=>
   have eV:Hid (B.ht X (B.bs s) p8=true):=A (by revert G;simp);have z:=dM (aS (by simpa using G)) z;obtain⟨b1,b2,bC,bG,cf⟩:=pc z;have f9:=ti eV z;go_wp2;have z:=Cl (Gh eV) z;obtain⟨q3,e,z⟩:=ch z;rw[e];go_wp2;revert z;refine k0 l4 λuA b0 z=>?_;go_wp2;revert z;refine bq ba.o λMZ sh IM z=>?_;go_wp2;revert z;refine bB λsi z aD=>?_;refine cb 0 ?_;refine cb 1 ?_;refine cb 2 ?_;refine cb 3 ?_;refine cb 4 ?_;refine cb 5 ?_;refine cb 6 ?_;refine gw 7 λK ab=>?_;go_simp;revert z;refine bq Ja.o λafp sj yA z=>?_;go_wp2;refine ab.o _ _ (jj z) λaD=>?_;refine gw 8 λK ab=>?_;go_simp;obtain⟨uB,IL,ag,aE,ajJ,z⟩:=mf MZ afp z;rw[ag,aE];refine ab.o _ _ (o4 z) λaD=>?_;refine cb 9 ?_;refine gw 10 λK ab=>?_;go_simp;revert z;refine pu λTR q4 EF z=>?_;go_wp2;refine ab.o _ _ (jj z) λaD=>?_;refine cb 11 ?_;refine gz ?_;exact c_
  |false=>
   have z:=dM (ao (by simpa using G)) z;go_wp2;revert z;refine iB l4 (λuC b0 z=>?_) λq5 b0 z=>?_
   .have d0:=c' z;have z:=lM 1 (.string ⟨#[]⟩) z;go_wp2;obtain⟨vC,e,z⟩:=ch z;rw[e];revert z;refine bq ba.o λa24 yB akg z=>?_;go_wp2;revert z;refine bB λvD z aD=>?_;refine cb 0 ?_;refine cb 1 ?_;refine cb 2 ?_;refine cb 3 ?_;refine cb 4 ?_;refine cb 5 ?_;refine cb 6 ?_;refine gw 7 λK ab=>?_;go_simp;revert z;refine bq Ja.o λN7 yC akh z=>?_;go_wp2;refine ab.o _ _ (jj z) λaD=>?_;refine gw 8 λK ab=>?_;go_simp;obtain⟨xp,aj_,ag,aE,ajK,z⟩:=mf a24 N7 z;rw[ag,aE];refine ab.o _ _ (o4 z) λaD=>?_;refine cb 9 ?_;refine gw 10 λK ab=>?_;go_simp;revert z;refine pu λE_ xq OO z=>?_;go_wp2;refine ab.o _ _ (jj z) λaD=>?_;refine cb 11 ?_;refine gz ?_;exact c_
   go_wp2;revert z;refine bq ba.o λN8 yD Jb z=>?_;go_wp2;revert z;refine k0 l4 λxr b0 z=>?_;go_wp2;revert z;refine bq ba.o λa31 yE EK z=>?_;go_wp2;revert z;refine bB λyF z aD=>?_;refine cb 0 ?_;refine cb 1 ?_;refine cb 2 ?_;refine cb 3 ?_;refine cb 4 ?_;refine cb 5 ?_;refine gw 6 λK ab=>?_;go_simp;revert z;refine bq Ja.o λJc xt Vp z=>?_;go_wp2;refine ab.o _ _ (jj z) λaD=>?_;refine gw 7 λK ab=>?_;go_simp;obtain⟨xu,aoz,ag,aE,anZ,z⟩:=MW N8 a31 Jc z;rw[ag,aE];refine ab.o _ _ (o4 z) λaD=>?_;refine gw 8 λK ab=>?_;go_simp;revert z;refine bH λCu xv IP z=>?_;go_wp2;refine ab.o _ _ (jj z) λaD=>?_;refine cb 9 ?_;refine gz ?_;exact c_
end
end Go.Proofs.YtjfkhpkicioakaaGreatDoor
