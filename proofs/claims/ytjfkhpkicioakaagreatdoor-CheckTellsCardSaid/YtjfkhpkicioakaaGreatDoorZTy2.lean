/- PROVED HERE: the types of both, walked. No condition. -/
import Derived.Test.YtjfkhpkicioakaaGreatDoorZLx1
import Derived.Test.YtjfkhpkicioakaaGreatDoorZTy1
import Derived.Test.YtjfkhpkicioakaaGreatDoorZPs1
set_option maxRecDepth 100000
set_option maxHeartbeats 60000000
set_option linter.all false
open Go renaming Value->af,World->ai,maxLen->dc
open Go.Calls renaming quiet_of_same->Dk
open Go.Instr renaming lookup->vz
open Go.Proofs.Tryz renaming underlying44->rO,underlying79->GO,zeroValue3->rP
open Go.RowKit renaming Below->aL
open Go.Value renaming string->mm
open Go.World renaming alloc->aA
open List renaming getD->Y,length->D
open Go.Proofs.YtjfkhpkicioakaaGreatDoor.B hiding fail
open Go.Proofs.Tryz
namespace Go.Proofs.YtjfkhpkicioakaaGreatDoor
open Go.RowKit
def db.new(w:ai)(l:List (List UInt8))(hl:D l<=100):db w.heap.size (aA w (.cells (l.map λx=>mm (str x)).toArray 9)) (w,D l,D l) l:=
 ⟨by simp,.inr ⟨_,_,_,rfl,bD _,ek _ _,bD _,by unfold dc;omega,by simp,by rw[Nat.mul_one];exact u7 bT⟩⟩
def GP (w:ai)(i:FuncId)(cs:Array af)(p:List UInt8->Bool):Prop:=
 (∀args w,(callFunc i args).run prog w= .ok (.enter i args) w)/\ ∀(x:List UInt8) (y:ai),aL w w y->aY i (#[.string (str x)]++cs) y λe w'=>e= .returned (.bool (p x))/\aL y y w'
def acy{l}{p:List UInt8->Bool}{k}(U:k<D l)(h:p (Y l k [])=true):l.any p=true:=by rw[cd,cE U] at h;exact List.any_eq_true.2 ⟨l[k],im U,h⟩
def aaS{l}{p:List UInt8->Bool}{k}(U:k<D l)(aH:(l.take k).any p=false)(h:p (Y l k [])=false):(l.take (k+1)).any p=false:=by rw[F' U,List.any_append,aH];simpa using h
section
variable{N:Nat}{w:ai}{u:af}{l:List (List UInt8)}
def aaT(i:FuncId)(cs:Array af)(p:List UInt8->Bool)(hl:db N w u l)(aI:GP w i cs p):aY 214 #[u,.func (.func i) #[] cs] w (Ku (l.any p) w):=by
 obtain⟨bb,aQ,rfl⟩:=eR hl rfl;have hm:=hl.max;have cZ:=A hl;have ae2:=aI.1;have dj:=A aI.2;clear hl aI;go_in;go_wp2;go_loopw[8] (λi wr=>Hid (aL w w wr)/\ ∃k:Nat,k<=D l/\i= k/\Hid ((l.take k).any p=false)) (λi _=>D l-(intOf i).toNat)
 case atStart=>exact⟨A (aT _ _),0,by omega,rfl,A bT⟩
 case round=>
  obtain⟨bh,k,U,rfl,yQ⟩:=hrel;by_cases l8:k<D l
  .have Rv:Hid (db N wr (bb,D l,aQ) l):=A (fZ cZ.o bh.o λk U=>(eI cZ.o k U).2);obtain⟨g,cap,aB⟩:=dR Rv.o J;cases aB;have bE:=h3 Rv.o rfl l8;have hit:=A (λh:p (Y l k [])=true=>acy l8 h);have DG:=A (λh:p (Y l k [])=false=>aaS l8 yQ.o h);generalize Y l k []=x at*;have⟨b1,b2⟩:(0:Int)<=k/\(k:Int)<D l:=J;have vM:=A (dj.o x wr bh.o);cases aJ:p x with
   |true=>
    rw[aJ] at vM;have hJ:=A (hit.o aJ);go_wp2_with(refine vM.o.mono ?_;rintro e bm ⟨rfl,dh⟩;have dn:=A dh;clear dh)
    go_returns;exact⟨⟨k,rfl,by rw[hJ.o];simp⟩,bh.o.trans (dn.o.mono bh.o.size)⟩
   |false=>
    rw[aJ] at vM;have hJ:=A (DG.o aJ);go_wp2_with(refine vM.o.mono ?_;rintro e bm ⟨rfl,dh⟩;have dn:=A dh;clear dh)
    go_roundw
    case rel=>exact⟨A (bh.o.trans (dn.o.mono bh.o.size)),k+1,by omega,by go_num,hJ⟩
    case measure=>simp[intOf];omega
  .obtain rfl:k=D l:=J;have hJ:Hid (l.any p=false):=A (by have:=yQ.o;rwa[mM] at this);go_wp2;go_returns;exact⟨⟨-1,rfl,by rw[hJ.o];rfl⟩,bh.o⟩
def Ox(i:FuncId)(cs:Array af)(p:List UInt8->Bool)(hl:db N w u l)(aI:GP w i cs p):aY 189 #[u,.func (.func i) #[] cs] w λe w'=>e= .returned (.bool (l.any p))/\aL w w w':=by
 have dA:=A (aaT i cs p hl aI);obtain⟨bb,aQ,rfl⟩:=eR hl rfl;go_in;go_wp2_with(go_at_call 214;refine dA.o.mono ?_;rintro e bm ⟨⟨n,rfl,ax⟩,dh⟩;have dn:=A dh;have DP:=A ax;clear dh ax)
 go_returns;rw[<-DP.o];exact⟨by simp,dn.o⟩
end
def Gl(s p:List UInt8):p.isPrefixOf s=cv s p:=by
 unfold cv;rw[qB,List.isPrefixOf_iff_prefix,List.prefix_iff_eq_take,pv,decide_eq_true_iff,beq_iff_eq];constructor
 .intro h;refine⟨?_,h.symm⟩;have:=congrArg List.length h;rw[mr] at this;omega
 .rintro⟨_,h⟩;exact h.symm
def zn(s p:List UInt8)(w:ai):aY 89 #[s,p] w λe w'=>e= .returned (.bool (cv s p))/\w'=w:=by rw[<-Gl];exact strings_HasPrefix (str s) (str p) w
def Qu(s:List UInt8)(w:ai):aY 161 #[s,.string ⟨#[42]⟩] w λe w'=>e= .returned [if cv s [42] then s.drop 1 else s]/\w'=w:=by
 refine b7 (strings_TrimPrefix (str s) ⟨#[42]⟩ w) ?_;rintro w' rfl;refine⟨?_,rfl⟩;have h:Lib.trimPrefix s [42]=if cv s [42] then s.drop 1 else s:=by
  unfold Lib.trimPrefix Lib.hasPrefix;rw[Gl];rfl
 rw[<-h];rfl
def sY (L:List aP)(typ:List UInt8):List (List UInt8):=if(decide (0<=c7 L 12 typ)||cv typ [42])=true then fw (gv L typ) else[]
section
variable{L:List aP}{w0:ai}{v:af}{b1 b2 bC tp dq cR n3 k:Nat}{m3:List UInt8->Option af}{w:ai}
def fO.drewN{m1 m2:List UInt8->Option af}{c2:List UInt8->List (List UInt8)}(h:fO w0 v b1 b2 bC tp dq cR n3 m1 m2 m3 c2 w)(n):fO w0 v b1 b2 bC tp dq cR n3 m1 m2 m3 c2 (w.drewN n):=h.below (rh (aT _ _) n)
def Ge(U:k=D L)(h:fO w0 v b1 b2 bC tp dq cR n3 (fk L 10 k) (fk L 12 k) m3 (λt=>fw (gv L t)) w){typ}(bI:D typ<=dc):
  aY 191 #[(tp,0),typ] w λe w'=>(∃u,e= .returned u/\db w0.heap.size w u (sY L typ))/\w'=w:=by
 subst U;have t2:=az h.gB 2;have t3:=az h.gB 3;have eK:=bd h.gB;simp only[cO,cQ,c8] at t2 t3;have cK:=h.s2.qK rO (rP w) bI;have c3:=h.aq.1.Lj GO (zeroValue22 w) bI;have cP:=A (h.aq.at typ);rw[wy] at cK;have d_:Hid (sY L typ=if(decide (0<=c7 L 12 typ)||cv typ [42])=true then fw (gv L typ) else[]):=A rfl;generalize(fk L 12 (D L) typ).getD (0:Int)=ew at*;generalize decide (0<=c7 L 12 typ)=rQ at*;generalize(m3 typ).getD (.slice none 0 0)=il at*;have cV:=A (zn typ [42] w);generalize cv typ [42]=V at*;clear h;cases rQ with
 |true=>
  go_in;go_wp2;go_returns;exact⟨⟨_,rfl,by rw[d_.o];exact cP.o⟩,rfl⟩
 |false=>
  cases V with
  |true=>
   go_in;go_wp2_with fail;refine cV.o.mono ?_;rintro e w1 ⟨rfl,rfl⟩;go_wp2;go_returns;exact⟨⟨_,rfl,by rw[d_.o];exact cP.o⟩,rfl⟩
  |false=>
   go_in;go_wp2_with fail;refine cV.o.mono ?_;rintro e w1 ⟨rfl,rfl⟩;go_wp2;go_returns;exact⟨⟨_,rfl,by rw[d_.o];exact n7 _ _ _ _⟩,rfl⟩
end
def adQ{w:ai}{q:Nat}{ty:List UInt8}(h:w.heap[q]?=some (.cells #[ty] 9 (0,0))):GP w 190 #[(q,0)] (cv ty):=by
 refine⟨λ_ _=>by kernel_rfl,λx y G=>?_⟩;have c:=az (ds h G (bd h)) 0;simp only[cO,cQ] at c;go_in;go_wp2_with(go_at_call 89;refine(zn ty x _).mono ?_;rintro e w1 ⟨rfl,rfl⟩)
 go_returns;exact⟨rfl,aT _ _⟩
def acn{N w u l}(h:db N w u l)(x):aY 136 #[u,.string (str x)] w λe w'=>e= .returned (.bool (l.any λb=>b==x))/\w'=w:=by
 have hm:=h.max;obtain aH|aH:=Nat.eq_zero_or_pos (D l)
 .obtain⟨a,c,rfl⟩:=eR h rfl;rw[aH,List.length_eq_zero_iff.1 aH];exact slices_Contains_string_empty a c (str x) w
 .obtain⟨g,c,rfl⟩:=dR h aH;refine(slices_Contains_string g 0 (D l) c (l.map str) (str x) w bT J (λj bg=>?_)).mono ?_
  .rw[h2] at bg;rw[Nat.zero_add,h3 h rfl bg];simp[cd,cE bg]
  .rintro e w' ⟨rfl,rfl⟩;refine⟨?_,rfl⟩;rw[u7 bT,Ji]
   congr 2
   unfold hasB;rw[qB,List.contains_iff_mem,List.any_eq_true];exact⟨λh=>⟨x,h,by simp⟩,λ⟨b,G,e⟩=>by rw[eq_of_beq e] at G;exact G⟩
def RM{w:ai}{q N:Nat}{u:af}{l:List (List UInt8)}(h:w.heap[q]?=some (.cells #[u] 22 (0,0)))(hu:db N w u l):GP w 192 #[(q,0)] (λx=>!(l.any λb=>b==x)):=by
 refine⟨λ_ _=>by kernel_rfl,λx y G=>?_⟩;have c:=az (ds h G (bd h)) 0;simp only[cO,cQ] at c;have cV:=A (acn (fZ hu G λk U=>(eI hu k U).2) x);obtain⟨a,dL,rfl⟩:=eR hu rfl;go_in;go_wp2_with(go_at_call 136;refine cV.o.mono ?_;rintro e w1 ⟨rfl,rfl⟩)
 go_returns;exact⟨rfl,aT _ _⟩
section
variable{L:List aP}{w0:ai}{v:af}{b1 b2 bC tp dq cR n3 k:Nat}{m3:List UInt8->Option af}{w:ai}
def RN{l l2:List (List UInt8)}:(!(l2.any λa=>!(l.any λb=>b==a)))=l2.all λa=>l.any λb=>b==a:=by rw[List.not_any_eq_all_not];simp
def aa'(U:k=D L)(h:fO w0 v b1 b2 bC tp dq cR n3 (fk L 10 k) (fk L 12 k) m3 (λt=>fw (gv L t)) w){fr ty}(AJ:D fr<=dc)(ql:D ty<=dc):
  aY 162 #[(tp,0),fr,ty] w λe w'=>e= .returned (.bool (fS L fr ty))/\aL w w w':=by
 have EV:=A h;have bK:=A U;have c1:Hid (aL w w (aA w (aw #[.string (str ty)] 9))):=A ((aT _ _).alloc (bD _) _);have Ef:=A (ek w (aw #[.string (str ty)] 9));have h':=A (h.alloc (aw #[.string (str ty)] 9));have AL:Hid (∀(n:Nat) (s:List UInt8) (x:ai),D s<=dc->aL w w x->(vz 44 (.map (some b2)) (.string (str s)) true).run prog (x.drewN n)= .ok (.tuple #[(fk L 12 k s).getD (.int .i64 0),.bool (decide (0<=c7 L 12 s))]) (x.drewN n)):=A λn s x hs G=>by
  rw[<-wy,<-bK.o];exact((EV.o.below G).drewN n).s2.qK rO (rP _) hs
 have YY:Hid (∀(n:Nat) (s:List UInt8) (x:ai),D s<=dc->aL w w x->(vz 44 (.map (some b1)) (.string (str s)) true).run prog (x.drewN n)= .ok (.tuple #[(fk L 10 k s).getD (.int .i64 0),.bool (decide (0<=c7 L 10 s))]) (x.drewN n)):=A λn s x hs G=>by
  rw[<-wy,<-bK.o];exact((EV.o.below G).drewN n).s1.qK rO (rP _) hs
 clear h U;have bq:=λn=>AL.o n ty _ ql c1.o;have L9:w.heap.size<(aA w (aw #[.string (str ty)] 9)).heap.size:=bT;generalize fp:aA w (aw #[.string (str ty)] 9)=w1 at*;have t1:=az h'.o.gB 1;have t2:=az h'.o.gB 2;have eK:=bd h'.o.gB;have b':=az Ef.o 0;simp only[cO,cQ,c8] at t1 t2 b';go_in;have Go:=0;go_wp2;clear fp;go_quiet (fail)
 clear bq t1 t2 eK b' L9;have pN:Hid ((w1.drewN nq).heap[w.heap.size]?=some (.cells #[.string (str ty)] 9 (0,0))):=Ef;have cN:=A (rh c1.o nq);have l_:=A (h'.o.drewN nq);generalize w1.drewN nq=w2 at*;clear Ef c1 h';obtain⟨ea,oz⟩: ∃bp,w.heap.size=bp:=⟨_,rfl⟩;have NV:Hid (w2.heap[ea]?=some (.cells #[.string (str ty)] 9 (0,0))):=A (by rw[<-oz];exact pN.o);rw[oz];clear oz pN;have b':=az NV.o 0;have t1:=az l_.o.gB 1;have t2:=az l_.o.gB 2;have eK:=bd l_.o.gB;simp only[cO,cQ,c8] at t1 t2 b';have dj:Hid (fS L fr ty=if fr=ty then true else if fr=iK then cv ty [42]||cv ty [99,104,97,110,32]||cv ty [102,117,110,99,40]||decide (0<=c7 L 12 ty) else if c7 L 12 ty<0 then false else if c7 L 12 fr<0/\(cv fr [42]=false\/c7 L 10 (fr.drop 1)<0) then false else GG L fr ty):=A rfl;generalize(fk L 12 k ty).getD (.int .i64 0)=V1 at*;have dA:Hid (c7 L 12 ty<0↔ ¬decide (0<=c7 L 12 ty)=true):=A bT;generalize Uj:decide (0<=c7 L 12 ty)=z6 at*;cases bZ:((str fr).toList==(str ty).toList) with
 |true=>
  have cP:Hid (fS L fr ty=true):=A (by rw[mR,beq_iff_eq] at bZ;rw[dj.o,aS bZ]);go_wp2;go_returns;exact⟨by rw[cP.o];rfl,cN.o⟩
 |false=>
  have aZ: ¬fr=ty:=by rw[mR] at bZ;simpa using bZ
  replace dj:=A (dj.o.trans (ao aZ));clear aZ;cases hN:((str fr).toList==[110,105,108]) with
  |true=>
   have jK:fr=iK:=(by rw[nil_eq,beq_iff_eq] at hN;exact hN);replace dj:=A (dj.o.trans (aS jK));clear jK;cases z6 with
   |true=>
    have cP:Hid (fS L fr ty=true):=A (by rw[dj.o,Bool.or_true]);go_wp2;go_returns;exact⟨by rw[cP.o];rfl,cN.o⟩
   |false=>
    have cz:Hid (∀o,aL w2 w2 (aA w2 o)):=A λo=>(aT _ _).alloc (bD _) o;have cV:=A (Ox 190 #[.pointer (some ⟨ea,0,none⟩)] (cv ty) (db.new w2 [[42],[99,104,97,110,32],[102,117,110,99,40]] aN) (adQ (hO NV.o _)));have cP:Hid (fS L fr ty=(cv ty [42]||(cv ty [99,104,97,110,32]||cv ty [102,117,110,99,40]))):=A (by rw[dj.o,Bool.or_false,Bool.or_assoc]);go_wp2;refine cV.o.mono ?_;rintro e bc ⟨rfl,e0⟩;have fu:=A (cN.o.trans (((cz.o _).trans (e0.mono bT)).mono cN.o.size));clear e0;go_wp2;go_returns;exact⟨by rw[cP.o];rfl,fu.o⟩
  |false=>
   have jK: ¬fr=iK:=(by rw[nil_eq] at hN;simpa using hN);replace dj:=A (dj.o.trans (ao jK));clear jK;have k4:D (if cv fr [42]=true then fr.drop 1 else fr)<=dc:=by
    split
    .rw[qA];omega
    .exact AJ
   have cs:=λn=>YY.o n _ w2 k4 cN.o;have cY:=λn=>AL.o n fr w2 AJ cN.o;have w7:=A (Qu fr);have uE:=A (zn fr [42]);have HW:(z6=false/\Hid (fS L fr ty=false))\/(z6=true/\decide (0<=c7 L 12 fr)=false/\decide (0<=c7 L 10 (if cv fr [42]=true then fr.drop 1 else fr))=false/\Hid (fS L fr ty=false))\/(z6=true/\decide (0<=c7 L 12 fr)=false/\decide (0<=c7 L 10 (if cv fr [42]=true then fr.drop 1 else fr))=true/\cv fr [42]=false/\Hid (fS L fr ty=false))\/
     ((z6=true/\decide (0<=c7 L 12 fr)=true\/z6=true/\decide (0<=c7 L 12 fr)=false/\decide (0<=c7 L 10 (if cv fr [42]=true then fr.drop 1 else fr))=true/\cv fr [42]=true)/\Hid (fS L fr ty=GG L fr ty)/\Hid (sY L fr=fw (gv L fr))/\Hid (sY L ty=fw (gv L ty))):=by
    cases hit:z6 with
    |false=>exact .inl ⟨rfl,A (by rw[dj.o,aS (dA.o.2 (by rw[hit];decide))])⟩
    |true=>
     have en:=dj.o.trans (ao (λh=>by have:=dA.o.1 h;rw[hit] at this;exact this rfl));have UL:sY L ty=fw (gv L ty):=(by unfold sY;rw[Uj,hit,Bool.true_or,aS rfl]);by_cases R:0<=c7 L 12 fr
     .have bB:decide (0<=c7 L 12 fr)=true:=(by simpa using R);exact .inr (.inr (.inr ⟨.inl ⟨rfl,bB⟩,A (by rw[en,ao J]),A (by unfold sY;rw[bB,Bool.true_or,aS rfl]),A UL⟩))
     .have bB:decide (0<=c7 L 12 fr)=false:=(by simpa using R);cases G:cv fr [42] with
      |false=>
       have cP:=en.trans (aS ⟨by omega,.inl G⟩);rw[ao aN];cases hs:decide (0<=c7 L 10 fr) with
       |false=>exact .inr (.inl ⟨rfl,bB,rfl,A cP⟩)
       |true=>exact .inr (.inr (.inl ⟨rfl,bB,rfl,rfl,A cP⟩))
      |true=>
       rw[aS rfl];by_cases hs:0<=c7 L 10 (fr.drop 1)
       .have NW:decide (0<=c7 L 10 (fr.drop 1))=true:=(by simpa using hs);exact .inr (.inr (.inr ⟨.inr ⟨rfl,bB,NW,rfl⟩,A (en.trans (ao (λh=>h.2.elim (λh=>by rw[G] at h;cases h) (λh=>by omega)))),A (by unfold sY;rw[G,Bool.or_true,aS rfl]),A UL⟩))
       .have NW:decide (0<=c7 L 10 (fr.drop 1))=false:=(by simpa using hs);exact .inr (.inl ⟨rfl,bB,NW,A (en.trans (aS ⟨by omega,.inr J⟩))⟩)
   clear dA dj Uj;generalize(fk L 12 k fr).getD (.int .i64 0)=V2 at*;generalize decide (0<=c7 L 12 fr)=FI at*;generalize(if cv fr [42]=true then fr.drop 1 else fr)=tf at*;generalize(fk L 10 k tf).getD (.int .i64 0)=V3 at*;generalize decide (0<=c7 L 10 tf)=fR at*;generalize cv fr [42]=V at*;go_wp2;go_quiet ((go_at_call 161;exact Dk (w7.o _)))
   obtain⟨rfl,cP⟩|⟨rfl,rfl,rfl,cP⟩|⟨rfl,rfl,rfl,rfl,cP⟩|⟨wR,cP,xz,IH⟩:=HW
   .go_wp2;go_returns;exact⟨by rw[cP.o];rfl,rh cN.o _⟩
   .go_wp2;go_returns;exact⟨by rw[cP.o];rfl,rh cN.o _⟩
   .go_wp2_with fail;refine b7 (uE.o _) ?_;rintro bc rfl;go_wp2;go_returns;exact⟨by rw[cP.o];rfl,rh cN.o _⟩
   .have nz:=A (l_.o.drewN nq);have fu:=A (rh cN.o nq);have qY:Hid ((w2.drewN nq).heap[ea]?=some (.cells #[.string (str ty)] 9 (0,0))):=NV;have amZ:=cY nq;clear b' t1 t2 eK cs cY;generalize w2.drewN nq=bc at*;have t2:=az nz.o.gB 2;have eK:=bd nz.o.gB;have b':=az qY.o 0;have b9:=bd qY.o;simp only[cO,cQ,c8] at t2 b';obtain⟨rfl,rfl⟩|⟨rfl,rfl,rfl,rfl⟩:=wR
    .go_wp2_with fail;refine(Ge bK.o nz.o AJ).mono ?_;rintro e cp ⟨⟨u,rfl,hu⟩,gW⟩;obtain rfl:bc=cp:=gW.symm;rw[xz.o] at hu;obtain⟨bb,aQ,rfl⟩:=eR hu rfl;have ia:=A hu;clear hu;go_wp2;have Za:=A (hO qY.o (aw #[.slice bb (D (fw (gv L fr))) aQ] 22));have NX:=A (ek bc (aw #[.slice bb (D (fw (gv L fr))) aQ] 22));have pg:=A (nz.o.alloc (aw #[.slice bb (D (fw (gv L fr))) aQ] 22));have iO:=A (fu.o.trans (((aT bc bc).alloc (bD _) (aw #[.slice bb (D (fw (gv L fr))) aQ] 22)).mono fu.o.size));have NY:Hid (db w0.heap.size (aA bc (aw #[.slice bb (D (fw (gv L fr))) aQ] 22)) (.slice bb (D (fw (gv L fr))) aQ) (fw (gv L fr))):=A (sD ia.o _);generalize(aA bc (aw #[.slice bb (D (fw (gv L fr))) aQ] 22))=bS at*;refine(Ge bK.o pg.o ql).mono ?_;rintro e cp ⟨⟨u,rfl,hu⟩,gW⟩;obtain rfl:bS=cp:=gW.symm;rw[IH.o] at hu;obtain⟨gM,Aj,rfl⟩:=eR hu rfl;have cV:=A (Ox 192 #[.pointer (some ⟨bc.heap.size,0,none⟩)] _ hu (RM NX.o NY.o));clear hu;have lr:Hid (fS L fr ty=!((fw (gv L ty)).any λx=>!((fw (gv L fr)).any λb=>b==x))):=A (by rw[RN,cP.o];rfl);go_wp2;refine cV.o.mono ?_;rintro e bm ⟨rfl,dh⟩;have dn:=A (iO.o.trans (dh.mono iO.o.size));clear dh;go_wp2;go_returns;exact⟨by rw[lr.o];rfl,dn.o⟩
    .go_wp2_with fail;refine b7 (uE.o _) λcp gW=>?_;obtain rfl:bc=cp:=gW.symm;go_wp2;refine(Ge bK.o nz.o AJ).mono ?_;rintro e cp ⟨⟨u,rfl,hu⟩,gW⟩;obtain rfl:bc=cp:=gW.symm;rw[xz.o] at hu;obtain⟨bb,aQ,rfl⟩:=eR hu rfl;have ia:=A hu;clear hu;go_wp2;have Za:=A (hO qY.o (aw #[.slice bb (D (fw (gv L fr))) aQ] 22));have NX:=A (ek bc (aw #[.slice bb (D (fw (gv L fr))) aQ] 22));have pg:=A (nz.o.alloc (aw #[.slice bb (D (fw (gv L fr))) aQ] 22));have iO:=A (fu.o.trans (((aT bc bc).alloc (bD _) (aw #[.slice bb (D (fw (gv L fr))) aQ] 22)).mono fu.o.size));have NY:Hid (db w0.heap.size (aA bc (aw #[.slice bb (D (fw (gv L fr))) aQ] 22)) (.slice bb (D (fw (gv L fr))) aQ) (fw (gv L fr))):=A (sD ia.o _);generalize(aA bc (aw #[.slice bb (D (fw (gv L fr))) aQ] 22))=bS at*;refine(Ge bK.o pg.o ql).mono ?_;rintro e cp ⟨⟨u,rfl,hu⟩,gW⟩;obtain rfl:bS=cp:=gW.symm;rw[IH.o] at hu;obtain⟨gM,Aj,rfl⟩:=eR hu rfl;have cV:=A (Ox 192 #[.pointer (some ⟨bc.heap.size,0,none⟩)] _ hu (RM NX.o NY.o));clear hu;have lr:Hid (fS L fr ty=!((fw (gv L ty)).any λx=>!((fw (gv L fr)).any λb=>b==x))):=A (by rw[RN,cP.o];rfl);go_wp2;refine cV.o.mono ?_;rintro e bm ⟨rfl,dh⟩;have dn:=A (iO.o.trans (dh.mono iO.o.size));clear dh;go_wp2;go_returns;exact⟨by rw[lr.o];rfl,dn.o⟩
end
end Go.Proofs.YtjfkhpkicioakaaGreatDoor
