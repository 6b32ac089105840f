/- PROVED HERE: the lexer of the reference, walked. No condition. -/
import Derived.Test.YtjfkhpkicioakaaGreatDoorZLx1
import Derived.Test.YtjfkhpkicioakaaGreatDoorZLx2
set_option maxRecDepth 100000
set_option maxHeartbeats 60000000
set_option linter.all false
open Bool renaming noConfusion->GJ
open ByteArray renaming empty->ke
open Go renaming Ending->e7,Value->af,World->ai,maxLen->dc,results->iX,wpList_append_own->Bq
open Go.Proofs.Tryz renaming underlying62->vA
open Go.RowKit renaming Below->aL
open Go.Value renaming string->mm
open Go.World renaming alloc->aA,cell?->aG,setCell->a7
open List renaming getD->Y,isPrefixOf->n2,length->D
open Go.Proofs.YtjfkhpkicioakaaGreatDoor.aa
open Go.Proofs.Tryz
namespace Go.Proofs.YtjfkhpkicioakaaGreatDoor
open Go.RowKit
def V_(t:aa.Tok)(w:ai):aY 47 #[.agg #[t.j',t.O,t.aX,t.an]] w λe w'=>e= .returned (.bool (aa.ends t))/\aL w w w':=by
 obtain⟨j',O,aX,an⟩:=t;dsimp only;by_cases R:j'=1
 .subst R;go_in;go_wp2;go_returns;exact⟨lD (by simp[aa.ends]),by go_grown⟩
 .by_cases T:j'=2
  .subst T;go_in;go_wp2;go_returns;exact⟨lD (by simp[aa.ends]),by go_grown⟩
  .have g1:(j'==1)=false:=(by simpa using R);have g2:(j'==2)=false:=(by simpa using T);by_cases ah:j'=3
   .subst ah;go_in;go_wp2
    all_goals
     go_returns;refine⟨lD ?_,by go_grown⟩
     simp_all [aa.ends,fC,f_]
   .have g3:(j'==3)=false:=(by simpa using ah);have ba:Hid (aa.ends ⟨j',O,aX,an⟩=hasB vi (str O)):=A (by unfold aa.ends hasB;simp[R,T,ah,f_]);go_in;go_wp2_with fail;refine(KE vi (w.heap.size+1) (str O) _ ?_ aN).mono ?_
    .have:=ek (aA w (aw #[j',O,aX,an] 97)) (.cells (vi.map λl=>mm (str l)).toArray 9);rw[show(aA w (aw #[j',O,aX,an] 97)).heap.size=w.heap.size+1 by simp] at this;exact this
    rintro e w' ⟨rfl,rfl⟩;go_wp2;go_returns;exact⟨lD ba.o.symm,by go_grown⟩
def C6 (S:ByteArray)(w:ai)(e:e7)(w':ai):Prop:=
 aL w w w'/\match aa.scan (aC S) with
  | .ok l=> ∃v,e= .returned (.tuple #[v,.agg #[(0:Int),(0:Int)]])/\lG w.heap.size w' v l/\D l<=12001
  | .error (c,p)=>e= .returned (.tuple #[.slice none 0 0,.agg #[c,p]])
def QT{S w w' c p}(h:aa.scan (aC S)= .error (c,p))(G:aL w.heap.size w w'):C6 S w (.returned (.tuple #[.slice none 0 0,.agg #[c,p]])) w':=by refine⟨G,?_⟩;rw[h]
def Gq{S:ByteArray}{w w':ai}{l:List aa.Tok}{v:af}(h:aa.scan (aC S)= .ok l)(G:aL w w w')(bQ:lG w.heap.size w' v l)(hl:D l<=12001):C6 S w (.returned (.tuple #[v,.agg #[(0:Int),(0:Int)]])) w':=by refine⟨G,?_⟩;rw[h];exact⟨v,rfl,bQ,hl⟩
structure r9 (w wr:ai)(v:af)(d':List aa.Tok):Prop where
 av:aL w w wr
 res: ∃bO bq,wr.heap[w.heap.size]?=some (.cells #[bO,bq] 25 (0,0))
 words:p9 wr (w.heap.size+1) aa.words
 gD:p9 wr (w.heap.size+1+1) aa.gD
 row:lG w.heap.size wr v d'
def r9.below{w wr dN v d'}(h:r9 w wr v d')(G:aL wr wr dN):r9 w dN v d':=by obtain⟨bO,bq,au⟩:=h.res;have R:=bd au;exact⟨h.av.trans (G.mono h.av.size),⟨bO,bq,ds au G R⟩,h.words.below G (bd h.words),h.gD.below G (bd h.gD),fZ h.row G (λk U=>(h.row.lt k U).2)⟩
def lG.snoc{N w v d' t}(h:w.ownsRow N 97 4 v (D d'+1) (d'.flatMap e2++e2 t)):lG N w v (d'++[t]):=by unfold lG;simpa using h
def lG.row{N w v d'}(h:lG N w v d'):w.ownsRow N 97 4 v (D d') (d'.flatMap e2):=h
def r9.push{w oF lT v cc d' t o}(h:r9 w oF v d')(aB:(aA oF o).grownBy lT v.ownBlock)(au:lT.ownsRow w.heap.size 97 4 cc (D d'+1) (d'.flatMap e2++e2 t)):r9 w lT cc (d'++[t]):=by
 obtain⟨bO,bq,aI⟩:=h.res;have hs:=h.av.size;refine⟨Below.grown (h.av.alloc hs o) aB (by simp;omega) (λk U=>by have:=(h.row.row.lt k U).1;omega),⟨bO,bq,?_⟩,?_,?_,lG.snoc au⟩
 .exact xO (hO aI o) aB (λe=>mu h.row.row aI aN e.symm)
 .exact xO (hO h.words o) aB (λe=>mu h.row.row h.words aN e.symm)
 .exact xO (hO h.gD o) aB (λe=>mu h.row.row h.gD aN e.symm)
def Be{w dN S v c p fR}(aI:dN.heap[w.heap.size]?=some (.cells #[.int .i64 c,.int .i64 p] 25 (0,0)))(aJ:C6 S w (.returned (.tuple #[v,.agg #[.int .i64 c,.int .i64 p]])) dN)
 (T:fR[2]?=some v)(ah:fR[3]?=some (.pointer (some ⟨w.heap.size,0,none⟩))):bodyPost prog f17 (C6 S w) .ret {tmps:=fR,defers:=[]} dN:=by have cl:=az aI 0;have cu:=az aI 1;have gq:=bd aI;simp only[cO,cQ,c8] at cl cu;exact oK (v:= .tuple #[v,.agg #[c,p]]) (by simp[iX,results17,go_sem,cl,cu,T,ah]) rfl aJ
def VQ(d':List aa.Tok)(i):aa.close d' false i=d':=rfl
def zh{S w wr v d' c p}(h:r9 w wr v d')(aB:aa.scan (aC S)= .error (c,p)):
  (a7 (a7 wr w.heap.size c) (w.heap.size,1) p).heap[w.heap.size]?=some (.cells #[c,p] 25 (0,0))/\C6 S w (.returned (.tuple #[.slice none 0 0,.agg #[c,p]])) (a7 (a7 wr w.heap.size c) (w.heap.size,1) p):=by obtain⟨bO,bq,aI⟩:=h.res;exact⟨et (et aI 0 _) 1 _,QT aB ((h.av.setCell (p:=⟨w.heap.size,0,none⟩) (bD _) _).setCell (p:=⟨w.heap.size,1,none⟩) (bD _) _)⟩
def Kp{w wr v d'}(h:r9 w wr v d'): ∃bO bq,aG wr w.heap.size=some bO/\aG wr (w.heap.size,1)=some bq/\wr.frozen? ⟨w.heap.size,0,none⟩=false/\wr.frozen? ⟨w.heap.size,1,none⟩=false/\w.heap.size<wr.heap.size:=by obtain⟨bO,bq,aI⟩:=h.res;exact⟨bO,bq,by rw[az aI];rfl,by rw[az aI];rfl,cX aI 0,cX aI 1,bd aI⟩
def Kq(S:ByteArray)(j:Nat)(h:j<S.size):S[j]=Y (aC S) j 0:=by simp[aC,h,CN]
def r9.add{w wr oF lT v cc d' t o}(h:r9 w wr v d')(G:aL wr wr oF)(aB:(aA oF o).grownBy lT v.ownBlock)(au:lT.ownsRow w.heap.size 97 4 cc (D d'+1) (d'.flatMap e2++e2 t)):r9 w lT cc (d'++[t]):=(h.below G).push aB au
def SC{c d:UInt8}(h:c=d)(n):((c.toNat:Int)==n)=((d.toNat:Int)==n):=by rw[h]
def XX(l:List UInt8)(c:UInt8):np (l++[c])=10*np l+((c.toNat:Int)- 48):=by unfold np;rw[List.foldl_append];rfl
def acS(S:ByteArray)(k j:Nat)(U:k<=j)(bg:j<S.size):aa.cut (aC S) k (j+1)=aa.cut (aC S) k j++[Y (aC S) j 0]:=by
 unfold aa.cut;rw[show j+1-k=(j-k)+1 by omega,List.take_succ_eq_append_getElem (by rw[qA,kf];omega)]
 congr 2
 rw[List.getElem_drop];have hl:j<D (aC S):=by rw[kf];exact bg
 simp[show k+(j-k)=j by omega,hl]
def aex(S)(k:Nat):aa.cut (aC S) k k=[]:=by unfold aa.cut;simp
def agw(n)(h:n<=9):(10:Int)^n<=1000000000:=by
 have:(10:Nat)^n<=10^9:=Nat.pow_le_pow_right J h;have T:((10^n:Nat):Int)<=((10^9:Nat):Int):=by exact_mod_cast this
 simpa using T
def tU (s:List UInt8)(k j:Nat)(aX:Int):Prop:=j-k<=9->aX=np (aa.cut s k j)/\aX<10^(j-k)
def tU.more{S k j aX c}(h:tU (aC S) k j aX)(U:k<=j)(bg:j<S.size)(hc:Y (aC S) j 0=c)(bB:aa.digit c=true)(aln:0<=aX):
  (10*aX+(c.toNat:Int)- 48<=1000000000000->tU (aC S) k (j+1) (10*aX+(c.toNat:Int)- 48))/\(1000000000000<10*aX+(c.toNat:Int)- 48->tU (aC S) k (j+1) 1000000000000):=by
 rw[xP] at bB;simp only[pt] at bB;have key:j+1-k<=9->10*aX+(c.toNat:Int)- 48=np (aa.cut (aC S) k (j+1))/\10*aX+(c.toNat:Int)- 48<10^(j+1-k):=by
  intro gW;obtain⟨R,T⟩:=h J;rw[acS S k j U bg,hc,XX,<-R];refine⟨by omega,?_⟩;rw[show j+1-k=(j-k)+1 by omega,Int.pow_succ];omega
 refine⟨λ_=>key,λG gW=>?_⟩;have R:=(key gW).2;have T:=agw (j+1-k) gW;omega
def ZL(V:Nat)(w:ai)(S:ByteArray)(hT:kF V w)(bY:V<=w.heap.size):aY 17 #[S] w (C6 S w):=by
 have bW:=A hT;clear hT;have BG:=kf S;obtain⟨i0,fM,e',vN,hj⟩:=kT J2;go_in;have Go:=0;by_cases hsz:6000<S.size
 .have ba:Hid (aa.scan (aC S)= .error (1,0)):=A (by unfold aa.scan;rw[aS J]);go_wp2;exact oK (v:= .tuple #[.slice none 0 0,.agg #[(1:Int),(0:Int)]]) (by simp[iX,results17,go_sem]) rfl (QT ba.o (by go_grown))
 .have ba:Hid (aa.scan (aC S)=aa.go (aC S) 0 false []):=A (by unfold aa.scan;rw[ao J]);go_wp2;have Sr:=A (ek w (aw #[(0:Int),(0:Int)] 25));have Qm:Hid (aL w w (aA w (aw #[(0:Int),(0:Int)] 25))):=A (by go_grown);have HT:(aA w (aw #[(0:Int),(0:Int)] 25)).heap.size=w.heap.size+1:=bT;generalize(aA w (aw #[(0:Int),(0:Int)] 25))=w1 at*;refine b7 (ZZ w1) λw2⟨gT,b8,mK⟩=>?_;rw[HT] at gT mK b8;have Ss:=A (ds Sr.o b8 J);have Qn:=A (Qm.o.trans (b8.mono J));have SG:=A gT;clear Sr Qm gT b8;rw[HT];clear HT;go_wp2;refine b7 (Z0 w2) λbc⟨uf,e0,wW⟩=>?_;rw[mK] at uf wW e0;have ST:Hid (r9 w bc (.slice none 0 0) []):=A ⟨Qn.o.trans (e0.mono J),⟨_,_,ds Ss.o e0 J⟩,SG.o.below e0 J,uf,n7 _ _ _ _⟩;rw[mK];clear Ss Qn SG uf e0 mK wW;go_wp2;go_loopw[4,7,8] (λl o i wr=> ∃(k:Nat) (line:Bool) (d':List aa.Tok),k<=S.size/\i= k/\o= .bool line/\D d'<=2*k/\Hid (aa.scan (aC S)=aa.go (aC S) k line d')/\Hid (line=true->d'≠[])/\Hid (r9 w wr l d')) (λ_ _ i _=>S.size-(intOf i).toNat)
  case atStart=>exact⟨0,false,[],by omega,rfl,rfl,by simp,ba,A (λh=>by cases h),ST⟩
  case round=>
   clear ba ST;obtain⟨k,line,d',U,rfl,rfl,rz,z,cZ,cC⟩:=hrel;by_cases ahj:k=S.size
   .as_aux_lemma=>
    subst ahj;have Jd:((S.size:Int)==(S.size:Int))=true:=bT;clear Jd;cases line with
    |false=>
     have o8:Hid (aa.scan (aC S)= .ok d'):=A (by rw[z.o,aa.go_end J,VQ]);have ST:=cC;clear z cC cZ;obtain⟨bO,bq,aI⟩:=ST.o.res;have jQ:=bd aI;have CC:=cX aI 0;have CD:=cX aI 1;have wa:=az aI 0;have wb:=az aI 1;simp only[cO,cQ,c8] at wa wb;have dj:=A (et (et aI 0 (0:Int)) 1 (0:Int));have cP:=A (eZ (i:=1) (u:= (0:Int)) (eZ (i:=0) (u:= (0:Int)) ST.o.row.row aI aN) (et aI 0 (0:Int)) aN);have bh:=A ((ST.o.av.setCell (p:=⟨w.heap.size,0,none⟩) (bD _) (0:Int)).setCell (p:=⟨w.heap.size,1,none⟩) (bD _) (0:Int));clear aI ST;go_wp2;exact Be dj.o (Gq o8.o bh.o cP.o J) rfl rfl
    |true=>
     obtain⟨dJ,t,rfl⟩:=O5 (cZ.o rfl);have h4:=cC.o.row;obtain⟨g,cap,bQ⟩:=dR h4 bT;have uU:D (dJ++[t])=D dJ+1:=bT;rw[uU] at bQ;subst bQ;obtain⟨_,cF,ui,ml,iS⟩:=Pb h4;have ft:=(h4.row.lt g rfl).2;simp only[dW,iq,u1,Nat.zero_add] at rz;clear h4 uU;go_wp2;refine b7 (V_ t _) λbm dh=>?_;have ko:=A (cC.o.below dh);clear cC dh cF ui ml iS;cases he:aa.ends t with
     |false=>
      have o8:Hid (aa.scan (aC S)= .ok (dJ++[t])):=A (by rw[z.o,aa.go_end J,PH he]);have ST:=ko;clear z ko cZ;obtain⟨bO,bq,aI⟩:=ST.o.res;have jQ:=bd aI;have CC:=cX aI 0;have CD:=cX aI 1;have wa:=az aI 0;have wb:=az aI 1;simp only[cO,cQ,c8] at wa wb;have dj:=A (et (et aI 0 (0:Int)) 1 (0:Int));have cP:=A (eZ (i:=1) (u:= (0:Int)) (eZ (i:=0) (u:= (0:Int)) ST.o.row.row aI aN) (et aI 0 (0:Int)) aN);have bh:=A ((ST.o.av.setCell (p:=⟨w.heap.size,0,none⟩) (bD _) (0:Int)).setCell (p:=⟨w.heap.size,1,none⟩) (bD _) (0:Int));clear aI ST;go_wp2;exact Be dj.o (Gq o8.o bh.o cP.o (by simp;omega)) rfl rfl
     |true=>
      have lo:=ko.o.av.size;have h7:w.heap.size<=(aA bm (aw #[(3:Int),.string (str [59]),(0:Int),S.size] 97)).heap.size:=(by simp;omega);have kc:=A (ko.o.row.row.alloc (aw #[(3:Int),.string (str [59]),(0:Int),S.size] 97));go_wp2_with(at_builtin;refine Bq _ rfl _ _ 62 rfl w.heap.size 97 i0 (.agg #[(0:Int),ke,(0:Int),(0:Int)]) 4 40 vA fM e' vN hj rfl aN _ _ _ rfl kc.o ⟨bm.heap.size,0,none⟩ 1 1 [(3:Int),.string (str [59]),(0:Int),S.size] rfl rfl (j7 (cs:= #[(3:Int),.string (str [59]),(0:Int),S.size]) (t:=97) (fr:=(0,0)) (hf _ _)) (tQ _ _ _ _) ?c3 ?c4 h7 ?_;rotate_right;intro cc gF mU dv ry;have pW:=A (ko.o.push (t:=sZ S.size) dv mU);obtain⟨bO,bq,aI⟩:=pW.o.res;have jQ:=bd aI;have CC:=cX aI 0;have CD:=cX aI 1;have wa:=az aI 0;have wb:=az aI 1;simp only[cO,cQ,c8] at wa wb;clear aI dv mU ry)
      case c3=>unfold dc;simp;omega
      case c4=>simp;omega
      clear ko kc;have o8:Hid (aa.scan (aC S)= .ok (dJ++[t]++[sZ S.size])):=A (by rw[z.o,aa.go_end J,Pa he]);have ST:=pW;clear z pW cZ;obtain⟨d0,d1,aI⟩:=ST.o.res;have dj:=A (et (et aI 0 (0:Int)) 1 (0:Int));have cP:=A (eZ (i:=1) (u:= (0:Int)) (eZ (i:=0) (u:= (0:Int)) ST.o.row.row aI aN) (et aI 0 (0:Int)) aN);have bh:=A ((ST.o.av.setCell (p:=⟨w.heap.size,0,none⟩) (bD _) (0:Int)).setCell (p:=⟨w.heap.size,1,none⟩) (bD _) (0:Int));clear aI ST;exact Be dj.o (Gq o8.o bh.o cP.o (by simp;omega)) rfl rfl
   .have bN:k<S.size:=J;have Jd:((k:Int)==(S.size:Int))=false:=(by simp;omega);have nO:S[k]=Y (aC S) k 0:=(by simp[aC,bN,CN]);by_cases jK:Y (aC S) k 0=10
    .as_aux_lemma=>
     have DS:((S[k].toNat:Int)==10)=true:=(by rw[nO,jK];rfl);have k8:=A jK;clear jK nO;cases line with
     |false=>
      have lA:Hid (aa.scan (aC S)=aa.go (aC S) (k+1) false (d')):=A (by rw[z.o,aa.go_feed J k8.o,VQ]);clear z k8 cZ;go_wp2;go_roundw
      case rel=>exact⟨k+1,false,_,by omega,by go_num,rfl,by omega,lA,A (λh=>by cases h),cC⟩
      case measure=>simp[intOf];omega
     |true=>
      obtain⟨dJ,t,rfl⟩:=O5 (cZ.o rfl);have h4:=cC.o.row;obtain⟨g,cap,bQ⟩:=dR h4 bT;have uU:D (dJ++[t])=D dJ+1:=bT;rw[uU] at bQ;subst bQ;obtain⟨_,cF,ui,ml,iS⟩:=Pb h4;have ft:=(h4.row.lt g rfl).2;simp only[dW,iq,u1,Nat.zero_add] at rz;clear h4 uU;go_wp2;refine b7 (V_ t _) λbm dh=>?_;have ko:=A (cC.o.below dh);clear cC dh cF ui ml iS;cases he:aa.ends t with
      |false=>
       have lA:Hid (aa.scan (aC S)=aa.go (aC S) (k+1) false (dJ++[t])):=A (by rw[z.o,aa.go_feed J k8.o,PH he]);clear z k8 cZ;go_wp2;go_roundw
       case rel=>exact⟨k+1,false,_,by omega,by go_num,rfl,by simp;omega,lA,A (λh=>by cases h),ko⟩
       case measure=>simp[intOf];omega
      |true=>
       have lo:=ko.o.av.size;have h7:w.heap.size<=(aA bm (aw #[(3:Int),.string (str [59]),(0:Int),k] 97)).heap.size:=(by simp;omega);have kc:=A (ko.o.row.row.alloc (aw #[(3:Int),.string (str [59]),(0:Int),k] 97));go_wp2_with(at_builtin;refine Bq _ rfl _ _ 62 rfl w.heap.size 97 i0 (.agg #[(0:Int),ke,(0:Int),(0:Int)]) 4 40 vA fM e' vN hj rfl aN _ _ _ rfl kc.o ⟨bm.heap.size,0,none⟩ 1 1 [(3:Int),.string (str [59]),(0:Int),k] rfl rfl (j7 (cs:= #[(3:Int),.string (str [59]),(0:Int),k]) (t:=97) (fr:=(0,0)) (hf _ _)) (tQ _ _ _ _) ?c3 ?c4 h7 ?_;rotate_right;intro cc gF mU dv ry;have pW:=A (ko.o.push (t:=sZ k) dv mU);obtain⟨bO,bq,aI⟩:=pW.o.res;have jQ:=bd aI;have CC:=cX aI 0;have CD:=cX aI 1;have wa:=az aI 0;have wb:=az aI 1;simp only[cO,cQ,c8] at wa wb;clear aI dv mU ry)
       case c3=>unfold dc;simp;omega
       case c4=>simp;omega
       clear ko kc;have lA:Hid (aa.scan (aC S)=aa.go (aC S) (k+1) false (dJ++[t]++[sZ k])):=A (by rw[z.o,aa.go_feed J k8.o,Pa he]);clear z k8 cZ;go_wp2;go_roundw
       case rel=>exact⟨k+1,false,_,by omega,by go_num,rfl,by simp;omega,lA,A (λh=>by cases h),pW⟩
       case measure=>simp[intOf];omega
    .as_aux_lemma=>
     have DS:((S[k].toNat:Int)==10)=false:=(by rw[nO];exact Lc jK);have k8:=A jK;clear jK;cases so:aa.blank (Y (aC S) k 0) with
     |true=>
      have qi:=A so;rw[<-nO] at so;obtain yu|⟨yu,gW⟩|⟨yu,gW,T8⟩:=Qi so
      all_goals clear so
      .have lA:Hid (aa.scan (aC S)=aa.go (aC S) (k+1) line d'):=A (by rw[z.o];exact aa.go_skip J k8.o (by unfold kY;rw[aS qi.o]) J);clear z k8 qi nO;go_wp2;go_roundw
       case rel=>exact⟨k+1,line,d',by omega,by go_num,rfl,by omega,lA,cZ,cC⟩
       case measure=>simp[intOf];omega
      .have lA:Hid (aa.scan (aC S)=aa.go (aC S) (k+1) line d'):=A (by rw[z.o];exact aa.go_skip J k8.o (by unfold kY;rw[aS qi.o]) J);clear z k8 qi nO;go_wp2;go_roundw
       case rel=>exact⟨k+1,line,d',by omega,by go_num,rfl,by omega,lA,cZ,cC⟩
       case measure=>simp[intOf];omega
      .have lA:Hid (aa.scan (aC S)=aa.go (aC S) (k+1) line d'):=A (by rw[z.o];exact aa.go_skip J k8.o (by unfold kY;rw[aS qi.o]) J);clear z k8 qi nO;go_wp2;go_roundw
       case rel=>exact⟨k+1,line,d',by omega,by go_num,rfl,by omega,lA,cZ,cC⟩
       case measure=>simp[intOf];omega
     |false=>
      have qi:=A so;rw[<-nO] at so;obtain⟨yu,gW,T8⟩:=Gb so;have nx:=A nO;clear so nO;go_wp2;refine b7 (VV S (str [47,47]) k wr J aN J) ?_;rintro bm rfl;rw[f_];clear yu gW T8;cases aJ:n2 [47,47] ((aC S).drop k) with
      |true=>
       as_aux_lemma=>
       have Lo:Hid (kY (aC S) k=match kV (aC S) k with| .error j=> .bL 2 j| .ok j=> .skip j):=A (by unfold kY;rw[ao (by rw[qi.o];simp),aS aJ];cases kV (aC S) k<;>rfl);have pd:Hid (k<D (aC S)):=A J;clear aJ qi nx Jd DS;obtain⟨gN,rfl⟩: ∃gN:ai,gN=wr:=⟨_,rfl⟩;go_wp2;go_loopw[8] (λi wr=> ∃j:Nat,j<=S.size/\i= j/\Hid (kV (aC S) k=kV (aC S) j)/\Hid (r9 w wr u4 d')) (λi _=>S.size-(intOf i).toNat)
       case atStart=>exact⟨k,by omega,rfl,A rfl,cC⟩
       case round=>
        clear cC;obtain⟨j,bg,rfl,iH,cC⟩:=hrel;by_cases uy:j<S.size
        .have nO:S[j]=Y (aC S) j 0:=(by simp[aC,uy,CN]);by_cases jK:Y (aC S) j 0=10
         .have DS:((S[j].toNat:Int)==10)=true:=(by rw[nO,jK];rfl);have lA:Hid (aa.scan (aC S)=aa.go (aC S) j line d'):=A (by
           have e:kV (aC S) k= .ok j:=(by rw[iH.o,F1 (by rw[jK];simp)]);rw[z.o];exact aa.go_skip pd.o k8.o (by rw[Lo.o,e]) (Jq e pd.o k8.o))
          have Ah:k<j:=by
           have e:kV (aC S) k= .ok j:=(by rw[iH.o,F1 (by rw[jK];simp)]);exact Jq e pd.o k8.o
          clear jK nO iH;go_wp2;go_roundw
          case rel=>exact⟨j,line,d',by omega,rfl,rfl,by omega,lA,cZ,cC⟩
          case measure=>simp[intOf];omega
         .have DS:((S[j].toNat:Int)==10)=false:=(by rw[nO];exact Lc jK);have Ry:=A jK;have aZ:(aC S).drop j≠[]:=(by intro h;have:=List.drop_eq_nil_iff.1 h;omega);obtain⟨d1,d2,d3⟩:=KP aZ;rw[qA] at d2;have hex:=FY S j;have Nj:=A hex;have Ur:=bW.o.below cC.o.av bY;have Te:=(Ur _ (aT _ _)).1;have Ni:=A Te;clear jK nO aZ hex Ur Te;go_wp2;rw[Nj.o];refine b7 (utf8_DecodeRuneInString (str ((aC S).drop j)) _ Ni.o) λb4 g_=>?_;have uH:=A (cC.o.below g_);have uj:Lib.decodeGo (str ((aC S).drop j))=aa.dec ((aC S).drop j):=rfl;rw[uj];clear g_ uj cC;obtain⟨bO,bq,wa,wb,CC,CD,jQ⟩:=Kp uH.o;cases bB:aa.dec ((aC S).drop j) with
          |mk r n=>
           rw[bB] at d1 d2 d3;dsimp only at d1 d2 d3|-;have hq:=A bB;clear bB;by_cases nu:r=65533/\n=1
           .obtain⟨rfl,rfl⟩:=nu;have o8:Hid (aa.scan (aC S)= .error (2,j)):=A (by
             rw[z.o];exact aa.go_bad pd.o k8.o (by rw[Lo.o,iH.o,OL J Ry.o hq.o]))
            clear z iH;go_wp2;exact Be (zh uH.o o8.o).1 (zh uH.o o8.o).2 rfl rfl
           .have kn:Hid (kV (aC S) k=kV (aC S) (j+n)):=A (by
             rw[iH.o,OD J Ry.o (by rw[hq.o];intro h;injection h with R T;exact nu ⟨R,T⟩),hq.o];dsimp only;rw[show max 1 n=n by omega])
            have ck:((r:Int)==65533)=false\/(((r:Int)==65533)=true/\((n:Int)==1)=false):=by
             by_cases h:r=65533
             .right;refine⟨by simp[h],?_⟩;simp;intro T;exact nu ⟨h,by omega⟩
             .left;simp;omega
            clear iH nu;obtain ajo|⟨ajo,h6⟩:=ck
            .go_wp2;go_roundw
             case rel=>exact⟨j+n,by omega,by go_num,kn,uH⟩
             case measure=>simp[intOf];omega
            .go_wp2;go_roundw
             case rel=>exact⟨j+n,by omega,by go_num,kn,uH⟩
             case measure=>simp[intOf];omega
        .obtain rfl:j=S.size:=J;have lA:Hid (aa.scan (aC S)=aa.go (aC S) S.size line d'):=A (by
          have e:kV (aC S) k= .ok S.size:=(by rw[iH.o,F1 J]);rw[z.o];exact aa.go_skip pd.o k8.o (by rw[Lo.o,e]) (Jq e pd.o k8.o))
         clear iH;go_wp2;go_roundw
         case rel=>exact⟨S.size,line,d',by omega,rfl,rfl,by omega,lA,cZ,cC⟩
         case measure=>simp[intOf];omega
      |false=>
       as_aux_lemma=>
       have xz:=A aJ;clear aJ Jd DS;go_wp2;refine b7 (O6 S[k] wr) ?_;rintro b4 rfl;go_wp2;refine b7 (Gd S[k] wr) ?_;rintro b4 rfl;have Un:aa.letter S[k]=aa.letter (Y (aC S) k 0):=(by rw[nx.o]);have Uc:aa.digit S[k]=aa.digit (Y (aC S) k 0):=(by rw[nx.o]);rw[Un,Uc];clear Un Uc;have pd:Hid (k<D (aC S)):=A J;have anG:=cC.o.av.size;cases Hc:aa.letter (Y (aC S) k 0) with
       |true=>
        have pj:=A Hc;clear Hc;obtain⟨b2,b8⟩: ∃b2,aa.digit (Y (aC S) k 0)=b2:=⟨_,rfl⟩;rw[b8];have Rr:Hid ((true||b2)=true↔(k<S.size/\hr (Y (aC S) k 0)=true)):=A (by constructor;intro _;exact⟨bN,by unfold hr;rw[pj.o];rfl⟩;intro _;rfl);clear b8;go_wp2;go_loop [8,14,15] (λi a b=> ∃(j:Nat) (b1 b2:Bool),k<=j/\j<=S.size/\i= j/\a= .bool b1/\b= .bool b2/\Hid ((b1||b2)=true↔(j<S.size/\hr (Y (aC S) j 0)=true))/\Hid (fD hr (aC S) k=fD hr (aC S) j)) (λi _ _=>S.size-(intOf i).toNat)
        case atStart=>exact⟨k,true,b2,by omega,by omega,rfl,rfl,rfl,Rr,A rfl⟩
        case round=>
         clear Rr;obtain⟨j,b1,b2,Ah,bg,rfl,rfl,rfl,iH,ba⟩:=hrel;by_cases G:(b1||b2)=true
         .obtain⟨Oh,UD⟩:=iH.o.1 G;have xA:Hid (fD hr (aC S) k=fD hr (aC S) (j+1)):=A (by rw[ba.o,CT J UD]);clear ba iH UD;by_cases j3:j+1<S.size
          .have AH:=Kq S (j+1) j3;have kn:Hid ((aa.letter S[j+1]||aa.digit S[j+1])=true↔(j+1<S.size/\hr (Y (aC S) (j+1) 0)=true)):=A (by rw[<-AH];exact⟨λh=>⟨j3,h⟩,λh=>h.2⟩);clear AH;cases b1 with
           |true=>
            clear G;go_wp2;refine b7 (O6 S[j+1] _) ?_;rintro b4 rfl;go_wp2;refine b7 (Gd S[j+1] _) ?_;rintro b4 rfl;go_wp2;go_round
            case rel=>exact⟨j+1,_,_,by omega,by omega,by go_num,rfl,rfl,kn,xA⟩
            case measure=>simp[intOf];omega
           |false=>
            obtain rfl:b2=true:=(by simpa using G);clear G;go_wp2;refine b7 (O6 S[j+1] _) ?_;rintro b4 rfl;go_wp2;refine b7 (Gd S[j+1] _) ?_;rintro b4 rfl;go_wp2;go_round
            case rel=>exact⟨j+1,_,_,by omega,by omega,by go_num,rfl,rfl,kn,xA⟩
            case measure=>simp[intOf];omega
          .have kn:Hid ((false||false)=true↔(j+1<S.size/\hr (Y (aC S) (j+1) 0)=true)):=A (by simp;intro h;omega);cases b1 with
           |true=>
            clear G;go_wp2;go_round
            case rel=>exact⟨j+1,false,false,by omega,by omega,by go_num,rfl,rfl,kn,xA⟩
            case measure=>simp[intOf];omega
           |false=>
            obtain rfl:b2=true:=(by simpa using G);clear G;go_wp2;go_round
            case rel=>exact⟨j+1,false,false,by omega,by omega,by go_num,rfl,rfl,kn,xA⟩
            case measure=>simp[intOf];omega
         .obtain⟨rfl,rfl⟩:b1=false/\b2=false:=(by cases b1<;>cases b2<;>simp at G|-);have yS:Hid (fD hr (aC S) k=j):=A (by
           rw[ba.o];refine AU (λh=>?_);have:=iH.o.2 ⟨by omega,h.2⟩;cases this)
          have DT:k<j:=by
           have:=CU (p:=hr) pd.o (by unfold hr;rw[pj.o];rfl);rw[yS.o] at this;exact this
          have sk:Hid (aa.cut (aC S) k j=aC (S.extract k j)):=A (by rw[xQ]);clear ba iH G;go_wp2;refine b7 (KE aa.words (w.heap.size+1) (S.extract k j) _ ((cC.o.below (by go_grown)).words) aN) ?_;rintro b4 rfl;cases hw:hasB aa.words (S.extract k j) with
          |true=>
           have dn:Hid (aL wr wr (aA wr (aw #[(4:Int),.string (S.extract k j),(0:Int),k] 97))):=A (by go_grown);have qg:(aA wr (aw #[(4:Int),.string (S.extract k j),(0:Int),k] 97)).heap.size=wr.heap.size+1:=bT;have h7:w.heap.size<=(aA (aA wr (aw #[(4:Int),.string (S.extract k j),(0:Int),k] 97)) (aw #[(4:Int),.string (S.extract k j),(0:Int),k] 97)).heap.size:=(by simp;omega);have ow:=A (cC.o.below dn.o);have kc:=A (ow.o.row.row.alloc (aw #[(4:Int),.string (S.extract k j),(0:Int),k] 97));have mZ:=j7 (cs:= #[(4:Int),.string (S.extract k j),(0:Int),k]) (t:=97) (fr:=(0,0)) (hf (aA wr (aw #[(4:Int),.string (S.extract k j),(0:Int),k] 97)) (aw #[(4:Int),.string (S.extract k j),(0:Int),k] 97));rw[qg] at mZ;have qv:=A mZ;have Dr:D d'<=12000:=J;clear mZ qg;go_wp2_with(at_builtin;refine Bq _ rfl _ _ 62 rfl w.heap.size 97 i0 (.agg #[(0:Int),ke,(0:Int),(0:Int)]) 4 40 vA fM e' vN hj rfl aN _ _ _ rfl kc.o ⟨wr.heap.size+1,0,none⟩ 1 1 [(4:Int),.string (S.extract k j),(0:Int),k] rfl rfl qv.o (tQ _ _ _ _) ?c3 ?c4 h7 ?_;rotate_right;intro cc gF mU dv ry;have pW:=A (cC.o.add (t:=⟨4,aC (S.extract k j),0,k⟩) dn.o dv mU);clear dv mU ry)
           case c3=>unfold dc;omega
           case c4=>omega
           have lA:Hid (aa.scan (aC S)=aa.go (aC S) j true (d'++[⟨4,aC (S.extract k j),0,k⟩])):=A (by
            have e:=O_ qi.o xz.o pj.o;rw[yS.o,sk.o] at e;have gT:aa.words.contains (aC (S.extract k j))=true:=hw;rw[gT] at e;rw[z.o];exact aa.go_tok pd.o k8.o e DT)
           clear kc ow cC z dn qv;go_roundw
           case rel=>exact⟨j,true,_,by omega,by go_num,rfl,by simp;omega,lA,A (λ_=>by simp),pW⟩
           case measure=>simp[intOf];omega
          |false=>
           have dn:Hid (aL wr wr (aA wr (aw #[(1:Int),.string (S.extract k j),(0:Int),k] 97))):=A (by go_grown);have qg:(aA wr (aw #[(1:Int),.string (S.extract k j),(0:Int),k] 97)).heap.size=wr.heap.size+1:=bT;have h7:w.heap.size<=(aA (aA wr (aw #[(1:Int),.string (S.extract k j),(0:Int),k] 97)) (aw #[(1:Int),.string (S.extract k j),(0:Int),k] 97)).heap.size:=(by simp;omega);have ow:=A (cC.o.below dn.o);have kc:=A (ow.o.row.row.alloc (aw #[(1:Int),.string (S.extract k j),(0:Int),k] 97));have mZ:=j7 (cs:= #[(1:Int),.string (S.extract k j),(0:Int),k]) (t:=97) (fr:=(0,0)) (hf (aA wr (aw #[(1:Int),.string (S.extract k j),(0:Int),k] 97)) (aw #[(1:Int),.string (S.extract k j),(0:Int),k] 97));rw[qg] at mZ;have qv:=A mZ;have Dr:D d'<=12000:=J;clear mZ qg;go_wp2_with(at_builtin;refine Bq _ rfl _ _ 62 rfl w.heap.size 97 i0 (.agg #[(0:Int),ke,(0:Int),(0:Int)]) 4 40 vA fM e' vN hj rfl aN _ _ _ rfl kc.o ⟨wr.heap.size+1,0,none⟩ 1 1 [(1:Int),.string (S.extract k j),(0:Int),k] rfl rfl qv.o (tQ _ _ _ _) ?c3 ?c4 h7 ?_;rotate_right;intro cc gF mU dv ry;have pW:=A (cC.o.add (t:=⟨1,aC (S.extract k j),0,k⟩) dn.o dv mU);clear dv mU ry)
           case c3=>unfold dc;omega
           case c4=>omega
           have lA:Hid (aa.scan (aC S)=aa.go (aC S) j true (d'++[⟨1,aC (S.extract k j),0,k⟩])):=A (by
            have e:=O_ qi.o xz.o pj.o;rw[yS.o,sk.o] at e;have gT:aa.words.contains (aC (S.extract k j))=false:=hw;rw[gT] at e;rw[z.o];exact aa.go_tok pd.o k8.o e DT)
           clear kc ow cC z dn qv;go_roundw
           case rel=>exact⟨j,true,_,by omega,by go_num,rfl,by simp;omega,lA,A (λ_=>by simp),pW⟩
           case measure=>simp[intOf];omega
       |false=>
        have pj:=A Hc;clear Hc;obtain⟨fb,rfl⟩: ∃fb:ai,fb=wr:=⟨_,rfl⟩;cases r_:aa.digit (Y (aC S) k 0) with
        |true=>
         as_aux_lemma=>
         have AI:=A r_;have uw:Hid (tU (aC S) k k 0):=A (λ_=>by rw[aex];exact⟨rfl,by simp⟩);have lP:Hid (aL fb fb (aA fb (aw #[(0:Int),.string {data:= #[]},(0:Int),k] 97))):=A (by go_grown);have yh:=A (ek fb (aw #[(0:Int),.string {data:= #[]},(0:Int),k] 97));clear r_;go_wp2;go_loopw[8,15] (λi b dN=> ∃(j:Nat) (oM:Bool) (aX:Int),k<=j/\j<=S.size/\i= j/\b= .bool oM/\(0<=aX/\aX<=1000000000000)/\Hid (oM=true↔(j<S.size/\aa.digit (Y (aC S) j 0)=true))/\Hid (fD aa.digit (aC S) k=fD aa.digit (aC S) j)/\Hid (tU (aC S) k j aX)/\Hid (aL fb fb dN)/\Hid (dN.heap[fb.heap.size]?=some (.cells #[(0:Int),.string {data:= #[]},aX,k] 97 (0,0)))) (λi _ _=>S.size-(intOf i).toNat)
         case atStart=>exact⟨k,true,0,by omega,by omega,rfl,rfl,by omega,A ⟨λ_=>⟨bN,AI.o⟩,λ_=>rfl⟩,A rfl,uw,lP,yh⟩
         case round=>
          clear uw lP yh;obtain⟨j,oM,aX,Ah,bg,rfl,rfl,⟨ajf,uU⟩,iH,ba,ep,bh,br⟩:=hrel;have ajk:=az br.o 0;have qP:=az br.o 1;have s9:=az br.o 2;have pG:=az br.o 3;have amv:=cX br.o 0;have amw:=cX br.o 1;have amx:=cX br.o 2;have qZ:=bd br.o;simp only[cO,cQ,c8] at ajk qP s9 pG;cases oM with
          |true=>
           obtain⟨Oh,Je⟩:=iH.o.1 rfl;have xA:Hid (fD aa.digit (aC S) k=fD aa.digit (aC S) (j+1)):=A (by rw[ba.o,CT J Je]);have AH:=Kq S j Oh;have zu:=ep.o.more Ah Oh AH.symm (by rw[AH];exact Je) ajf;have Og:=Je;rw[<-AH,xP] at Og;simp only[pt] at Og;obtain⟨k4,w4⟩:=Og;clear AH Je ba iH ep;by_cases hcap:10*aX+(S[j].toNat:Int)- 48<=1000000000000
           .by_cases j3:j+1<S.size
            .as_aux_lemma=>
             have pO:=A (zu.1 hcap);clear zu;have rI:=A (et br.o 2 [(10*aX+(S[j].toNat:Int)- 48:Int)]);have c1:=A (bh.o.setCell (p:=⟨fb.heap.size,2,none⟩) (bD _) [(10*aX+(S[j].toNat:Int)- 48:Int)]);have DU:=Kq S (j+1) j3;have kn:Hid (aa.digit S[j+1]=true↔(j+1<S.size/\aa.digit (Y (aC S) (j+1) 0)=true)):=A (by rw[<-DU];exact⟨λh=>⟨j3,h⟩,λh=>h.2⟩);clear DU;go_wp2;go_region
             all_goals
              go_wp2;refine b7 (Gd S[j+1] _) ?_;rintro b4 rfl;go_wp2;go_roundw
              case rel=>exact⟨j+1,_,10*aX+(S[j].toNat:Int)- 48,by omega,by omega,by go_num,rfl,by omega,kn,xA,pO,(by first|exact c1|exact A c1.o.drew),rI⟩
              case measure=>simp[intOf];omega
            .as_aux_lemma=>
             have pO:=A (zu.1 hcap);clear zu;have rI:=A (et br.o 2 [(10*aX+(S[j].toNat:Int)- 48:Int)]);have c1:=A (bh.o.setCell (p:=⟨fb.heap.size,2,none⟩) (bD _) [(10*aX+(S[j].toNat:Int)- 48:Int)]);have kn:Hid (false=true↔(j+1<S.size/\aa.digit (Y (aC S) (j+1) 0)=true)):=A ⟨λh=>GJ h,λh=>absurd h.1 j3⟩;go_wp2;go_region
             all_goals
              go_wp2;go_roundw
              case rel=>exact⟨j+1,false,10*aX+(S[j].toNat:Int)- 48,by omega,by omega,by go_num,rfl,by omega,A ⟨λh=>GJ h,λh=>absurd h.1 j3⟩,xA,pO,(by first|exact c1|exact A c1.o.drew),rI⟩
              case measure=>simp[intOf];omega
           .have hcap:1000000000000<10*aX+(S[j].toNat:Int)- 48:=J;by_cases j3:j+1<S.size
            .as_aux_lemma=>
             have pO:=A (zu.2 hcap);clear zu;have ck:=et br.o 2 [(10*aX+(S[j].toNat:Int)- 48:Int)];have rI:=A (et ck 2 (1000000000000:Int));have c1:=A ((bh.o.setCell (p:=⟨fb.heap.size,2,none⟩) (bD _) [(10*aX+(S[j].toNat:Int)- 48:Int)]).setCell (p:=⟨fb.heap.size,2,none⟩) (bD _) (1000000000000:Int));clear ck;have DU:=Kq S (j+1) j3;have kn:Hid (aa.digit S[j+1]=true↔(j+1<S.size/\aa.digit (Y (aC S) (j+1) 0)=true)):=A (by rw[<-DU];exact⟨λh=>⟨j3,h⟩,λh=>h.2⟩);clear DU;go_wp2;go_region
             all_goals
              go_wp2;refine b7 (Gd S[j+1] _) ?_;rintro b4 rfl;go_wp2;go_roundw
              case rel=>exact⟨j+1,_,1000000000000,by omega,by omega,by go_num,rfl,by omega,kn,xA,pO,(by first|exact c1|exact A c1.o.drew),rI⟩
              case measure=>simp[intOf];omega
            .as_aux_lemma=>
             have pO:=A (zu.2 hcap);clear zu;have ck:=et br.o 2 [(10*aX+(S[j].toNat:Int)- 48:Int)];have rI:=A (et ck 2 (1000000000000:Int));have c1:=A ((bh.o.setCell (p:=⟨fb.heap.size,2,none⟩) (bD _) [(10*aX+(S[j].toNat:Int)- 48:Int)]).setCell (p:=⟨fb.heap.size,2,none⟩) (bD _) (1000000000000:Int));clear ck;have kn:Hid (false=true↔(j+1<S.size/\aa.digit (Y (aC S) (j+1) 0)=true)):=A ⟨λh=>GJ h,λh=>absurd h.1 j3⟩;go_wp2;go_region
             all_goals
              go_wp2;go_roundw
              case rel=>exact⟨j+1,false,1000000000000,by omega,by omega,by go_num,rfl,by omega,A ⟨λh=>GJ h,λh=>absurd h.1 j3⟩,xA,pO,(by first|exact c1|exact A c1.o.drew),rI⟩
              case measure=>simp[intOf];omega
          |false=>
           have yS:Hid (fD aa.digit (aC S) k=j):=A (by
            rw[ba.o];refine AU (λh=>?_);have:=iH.o.2 ⟨by omega,h.2⟩;cases this)
           have DT:k<j:=by
            have:=CU (p:=aa.digit) pd.o AI.o;rw[yS.o] at this;exact this
           have sk:Hid (aa.cut (aC S) k j=aC (S.extract k j)):=A (by rw[xQ]);have AM:=A (cC.o.below bh.o);have ma:=J1 S k j J bg;have Bf:=QK qi.o xz.o pj.o AI.o;rw[yS.o,J5 S k j J bg] at Bf;obtain⟨n,w3⟩: ∃n,n=j-k:=⟨_,rfl⟩;rw[<-w3] at ma Bf;have kN:=A Bf;have gH:=A w3;have anu:(n:Int)<=6000:=J;have amy:w.heap.size<fb.heap.size:=(Kp cC.o).choose_spec.choose_spec.2.2.2.2;obtain⟨bO,bq,wa,wb,CC,CD,jQ⟩:=Kp AM.o;obtain⟨tm,rfl⟩: ∃tm:ai,tm=wr:=⟨_,rfl⟩;clear ba iH Bf w3 Ah;have dn:Hid (aL fb fb (a7 (a7 tm fb.heap.size (2:Int)) (fb.heap.size,1) (.string (S.extract k j)))):=A ((bh.o.setCell (p:=⟨fb.heap.size,0,none⟩) (bD _) (2:Int)).setCell (p:=⟨fb.heap.size,1,none⟩) (bD _) (.string (S.extract k j)));have uH:=A (cC.o.below dn.o);by_cases gW:(9:Int)<n
           .as_aux_lemma=>
            have o8:Hid (aa.scan (aC S)= .error (3,k)):=A (by
             rw[z.o];exact aa.go_bad pd.o k8.o (kN.o.trans (aS (Or.inl J))))
            clear z kN;go_wp2;exact Be (zh uH.o o8.o).1 (zh uH.o o8.o).2 rfl rfl
           .by_cases R:(1:Int)<n
            .by_cases CE:Y (aC S) k 0=48
             .as_aux_lemma=>
              have ahk:((S[k].toNat:Int)==48)=true:=(SC nx.o 48).trans (by rw[CE];rfl);have K6:=A CE;clear CE;have o8:Hid (aa.scan (aC S)= .error (3,k)):=A (by
               rw[z.o];exact aa.go_bad pd.o k8.o (kN.o.trans (aS (Or.inr ⟨by omega,K6.o⟩))))
              clear z kN;go_wp2;exact Be (zh uH.o o8.o).1 (zh uH.o o8.o).2 rfl rfl
             .as_aux_lemma=>
              have ahk:((S[k].toNat:Int)==48)=false:=(SC nx.o 48).trans (Q2 CE);have K6:=A CE;have Ft:Hid (¬(9<n\/(1<n/\Y (aC S) k 0=48))):=A (λh=>h.elim (λh=>by omega) (λh=>K6.o h.2));clear CE;have qg:(a7 (a7 tm fb.heap.size (2:Int)) (fb.heap.size,1) (.string (S.extract k j))).heap.size=tm.heap.size:=bT;have h7:w.heap.size<=(aA (a7 (a7 tm fb.heap.size (2:Int)) (fb.heap.size,1) (.string (S.extract k j))) (aw #[(2:Int),.string (S.extract k j),aX,k] 97)).heap.size:=(by have:=cC.o.av.size;have:=dn.o.size;simp;omega);have ow:=A (cC.o.below dn.o);have kc:=A (ow.o.row.row.alloc (aw #[(2:Int),.string (S.extract k j),aX,k] 97));have mZ:=j7 (cs:= #[(2:Int),.string (S.extract k j),aX,k]) (t:=97) (fr:=(0,0)) (hf (a7 (a7 tm fb.heap.size (2:Int)) (fb.heap.size,1) (.string (S.extract k j))) (aw #[(2:Int),.string (S.extract k j),aX,k] 97));rw[qg] at mZ;have qv:=A mZ;have Dr:D d'<=12000:=J;clear mZ qg;go_wp2_with(at_builtin;refine Bq _ rfl _ _ 62 rfl w.heap.size 97 i0 (.agg #[(0:Int),ke,(0:Int),(0:Int)]) 4 40 vA fM e' vN hj rfl aN _ _ _ rfl kc.o ⟨tm.heap.size,0,none⟩ 1 1 [(2:Int),.string (S.extract k j),aX,k] rfl rfl qv.o (tQ _ _ _ _) ?c3 ?c4 h7 ?_;rotate_right;intro cc gF mU dv ry;have pW:=A (cC.o.add (t:=⟨2,aC (S.extract k j),aX,k⟩) dn.o dv mU);clear dv mU ry)
              case c3=>unfold dc;omega
              case c4=>omega
              have lA:Hid (aa.scan (aC S)=aa.go (aC S) j true (d'++[⟨2,aC (S.extract k j),aX,k⟩])):=A (by
               rw[z.o];refine aa.go_tok pd.o k8.o ?_ DT;rw[kN.o,ao Ft.o,(ep.o (by have:=gH.o;omega)).1,sk.o])
              clear kc ow cC z dn qv;go_roundw
              case rel=>exact⟨j,true,_,by omega,by go_num,rfl,by simp;omega,lA,A (λ_=>by simp),pW⟩
              case measure=>simp[intOf];omega
            .as_aux_lemma=>
             have Ft:Hid (¬(9<n\/(1<n/\Y (aC S) k 0=48))):=A (λh=>h.elim (λh=>by omega) (λh=>by omega));have qg:(a7 (a7 tm fb.heap.size (2:Int)) (fb.heap.size,1) (.string (S.extract k j))).heap.size=tm.heap.size:=bT;have h7:w.heap.size<=(aA (a7 (a7 tm fb.heap.size (2:Int)) (fb.heap.size,1) (.string (S.extract k j))) (aw #[(2:Int),.string (S.extract k j),aX,k] 97)).heap.size:=(by have:=cC.o.av.size;have:=dn.o.size;simp;omega);have ow:=A (cC.o.below dn.o);have kc:=A (ow.o.row.row.alloc (aw #[(2:Int),.string (S.extract k j),aX,k] 97));have mZ:=j7 (cs:= #[(2:Int),.string (S.extract k j),aX,k]) (t:=97) (fr:=(0,0)) (hf (a7 (a7 tm fb.heap.size (2:Int)) (fb.heap.size,1) (.string (S.extract k j))) (aw #[(2:Int),.string (S.extract k j),aX,k] 97));rw[qg] at mZ;have qv:=A mZ;have Dr:D d'<=12000:=J;clear mZ qg;go_wp2_with(at_builtin;refine Bq _ rfl _ _ 62 rfl w.heap.size 97 i0 (.agg #[(0:Int),ke,(0:Int),(0:Int)]) 4 40 vA fM e' vN hj rfl aN _ _ _ rfl kc.o ⟨tm.heap.size,0,none⟩ 1 1 [(2:Int),.string (S.extract k j),aX,k] rfl rfl qv.o (tQ _ _ _ _) ?c3 ?c4 h7 ?_;rotate_right;intro cc gF mU dv ry;have pW:=A (cC.o.add (t:=⟨2,aC (S.extract k j),aX,k⟩) dn.o dv mU);clear dv mU ry)
             case c3=>unfold dc;omega
             case c4=>omega
             have lA:Hid (aa.scan (aC S)=aa.go (aC S) j true (d'++[⟨2,aC (S.extract k j),aX,k⟩])):=A (by
              rw[z.o];refine aa.go_tok pd.o k8.o ?_ DT;rw[kN.o,ao Ft.o,(ep.o (by have:=gH.o;omega)).1,sk.o])
             clear kc ow cC z dn qv;go_roundw
             case rel=>exact⟨j,true,_,by omega,by go_num,rfl,by simp;omega,lA,A (λ_=>by simp),pW⟩
             case measure=>simp[intOf];omega
        |false=>
         as_aux_lemma=>
         have AI:=A r_;clear r_;go_wp2;go_loopw[19] (λm dN=> ∃(n:Nat) (g:List UInt8),n<=25/\m= n/\D g<=2/\dN=aA fb (aw #[(3:Int),g,(0:Int),k] 97)/\Hid ((g=[]/\ ∀x∈aa.gD.take n,x.isPrefixOf ((aC S).drop k)=false)\/(g≠[]/\xN ((aC S).drop k)=some g))) (λm _=>25-(intOf m).toNat)
         case atStart=>exact⟨0,[],by omega,rfl,by simp,rfl,A (Or.inl ⟨rfl,λx aF=>by simp at aF⟩)⟩
         case round=>
          obtain⟨n,g,ax,rfl,ft,rfl,eU⟩:=hrel;have FK:=A (cC.o.below (show aL fb fb (aA fb (aw #[(3:Int),g,(0:Int),k] 97)) by go_grown));by_cases aB:g=[]
          .subst aB;have qO:=A (eU.o.resolve_right (λh=>h.1 rfl)).2;have t1:(str ([]:List UInt8)).toList=[]:=(by rw[fC,f_]);have t2:((str ([]:List UInt8)).toList==[])=true:=(by rw[t1];rfl);clear eU;by_cases zS:n<25
           .have gU:=FK.o.gD.cell (k:=n) (show n<aa.gD.length from zS);obtain⟨hp,kd⟩:=QI n zS;have dj:Hid (n2 (aa.gD.getD n []) ((aC S).drop k)=true->xN ((aC S).drop k)=some (aa.gD.getD n [])):=A (λh=>QV (p:=λg=>g.isPrefixOf ((aC S).drop k)) (show n<aa.gD.length from zS) qO.o h);have pO:Hid (n2 (aa.gD.getD n []) ((aC S).drop k)=false-> ∀x∈aa.gD.take (n+1),x.isPrefixOf ((aC S).drop k)=false):=A (λh x aF=>by
             rw[List.take_succ_eq_append_getElem (show n<aa.gD.length from zS),List.mem_append,sE] at aF;obtain aF|aF:=aF
             .exact qO.o x aF
             .have e:aa.gD.getD n []=aa.gD[n]'(show n<aa.gD.length from zS):=(by simp[cE (show n<aa.gD.length from zS)]);rw[aF,<-e];exact h)
            have amz:aa.gD.length=25:=rfl;have Mx:=A hp;clear hp;generalize aa.gD.getD n []=y at*;go_wp2;refine b7 (VV S (str y) k _ J (by rw[js];omega) J) ?_;rintro bm rfl;rw[f_];cases Jf:n2 y ((aC S).drop k) with
            |true=>
             have FJ:=A (dj.o Jf);clear dj pO qO Jf;go_wp2;go_roundw
             case rel=>exact⟨n+1,y,by omega,by go_num,kd,rfl,A (Or.inr ⟨Mx.o,FJ.o⟩)⟩
             case measure=>simp[intOf];omega
            |false=>
             have FJ:=A (pO.o Jf);clear dj pO qO Jf;go_wp2;go_roundw
             case rel=>exact⟨n+1,[],by omega,by go_num,by simp,rfl,A (Or.inl ⟨rfl,FJ.o⟩)⟩
             case measure=>simp[intOf];omega
           .obtain rfl:n=25:=J;have o8:Hid (aa.scan (aC S)= .error (2,k)):=A (by
             rw[z.o];have aI:xN ((aC S).drop k)=none:=C0 (p:=λg=>g.isPrefixOf ((aC S).drop k)) (by have h:=qO.o;rwa[show aa.gD.take 25=aa.gD from rfl] at h);exact aa.go_bad pd.o k8.o (CZ qi.o xz.o pj.o AI.o aI))
            have AM:=FK;clear qO;obtain⟨bO,bq,wa,wb,CC,CD,jQ⟩:=Kp AM.o;go_wp2;exact Be (zh AM.o o8.o).1 (zh AM.o o8.o).2 rfl rfl
          .have dj:=A (eU.o.resolve_left (λh=>aB h.1)).2;have t1: ¬(str g).toList=[]:=(by rw[fC,f_];exact aB);have t2:((str g).toList==[])=false:=(by rw[fC,f_];simpa using aB);have t3:(str g).toList.isEmpty=false:=(by rw[fC,f_];simpa using aB);have BT:0<D g:=List.length_pos_iff.2 aB;have yP:(str g).size=D g:=js g;have pA:k+D g<=S.size:=by
            have aH:aa.gD.find? (λg=>g.isPrefixOf ((aC S).drop k))=some g:=dj.o;have R:=List.find?_some aH;have T:=(List.isPrefixOf_iff_prefix.1 R).length_le;rw[qA] at T;omega
           clear eU aB FK;by_cases zS:n<25
           .skip;have dn:Hid (aL fb fb (aA fb (aw #[(3:Int),g,(0:Int),k] 97))):=A (by go_grown);have qg:(aA fb (aw #[(3:Int),g,(0:Int),k] 97)).heap.size=fb.heap.size+1:=bT;have h7:w.heap.size<=(aA (aA fb (aw #[(3:Int),g,(0:Int),k] 97)) (aw #[(3:Int),g,(0:Int),k] 97)).heap.size:=(by have:=cC.o.av.size;have:=dn.o.size;simp;omega);have ow:=A (cC.o.below dn.o);have kc:=A (ow.o.row.row.alloc (aw #[(3:Int),g,(0:Int),k] 97));have mZ:=j7 (cs:= #[(3:Int),g,(0:Int),k]) (t:=97) (fr:=(0,0)) (hf (aA fb (aw #[(3:Int),g,(0:Int),k] 97)) (aw #[(3:Int),g,(0:Int),k] 97));rw[qg] at mZ;have qv:=A mZ;have Dr:D d'<=12000:=J;clear mZ qg;go_wp2_with(at_builtin;refine Bq _ rfl _ _ 62 rfl w.heap.size 97 i0 (.agg #[(0:Int),ke,(0:Int),(0:Int)]) 4 40 vA fM e' vN hj rfl aN _ _ _ rfl kc.o ⟨fb.heap.size+1,0,none⟩ 1 1 [(3:Int),g,(0:Int),k] rfl rfl qv.o (tQ _ _ _ _) ?c3 ?c4 h7 ?_;rotate_right;intro cc gF mU dv ry;have pW:=A (cC.o.add (t:=⟨3,aC (str g),0,k⟩) dn.o dv mU);clear dv mU ry)
            case c3=>unfold dc;omega
            case c4=>omega
            have lA:Hid (aa.scan (aC S)=aa.go (aC S) (k+D g) true (d'++[⟨3,aC (str g),0,k⟩])):=A (by
             rw[z.o];exact aa.go_tok pd.o k8.o (CZ qi.o xz.o pj.o AI.o dj.o) J)
            clear kc ow cC z dn qv;go_roundw
            case rel=>exact⟨k+D g,true,_,by omega,by go_num,rfl,by simp;omega,lA,A (λ_=>by simp),pW⟩
            case measure=>simp[intOf];omega
           .skip;have dn:Hid (aL fb fb (aA fb (aw #[(3:Int),g,(0:Int),k] 97))):=A (by go_grown);have qg:(aA fb (aw #[(3:Int),g,(0:Int),k] 97)).heap.size=fb.heap.size+1:=bT;have h7:w.heap.size<=(aA (aA fb (aw #[(3:Int),g,(0:Int),k] 97)) (aw #[(3:Int),g,(0:Int),k] 97)).heap.size:=(by have:=cC.o.av.size;have:=dn.o.size;simp;omega);have ow:=A (cC.o.below dn.o);have kc:=A (ow.o.row.row.alloc (aw #[(3:Int),g,(0:Int),k] 97));have mZ:=j7 (cs:= #[(3:Int),g,(0:Int),k]) (t:=97) (fr:=(0,0)) (hf (aA fb (aw #[(3:Int),g,(0:Int),k] 97)) (aw #[(3:Int),g,(0:Int),k] 97));rw[qg] at mZ;have qv:=A mZ;have Dr:D d'<=12000:=J;clear mZ qg;go_wp2_with(at_builtin;refine Bq _ rfl _ _ 62 rfl w.heap.size 97 i0 (.agg #[(0:Int),ke,(0:Int),(0:Int)]) 4 40 vA fM e' vN hj rfl aN _ _ _ rfl kc.o ⟨fb.heap.size+1,0,none⟩ 1 1 [(3:Int),g,(0:Int),k] rfl rfl qv.o (tQ _ _ _ _) ?c3 ?c4 h7 ?_;rotate_right;intro cc gF mU dv ry;have pW:=A (cC.o.add (t:=⟨3,aC (str g),0,k⟩) dn.o dv mU);clear dv mU ry)
            case c3=>unfold dc;omega
            case c4=>omega
            have lA:Hid (aa.scan (aC S)=aa.go (aC S) (k+D g) true (d'++[⟨3,aC (str g),0,k⟩])):=A (by
             rw[z.o];exact aa.go_tok pd.o k8.o (CZ qi.o xz.o pj.o AI.o dj.o) J)
            clear kc ow cC z dn qv;go_roundw
            case rel=>exact⟨k+D g,true,_,by omega,by go_num,rfl,by simp;omega,lA,A (λ_=>by simp),pW⟩
            case measure=>simp[intOf];omega
end Go.Proofs.YtjfkhpkicioakaaGreatDoor
