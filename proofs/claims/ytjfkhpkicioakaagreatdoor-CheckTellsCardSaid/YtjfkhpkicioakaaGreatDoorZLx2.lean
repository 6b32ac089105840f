/- PROVED HERE: the lexer of the program, walked. No condition. -/
import Derived.Test.YtjfkhpkicioakaaGreatDoorZLx1
import Derived.Test.YtjfkhpkicioakaaGreatDoorShelf
import Derived.WalkKit
import Derived.ProofKit
import Derived.WalkSmall
import Derived.OneCell
import Derived.LoopTactic
import Derived.Outline
import Derived.Deep.QuietTactic
import Derived.BigQuiet
import Derived.Lib.Hide
import Derived.WalkSpells
import Derived.WalkLawsBesides
import Derived.IntWalk
import Derived.Handy
import Derived.Laws.OwnMore
import Derived.Deep.RegionWith
import Derived.Deep.RegionHeld3
import Derived.Deep.DeepCutAuto
import Derived.Deep.RegionLaw
import Derived.Deep.LoopGhost
import Derived.Deep.AppendLies
import Derived.Lib.AtoiErrMem
import Derived.Recover
import Derived.RegionTactic
import Derived.BigRegion
import Derived.Test.YtjfkhpkicioakaaGreatDoorRows
import Derived.OpenShut
import Derived.PinnedBridge
import Derived.Lib.LaidU8
set_option maxRecDepth 100000
set_option maxHeartbeats 60000000
set_option linter.all false
open Array renaming replicate->vy
open Bool renaming noConfusion->GJ
open ByteArray renaming empty->ke
open Go renaming Ending->e7,Value->af,World->ai,maxLen->dc,results->iX,undef->eb
open Go.Calls renaming quiet_of_same->Dk
open Go.Lib renaming decodeN->Bo
open Go.Proofs.Tryz renaming underlying62->vA
open Go.RowKit renaming Below->aL
open Go.Value renaming ownBlock->tA,string->mm
open Go.World renaming alloc->aA,cell?->aG,setCell->a7
open List renaming getD->Y,isPrefixOf->n2,length->D
open Go.Proofs.YtjfkhpkicioakaaGreatDoor.aa
open Go.Proofs.Tryz
namespace Go.Proofs.YtjfkhpkicioakaaGreatDoor
open Go.RowKit
def aC (S:ByteArray):List UInt8:=S.data.toList
def str (l:List UInt8):ByteArray:=⟨l.toArray⟩
instance:Coe (List UInt8) af:=⟨λt=>.string (str t)⟩
instance(q:List UInt8):CoeDep (List (List UInt8)) [q] af:=⟨.string (str q)⟩
instance(q:List UInt8):CoeDep (Option (List (List UInt8))) (some [q]) (Option af):=⟨some (.string (str q))⟩
def f_(l):aC (str l)=l:=rfl
def KU(S):str (aC S)=S:=rfl
def kf(S:ByteArray):D (aC S)=S.size:=Array.length_toList
def js(l:List UInt8):(str l).size=D l:=by rw[<-kf,f_]
def fC(S:ByteArray):S.toList=aC S:=ByteArray.toList_eq S
def xQ(S:ByteArray)(i j:Nat):aC (S.extract i j)=aa.cut (aC S) i j:=by unfold aC aa.cut;rw[ByteArray.data_extract,Array.toList_extract]
def R5{a b}(h:aC a=aC b):a=b:=by rw[<-KU a,<-KU b,h]
def p9 (w:ai)(q:Nat)(L:List (List UInt8)):Prop:=w.heap[q]?=some (.cells (L.map λl=>mm (str l)).toArray 9 (0,0))
def bd{w:ai}{p o}(h:w.heap[p]?=some o):p<w.heap.size:=(Array.getElem?_eq_some_iff.1 h).1
def az{w:ai}{p:Nat}{c:Array af}{t:TypeId}(h:w.heap[p]?=some (.cells c t (0,0)))(i:Nat):aG w (p,i)=c[i]?:=by simp[World.cell?,h]
def cX{w:ai}{p}{c:Array af}{t:TypeId}(h:w.heap[p]?=some (.cells c t (0,0)))(i):w.frozen? ⟨p,i,none⟩=false:=by simp[World.frozen?,h]
def et{w:ai}{p:Nat}{c:Array af}{t:TypeId}(h:w.heap[p]?=some (.cells c t (0,0)))(i:Nat)(u):(a7 w (p,i) u).heap[p]?=some (.cells (c.setIfInBounds i u) t (0,0)):=by simp[World.setCell,Array.getElem?_modify,h]
def fK{w p q o}(h:w.heap[q]?=o)(aZ:q≠p)(i u):(a7 w ⟨p,i,none⟩ u).heap[q]?=o:=by rw[Below.heap_setCell _ _ _ _ aZ];exact h
def hO{w:ai}{p:Nat}{o:Obj}(h:w.heap[p]?=some o)(x:Obj):(aA w x).heap[p]?=some o:=by rw[Below.heap_alloc _ _ _ (bd h)];exact h
def ek(w:ai)(x:Obj):(aA w x).heap[w.heap.size]?=some x:=by show(w.heap.push x)[w.heap.size]?=_;simp
def ds{N w w' p o}(h:w.heap[p]?=some o)(G:aL N w w')(aJ:p<N):w'.heap[p]?=some o:=(G.block p aJ).trans h
def xO{w w':ai}{row p o}(h:w.heap[p]?=some o)(aB:w.grownBy w' row)(aJ:some p≠row):w'.heap[p]?=some o:=(aB.block p (bd h) aJ).trans h
def mu{w:ai}{base e size n:Nat}{v:af}{xs p}{c:Array af}{t:TypeId}(fF:w.ownsRow base e size v n xs)(h:w.heap[p]?=some (.cells c t (0,0)))(aZ:e≠t):v.ownBlock≠some p:=by
 obtain⟨rfl,_⟩|⟨g,cap,cur,rfl,_,aB,_⟩:=fF.2
 .simp[tA]
 .simp only[tA];intro ag;cases ag;rw[h] at aB;cases aB;exact aZ rfl
def fZ{w w' N base e size n v xs}(fF:w.ownsRow base e size v n xs)(G:aL N w w')(hN: ∀k,v.ownBlock=some k->k<N):w'.ownsRow base e size v n xs:=by
 refine⟨fF.1,?_⟩;obtain h|⟨g,cap,cur,rfl,R,aB,T⟩:=fF.2
 .exact Or.inl h
 .exact Or.inr ⟨g,cap,cur,rfl,R,(G.block g (hN g rfl)).trans aB,T⟩
def dR {w:ai} {base e size n:Nat} {v:af} {xs:List af} (h:w.ownsRow base e size v n xs) (ax:0<n): ∃g cap,v= .slice (some ⟨g,0,none⟩) n cap:=by
 obtain⟨_,aH⟩|⟨g,cap,cur,bQ,_⟩:=h.2
 .omega
 .exact⟨g,cap,bQ⟩
def eR {w:ai} {base e size n m:Nat} {v:af} {xs:List af} (h:w.ownsRow base e size v n xs) (hm:n=m): ∃a cap,v= .slice a m cap:=by
 subst hm;obtain⟨rfl,aH⟩|⟨g,cap,cur,bQ,_⟩:=h.2
 .exact⟨none,0,by rw[aH]⟩
 .exact⟨_,cap,bQ⟩
def eZ{base e size n p i:Nat}{w:ai}{v u:af}{xs:List af}{t:TypeId}{c:Array af}(h:w.ownsRow base e size v n xs)(aJ:w.heap[p]?=some (.cells c t (0,0)))(aZ:e≠t):(a7 w (p,i) u).ownsRow base e size v n xs:=
 ownsRow_setCell_other h (a:=⟨p,i,none⟩) (mu h aJ aZ) u
def p9.cell{w q k L}(h:p9 w q L)(U:k<D L):aG w (q,k)=some [Y L k []]:=by rw[az h];simp[U]
def p9.below{N w w' q L}(h:p9 w q L)(G:aL N w w')(a_:q<N):p9 w' q L:=ds h G a_
def lD{a b}(h:a=b):Ending.returned (.bool a)= .returned (.bool b):=by rw[h]
def F5: ∀c:UInt8,aa.letter c=decide ((c.toNat:Int)=95\/(97<=(c.toNat:Int)/\(c.toNat:Int)<=122)\/(65<=(c.toNat:Int)/\(c.toNat:Int)<=90)):=by
 intro c;have h:c=95↔c.toNat=95:=by rw[<-UInt8.toNat_inj];simp
 unfold aa.letter;rw[qB];simp only[Bool.or_eq_true,pv,beq_iff_eq,pt,UInt8.le_iff_toNat_le,h];simp;omega
def xP: ∀c:UInt8,aa.digit c=decide (48<=(c.toNat:Int)/\(c.toNat:Int)<=57):=by intro c;unfold aa.digit;rw[qB];simp only[pv,pt,UInt8.le_iff_toNat_le];simp;omega
def O6(c:UInt8)(w:ai):aY 50 #[.int .u8 (c.toNat:Int)] w λe w'=>e= .returned (.bool (aa.letter c))/\w=w':=by
 go_in;go_wp2
 all_goals
  go_returns;refine⟨lD ?_,rfl⟩;rw[F5,qB];simp;omega
def Gd(c:UInt8)(w:ai):aY 51 #[.int .u8 (c.toNat:Int)] w λe w'=>e= .returned (.bool (aa.digit c))/\w=w':=by
 go_in;go_wp2
 all_goals
  go_returns;refine⟨lD ?_,rfl⟩;rw[xP,qB];simp;omega
def VV(S g:ByteArray)(i)(w:ai)(ay:i<=S.size)(aB:g.size<=100)(aD:S.size<=6000):aY 48 #[S,i,g] w λe w'=>e= .returned (.bool ((aC g).isPrefixOf ((aC S).drop i)))/\w=w':=by
 have hl:=kf S;have ft:=kf g;go_in;by_cases h:i+g.size<=S.size
 .go_wp2;go_returns;refine⟨lD ?_,rfl⟩;rw[fC,fC,xQ,qB,beq_iff_eq,List.isPrefixOf_iff_prefix,List.prefix_iff_eq_take,ft];unfold aa.cut;rw[show i+g.size-i=g.size by omega];exact eq_comm
 .go_wp2;go_returns;refine⟨lD ?_,rfl⟩;rw[eq_comm,Bool.eq_false_iff];intro R;have T:=(List.isPrefixOf_iff_prefix.1 R).length_le;rw[qA] at T;omega
def hasB (L:List (List UInt8))(x:ByteArray):Bool:=L.contains (aC x)
def KE (L:List (List UInt8)) (q:Nat) (x:ByteArray) (w:ai) (a_:p9 w q L) (h8:L.length<=1000):Calls prog 52 #[.slice (some ⟨q,0,none⟩) L.length L.length,.string x] w λe w'=>e= .returned (.bool (hasB L x))/\w=w':=by
 have eV:=A a_;have qZ:=bd a_;clear a_
 go_in
 go_wp2
 go_loop [5] (λi=> ∃k:Nat,k<=L.length/\i= .int .i64 k/\Hid ((L.take k).contains (aC x)=false)) (λi=>L.length-(intOf i).toNat)
 case atStart=>exact⟨0,by omega,rfl,A (by simp)⟩
 case round=>
  obtain⟨k,U,rfl,bK⟩:=hrel
  by_cases bN:k<L.length
  .have hc:=eV.o.cell bN;have ag:L.take (k+1)=L.take k++[L.getD k []]:=by rw[List.take_succ_eq_append_getElem bN];simp[cE bN]
   have hm:L.getD k []∈L:=by simp[cE bN]
   have yk:=A ag;have c0:=A hm;clear ag hm;generalize L.getD k []=y at*
   by_cases bx:y=aC x
   .have bI:((str y).toList==x.toList)=true:=by rw[fC,fC,f_,bx];simp
    have p0:Hid (hasB L x=true):=A (by unfold hasB;rw[List.contains_iff_mem];rw[<-bx];exact c0.o);clear bx;go_wp2
    go_returns
    exact⟨lD p0.o.symm,rfl⟩
   .have bI:((str y).toList==x.toList)=false:=by rw[fC,fC,f_];simpa using bx
    have ep:Hid ((L.take (k+1)).contains (aC x)=false):=A (by
     have:=bK.o;rw[yk.o];simp only[List.contains_eq_mem,List.mem_append,sE,decide_eq_false_iff_not] at this|-;intro h;obtain h|h:=h
     .exact this h
     .exact bx h.symm)
    clear bx;go_wp2
    go_round
    case rel=>exact⟨k+1,by omega,by go_num,ep⟩
    case measure=>simp[intOf];omega
  .obtain rfl:k=L.length:=by omega
   have ep:Hid (hasB L x=false):=A (by have:=bK.o;rw[mM] at this;exact this);clear bK;go_wp2
   go_returns
   exact⟨lD ep.o.symm,rfl⟩
def ZZ(w:ai):aY 45 #[] w λe w'=>e= .returned (.slice (some w.heap.size) 24 24)/\p9 w' w.heap.size aa.words/\aL w w w'/\w'.heap.size=w.heap.size+1:=by go_in;go_wp2;go_returns;exact⟨rfl,ek _ _,by go_grown,by simp⟩
def Z0(w:ai):aY 46 #[] w λe w'=>e= .returned (.slice (some w.heap.size) 25 25)/\p9 w' w.heap.size gD/\aL w w w'/\w'.heap.size=w.heap.size+1:=by go_in;go_wp2;go_returns;exact⟨rfl,ek _ _,by go_grown,by simp⟩
def JY(p c at_)(w:ai):aY 98 #[.pointer (some ⟨p,0,none⟩),.int .i64 c,.int .i64 at_] w λe w'=>e= .panicked [{v:= .iface 109 (.agg #[.int .i64 c,.int .i64 at_]),recovered:=false}]/\w=w':=by go_in;go_wp2;exact⟨rfl,rfl,rfl⟩
def kF (V:Nat)(w:ai):Prop:= ∀w',aL V w w'->Lib.Utf8Tabs 0 1 w'/\Lib.TabIs prog w' "strings.asciiSpace" .u8 Lib.asciiSpaceTab
def kF.below{V N w w'}(h:kF V w)(G:aL N w w')(hN:V<=N):kF V w':=λw2 T=>h w2 ((G.mono hN).trans T)
def r8 (p:Nat)(w:ai)(S:ByteArray)(i:Nat)(line:Bool)(v:af):Prop:=w.heap[p]?=some (.cells #[S,i,.bool line,v] 112 (0,0))
def FY(S:ByteArray)(j:Nat):S.extract j S.size=str ((aC S).drop j):=by apply R5;rw[xQ,f_];unfold aa.cut;rw[u7 (by rw[qA,kf];omega)]
def QL(p i:Nat)(S:ByteArray)(line:Bool)(v)(w:ai)(aJ:r8 p w S i line v):aY 87 #[(p,0),S.size] w λe w'=>e= .returned (.tuple #[.int .i32 (-1),(0:Int)])/\w=w':=by have bO:=az aJ 0;simp only[cO,cQ] at bO;go_in;go_wp2;exact oK (v:= .tuple #[.int .i32 (-1),(0:Int)]) (by simp[iX,results87,go_sem]) rfl ⟨rfl,rfl⟩
def J0(V p i j:Nat)(S:ByteArray)(line:Bool)(v)(w:ai)(aJ:r8 p w S i line v)(bg:j<S.size)(Nf:S.size<=6000)(hT:kF V w):
  aY 87 #[(p,0),j] w λe w'=>aL w w w'/\((aa.dec ((aC S).drop j)=(65533,1)/\e= .panicked [{v:= .iface 109 (.agg #[(2:Int),j]),recovered:=false}])\/(aa.dec ((aC S).drop j)≠(65533,1)/\e= .returned (.tuple #[.int .i32 ((aa.dec ((aC S).drop j)).1:Int),[((aa.dec ((aC S).drop j)).2:Int)]]))):=by
 have bO:=az aJ 0;simp only[cO,cQ] at bO;have Ni:=A (hT _ (aT _ _)).1;have uy:((j:Int)==(S.size:Int))=false:=by simp;omega
 have Nj:=A (FY S j);have aZ:(aC S).drop j≠[]:=by intro h;have:=List.drop_eq_nil_iff.1 h;rw[kf] at this;omega
 obtain⟨d1,d2,d3⟩:=KP aZ;clear hT;go_in;have Go:=0;go_wp2;rw[Nj.o];refine b7 (utf8_DecodeRuneInString (str ((aC S).drop j)) _ Ni.o) λb4 g_=>?_;have uj:Lib.decodeGo (str ((aC S).drop j))=aa.dec ((aC S).drop j):=rfl;rw[uj];have bh:=A g_;clear g_;obtain⟨r,au⟩: ∃r,(aa.dec ((aC S).drop j)).1=r:=⟨_,rfl⟩;obtain⟨n,ax⟩: ∃n,(aa.dec ((aC S).drop j)).2=n:=⟨_,rfl⟩;have hq:Hid (aa.dec ((aC S).drop j)=(r,n)):=A (by rw[<-au,<-ax]);rw[au,ax];rw[au] at d3;rw[ax] at d1 d2;by_cases R:r=65533
 .subst R;by_cases T:n=1
  .subst T;go_wp2;refine b7 (JY p 2 (j:Int) _) ?_;rintro b3 rfl;go_wp2;exact⟨rfl,bh.o,Or.inl ⟨hq.o,rfl⟩⟩
  .have g1:((n:Int)==1)=false:=(by simp;omega);have ep:=A T;clear T;go_wp2;exact oK (v:= .tuple #[.int .i32 65533,n]) (by simp[iX,results87,go_sem]) rfl ⟨bh.o,Or.inr ⟨by rw[hq.o];intro h;injection h with _ h;exact ep.o h,by rw[hq.o];rfl⟩⟩
 .have g1:((r:Int)==65533)=false:=by simp;omega
  have ep:=A R;clear R;go_wp2;exact oK (v:= .tuple #[.int .i32 (r:Int),n]) (by simp[iX,results87,go_sem]) rfl ⟨bh.o,Or.inr ⟨by rw[hq.o];intro h;injection h with h _;exact ep.o h,by rw[hq.o]⟩⟩
def abX(n eS b1 b2 bC:Nat):(Bo n eS b1 b2 bC).1<128↔eS<128:=by
 unfold Bo
 repeat' split
 all_goals(simp;try omega)
def Ye(n eS b1 b2 bC:Nat)(h:eS<128):Bo n eS b1 b2 bC=(eS,1):=by unfold Bo;rw[aS h]
def PF{l}(h:l≠[]):((Y l 0 0).toNat<128->aa.dec l=((Y l 0 0).toNat,1))/\(128<=(Y l 0 0).toNat->128<=(aa.dec l).1):=by
 have hl:0<D l:=List.length_pos_iff.2 h;have hs:(⟨l.toArray⟩:ByteArray).size=D l:=by show l.toArray.size=_;simp
 have aB:(⟨l.toArray⟩:ByteArray).get! 0=Y l 0 0:=by
  cases l with
  |nil=>exact absurd rfl h
  |cons x r=>rfl
 unfold aa.dec Lib.decodeGo;rw[ao (by rw[hs];omega),Lib.decode_at,aB];refine⟨λR=>Ye _ _ _ _ _ R,λR=>?_⟩;have:=abX ((⟨l.toArray⟩:ByteArray).size- 0) (Y l 0 0).toNat ((⟨l.toArray⟩:ByteArray).get! (0+1)).toNat ((⟨l.toArray⟩:ByteArray).get! (0+2)).toNat ((⟨l.toArray⟩:ByteArray).get! (0+3)).toNat;omega
def Jy(s:List UInt8)(j:Nat):Y (s.drop j) 0 0=Y s j 0:=bT
def r8.below{p i w w' S line v}(h:r8 p w S i line v)(G:aL w w w'):r8 p w' S i line v:=ds h G (bd h)
def JM (S:ByteArray)(i:Nat)(w:ai)(e:e7)(w':ai):Prop:=
 aL w w w'/\((∃j,kV (aC S) i= .error j/\e= .panicked [{v:= .iface 109 (.agg #[(2:Int),j]),recovered:=false}])\/(∃j,kV (aC S) i= .ok j/\j<=S.size/\e= .returned j))
def abT(V p i:Nat)(S:ByteArray)(line:Bool)(v)(w:ai)(aJ:r8 p w S i line v)(ay:i<=S.size)(aD:S.size<=6000)(hT:kF V w)(bY:V<=w.heap.size):aY 90 #[(p,0)] w (JM S i w):=by
 have bq:=az aJ 1;simp only[cO,cQ,c8] at bq;have d_:=A aJ;have bW:=A hT;have gV:=bd aJ;clear aJ hT;go_in;have Go:=0;go_wp2;go_loopw[3] (λx wr=> ∃j:Nat,j<=S.size/\x= j/\Hid (kV (aC S) i=kV (aC S) j)/\Hid (aL w w wr)) (λx _=>S.size-(intOf x).toNat)
 case atStart=>exact⟨i,ay,rfl,A rfl,A (aT _ _)⟩
 case round=>
  obtain⟨j,bg,rfl,iH,bh⟩:=hrel;have RB:=A (d_.o.below bh.o);by_cases uy:j<S.size
  .have aZ:(aC S).drop j≠[]:=(by intro h;have:=List.drop_eq_nil_iff.1 h;rw[kf] at this;omega);obtain⟨d1,d2,d3⟩:=KP aZ;obtain⟨c9,cw⟩:=PF aZ;rw[Jy] at c9 cw;rw[qA,kf] at d2;have xB:=A c9;have ac9:=A cw;clear c9 cw;go_wp2;refine(J0 V p i j S line v wr RB.o uy aD (bW.o.below bh.o bY)).mono ?_;rintro e bm ⟨dh,⟨bB,rfl⟩|⟨bB,rfl⟩⟩
   .have jK:Y (aC S) j 0≠10:=by
     intro h;have:=xB.o (by rw[h];decide);rw[bB,h] at this;cases this
    have ba:Hid (JM S i w (.panicked [{v:= .iface 109 (.agg #[(2:Int),j]),recovered:=false}]) bm):=A ⟨bh.o.trans (dh.mono bh.o.size),Or.inl ⟨j,by rw[iH.o,OL (by rw[kf];exact uy) jK bB],rfl⟩⟩;clear bB;go_wp2;exact⟨rfl,ba.o⟩
   .have dn:=A (bh.o.trans (dh.mono bh.o.size));have hq:=A bB;clear bB;by_cases jK:Y (aC S) j 0=10
    .have a_:=xB.o (by rw[jK];decide);rw[a_,jK];have ba:Hid (JM S i w (.returned j) bm):=A ⟨dn.o,Or.inr ⟨j,by rw[iH.o,F1 (by rw[jK];simp)],bg,rfl⟩⟩;have kr:(((10:UInt8).toNat:Nat):Int)=10:=rfl;rw[show((10:UInt8).toNat,1).1=10 from rfl];go_wp2;go_returns;exact ba.o
    .have alu:(aa.dec ((aC S).drop j)).1≠10:=by
      intro h;by_cases afL:(Y (aC S) j 0).toNat<128
      .have:=xB.o afL;rw[this] at h;exact jK (UInt8.toNat_inj.1 h)
      .have:=ac9.o J;omega
     have kn:Hid (kV (aC S) i=kV (aC S) (j+(aa.dec ((aC S).drop j)).2)):=A (by
      rw[iH.o,OD (by rw[kf];exact uy) jK hq.o,show max 1 (aa.dec ((aC S).drop j)).2=(aa.dec ((aC S).drop j)).2 by omega])
     generalize(aa.dec ((aC S).drop j)).1=r at*;generalize(aa.dec ((aC S).drop j)).2=n at*;have g1:((r:Int)==10)=false:=(by simp;omega);go_wp2;go_roundw
     case rel=>exact⟨j+n,by omega,by go_num,kn,dn⟩
     case measure=>simp[intOf];omega
  .obtain rfl:j=S.size:=J;have ba:Hid (JM S i w (.returned S.size) wr):=A ⟨bh.o,Or.inr ⟨S.size,by rw[iH.o,F1 (by rw[kf];omega)],bD _,rfl⟩⟩;go_wp2;refine b7 (QL p i S line v wr RB.o) ?_;rintro bm rfl;go_wp2;go_returns;exact ba.o
def VD(c:UInt8)(w:ai):aY 94 #[.int .i32 (c.toNat:Int)] w λe w'=>e= .returned (.bool (aa.letter c))/\w=w':=by
 go_in;go_wp2
 all_goals
  go_returns;refine⟨lD ?_,rfl⟩;rw[F5,qB];simp;omega
def O4(c:UInt8)(w:ai):aY 91 #[.int .i32 (c.toNat:Int)] w λe w'=>e= .returned (.bool (aa.digit c))/\w=w':=by
 go_in;go_wp2
 all_goals
  go_returns;refine⟨lD ?_,rfl⟩;rw[xP,qB];simp;omega
def ZW(c:UInt8)(w:ai):aY 95 #[.int .i32 (c.toNat:Int)] w λe w'=>e= .returned (.bool (hr c))/\w=w':=by
 go_in;have Go:=0;go_wp2;refine b7 (VD c w) ?_;rintro w' rfl;cases hl:aa.letter c with
 |true=>
  have hd:Hid (hr c=true):=A (by unfold hr;rw[hl];rfl);go_wp2;go_returns;exact⟨lD hd.o.symm,rfl⟩
 |false=>
  have hd:Hid (hr c=aa.digit c):=A (by unfold hr;rw[hl];rfl);go_wp2;refine b7 (O4 c w) ?_;rintro w' rfl;go_wp2;go_returns;exact⟨lD hd.o.symm,rfl⟩
def Ji(L:List (List UInt8))(x):Lib.containsS (L.map str) x=hasB L x:=by
 unfold hasB;rw[qB,Lib.containsS_iff,List.contains_iff_mem,List.mem_map];constructor
 .rintro⟨l,hl,rfl⟩;exact hl
 .intro h;exact⟨_,h,KU x⟩
def p9.Sl{w q L}(h:p9 w q L): ∀j,j<D (L.map str)->aG w (q,0+j)=some (.string (Y (L.map str) j ke)):=by intro j bg;rw[h2] at bg;rw[Nat.zero_add,h.cell bg];simp[cE bg]
def abW(t:aa.Tok)(w:ai):aY 133 #[.agg #[t.j',t.O,t.aX,t.an]] w λe w'=>e= .returned (.bool (aa.ends t))/\aL w w w':=by
 obtain⟨j',O,aX,an⟩:=t;dsimp only;by_cases R:j'=1
 .subst R;go_in;go_wp2;go_returns;exact⟨lD (by simp[aa.ends]),by go_grown⟩
 .by_cases T:j'=2
  .subst T;go_in;go_wp2;go_returns;exact⟨lD (by simp[aa.ends]),by go_grown⟩
  .have g1:(j'==1)=false:=(by simpa using R);have g2:(j'==2)=false:=(by simpa using T);by_cases ah:j'=3
   .subst ah;go_in;go_wp2
    all_goals
     go_returns;refine⟨lD ?_,by go_grown⟩
     simp_all [aa.ends,fC,f_]
   .have g3:(j'==3)=false:=(by simpa using ah);have ba:Hid (aa.ends ⟨j',O,aX,an⟩=hasB vi (str O)):=A (by unfold aa.ends hasB;simp[R,T,ah,f_]);go_in;go_wp2_with fail;have a_:p9 (aA (aA w (aw #[j',O,aX,an] 97)) (.cells (vi.map λl=>mm (str l)).toArray 9)) (w.heap.size+1) vi:=by
     have:=ek (aA w (aw #[j',O,aX,an] 97)) (.cells (vi.map λl=>mm (str l)).toArray 9);rw[show(aA w (aw #[j',O,aX,an] 97)).heap.size=w.heap.size+1 by simp] at this;exact this
    refine b7 (slices_Contains_string (w.heap.size+1) 0 7 7 (vi.map str) (str O) _ aN J a_.Sl) ?_;rintro w' rfl;rw[show List.take 7 (List.map str vi)=vi.map str from rfl,Ji];go_wp2;go_returns;exact⟨lD ba.o.symm,by go_grown⟩
def A4:List UInt8:=[102,117,110,99,32,116,121,112,101,32,115,116,114,117,99,116,32,105,110,116,101,114,102,97,99,101,32,105,102,32,101,108,115,101,32,102,111,114,32,114,101,116,117,114,110,32,98,114,101,97,107,32,115,101,108,101,99,116,32,99,97,115,101,32,100,101,102,97,117,108,116,32,103,111,32,99,108,111,115,101,32,112,97,110,105,99,32,112,114,105,110,116,32,110,101,119,32,109,97,107,101,32,99,104,97,110,32,105,110,116,32,98,111,111,108,32,110,105,108,32,116,114,117,101,32,102,97,108,115,101]
def A5:List UInt8:=[60,45,32,61,61,32,33,61,32,60,61,32,62,61,32,38,38,32,124,124,32,58,61,32,40,32,41,32,123,32,125,32,46,32,44,32,59,32,58,32,42,32,43,32,45,32,47,32,37,32,60,32,62,32,61,32,33]
def WI:Lib.fields A4=aa.words:=by decide+kernel
def WJ:Lib.fields A5=gD:=by decide+kernel
def Xc: ∀b∈A4,b.toNat<128:=by decide+kernel
def Xd: ∀b∈A5,b.toNat<128:=by decide+kernel
def ZX:(str A4).size<4294967281:=by rw[js];decide+kernel
def ZY:(str A5).size<4294967281:=by rw[js];decide+kernel
def WK(w:ai)(hT:Lib.TabIs prog w "strings.asciiSpace" .u8 Lib.asciiSpaceTab):aY 137 #[A4] w λe w'=>e= .returned (.slice (some w.heap.size) 24 24)/\p9 w' w.heap.size aa.words/\aL w w w':=by refine b7 (strings_Fields (str A4) w ZX (λj b h=>Xc b (hX h)) hT) ?_;rintro w' rfl;rw[show(str A4).data.toList=A4 from rfl,WI];exact⟨rfl,ek _ _,by go_grown⟩
def WL(w:ai)(hT:Lib.TabIs prog w "strings.asciiSpace" .u8 Lib.asciiSpaceTab):aY 137 #[A5] w λe w'=>e= .returned (.slice (some w.heap.size) 25 25)/\p9 w' w.heap.size gD/\aL w w w':=by refine b7 (strings_Fields (str A5) w ZY (λj b h=>Xd b (hX h)) hT) ?_;rintro w' rfl;rw[show(str A5).data.toList=A5 from rfl,WJ];exact⟨rfl,ek _ _,by go_grown⟩
def XW(V:Nat)(w:ai)(hT:kF V w):aY 97 #[] w λe w'=>e= .returned (.slice (some w.heap.size) 25 25)/\p9 w' w.heap.size gD/\aL w w w':=by have bW:=A (hT _ (aT _ _)).2;clear hT;go_in;go_wp2_with fail;refine b7 (WL w bW.o) λw'⟨R,T⟩=>?_;have H1:=A R;have gR:=A T;clear R T;go_wp2;go_returns;exact⟨rfl,H1.o,gR.o⟩
def WG(V:Nat)(x)(w:ai)(hT:kF V w):aY 96 #[.string x] w λe w'=>e= .returned (.bool (hasB aa.words x))/\aL w w w':=by have bW:=A (hT _ (aT _ _)).2;clear hT;go_in;have Go:=0;go_wp2;refine b7 (WK w bW.o) λw'⟨R,T⟩=>?_;have H1:=A R;have gR:=A T;clear R T;go_wp2;refine b7 (slices_Contains_string w.heap.size 0 24 24 (aa.words.map str) x _ aN J H1.o.Sl) ?_;rintro bm rfl;rw[show List.take 24 (List.map str aa.words)=aa.words.map str from rfl,Ji];go_wp2;go_returns;exact⟨rfl,gR.o⟩
def QN(c:UInt8):wrap32 (c.toNat:Int)=(c.toNat:Int):=by have:=UInt8.toNat_lt c;unfold wrap32;omega
def Xb(p i:Nat)(S:ByteArray)(line:Bool)(v)(w:ai)(aJ:r8 p w S i line v)(ay:i<=S.size)(aD:S.size<=6000):aY 93 #[(p,0),.func (.func 91) #[] #[]] w λe w'=>e= .returned [(fD aa.digit (aC S) i:Int)]/\w=w':=by
 have bO:=az aJ 0;have bq:=az aJ 1;simp only[cO,cQ,c8] at bO bq;have gV:=bd aJ;clear aJ;go_in;have Go:=0;go_wp2;go_loop [5] (λx=> ∃j:Nat,j<=S.size/\x= j/\Hid (fD aa.digit (aC S) i=fD aa.digit (aC S) j)) (λx=>S.size-(intOf x).toNat)
 case atStart=>exact⟨i,ay,rfl,A rfl⟩
 case round=>
  obtain⟨j,bg,rfl,iH⟩:=hrel;by_cases uy:j<S.size
  .have nO:S[j]=Y (aC S) j 0:=(by simp[aC,uy,CN]);have nx:=A nO;clear nO;go_wp2;rw[QN];refine b7 (O4 S[j] _) ?_;rintro bm rfl;cases bB:aa.digit S[j] with
   |true=>
    have kn:Hid (fD aa.digit (aC S) i=fD aa.digit (aC S) (j+1)):=A (by rw[iH.o,CT (by rw[kf];exact uy) (by rw[<-nx.o];exact bB)]);clear iH nx bB;go_wp2;go_round
    case rel=>exact⟨j+1,by omega,by go_num,kn⟩
    case measure=>simp[intOf];omega
   |false=>
    have kn:Hid (fD aa.digit (aC S) i=j):=A (by rw[iH.o,AU (λh=>by rw[<-nx.o,bB] at h;exact GJ h.2)]);clear iH nx bB;go_wp2;go_returns;exact⟨by rw[kn.o];rfl,rfl⟩
  .obtain rfl:j=S.size:=J;have kn:Hid (fD aa.digit (aC S) i=S.size):=A (by rw[iH.o,AU (λh=>by rw[kf] at h;omega)]);clear iH;go_wp2;go_returns;exact⟨by rw[kn.o];rfl,rfl⟩
def XM(p i:Nat)(S:ByteArray)(line:Bool)(v)(w:ai)(aJ:r8 p w S i line v)(ay:i<=S.size)(aD:S.size<=6000):aY 93 #[(p,0),.func (.func 95) #[] #[]] w λe w'=>e= .returned [(fD hr (aC S) i:Int)]/\w=w':=by
 have bO:=az aJ 0;have bq:=az aJ 1;simp only[cO,cQ,c8] at bO bq;have gV:=bd aJ;clear aJ;go_in;have Go:=0;go_wp2;go_loop [5] (λx=> ∃j:Nat,j<=S.size/\x= j/\Hid (fD hr (aC S) i=fD hr (aC S) j)) (λx=>S.size-(intOf x).toNat)
 case atStart=>exact⟨i,ay,rfl,A rfl⟩
 case round=>
  obtain⟨j,bg,rfl,iH⟩:=hrel;by_cases uy:j<S.size
  .have nO:S[j]=Y (aC S) j 0:=(by simp[aC,uy,CN]);have nx:=A nO;clear nO;go_wp2;rw[QN];refine b7 (ZW S[j] _) ?_;rintro bm rfl;cases bB:hr S[j] with
   |true=>
    have kn:Hid (fD hr (aC S) i=fD hr (aC S) (j+1)):=A (by rw[iH.o,CT (by rw[kf];exact uy) (by rw[<-nx.o];exact bB)]);clear iH nx bB;go_wp2;go_round
    case rel=>exact⟨j+1,by omega,by go_num,kn⟩
    case measure=>simp[intOf];omega
   |false=>
    have kn:Hid (fD hr (aC S) i=j):=A (by rw[iH.o,AU (λh=>by rw[<-nx.o,bB] at h;exact GJ h.2)]);clear iH nx bB;go_wp2;go_returns;exact⟨by rw[kn.o];rfl,rfl⟩
  .obtain rfl:j=S.size:=J;have kn:Hid (fD hr (aC S) i=S.size):=A (by rw[iH.o,AU (λh=>by rw[kf] at h;omega)]);clear iH;go_wp2;go_returns;exact⟨by rw[kn.o];rfl,rfl⟩
def e2 (t:aa.Tok):List af:=[t.j',t.O,t.aX,t.an]
def J2:(prog.info? 97).map (λi=>(i.zero,i.size,i.bytes))=some (some (.agg #[(0:Int),ke,(0:Int),(0:Int)]),4,40):=cS
def lG (N:Nat)(w:ai)(v:af)(l:List aa.Tok):Prop:=w.ownsRow N 97 4 v (D l) (l.flatMap e2)
structure kG (N p:Nat)(w:ai)(S:ByteArray)(i:Nat)(line:Bool)(d':List aa.Tok):Prop where
 at_: ∃v,r8 p w S i line v/\lG N w v d'
def J6 (N p:Nat)(S:ByteArray)(i:Nat)(line:Bool)(d':List aa.Tok)(w:ai)(e:e7)(w':ai):Prop:=
 e= .returned (.tuple #[])/\kG N p w' S i false (aa.close d' line i)/\aL N w w'
def QM{N p i S line d' rA w w'}(h:aa.close d' line i=rA)(hs:kG N p w' S i false rA)(G:aL N w w'):J6 N p S i line d' w (.returned (.tuple #[])) w':=⟨rfl,by rw[h];exact hs,G⟩
def ZV(N p i:Nat)(S:ByteArray)(d':List aa.Tok)(w:ai)(h:kG N p w S i false d')(hN:N<=p):aY 88 #[(p,0)] w (J6 N p S i false d' w):=by
 obtain⟨v,aJ,bQ⟩:=h.at_;have cK:=az aJ 2;have f2:=cX aJ 2;have gV:=bd aJ;simp only[cO,cQ,c8] at cK;have d_:=A aJ;have cM:=A bQ;clear aJ bQ;go_in;go_wp2_with fail;go_quiet (fail)
 go_wp2;go_returns;have G:aL N w (w.drewN nq):=⟨rfl,rfl,rfl,bD _,λ_ _=>rfl⟩;exact⟨rfl,⟨v,et (w:=w.drewN nq) d_.o 2 (.bool false),eZ (w:=w.drewN nq) cM.o d_.o aN⟩,G.setCell (p:=⟨p,2,none⟩) hN _⟩
def PH{dJ t i}(h:aa.ends t=false):aa.close (dJ++[t]) true i=dJ++[t]:=by simp[aa.close,h]
def Pa{dJ t i}(h:aa.ends t=true):aa.close (dJ++[t]) true i=dJ++[t]++[sZ i]:=by simp[aa.close,h]
def tQ (a n p:Int) (x:ByteArray): ∀u∈[Value.int .i64 a,.string x,.int .i64 n,.int .i64 p],u.oneCell'=true:=by intro u hu;simp only[List.mem_cons,List.not_mem_nil,or_false] at hu;rcases hu with rfl|rfl|rfl|rfl<;>rfl
def QG(l:List aa.Tok)(n:Nat)(h:D l=n):D (l.flatMap e2)=n*4:=by
 subst h
 induction l with
 |nil=>rfl
 |cons x l cB=>simp only[u',dW,cB,iq];simp[e2];omega
def abV{N:Nat}{w:ai}{v:af}{dJ:List aa.Tok}{t}(h:w.ownsRow N 97 4 v (D (dJ++[t])) ((dJ++[t]).flatMap e2)):w.ownsRow N 97 4 v (D dJ+1) ((dJ++[t]).flatMap e2):=by rwa[show(dJ++[t]).length=D dJ+1 by simp] at h
def Jz{N w v d' t n}(h:w.ownsRow N 97 4 v n (d'.flatMap e2++e2 t))(ax:n=D d'+1):lG N w v (d'++[t]):=by subst ax;unfold lG;rw[xG,dW];simpa using h
def Pb{N w g n cap dJ t}(h:lG N w (.slice (some ⟨g,0,none⟩) n cap) (dJ++[t])):n=D dJ+1/\aG w ⟨g,D dJ*4,none⟩=some (.int .i64 t.j')/\aG w ⟨g,D dJ*4+1,none⟩=some (.string (str t.O))/\aG w ⟨g,D dJ*4+2,none⟩=some (.int .i64 t.aX)/\aG w ⟨g,D dJ*4+3,none⟩=some (.int .i64 (t.an:Int)):=by
 have au:w.ownsRow N 97 4 (g,n,cap) (D (dJ++[t])) ((dJ++[t]).flatMap e2):=h;have ax:n=D dJ+1:=by
  obtain⟨aH,_⟩|⟨h5,ka,cur,hu,_⟩:=au.2
  .cases aH
  .cases hu;simp
 have hl:D (dJ.flatMap e2)=D dJ*4:=by
  clear h au ax
  induction dJ with
  |nil=>rfl
  |cons x l cB=>simp only[u',dW,cB,iq];simp[e2];omega
 subst ax;rw[show(dJ++[t]).length=D dJ+1 by simp] at au;have key: ∀j,j<4->aG w (g,D dJ*4+j)=(e2 t)[j]?:=by
  intro j bg;have hc:=au.cellAt (D dJ*4+j) J;have h8:((dJ++[t]).flatMap e2)[D dJ*4+j]?=(e2 t)[j]?:=by
   rw[xG,rU J,hl,Nat.add_sub_cancel_left];simp
  exact hc.trans h8
 exact⟨rfl,key 0 J,key 1 J,key 2 J,key 3 J⟩
def Q8(t:aa.Tok)(b:Bool)(w:ai)(h:Hid (aa.ends t=b)):aY 133 #[.agg #[t.j',t.O,t.aX,t.an]] w λe w'=>e= .returned (.bool b)/\aL w w w':=by have:=abW t w;rw[h.o] at this;exact this
def abS(N p i:Nat)(S:ByteArray)(dJ:List aa.Tok)(t:aa.Tok)(w:ai)(h:kG N p w S i true (dJ++[t]))(hN:N<=p)(hl:D dJ<=12010):aY 88 #[(p,0)] w (J6 N p S i true (dJ++[t]) w):=by
 obtain⟨v,aJ,bQ⟩:=h.at_;obtain⟨g,cap,SZ⟩:=dR bQ bT;rw[show(dJ++[t]).length=D dJ+1 by simp] at SZ;subst SZ;obtain⟨_,cF,ui,ml,iS⟩:=Pb bQ;have ft:=(eI bQ g rfl).2;have ai4:=(eI bQ g rfl).1;have bq:=az aJ 1;have cK:=az aJ 2;have c3:=az aJ 3;have gV:=bd aJ;simp only[cO,cQ,c8] at bq cK c3;have d_:=A aJ;have cM:=A bQ;have BE:IntKind.i64.wrap ((D dJ:Int)+1- 1)=(D dJ:Int):=by rw[Int.add_sub_cancel];exact dI _ J
 have Hn:IntKind.i64.wrap (D dJ:Int)=D dJ:=dI _ J;have⟨TX,TY⟩:(0:Int)<=D dJ/\(D dJ:Int)<D dJ+1:=J;obtain⟨i0,ay,e',e_,ff⟩:=kT J2;clear aJ bQ h;cases bZ:aa.ends t with
 |false=>
  have ba:=A bZ;clear bZ;go_in;have Go:=0;go_wp2;go_region_held3 (λw'=>aL w w w'/\aG w' (p,2)=some (.bool true)/\aG w' (p,3)=some (g,D dJ+1,cap)/\aG w' (g,D dJ*4)=some [t.j']/\aG w' (g,D dJ*4+1)=some [t.O]/\aG w' (g,D dJ*4+2)=some [t.aX]/\aG w' (g,D dJ*4+3)=some [t.an]) ((refine⟨?_,?_,?_,?_,?_,?_,?_⟩<;>first|assumption|exact(aT _ _).drew))
   ((go_at_call 133;refine b7 (Q8 t false _ ba) λbm dh=>?_;have g_:aL w w bm:=((aT w w).drew).trans dh;have d2:=(g_.cell (p:=⟨p,2,none⟩) gV).trans cK;have d3:=(g_.cell (p:=⟨p,3,none⟩) gV).trans c3;have fx:=(g_.cell (p:=⟨g,D dJ*4,none⟩) ft).trans cF;have hp:=(g_.cell (p:=⟨g,D dJ*4+1,none⟩) ft).trans ui;have kd:=(g_.cell (p:=⟨g,D dJ*4+2,none⟩) ft).trans ml;have y3:=(g_.cell (p:=⟨g,D dJ*4+3,none⟩) ft).trans iS))
  have lL:=A g_;have m1:=A (ds d_.o g_ gV);have DX:=(g_.frozen (p:=⟨p,2,none⟩) gV).trans (cX d_.o 2);clear BE Hn TX TY dh fx hp kd y3 d3;go_wp2;go_returns;have G:aL N w bm:=lL.o.mono J;exact QM (PH ba.o) ⟨_,et m1.o 2 (.bool false),eZ (fZ cM.o lL.o (λk U=>by cases U;exact ft)) m1.o aN⟩ (G.setCell (p:=⟨p,2,none⟩) hN _)
 |true=>
  have ba:=A bZ;clear bZ;go_in;have Go:=0;go_wp2;go_region_held3 (λw'=>aL w w w'/\aG w' (p,2)=some (.bool true)/\aG w' (p,3)=some (g,D dJ+1,cap)/\aG w' (g,D dJ*4)=some [t.j']/\aG w' (g,D dJ*4+1)=some [t.O]/\aG w' (g,D dJ*4+2)=some [t.aX]/\aG w' (g,D dJ*4+3)=some [t.an]) ((refine⟨?_,?_,?_,?_,?_,?_,?_⟩<;>first|assumption|exact(aT _ _).drew))
   ((go_at_call 133;refine b7 (Q8 t true _ ba) λbm dh=>?_;have g_:aL w w bm:=((aT w w).drew).trans dh;have d2:=(g_.cell (p:=⟨p,2,none⟩) gV).trans cK;have d3:=(g_.cell (p:=⟨p,3,none⟩) gV).trans c3;have fx:=(g_.cell (p:=⟨g,D dJ*4,none⟩) ft).trans cF;have hp:=(g_.cell (p:=⟨g,D dJ*4+1,none⟩) ft).trans ui;have kd:=(g_.cell (p:=⟨g,D dJ*4+2,none⟩) ft).trans ml;have y3:=(g_.cell (p:=⟨g,D dJ*4+3,none⟩) ft).trans iS))
  have lL:=A g_;have m1:=A (ds d_.o g_ gV);have DX:=(g_.frozen (p:=⟨p,2,none⟩) gV).trans (cX d_.o 2);have d1:=(g_.cell (p:=⟨p,1,none⟩) gV).trans bq;have am1:=(g_.frozen (p:=⟨p,3,none⟩) gV).trans (cX d_.o 3);have yp:Hid (bm.ownsRow N 97 4 (g,D dJ+1,cap) (D dJ+1) ((dJ++[t]).flatMap e2)):=A (abV (fZ cM.o g_ (λk U=>by cases U;exact ft)));have lo:=g_.size;have⟨ue,anl⟩:p<bm.heap.size/\g<bm.heap.size:=J;clear BE Hn TX TY dh fx hp kd y3 d2 bq cK c3 cF ui ml iS;have c6:D ((dJ++[t]).flatMap e2)=(D dJ+1)*4:=QG _ _ bT;have qU:Hid (((aA bm (.cells (e2 (sZ i)).toArray 97)).drew).heap[p]?=some (.cells #[S,i,.bool true,(g,D dJ+1,cap)] 112 (0,0))):=A (hO m1.o _);have amc:=A c6;clear c6;go_wp2;go_region_law(refine tJ _ (by rfl) _ _ _ (by rfl) N 97 i0 _ 4 40 vA ay e' e_ ff rfl J (g,D dJ+1,cap) (D dJ+1) ((dJ++[t]).flatMap e2) (by rfl) (by exact yp.o.alloc _) ⟨bm.heap.size,0,none⟩ 1 1 (e2 (sZ i)) (by rfl) (by rfl) (j7 (cs:=(e2 (sZ i)).toArray) (t:=97) (fr:=(0,0)) (hf _ _)) (tQ _ _ _ _) J (by unfold dc;omega) J (by simp;omega) (bm.heap.size+1) bT ?_;intro g2 fz a6 qa dv e1 bN;have di:=xO qU.o dv (λdY=>mu yp.o m1.o aN dY.symm);have dY:=az di 3;have ag:=cX di 3;have aE:=az di 2;have bU:=cX di 2;have Eh:=bd di;simp only[cO,cQ,c8] at dY aE;have z:=A dv;have uQ:=A qa;have hk:=A di;clear di dv qa e1)
  all_goals
   go_wp2;go_returns;have di:aL N w a6:=Below.grown ((lL.o.mono J).alloc J _).drew z.o (by simp;omega) (λk U=>by cases U;exact ai4);have kb:=((di.setCell (p:=⟨p,3,none⟩) hN (g2,D dJ+1+1,fz)).setCell (p:=⟨p,2,none⟩) hN (.bool false));have kQ:=et hk.o 3 (g2,D dJ+1+1,fz);have bX:lG N a6 (g2,D dJ+1+1,fz) (dJ++[t]++[sZ i]):=Jz uQ.o bT;exact QM (Pa ba.o) ⟨_,et kQ 2 (.bool false),eZ (eZ bX hk.o aN) kQ aN⟩ kb
def KD (N p:Nat)(S:ByteArray)(j:Nat)(t:aa.Tok)(d':List aa.Tok)(w:ai)(e:e7)(w':ai):Prop:=
 e= .returned (.tuple #[])/\kG N p w' S j true (d'++[t])/\aL N w w'
def PG{N p j S t d' w w'}(hs:kG N p w' S j true (d'++[t]))(G:aL N w w'):KD N p S j t d' w (.returned (.tuple #[])) w':=⟨rfl,hs,G⟩
def ac8(S:ByteArray)(i k:Nat):S.extract i k=str (aa.cut (aC S) i k):=by apply R5;rw[xQ,f_]
def KC(N p i j:Nat)(j')(S:ByteArray)(line:Bool)(d':List aa.Tok)(w:ai)(h:kG N p w S i line d')(hN:N<=p)(ay:i<=j)(B1:j<=S.size)(Nf:S.size<=6000)(U:(j'==2)=false)(hl:D d'<=12010):
  aY 92 #[.pointer (some ⟨p,0,none⟩),.int .i64 j',.int .i64 (j:Int)] w (KD N p S j ⟨j',aa.cut (aC S) i j,0,i⟩ d' w):=by
 obtain⟨v,aJ,bQ⟩:=h.at_;have bO:=az aJ 0;have bq:=az aJ 1;have cK:=az aJ 2;have c3:=az aJ 3;have f1:=cX aJ 1;have f2:=cX aJ 2;have f3:=cX aJ 3;have gV:=bd aJ;simp only[cO,cQ,c8] at bO bq cK c3;have d_:=A aJ;have cM:=A bQ;have cV:=A (ac8 S i j);obtain⟨i0,fM,e',e_,ff⟩:=kT J2;clear aJ bQ h;go_in;have Go:=0;go_wp2;go_region
 rw[cV.o];obtain⟨w1,fp⟩: ∃w1:ai,w1=(aA w (aw #[j',[aa.cut (aC S) i j],(0:Int),i] 97)).drew:=⟨_,rfl⟩;have eV:Hid (w1.heap[w.heap.size]?=some (.cells #[j',[aa.cut (aC S) i j],(0:Int),i] 97 (0,0))):=A (by rw[fp];exact ek _ _);have n0:Hid (r8 p w1 S i line v):=A (by rw[fp];exact hO d_.o _);have c1:Hid (aL w w w1):=A (by rw[fp];exact((aT _ _).alloc (bD _) _).drew);have o6:Hid (w1.ownsRow N 97 4 v (D d') (d'.flatMap e2)):=A (by rw[fp];exact cM.o.alloc _);rw[<-fp];have b':=az eV.o 0;have c9:=az eV.o 1;have cw:=az eV.o 2;have da:=az eV.o 3;have qZ:=bd eV.o;have d0:=az n0.o 0;have d1:=az n0.o 1;have d2:=az n0.o 2;have d3:=az n0.o 3;have h7:=bd n0.o;have gE:=c1.o.size;simp only[cO,cQ,c8] at b' c9 cw da d0 d1 d2 d3;have qU:Hid (((aA w1 (.cells (e2 ⟨j',aa.cut (aC S) i j,0,i⟩).toArray 97)).drew).heap[p]?=some (.cells #[S,i,.bool line,v] 112 (0,0))):=A (hO n0.o _);clear fp bO bq cK c3 f1 f2 f3 cV;go_wp2;go_region_law(refine tJ _ (by rfl) _ _ _ (by rfl) N 97 i0 _ 4 40 vA fM e' e_ ff rfl J v (D d') (d'.flatMap e2) (by rfl) (by exact o6.o.alloc _) ⟨w1.heap.size,0,none⟩ 1 1 (e2 ⟨j',aa.cut (aC S) i j,0,i⟩) (by rfl) (by rfl) (j7 (cs:=(e2 ⟨j',aa.cut (aC S) i j,0,i⟩).toArray) (t:=97) (fr:=(0,0)) (hf _ _)) (tQ _ _ _ _) J (by unfold dc;omega) J (by simp;omega) (w1.heap.size+1) bT ?_;intro g2 fz a6 qa dv e1 bN;have di:=xO qU.o dv (λdY=>mu o6.o n0.o aN dY.symm);have dY:=az di 3;have ag:=cX di 3;have aE:=az di 2;have bU:=cX di 2;have cL:=az di 1;have gi:=cX di 1;have Eh:=bd di;simp only[cO,cQ,c8] at dY aE cL;have z:=A dv;have uQ:=A qa;have hk:=A di;clear di dv qa e1)
 all_goals
  clear d0 d1 d2 d3 b' c9 cw da;go_wp2;go_returns;have di:aL N w a6:=Below.grown ((c1.o.mono J).alloc J _).drew z.o (by simp;omega) (λk U=>(o6.o.lt k U).1);have kb:=(((di.setCell (p:=⟨p,3,none⟩) hN (g2,D d'+1,fz)).setCell (p:=⟨p,1,none⟩) hN j).setCell (p:=⟨p,2,none⟩) hN (.bool true));have kQ:=et hk.o 3 (g2,D d'+1,fz);have r2:=et kQ 1 j;have bX:lG N a6 (g2,D d'+1,fz) (d'++[⟨j',aa.cut (aC S) i j,0,i⟩]):=Jz uQ.o rfl;exact PG ⟨_,et r2 2 (.bool true),eZ (eZ (eZ bX hk.o aN) kQ aN) r2 aN⟩ kb
def QX: ∀(l:List UInt8) (d':Nat),(∀c∈l,aa.digit c=true)-> ∃m:Nat,Lib.decFrom d' l=some m/\(m:Int)=l.foldl (λa c=>10*a+((c.toNat:Int)- 48)) (d':Int)
 |[],d',_=>⟨d',rfl,rfl⟩
 |c::l,d',h=>by
  have hc:=h c bT;rw[xP,pt] at hc;obtain⟨m,R,T⟩:=QX l (d'*10+(c.toNat- 48)) (λx aF=>h x (by simp[aF]));refine⟨m,?_,?_⟩
  .simp only[Lib.decFrom,Lib.digitVal];rw[aS ⟨by omega,by omega⟩];exact R
  .rw[T,List.foldl_cons]
   congr 1
   omega
def abU{l}(h: ∀c∈l,aa.digit c=true)(aZ:l≠[]):Lib.atoi l=some (np l):=by
 cases l with
 |nil=>exact absurd rfl aZ
 |cons c r=>
  obtain⟨m,R,T⟩:=QX (c::r) 0 h;have hc:=h c bT;rw[xP,pt] at hc;have ajV:(c==45)=false:=by
   rw[u9];intro e;rw[e] at hc;revert hc;decide
  have ajU:(c==43)=false:=by
   rw[u9];intro e;rw[e] at hc;revert hc;decide
  simp only[Lib.atoi,ajV,ajU,Lib.decNat,List.isEmpty_cons,Bool.false_eq_true,if_false,R,Option.map_some];rw[T];rfl
def Gk(p:UInt8->Bool)(s:List UInt8)(i:Nat)(alo:i<=D s): ∀c∈aa.cut s i (fD p s i),p c=true:=by
 by_cases h:i<D s/\p (Y s i 0)=true
 .have aB:=ON p s (i+1);have cB:=Gk p s (i+1) J;rw[CT h.1 h.2];intro c hc;unfold aa.cut at hc cB;rw[kS h.1,show fD p s (i+1)-i=(fD p s (i+1)-(i+1))+1 by omega,List.take_succ_cons] at hc;obtain rfl|hc:=List.mem_cons.1 hc
  .have:=h.2;rwa[cd,cE h.1] at this
  .exact cB c hc
 .rw[AU h];intro c hc;unfold aa.cut at hc;simp at hc
termination_by (D s)-i
decreasing_by omega
def J1(S:ByteArray)(k j:Nat)(U:k<=j)(bg:j<=S.size):(S.extract k j).size=j-k:=by rw[ByteArray.size_extract];omega
def J3(S:ByteArray)(i j:Nat)(ay:i<j)(bg:j<=S.size): ∀h:0<(S.extract i j).size,(S.extract i j)[0]=Y (aC S) i 0:=by intro h;have bN:i<S.size:=J;rw[ByteArray.getElem_extract];simp[aC,bN,CN]
def ac' (N:Nat)(i:Nat)(w:ai)(e:e7)(w':ai):Prop:=e= .panicked [{v:= .iface 109 (.agg #[(3:Int),i]),recovered:=false}]/\aL N w w'
def ads(N p i j:Nat)(S:ByteArray)(line:Bool)(d':List aa.Tok)(w:ai)(h:kG N p w S i line d')(hN:N<=p)(ay:i<j)(B1:j<=S.size)(Nf:S.size<=6000)(nu:9<j-i\/(1<j-i/\Y (aC S) i 0=48)):
  aY 92 #[(p,0),(2:Int),j] w (ac' N i w):=by
 obtain⟨v,aJ,bQ⟩:=h.at_;have bO:=az aJ 0;have bq:=az aJ 1;have gV:=bd aJ;simp only[cO,cQ,c8] at bO bq;have Ho:=J1 S i j J B1;have yh:=A (J3 S i j ay B1);go_in;have Go:=0;go_wp2;go_region
 all_goals
  generalize S.extract i j=X at*;have aH:0<X.size:=J;by_cases gW:9<X.size
  .go_wp2_with fail;refine b7 (JY p 3 (i:Int) _) ?_;rintro b3 rfl;go_wp2;exact⟨rfl,rfl,((aT _ _).alloc J _).drew⟩
  .have R:1<X.size:=J;have aF:((X[0].toNat:Int)==48)=true:=by
    obtain G|⟨_,G⟩:=nu
    .omega
    .rw[yh.o aH,G];rfl
   go_wp2;refine b7 (JY p 3 (i:Int) _) ?_;rintro b3 rfl;go_wp2;exact⟨rfl,rfl,((aT _ _).alloc J _).drew⟩
def Q2{c:UInt8}(h: ¬c=48):((c.toNat:Int)==48)=false:=by rw[u9];intro R;exact h (UInt8.toNat_inj.1 (by rw[show(48:UInt8).toNat=48 from rfl];omega))
def adt(N p i j:Nat)(S:ByteArray)(line:Bool)(d':List aa.Tok)(w:ai)(h:kG N p w S i line d')(hN:N<=p)(ay:i<j)(B1:j<=S.size)(Nf:S.size<=6000)(K7: ¬(9<j-i\/(1<j-i/\(aC S).getD i 0=48)))(bB: ∀c∈aa.cut (aC S) i j,aa.digit c=true)(hl:d'.length<=12010):
  aY 92 #[(p,0),(2:Int),j] w (KD N p S j ⟨2,aa.cut (aC S) i j,np (aa.cut (aC S) i j),i⟩ d' w):=by
 obtain⟨v,aJ,bQ⟩:=h.at_;have bO:=az aJ 0;have bq:=az aJ 1;have gV:=bd aJ;simp only[cO,cQ,c8] at bO bq;have Ho:=J1 S i j J B1;have yh:=A (J3 S i j ay B1);have B0:=A (xQ S i j);have aZ:aa.cut (aC S) i j≠[]:=by intro aH;have:=congrArg List.length aH;rw[<-xQ,kf,Ho] at this;simp at this;omega
 have ep:=A (abU bB aZ);have d_:=A aJ;have cM:=A bQ;obtain⟨i0,fM,e',e_,ff⟩:=kT J2;clear aJ bQ h bB aZ;go_in;have Go:=0;go_wp2;go_region
 all_goals
  generalize S.extract i j=X at*;obtain⟨w1,fp⟩: ∃w1:ai,w1=(w.alloc (.cells #[(2:Int),X,(0:Int),i] 97)).drew:=⟨_,rfl⟩;have eV:Hid (w1.heap[w.heap.size]?=some (.cells #[(2:Int),X,(0:Int),i] 97 (0,0))):=A (by rw[fp];exact ek _ _);have n0:Hid (r8 p w1 S i line v):=A (by rw[fp];exact hO d_.o _);have c1:Hid (aL w.heap.size w w1):=A (by rw[fp];exact((aT _ _).alloc (bD _) _).drew);have o6:Hid (w1.ownsRow N 97 4 v d'.length (d'.flatMap e2)):=A (by rw[fp];exact cM.o.alloc _);rw[<-fp];have b':=az eV.o 0;have c9:=az eV.o 1;have cw:=az eV.o 2;have da:=az eV.o 3;have qZ:=bd eV.o;have gE:=c1.o.size;simp only[cO,cQ,c8] at b' c9 cw da;have⟨aH,gW⟩:0<X.size/\X.size<=9:=J;clear fp bO bq;have wR:aY 135 #[X] w1 λe w'=>e= .returned (.tuple #[[(np (aa.cut (aC S) i j):Int)],.nilIface])/\aL w1.heap.size w1 w':=(strconv_Atoi X _ J (by rw[show X.data.toList=aC X from rfl,B0.o];exact ep.o) w1).mono λe w' h=>by
   obtain⟨he,t,bI⟩:=h;rw[bI];exact⟨he,Lib.bytesWorld_below _ _ _⟩
  have HW:=A wR;clear wR;have Rz:Hid (v.ownBlock≠some w.heap.size):=A (λdY=>by have:=(cM.o.lt _ dY).2;omega);by_cases R:1<X.size
  .have aF:((X[0].toNat:Int)==48)=false:=by
    rw[yh.o aH];refine Q2 λdY=>K7 (.inr ⟨by omega,dY⟩)
   clear K7 yh Ho;go_wp2;refine HW.o.mono ?_;rintro e bm ⟨rfl,dh⟩;have w9:=A (ds eV.o dh qZ);have Ng:=A (ds n0.o dh (bd n0.o));have yp:=A (fZ o6.o dh (λk U=>(o6.o.lt k U).2));have dn:=A (c1.o.trans (dh.mono gE));have Ee:=az w9.o 2;have Nh:=cX w9.o 2;simp only[cO,cQ,c8] at Ee;have agl:=bd w9.o;have aZ:w.heap.size≠p:=J;clear b' c9 cw da dh;go_wp2;obtain⟨w2,gT⟩: ∃w2:ai,w2=bm.setCell (w.heap.size,2) [(np (aa.cut (aC S) i j):Int)]:=⟨_,rfl⟩;have pN:Hid (w2.heap[w.heap.size]?=some (.cells #[(2:Int),X,[(np (aa.cut (aC S) i j):Int)],i] 97 (0,0))):=A (by rw[gT];exact et w9.o 2 _);have jk:Hid (r8 p w2 S i line v):=A (by rw[gT];exact fK Ng.o (Ne.symm aZ) 2 _);have cN:Hid (aL w.heap.size w w2):=A (by rw[gT];exact dn.o.setCell (p:=⟨w.heap.size,2,none⟩) (bD _) _);have iN:Hid (w2.ownsRow N 97 4 v d'.length (d'.flatMap e2)):=A (by rw[gT];exact ownsRow_setCell_other yp.o (a:=⟨w.heap.size,2,none⟩) Rz.o _);rw[<-gT];have b':=az pN.o 0;have c9:=az pN.o 1;have cw:=az pN.o 2;have da:=az pN.o 3;have d0:=az jk.o 0;have d1:=az jk.o 1;have d2:=az jk.o 2;have d3:=az jk.o 3;have tb:=bd jk.o;have agm:=bd pN.o;have mK:=cN.o.size;simp only[cO,cQ,c8] at b' c9 cw da d0 d1 d2 d3;clear gT Ee Nh;have qU:Hid (((w2.alloc (.cells (e2 ⟨2,aC X,np (aa.cut (aC S) i j),i⟩).toArray 97)).drew).heap[p]?=some (.cells #[S,i,.bool line,v] 112 (0,0))):=A (hO jk.o _);go_wp2;go_region_law(refine tJ _ (by rfl) _ _ _ (by rfl) N 97 i0 _ 4 40 vA fM e' e_ ff rfl J v d'.length (d'.flatMap e2) (by rfl) (by exact iN.o.alloc _) ⟨w2.heap.size,0,none⟩ 1 1 (e2 ⟨2,aC X,np (aa.cut (aC S) i j),i⟩) (by rfl) (by rfl) (j7 (cs:=(e2 ⟨2,aC X,np (aa.cut (aC S) i j),i⟩).toArray) (t:=97) (fr:=(0,0)) (hf _ _)) (tQ _ _ _ _) J (by unfold dc;omega) J (by simp;omega) (w2.heap.size+1) bT ?_;intro g2 fz a6 qa dv e1 bN;have di:=xO qU.o dv (λdY=>mu iN.o jk.o aN dY.symm);have dY:=az di 3;have ag:=cX di 3;have aE:=az di 2;have bU:=cX di 2;have cL:=az di 1;have gi:=cX di 1;have Eh:=bd di;simp only[cO,cQ,c8] at dY aE cL;have z:=A dv;have uQ:=A qa;have hk:=A di;clear di dv qa e1)
   all_goals
    clear d0 d1 d2 d3 b' c9 cw da;go_wp2;go_returns;have di:aL N w a6:=Below.grown ((cN.o.mono J).alloc J _).drew z.o (by simp;omega) (λk U=>(iN.o.lt k U).1);have kb:=(((di.setCell (p:=⟨p,3,none⟩) hN (g2,d'.length+1,fz)).setCell (p:=⟨p,1,none⟩) hN j).setCell (p:=⟨p,2,none⟩) hN (.bool true));have kQ:=et hk.o 3 (g2,d'.length+1,fz);have r2:=et kQ 1 j;have bX:lG N a6 (g2,d'.length+1,fz) (d'++[⟨2,aC X,np (aa.cut (aC S) i j),i⟩]):=Jz uQ.o rfl;rw[B0.o] at bX;exact PG ⟨_,et r2 2 (.bool true),eZ (eZ (eZ bX hk.o aN) kQ aN) r2 aN⟩ kb
  .clear K7 yh Ho;go_wp2;refine HW.o.mono ?_;rintro e bm ⟨rfl,dh⟩;have w9:=A (ds eV.o dh qZ);have Ng:=A (ds n0.o dh (bd n0.o));have yp:=A (fZ o6.o dh (λk U=>(o6.o.lt k U).2));have dn:=A (c1.o.trans (dh.mono gE));have Ee:=az w9.o 2;have Nh:=cX w9.o 2;simp only[cO,cQ,c8] at Ee;have agl:=bd w9.o;have aZ:w.heap.size≠p:=J;clear b' c9 cw da dh;go_wp2;obtain⟨w2,gT⟩: ∃w2:ai,w2=bm.setCell (w.heap.size,2) [(np (aa.cut (aC S) i j):Int)]:=⟨_,rfl⟩;have pN:Hid (w2.heap[w.heap.size]?=some (.cells #[(2:Int),X,[(np (aa.cut (aC S) i j):Int)],i] 97 (0,0))):=A (by rw[gT];exact et w9.o 2 _);have jk:Hid (r8 p w2 S i line v):=A (by rw[gT];exact fK Ng.o (Ne.symm aZ) 2 _);have cN:Hid (aL w.heap.size w w2):=A (by rw[gT];exact dn.o.setCell (p:=⟨w.heap.size,2,none⟩) (bD _) _);have iN:Hid (w2.ownsRow N 97 4 v d'.length (d'.flatMap e2)):=A (by rw[gT];exact ownsRow_setCell_other yp.o (a:=⟨w.heap.size,2,none⟩) Rz.o _);rw[<-gT];have b':=az pN.o 0;have c9:=az pN.o 1;have cw:=az pN.o 2;have da:=az pN.o 3;have d0:=az jk.o 0;have d1:=az jk.o 1;have d2:=az jk.o 2;have d3:=az jk.o 3;have tb:=bd jk.o;have agm:=bd pN.o;have mK:=cN.o.size;simp only[cO,cQ,c8] at b' c9 cw da d0 d1 d2 d3;clear gT Ee Nh;have qU:Hid (((w2.alloc (.cells (e2 ⟨2,aC X,np (aa.cut (aC S) i j),i⟩).toArray 97)).drew).heap[p]?=some (.cells #[S,i,.bool line,v] 112 (0,0))):=A (hO jk.o _);go_wp2;go_region_law(refine tJ _ (by rfl) _ _ _ (by rfl) N 97 i0 _ 4 40 vA fM e' e_ ff rfl J v d'.length (d'.flatMap e2) (by rfl) (by exact iN.o.alloc _) ⟨w2.heap.size,0,none⟩ 1 1 (e2 ⟨2,aC X,np (aa.cut (aC S) i j),i⟩) (by rfl) (by rfl) (j7 (cs:=(e2 ⟨2,aC X,np (aa.cut (aC S) i j),i⟩).toArray) (t:=97) (fr:=(0,0)) (hf _ _)) (tQ _ _ _ _) J (by unfold dc;omega) J (by simp;omega) (w2.heap.size+1) bT ?_;intro g2 fz a6 qa dv e1 bN;have di:=xO qU.o dv (λdY=>mu iN.o jk.o aN dY.symm);have dY:=az di 3;have ag:=cX di 3;have aE:=az di 2;have bU:=cX di 2;have cL:=az di 1;have gi:=cX di 1;have Eh:=bd di;simp only[cO,cQ,c8] at dY aE cL;have z:=A dv;have uQ:=A qa;have hk:=A di;clear di dv qa e1)
   all_goals
    clear d0 d1 d2 d3 b' c9 cw da;go_wp2;go_returns;have di:aL N w a6:=Below.grown ((cN.o.mono J).alloc J _).drew z.o (by simp;omega) (λk U=>(iN.o.lt k U).1);have kb:=(((di.setCell (p:=⟨p,3,none⟩) hN (g2,d'.length+1,fz)).setCell (p:=⟨p,1,none⟩) hN j).setCell (p:=⟨p,2,none⟩) hN (.bool true));have kQ:=et hk.o 3 (g2,d'.length+1,fz);have r2:=et kQ 1 j;have bX:lG N a6 (g2,d'.length+1,fz) (d'++[⟨2,aC X,np (aa.cut (aC S) i j),i⟩]):=Jz uQ.o rfl;rw[B0.o] at bX;exact PG ⟨_,et r2 2 (.bool true),eZ (eZ (eZ bX hk.o aN) kQ aN) r2 aN⟩ kb
def xU (c:Int)(j:Nat):e7:= .panicked [{v:= .iface 109 (.agg #[c,j]),recovered:=false}]
def nJ (N p:Nat)(S:ByteArray)(i:Nat)(line:Bool)(d':List aa.Tok)(w:ai)(e:e7)(w':ai):Prop:=
 aL N w w'/\((∃c j,aa.go (aC S) i line d'= .error (c,j)/\e=xU c j)
  \/(∃l oS,aa.go (aC S) i line d'= .ok l/\D l<=D d'+1/\e= .returned (.bool false)/\kG N p w' S oS false l)
  \/(∃oS wI rA,aa.go (aC S) i line d'=aa.go (aC S) oS wI rA/\i<oS/\oS<=S.size/\D rA<=D d'+1/\(wI=true->rA≠[])/\e= .returned (.bool true)/\kG N p w' S oS wI rA))
def JX{N p i S line d' w w' c j}(G:aL N w w')(h:aa.go (aC S) i line d'= .error (c,j)):nJ N p S i line d' w (xU c j) w':=⟨G,.inl ⟨c,j,h,rfl⟩⟩
def aad{N p i oS S line d' l w w'}(G:aL N w w')(h:aa.go (aC S) i line d'= .ok l)(hl:D l<=D d'+1)(hs:kG N p w' S oS false l):nJ N p S i line d' w (.returned (.bool false)) w':=⟨G,.inr (.inl ⟨l,oS,h,hl,rfl,hs⟩)⟩
def AZ{N p i oS S line wI d' rA w w'}(G:aL N w w')(h:aa.go (aC S) i line d'=aa.go (aC S) oS wI rA)(R:i<oS)(T:oS<=S.size)(hl:D rA<=D d'+1)(ax:wI=true->rA≠[])(hs:kG N p w' S oS wI rA):nJ N p S i line d' w (.returned (.bool true)) w':=⟨G,.inr (.inr ⟨oS,wI,rA,h,R,T,hl,ax,rfl,hs⟩)⟩
def kG.below{N p i w w' S line d'}(h:kG N p w S i line d')(G:aL w w w'):kG N p w' S i line d':=by obtain⟨v,R,T⟩:=h.at_;exact⟨v,R.below G,fZ T G (λk U=>(T.lt k U).2)⟩
def kG.lt{N p i w S line d'}(h:kG N p w S i line d'):p<w.heap.size:=by obtain⟨v,R,T⟩:=h.at_;exact bd R
def kG.move{N p i j:Nat}{w:ai}{S:ByteArray}{line:Bool}{d'}(h:kG N p w S i line d'):kG N p (a7 w (p,1) j) S j line d':=by obtain⟨v,R,T⟩:=h.at_;exact⟨v,et R 1 _,eZ T R aN⟩
def Gc(d':List aa.Tok)(line:Bool)(i):D (aa.close d' line i)<=D d'+1:=by
 unfold aa.close
 repeat' split
 all_goals simp
def O5{po:Type}{l:List po}(h:l≠[]): ∃dJ t,l=dJ++[t]:=⟨l.dropLast,l.getLast h,(u0 h).symm⟩
def QW(N p i:Nat)(S:ByteArray)(line:Bool)(d':List aa.Tok)(w:ai)(h:kG N p w S i line d')(hN:N<=p)(ax:line=true->d'≠[])(hl:D d'<=12000):aY 88 #[(p,0)] w (J6 N p S i line d' w):=by
 cases line with
 |false=>exact ZV N p i S d' w h hN
 |true=>
  obtain⟨dJ,t,rfl⟩:=O5 (ax rfl);exact abS N p i S dJ t w h hN (by simp at hl;omega)
def CW(V p i j:Nat)(S:ByteArray)(line:Bool)(v)(w:ai)(c:UInt8)(aJ:r8 p w S i line v)(bg:j<S.size)(aD:S.size<=6000)(hT:kF V w)(hc:Y (aC S) j 0=c)(h:c.toNat<128):
  aY 87 #[(p,0),j] w λe w'=>e= .returned (.tuple #[.int .i32 (c.toNat:Int),(1:Int)])/\aL w w w':=by
 have aZ:(aC S).drop j≠[]:=by intro h;have:=List.drop_eq_nil_iff.1 h;rw[kf] at this;omega
 have bB:=(PF aZ).1 (by rw[Jy,hc];exact h);rw[Jy,hc] at bB;refine(J0 V p i j S line v w aJ bg aD hT).mono ?_;rintro e w' ⟨G,⟨R,_⟩|⟨R,rfl⟩⟩
 .rw[bB] at R;injection R with R T;omega
 .rw[bB];exact⟨rfl,G⟩
def abR(N p:Nat)(S:ByteArray)(line:Bool)(d':List aa.Tok)(w:ai)(h:kG N p w S S.size line d')(hN:N<=p)(ax:line=true->d'≠[])(hl:D d'<=12000):aY 60 #[(p,0)] w (nJ N p S S.size line d' w):=by obtain⟨v,aJ,bQ⟩:=h.at_;have bq:=az aJ 1;simp only[cO,cQ,c8] at bq;have d_:=A aJ;have cC:=A h;have ep:=A ax;clear aJ h ax;go_in;have Go:=0;go_wp2;refine b7 (QL p S.size S line v w d_.o) ?_;rintro w' rfl;go_wp2;refine b7 (QW N p S.size S line d' _ cC.o hN ep.o hl) λbm⟨lo,dh⟩=>?_;have ba:Hid (nJ N p S S.size line d' w (.returned (.bool false)) bm):=A (aad dh (aa.go_end (by rw[kf];omega)) (Gc _ _ _) lo);go_wp2;go_returns;exact ba.o
def aaa(V N p i:Nat)(S:ByteArray)(line:Bool)(d':List aa.Tok)(w:ai)(h:kG N p w S i line d')(hN:N<=p)(ax:line=true->d'≠[])(hl:D d'<=12000)(ay:i<S.size)(aD:S.size<=6000)(hT:kF V w)(hc:Y (aC S) i 0=10):aY 60 #[(p,0)] w (nJ N p S i line d' w):=by obtain⟨v,aJ,bQ⟩:=h.at_;have bq:=az aJ 1;simp only[cO,cQ,c8] at bq;have gV:=h.lt;have d_:=A aJ;have cC:=A h;have ep:=A ax;have bW:=A hT;have cV:=A hc;clear aJ h ax hT hc;go_in;have Go:=0;go_wp2;refine b7 (CW V p i i S line v w 10 d_.o ay aD bW.o cV.o aN) λw1 ck=>?_;have iC:=A (cC.o.below ck);have c1:=A ck;rw[show(((10:UInt8).toNat:Nat):Int)=10 from rfl];clear ck;go_wp2;refine b7 (QW N p i S line d' _ iC.o hN ep.o hl) λbm⟨lo,dh⟩=>?_;obtain⟨v5,ue,_⟩:=lo.at_;have d1:=az ue 1;have ahS:=cX ue 1;have BK:=lo.lt;simp only[cO,cQ,c8] at d1;have ko:=A lo;have dn:=A ((c1.o.mono J).trans dh);clear lo;go_wp2;go_returns;exact AZ (dn.o.setCell (p:=⟨p,1,none⟩) hN _) (aa.go_feed (by rw[kf];exact ay) cV.o) (Nat.lt_succ_self i) J (Gc _ _ _) (λh=>by cases h) (ko.o.move (j:=i+1))
def Gy(X g:ByteArray)(b:Bool)(w:ai)(h:Hid (n2 (aC g) (aC X)=b)):aY 89 #[X,g] w λe w'=>e= .returned (.bool b)/\w'=w:=by have:=strings_HasPrefix X g w;rw[show Lib.hasPrefix X.data.toList g.data.toList=b from h.o] at this;exact this
def J4(S g:ByteArray)(i:Nat){b}(h:n2 (aC g) ((aC S).drop i)=b):n2 (aC g) (aC (S.extract i S.size))=b:=by rw[FY,f_];exact h
def Kf(c d:UInt8):((c.toNat:Int)==(d.toNat:Int))=(c==d):=by rw[qB,beq_iff_eq,beq_iff_eq,<-UInt8.toNat_inj];omega
def Lc{c:UInt8}(h: ¬c=10):((c.toNat:Int)==10)=false:=by have:=Kf c 10;rw[show(((10:UInt8).toNat:Nat):Int)=10 from rfl] at this;rw[this];simpa using h
def JZ(c:UInt8):aa.blank c=(((c.toNat:Int)==32)||((c.toNat:Int)==9)||((c.toNat:Int)==13)):=by unfold aa.blank;rw[<-Kf,<-Kf,<-Kf];rfl
def Gb{c}(h:aa.blank c=false):((c.toNat:Int)==32)=false/\((c.toNat:Int)==9)=false/\((c.toNat:Int)==13)=false:=by rw[JZ] at h;simp only[xE] at h;exact⟨h.1.1,h.1.2,h.2⟩
def Qi{c}(h:aa.blank c=true):((c.toNat:Int)==32)=true\/(((c.toNat:Int)==32)=false/\((c.toNat:Int)==9)=true)\/(((c.toNat:Int)==32)=false/\((c.toNat:Int)==9)=false/\((c.toNat:Int)==13)=true):=by rw[JZ] at h;cases R:((c.toNat:Int)==32)<;>cases T:((c.toNat:Int)==9)<;>cases ah:((c.toNat:Int)==13)<;>simp_all
structure vk (V N p i:Nat)(S:ByteArray)(line:Bool)(d':List aa.Tok)(w:ai)(c:UInt8):Prop where
 st:kG N p w S i line d'
 hN:N<=p
 ax:line=true->d'≠[]
 hl:D d'<=12000
 ay:i<S.size
 aD:S.size<=6000
 hT:kF V w
 uR:V<=w.heap.size
 hc:Y (aC S) i 0=c
 kr:((c.toNat:Int)==10)=false
def vk.ne{V N p i S line d' w c}(h:vk V N p i S line d' w c):Y (aC S) i 0≠10:=by intro R;have:=h.kr;rw[<-h.hc,R] at this;exact absurd this aN
def vk.lt{V N p i S line d' w c}(h:vk V N p i S line d' w c):i<D (aC S):=by rw[kf];exact h.ay
def XJ(V N p i:Nat)(S:ByteArray)(line:Bool)(d':List aa.Tok)(w:ai)(c:UInt8)(h:vk V N p i S line d' w c)(G:aa.blank c=true):aY 60 #[(p,0)] w (nJ N p S i line d' w):=by
 obtain⟨v,aJ,bQ⟩:=h.st.at_;have bq:=az aJ 1;simp only[cO,cQ,c8] at bq;have gV:=h.st.lt;have ay:=h.ay;have aD:=h.aD;have kr:=h.kr;have hN:=h.hN;have z:Hid (aa.go (aC S) i line d'=aa.go (aC S) (i+1) line d'):=A (aa.go_skip h.lt h.ne (by unfold kY;rw[h.hc,G];rfl) J);have d_:=A aJ;have cz:=A h;have Bi:c.toNat<128:=by
  rw[JZ] at G;simp at G;omega
 have aes:=Qi G;clear aJ h;obtain b1|⟨b1,b2⟩|⟨b1,b2,bC⟩:=aes
 all_goals
  go_in;go_wp2_with fail;refine b7 (CW V p i i S line v w c d_.o ay aD cz.o.hT cz.o.hc Bi) λw1 ck=>?_;have gE:=cz.o.st.below ck;obtain⟨v5,ue,_⟩:=gE.at_;have d1:=az ue 1;have ahS:=cX ue 1;have BK:=gE.lt;simp only[cO,cQ,c8] at d1;have iC:=A gE;have c1:=A ck;clear ck gE;go_wp2;go_returns;exact AZ ((c1.o.mono J).setCell (p:=⟨p,1,none⟩) hN _) z.o (Nat.lt_succ_self i) J J cz.o.ax (iC.o.move (j:=i+1))
def aab(V N p i:Nat)(S:ByteArray)(line:Bool)(d':List aa.Tok)(w:ai)(c:UInt8)(h:vk V N p i S line d' w c)(G:aa.blank c=false)(Bi:c.toNat<128)(pA:n2 [47,47] ((aC S).drop i)=true):aY 60 #[(p,0)] w (nJ N p S i line d' w):=by
 obtain⟨v,aJ,bQ⟩:=h.st.at_;have bq:=az aJ 1;simp only[cO,cQ,c8] at bq;have gV:=h.st.lt;have ay:=h.ay;have aD:=h.aD;have kr:=h.kr;have hN:=h.hN;have uR:=h.uR;have kN:Hid (∀x,kV (aC S) i=x->kY (aC S) i=match x with| .error j=> .bL 2 j| .ok j=> .skip j):=A (λx aF=>by unfold kY;rw[h.hc,G,pA,aF];rfl);have d_:=A aJ;have cz:=A h;have zP:=A (J4 S ⟨#[47,47]⟩ i pA);obtain⟨b1,b2,bC⟩:=Gb G;clear aJ h;go_in;have Go:=0;go_wp2;refine b7 (CW V p i i S line v w c d_.o ay aD cz.o.hT cz.o.hc Bi) λw1 ck=>?_;have h7:=d_.o.below ck;have d0:=az h7 0;have d1:=az h7 1;simp only[cO,cQ,c8] at d0 d1;have c1:=A ck;have gE:=ck.size;clear ck;go_wp2;go_quiet ((go_at_call 89;exact Dk (Gy _ _ _ _ zP)))
 have cN:Hid (aL w w (w1.drewN nq)):=A (c1.o.trans ⟨rfl,rfl,rfl,bD _,λ_ _=>rfl⟩);clear c1;generalize w1.drewN nq=w2 at*;go_wp2;refine(abT V p i S line v w2 (d_.o.below cN.o) J aD (cz.o.hT.below cN.o uR) (by have:=cN.o.size;omega)).mono ?_;rintro e bm ⟨dh,⟨j,bg,rfl⟩|⟨j,bg,hjS,rfl⟩⟩
 .have dn:=A ((cN.o.mono J).trans (dh.mono (B':=N) (by have:=cN.o.size;omega)));have ba:Hid (nJ N p S i line d' w (xU 2 j) bm):=A (JX dn.o (aa.go_bad cz.o.lt cz.o.ne (kN.o _ bg)));go_wp2;exact⟨rfl,ba.o⟩
 .have lo:=(cz.o.st.below cN.o).below dh;have dn:=A ((cN.o.mono J).trans (dh.mono (B':=N) (by have:=cN.o.size;omega)));have pP:=Jq bg cz.o.lt cz.o.ne;have z:Hid (aa.go (aC S) i line d'=aa.go (aC S) j line d'):=A (aa.go_skip cz.o.lt cz.o.ne (kN.o _ bg) pP);obtain⟨v5,ue,_⟩:=lo.at_;have ag:=az ue 1;have am3:=cX ue 1;have BK:=lo.lt;simp only[cO,cQ,c8] at ag;have ko:=A lo;clear lo;go_wp2;go_returns;exact AZ (dn.o.setCell (p:=⟨p,1,none⟩) hN _) z.o pP hjS J cz.o.ax (ko.o.move (j:=j))
def O_{s i}(R:aa.blank (Y s i 0)=false)(T:n2 [47,47] (s.drop i)=false)(ah:aa.letter (Y s i 0)=true):kY s i= .tok ⟨if aa.words.contains (aa.cut s i (fD hr s i)) then 4 else 1,aa.cut s i (fD hr s i),0,i⟩ (fD hr s i):=by unfold kY;rw[ao (by rw[R];simp),ao (by rw[T];simp),aS ah]
def QK{s i}(R:aa.blank (Y s i 0)=false)(T:n2 [47,47] (s.drop i)=false)(ah:aa.letter (Y s i 0)=false)(bJ:aa.digit (Y s i 0)=true):kY s i=if 9<D (aa.cut s i (fD aa.digit s i))\/(1<D (aa.cut s i (fD aa.digit s i))/\Y s i 0=48) then .bL 3 i else .tok ⟨2,aa.cut s i (fD aa.digit s i),np (aa.cut s i (fD aa.digit s i)),i⟩ (fD aa.digit s i):=by unfold kY;rw[ao (by rw[R];simp),ao (by rw[T];simp),ao (by rw[ah];simp),aS bJ]
def CZ{s i x}(R:aa.blank (Y s i 0)=false)(T:n2 [47,47] (s.drop i)=false)(ah:aa.letter (Y s i 0)=false)(bJ:aa.digit (Y s i 0)=false)(dH:xN (s.drop i)=x):kY s i=match x with|none=> .bL 2 i|some g=> .tok ⟨3,g,0,i⟩ (i+D g):=by unfold kY;rw[ao (by rw[R];simp),ao (by rw[T];simp),ao (by rw[ah];simp),ao (by rw[bJ];simp)];split<;>rename_i fE<;>rw[fE] at dH<;>subst dH<;>rfl
def C0{l:List (List UInt8)}{p:List UInt8->Bool}(h: ∀x∈l,p x=false):l.find? p=none:=by rw[List.find?_eq_none];intro x aF;rw[h x aF];simp
def QV{l}{p:List UInt8->Bool}{n}(ax:n<D l)(h: ∀x∈l.take n,p x=false)(aJ:p (Y l n [])=true):l.find? p=some (Y l n []):=by
 have e:l=l.take n++Y l n []::l.drop (n+1):=by
  have R:Y l n []=l[n]:=by simp[cE ax]
  rw[R,<-kS ax,xK]
 have T:(l.take n++Y l n []::l.drop (n+1)).find? p=some (Y l n []):=by
  rw[xI,C0 h,Option.none_or,List.find?_cons,aJ]
 rw[<-e] at T;exact T
def QI: ∀n,n<25->gD.getD n []≠[]/\D (gD.getD n [])<=2:=by decide+kernel
def O'(c:UInt8)(b:Bool)(w:ai)(h:Hid (aa.digit c=b)):aY 91 #[.int .i32 (c.toNat:Int)] w λe w'=>e= .returned (.bool b)/\w=w':=by have:=O4 c w;rw[h.o] at this;exact this
def VU(c:UInt8)(b:Bool)(w:ai)(h:Hid (aa.letter c=b)):aY 94 #[.int .i32 (c.toNat:Int)] w λe w'=>e= .returned (.bool b)/\w=w':=by have:=VD c w;rw[h.o] at this;exact this
def VE(V:Nat)(x)(b:Bool)(w:ai)(hT:kF V w)(h:Hid (hasB aa.words x=b)):aY 96 #[x] w λe w'=>e= .returned (.bool b)/\aL w w w':=by have:=WG V x w hT;rw[h.o] at this;exact this
def Vz(c:UInt8)(h:aa.digit c=true):aa.letter c=false:=by rw[F5,decide_eq_false_iff_not];rw[xP,pt] at h;omega
def WH(c:UInt8)(h:aa.letter c=true):aa.digit c=false:=by
 cases bB:aa.digit c with
 |false=>rfl
 |true=>rw[Vz c bB] at h;cases h
def XL(c:UInt8)(h:aa.letter c=true):c.toNat<128:=by rw[F5,pt] at h;omega
def aac(c:UInt8)(h:aa.digit c=true):c.toNat<128:=by rw[xP,pt] at h;omega
def J5(S:ByteArray)(k j:Nat)(U:k<=j)(bg:j<=S.size):D (aa.cut (aC S) k j)=j-k:=by rw[<-xQ,kf,J1 S k j U bg]
def XK(V N p i:Nat)(S:ByteArray)(line:Bool)(d':List aa.Tok)(w:ai)(c:UInt8)(h:vk V N p i S line d' w c)(G:aa.blank c=false)(pA:n2 [47,47] ((aC S).drop i)=false)(r_:aa.digit c=true):aY 60 #[(p,0)] w (nJ N p S i line d' w):=by
 obtain⟨v,aJ,bQ⟩:=h.st.at_;have bq:=az aJ 1;simp only[cO,cQ,c8] at bq;have gV:=h.st.lt;have ay:=h.ay;have aD:=h.aD;have kr:=h.kr;have hN:=h.hN;have uR:=h.uR;have Bi:=aac c r_;have dD:=QK (s:=aC S) (i:=i) (by rw[h.hc];exact G) pA (by rw[h.hc];exact Vz c r_) (by rw[h.hc];exact r_);have uS:=CU (p:=aa.digit) h.lt (by rw[h.hc];exact r_);have cr:=OY (p:=aa.digit) (s:=aC S) (i:=i) (Nat.le_of_lt h.lt);rw[kf] at cr;rw[J5 S i _ J cr] at dD;have agk:=A (Gk aa.digit (aC S) i (Nat.le_of_lt h.lt));have kN:=A dD;have d_:=A aJ;have cz:=A h;have zP:=A (J4 S ⟨#[47,47]⟩ i pA);have hq:=A r_;obtain⟨b1,b2,bC⟩:=Gb G;clear aJ h dD r_;go_in;have Go:=0;go_wp2;refine b7 (CW V p i i S line v w c d_.o ay aD cz.o.hT cz.o.hc Bi) λw1 ck=>?_;have h7:=d_.o.below ck;have d0:=az h7 0;have d1:=az h7 1;simp only[cO,cQ,c8] at d0 d1;have c1:=A ck;have gE:=ck.size;clear ck;go_wp2;go_quiet ((go_at_call 89;exact Dk (Gy _ _ _ _ zP)))
 have cN:Hid (aL w w (w1.drewN nq)):=A (c1.o.trans ⟨rfl,rfl,rfl,bD _,λ_ _=>rfl⟩);clear c1;generalize w1.drewN nq=w2 at*;go_wp2;refine b7 (O' c true w2 hq) ?_;rintro bc rfl;go_wp2;refine b7 (Xb p i S line v w2 (d_.o.below cN.o) J aD) ?_;rintro bc rfl;have mK:=cN.o.size;generalize fD aa.digit (aC S) i=j at*;go_wp2;by_cases nu:9<j-i\/(1<j-i/\Y (aC S) i 0=48)
 .refine b7 (ads N p i j S line d' w2 (cz.o.st.below cN.o) hN uS cr aD nu) λbm dh=>?_;have ba:Hid (nJ N p S i line d' w (xU 3 i) bm):=A (JX ((cN.o.mono J).trans dh) (aa.go_bad cz.o.lt cz.o.ne (by rw[kN.o,aS nu])));go_wp2;exact⟨rfl,ba.o⟩
 .refine b7 (adt N p i j S line d' w2 (cz.o.st.below cN.o) hN uS cr aD nu agk.o (by have:=cz.o.hl;omega)) λbm⟨lo,dh⟩=>?_;have ba:Hid (nJ N p S i line d' w (.returned (.bool true)) bm):=A (AZ ((cN.o.mono J).trans dh) (aa.go_tok cz.o.lt cz.o.ne (by rw[kN.o,ao nu]) uS) uS cr bT (λ_=>by simp) lo);go_wp2;go_returns;exact ba.o
def Xa(V N p i:Nat)(S:ByteArray)(line:Bool)(d':List aa.Tok)(w:ai)(c:UInt8)(h:vk V N p i S line d' w c)(G:aa.blank c=false)(pA:n2 [47,47] ((aC S).drop i)=false)(bN:aa.letter c=true):aY 60 #[(p,0)] w (nJ N p S i line d' w):=by
 obtain⟨v,aJ,bQ⟩:=h.st.at_;have bq:=az aJ 1;simp only[cO,cQ,c8] at bq;have gV:=h.st.lt;have ay:=h.ay;have aD:=h.aD;have kr:=h.kr;have hN:=h.hN;have uR:=h.uR;have Bi:=XL c bN;have dD:=O_ (s:=aC S) (i:=i) (by rw[h.hc];exact G) pA (by rw[h.hc];exact bN);have uS:=CU (p:=hr) h.lt (by rw[h.hc];unfold hr;rw[bN];rfl);have cr:=OY (p:=hr) (s:=aC S) (i:=i) (Nat.le_of_lt h.lt);rw[kf] at cr;have kN:=A dD;have d_:=A aJ;have cz:=A h;have zP:=A (J4 S ⟨#[47,47]⟩ i pA);have hq:=A (WH c bN);have cZ:=A bN;obtain⟨b1,b2,bC⟩:=Gb G;clear aJ h dD bN;go_in;have Go:=0;go_wp2;refine b7 (CW V p i i S line v w c d_.o ay aD cz.o.hT cz.o.hc Bi) λw1 ck=>?_;have h7:=d_.o.below ck;have d0:=az h7 0;have d1:=az h7 1;simp only[cO,cQ,c8] at d0 d1;have c1:=A ck;have gE:=ck.size;clear ck;go_wp2;go_quiet ((go_at_call 89;exact Dk (Gy _ _ _ _ zP)))
 have cN:Hid (aL w w (w1.drewN nq)):=A (c1.o.trans ⟨rfl,rfl,rfl,bD _,λ_ _=>rfl⟩);clear c1;generalize w1.drewN nq=w2 at*;go_wp2;refine b7 (O' c false w2 hq) ?_;rintro bc rfl;go_wp2;refine b7 (VU c true w2 cZ) ?_;rintro bc rfl;go_wp2;refine b7 (XM p i S line v w2 (d_.o.below cN.o) J aD) ?_;rintro bc rfl;have mK:=cN.o.size;generalize fD hr (aC S) i=j at*;have tb:=d_.o.below cN.o;have d0:=az tb 0;have d1:=az tb 1;have Hd:=bd tb;simp only[cO,cQ,c8] at d0 d1;have te:=A (cz.o.hT.below cN.o uR);have B0:=A (xQ S i j);have⟨Ek,amU,amV,amW⟩:V<=w2.heap.size/\(0:Int)<=i/\(i:Int)<=j/\(j:Int)<=S.size:=J;cases hw:hasB aa.words (S.extract i j) with
 |false=>
  have hd:=A hw;have z:Hid (aa.go (aC S) i line d'=aa.go (aC S) j true (d'++[⟨1,aa.cut (aC S) i j,0,i⟩])):=A (aa.go_tok cz.o.lt cz.o.ne (by
   rw[kN.o,<-B0.o];unfold hasB at hw;rw[hw];rfl) uS)
  clear hw;go_wp2;go_region_held3 (λw'=>aG w' p=some [S]/\aG w' (p,1)=some [i]) ((refine⟨?_,?_⟩<;>assumption))
   ((go_at_call 96;refine b7 (VE V _ false _ (te.o.below ((aT _ _).drew) Ek) hd) λbm dh=>?_;have g_:aL w2 w2 bm:=((aT w2 w2).drew).trans dh;have fx:=(g_.cell (p:=⟨p,0,none⟩) Hd).trans d0;have hp:=(g_.cell (p:=⟨p,1,none⟩) Hd).trans d1))
  have ko:=A ((cz.o.st.below cN.o).below g_);have lL:=A (g_.mono (B':=N) J);clear g_;go_wp2;refine b7 (KC N p i j 1 S line d' bm ko.o hN (Nat.le_of_lt uS) cr aD aN (by have:=cz.o.hl;omega)) λb3⟨yc,ie⟩=>?_;have ba:Hid (nJ N p S i line d' w (.returned (.bool true)) b3):=A (AZ (((cN.o.mono J).trans lL.o).trans ie) z.o uS cr bT (λ_=>by simp) yc);go_wp2;go_returns;exact ba.o
 |true=>
  have hd:=A hw;have z:Hid (aa.go (aC S) i line d'=aa.go (aC S) j true (d'++[⟨4,aa.cut (aC S) i j,0,i⟩])):=A (aa.go_tok cz.o.lt cz.o.ne (by
   rw[kN.o,<-B0.o];unfold hasB at hw;rw[hw];rfl) uS)
  clear hw;go_wp2;go_region_held3 (λw'=>aG w' p=some [S]/\aG w' (p,1)=some [i]) ((refine⟨?_,?_⟩<;>assumption))
   ((go_at_call 96;refine b7 (VE V _ true _ (te.o.below ((aT _ _).drew) Ek) hd) λbm dh=>?_;have g_:aL w2 w2 bm:=((aT w2 w2).drew).trans dh;have fx:=(g_.cell (p:=⟨p,0,none⟩) Hd).trans d0;have hp:=(g_.cell (p:=⟨p,1,none⟩) Hd).trans d1))
  have ko:=A ((cz.o.st.below cN.o).below g_);have lL:=A (g_.mono (B':=N) J);clear g_;go_wp2;refine b7 (KC N p i j 4 S line d' bm ko.o hN (Nat.le_of_lt uS) cr aD aN (by have:=cz.o.hl;omega)) λb3⟨yc,ie⟩=>?_;have ba:Hid (nJ N p S i line d' w (.returned (.bool true)) b3):=A (AZ (((cN.o.mono J).trans lL.o).trans ie) z.o uS cr bT (λ_=>by simp) yc);go_wp2;go_returns;exact ba.o
structure acz (p i:Nat)(w:ai)(r n:Int):Prop where
 rune:aY 87 #[(p,0),i] w λe w'=>e= .returned (.tuple #[.int .i32 r,n])/\aL w w w'
 ahX: ∀w,aY 91 #[.int .i32 r] w λe w'=>e= .returned (.bool false)/\w=w'
 agh: ∀w,aY 94 #[.int .i32 r] w λe w'=>e= .returned (.bool false)/\w=w'
 pK:0<=r
 eS:(r==10)=false
 b1:(r==32)=false
 b2:(r==9)=false
 bC:(r==13)=false
def QH(X)(s:List UInt8)(b:Bool)(w:ai)(h:Hid (n2 s (aC X)=b)):aY 89 #[X,s] w λe w'=>e= .returned (.bool b)/\w'=w:=Gy X (str s) b w (A (by rw[f_];exact h.o))
def Qg(V N p i:Nat)(S:ByteArray)(line:Bool)(d':List aa.Tok)(w:ai)(c:UInt8)(r n:Int)(h:vk V N p i S line d' w c)(bX:acz p i w r n)(G:aa.blank c=false)(bN:aa.letter c=false)(r_:aa.digit c=false)(pA:n2 [47,47] ((aC S).drop i)=false):aY 60 #[(p,0)] w (nJ N p S i line d' w):=by
 obtain⟨v,aJ,bQ⟩:=h.st.at_;have bq:=az aJ 1;simp only[cO,cQ,c8] at bq;have gV:=h.st.lt;have ay:=h.ay;have aD:=h.aD;have hN:=h.hN;have uR:=h.uR;have Ej:Hid (xN ((aC S).drop i)=none->kY (aC S) i= .bL 2 i):=A (λaF=>CZ (x:=none) (by rw[h.hc];exact G) pA (by rw[h.hc];exact bN) (by rw[h.hc];exact r_) aF);have dX:Hid (∀g,xN ((aC S).drop i)=some g->kY (aC S) i= .tok ⟨3,g,0,i⟩ (i+D g)):=A (λg aF=>CZ (x:=some g) (by rw[h.hc];exact G) pA (by rw[h.hc];exact bN) (by rw[h.hc];exact r_) aF);have d_:=A aJ;have cz:=A h;have eX:=A bX;have zP:=A (J4 S ⟨#[47,47]⟩ i pA);have pK:=bX.pK;have eS:=bX.eS;have b1:=bX.b1;have b2:=bX.b2;have bC:=bX.bC;clear aJ h bX;go_in;have Go:=0;go_wp2;refine eX.o.rune.mono ?_;rintro e w1 ⟨rfl,ck⟩;have h7:=d_.o.below ck;have d0:=az h7 0;have d1:=az h7 1;simp only[cO,cQ,c8] at d0 d1;have c1:=A ck;have gE:=ck.size;clear ck;go_wp2;go_quiet ((go_at_call 89;exact Dk (Gy _ _ _ _ zP)))
 have cN:Hid (aL w w (w1.drewN nq)):=A (c1.o.trans ⟨rfl,rfl,rfl,bD _,λ_ _=>rfl⟩);clear c1;generalize w1.drewN nq=w2 at*;go_wp2;refine b7 (eX.o.ahX w2) ?_;rintro bc rfl;go_wp2;refine b7 (eX.o.agh w2) ?_;rintro bc rfl;have mK:=cN.o.size;go_wp2;refine b7 (XW V w2 (cz.o.hT.below cN.o uR)) λbc⟨pG,e0⟩=>?_;have eV:=A pG;have fu:=A (cN.o.trans (e0.mono mK));have agi:=bd pG;clear pG;go_wp2;go_loopw[20] (λm wr=> ∃k:Nat,k<=25/\m= k/\Hid (∀x∈gD.take k,x.isPrefixOf ((aC S).drop i)=false)/\Hid (aL bc bc wr)) (λm _=>25-(intOf m).toNat)
 case atStart=>exact⟨0,by omega,rfl,A bT,A (aT _ _)⟩
 case round=>
  obtain⟨k,U,rfl,qO,lv⟩:=hrel;have DY:=lv.o;have BD:=(d_.o.below (fu.o)).below DY;have dY:=az BD 0;have ag:=az BD 1;simp only[cO,cQ,c8] at dY ag;have amb:=bd BD;have ow:=A ((cz.o.st.below fu.o).below DY);have dx:=A (fu.o.trans (DY.mono fu.o.size));have HT:=DY.size;by_cases BZ:k<25
  .have gU:=(eV.o.below DY agi).cell (k:=k) (show k<gD.length from BZ);have dj:Hid (n2 (gD.getD k []) ((aC S).drop i)=true->xN ((aC S).drop i)=some (gD.getD k [])):=A (λh=>QV (p:=λg=>g.isPrefixOf ((aC S).drop i)) (show k<gD.length from BZ) qO.o h);have pO:Hid (n2 (gD.getD k []) ((aC S).drop i)=false-> ∀x∈gD.take (k+1),x.isPrefixOf ((aC S).drop i)=false):=A (λh x aF=>by
    rw[List.take_succ_eq_append_getElem (show k<gD.length from BZ),List.mem_append,sE] at aF;obtain aF|aF:=aF
    .exact qO.o x aF
    .have e:gD.getD k []=gD[k]'(show k<gD.length from BZ):=(by simp[cE (show k<gD.length from BZ)]);rw[aF,<-e];exact h)
   obtain⟨hp,kd⟩:=QI k BZ;have Mx:=A hp;clear hp;generalize gD.getD k []=y at*;cases aI:n2 y ((aC S).drop i) with
   |true=>
    have Nc:Hid (n2 y (aC (S.extract i S.size))=true):=A (by rw[FY,f_];exact aI);have TG:=List.isPrefixOf_iff_prefix.1 aI;have hle:=TG.length_le;rw[qA,kf] at hle;have nR:=List.length_pos_iff.2 Mx.o;have Ab:Hid (aa.cut (aC S) i (i+D y)=y):=A (by unfold aa.cut;rw[show i+D y-i=D y by omega];exact(List.prefix_iff_eq_take.1 TG).symm);have z:Hid (aa.go (aC S) i line d'=aa.go (aC S) (i+D y) true (d'++[⟨3,y,0,i⟩])):=A (aa.go_tok cz.o.lt cz.o.ne (dX.o y (dj.o aI)) J);have HU:=js y;clear pO;have agj:(str y).size<=2:=J;have Zm:=A HU;clear HU;go_wp2;go_quiet ((go_at_call 89;exact Dk (QH _ _ _ _ Nc)))
    have ko:Hid (kG N p (wr.drewN nq) S i line d'):=A (ow.o.below ⟨rfl,rfl,rfl,bD _,λ_ _=>rfl⟩);have dn:Hid (aL w w (wr.drewN nq)):=A (dx.o.trans ⟨rfl,rfl,rfl,bD _,λ_ _=>rfl⟩);have f1:aG (wr.drewN nq) (p,1)=some [i]:=ag;clear ow dx lv;generalize wr.drewN nq=bm at*;go_wp2;rw[show((i:Int)+((str y).size:Int))=((i+D y:Nat):Int) by rw[Zm.o];omega];refine b7 (KC N p i (i+D y) 3 S line d' bm ko.o hN J J aD aN (by have:=cz.o.hl;omega)) λb3⟨yc,ie⟩=>?_;rw[Ab.o] at yc;have ba:Hid (nJ N p S i line d' w (.returned (.bool true)) b3):=A (AZ ((dn.o.mono J).trans ie) z.o J J bT (λ_=>by simp) yc);go_wp2;go_returns;exact ba.o
   |false=>
    have Nc:Hid (n2 y (aC (S.extract i S.size))=false):=A (by rw[FY,f_];exact aI);have HV:=A (pO.o aI);clear pO;go_wp2;go_quiet ((go_at_call 89;exact Dk (QH _ _ _ _ Nc)))
    have dn:Hid (aL bc bc (wr.drewN nq)):=A (lv.o.trans ⟨rfl,rfl,rfl,bD _,λ_ _=>rfl⟩);go_wp2;go_roundw
    case rel=>exact⟨k+1,by omega,by go_num,HV,dn⟩
    case measure=>simp[intOf];omega
  .obtain rfl:k=25:=J;have z:Hid (aa.go (aC S) i line d'= .error (2,i)):=A (aa.go_bad cz.o.lt cz.o.ne (Ej.o (C0 (p:=λg=>g.isPrefixOf ((aC S).drop i)) (by have h:=qO.o;rwa[show gD.take 25=gD from rfl] at h))));have ba:Hid (nJ N p S i line d' w (xU 2 i) wr):=A (JX (dx.o.mono J) z.o);go_wp2;refine b7 (JY p 2 (i:Int) _) ?_;rintro b3 rfl;go_wp2;exact⟨rfl,ba.o⟩
def W_(r)(h:128<=r)(w:ai):aY 91 #[.int .i32 r] w λe w'=>e= .returned (.bool false)/\w=w':=by go_in;go_wp2;go_returns;exact⟨lD (by simp;omega),rfl⟩
def WE(r)(h:128<=r)(w:ai):aY 94 #[.int .i32 r] w λe w'=>e= .returned (.bool false)/\w=w':=by
 have am9:(r==95)=false:=by rw[u9];omega
 go_in;go_wp2;go_returns;exact⟨lD (by simp;omega),rfl⟩
def Qh: ∀x∈gD,x≠[]/\(Y x 0 0).toNat<128:=by decide+kernel
def abP{x l:List UInt8}(h:x.isPrefixOf l=true)(aF:x≠[]):Y l 0 0=Y x 0 0:=by
 obtain⟨r,rfl⟩:=List.isPrefixOf_iff_prefix.1 h;cases x with
 |nil=>exact absurd rfl aF
 |cons a x=>rfl
def QJ{x l:List UInt8}(aF:x≠[])(R:(Y x 0 0).toNat<128)(T:128<=(Y l 0 0).toNat):x.isPrefixOf l=false:=by
 cases h:x.isPrefixOf l with
 |false=>rfl
 |true=>rw[abP h aF] at T;omega
def abQ{c}(h:128<=c.toNat):aa.blank c=false/\aa.letter c=false/\aa.digit c=false:=by
 refine⟨?_,?_,?_⟩
 .rw[JZ];simp;omega
 .rw[F5,decide_eq_false_iff_not];omega
 .rw[xP,decide_eq_false_iff_not];omega
def Z_(V N p i:Nat)(S:ByteArray)(line:Bool)(d':List aa.Tok)(w:ai)(c:UInt8)(h:vk V N p i S line d' w c)(hc:128<=c.toNat):aY 60 #[(p,0)] w (nJ N p S i line d' w):=by
 obtain⟨dq,cR,n3⟩:=abQ hc;have lz:Y ((aC S).drop i) 0 0=c:=by rw[Jy];exact h.hc
 have pA:n2 [47,47] ((aC S).drop i)=false:=QJ bT aN (by rw[lz];exact hc);obtain⟨v,aJ,bQ⟩:=h.st.at_;by_cases nu:aa.dec ((aC S).drop i)=(65533,1)
 .have aI:xN ((aC S).drop i)=none:=C0 (p:=λg=>g.isPrefixOf ((aC S).drop i)) (λx aF=>QJ (Qh x aF).1 (Qh x aF).2 (by rw[lz];exact hc));have z:Hid (aa.go (aC S) i line d'= .error (2,i)):=A (aa.go_bad h.lt h.ne (CZ (x:=none) (by rw[h.hc];exact dq) pA (by rw[h.hc];exact cR) (by rw[h.hc];exact n3) aI));have bq:=az aJ 1;simp only[cO,cQ,c8] at bq;have dT:=(J0 V p i i S line v w aJ h.ay h.aD h.hT).mono (R':=λe w'=>e=xU 2 i/\aL w w w') (λe w' a_=>by
   obtain⟨G,⟨_,he⟩|⟨R,_⟩⟩:=a_
   .exact⟨he,G⟩
   .exact absurd nu R)
  have cP:=A dT;have hN:=h.hN;have gV:=h.st.lt;clear dT;go_in;go_wp2_with fail;refine cP.o.mono ?_;rintro e w1 ⟨rfl,ck⟩;have ba:Hid (nJ N p S i line d' w (xU 2 i) w1):=A (JX (ck.mono J) z.o);unfold xU;go_wp2;exact⟨rfl,ba.o⟩
 .have aZ:(aC S).drop i≠[]:=by intro aH;have:=List.drop_eq_nil_iff.1 aH;have:=h.lt;omega
  have anm:=(PF aZ).2 (by rw[lz];exact hc);refine Qg V N p i S line d' w c ((aa.dec ((aC S).drop i)).1:Int) ((aa.dec ((aC S).drop i)).2:Int) h ⟨?_,λw=>W_ _ J w,λw=>WE _ J w,by omega,?_,?_,?_,?_⟩ dq cR n3 pA
  .exact(J0 V p i i S line v w aJ h.ay h.aD h.hT).mono (λe w' a_=>by
    obtain⟨G,⟨R,_⟩|⟨_,he⟩⟩:=a_
    .exact absurd R nu
    .exact⟨he,G⟩)
  all_goals
   rw[u9];omega
def abO(V N p i:Nat)(S:ByteArray)(line:Bool)(d':List aa.Tok)(w:ai)(h:kG N p w S i line d')(hN:N<=p)(ax:line=true->d'≠[])(hl:D d'<=12000)(ay:i<=S.size)(aD:S.size<=6000)(hT:kF V w)(bY:V<=w.heap.size):aY 60 #[(p,0)] w (nJ N p S i line d' w):=by
 by_cases he:i=S.size
 .subst he;exact abR N p S line d' w h hN ax hl
 .have Nd:i<S.size:=J;by_cases kr:Y (aC S) i 0=10
  .exact aaa V N p i S line d' w h hN ax hl Nd aD hT kr
  .have aR:vk V N p i S line d' w (Y (aC S) i 0):=⟨h,hN,ax,hl,Nd,aD,hT,bY,rfl,Lc kr⟩;generalize(aC S).getD i 0=c at*;by_cases hc:128<=c.toNat
   .exact Z_ V N p i S line d' w c aR hc
   .cases G:aa.blank c with
    |true=>exact XJ V N p i S line d' w c aR G
    |false=>
     cases aJ:n2 [47,47] ((aC S).drop i) with
     |true=>exact aab V N p i S line d' w c aR G J aJ
     |false=>
      cases bN:aa.letter c with
      |true=>exact Xa V N p i S line d' w c aR G aJ bN
      |false=>
       cases bB:aa.digit c with
       |true=>exact XK V N p i S line d' w c aR G aJ bB
       |false=>
        obtain⟨b1,b2,bC⟩:=Gb G;obtain⟨v,bQ,_⟩:=h.at_;refine Qg V N p i S line d' w c (c.toNat:Int) 1 aR ⟨CW V p i i S line v w c bQ Nd aD hT aR.hc J,λw=>O' c false w (A bB),λw=>VU c false w (A bN),by omega,aR.kr,b1,b2,bC⟩ G bN bB aJ
def KB{dP cy:Nat}{v0 f0 f1}{w:ai}(e9:w.heap[dP]?=some (.cells #[v0] 62 (0,0)))(e3:w.heap[cy]?=some (.cells #[f0,f1] 25 (0,0)))(u c a):
  (a7 (a7 (a7 w dP u) cy c) (cy,1) a).heap[dP]?=some (.cells #[u] 62 (0,0))/\
  (a7 (a7 (a7 w dP u) cy c) (cy,1) a).heap[cy]?=some (.cells #[c,a] 25 (0,0))/\
  (∀V,V<=dP->V<=cy->aL V w (a7 (a7 (a7 w dP u) cy c) (cy,1) a))/\
  ∀N n x xs,w.ownsRow N 97 4 x n xs->(a7 (a7 (a7 w dP u) cy c) (cy,1) a).ownsRow N 97 4 x n xs:=by
 have aZ:dP≠cy:=by
  rintro rfl;rw[e9] at e3;cases e3
 have a1:=et e9 0 u;have a2:=fK (p:=cy) a1 aZ 0 c;have a3:=fK (p:=cy) a2 aZ 1 a;have b1:=fK (p:=dP) e3 aZ.symm 0 u;have b2:=et b1 0 c;have bC:=et b2 1 a;exact⟨a3,bC,λV R T=>(((aT V w).setCell (p:=⟨dP,0,none⟩) R _).setCell (p:=⟨cy,0,none⟩) T _).setCell (p:=⟨cy,1,none⟩) T _,λN n x xs h=>eZ (eZ (eZ h e9 aN) b1 aN) b2 aN⟩
def Z9{dP cy:Nat}{v0 f0 f1:af}{w:ai}(e9:w.heap[dP]?=some (.cells #[v0] 62 (0,0)))(e3:w.heap[cy]?=some (.cells #[f0,f1] 25 (0,0)))(c a):
  (a7 (a7 (a7 w dP (.slice none 0 0)) cy c) (cy,1) a).heap[dP]?=some (.cells #[.slice none 0 0] 62 (0,0))/\
  (a7 (a7 (a7 w dP (.slice none 0 0)) cy c) (cy,1) a).heap[cy]?=some (.cells #[c,a] 25 (0,0)):=
 ⟨(KB e9 e3 _ c a).1,(KB e9 e3 _ c a).2.1⟩
def aer(dP cy:Nat)(v0 f0 f1 c a)(w:ai)(e9:w.heap[dP]?=some (.cells #[v0] 62 (0,0)))(e3:w.heap[cy]?=some (.cells #[f0,f1] 25 (0,0))):
  CallsD prog 59 #[.pointer (some ⟨dP,0,none⟩),.pointer (some ⟨cy,0,none⟩)] (.panicking [{v:= .iface 109 (.agg #[.int .i64 c,.int .i64 a]),recovered:=false}]) w λe pX w'=>
   e= .returned (.tuple #[])/\pX= .panicking [{v:= .iface 109 (.agg #[.int .i64 c,.int .i64 a]),recovered:=true}]/\w'.heap[dP]?=some (.cells #[.slice none 0 0] 62 (0,0))/\w'.heap[cy]?=some (.cells #[.int .i64 c,.int .i64 a] 25 (0,0))/\ ∀V,V<=dP->V<=cy->aL V w w':=by
 have bO:=az e9 0;have g0:=az e3 0;have g1:=az e3 1;have cl:=cX e9 0;have aH:=cX e3 0;have R:=cX e3 1;have hl:=bd e9;have iL:=bd e3;have aZ:dP≠cy:=by
  rintro rfl;rw[e9] at e3;cases e3
 simp only[cO,cQ,c8] at bO g0 g1;have Eb:=A e9;have Ec:=A e3;clear e9 e3;refine callsD_of_wpS func59 rfl λzv cs hu=>?_;apply wpS_seq;apply wpS_region;simp[wpOpsS,go_sem,recoverD,hu,ntmps59,Exit.thenS];refine wpS_of_wp ?_;clear hu;have tj: ∀w,(Instr.typeAssert (.iface 109 (.agg #[.int .i64 c,.int .i64 a])) 20 109 true).run prog w= .ok (.tuple #[.agg #[.int .i64 c,.int .i64 a],.bool true]) w:=λw=>by kernel_rfl
 have e:(#[Value.pointer (some ⟨dP,0,none⟩),Value.pointer (some ⟨cy,0,none⟩)]++(vy 11 eb).setIfInBounds 3 (Value.iface 109 (Value.agg #[Value.int IntKind.i64 c,Value.int IntKind.i64 a])):Array af)= #[.pointer (some ⟨dP,0,none⟩),.pointer (some ⟨cy,0,none⟩),eb,eb,eb,.iface 109 (.agg #[.int .i64 c,.int .i64 a]),eb,eb,eb,eb,eb,eb,eb]:=rfl;rw[e];clear e;go_wp2;go_region
 all_goals
  go_wp2;obtain⟨m1,m2⟩:=Z9 Eb.o Ec.o (.int .i64 c) (.int .i64 a);refine⟨rfl,_,rfl,.tuple #[],by simp[iX,results59,go_sem],rfl,rfl,hO m1 _,hO m2 _,λV R T=>?_⟩;exact(((((aT V w).setCell (p:=⟨dP,0,none⟩) R _).setCell (p:=⟨cy,0,none⟩) T _).setCell (p:=⟨cy,1,none⟩) T _).alloc (by simp;omega) _).drew
def W9(dP cy)(w:ai):
  CallsD prog 59 #[.pointer (some ⟨dP,0,none⟩),.pointer (some ⟨cy,0,none⟩)] .returning w λe pX w'=>e= .returned (.tuple #[])/\pX= .returning/\w'=w:=by
 refine callsD_of_wpS func59 rfl λzv cs hu=>?_;apply wpS_seq;apply wpS_region;simp[wpOpsS,go_sem,recoverD,hu,ntmps59,Exit.thenS];refine wpS_of_wp ?_;have e:(#[Value.pointer (some ⟨dP,0,none⟩),Value.pointer (some ⟨cy,0,none⟩)]++(vy 11 eb).setIfInBounds 3 Value.nilIface:Array af)= #[.pointer (some ⟨dP,0,none⟩),.pointer (some ⟨cy,0,none⟩),eb,eb,eb,.nilIface,eb,eb,eb,eb,eb,eb,eb]:=rfl;rw[e];go_wp2;refine⟨rfl,.returning,?_,.tuple #[],by simp[iX,results59,go_sem],rfl,rfl,rfl⟩;cases zv
 simp_all
def vc (S:ByteArray)(w:ai)(e:e7)(w':ai):Prop:=
 aL w w w'/\match aa.scan (aC S) with
  | .ok l=> ∃v,e= .returned (.tuple #[v,.agg #[(0:Int),(0:Int)]])/\lG w.heap.size w' v l/\D l<=12001
  | .error (c,p)=>e= .returned (.tuple #[.slice none 0 0,.agg #[c,p]])
def Qf{S w w' c p}(h:aa.scan (aC S)= .error (c,p))(G:aL w.heap.size w w'):vc S w (.returned (.tuple #[.slice none 0 0,.agg #[c,p]])) w':=by refine⟨G,?_⟩;rw[h]
def abM{S:ByteArray}{w w':ai}{l:List aa.Tok}{v:af}(h:aa.scan (aC S)= .ok l)(G:aL w w w')(bQ:lG w.heap.size w' v l)(hl:D l<=12001):vc S w (.returned (.tuple #[v,.agg #[(0:Int),(0:Int)]])) w':=by refine⟨G,?_⟩;rw[h];exact⟨v,rfl,bQ,hl⟩
def JW (n:Nat):List Deferred:=[{target:= .fn (.func 59) #[(n,0),(n+1,0)],args:= #[]}]
def abN {w dN:ai} {S:ByteArray} {c:Int} {a:Nat} {v0 f0 f1:af} {fR:Array af} (c9:dN.heap[w.heap.size]?=some (.cells #[v0] 62 (0,0))) (cw:dN.heap[w.heap.size+1]?=some (.cells #[f0,f1] 25 (0,0))) (da:aL w.heap.size w dN) (hc:aa.scan (aC S)= .error (c,a)) (T:fR[2]?=some (.pointer (some ⟨w.heap.size,0,none⟩))) (ah:fR[3]?=some (.pointer (some ⟨w.heap.size+1,0,none⟩))):
  bodyPostD prog f26 (vc S w) (Exit.panic [{v:= .iface 109 (.agg #[.int .i64 c,.int .i64 (a:Int)]),recovered:=false}]) {tmps:=fR,defers:=JW w.heap.size} dN:=by
 unfold JW;refine leaves_cons (f:=59) (args:= #[(w.heap.size,0),(w.heap.size+1,0)]) (by simp) (by simp[go_sem]) ?_;refine(aer _ _ _ _ _ c a _ c9 cw).mono ?_;rintro e pX bc ⟨rfl,rfl,m1,m2,m3⟩;have cl:=az m1 0;have cu:=az m2 0;have k2:=az m2 1;have gq:=bd m1;have iL:=bd m2;simp only[cO,cQ,c8] at cl cu k2;have dj:=A (Qf hc (da.trans (m3 w.heap.size (by omega) (by omega))));simp[Leaves,settle,iX,results26,go_sem,cl,cu,k2,T,ah];exact dj.o
def adr{w dN S v f0 f1 fR dY}(he:dY= .ret)(e9:dN.heap[w.heap.size]?=some (.cells #[v] 62 (0,0)))(e3:dN.heap[w.heap.size+1]?=some (.cells #[f0,f1] 25 (0,0)))(aJ:vc S w (.returned (.tuple #[v,.agg #[f0,f1]])) dN)
 (T:fR[2]?=some (.pointer (some ⟨w.heap.size,0,none⟩)))(ah:fR[3]?=some (.pointer (some ⟨w.heap.size+1,0,none⟩))):
  bodyPostD prog f26 (vc S w) dY {tmps:=fR,defers:=JW w.heap.size} dN:=by subst he;unfold JW;refine leaves_cons (f:=59) (args:= #[(w.heap.size,0),(w.heap.size+1,0)]) bT (by simp[go_sem]) ?_;refine(W9 _ _ _).mono ?_;rintro e pX bc ⟨rfl,rfl,rfl⟩;have cl:=az e9 0;have cu:=az e3 0;have k2:=az e3 1;have gq:=bd e9;have iL:=bd e3;simp only[cO,cQ,c8] at cl cu k2;have dj:=A aJ;clear aJ;simp[Leaves,settle,iX,results26,go_sem,cl,cu,k2,T,ah];exact dj.o
def XV(w:ai)(S:ByteArray)(h:6000<S.size)(hm:S.size<=dc):aY 26 #[S] w (vc S w):=by
 unfold dc at hm;have dj:Hid (aa.scan (aC S)= .error (1,0)):=A (by unfold aa.scan;rw[aS (by rw[kf];exact h)]);go_enter_defers func26,ntmps26
 go_wp2;have ba:Hid (vc S w (.returned (.tuple #[.slice none 0 0,.agg #[(1:Int),[((0:Nat):Int)]]])) (aA (aA w (aw #[.slice none 0 0] 62)) (aw #[(1:Int),(0:Int)] 25))):=A (Qf dj.o (((aT _ _).alloc (bD _) _).alloc bT _));simp[bodyPostD,Leaves,iX,results26,go_sem];exact ba.o
def F0{w x n}(h:w.heap.size=n):(aA w x).heap[n]?=some x:=by subst h;exact ek _ _
def qE{w:ai}{N N' e size n:Nat}{v:af}{xs}(h:w.ownsRow N e size v n xs)(hN:N'<=N):w.ownsRow N' e size v n xs:=by
 refine⟨h.1,?_⟩;obtain R|⟨g,cap,cur,bQ,G,T⟩:=h.2
 .exact .inl R
 .exact .inr ⟨g,cap,cur,bQ,hg hN G,T⟩
def W'(V:Nat)(w:ai)(S:ByteArray)(hT:kF V w)(bY:V<=w.heap.size)(aD:S.size<=6000):aY 26 #[S] w (vc S w):=by
 have Go:=0;have HY: ∀(fn:Fn) (first cap:Array af) (w:ai),(Instr.makeFunc fn first cap).run prog w= .ok (.func fn first cap) w:=λ_ _ _ _=>rfl;have bW:=A hT;clear hT;go_enter_defers func26,ntmps26
 go_wp2;obtain⟨w1,fp⟩: ∃w1:ai,w1=(aA (aA (aA w (aw #[.slice none 0 0] 62)) (aw #[(0:Int),(0:Int)] 25)) (aw #[S,(0:Int),.bool false,.slice none 0 0] 112)):=⟨_,rfl⟩;have iC:Hid (kG (w.heap.size+1+1) (w.heap.size+1+1) w1 S 0 false []):=A (by
  rw[fp];exact⟨.slice none 0 0,F0 bT,n7 _ _ _ _⟩)
 have qj:Hid (w1.heap[w.heap.size]?=some (.cells #[.slice none 0 0] 62 (0,0))):=A (by rw[fp];exact hO (hO (ek _ _) _) _);have cJ:Hid (w1.heap[w.heap.size+1]?=some (.cells #[(0:Int),(0:Int)] 25 (0,0))):=A (by
  rw[fp];exact hO (F0 bT) _)
 have c1:Hid (aL w w w1):=A (by rw[fp];exact((((aT _ _).alloc (bD _) _).alloc bT _).alloc (by simp;omega) _));have hS:Hid (aa.scan (aC S)=aa.go (aC S) 0 false []):=A (by unfold aa.scan;rw[ao (by rw[kf];omega)]);rw[<-fp];go_loopg[14] (S.size+1) (λm _ wr=> ∃(i:Nat) (line:Bool) (d':List aa.Tok),i<=S.size/\D d'<=i/\S.size+1-i<=m/\Hid (line=true->d'≠[])/\Hid (aa.scan (aC S)=aa.go (aC S) i line d')/\Hid (kG (w.heap.size+1+1) (w.heap.size+1+1) wr S i line d')/\Hid (aL (w.heap.size+1+1) w1 wr))
 case atStart=>exact⟨0,false,[],by omega,by simp,by omega,A (λh=>by cases h),hS,iC,A (aT _ _)⟩
 case round=>
  obtain⟨i,line,d',ay,rz,hm,ep,z,cC,bh⟩:=hrel;have hsz:=cC.o.lt;go_wp2;refine(abO V (w.heap.size+1+1) (w.heap.size+1+1) i S line d' wr cC.o (bD _) ep.o J ay aD (bW.o.below (c1.o.trans (bh.o.mono J)) bY) J).mono ?_;rintro e bm ⟨dh,⟨c,j,wR,rfl⟩|⟨l,oS,wR,hl,rfl,lo⟩|⟨oS,wI,rA,wR,R,T,hl,ax,rfl,lo⟩⟩
  .have s_:=bh.o.trans dh;have c9:=A (ds qj.o s_ J);have cw:=A (ds cJ.o s_ J);have da:=A (c1.o.trans (s_.mono J));have dQ:=A (z.o.trans wR);unfold xU;go_wp2;exact abN c9.o cw.o da.o dQ.o rfl rfl
  .have s_:=bh.o.trans dh;have Na:=A (ds qj.o s_ J);have j0:=A (ds cJ.o s_ J);have dn:=A (c1.o.trans (s_.mono J));have dQ:=A (z.o.trans wR);obtain⟨v,ue,Nb⟩:=lo.at_;obtain⟨gX,cA,rfl⟩:=eR Nb rfl;have d3:=az ue 3;have cl:=az Na.o 0;have zJ:=cX Na.o 0;have f0:=az j0.o 0;have f1:=az j0.o 1;have oY:=cX j0.o 0;have oZ:=cX j0.o 1;have BK:=bd ue;simp only[cO,cQ,c8] at d3 cl f0 f1;have yp:=A Nb;clear lo Nb;go_wp2;obtain⟨m1,m2,m3,m4⟩:=KB Na.o j0.o (gX,D l,cA) (0:Int) (0:Int);exact adr rfl m1 m2 (abM dQ.o (dn.o.trans (m3 w.heap.size J J)) (qE (m4 _ _ _ _ yp.o) J) J) rfl rfl
  .have dn:=A (bh.o.trans dh);have ko:=A lo;have Ei:=A (z.o.trans wR);have Y3:=A ax;clear lo ax;go_wp2;go_roundg (S.size+1-oS)
   case measure=>omega
   case rel=>exact⟨oS,wI,rA,T,by omega,bD _,Y3,Ei,ko,dn⟩
def Z'(V:Nat)(w:ai)(S:ByteArray)(hT:kF V w)(bY:V<=w.heap.size)(hm:S.size<=dc):aY 26 #[S] w (vc S w):=by
 by_cases h:6000<S.size
 .exact XV w S h hm
 .exact W' V w S hT bY J
section
open Go.ChangeShapes Go.WideShapes Go.ChangeAt Go.RowKit Go.Shelf Go.Lib
def Tryz.own:ownKnob prog.godebug=none:=cS
def Tryz.laidOut:laidOutB prog=true:=cS
def adY:U8Extra prog lays197_ren:=⟨by kernel_rfl,by kernel_rfl,by kernel_rfl,by kernel_rfl,by kernel_rfl,by kernel_rfl,by kernel_rfl⟩
def aa6:Rows.laid_unicode_utf8_acceptRanges=acceptData:=cS
def acQ:Rows.laid_strings_asciiSpace=tabData (H:=Unit) .u8 asciiSpaceTab:=cS
def agt:lays197_ren.g 3=0:=cS
def agu:lays197_ren.g 4=1:=cS
def K5:prog.globalNamed "strings.asciiSpace" =some 2:=cS
def ZK:(prog.globals[2]?).map (·.type)=some 152:=cS
def aea:prog.cellsOf 5=1:=cS
def acR:prog.cellsOf 152=256:=cS
def aeQ{P:Program}{w:ai}{n cs g}(aB:P.globalNamed n=some g)(h:w.var? P n=some cs):g<w.heap.size:=by refine we λax=>?_;unfold World.var? at h;rw[aB,Option.bind_some,Array.getElem?_eq_none J] at h;cases h
def ak9{dC}(R:VarReads prog dC "unicode/utf8.first" Rows.laid_unicode_utf8_first)(T:VarReads prog dC "unicode/utf8.acceptRanges" Rows.laid_unicode_utf8_acceptRanges)(ah:VarReads prog dC "strings.asciiSpace" Rows.laid_strings_asciiSpace):kF dC.heap.size dC:=by
 have qH:=utf8Tabs_of_reads (P:=prog) {lays197 with} adY (show VarReads prog dC "unicode/utf8.first" firstData from Pinned.utf8First_eq▸R) (aa6▸T)
 rw[agt,agu] at qH;rw[acQ] at ah;obtain⟨h5,hL,cs,fuel,p,k3,ajv,agv,bB⟩:=ah;obtain rfl:=gZ (K5.symm.trans k3);obtain rfl:=gZ (ZK.symm.trans ajv);have ma:=cells_of_tab underlying152 underlying5 aea acR bB;have aD:Lib.TabIs prog dC "strings.asciiSpace" .u8 Lib.asciiSpaceTab:=by
  unfold TabIs;rw[agv,<-ma]
 intro w' G;refine⟨⟨λc hc=>?_,λi ay=>?_⟩,?_⟩
 .have h:=qH.1 c hc;exact(G.cell (p:=⟨_,_,none⟩) (lt_of_cell h)).trans h
 .have h:=(qH.2 i ay).1;have k:=(qH.2 i ay).2;exact⟨(G.cell (p:=⟨_,_,none⟩) (lt_of_cell h)).trans h,(G.cell (p:=⟨_,_,none⟩) (lt_of_cell k)).trans k⟩
 .exact var?_below G K5 (aeQ K5 aD) aD
def WR{H}{enc:TypeId×af->H}{dC nH:ai}(G:aL dC.heap.size dC nH):
  ∀(ts:List TypeId) (tc:List af) (nm:List (DataW H)) (ps:List MemPlace),(∀t∈ts,prog.readableRec t=true/\t<prog.types.size)->
   DataW.TrodAll enc prog dC 0 (λ_=>true) true ts tc nm ps->(∀x∈ps,x.block<dC.heap.size)->DataW.TrodAll enc prog nH 0 (λb=>decide (b<dC.heap.size)) true ts tc nm ps:=by
 intro ts
 induction ts with
 |nil=>intro tc nm ps _ h _;obtain⟨rfl,rfl,rfl⟩:=trodAll_nil h;exact trodAll_mk0
 |cons t ts cB=>
  intro tc nm ps bI h aJ;obtain⟨v0,akJ,d0,ahZ,qN,b',rfl,rfl,rfl,aH,pK⟩:=trodAll_cons h;exact trodAll_cons_mk (Below.trod Tryz.laidOut (bI t bT).1 (bI t bT).2 aH G (λx aF=>aJ x (by simp[aF])))
   (cB akJ ahZ b' (λu hu=>bI u (by simp[hu])) pK (λx aF=>aJ x (by simp[aF])))
def abm{H:Type}{enc:TypeId×af->H}{f:Func}{s:ChangeSpec}{dC:ai}{nH}{args:Array af}{nm:List (DataW H)}{before}
 (hs:s.vars=[])(ve:DataW.Whole enc prog f.params.toList s.vars false dC args.toList nm [] before)
 (bI: ∀t∈f.params.toList,prog.readableRec t=true/\t<prog.types.size)(aI:f.resultTypes= #[4])
 (vw:s.fn H (nm++[])={results:=[.lit (.bool true)],args:=nm})(G:aL dC dC nH):
  s.post enc prog f false true false false dC args (.bool true) nH:=by
 have bN:=ve.lt;have aiK:=ve;obtain⟨p,q,ev,wm,w8,_,_⟩:=ve;have aiI:DataW.TrodVars enc prog dC (λ_=>true) [] [] q:=by rw[hs] at wm;exact wm
 obtain⟨_,rfl⟩:=trodVars_none aiI;have aJ:before=p:=by simpa using w8
 subst aJ;refine⟨nm,[],before,[],before,[],aiK,?_,?_,?_,G.frame _,λh=>by cases h⟩
 .rw[vw,aI];exact trodAll_mk1 (shut_bool underlying4 _)
 .rw[vw];exact WR G _ _ _ _ bI ev (λx aF=>by simpa using bN x aF)
 .rw[vw,hs];rfl
end
end Go.Proofs.YtjfkhpkicioakaaGreatDoor
