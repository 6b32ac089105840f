/- PROVED HERE: the checker of the reference, walked. No condition. -/
import Derived.Test.YtjfkhpkicioakaaGreatDoorZLx1
import Derived.Test.YtjfkhpkicioakaaGreatDoorZCkR3
import Derived.Test.YtjfkhpkicioakaaGreatDoorZCkM1
import Derived.StillTailTactics
set_option maxRecDepth 100000
set_option maxHeartbeats 60000000
set_option linter.all false
open Go renaming Ending->e7,Value->af,World->ai,maxLen->dc,results->iX,wpList->fo
open Go.RowKit renaming Below->aL
open Go.World renaming setCell->a7
open List renaming getD->Y,length->D,replicate->ef
open Go.Proofs.YtjfkhpkicioakaaGreatDoor.B hiding ch fail
open Go.Proofs.Tryz
namespace Go.Proofs.YtjfkhpkicioakaaGreatDoor
open Go.RowKit
namespace Rk
open Ck
def sO{cy:Nat}{f0 f1}{w:ai}(e3:w.heap[cy]?=some (.cells #[f0,f1] 25 (0,0)))(c a):
  (a7 (a7 w cy c) (cy,1) a).heap[cy]?=some (.cells #[c,a] 25 (0,0))/\(∀V,V<=cy->aL V w (a7 (a7 w cy c) (cy,1) a))/\
  ∀N e bp n x xs,25≠e->w.ownsRow N e bp x n xs->(a7 (a7 w cy c) (cy,1) a).ownsRow N e bp x n xs:=
 ⟨et (et e3 0 c) 1 a,λV T=>((aT V w).setCell (p:=⟨cy,0,none⟩) T _).setCell (p:=⟨cy,1,none⟩) T _,λN e bp n x xs T h=>eZ (eZ h e3 T.symm) (et e3 0 c) T.symm⟩
def Lt (S:ByteArray)(w:ai)(e:e7)(w':ai):Prop:=aL w w w'/\match lZ S with
 | .error (c,p)=>e= .returned (.tuple #[.pointer none,.agg #[.int .i64 c,.int .i64 p]])
 | .ok (ts,us)=> ∃p nv tv uv b_ s fl,e= .returned (.tuple #[.pointer (some ⟨p,0,none⟩),.agg #[.int .i64 0,.int .i64 0]])/\w'.heap[p]?=some (.cells (rk nv tv uv b_ s fl) 38 (0,0))/\db w.heap.size w' tv ts/\hD w.heap.size w' uv us
def Pt{S w w' c p}(h:lZ S= .error (c,p))(G:aL w.heap.size w w'):Lt S w (.returned (.tuple #[.pointer none,.agg #[c,p]])) w':=by refine⟨G,?_⟩;rw[h]
def ud (n k:Nat):b5:=⟨ef n [],ef k (-1),[],[],0⟩
structure Ds (L:List aP)(f:Nat)(all:List Nat)(i:Nat)(s:b5)(fl:Option (Int×Int)):Prop where
 ok:fl=none->prog L=decls L (bE L f) (all.take i) (all.drop i) s
 bL: ∀x,fl=some x-> ∃c k,prog L= .bL c k/\x=(c,((Z L k).an:Int))
 gx:pU L (Ck.start L) s
section
variable{L:List aP}{E:List (aP×af)}{cG:Nat}{w0:ai}{p:Nat}{nv tv uv:af}{w w':ai}{b_:af}{s s':b5}{fl eT:Option (Int×Int)}
def ZP{E' Od k l}:decls L E' Od (k::l) s=(decl L E' Od k s).M λ_ s1=>decls L E' (Od++[k]) l s1:=rfl
def Ds.step{f all i}(h:Ds L f all i s none)(ay:i<D all)(hl:eN L none (decl L (bE L f) (all.take i) (Y all i 0) s) [] s' eT)(hs:pU L s s'):Ds L f all (i+1) s' eT:=by
 have R:=h.ok rfl;have aB:all[i]=Y all i 0:=by rw[cd,cE ay];rfl
 rw[kS ay,aB,ZP] at R;have aE:all.take (i+1)=all.take i++[Y all i 0]:=by rw[p3,cE ay,aB];rfl
 refine⟨λaI=>?_,λx aF=>?_,⟨hs.ty.trans h.gx.ty,hs.us.trans h.gx.us,hs.res.trans h.gx.res,hs.cx.trans h.gx.cx,hs.sc.trans h.gx.sc,λay=>hs.inv (h.gx.inv ay),λk U=>hs.gn k (h.gx.gn k U)⟩⟩
 .rw[aE];cases bB:decl L (bE L f) (all.take i) (Y all i 0) s with
  |bL c k=>have:=hl.bL rfl c k bB;rw[aI] at this;cases this
  |ok t s1=>
   obtain⟨_,_,rfl⟩:=hl.ok rfl t s1 bB;rw[bB] at R;exact R
 .subst aF;cases bB:decl L (bE L f) (all.take i) (Y all i 0) s with
  |bL c k=>
   have:=hl.bL rfl c k bB;rw[bB] at R;exact⟨c,k,R,gZ this⟩
  |ok t s1=>
   obtain⟨T,_⟩:=hl.ok rfl t s1 bB;cases T
def dK.afh(h:dK w0 p nv tv uv w (.slice none 0 0) s fl){I7 l}(bQ:hD w0.heap.size w' I7 l)(aB:w.grownBy w' uv.ownBlock)(gU:e4 s.sc=[]):dK w0 p nv tv I7 (a7 w' (p,2) I7) (.slice none 0 0) {s with eJ:=l} fl/\w'.heap[p]?=some (.cells (rk nv tv uv (.slice none 0 0) s fl) 38 (0,0)):=by
 have k7: ∀{b:Nat} {c:Array af} {t:TypeId},w.heap[b]?=some (.cells c t (0,0))->t≠3->some b≠uv.ownBlock:=λ{b c t} G aZ ag=>by
  obtain⟨jH,_⟩|⟨g2,fz,cur2,jH,_,b8,_⟩:=h.us.2
  .rw[jH] at ag;cases ag
  .rw[jH] at ag;rw[show g2=b from(gZ ag).symm,G] at b8;cases b8;exact aZ rfl
 have hblk:=(aB.block p (bd h.blk) (k7 h.blk aN)).trans h.blk;have ql:db w0.heap.size w' tv s.types:=by
  refine⟨h.ty.1,?_⟩;obtain aH|⟨g,cap,cur,rfl,hN,G,au⟩:=h.ty.2
  .exact .inl aH
  .exact .inr ⟨g,cap,cur,rfl,hN,(aB.block g (bd G) (k7 G aN)).trans G,au⟩
 have Bt:aL w0 w0 w':=h.av.grown aB h.av.size λk U=>(eI h.us k U).1;refine⟨⟨Bt.setCell (p:=⟨p,2,none⟩) h.aJ _,?_,eZ ql hblk aN,eZ bQ hblk aN,?_,h.aJ⟩,hblk⟩
 .exact et hblk 2 I7
 .show World.ownsRow _ _ _ _ _ _ _;rw[gU];exact n7 _ _ _ _
end
theorem abn (vU:Hid (zk 9)) (V:Nat) (w:ai) (S:ByteArray) (hT:kF V w) (bY:V<=w.heap.size) (hm:S.size<=dc):Calls prog 6 #[.string S] w (Lt S w):=by
 have bW:=A hT;clear hT
 go_enter func6,ntmps6
 go_wp2_with fail
 have uo:=A (ek w (.cells #[.int .i64 0,.int .i64 0] 25));have hj:aL w.heap.size w (w.alloc (.cells #[.int .i64 0,.int .i64 0] 25)):=(aT _ _).alloc (bD _) _;have e':(w.alloc (.cells #[.int .i64 0,.int .i64 0] 25)).heap.size=w.heap.size+1:=by simp
 generalize(w.alloc (.cells #[.int .i64 0,.int .i64 0] 25))=w0 at*;have lP:=A hj;clear hj;refine(vU.o V w0 S (bW.o.below lP.o bY) (by omega) hm).mono ?_;clear bY;rintro e w1 ⟨ck,h7⟩;have cJ:=A (ds uo.o ck (by omega));have c1:=A (lP.o.trans (ck.mono (by omega)));have e_:=ck.size;clear ck
 cases pf:j8 S with
 |error x=>
  obtain⟨c,p⟩:=x;rw[pf] at h7;dsimp only at h7;subst h7;have hc:=OJ pf;have cP:Hid (lZ S= .error (c,(p:Int))):=A (by unfold lZ;rw[pf]);have e9:(c !=0)=true:=by simpa using hc
  have en:=A (hO cJ.o (.cells #[.int .i64 c,.int .i64 (p:Int)] 25));have fN:=A (ek w1 (.cells #[.int .i64 c,.int .i64 (p:Int)] 25));have cN:=A (c1.o.alloc (by omega) (.cells #[.int .i64 c,.int .i64 (p:Int)] 25));have HX:w.heap.size≠w1.heap.size:=by omega
  clear hc pf;go_wp2_with fail
  generalize(w1.alloc (.cells #[.int .i64 c,.int .i64 (p:Int)] 25))=w2 at*;have g0:=az fN.o 0;have g1:=az fN.o 1;have ft:=bd fN.o;simp only[cO,cQ,c8] at g0 g1
  go_still_tail 2,(by kernel_rfl)
  change fo _ _ _ _ _ w2.drew
  clear g0 g1 ft;have fj:Hid (w2.drew.heap[w.heap.size]?=some (.cells #[.int .i64 0,.int .i64 0] 25 (0,0))):=en;have fu:=A cN.o.drew;generalize w2.drew=bc at*;clear en fN cN;have oY:=cX fj.o 0;have oZ:=cX fj.o 1;have f0:=az fj.o 0;have f1:=az fj.o 1;have jQ:=bd fj.o;simp only[cO,cQ,c8] at f0 f1;have gA:=A (sO fj.o (.int .i64 c) (.int .i64 (p:Int)));have cu:=az gA.o.1 0;have k2:=az gA.o.1 1;have pe:=bd gA.o.1;simp only[cO,cQ,c8] at cu k2;have dn:=A (fu.o.trans (gA.o.2.1 w.heap.size (bD _)));go_wp2_with fail
  generalize((bc.setCell ⟨w.heap.size,0,none⟩ (.int .i64 c)).setCell ⟨w.heap.size,1,none⟩ (.int .i64 (p:Int)))=bm at*;refine oK (v:= .tuple #[.pointer none,.agg #[.int .i64 c,.int .i64 (p:Int)]]) (by simp[iX,results6,go_sem,cu,k2]) rfl ?_;exact Pt cP.o dn.o
 |ok L=>
  rw[pf] at h7;obtain⟨v,E,rfl,dp,h8,c6⟩:=h7;have z:=A (O7 pf);have cZ:=A h8;have ic:=A pf;have hq:=A dp;clear pf h8 dp;have th:L.length=E.length:=by rw[cZ.o,h2]
  have BT:=z.o.an;have en:=A (hO cJ.o (.cells #[.int .i64 0,.int .i64 0] 25));have fN:=A (ek w1 (.cells #[.int .i64 0,.int .i64 0] 25));have cN:=A (c1.o.alloc (by omega) (.cells #[.int .i64 0,.int .i64 0] 25));have ys:Hid (iJ w0.heap.size (w1.alloc (.cells #[.int .i64 0,.int .i64 0] 25)) v E):=A (hq.o.vf ((aT _ _).alloc (bD _) _));have HX:w.heap.size≠w1.heap.size:=by omega
  have ff:(w1.alloc (.cells #[.int .i64 0,.int .i64 0] 25)).heap.size=w1.heap.size+1:=by simp
  obtain⟨gX,cA,rfl⟩:=eR ys.o.row rfl;have alb:=A ff;clear ff
  go_upto_region 4 with fail
  generalize(w1.alloc (.cells #[.int .i64 0,.int .i64 0] 25))=w2 at*;have I8:Hid (eL L E w0.heap.size w2 (.slice gX E.length cA)):=A ⟨z.o.jn.wf,z.o.jn.ws,z.o.jn.gx,cZ.o,z.o.fA,by omega,λw' G=>ys.o.vf G⟩;obtain⟨bm,pC,zU,dh⟩:=Qx w2 E.length (by omega);have w8:w2.heap.size<=bm.heap.size:=dh.size;have g_:aL bm.heap.size bm (bm.alloc (.cells (rk (.slice gX E.length cA) (.slice (some ⟨w2.heap.size,0,none⟩) E.length E.length) (.slice none 0 0) (.slice none 0 0) (ud E.length 0) none) 38)):=(aT _ _).alloc (bD _) _;have bK:Hid (dK w2 bm.heap.size (.slice gX E.length cA) (.slice (some ⟨w2.heap.size,0,none⟩) E.length E.length) (.slice none 0 0) (bm.alloc (.cells (rk (.slice gX E.length cA) (.slice (some ⟨w2.heap.size,0,none⟩) E.length E.length) (.slice none 0 0) (.slice none 0 0) (ud E.length 0) none) 38)) (.slice none 0 0) (ud E.length 0) none):=A
   {av:=dh.trans (g_.mono w8)
    blk:=ek _ _
    ty:=fZ zU g_ λk U=>(eI zU k U).2
    us:=n7 _ _ _ _
    lR:=n7 _ _ _ _
    aJ:=w8}
  clear zU dh g_;go_wp2_with fail
  clear pC;replace bK:Hid (dK w2 bm.heap.size (.slice gX E.length cA) (.slice (some ⟨w2.heap.size,0,none⟩) E.length E.length) (.slice none 0 0) (bm.alloc (.cells #[.slice gX E.length cA,.slice (some ⟨w2.heap.size,0,none⟩) E.length E.length,.slice none 0 0,.slice none 0 0,.string ⟨#[]⟩,.int .i64 0,.bool false,.int .i64 0,.int .i64 0] 38)) (.slice none 0 0) (ud E.length 0) none):=bK;generalize(bm.alloc (.cells #[.slice gX E.length cA,.slice (some ⟨w2.heap.size,0,none⟩) E.length E.length,.slice none 0 0,.slice none 0 0,.string ⟨#[]⟩,.int .i64 0,.bool false,.int .i64 0,.int .i64 0] 38))=b4 at*;generalize bm.heap.size=p at*;obtain⟨tv,ajy⟩: ∃bp,Value.slice (some ⟨w2.heap.size,0,none⟩) E.length E.length=bp:=⟨_,rfl⟩;rw[ajy] at bK⊢
  go_loopg[7] E.length (λr xR wr=> ∃(j:Nat) (uv:af),j+r=E.length/\xR= .int .i64 (j:Int)/\Hid (dK w2 p (.slice gX E.length cA) tv uv wr (.slice none 0 0) (ud E.length j) none))
  case atStart=>exact⟨0,_,by omega,rfl,bK⟩
  case round=>
   obtain⟨j,uv,bg,rfl,eU⟩:=hrel;clear bK;generalize wr=bH at*
   by_cases cr:j<E.length
   ·have j3:(j:Int)<(E.length:Int):=by omega
    have hK:IntKind.i64.wrap ((j:Int)+1)=(j:Int)+1:=dI _ (by omega);obtain⟨b',c9,cw,_,_,_,_⟩:=eU.o.at;have b9:=bd eU.o.blk;have mi:=cX eU.o.blk 2;obtain⟨gM,aQ,rfl⟩: ∃gM aQ,uv= .slice gM j aQ:=by have:=eR eU.o.us rfl;simpa[ud] using this
    go_wp2_with(at_builtin;refine ahm (-1) (H:=bH.heap.size) (l:=ef j (-1)) (by simp;omega) rfl eU.o.av.size eU.o.us (λg cap a6 fT gl=>?_);have FO:=A ((eU.o.alloc (.cells #[.int .i64 (-1)] 3)).afh fT gl rfl);have cK:=az FO.o.2 2;have cY:=cX FO.o.2 2;have kg:=bd FO.o.2;replace cK:a6.cell? ⟨p,2,none⟩=some (.slice gM j aQ):=cK;rw[wg] at FO;clear fT gl)
    generalize ta:(a6.setCell ⟨p,2,none⟩ (.slice (some ⟨g,0,none⟩) (j+1) cap))=cp at*;have YP:Hid (dK w2 p (.slice gX E.length cA) tv (.slice (some ⟨g,0,none⟩) (j+1) cap) cp (.slice none 0 0) (ud E.length (j+1)) none):=A (by
     have h:=FO.o.1;rw[show({ud E.length j with eJ:=ef j (-1)++[-1]}:b5)=ud E.length (j+1) from by unfold ud;rw[List.replicate_succ']] at h;exact h)
    go_wp2
    clear cK cY kg ta
    go_roundg (E.length-(j+1))
    case rel=>exact⟨j+1,_,by omega,by go_num,YP⟩
    case measure=>omega
   ·obtain rfl:j=E.length:=by omega
    have kN:Hid (ud E.length E.length=Ck.start L):=A (by unfold ud Ck.start;rw[th]);rw[kN.o] at eU;obtain⟨ar,bZ⟩: ∃ar,E.length=ar+1:=⟨E.length- 1,by omega⟩;obtain⟨ch,_,x,bb,aQ,hG,cg⟩:=I8.o.gQ eU.o.av (k:=ar) (by omega)
    cases hG
    have br:=A cg;have c4:=(cg.cells bH eU.o.av).2.2.2.2;have Ls:Hid (x.j'=15):=A (by rw[←cg.Z,show ar=L.length- 1 by omega];exact z.o.last);have GV:=cg.fA.2;have hK:IntKind.i64.wrap ((E.length:Int)- 1)=(ar:Int):=by rw[dI _ (by omega)];omega
    have ais:(0:Int)<=(ar:Int):=by omega
    have ait:(ar:Int)<(E.length:Int):=by omega
    have anb: ¬((E.length:Int)<(E.length:Int)):=by omega
    have Tw:Hid (Ds L (L.length+1) x.I 0 (Ck.start L) none):=A ⟨λ_=>by
     show decls L (bE L (L.length+1)) [] (Z L (L.length- 1)).I (Ck.start L)=_
     rw[show L.length- 1=ar by omega,cg.Z,List.take_zero,List.drop_zero],λx h=>(nomatch h),⟨rfl,rfl,rfl,rfl,rfl,id,λk U=>U⟩⟩
    have am_:ar<L.length:=by omega
    have ak_:=A bZ;have wZ:=A th;clear cg bZ th;go_wp2_with fail
    clear c4
    go_loopg[9] x.I.length (λr CS wr=> ∃(i:Nat) (aq:b5) (iW:Option (Int×Int)) (pS:af),i+r=x.I.length/\CS= .int .i64 (i:Int)/\Hid (dK w2 p (.slice (some ⟨ch,0,none⟩) E.length cA) tv uv wr pS aq iW)/\Hid (Ds L (L.length+1) x.I i aq iW))
    case atStart=>exact⟨0,_,_,_,by omega,rfl,eU,Tw⟩
    case round=>
     obtain⟨i,aq,iW,pS,ay,rfl,bK,vx⟩:=hrel;clear eU Tw;generalize wr=ra at*;have fg:=az bK.o.blk 6;have na:=az bK.o.blk 7;have xY:=az bK.o.blk 8;have b9:=bd bK.o.blk;have fj:=A (ds en.o (bK.o.av) (by have:=bd en.o;exact this));have fu:=A (cN.o.trans (bK.o.av.mono (by have:=cN.o.size;exact this)))
     cases iW with
     |some bp=>
      obtain⟨c,pp⟩:=bp;replace fg:ra.cell? ⟨p,6,none⟩=some (.bool true):=fg;replace na:ra.cell? ⟨p,7,none⟩=some (.int .i64 c):=na;replace xY:ra.cell? ⟨p,8,none⟩=some (.int .i64 pp):=xY;have cP:Hid (lZ S= .error (c,pp)):=A (by
       obtain⟨cK,k2,R,T⟩:=vx.o.bL _ rfl
       cases T
       unfold lZ;rw[ic.o];dsimp only;rw[R])
      have H3:(i:Int)<(x.I.length:Int)\/ ¬(i:Int)<(x.I.length:Int):=Decidable.em _;rcases H3 with h0|h0<;>(
       go_wp2_with fail
       go_still_tail 5,(by kernel_rfl)
       change fo _ _ _ _ _ ra.drew
       clear fg na xY b9;have fG:Hid (ra.drew.heap[w.heap.size]?=some (.cells #[.int .i64 0,.int .i64 0] 25 (0,0))):=fj;have iO:=A fu.o.drew;generalize ra.drew=a6 at*;have oY:=cX fG.o 0;have oZ:=cX fG.o 1;have f0:=az fG.o 0;have f1:=az fG.o 1;have jQ:=bd fG.o;simp only[cO,cQ,c8] at f0 f1;have gA:=A (sO fG.o (.int .i64 c) (.int .i64 pp));have cu:=az gA.o.1 0;have k2:=az gA.o.1 1;have pe:=bd gA.o.1;simp only[cO,cQ,c8] at cu k2;have dn:=A (iO.o.trans (gA.o.2.1 w.heap.size (bD _)));go_wp2_with fail
       generalize((a6.setCell ⟨w.heap.size,0,none⟩ (.int .i64 c)).setCell ⟨w.heap.size,1,none⟩ (.int .i64 pp))=cp at*;refine oK (v:= .tuple #[.pointer none,.agg #[.int .i64 c,.int .i64 pp]]) (by simp[iX,results6,go_sem,cu,k2]) rfl ?_;exact Pt cP.o dn.o)
     |none=>
      replace fg:ra.cell? ⟨p,6,none⟩=some (.bool false):=fg;clear na xY
      by_cases h0:i<x.I.length
      ·have H3:(i:Int)<(x.I.length:Int):=by omega
       have ti:IntKind.i64.wrap ((i:Int)+1)=(i:Int)+1:=dI _ (by omega);have mE:=br.o.at h0;rw[Ls.o] at mE;have G6:ct 24 (Z L (x.I.getD i 0)).j'=true:=by
        have T:=mE.2;rw[show B.pat 15 x.aX x.I.length=ef x.I.length 24 from rfl,cd (l:=ef _ _),ku,aS h0] at T;exact T
       obtain⟨ga,rfl,_⟩:=br.o.bM ra i bK.o.av h0;have UE:=mE.1;have vB:aq.cx=0:=vx.o.gx.cx;have Uo:r6 L aq (x.I.getD i 0):=⟨vx.o.gx.ty.trans (by simp[Ck.start]),vx.o.gx.us.trans (by simp[Ck.start]),vx.o.gx.inv ⟨λt bI=>by rw[(List.mem_replicate.1 bI).2];decide,λm hm=>(by cases hm),λd bB=>by rw[(List.mem_replicate.1 bB).2];omega⟩,by rw[vB];omega,by rw[vx.o.gx.sc];show 0+_<=_;omega⟩;have cV:=A (ZQ I8 (A z.o.jn) (all:=x.I) (ga:=ga) (ca:=aQ) (i:=i) (A λw' j G bg=>by obtain⟨g3,e,ah⟩:=br.o.bM w' j G bg;cases e;exact ah) (A λj bg=>by have:=(br.o.at bg).1;omega) h0 GV rfl (by omega) G6 (f:=L.length+1) (by omega) (A λj bg=>ac2 I8 j (L.length+1) (by omega) (by omega)) bK.o Uo);clear Uo vB mE UE G6;go_wp2_with fail
       refine cV.o.mono ?_;rintro e b3 ⟨rfl,bA,jy,uF,bJ,Iq,HF,yW⟩;have YM:=A bJ;have MR:=A (vx.o.step h0 HF yW);clear bJ Iq HF yW cV fg b9 fj fu;go_wp2_with fail
       go_roundg (x.I.length-(i+1))
       case rel=>exact⟨i+1,bA,jy,uF,by omega,by go_num,YM,MR⟩
       case measure=>omega
      ·obtain rfl:i=x.I.length:=by omega
       have cP:Hid (lZ S=if c7 L 13 zl<0 then .error (10,0) else .ok (aq.types,aq.eJ)):=A (by
        have j1:=vx.o.ok rfl;rw[rW] at j1;unfold lZ;rw[ic.o];dsimp only;rw[j1]
        rfl)
       have qT:=A (eL.decl I8 bK.o.av 13 zl);have BD:p≠w.heap.size:=λe=>by have R:=bK.o.blk;rw[e,fj.o] at R;cases R
       generalize c7 L 13 zl=gz at*;go_wp2_with fail
       refine qT.o.mono ?_;rintro e b3 ⟨rfl,rfl⟩;clear fg b9 qT
       by_cases bB:gz<0
       ·have D9:decide (gz<0)=true:=by simpa using bB
        have oY:=cX fj.o 0;have oZ:=cX fj.o 1;have f0:=az fj.o 0;have f1:=az fj.o 1;have jQ:=bd fj.o;simp only[cO,cQ,c8] at f0 f1;have gA:=A (sO fj.o (.int .i64 10) (.int .i64 0));have cu:=az gA.o.1 0;have k2:=az gA.o.1 1;have pe:=bd gA.o.1;simp only[cO,cQ,c8] at cu k2;have dn:=A (fu.o.trans (gA.o.2.1 w.heap.size (bD _)));go_wp2_with fail
        generalize((b3.setCell ⟨w.heap.size,0,none⟩ (.int .i64 10)).setCell ⟨w.heap.size,1,none⟩ (.int .i64 0))=cp at*;refine oK (v:= .tuple #[.pointer none,.agg #[.int .i64 10,.int .i64 0]]) (by simp[iX,results6,go_sem,cu,k2]) rfl ?_;exact Pt (by rw[cP.o,aS bB]) dn.o
       ·have D9:decide (gz<0)=false:=by simpa using bB
        have oY:=cX fj.o 0;have oZ:=cX fj.o 1;have f0:=az fj.o 0;have f1:=az fj.o 1;have jQ:=bd fj.o;simp only[cO,cQ,c8] at f0 f1;have gA:=A (sO fj.o (.int .i64 0) (.int .i64 0));have cu:=az gA.o.1 0;have k2:=az gA.o.1 1;have pe:=bd gA.o.1;simp only[cO,cQ,c8] at cu k2;have dn:=A (fu.o.trans (gA.o.2.1 w.heap.size (bD _)));have Ml:=A (fK (fK bK.o.blk BD 0 (.int .i64 0)) BD 1 (.int .i64 0));have mc:=A (qE (gA.o.2.2 _ _ _ _ _ _ (by decide) bK.o.ty) cN.o.size);have D':=A (qE (gA.o.2.2 _ _ _ _ _ _ (by decide) bK.o.us) cN.o.size);go_wp2_with fail
        generalize((b3.setCell ⟨w.heap.size,0,none⟩ (.int .i64 0)).setCell ⟨w.heap.size,1,none⟩ (.int .i64 0))=cp at*;refine oK (v:= .tuple #[.pointer (some ⟨p,0,none⟩),.agg #[.int .i64 0,.int .i64 0]]) (by simp[iX,results6,go_sem,cu,k2]) rfl ?_;refine⟨dn.o,?_⟩;rw[cP.o,ao (by omega)];exact⟨p,_,tv,_,pS,aq,none,rfl,Ml.o,mc.o,D'.o⟩
end Rk
end Go.Proofs.YtjfkhpkicioakaaGreatDoor
