/- PROVED HERE: the checker of the program, walked. No condition. -/
import Derived.Test.YtjfkhpkicioakaaGreatDoorZLx1
import Derived.Test.YtjfkhpkicioakaaGreatDoorZTy1
import Derived.Test.YtjfkhpkicioakaaGreatDoorZP2
import Derived.Test.YtjfkhpkicioakaaGreatDoorZCkR1
import Derived.Test.YtjfkhpkicioakaaGreatDoorZTy2
import Derived.Test.YtjfkhpkicioakaaGreatDoorZCkR2
import Derived.ArgAppend
import Derived.Test.YtjfkhpkicioakaaGreatDoorShelf3
import Derived.Test.YtjfkhpkicioakaaGreatDoorZP3
import Derived.Lib.OthersKept
set_option maxRecDepth 100000
set_option maxHeartbeats 60000000
set_option linter.all false
open Array renaming replicate->vy
open Go renaming Ending->e7,Value->af,World->ai,maxLen->dc,undef->eb,wpList->fo
open Go.Proofs.Tryz renaming underlying44->rO,zeroValue3->rP
open Go.Region renaming ready->nE,wanted->nF
open Go.RowKit renaming Below->aL
open Go.Value renaming string->mm
open Go.World renaming alloc->aA,cell?->aG,setCell->a7
open List renaming drop_drop->zK,getD->Y,length->D,length_set->Bp,replicate->ef
open Nat renaming add_comm->yf
open Go.Proofs.YtjfkhpkicioakaaGreatDoor.B hiding f' fail i' i_ name one typed
open Go.Proofs.Tryz
namespace Go.Proofs.YtjfkhpkicioakaaGreatDoor
open Go.RowKit
section
variable{P:Program}{ops:Array Oper}{Q:Exit->Act->ai->Prop}{md:Region.Mode}{S:ai->Prop}{bp:Nat}
def wpAnyS_first{i fa v}(ay:ops[i]?=some fa)(Bl: ∀(j:Nat) (o:Oper) cs b,ops[j]?=some o->o.op≠ .select cs b)
 (hQ: ∀c a w,Q (.panic c) (a.put fa.dst v) w->Q (.panic c) a w)(hz:ops.size<=bp):
  ∀(fuel:Nat) (dB:Array Bool) (a:Act) (w:ai),
   (∀j oq,ops[j]?=some oq->j≠i->dB.getD j true=false->(∀e∈oq.after,Region.binds md e=true->e.on≠i)->fa.apart ops oq=true)->
   i∈nE md ops dB->YieldsIf P ops S fa v a->S w->
   kz P md ops Q S bp fuel (dB.setIfInBounds i true) (a.put fa.dst v) w->kz P md ops Q S bp (fuel+1) dB a w:=by
 intro fuel
 induction fuel with
 |zero=>
  intro dB a w _ au bx aD H;refine⟨λh=>(by rw[h] at au;cases au),λj bg=>?_⟩;by_cases kM:j=i
  .subst kM;exact bx.wpOp ay aD ⟨λ_=>aD,H⟩
  .have:=ready_mono bg kM;rw[H.1] at this;cases this
 |succ fuel cB=>
  intro dB a w GD au bx aD H;refine⟨λh=>(by rw[h] at au;cases au),λj bg=>?_⟩;by_cases kM:j=i
  .subst kM;exact bx.wpOp ay aD ⟨λ_=>aD,H⟩
  .have R:=H.2 j (ready_mono bg kM);obtain⟨Dz,oq,vV,Dx⟩:=mem_ready.1 bg;have G8: ∀e∈oq.after,Region.binds md e=true->e.on≠i:=λe he G heq=>by
    have R:=Dx e he G;have aH:=(mem_ready.1 au).1;rw[heq] at R;obtain vd|vd:=Nat.lt_or_ge i dB.size
    .simp[vd] at aH R;rw[aH] at R;cases R
    .simp[Array.getElem?_eq_none vd] at R
   have BU:j≠bp:=λe=>by
    have:=(Array.getElem?_eq_some_iff.1 vV).1;omega
   have T:=wpOp_putIf vV (GD j oq vV kM Dz G8) (λcs b=>Bl i fa cs b ay) (λcs b=>Bl j oq cs b vV) hQ bx R;have KW: ∀k ok,ops[k]?=some ok->k≠i->(dB.setIfInBounds j true).getD k true=false->
     (∀e∈ok.after,Region.binds md e=true->e.on≠i)->fa.apart ops ok=true:=λk ok U hv D_ k7=>by
    refine GD k ok U hv ?_ k7;by_cases vW:j=k
    .subst vW;exact Dz
    .rw[getD_set_ne true vW] at D_;exact D_
   refine wpOp_mono (λni w' ah=>⟨λ_=>ah.2.1 BU,cB (dB.setIfInBounds j true) ni w' KW (ready_mono au (Ne.symm kM)) ah.1 (ah.2.1 BU) ?_⟩) T;rw[Array.setIfInBounds_comm _ _ kM];exact ah.2.2
def ae(i:Nat){fa v fuel dB l2 a a2 w}
 (h:kz P md ops Q S bp fuel l2 a2 w)
 (ay:ops[i]?=some fa:=by rfl)(hs:Region.noSelect ops=true:=by kernel_rfl)(aI:Region.free md ops dB i=true:=by kernel_rfl)(au:(nE md ops dB).contains i=true:=by kernel_rfl)(hz:ops.size<=bp:=by decide)
 (hQ: ∀c a w,Q (.panic c) (a.put fa.dst v) w->Q (.panic c) a w:=by exact λ_ _ _ h=>h)
 (hw:nF fa (yielded ops a.tmps)=true:=by rfl)
 (bx: ∀w,S w->(execOp a.eval fa).run P w= .ok (.value v) w:=by intro w vT;(try dsimp only at vT);(try simp only[and_imp] at vT);(first|(go_simp;done)|(go_simp;with_reducible rfl)))
 (aD:S w:=by assumption)
 (aR:a.put fa.dst v=a2:=by simp only[Act.put,List.getElem_toArray,List.getElem_cons_succ,List.getElem_cons_zero,ld,lf,lg];rfl)
 (hl:dB.setIfInBounds i true=l2:=by first|(simp only[ld,lf,lg];rfl)|rfl):kz P md ops Q S bp (fuel+1) dB a w:=by subst aR hl;exact wpAnyS_first ay (Region.noSelect_spec hs) hQ hz fuel dB a w (Region.free_spec ay aI) (by simpa using au) (Or.inl ⟨hw,bx⟩) aD h
end
section
variable{P:Program}{ops:Array Oper}{Q:Exit->Act->ai->Prop}{md:Region.Mode}{S:ai->Prop}{bp:Nat}
def bt(i:Nat){fa fuel dB l2 a a2 w}
 (h:kz P md ops Q S bp fuel l2 a2 w)
 (ay:ops[i]?=some fa:=by rfl)(hs:Region.noSelect ops=true:=by kernel_rfl)(aI:Region.free md ops dB i=true:=by kernel_rfl)(au:(nE md ops dB).contains i=true:=by kernel_rfl)(hz:ops.size<=bp:=by decide)
 (hQ: ∀c a w,Q (.panic c) (a.put fa.dst eb) w->Q (.panic c) a w:=by exact λ_ _ _ h=>h)
 (hw:nF fa (yielded ops a.tmps)=false:=by rfl)
 (aD:S w:=by assumption)
 (aR:a.put fa.dst eb=a2:=by simp only[Act.put,List.getElem_toArray,List.getElem_cons_succ,List.getElem_cons_zero,ld,lf,lg];rfl)
 (hl:dB.setIfInBounds i true=l2:=by first|(simp only[ld,lf,lg];rfl)|rfl):kz P md ops Q S bp (fuel+1) dB a w:=by subst aR hl;exact wpAnyS_first ay (Region.noSelect_spec hs) hQ hz fuel dB a w (Region.free_spec ay aI) (by simpa using au) (Or.inr ⟨hw,rfl⟩) aD h
end
def jz{P ops}{Q:Exit->Act->ai->Prop}{id a w}(bp:Nat){S F c2:ai->Prop}(aD:RowKit.Hid (∀w',F w'->c2 w'->S w'))(aI:F w.drew)(aB:c2 w.drew)(h:S w.drew->kz P .any ops Q S bp ops.size (vy ops.size false) a w.drew)(hm:P.follows .mixedOrders=true:=by kernel_rfl):(Code.region id ops true).wp P Q a w:=jT bp S (aD.o _ aI aB) h hm
def Vn{P ops}{Q:Exit->Act->ai->Prop}{md}{S:ai->Prop}{bp}(i j:Nat){fa oq fuel dB a w}
 (h: ∀gI:Act->ai->Prop,RowKit.Hid (∀a w,(i≠bp->S w)->kz P md ops Q S bp fuel (dB.setIfInBounds i true) a w->gI a w)->if nF fa (yielded ops a.tmps)=true then Oper.wp P fa a w gI Q else gI (a.put fa.dst eb) w)
 (T: ∀gI:Act->ai->Prop,RowKit.Hid (∀a w,(j≠bp->S w)->kz P md ops Q S bp fuel (dB.setIfInBounds j true) a w->gI a w)->if nF oq (yielded ops a.tmps)=true then Oper.wp P oq a w gI Q else gI (a.put oq.dst eb) w)
 (ay:ops[i]?=some fa:=by rfl)(bg:ops[j]?=some oq:=by rfl)(au:nE md ops dB=[i,j]:=by kernel_rfl):kz P md ops Q S bp (fuel+1) dB a w:=by
 refine⟨λaH=>absurd (au.symm.trans aH) bT,λn ax=>?_⟩;rw[au] at ax;obtain rfl|ax:=List.mem_cons.1 ax
 .have R:=h (λni w'=>(n≠bp->S w')/\kz P md ops Q S bp fuel (dB.setIfInBounds n true) ni w') (A λa w T ah=>⟨T,ah⟩);unfold wpOp;simp only[ay];split at R
  .rename_i hw;simp only[hw,if_true];exact .inl R
  .rename_i hw;simp only[hw];exact R
 .rw[sE] at ax;subst ax;have R:=T (λni w'=>(n≠bp->S w')/\kz P md ops Q S bp fuel (dB.setIfInBounds n true) ni w') (A λa w T ah=>⟨T,ah⟩);unfold wpOp;simp only[bg];split at R
  .rename_i hw;simp only[hw,if_true];exact .inl R
  .rename_i hw;simp only[hw];exact R
theorem ald {c2 mL:Prop} (g:mL) (h:RowKit.Hid mL->c2:=by intro bF;try first|refine ae 0 ?_|refine bt 0 ?_;try first|refine ae 1 ?_|refine bt 1 ?_;try first|refine ae 2 ?_|refine bt 2 ?_;try first|refine ae 3 ?_|refine bt 3 ?_;try first|refine ae 4 ?_|refine bt 4 ?_;try first|refine ae 5 ?_|refine bt 5 ?_;try first|refine ae 6 ?_|refine bt 6 ?_;try first|refine ae 7 ?_|refine bt 7 ?_;try first|refine ae 8 ?_|refine bt 8 ?_;try first|refine ae 9 ?_|refine bt 9 ?_;try first|refine ae 10 ?_|refine bt 10 ?_;try first|refine ae 11 ?_|refine bt 11 ?_;try first|refine ae 12 ?_|refine bt 12 ?_;try first|refine ae 13 ?_|refine bt 13 ?_;try first|refine ae 14 ?_|refine bt 14 ?_;try first|refine ae 15 ?_|refine bt 15 ?_;try first|refine ae 16 ?_|refine bt 16 ?_;try first|refine ae 17 ?_|refine bt 17 ?_;try first|refine ae 18 ?_|refine bt 18 ?_;try first|refine ae 19 ?_|refine bt 19 ?_;try first|refine ae 20 ?_|refine bt 20 ?_;try first|refine ae 21 ?_|refine bt 21 ?_;try first|refine ae 22 ?_|refine bt 22 ?_;try first|refine ae 23 ?_|refine bt 23 ?_;try first|refine ae 24 ?_|refine bt 24 ?_;try first|refine ae 25 ?_|refine bt 25 ?_;try first|refine ae 26 ?_|refine bt 26 ?_;try first|refine ae 27 ?_|refine bt 27 ?_;try first|refine ae 28 ?_|refine bt 28 ?_;try first|refine ae 29 ?_|refine bt 29 ?_;try first|refine ae 30 ?_|refine bt 30 ?_;try first|refine ae 31 ?_|refine bt 31 ?_;try first|refine ae 32 ?_|refine bt 32 ?_;try first|refine ae 33 ?_|refine bt 33 ?_;try first|refine ae 34 ?_|refine bt 34 ?_;try first|refine ae 35 ?_|refine bt 35 ?_;try first|refine ae 36 ?_|refine bt 36 ?_;try first|refine ae 37 ?_|refine bt 37 ?_;try first|refine ae 38 ?_|refine bt 38 ?_;try first|refine ae 39 ?_|refine bt 39 ?_;try first|refine ae 40 ?_|refine bt 40 ?_;try first|refine ae 41 ?_|refine bt 41 ?_;try first|refine ae 42 ?_|refine bt 42 ?_;try first|refine ae 43 ?_|refine bt 43 ?_;try first|refine ae 44 ?_|refine bt 44 ?_;try first|refine ae 45 ?_|refine bt 45 ?_;exact bF.o):c2:=h (A g)
namespace Pk
open Ck
open Rk (hD)
def ph (m:List (bz×Nat))(x:bz):Option af:=(m.find? λe=>e.1==x).map λe=>Value.int .i64 (e.2:Int)
def gS (c j:Int):e7:= .panicked [{v:= .iface 57 (.agg #[c,j]),recovered:=false}]
def sQ (tp:Nat)(tv uv fv su:af)(s:b5):Array af:= #[(tp,0),tv,uv,fv,su,s.res,s.cx]
def lF (sb:List Nat):List af:=sb.map λb=>Value.map (some b)
structure jf where
 w:ai
 fr:Nat->Prop
@[reducible] def jf.heap (b:jf):Array Obj:=b.w.heap
structure eO (w0:jf)(w:ai):Prop where
 os:w.os=w0.w.os
 tape:w.tape=w0.w.tape
 output:w.output=w0.w.output
 size:w0.heap.size<=w.heap.size
 block: ∀b,b<w0.heap.size-> ¬w0.fr b->w.heap[b]?=w0.heap[b]?
def Hq (w0:jf)(b:Nat):Prop:=w0.fr b\/w0.heap.size<=b
def eO.trans{w0 w w'}(h:eO w0 w)(k:aL w0.heap.size w w'):eO w0 w':=
 ⟨k.os.trans h.os,k.tape.trans h.tape,k.output.trans h.output,hg h.size k.size,λb G aI=>(k.block b G).trans (h.block b G aI)⟩
def eO.drew{w0 w}(h:eO w0 w):eO w0 w.drew:=h.trans (aT _ _).drew
def eO.setCell{w0 w}(h:eO w0 w){p}(aJ:Hq w0 p.block)(u):eO w0 (a7 w p u):=by
 have e:=λk U=>Below.heap_setCell w p u k U;refine⟨h.os,h.tape,h.output,by simp[World.setCell];exact h.size,λb G aI=>(Below.heap_setCell _ _ _ _ λe=>?_).trans (h.block b G aI)⟩;obtain aJ|aJ:=aJ
 .exact aI (e▸aJ)
 .omega
def eO.grown{w0 w w' row}(h:eO w0 w)(aB:w.grownBy w' row)(bY:w0.heap.size<=w.heap.size)(au: ∀k,row=some k->w0.heap.size<=k):eO w0 w':=
 h.trans ((aT _ _).grown aB bY au)
def eO.of{w0 w}(h:aL w0.heap.size w0.w w):eO w0 w:=⟨h.os,h.tape,h.output,h.size,λb G _=>h.block b G⟩
structure lq (L:List aP)(N:Nat)(w:ai)(sb:List Nat)(sc:List (List (bz×Nat))):Prop where
 mW:D sb=D sc
 Z:sb.Nodup
 mp: ∀(i b:Nat) (m:List (bz×Nat)),sb[i]?=some b->sc[i]?=some m->N<=b/\gb w b (D m) (ph m)
 lS: ∀m∈sc,(∀e∈m,e.1=(Ck.Z L e.2).O/\e.2<D L/\((Ck.Z L e.2).j'=7\/(Ck.Z L e.2).j'=17\/(Ck.Z L e.2).j'=27))/\(m.map (·.1)).Nodup
structure adL (L:List aP)(s:b5):Prop where
 ty:D s.types=D L
 us:D s.eJ=D L
 gG: ∀t∈s.types,eB t
 gM: ∀d∈s.eJ,d<(D L:Int)
structure dz (L:List aP)(w0:jf)(p tp:Nat)(tv uv fv:af)(w:ai)(su:af)(sb:List Nat)(s:b5):Prop where
 av:eO w0 w
 blk:w.heap[p]?=some (.cells (sQ tp tv uv fv su s) 49 (0,0))
 ty:db 0 w tv s.types
 us:hD 0 w uv s.eJ
 sc:w.ownsRow w0.heap.size 125 1 su (D sb) (lF sb)
 mp:lq L w0.heap.size w sb s.sc
 rw:adL L s
 aJ:Hq w0 p
 o2: ∀b,tv.ownBlock=some b->Hq w0 b
 xX: ∀b,uv.ownBlock=some b->Hq w0 b
structure dS (p:Nat)(tv uv su:af)(sb:List Nat)(w w':ai):Prop where
 size:w.heap.size<=w'.heap.size
 gP: ∀b,b<w.heap.size->b≠p->tv.ownBlock≠some b->uv.ownBlock≠some b->su.ownBlock≠some b->sb.getLast?≠some b->w'.heap[b]?=w.heap[b]?
def At (su jl:af)(w:ai):Prop:=jl.ownBlock=su.ownBlock\/ ∀b,jl.ownBlock=some b->w.heap.size<=b
structure rT (s s':b5):Prop where
 us: ∀k,0<=Y s.eJ k (-1)->0<=Y s'.eJ k (-1)
 lp:s'.cx=s.cx
 rs:s'.res=s.res
def jr (L:List aP)(w0:jf)(p tp:Nat)(tv uv fv:af)(val:bz->af)(P:bz->b5->Prop)(r:df)(s:b5)(su:af)(sb:List Nat)(w:ai)(e:e7)(w':ai):Prop:=match r with
 | .bL c k=>e=gS c ((Z L k).an:Int)/\eO w0 w'
 | .ok t s'=>e= .returned (val t)/\P t s'/\rT s s'/\ ∃jl,dz L w0 p tp tv uv fv w' jl sb s'/\dS p tv uv su sb w w'/\At su jl w
def Pn{m x}:(ph m x).isSome=m.any λe=>e.1==x:=by
 unfold ph;rw[Option.isSome_map]
 induction m with
 |nil=>rfl
 |cons a m cB=>
  rw[List.find?_cons,List.any_cons];cases a.1==x with
  |true=>rfl
  |false=>exact cB
def adw{m:List (bz×Nat)}{x:bz}{k:Nat}(h:(m.any λe=>e.1==x)=false):pD (ph m) x k=ph (m++[(x,k)]):=by
 funext y
 unfold pD ph;rw[xI];by_cases e:y=x
 .subst e;have:m.find? (λe=>e.1==y)=none:=List.find?_eq_none.2 λa aR G=>by
   have:=List.any_eq_false.1 h a aR;exact this G
  rw[this,aS rfl];simp
 .rw[ao e];have:(x==y)=false:=by simpa using λh=>e h.symm
  simp[this]
def Po: ∀(n:Nat) (l:List Nat),l.Nodup->(∀a∈l,a<n)->D l<=n
 |0,[],_,_=>bD _
 |0,a::l,_,h=>absurd (h a (hY ..)) J
 |n+1,l,bB,h=>by
  by_cases ax:n∈l
  .have R:=Po n (l.erase n) (bB.erase n) λa aR=>by
    have T:=h a (List.mem_of_mem_erase aR);have ah:a≠n:=λe=>by rw[e] at aR;exact(List.Nodup.not_mem_erase bB) aR
    omega
   rw[List.length_erase_of_mem ax] at R;omega
  .exact Nat.le_succ_of_le (Po n l bB λa aR=>by
    have T:=h a aR;have ah:a≠n:=λe=>by rw[e] at aR;exact ax aR
    omega)
section
variable{L:List aP}{w0:jf}{p tp:Nat}{tv uv fv su jl:af}{sb:List Nat}{w w' w2:ai}{s s' s2:b5}
def lq.fA{N sc}(h:lq L N w sb sc){m}(hm:m∈sc):D m<=D L:=by
 obtain⟨R,T⟩:=h.lS m hm;have ah:(m.map (·.2)).Nodup:=by
  have e:m.map (·.1)=(m.map (·.2)).map λk=>(Ck.Z L k).O:=by
   rw[List.map_map];exact List.map_congr_left λe he=>(R e he).1
  rw[e] at T;exact List.Pairwise.imp (λaZ e=>aZ (by rw[e])) (List.pairwise_map.1 T)
 have:=Po (D L) _ ah λa aR=>by
  obtain⟨e,he,rfl⟩:=List.mem_map.1 aR;exact(R e he).2.1
 rwa[h2] at this
def lq.move{N sc}(h:lq L N w sb sc)(G: ∀b∈sb,w'.heap[b]?=w.heap[b]?):lq L N w' sb sc:=
 ⟨h.mW,h.Z,λi b m R T=>⟨(h.mp i b m R T).1,(h.mp i b m R T).2.move (G b (hX R))⟩,h.lS⟩
def lq.obj{N sc}(h:lq L N w sb sc){b}(G:b∈sb): ∃es c,w.heap[b]?=some (.map es c):=by obtain⟨i,ay⟩:=List.getElem?_of_mem G;have hl:=(List.getElem?_eq_some_iff.1 ay).1;exact(h.mp i b _ ay (cE (by rw[<-h.mW];exact hl))).2.obj
def lq.ne{N sc}(h:lq L N w sb sc){b q}(G:b∈sb){c t fr}(a_:w.heap[q]?=some (.cells c t fr)):b≠q:=λe=>by
 obtain⟨es,k,R⟩:=h.obj G;rw[e,a_] at R;cases R
def lq.lt{N sc}(h:lq L N w sb sc){b}(G:b∈sb):b<w.heap.size:=by obtain⟨es,k,R⟩:=h.obj G;exact(Array.getElem?_eq_some_iff.1 R).1
def dz.below(h:dz L w0 p tp tv uv fv w su sb s)(G:aL w w w'):dz L w0 p tp tv uv fv w' su sb s:=
 ⟨h.av.trans (G.mono h.av.size),ds h.blk G (bd h.blk),fZ h.ty G λk U=>(eI h.ty k U).2,fZ h.us G λk U=>(eI h.us k U).2,fZ h.sc G λk U=>(eI h.sc k U).2,h.mp.move λb b8=>G.block b (h.mp.lt b8),h.rw,h.aJ,h.o2,h.xX⟩
def dz.alloc(h:dz L w0 p tp tv uv fv w su sb s)(o:Obj):dz L w0 p tp tv uv fv (aA w o) su sb s:=h.below ((aT _ _).alloc (bD _) o)
def dz.drew(h:dz L w0 p tp tv uv fv w su sb s):dz L w0 p tp tv uv fv w.drew su sb s:=h.below (aT _ _).drew
def dz.at(h:dz L w0 p tp tv uv fv w su sb s):aG w p=some (tp,0)/\aG w (p,1)=some tv/\aG w (p,2)=some uv/\aG w (p,3)=some fv/\aG w (p,4)=some su/\aG w (p,5)=some [s.res]/\aG w (p,6)=some [s.cx]/\p<w.heap.size/\ ∀i,w.frozen? ⟨p,i,none⟩=false:=
 ⟨az h.blk 0,az h.blk 1,az h.blk 2,az h.blk 3,az h.blk 4,az h.blk 5,az h.blk 6,bd h.blk,cX h.blk⟩
def dz.od(h:dz L w0 p tp tv uv fv w su sb s)(i:Nat)(u){s' jl xa}(hs:s'.types=s.types/\s'.eJ=s.eJ)(hc:(sQ tp tv uv fv su s).setIfInBounds i u=sQ tp tv uv fv jl s')(gU:w.ownsRow w0.heap.size 125 1 jl (D xa) (lF xa))(ug:lq L w0.heap.size w xa s'.sc):dz L w0 p tp tv uv fv (a7 w (p,i) u) jl xa s':=by
 obtain⟨R,T⟩:=hs;refine⟨h.av.setCell (p:=⟨p,i,none⟩) h.aJ _,by rw[<-hc];exact et h.blk i u,?_,?_,eZ gU h.blk aN,ug.move λb G=>?_,?_,h.aJ,h.o2,h.xX⟩
 .rw[R];exact eZ h.ty h.blk aN
 .rw[T];exact eZ h.us h.blk aN
 .obtain⟨es,c,ah⟩:=ug.obj G;rw[ah];exact fK ah (ug.ne G h.blk) i u
 .exact⟨by rw[R];exact h.rw.ty,by rw[T];exact h.rw.us,by rw[R];exact h.rw.gG,by rw[T];exact h.rw.gM⟩
def dS.refl:dS p tv uv su sb w w:=⟨bD _,λ_ _ _ _ _ _ _=>rfl⟩
def dS.below(h:aL w w w'):dS p tv uv su sb w w':=⟨h.size,λb G _ _ _ _ _=>h.block b G⟩
def At.refl:At su su w:= .inl rfl
def dS.trans(h:dS p tv uv su sb w w')(aR:At su jl w)(k:dS p tv uv jl sb w' w2):dS p tv uv su sb w w2:=⟨hg h.size k.size,λb G R T ah bJ dH=>(k.gP b (kv G h.size) R T ah (λe=>by
 obtain aR|aR:=aR
 .exact bJ (aR▸e)
 .exact absurd (aR b e) J) dH).trans (h.gP b G R T ah bJ dH)⟩
def At.trans{sq}(h:At su jl w)(hs:w.heap.size<=w'.heap.size)(k:At jl sq w'):At su sq w:=by
 obtain k|k:=k
 .obtain h|h:=h
  .exact .inl (k.trans h)
  .exact .inr λb G=>h b (k▸G)
 .exact .inr λb G=>hg hs (k b G)
def dS.set(i u):dS p tv uv su sb w (a7 w ⟨p,i,none⟩ u):=⟨by simp,λb G R _ _ _ _=>by
 obtain⟨o,bX⟩: ∃o,w.heap[b]?=some o:=⟨_,u3 G⟩;rw[bX];exact fK bX R i u⟩
def rT.refl:rT s s:=⟨λ_ h=>h,rfl,rfl⟩
def rT.trans(h:rT s s')(k:rT s' s2):rT s s2:=⟨λi ay=>k.us i (h.us i ay),k.lp.trans h.lp,k.rs.trans h.rs⟩
def dz.own(h:dz L w0 p tp tv uv fv w su sb s)(aI:dS p tv uv su sb w w'){b:Nat}{c:Array af}{t:TypeId}{fr:Nat×Nat}(G:w.heap[b]?=some (.cells c t fr))(bI:(t==49||t==9||t==3||t==125)=false:=by rfl):w'.heap[b]?=some (.cells c t fr):=by
 simp only[xE,u9] at bI;obtain⟨⟨⟨t1,t2⟩,t3⟩,t4⟩:=bI;have key: ∀{N e n:Nat} {v:af} {xs:List af},w.ownsRow N e 1 v n xs->t≠e->v.ownBlock≠some b:=λ{N e n v xs} bX aZ ag=>by
  obtain⟨hu,_⟩|⟨g,cap,cur,hu,_,aB,_⟩:=bX.2
  .rw[hu] at ag;cases ag
  .rw[hu] at ag;rw[show g=b from gZ ag,G] at aB;cases aB;exact aZ rfl
 exact(aI.gP b (bd G) (λe=>by have:=h.blk;rw[<-e,G] at this;cases this;exact t1 rfl) (key h.ty t2) (key h.us t3) (key h.sc t4) λe=>h.mp.ne (List.mem_of_getLast? e) G rfl).trans G
end
end Pk
namespace Pk
def Dj (w:ai)(a:Option Addr)(l:List Nat):Prop:= ∀j,j<l.length-> ∃g,a=some ⟨g,0,none⟩/\ ∀w',aL w w w'->w'.cell? (g,j)=some [(l.getD j 0:Int)]
def Sw (w:ai)(i:FuncId)(cs:Array af)(p:Nat->Bool)(l:List Nat):Prop:=
 (∀args w,(callFunc i args).run prog w= .ok (.enter i args) w)/\ ∀x∈l,∀y:ai,aL w w y->aY i (#[.int .i64 (x:Int)]++cs) y λe w'=>e= .returned (.bool (p x))/\aL y y w'
section
variable{w:ai}{a:Option Addr}{cap:Nat}{l:List Nat}
def aax(i:FuncId)(cs:Array af)(p:Nat->Bool)(hm:D l<=1000000)(hl:Dj w a l)(aI:Sw w i cs p l):aY 70 #[(a,D l,cap),.func (.func i) #[] cs] w (Ku (l.any p) w):=by
 have cZ:=A hl;have ae2:=aI.1;have dj:=A aI.2;clear hl aI;go_in;go_wp2;go_loopw[8] (λi wr=>Hid (aL w w wr)/\ ∃k:Nat,k<=D l/\i= k/\Hid ((l.take k).any p=false)) (λi _=>D l-(intOf i).toNat)
 case atStart=>exact⟨A (aT _ _),0,by omega,rfl,A bT⟩
 case round=>
  obtain⟨bh,k,U,rfl,yQ⟩:=hrel;by_cases l8:k<D l
  .obtain⟨g,aB,hc⟩:=cZ.o k l8;cases aB;have bE:=hc wr bh.o;have aF:l[k]?=some (Y l k 0):=(by rw[cd,cE l8];rfl);have D5:=hX aF;have hit:=A (λh:p (Y l k 0)=true=>(List.any_eq_true.2 ⟨_,D5,h⟩:l.any p=true));have DG:=A (λh:p (Y l k 0)=false=>(by rw[p3,List.any_append,yQ.o,aF];simpa using h:(l.take (k+1)).any p=false));have vM:=A (dj.o _ D5 wr bh.o);generalize Y l k 0=x at*;have⟨b1,b2⟩:(0:Int)<=k/\(k:Int)<D l:=J;cases aJ:p x with
   |true=>
    rw[aJ] at vM;have hJ:=A (hit.o aJ);go_wp2_with(refine vM.o.mono ?_;rintro e bm ⟨rfl,dh⟩;have dn:=A dh;clear dh)
    go_returns;exact⟨⟨k,rfl,by rw[hJ.o];simp⟩,bh.o.trans (dn.o.mono bh.o.size)⟩
   |false=>
    rw[aJ] at vM;have hJ:=A (DG.o aJ);go_wp2_with(refine vM.o.mono ?_;rintro e bm ⟨rfl,dh⟩;have dn:=A dh;clear dh)
    go_roundw
    case rel=>exact⟨A (bh.o.trans (dn.o.mono bh.o.size)),k+1,by omega,by go_num,hJ⟩
    case measure=>simp[intOf];omega
  .obtain rfl:k=D l:=J;have hJ:Hid (l.any p=false):=A (by have:=yQ.o;rwa[mM] at this);go_wp2;go_returns;exact⟨⟨-1,rfl,by rw[hJ.o];rfl⟩,bh.o⟩
def Vx(i:FuncId)(cs:Array af)(p:Nat->Bool)(hm:D l<=1000000)(hl:Dj w a l)(aI:Sw w i cs p l):aY 35 #[(a,D l,cap),.func (.func i) #[] cs] w λe w'=>e= .returned (.bool (l.any p))/\aL w w w':=by
 have dA:=A (aax (cap:=cap) i cs p hm hl aI);go_in;go_wp2_with(go_at_call 70;refine dA.o.mono ?_;rintro e bm ⟨⟨n,rfl,ax⟩,dh⟩;have dn:=A dh;have DP:=A ax;clear dh ax)
 go_returns;rw[<-DP.o];exact⟨by simp,dn.o⟩
end
end Pk
namespace Pk
open Ck
open Rk (hD)
structure gY (L:List aP)(E:List (aP×af))(cG:Nat)(w0:jf)(tp:Nat)(fv nv:af):Prop where
 jn:rR L
 eq:L=E.map (·.1)
 fA: ∀n∈L,D n.O<=100000000000/\D n.I<=1000000
 le:D E<=1200
 aj: ∀w',eO w0 w'->iJ cG w' nv E
 gB: ∃lT b1 b2 bC dq cR n3 m3,∀w',eO w0 w'->fO lT nv b1 b2 bC tp dq cR n3 (fk L 10 (D L)) (fk L 12 (D L)) m3 (λt=>fw (gv L t)) w'
 fns: ∃b n,fv= .map (some b)/\ ∀w',eO w0 w'->gb w' b n (fk L 13 (D L))
section
variable{L:List aP}{E:List (aP×af)}{cG:Nat}{w0:jf}{p tp g n cap:Nat}{tv uv fv nv su:af}{sb:List Nat}{w w' w1 wk w2:ai}{s s0:b5}{k a:Nat}
def dz.x7(h:dz L w0 p tp (g,n,cap) uv fv w su sb s)(U:k<D L):aG w (g,k)=some [Y s.types k []]/\w.frozen? ⟨g,k,none⟩=false/\g<w.heap.size:=by
 have ei:k<D s.types:=by rw[h.rw.ty];exact U
 have T:w.ownsRow 0 9 1 (g,n,cap) (D s.types) (s.types.map λx=>mm (str x)):=h.ty;have ax:n=D s.types:=by
  obtain⟨aH,_⟩|⟨h5,ka,cur,hu,hN,G,_⟩:=T.2
  .cases aH
  .cases hu;rfl
 subst ax;have c:=tH T k J;obtain⟨aH,_⟩|⟨h5,ka,cur,hu,hN,G,_⟩:=T.2
 .cases aH
 .cases hu;refine⟨?_,cX G k,bd G⟩;rw[c,lW,cd,cE ei];rfl
def dz.x0(h:dz L w0 p tp (g,n,cap) uv fv w su sb s)(k:Nat){t}(bI:eB t):dz L w0 p tp (g,n,cap) uv fv (a7 w (g,k) t) su sb (Ck.iA k t s)/\dS p (g,n,cap) uv su sb w (a7 w (g,k) t):=by
 have T:w.ownsRow 0 9 1 (g,n,cap) (D s.types) (s.types.map λx=>mm (str x)):=h.ty;obtain⟨aH,_⟩|⟨h5,ka,cur,hu,hN,G,_⟩:=T.2
 .cases aH
 .cases hu;refine⟨⟨h.av.setCell (p:=⟨g,k,none⟩) (h.o2 g rfl) _,?_,?_,eZ h.us G aN,eZ h.sc G aN,h.mp.move λb qQ=>?_,⟨(Bp ..).trans h.rw.ty,h.rw.us,λx aF=>(List.mem_or_eq_of_mem_set aF).elim (h.rw.gG x) λe=>e▸bI,h.rw.gM⟩,h.aJ,h.o2,h.xX⟩,by simp,λb b8 R ah bJ dH fE=>?_⟩
  .exact fK h.blk (λe=>by rw[<-e,h.blk] at G;cases G) k _
  .have:=T.stored k t;unfold db Ck.iA;simp only[Bp,List.map_set];exact this.1
  .obtain⟨es,c,ah⟩:=h.mp.obj qQ;rw[ah];exact fK ah (h.mp.ne qQ G) k _
  .obtain⟨o,bX⟩: ∃o,w.heap[b]?=some o:=⟨_,u3 b8⟩;rw[bX];exact fK bX (λe=>ah (by rw[e];rfl)) k _
def dz.x8(h:dz L w0 p tp tv (g,n,cap) fv w su sb s)(U:k<D L):aG w (g,k)=some [(s.eJ.getD k (-1):Int)]/\w.frozen? ⟨g,k,none⟩=false/\g<w.heap.size:=by
 have ei:k<D s.eJ:=by rw[h.rw.us];exact U
 have T:w.ownsRow 0 3 1 (g,n,cap) (D s.eJ) (s.eJ.map (Value.int .i64)):=h.us;have ax:n=D s.eJ:=by
  obtain⟨aH,_⟩|⟨h5,ka,cur,hu,hN,G,_⟩:=T.2
  .cases aH
  .cases hu;rfl
 subst ax;have c:=tH T k J;obtain⟨aH,_⟩|⟨h5,ka,cur,hu,hN,G,_⟩:=T.2
 .cases aH
 .cases hu;refine⟨?_,cX G k,bd G⟩;rw[c,lW,cd,cE ei];rfl
def dz.Dh(h:dz L w0 p tp tv (g,n,cap) fv w su sb s)(k:Nat){d}(bB:d<(D L:Int)):dz L w0 p tp tv (g,n,cap) fv (a7 w (g,k) d) su sb (Ck.oe k d s)/\dS p tv (g,n,cap) su sb w (a7 w (g,k) d):=by
 have T:w.ownsRow 0 3 1 (g,n,cap) (D s.eJ) (s.eJ.map (Value.int .i64)):=h.us;obtain⟨aH,_⟩|⟨h5,ka,cur,hu,hN,G,_⟩:=T.2
 .cases aH
 .cases hu;refine⟨⟨h.av.setCell (p:=⟨g,k,none⟩) (h.xX g rfl) _,?_,eZ h.ty G aN,?_,eZ h.sc G aN,h.mp.move λb qQ=>?_,⟨h.rw.ty,(Bp ..).trans h.rw.us,h.rw.gG,λx aF=>(List.mem_or_eq_of_mem_set aF).elim (h.rw.gM x) λe=>e▸bB⟩,h.aJ,h.o2,h.xX⟩,by simp,λb b8 R ah bJ dH fE=>?_⟩
  .exact fK h.blk (λe=>by rw[<-e,h.blk] at G;cases G) k _
  .have:=T.stored k d;unfold hD Ck.oe;simp only[Bp,List.map_set];exact this.1
  .obtain⟨es,c,ah⟩:=h.mp.obj qQ;rw[ah];exact fK ah (h.mp.ne qQ G) k _
  .obtain⟨o,bX⟩: ∃o,w.heap[b]?=some o:=⟨_,u3 b8⟩;rw[bX];exact fK bX (λe=>bJ (by rw[e];rfl)) k _
end
end Pk
namespace Pk
open Ck
def G0 (sb:List Nat)(w1:ai)(bf:List Nat):Prop:= ∃l,bf=sb++l/\ ∀b∈l,w1.heap.size<=b
structure du (L:List aP)(w0:jf)(p tp:Nat)(tv uv fv su0:af)(sb:List Nat)(w1:ai)(s0:b5)(pl:df)(bf:List Nat)(wk:ai)(s:b5)(r:df):Prop where
 st: ∃su,dz L w0 p tp tv uv fv wk su bf s/\dS p tv uv su0 sb w1 wk/\At su0 su w1
 ex:G0 sb w1 bf
 gn:rT s0 s
 eq:pl=r
def rv (_:bz):af:= .tuple #[]
def kI (t:bz):af:= t
def uY (_:bz)(_:b5):Prop:=True
section
variable{L:List aP}{E:List (aP×af)}{cG:Nat}{w0:jf}{p tp:Nat}{tv uv fv nv su su0:af}{sb bf:List Nat}{w1 wk w2:ai}{s0 s:b5}{pl r r2 rc:df}{Q:e7->ai->Prop}{K:bz->b5->df}{val:bz->af}{P:bz->b5->Prop}{t:bz}{b:Bool}{c:Int}{a:Nat}{hx:FuncId}{args:Array af}
def dS.step(h:dS p tv uv su0 sb w1 wk)(aR:At su0 su w1)(aF:G0 sb w1 bf)(k:dS p tv uv su bf wk w2):dS p tv uv su0 sb w1 w2:=⟨hg h.size k.size,λb G R T ah bJ dH=>(k.gP b (kv G h.size) R T ah (λe=>by
 obtain aR|aR:=aR
 .exact bJ (aR▸e)
 .exact absurd (aR b e) J) λe=>by
  obtain⟨l,rfl,hl⟩:=aF;obtain rfl|⟨l,c,rfl⟩:=List.eq_nil_or_concat l
  .rw[lU] at e;exact dH e
  .rw[List.getLast?_append] at e;simp at e;have:=hl c bT;omega).trans (h.gP b G R T ah bJ dH)⟩
def bO(h:dz L w0 p tp tv uv fv wk su sb s)(e:pl=r):Hid (du L w0 p tp tv uv fv su sb wk s pl sb wk s r):=A ⟨⟨su,h,dS.refl,At.refl⟩,⟨[],(lU _).symm,λ_ h=>nomatch h⟩,rT.refl,e⟩
def fs(ho:P t s)(h:Hid (du L w0 p tp tv uv fv su0 sb w1 s0 pl sb wk s (.ok t s))):jr L w0 p tp tv uv fv val P pl s0 su0 sb w1 (.returned (val t)) wk:=by obtain⟨su,R,T,ah⟩:=h.o.st;rw[h.o.eq];exact⟨rfl,ho,h.o.gn,su,R,T,ah⟩
def eP(e:r=r2)(h:Hid (du L w0 p tp tv uv fv su0 sb w1 s0 pl bf wk s r)):Hid (du L w0 p tp tv uv fv su0 sb w1 s0 pl bf wk s r2):=e▸h
def dE(h:Hid (du L w0 p tp tv uv fv su0 sb w1 s0 pl bf wk s r))(G:aL wk wk w2):Hid (du L w0 p tp tv uv fv su0 sb w1 s0 pl bf w2 s r):=by obtain⟨su,R,T,ah⟩:=h.o.st;exact A ⟨⟨su,R.below G,T.trans ah (dS.below G),ah⟩,h.o.ex,h.o.gn,h.o.eq⟩
def du.av(h:du L w0 p tp tv uv fv su0 sb w1 s0 pl bf wk s r):eO w0 wk:=by obtain⟨su,R,_⟩:=h.st;exact R.av
def dL(H:Hid (du L w0 p tp tv uv fv su0 sb w1 s0 pl bf wk s r)):aG wk p=some (tp,0)/\aG wk (p,1)=some tv/\aG wk (p,2)=some uv/\aG wk (p,3)=some fv/\aG wk (p,5)=some [s.res]/\aG wk (p,6)=some [s.cx]/\p<wk.heap.size/\ ∀i,wk.frozen? ⟨p,i,none⟩=false:=by obtain⟨su,R,_⟩:=H.o.st;obtain⟨b',c9,cw,da,_,ij,fg,na,xY⟩:=R.at;exact⟨b',c9,cw,da,ij,fg,na,xY⟩
def pH{v}(hc:aY hx args wk λe w'=>e= .returned v/\aL wk wk w')(h: ∀w2,Hid (du L w0 p tp tv uv fv su0 sb w1 s0 pl bf w2 s r)->Q (.returned v) w2)(H:Hid (du L w0 p tp tv uv fv su0 sb w1 s0 pl bf wk s r)):aY hx args wk Q:=by refine hc.mono ?_;rintro e w2 ⟨rfl,G⟩;exact h w2 (dE H G)
def oT(hc: ∀su,dz L w0 p tp tv uv fv wk su bf s->aY hx args wk (jr L w0 p tp tv uv fv val P rc s su bf wk))(ok: ∀t w2 s2,P t s2->rT s s2->Hid (du L w0 p tp tv uv fv su0 sb w1 s0 pl bf w2 s2 (K t s2))->Q (.returned (val t)) w2)
 (bL: ∀c j w2,pl= .bL c j->eO w0 w2->Q (gS c ((Z L j).an:Int)) w2)(H:Hid (du L w0 p tp tv uv fv su0 sb w1 s0 pl bf wk s (rc.M K))):aY hx args wk Q:=by
 obtain⟨su,R,T,ah⟩:=H.o.st;refine(hc su R).mono ?_;intro e w2 he;cases au:rc with
 |bL c j=>
  rw[au] at he;obtain⟨rfl,G⟩:=he;exact bL c j w2 (by rw[H.o.eq,au];rfl) G
 |ok t s2=>
  rw[au] at he;obtain⟨rfl,ho,qH,sq,g1,g2,g3⟩:=he;exact ok t w2 s2 ho qH (A ⟨⟨sq,g1,T.step ah H.o.ex g2,ah.trans T.size g3⟩,H.o.ex,H.o.gn.trans qH,by rw[H.o.eq,au];rfl⟩)
def kZ{k}(e:pl= .bL c k)(G:eO w0 wk):jr L w0 p tp tv uv fv val P pl s0 su0 sb w1 (gS c ((Z L k).an:Int)) wk:=by rw[e];exact⟨rfl,G⟩
def Da(hc: ∀su,dz L w0 p tp tv uv fv wk su bf s->aY hx args wk (jr L w0 p tp tv uv fv val P rc s su bf wk))(ok: ∀t w2 s2,P t s2->rT s s2->Hid (du L w0 p tp tv uv fv su0 sb w1 s0 pl bf w2 s2 (.ok t s2))->Q (.returned (val t)) w2)
 (bL: ∀c j w2,pl= .bL c j->eO w0 w2->Q (gS c ((Z L j).an:Int)) w2)(H:Hid (du L w0 p tp tv uv fv su0 sb w1 s0 pl bf wk s rc)):aY hx args wk Q:=
 oT (K:= .ok) hc ok bL (eP (by cases rc<;>rfl) H)
end
end Pk
namespace Pk
open Ck
open Rk (hD)
section
variable{L:List aP}{E:List (aP×af)}{cG:Nat}{w0:jf}{p tp:Nat}{tv uv fv nv su su0:af}{sb:List Nat}{w w1 wk w2:ai}{s s0:b5}{pl r r2 rc:df}{Q:e7->ai->Prop}{K:bz->b5->df}{b:Bool}{c:Int}{t:bz}{k:Nat}
structure eL (L:List aP)(E:List (aP×af))(cG:Nat)(w0:jf)(nv:af):Prop where
 wf:B.h1 L
 ws:xD L
 short: ∀k,D (B.O L k)<=100000000000
 eq:L=E.map (·.1)
 fA: ∀n∈L,D n.O<=100000000000/\D n.I<=1000000
 le:D E<=10000
 aj: ∀w',eO w0 w'->iJ cG w' nv E
def eL.Vl(V:eL L E cG w0 nv):Rk.eL L E cG w0.w nv:=⟨V.wf,V.ws,V.short,V.eq,V.fA,V.le,λw' G=>V.aj w' (eO.of G)⟩
def eL.at(V:eL L E cG w0 nv){k}(U:k<D E): ∃x u,E[k]?=some (x,u)/\Z L k=x/\L[k]?=some x/\x∈L:=V.Vl.at U
structure uX (L:List aP)(w0:jf)(k g:Nat)(x:aP)(bb:Option Addr)(aQ:Nat):Prop where
 Z:Z L k=x
 wf:oh L k x
 ly:gO L x.I (B.pat x.j' x.aX x.I.length)
 fA:x.O.length<=100000000000/\x.I.length<=1000000
 cells: ∀w',eO w0 w'->w'.cell? (g,k*5)=some [x.j']/\w'.cell? (g,k*5+1)=some [x.an]/\w'.cell? (g,k*5+2)=some [x.aX]/\w'.cell? (g,k*5+3)=some [x.O]/\w'.cell? (g,k*5+4)=some (bb,x.I.length,aQ)
 bM: ∀w' i,eO w0 w'->i<x.I.length-> ∃g2,bb=some ⟨g2,0,none⟩/\w'.cell? (g2,i)=some [(x.I.getD i 0:Int)]
def eL.gQ(V:eL L E cG w0 nv)(G:eO w0 w){k}(U:k<D E): ∃g cA x bb aQ,nv= .slice (some ⟨g,0,none⟩) (D E) cA/\uX L w0 k g x bb aQ:=by obtain⟨x,u,aF,ax,gj,hm⟩:=V.at U;obtain⟨gX,cA,rfl⟩:=eR (V.aj w G).row rfl;obtain⟨g,cap,aB⟩:=dR (V.aj w G).row J;cases aB;have je:(x,u)∈E:=hX aF;have l':jC cG w u x.I:=(V.aj w G).I _ je;obtain⟨bb,aQ,rfl⟩:=eR l' rfl;refine⟨g,_,x,bb,aQ,rfl,ax,V.wf k x gj,(V.ws x hm).1,V.fA x hm,λw' pQ=>n_ (V.aj w' pQ) rfl aF,λw' i pQ ay=>?_⟩;obtain⟨g2,qW,hF⟩:=dR ((V.aj w' pQ).I _ je) (show 0<D x.I by omega);cases hF;exact⟨g2,rfl,nj ((V.aj w' pQ).I _ je) rfl ay⟩
def uX.at{k g x bb aQ}(h:uX L w0 k g x bb aQ){i}(ay:i<D x.I):Y x.I i 0<k/\ct (Y (B.pat x.j' x.aX (D x.I)) i 0) (Ck.Z L (Y x.I i 0)).j'=true:=
 ⟨h.wf.lt _ (by rw[cd,cE ay];exact im ay),(h.ly.at i ay).2⟩
def gY.fe(V:gY L E cG w0 tp fv nv):eL L E cG w0 nv:=⟨V.jn.wf,V.jn.ws,V.jn.gx,V.eq,V.fA,by have:=V.le;omega,V.aj⟩
def gY.eo(V:gY L E cG w0 tp fv nv)(G:eO w0 w): ∃v1 v2,aG w tp=some nv/\aG w (tp,1)=some (.map (some v1))/\aG w (tp,2)=some (.map (some v2))/\tp<w.heap.size/\(∃n,gb w v1 n (fk L 10 (D L)))/\ ∃n,gb w v2 n (fk L 12 (D L)):=by obtain⟨lT,b1,b2,bC,dq,cR,n3,m3,h⟩:=V.gB;have R:=h w G;have bI:w.heap[tp]?=some (.cells #[nv,.map (some b1),.map (some b2),.map (some bC)] 81 (0,0)):=R.gB;exact⟨b1,b2,az bI 0,az bI 1,az bI 2,bd bI,⟨dq,R.s1⟩,cR,R.s2⟩
def aba(V:Hid (gY L E cG w0 tp fv nv))(h:dz L w0 p tp tv uv fv w su sb s)(c:Int)(U:k<D E):aY 73 #[(p,0),c,k] w λe w'=>e=gS c ((Z L k).an:Int)/\w'=w:=by obtain⟨g,cA,x,bb,aQ,rfl,cg⟩:=V.o.fe.gQ h.av U;obtain⟨_,bq,_,_,_⟩:=cg.cells w h.av;obtain⟨_,_,z0,_,_,eK,_,_⟩:=V.o.eo h.av;obtain⟨b',_,_,_,_,_,_,b9,_⟩:=h.at;have⟨hv,hi⟩:(k:Int)<D E/\(0:Int)<=k:=J;rw[cg.Z];go_in;go_wp2;exact⟨rfl,rfl,rfl⟩
def Gi(V:Hid (gY L E cG w0 tp fv nv))(U:k<D E)(b:Bool)(c:Int)(h:dz L w0 p tp tv uv fv w su sb s):aY 38 #[(p,0),.bool b,c,k] w λe w'=>e=(if b=true then .returned (.tuple #[]) else gS c ((Z L k).an:Int))/\w'=w:=by
 have dj:=A (aba V h c U);cases b with
 |true=>
  go_in;go_wp2;go_returns;exact⟨rfl,rfl⟩
 |false=>
  go_in;go_wp2_with fail;refine dj.o.mono ?_;rintro e w1 ⟨rfl,rfl⟩;unfold gS;go_wp2;exact⟨rfl,rfl,rfl⟩
def aa_(V:Hid (gY L E cG w0 tp fv nv))(U:k<D E)(b:Bool)(c:Int)(t:bz)(h:dz L w0 p tp tv uv fv w su sb s):aY 38 #[(p,0),.bool b,c,k] w (jr L w0 p tp tv uv fv rv (λhL s'=>hL=t/\s'=s) (bl b c k t s) s su sb w):=by
 refine b7 (Gi V U b c h) ?_;rintro w' rfl;cases b with
 |true=>exact⟨rfl,⟨rfl,rfl⟩,rT.refl,su,h,dS.refl,At.refl⟩
 |false=>exact⟨rfl,h.av⟩
def Wh:(prog.info? 125).map (λi=>(i.zero,i.size,i.bytes))=some (some (.map none),1,8):=cS
def Jt(sb:List Nat)(b):lF (sb++[b])=lF sb++[.map (some b)]:=by simp[lF]
def ahn{ops rest o cF fx}{er:Exit->Act->ai->Prop}{a N H u}(b){cs}(hl:D sb<=1000000)(hH:w.heap.size=H)(hN:N<=w.heap.size)(bQ:w.ownsRow N 125 1 u (D sb) (lF sb))
 (h: ∀g cap a6,a6.ownsRow N 125 1 (.slice (some ⟨g,0,none⟩) (D sb+1) cap) (D sb+1) (lF (sb++[b]))->(aA w (.cells cs 125)).grownBy a6 u.ownBlock->(u.ownBlock=some g\/g=w.heap.size+1)->fo prog ops er rest (a.put o.dst (.slice (some ⟨g,0,none⟩) (D sb+1) cap)) a6)
 (ma:cs= #[.map (some b)]:=by rfl)(jO:o.guard=none:=by rfl)(bX:o.op= .call {callee:= .builtin .append,args:= #[cF,fx],argTypes:= #[45,45]}:=by rfl)(hs:a.eval cF=u:=by rfl)(aF:a.eval fx= .slice (some ⟨H,0,none⟩) 1 1:=by rfl):
  fo prog ops er (o::rest) a (aA w (.cells cs 125)):=by obtain⟨i0,fM,e',e_,ff⟩:=kT Wh;subst ma hH;have pL:(aA w (aw #[.map (some b)] 125)).ownsRow N 125 1 u (D sb) (lF sb):=fZ bQ ((aT w w).alloc (bD _) _) λk U=>(eI bQ k U).2;refine tI _ jO cF fx 45 bX N 125 i0 _ 1 8 underlying45 fM e' e_ ff rfl J u (D sb) (lF sb) hs pL ⟨w.heap.size,0,none⟩ 1 1 [.map (some b)] aF rfl (j7 (cs:= #[.map (some b)]) (t:=125) (fr:=(0,0)) (hf _ _)) (by intro y bx;simp at bx;subst bx;rfl) J (by unfold dc;omega) J (by simp;omega) (w.heap.size+1) bT ?_;intro g cap a6 fF dv e1 _;exact h g cap a6 (by rw[Jt];exact fF) dv e1
def lq.snoc{N sc b}(h:lq L N w sb sc)(hN:N<=b)(G:b∉sb)(hm:gb w b 0 (λ_=>none)):lq L N w (sb++[b]) (sc++[[]]):=by
 refine⟨by rw[dW,dW,h.mW];rfl,?_,λi a m R T=>?_,λm o3=>?_⟩
 .rw[List.nodup_append];exact⟨h.Z,by simp,λx aF y bx e=>G (by rw[List.mem_singleton.1 bx] at e;exact e▸aF)⟩
 .by_cases ay:i<D sb
  .rw[qz ay] at R;rw[qz (by rw[<-h.mW];exact ay)] at T;exact h.mp i a m R T
  .rw[rU J] at R;rw[rU (by rw[<-h.mW];omega),<-h.mW] at T;cases bg:i-D sb with
   |zero=>
    rw[bg] at R T;obtain rfl:b=a:=(by simpa using R);obtain rfl:[]=m:=(by simpa using T);exact⟨hN,hm⟩
   |succ j=>rw[bg] at R;simp at R
 .obtain R|R:=List.mem_append.1 o3
  .exact h.lS m R
  .rw[List.mem_singleton.1 R];exact⟨λe he=>(by cases he),by simp⟩
def dz.grow(h:dz L w0 p tp tv uv fv w su sb s){w' s' jl xa}(hs:s'.types=s.types/\s'.eJ=s.eJ/\s'.res=s.res/\s'.cx=s.cx)(bQ:w'.ownsRow w0.heap.size 125 1 jl (D xa) (lF xa))(hm:lq L w0.heap.size w' xa s'.sc)(aB:w.grownBy w' su.ownBlock):
  dz L w0 p tp tv uv fv (a7 w' (p,4) jl) jl xa s'/\dS p tv uv su sb w (a7 w' (p,4) jl)/\w'.heap[p]?=some (.cells (sQ tp tv uv fv su s) 49 (0,0)):=by
 obtain⟨R,T,ah,bJ⟩:=hs;have B4: ∀{b:Nat} {c:Array af} {t:TypeId},w.heap[b]?=some (.cells c t (0,0))->t≠125->some b≠su.ownBlock:=λ{b c t} G aZ ag=>by
  obtain⟨jH,_⟩|⟨g2,fz,cur2,jH,_,b8,_⟩:=h.sc.2
  .rw[jH] at ag;cases ag
  .rw[jH] at ag;rw[show g2=b from(gZ ag).symm,G] at b8;cases b8;exact aZ rfl
 have h4: ∀{N e n:Nat} {v:af} {xs:List af},w.ownsRow N e 1 v n xs->e≠125->w'.ownsRow N e 1 v n xs:=λ{N e n v xs} bX aZ=>by
  refine⟨bX.1,?_⟩;obtain aH|⟨g,cap,cur,rfl,hN,G,au⟩:=bX.2
  .exact .inl aH
  .exact .inr ⟨g,cap,cur,rfl,hN,(aB.block g (bd G) (B4 G aZ)).trans G,au⟩
 have hblk:=(aB.block p (bd h.blk) (B4 h.blk aN)).trans h.blk;have Bt:eO w0 w':=h.av.grown aB h.av.size λk U=>(eI h.sc k U).1;refine⟨⟨Bt.setCell (p:=⟨p,4,none⟩) h.aJ _,?_,?_,?_,eZ bQ hblk aN,hm.move λb G=>?_,⟨by rw[R];exact h.rw.ty,by rw[T];exact h.rw.us,by rw[R];exact h.rw.gG,by rw[T];exact h.rw.gM⟩,h.aJ,h.o2,h.xX⟩,⟨by simp;exact aB.size,λb G c9 _ _ dQ _=>?_⟩,hblk⟩
 .have:=et hblk 4 jl;rw[this];unfold sQ;rw[ah,bJ];rfl
 .rw[R];exact eZ (h4 h.ty aN) hblk aN
 .rw[T];exact eZ (h4 h.us aN) hblk aN
 .obtain⟨es,c,dH⟩:=hm.obj G;rw[dH];exact fK dH (hm.ne G hblk) 4 _
 .have U:=aB.block b G (λe=>dQ e.symm);obtain⟨o,bX⟩: ∃o,w'.heap[b]?=some o:=⟨_,u3 (kv G aB.size)⟩;rw[<-U,bX];exact fK bX c9 4 _
def dz.grown(h:dz L w0 p tp tv uv fv w su sb s){w'}(aB:w.grownBy w' su.ownBlock):lq L w0.heap.size w' sb s.sc:=h.mp.move λb G=>aB.block b (h.mp.lt G) λag=>by
 obtain⟨jH,_⟩|⟨g2,fz,cur2,jH,_,b8,_⟩:=h.sc.2
 .rw[jH] at ag;cases ag
 .rw[jH] at ag;exact h.mp.ne G b8 (gZ ag)
def dz.fH(h:dz L w0 p tp tv uv fv w su sb s){a6 jl cs}(bQ:a6.ownsRow w0.heap.size 125 1 jl (D sb+1) (lF (sb++[w.heap.size])))(aB:(aA (aA w (.map #[] 0)) (.cells cs 125)).grownBy a6 su.ownBlock):
  dz L w0 p tp tv uv fv (a7 a6 (p,4) jl) jl (sb++[w.heap.size]) (fH s)/\dS p tv uv su sb w (a7 a6 (p,4) jl)/\a6.heap[p]?=some (.cells (sQ tp tv uv fv su s) 49 (0,0)):=by
 have ev:=(h.alloc (.map #[] 0)).alloc (.cells cs 125);have aZ:some w.heap.size≠su.ownBlock:=λe=>by have:=(eI h.sc _ e.symm).2;omega
 have hy:gb a6 w.heap.size 0 (λ_=>none):=((gb.made w).below ((aT _ _).alloc (bD _) (.cells cs 125))).grown aB aZ;have hm:=(ev.grown aB).snoc h.av.size (λG=>Nat.lt_irrefl _ (h.mp.lt G)) hy;obtain⟨a,b,c⟩:=ev.grow (s':=Ck.fH s) ⟨rfl,rfl,rfl,rfl⟩ (by rw[dW];exact bQ) hm aB;exact⟨a,(dS.below (((aT w w).alloc (bD _) _).alloc bT _)).trans At.refl b,c⟩
def WV (L:List aP)(w0:jf)(p tp:Nat)(tv uv fv su:af)(sb:List Nat)(s':b5)(w:ai)(e:e7)(w':ai):Prop:=
 e= .returned (.tuple #[])/\ ∃jl b,dz L w0 p tp tv uv fv w' jl (sb++[b]) s'/\dS p tv uv su sb w w'/\At su jl w/\w.heap.size<=b
def aa7(h:dz L w0 p tp tv uv fv w su sb s)(hl:D sb<=1000000):aY 120 #[(p,0)] w (WV L w0 p tp tv uv fv su sb (fH s) w):=by
 have bK:=A h;obtain⟨_,_,_,_,dQ,_,_,b9,mi⟩:=h.at;have f4:=mi 4;obtain⟨kR,qq,rfl⟩:=eR h.sc rfl;have n5:=A h.av.size;have BH:= @run_makeMap prog;clear h;go_in;go_wp2_with(at_builtin;refine ahn (H:=w.heap.size+1) w.heap.size hl bT (by have:=n5.o;simp;omega) (bK.o.alloc _).sc (λg cap a6 fT gl Ux=>?_);have z:=A (bK.o.fH fT gl);have Iw:=A Ux;have c4:=az z.o.2.2 4;have cY:=cX z.o.2.2 4;have kg:=bd z.o.2.2;have c4:aG a6 (p,4)=some (kR,D sb,qq):=c4;clear Ux)
 generalize ta:(a7 a6 (p,4) (g,D sb+1,cap))=cp at*;go_wp2;go_returns;refine⟨rfl,_,_,z.o.1,z.o.2.1,?_,bD _⟩;obtain e|e:=Iw.o
 .exact .inl e.symm
 .exact .inr λb G=>by cases G;rw[e];simp;omega
def adP{N e g n cap xs wS}(h:w.ownsRow N e 1 (.slice (some ⟨g,0,none⟩) n cap) n (xs++wS)):w.ownsRow N e 1 (.slice (some ⟨g,0,none⟩) (D xs) cap) (D xs) xs/\D xs<=cap/\n=D xs+D wS:=by
 have R:D (xs++wS)=n*1:=h.1;rw[dW,Nat.mul_one] at R;obtain⟨aH,_⟩|⟨h5,ka,cur,hu,hN,G,ah,bJ,dH,fE⟩:=h.2
 .cases aH
 .cases hu;refine⟨⟨by simp,.inr ⟨g,cap,cur,rfl,hN,G,by omega,bJ,dH,?_⟩⟩,by omega,R.symm⟩;rw[Nat.mul_one] at fE|-;have:(cur.toList.take n).take (D xs)=cur.toList.take (D xs):=by rw[List.take_take,Nat.min_eq_left J]
  rw[<-this,fE,List.take_left]
def lq.cut{N b sc m}(h:lq L N w (sb++[b]) (sc++[m])):lq L N w sb sc:=by
 have hl:D sb=D sc:=by have:=h.mW;simpa using this
 refine⟨hl,(List.nodup_append.1 h.Z).1,λi a wx R T=>h.mp i a wx ?_ ?_,λwx hm=>h.lS wx (List.mem_append_left _ hm)⟩
 .rw[qz (List.getElem?_eq_some_iff.1 R).1];exact R
 .rw[qz (List.getElem?_eq_some_iff.1 T).1];exact T
def lq.last{N b sc}(h:lq L N w (sb++[b]) sc): ∃r m,sc=r++[m]/\D r=D sb/\N<=b/\gb w b (D m) (ph m):=by
 have hl:=h.mW;rw[dW,y7] at hl;have aZ:sc≠[]:=λe=>by rw[e] at hl;simp at hl
 obtain⟨r,m,rfl⟩: ∃r m,sc=r++[m]:=⟨sc.dropLast,sc.getLast aZ,(u0 aZ).symm⟩;have au:D r=D sb:=by rw[dW,y7] at hl;omega
 have:=h.mp (D sb) b m bT (by rw[<-au];simp);exact⟨r,m,rfl,au,this⟩
def aa8{b}(h:dz L w0 p tp tv uv fv w su (sb++[b]) s):aY 122 #[(p,0)] w λe w'=>e= .returned (.tuple #[])/\ ∃jl,dz L w0 p tp tv uv fv w' jl sb (Ck.shut s)/\dS p tv uv su (sb++[b]) w w'/\jl.ownBlock=su.ownBlock:=by
 obtain⟨r,m,o1,au,_⟩:=h.mp.last;obtain⟨g,cap,rfl⟩:=dR h.sc bT;have gU:=h.sc;have nP:=wu gU;have hR:D (sb++[b])=D sb+1:=bT;rw[hR,Jt] at gU;obtain⟨R,T,-⟩:=adP gU;have oB:D (lF sb)=D sb:=by simp[lF]
 rw[oB] at R T;have o3:lq L w0.heap.size w sb (Ck.shut s).sc:=by
  have:=h.mp;rw[o1] at this;show lq L w0.heap.size w sb s.sc.dropLast;rw[o1,xF];exact this.cut
 have z:=A (h.drew.grow (s':=Ck.shut s) ⟨rfl,rfl,rfl,rfl⟩ (fZ R (aT w w).drew λk U=>(eI R k U).2) (o3.move λb G=>rfl) (World.grownBy.refl _ _));obtain⟨_,_,_,_,dQ,_,_,b9,mi⟩:=h.at;have f4:=mi 4;rw[hR] at dQ nP;unfold dc at nP;generalize D sb=ar at*;have fp:IntKind.i64.wrap (((ar+1:Nat):Int)- 1)=(ar:Int):=by rw[dI _ J];omega
 have gT:IntKind.i64.wrap ((ar:Int)+1- 1)=(ar:Int):=by rw[dI _ J];omega
 have uf:IntKind.i64.wrap (ar:Int)=ar:=dI _ J;have⟨bZ,aiu⟩:(0:Int)<=ar/\(ar:Int)<=cap:=J;clear h;go_in;go_wp2;go_region
 go_wp2;go_returns;exact⟨rfl,_,z.o.1,(dS.below (aT _ _).drew).trans At.refl z.o.2.1,rfl⟩
def dz.put{b r m w'}(h:dz L w0 p tp tv uv fv w su (sb++[b]) s)(o1:s.sc=r++[m])(U:k<D L/\((Z L k).j'=7\/(Z L k).j'=17\/(Z L k).j'=27))(ax:(m.any λe=>e.1==(Z L k).O)=false)
 (hm:gb w' b (D m+1) (pD (ph m) (Z L k).O k))(aB:w.grownBy w' (some b)):dz L w0 p tp tv uv fv w' su (sb++[b]) {s with sc:=r++[m++[((Z L k).O,k)]]}/\dS p tv uv su (sb++[b]) w w':=by
 rw[adw ax] at hm;have aJ:=h.mp;rw[o1] at aJ;have G:b∈sb++[b]:=bT;obtain⟨es,c,Aw⟩:=aJ.obj G;have UN:D r=D sb:=by have:=aJ.mW;simp at this;omega
 have NU:w0.heap.size<=b:=(aJ.mp (D sb) b m bT (by rw[<-UN];simp)).1;have h4: ∀{N e n:Nat} {v:af} {xs:List af},w.ownsRow N e 1 v n xs->w'.ownsRow N e 1 v n xs:=λ{N e n v xs} bX=>by
  refine⟨bX.1,?_⟩;obtain aH|⟨g,cap,cur,rfl,hN,b8,au⟩:=bX.2
  .exact .inl aH
  .exact .inr ⟨g,cap,cur,rfl,hN,(aB.block g (bd b8) (λe=>aJ.ne G b8 (gZ e).symm)).trans b8,au⟩
 refine⟨⟨h.av.grown aB h.av.size (λk U=>by cases U;exact NU),(aB.block p (bd h.blk) (λe=>aJ.ne G h.blk (gZ e).symm)).trans h.blk,h4 h.ty,h4 h.us,h4 h.sc,?_,⟨h.rw.ty,h.rw.us,h.rw.gG,h.rw.gM⟩,h.aJ,h.o2,h.xX⟩,aB.size,λa aR _ _ _ _ fE=>aB.block a aR λe=>fE (by rw[gZ e];simp)⟩;refine⟨by have:=aJ.mW;simpa using this,aJ.Z,λi a wx R T=>?_,λwx zZ=>?_⟩
 .by_cases ay:i<D sb
  .rw[qz ay] at R;rw[qz J] at T;have ah:=aJ.mp i a wx (by rw[qz ay];exact R) (by rw[qz J];exact T);have aZ:a≠b:=λe=>by
    have:=(List.nodup_append.1 aJ.Z).2.2 a (hX R) b bT;exact this e
   exact⟨ah.1,ah.2.move (aB.block a ah.2.lt λe=>aZ (gZ e))⟩
  .rw[rU J] at R;rw[rU J,UN] at T;cases bg:i-D sb with
   |zero=>
    rw[bg] at R T;obtain rfl:b=a:=(by simpa using R);obtain rfl:m++[((Z L k).O,k)]=wx:=(by simpa using T);exact⟨NU,by rw[dW];exact hm⟩
   |succ j=>rw[bg] at R;simp at R
 .obtain R|R:=List.mem_append.1 zZ
  .exact aJ.lS wx (List.mem_append_left _ R)
  .rw[List.mem_singleton.1 R];obtain⟨T,ah⟩:=aJ.lS m bT;refine⟨λe he=>(List.mem_append.1 he).elim (T e) λag=>by rw[List.mem_singleton.1 ag];exact⟨rfl,U⟩,?_⟩;rw[rX,List.nodup_append];refine⟨ah,by simp,λx aF y bx e=>?_⟩;obtain⟨bp,hz,rfl⟩:=List.mem_map.1 aF;have BF:y=(Z L k).O:=(by simpa using bx);have:=List.any_eq_false.1 ax bp hz;exact this (by simp[e,BF])
def Vy(V:Hid (gY L E cG w0 tp fv nv))(U:k<D E)(bB:(Z L k).j'=7\/(Z L k).j'=17\/(Z L k).j'=27){b}(h:dz L w0 p tp tv uv fv w su (sb++[b]) s):aY 74 #[(p,0),k] w (jr L w0 p tp tv uv fv rv (λt _=>t=[]) (declare L k s) s su (sb++[b]) w):=by
 obtain⟨r,m,o1,au,NU,hy⟩:=h.mp.last;obtain⟨g,cA,x,bb,aQ,rfl,cg⟩:=V.o.fe.gQ h.av U;obtain⟨_,_,_,c3,_⟩:=cg.cells w h.av;obtain⟨_,_,z0,_,_,eK,_,_⟩:=V.o.eo h.av;obtain⟨b',_,_,_,dQ,_,_,b9,_⟩:=h.at;have ax:=cg.Z;have⟨hv,hi⟩:(k:Int)<D E/\(0:Int)<=k:=J;have HY:=h.mp.fA (m:=m) (by rw[o1];simp);have jG:D L=D E:=by rw[V.o.eq,h2]
 have hle:=V.o.le;have ur:D x.O<=dc:=by have:=cg.fA.1;unfold dc;omega
 obtain⟨g2,cap,rfl⟩:=dR h.sc bT;have hR:D (sb++[b])=D sb+1:=bT;have gU:=h.sc;have nP:=wu gU;have s1:=tH gU (D sb) J;rw[Jt,rU (by simp[lF]),show(lF sb).length=D sb from by simp[lF],Nat.sub_self] at s1;have s1:aG w ⟨g2,D sb,none⟩=some (.map (some b)):=s1;have ft:s.sc.getLastD []=m:=by rw[o1];simp
 have pR:s.sc.dropLast=r:=by rw[o1];simp
 have ba:Hid (declare L k s=if(m.any λe=>e.1==x.O)=true then .bL 7 k else .ok [] {s with sc:=r++[m++[(x.O,k)]]}):=A (by unfold declare;rw[ft,pR,ax]);have Ae:=hy.below (aT w w).drew;have ih:=Ae.qK underlying125 (rP w.drew) ur;rw[Pn] at ih;have c0:=A Ae;have Ta:=A (λw'=>h.drew.put (w':=w') o1 ⟨by omega,bB⟩);rw[ax] at Ta;have AK:=A (Gi V U (!(m.any λe=>e.1==x.O)) 7 h.drew);rw[ax] at AK;have bK:=A h.drew;have YB:Hid (dS p tv uv (.slice (some ⟨g2,0,none⟩) (D (sb++[b])) cap) (sb++[b]) w w.drew):=A (dS.below (aT _ _).drew);rw[hR] at dQ nP;unfold dc at nP;have br:=A cg;generalize D sb=ar at*;have fp:IntKind.i64.wrap (((ar+1:Nat):Int)- 1)=(ar:Int):=by rw[dI _ J];omega
 have gT:IntKind.i64.wrap ((ar:Int)+1- 1)=(ar:Int):=by rw[dI _ J];omega
 have uf:IntKind.i64.wrap (ar:Int)=ar:=dI _ J;have⟨bZ,aiu,am'⟩:(0:Int)<=ar/\(ar:Int)<((ar+1:Nat):Int)/\(ar:Int)<ar+1:=J;have Ix:Hid (D m<dc):=A (by unfold dc;omega);have E7:=A ur;generalize(ph m x.O).getD (.int .i64 0)=ew at*;clear h cg ax gU ft pR o1 hy Ae bB HY jG hle hR au ur;cases LL:(m.any λe=>e.1==x.O) with
 |true=>
  rw[LL] at ih AK ba;go_in;go_wp2;go_region
  go_wp2_with fail;refine AK.o.mono ?_;rintro e w2 ⟨rfl,rfl⟩;rw[ao aN];unfold gS;go_wp2;refine⟨rfl,?_⟩;have:=kZ (L:=L) (w0:=w0) (p:=p) (tp:=tp) (tv:=tv) (uv:=uv) (fv:=fv) (val:=rv) (P:=λt _=>t=[]) (s0:=s) (su0:= .slice (some ⟨g2,0,none⟩) (sb++[b]).length cap) (sb:=sb++[b]) (w1:=w) (pl:=declare L k s) (k:=k) (by rw[ba.o];rfl) bK.o.av;unfold gS at this;rw[br.o.Z] at this;exact this
 |false=>
  rw[LL] at ih AK ba;go_in;go_wp2;go_region
  go_wp2_with fail;refine AK.o.mono ?_;rintro e w2 ⟨rfl,rfl⟩;rw[aS (by rfl)];go_wp2_with(at_mapUpdate;refine S1 c0.o Ix.o underlying125 E7.o (λa6 hU g8=>?_);have d_:=A (Ta.o a6 LL hU g8);clear hU g8)
  go_wp2;go_returns;rw[ba.o];have R:=d_.o;have T:=YB.o;rw[show(sb++[b]).length=D sb+1 from by simp] at R T;exact⟨rfl,rfl,⟨λ_ h=>h,rfl,rfl⟩,_,R.1,T.trans At.refl R.2,At.refl⟩
end
end Pk
namespace Pk
open Ck
open Rk (hD kq)
section
variable{L:List aP}{E:List (aP×af)}{cG:Nat}{w0:jf}{p tp:Nat}{tv uv fv nv su su0:af}{sb bf:List Nat}{w w1 wk w2:ai}{s s0:b5}{pl r r2 rc:df}{Q:e7->ai->Prop}{K:bz->b5->df}{b:Bool}{c:Int}{t:bz}{k a:Nat}{dY:e7}
def gY.O(V:gY L E cG w0 tp fv nv)(G:eO w0 w)(U:k<D E):aY 31 #[(tp,0),k] w λe w'=>e= .returned [B.O L k]/\aL w w w':=by obtain⟨lT,b1,b2,bC,dq,cR,n3,m3,h⟩:=V.gB;exact JD (A V.jn.wf) (A V.jn.gx) (A V.eq) tp _ _ _ k w nv (V.aj w G) (A (h w G).gB) U
def gY.fits(V:gY L E cG w0 tp fv nv)(G:eO w0 w){fr ty}(aI:eB fr)(bI:eB ty):aY 162 #[(tp,0),fr,ty] w λe w'=>e= .returned (.bool (fS L fr ty))/\aL w w w':=by obtain⟨lT,b1,b2,bC,dq,cR,n3,m3,h⟩:=V.gB;exact aa' rfl (h w G) (by have:=aI.1;unfold dc;omega) (by have:=bI.1;unfold dc;omega)
def gY.pF(V:gY L E cG w0 tp fv nv):D L=D E:=by rw[V.eq,h2]
def pB(V:Hid (gY L E cG w0 tp fv nv))(U:a<D E){b2}(G:b=b2)(ok: ∀w2,Hid (du L w0 p tp tv uv fv su0 sb w1 s0 pl bf w2 s (K t s))->Q (.returned (.tuple #[])) w2)
 (bL: ∀c j w2,pl= .bL c j->eO w0 w2->Q (gS c ((Z L j).an:Int)) w2:=by intro c j w2 bZ bY;replace bZ:=A bZ;unfold gS;go_wp2;exact⟨rfl,kZ bZ.o bY⟩)(H:Hid (du L w0 p tp tv uv fv su0 sb w1 s0 pl bf wk s ((bl b2 c a t s).M K))):aY 38 #[(p,0),.bool b,c,a] wk Q:=by subst G;exact oT (λsu h=>aa_ V U b c t h) (λhL w2 s2 ho _ gR=>by obtain⟨rfl,rfl⟩:=ho;exact ok w2 gR) bL H
def jU(b:Bool)(c:Int)(k:Nat)(t:bz)(s):bl b c k t s=(bl b c k t s).M .ok:=by unfold bl;split<;>rfl
def du.x0{g n cap}(H:Hid (du L w0 p tp (.slice (some ⟨g,0,none⟩) n cap) uv fv su0 sb w1 s0 pl bf wk s r))(k:Nat)(bI:eB t):Hid (du L w0 p tp (.slice (some ⟨g,0,none⟩) n cap) uv fv su0 sb w1 s0 pl bf (a7 wk ⟨g,k,none⟩ (.string (str t))) (Ck.iA k t s) r):=by obtain⟨su,R,T,ah⟩:=H.o.st;obtain⟨g1,g2⟩:=R.x0 k bI;exact A ⟨⟨su,g1,T.step ah H.o.ex g2,ah⟩,H.o.ex,H.o.gn.trans ⟨λ_ h=>h,rfl,rfl⟩,H.o.eq⟩
def CO{g n cap}(H:Hid (du L w0 p tp (.slice (some ⟨g,0,none⟩) n cap) uv fv su0 sb w1 s0 pl bf wk s r))(U:k<D L):aG wk ⟨g,k,none⟩=some (.string (str (Y s.types k [])))/\wk.frozen? ⟨g,k,none⟩=false/\g<wk.heap.size:=by obtain⟨su,R,_⟩:=H.o.st;exact R.x7 U
def i'(r:df)(f g:bz->b5->df):(r.M f).M g=r.M λt s=>(f t s).M g:=by cases r<;>rfl
def ju{val:bz->af}{P:bz->b5->Prop}(aI:dS p tv uv su sb w w1)(h:jr L w0 p tp tv uv fv val P pl s su sb w1 dY w2):jr L w0 p tp tv uv fv val P pl s su sb w dY w2:=by
 cases aJ:pl with
 |bL c k=>rw[aJ] at h;exact h
 |ok t s'=>
  rw[aJ] at h;obtain⟨R,T,ah,sq,bJ,dH,fE⟩:=h;exact⟨R,T,ah,sq,bJ,aI.trans At.refl dH,fE.imp id λG b b8=>hg aI.size (G b b8)⟩
def acm(V:Hid (gY L E cG w0 tp fv nv))(k:Nat): ∀(f:Nat) (w:ai) (su:af) (sb:List Nat) (s:b5),k<f->k<D E->kq L k->(sb=[]->(Z L k).j'<=6)->dz L w0 p tp tv uv fv w su sb s->
  aY 41 #[(p,0),k] w (jr L w0 p tp tv uv fv rv uY (bE L f .typ k s) s su sb w):=by
 induction k using Nat.strongRecOn with
 |ind k cB=>
 intro f w su sb s aI U hT NS h;obtain⟨f,rfl⟩: ∃mP,f=mP+1:=⟨f- 1,by omega⟩;obtain⟨g,cA,x,bb,aQ,rfl,cg⟩:=V.o.fe.gQ h.av U;have br:=A cg;have jG:D L=D E:=V.o.pF;obtain⟨gt,fQ,pP⟩:=dR h.ty (by rw[h.rw.ty,jG];omega);rw[show D s.types=D E from h.rw.ty.trans jG] at pP;subst pP;have Cp:Hid (eB (B.O L k)):=A (V.o.jn.gG J (by unfold kq at hT;omega));have tq:Hid (k<D L):=A J;clear jG;have ax:=cg.Z;have gj:L[k]?=some x:=by
  have T:k<D L:=by rw[V.o.pF];exact U
  have ah:L[k]?=some L[k]:=cE T;rw[ah,<-ax,show Z L k=L[k] from mO ah]
 have jZ:=A (kq.I V.o.fe.Vl gj hT);have dy:Hid (∀i,i<D x.I-> ∀w s,∀su,dz L w0 p tp (.slice (some ⟨gt,0,none⟩) (D E) fQ) uv fv w su sb s->aY 41 #[.pointer (some ⟨p,0,none⟩),.int .i64 (x.I.getD i 0:Int)] w (jr L w0 p tp (.slice (some ⟨gt,0,none⟩) (D E) fQ) uv fv rv uY (bE L f .typ (Y x.I i 0) s) s su sb w)):=A λi ay w s su T=>by
  obtain⟨cu,k2,_,fY⟩:=jZ.o i ay;exact cB _ cu f w su sb s J J k2 (λe=>fY (by rw[<-ax];exact NS e)) T
 have ba:Hid (bE L (f+1) .typ k s=(each (bE L f .typ) x.I s).M λ_ s1=>
  if x.j'=3 then bl (decide (0<=c7 L 12 x.O)) 6 k [] (iA k (B.O L k) s1)
  else if x.j'=4 then bl (decide (0<=c7 L 10 x.O)) 6 k [] (iA k (B.O L k) s1)
  else if x.j'=7 then declare L k s1
  else .ok [] (iA k (B.O L k) s1)):=A (by rw[<-ax];rfl)
 obtain⟨bO,bq,cK,c3,c4⟩:=cg.cells w h.av;obtain⟨_,_,z0,_,_,eK,_,_⟩:=V.o.eo h.av;obtain⟨b',_,_,_,_,_,_,b9,_⟩:=h.at;have⟨hv,hi⟩:(k:Int)<D E/\(0:Int)<=k:=J;have H1:=A (h.alloc (aw #[.int .i64 x.j',.int .i64 x.an,.int .i64 x.aX,.string (str x.O),(bb,D x.I,aQ)] 53));have cJ:Hid (dS p (.slice (some ⟨gt,0,none⟩) (D E) fQ) uv su sb w (aA w (aw #[.int .i64 x.j',.int .i64 x.an,.int .i64 x.aX,.string (str x.O),(bb,D x.I,aQ)] 53))):=A (dS.below ((aT w w).alloc (bD _) _));have nQ:=A (ek w (aw #[.int .i64 x.j',.int .i64 x.an,.int .i64 x.aX,.string (str x.O),(bb,x.I.length,aQ)] 53));have qk:w.heap.size<(aA w (aw #[.int .i64 x.j',.int .i64 x.an,.int .i64 x.aX,.string (str x.O),(bb,D x.I,aQ)] 53)).heap.size:=bT;have rq:=cg.fA.2;have pd:=A hT;have uN:=A NS;clear h cB ax cg gj hT NS jZ;go_in;go_wp2_with fail;clear bO bq cK c3 c4 b' b9 z0 eK;generalize fp:aA w (aw #[.int .i64 x.j',.int .i64 x.an,.int .i64 x.aX,.string (str x.O),(bb,D x.I,aQ)] 53)=w1 at*;generalize w.heap.size=q at*;have dx:Hid (∀w',dS p (.slice (some ⟨gt,0,none⟩) (D E) fQ) uv su sb w1 w'->w'.heap[q]?=some (.cells #[.int .i64 x.j',.int .i64 x.an,.int .i64 x.aX,.string (str x.O),(bb,D x.I,aQ)] 53 (0,0))):=A λw' aI=>H1.o.own aI nQ.o;clear fp;have H:=bO H1.o ba.o;go_loopg[24] (D x.I) (λr i wr=> ∃(j:Nat) (s1:b5),j+r=D x.I/\i= .int .i64 (j:Int)/\Hid (du L w0 p tp (.slice (some ⟨gt,0,none⟩) (D E) fQ) uv fv su sb w1 s (bE L (f+1) .typ k s) sb wr s1 ((each (bE L f .typ) (x.I.drop j) s1).M λ_ s1=>
  if x.j'=3 then bl (decide (0<=c7 L 12 x.O)) 6 k [] (iA k (B.O L k) s1)
  else if x.j'=4 then bl (decide (0<=c7 L 10 x.O)) 6 k [] (iA k (B.O L k) s1)
  else if x.j'=7 then declare L k s1
  else .ok [] (iA k (B.O L k) s1))))
 case atStart=>exact⟨0,s,by omega,rfl,H⟩
 case round=>
  obtain⟨j,s1,bg,rfl,eU⟩:=hrel;clear H;have H:=eU;clear eU;generalize wr=bH at*;by_cases cr:j<D x.I
  .have⟨j3,me⟩:(j:Int)<D x.I/\(0:Int)<=j:=J;have hK:IntKind.i64.wrap (j+1)=j+1:=dI _ J;obtain⟨g2,rfl,cu⟩:=br.o.bM bH j H.o.av cr;have cV:=A (λsq=>dy.o j cr bH s1 sq);replace H:=eP (show _=(bE L f .typ (Y x.I j 0) s1).M λ_ s2=>(each (bE L f .typ) (x.I.drop (j+1)) s2).M λ_ s1=>
     if x.j'=3 then bl (decide (0<=c7 L 12 x.O)) 6 k [] (iA k (B.O L k) s1)
     else if x.j'=4 then bl (decide (0<=c7 L 10 x.O)) 6 k [] (iA k (B.O L k) s1)
     else if x.j'=7 then declare L k s1
     else .ok [] (iA k (B.O L k) s1) by
    rw[kS cr,cd,cE cr];exact i' _ _ _) H
   generalize Y x.I j 0=a at*;go_wp2_with fail;refine oT cV.o (λt w2 s2 _ _ H=>?_) ?_ H
   .go_wp2;go_roundg (D x.I-(j+1))
    case rel=>exact⟨j+1,s2,by omega,by go_num,H⟩
    case measure=>omega
   .intro c j w2 bZ bY;replace bZ:=A bZ;unfold gS;go_wp2;exact⟨rfl,kZ (k:=j) bZ.o bY⟩
  .obtain rfl:j=D x.I:=J;replace H:=eP (show _=if x.j'=3 then bl (decide (0<=c7 L 12 x.O)) 6 k [] (iA k (B.O L k) s1)
     else if x.j'=4 then bl (decide (0<=c7 L 10 x.O)) 6 k [] (iA k (B.O L k) s1)
     else if x.j'=7 then declare L k s1
     else .ok [] (iA k (B.O L k) s1) by rw[rW];rfl) H
   have AJ:dS p (.slice (some ⟨gt,0,none⟩) (D E) fQ) uv su sb w1 bH:=by
    obtain⟨sq,_,T,_⟩:=H.o.st;exact T
   have a_:=dx.o bH AJ;have bO:=az a_ 0;have c3:=az a_ 3;have cW:=bd a_;obtain⟨b',c9,_,_,_,_,b9,_⟩:=dL H;obtain⟨v1,v2,z0,lB,z2,eK,⟨dq,m1⟩,cR,m2⟩:=V.o.eo H.o.av;have ur:D x.O<=dc:=(by have:=br.o.fA.1;unfold dc;omega);have ig:=(m1.below (aT bH bH).drew).qK rO (rP bH.drew) ur;have l2:=(m2.below (aT bH bH).drew).qK rO (rP bH.drew) ur;rw[wy] at ig l2;generalize(fk L 10 (D L) x.O).getD (.int .i64 0)=V1 at*;generalize(fk L 12 (D L) x.O).getD (.int .i64 0)=V2 at*;clear m1 m2 AJ a_;by_cases bU:x.j'=3
   .have bC:(x.j'==3)=true:=(by simp[bU]);replace H:=eP (show _=(bl (decide (0<=c7 L 12 x.O)) 6 k [] s1).M λ_ s=> .ok [] (iA k (B.O L k) s) by
     rw[aS bU];unfold bl;split<;>rfl) H
    replace H:=dE H (aT _ _).drew;replace bU:=A bU;generalize c7 L 12 x.O=gz at*;go_wp2_with fail;go_region
    go_wp2_with fail;generalize bH.drew=iR at*;refine pB V U rfl (λw2 H=>?_) (by intro c j w2 bZ bY;replace bZ:=A bZ;unfold gS;go_wp2;exact⟨rfl,kZ (k:=j) bZ.o bY⟩) H;clear b' c9 b9 z0 lB z2 eK ig l2 bO c3 cW;go_wp2_with fail;replace H:=dE H (aT _ _).drew;refine jT 12 (λcc=>cc.cell? ⟨p,0,none⟩=some (.pointer (some ⟨tp,0,none⟩))/\cc.cell? ⟨p,1,none⟩=some (.slice (some ⟨gt,0,none⟩) (D E) fQ)) ⟨(dL H).1,(dL H).2.1⟩ λaD=>?_;generalize w2.drew=b4 at*;refine a' 0 ?_;refine a' 1 ?_;refine a' 2 ?_;refine a' 3 ?_;refine a' 4 ?_;refine a' 5 ?_;refine a' 6 ?_;refine a' 7 ?_;refine a' 8 ?_;refine a' 9 ?_;refine cT 10 λK ab=>?_;go_simp;refine b7 (V.o.O H.o.av U) λb3 ie=>?_;replace H:=dE H ie;clear ie;go_wp2_with fail;refine ab.o _ _ (λ_=>⟨(dL H).1,(dL H).2.1⟩) ?_;clear ab K aD;have aD:aG b3 ⟨p,0,none⟩=some (.pointer (some ⟨tp,0,none⟩))/\aG b3 ⟨p,1,none⟩=some (.slice (some ⟨gt,0,none⟩) (D E) fQ):=⟨(dL H).1,(dL H).2.1⟩;refine a' 11 ?_;refine cT 12 λK ab=>?_;obtain⟨hp,kd,y3⟩:=CO H tq.o;go_simp;refine ab.o _ _ (λh=>absurd rfl h) ?_;clear ab K hp kd y3 aD;refine bV ?_;replace H:=du.x0 H k Cp.o;generalize a7 b3 ⟨gt,k,none⟩ (.string (str (B.O L k)))=a6 at*;go_wp2;go_returns;exact ju cJ.o (fs trivial H)
   .have bC:(x.j'==3)=false:=(by simp[bU]);by_cases cL:x.j'=4
    .have bG:(x.j'==4)=true:=(by simp[cL]);replace H:=eP (show _=(bl (decide (0<=c7 L 10 x.O)) 6 k [] s1).M λ_ s=> .ok [] (iA k (B.O L k) s) by
      rw[ao bU,aS cL];unfold bl;split<;>rfl) H
     replace H:=dE H (aT _ _).drew;replace cL:=A cL;generalize c7 L 10 x.O=gz at*;go_wp2_with fail;go_region
     go_wp2_with fail;generalize bH.drew=iR at*;refine pB V U rfl (λw2 H=>?_) (by intro c j w2 bZ bY;replace bZ:=A bZ;unfold gS;go_wp2;exact⟨rfl,kZ (k:=j) bZ.o bY⟩) H;clear b' c9 b9 z0 lB z2 eK ig l2 bO c3 cW;go_wp2_with fail;replace H:=dE H (aT _ _).drew;refine jT 12 (λcc=>cc.cell? ⟨p,0,none⟩=some (.pointer (some ⟨tp,0,none⟩))/\cc.cell? ⟨p,1,none⟩=some (.slice (some ⟨gt,0,none⟩) (D E) fQ)) ⟨(dL H).1,(dL H).2.1⟩ λaD=>?_;generalize w2.drew=b4 at*;refine a' 0 ?_;refine a' 1 ?_;refine a' 2 ?_;refine a' 3 ?_;refine a' 4 ?_;refine a' 5 ?_;refine a' 6 ?_;refine a' 7 ?_;refine a' 8 ?_;refine a' 9 ?_;refine cT 10 λK ab=>?_;go_simp;refine b7 (V.o.O H.o.av U) λb3 ie=>?_;replace H:=dE H ie;clear ie;go_wp2_with fail;refine ab.o _ _ (λ_=>⟨(dL H).1,(dL H).2.1⟩) ?_;clear ab K aD;have aD:aG b3 ⟨p,0,none⟩=some (.pointer (some ⟨tp,0,none⟩))/\aG b3 ⟨p,1,none⟩=some (.slice (some ⟨gt,0,none⟩) (D E) fQ):=⟨(dL H).1,(dL H).2.1⟩;refine a' 11 ?_;refine cT 12 λK ab=>?_;obtain⟨hp,kd,y3⟩:=CO H tq.o;go_simp;refine ab.o _ _ (λh=>absurd rfl h) ?_;clear ab K hp kd y3 aD;refine bV ?_;replace H:=du.x0 H k Cp.o;generalize a7 b3 ⟨gt,k,none⟩ (.string (str (B.O L k)))=a6 at*;go_wp2;go_returns;exact ju cJ.o (fs trivial H)
    .have bG:(x.j'==4)=false:=(by simp[cL]);by_cases lY:x.j'=7
     .have qC:(x.j'==7)=true:=(by simp[lY]);replace H:=eP (show _=declare L k s1 by rw[ao bU,ao cL,aS lY]) H;have eh:(Z L k).j'=7:=(by rw[br.o.Z];exact lY);have aZ:sb≠[]:=λe=>by have:=uN.o e;rw[eh] at this;exact absurd this aN
      obtain⟨Gp,b,rfl⟩: ∃r m,sb=r++[m]:=⟨sb.dropLast,sb.getLast aZ,(u0 aZ).symm⟩;obtain⟨sq,tP,_,_⟩:=H.o.st;obtain⟨ga,gc,rfl⟩:=dR tP.sc bT;have dQ:=az tP.blk 4;replace dQ:aG bH ⟨p,4,none⟩=some (.slice (some ⟨ga,0,none⟩) (D (Gp++[b])) gc):=dQ;rw[show(Gp++[b]).length=Gp.length+1 from by simp] at dQ;have⟨anx,anz⟩:(0:Int)<((Gp.length+1:Nat):Int)/\(0:Int)<Gp.length+1:=J;have afE:=A eh;clear bU cL lY aZ eh tP ig l2;go_wp2_with fail;refine Da (λNT ah=>Vy V U (.inl afE.o) ah) (λt w2 s2 ho _ H=>?_) (by intro c j w2 bZ bY;replace bZ:=A bZ;unfold gS;go_wp2;exact⟨rfl,kZ (k:=j) bZ.o bY⟩) H;go_wp2;go_returns;exact ju cJ.o (fs trivial H)
     .have qC:(x.j'==7)=false:=(by simp[lY]);replace H:=eP (by rw[ao bU,ao cL,ao lY]) H;replace bU:=A bU;clear ig l2;go_wp2_with fail;replace H:=dE H (aT _ _).drew;refine jT 12 (λcc=>cc.cell? ⟨p,0,none⟩=some (.pointer (some ⟨tp,0,none⟩))/\cc.cell? ⟨p,1,none⟩=some (.slice (some ⟨gt,0,none⟩) (D E) fQ)) ⟨(dL H).1,(dL H).2.1⟩ λaD=>?_;generalize bH.drew=b4 at*;refine a' 0 ?_;refine a' 1 ?_;refine a' 2 ?_;refine a' 3 ?_;refine a' 4 ?_;refine a' 5 ?_;refine a' 6 ?_;refine a' 7 ?_;refine a' 8 ?_;refine a' 9 ?_;refine cT 10 λK ab=>?_;go_simp;refine b7 (V.o.O H.o.av U) λb3 ie=>?_;replace H:=dE H ie;clear ie;go_wp2_with fail;refine ab.o _ _ (λ_=>⟨(dL H).1,(dL H).2.1⟩) ?_;clear ab K aD;have aD:aG b3 ⟨p,0,none⟩=some (.pointer (some ⟨tp,0,none⟩))/\aG b3 ⟨p,1,none⟩=some (.slice (some ⟨gt,0,none⟩) (D E) fQ):=⟨(dL H).1,(dL H).2.1⟩;refine a' 11 ?_;refine cT 12 λK ab=>?_;obtain⟨hp,kd,y3⟩:=CO H tq.o;go_simp;refine ab.o _ _ (λh=>absurd rfl h) ?_;clear ab K hp kd y3 aD;refine bV ?_;replace H:=du.x0 H k Cp.o;generalize a7 b3 ⟨gt,k,none⟩ (.string (str (B.O L k)))=a6 at*;go_wp2;go_returns;exact ju cJ.o (fs trivial H)
end
end Pk
namespace Pk
open Ck
open Rk (hD kq)
structure pb (sb:List Nat)(s:b5)(k:Nat):Prop where
 ne:sb≠[]
 lp:0<=s.cx/\s.cx+(k:Int)<=20000
 mW:D sb+3*(k+1)<=1000000
 rt:eB s.res
def sA (L:List aP)(k:Nat)(t:bz)(s:b5):Prop:=eB t/\((Z L k).j'=36->0<=Y s.eJ k (-1))
structure rS (L:List aP)(w0:jf)(p tp:Nat)(tv uv fv:af)(j f:Nat):Prop where
 block:(Z L j).j'=16-> ∀w su sb s,dz L w0 p tp tv uv fv w su sb s->pb sb s j->aY 72 #[(p,0),j] w (jr L w0 p tp tv uv fv rv uY (bE L f .block j s) s su sb w)
 stmt:ct 2 (Z L j).j'=true-> ∀w su sb s,dz L w0 p tp tv uv fv w su sb s->pb sb s j->aY 121 #[(p,0),j] w (jr L w0 p tp tv uv fv rv uY (bE L f .stmt j s) s su sb w)
 one:ct 3 (Z L j).j'=true-> ∀w su sb s,dz L w0 p tp tv uv fv w su sb s->pb sb s j->aY 164 #[(p,0),j] w (jr L w0 p tp tv uv fv rv uY (bE L f .one j s) s su sb w)
 b6:ct 1 (Z L j).j'=true-> ∀w su sb s,dz L w0 p tp tv uv fv w su sb s->pb sb s j->aY 158 #[(p,0),j] w (jr L w0 p tp tv uv fv kI (sA L j) (bE L f .b6 j s) s su sb w)
section
variable{L:List aP}{E:List (aP×af)}{cG:Nat}{w0:jf}{p tp:Nat}{tv uv fv nv su su0:af}{sb bf:List Nat}{w w1 wk w2:ai}{s s0:b5}{pl r r2 rc:df}{Q:e7->ai->Prop}{K:bz->b5->df}{b:Bool}{c:Int}{t:bz}{k a f:Nat}{dY:e7}
def pb.go(h:pb sb s0 k)(aR:a<k)(aF:G0 sb w1 bf)(hl:D bf<=D sb+2)(e:s.cx=s0.cx)(aE:s.res=s0.res):pb bf s a:=⟨λhe=>by
 obtain⟨l,rfl,_⟩:=aF;exact h.ne (List.append_eq_nil_iff.1 he).1,by rw[e];have:=h.lp;omega,by have:=h.mW;omega,by rw[aE];exact h.rt⟩
def du.Iv(H:du L w0 p tp tv uv fv su0 sb w1 s0 pl bf wk s r)(d_:Hid (pb sb s0 k))(aR:a<k)(hl:D bf<=D sb+2):pb bf s a:=d_.o.go aR H.ex hl H.gn.lp H.gn.rs
def SJ(hl:D bf<=1000000)(h: ∀w2 b,Hid (du L w0 p tp tv uv fv su0 sb w1 s0 pl (bf++[b]) w2 (fH s) r)->Q (.returned (.tuple #[])) w2)(H:Hid (du L w0 p tp tv uv fv su0 sb w1 s0 pl bf wk s r)):aY 120 #[(p,0)] wk Q:=by
 obtain⟨su,R,T,ah⟩:=H.o.st;refine b7 (aa7 R hl) λw2⟨jl,b,g1,g2,g3,g4⟩=>?_;obtain⟨l,gq,iL⟩:=H.o.ex;exact h w2 b (A ⟨⟨jl,g1,T.step ah H.o.ex g2,ah.trans T.size g3⟩,⟨l++[b],by rw[gq,oH],λx aF=>by
  obtain aF|aF:=List.mem_append.1 aF
  .exact iL x aF
  .rw[List.mem_singleton.1 aF];exact hg T.size g4⟩,⟨H.o.gn.us,H.o.gn.lp,H.o.gn.rs⟩,H.o.eq⟩)
def SK{b}(aF:Hid (G0 sb w1 bf))(h: ∀w2,Hid (du L w0 p tp tv uv fv su0 sb w1 s0 pl bf w2 (Ck.shut s) r)->Q (.returned (.tuple #[])) w2)(H:Hid (du L w0 p tp tv uv fv su0 sb w1 s0 pl (bf++[b]) wk s r)):aY 122 #[(p,0)] wk Q:=by obtain⟨su,R,T,ah⟩:=H.o.st;refine b7 (aa8 R) λw2⟨jl,g1,g2,g3⟩=>?_;exact h w2 (A ⟨⟨jl,g1,T.step ah H.o.ex g2,ah.trans T.size (.inl g3)⟩,aF.o,⟨H.o.gn.us,H.o.gn.lp,H.o.gn.rs⟩,H.o.eq⟩)
def SM(V:Hid (gY L E cG w0 tp fv nv))(U:a<D E)(bB:(Z L a).j'=7\/(Z L a).j'=17\/(Z L a).j'=27)(aZ:bf≠[])(ok: ∀w2 s2,Hid (du L w0 p tp tv uv fv su0 sb w1 s0 pl bf w2 s2 (K [] s2))->Q (.returned (.tuple #[])) w2)(bL: ∀c j w2,pl= .bL c j->eO w0 w2->Q (gS c ((Z L j).an:Int)) w2:=by intro c j w2 bZ bY;replace bZ:=A bZ;unfold gS;go_wp2;exact⟨rfl,kZ bZ.o bY⟩)(H:Hid (du L w0 p tp tv uv fv su0 sb w1 s0 pl bf wk s ((declare L a s).M K))):aY 74 #[(p,0),a] wk Q:=by obtain⟨r,m,rfl⟩: ∃r m,bf=r++[m]:=⟨bf.dropLast,bf.getLast aZ,(u0 aZ).symm⟩;exact oT (λsu h=>Vy V U bB h) (λt w2 s2 ho _ H=>by subst ho;exact ok w2 s2 H) bL H
def DN(dy:Hid (∀j,j<k->rS L w0 p tp tv uv fv j f))(d_:Hid (pb sb s0 k))(aR:a<k/\(Z L a).j'=16)(ok: ∀t w2 s2,Hid (du L w0 p tp tv uv fv su0 sb w1 s0 pl bf w2 s2 (K t s2))->Q (.returned (.tuple #[])) w2)(hl:D bf<=D sb+2:=by simp)(bL: ∀c j w2,pl= .bL c j->eO w0 w2->Q (gS c ((Z L j).an:Int)) w2:=by intro c j w2 bZ bY;replace bZ:=A bZ;unfold gS;go_wp2;exact⟨rfl,kZ bZ.o bY⟩)(H:Hid (du L w0 p tp tv uv fv su0 sb w1 s0 pl bf wk s ((bE L f .block a s).M K))):aY 72 #[(p,0),a] wk Q:=
 oT (λsu h=>(dy.o a aR.1).block aR.2 _ _ _ _ h (H.o.Iv d_ aR.1 hl)) (λt w2 s2 _ _ H=>ok t w2 s2 H) bL H
def SN(dy:Hid (∀j,j<k->rS L w0 p tp tv uv fv j f))(d_:Hid (pb sb s0 k))(aR:a<k/\ct 2 (Z L a).j'=true)(ok: ∀t w2 s2,Hid (du L w0 p tp tv uv fv su0 sb w1 s0 pl bf w2 s2 (K t s2))->Q (.returned (.tuple #[])) w2)(hl:D bf<=D sb+2:=by simp)(bL: ∀c j w2,pl= .bL c j->eO w0 w2->Q (gS c ((Z L j).an:Int)) w2:=by intro c j w2 bZ bY;replace bZ:=A bZ;unfold gS;go_wp2;exact⟨rfl,kZ bZ.o bY⟩)(H:Hid (du L w0 p tp tv uv fv su0 sb w1 s0 pl bf wk s ((bE L f .stmt a s).M K))):aY 121 #[(p,0),a] wk Q:=
 oT (λsu h=>(dy.o a aR.1).stmt aR.2 _ _ _ _ h (H.o.Iv d_ aR.1 hl)) (λt w2 s2 _ _ H=>ok t w2 s2 H) bL H
def afD(dy:Hid (∀j,j<k->rS L w0 p tp tv uv fv j f))(d_:Hid (pb sb s0 k))(aR:a<k/\ct 3 (Z L a).j'=true)(ok: ∀t w2 s2,Hid (du L w0 p tp tv uv fv su0 sb w1 s0 pl bf w2 s2 (K t s2))->Q (.returned (.tuple #[])) w2)(hl:D bf<=D sb+2:=by simp)(bL: ∀c j w2,pl= .bL c j->eO w0 w2->Q (gS c ((Z L j).an:Int)) w2:=by intro c j w2 bZ bY;replace bZ:=A bZ;unfold gS;go_wp2;exact⟨rfl,kZ bZ.o bY⟩)(H:Hid (du L w0 p tp tv uv fv su0 sb w1 s0 pl bf wk s ((bE L f .one a s).M K))):aY 164 #[(p,0),a] wk Q:=
 oT (λsu h=>(dy.o a aR.1).one aR.2 _ _ _ _ h (H.o.Iv d_ aR.1 hl)) (λt w2 s2 _ _ H=>ok t w2 s2 H) bL H
def DO(dy:Hid (∀j,j<k->rS L w0 p tp tv uv fv j f))(d_:Hid (pb sb s0 k))(aR:a<k/\ct 1 (Z L a).j'=true)(ok: ∀t w2 s2,sA L a t s2->rT s s2->Hid (du L w0 p tp tv uv fv su0 sb w1 s0 pl bf w2 s2 (K t s2))->Q (.returned t) w2)(hl:D bf<=D sb+2:=by simp)(bL: ∀c j w2,pl= .bL c j->eO w0 w2->Q (gS c ((Z L j).an:Int)) w2:=by intro c j w2 bZ bY;replace bZ:=A bZ;unfold gS;go_wp2;exact⟨rfl,kZ bZ.o bY⟩)(H:Hid (du L w0 p tp tv uv fv su0 sb w1 s0 pl bf wk s ((bE L f .b6 a s).M K))):aY 158 #[(p,0),a] wk Q:=
 oT (val:=kI) (λsu h=>(dy.o a aR.1).b6 aR.2 _ _ _ _ h (H.o.Iv d_ aR.1 hl)) ok bL H
def Bv(V:Hid (gY L E cG w0 tp fv nv))(aI:a<f)(aR:a<D E/\kq L a/\(bf=[]->(Z L a).j'<=6))(ok: ∀t w2 s2,Hid (du L w0 p tp tv uv fv su0 sb w1 s0 pl bf w2 s2 (K t s2))->Q (.returned (.tuple #[])) w2)(bL: ∀c j w2,pl= .bL c j->eO w0 w2->Q (gS c ((Z L j).an:Int)) w2:=by intro c j w2 bZ bY;replace bZ:=A bZ;unfold gS;go_wp2;exact⟨rfl,kZ bZ.o bY⟩)(H:Hid (du L w0 p tp tv uv fv su0 sb w1 s0 pl bf wk s ((bE L f .typ a s).M K))):aY 41 #[(p,0),a] wk Q:=
 oT (λsu h=>acm V a f _ _ _ _ aI aR.1 aR.2.1 aR.2.2 h) (λt w2 s2 _ _ H=>ok t w2 s2 H) bL H
def LJ(h:dz L w0 p tp tv uv fv w su sb s)(x:aP)(bb:Option Addr)(aQ):Hid (dz L w0 p tp tv uv fv (aA w (hb x bb aQ)) su sb s)/\Hid (dS p tv uv su sb w (aA w (hb x bb aQ)))/\w.heap.size<(aA w (hb x bb aQ)).heap.size/\
  Hid (∀w',dS p tv uv su sb (aA w (hb x bb aQ)) w'->aG w' w.heap.size=some [x.j']/\aG w' (w.heap.size,2)=some [x.aX]/\aG w' (w.heap.size,3)=some [x.O]/\aG w' (w.heap.size,4)=some (bb,D x.I,aQ)/\w.heap.size<w'.heap.size):=
 ⟨A (h.alloc _),A (dS.below ((aT w w).alloc (bD _) _)),by simp,A λw' aI=>by
  have a_:=(h.alloc (hb x bb aQ)).own aI (ek w (hb x bb aQ));exact⟨az a_ 0,az a_ 2,az a_ 3,az a_ 4,bd a_⟩⟩
def cY(H:Hid (du L w0 p tp tv uv fv su0 sb w1 s0 pl bf wk s r)):dS p tv uv su0 sb w1 wk:=by obtain⟨su,_,T,_⟩:=H.o.st;exact T
def Zr(V:Hid (gY L E cG w0 tp fv nv))(U:k<D E)(lj:(Z L k).j'=16)(dy:Hid (∀j,j<k->rS L w0 p tp tv uv fv j f))(h:dz L w0 p tp tv uv fv w su sb s)(ho:pb sb s k):aY 72 #[(p,0),k] w (jr L w0 p tp tv uv fv rv uY (bE L (f+1) .block k s) s su sb w):=by
 obtain⟨g,cA,x,bb,aQ,rfl,cg⟩:=V.o.fe.gQ h.av U;have br:=A cg;have ax:=cg.Z;rw[ax] at lj;have hI:=A ho;have rq:=cg.fA.2;have jZ:Hid (∀i,i<D x.I->Y x.I i 0<k/\ct 2 (Z L (Y x.I i 0)).j'=true):=A λi ay=>by
  obtain⟨R,T⟩:=cg.at ay;rw[lj,show B.pat 16 x.aX (D x.I)=ef (D x.I) 2 from rfl,cd (l:=ef _ _),ku,aS ay] at T;exact⟨R,T⟩
 have⟨hv,hi⟩:(k:Int)<D E/\(0:Int)<=k:=J;have H:=bO h (show bE L (f+1) .block k s=(each (bE L f .stmt) x.I (fH s)).M λ_ s1=> .ok [] (Ck.shut s1) by rw[<-ax];rfl);have NR:=A H.o.ex;have hR:=ho.mW;clear cg ho;go_in;have Go:=0;go_wp2;refine SJ J (λw1 b H=>?_) H;obtain⟨b',_,_,_,_,_,b9,_⟩:=dL H;obtain⟨_,_,z0,_,_,eK,_,_⟩:=V.o.eo H.o.av;obtain⟨_,_,_,_,c4⟩:=br.o.cells w1 H.o.av;go_wp2;go_loopg[20] (D x.I) (λr i wr=> ∃(j:Nat) (s1:b5),j+r=D x.I/\i= j/\Hid (du L w0 p tp tv uv fv su sb w s (bE L (f+1) .block k s) (sb++[b]) wr s1 ((each (bE L f .stmt) (x.I.drop j) s1).M λ_ s1=> .ok [] (Ck.shut s1))))
 case atStart=>exact⟨0,fH s,by omega,rfl,H⟩
 case round=>
  obtain⟨j,s1,bg,rfl,eU⟩:=hrel;clear H;have H:=eU;generalize wr=bH at*;by_cases cr:j<D x.I
  .have⟨j3,me⟩:(j:Int)<D x.I/\(0:Int)<=j:=J;have hK:IntKind.i64.wrap (j+1)=j+1:=dI _ J;obtain⟨g2,rfl,cu⟩:=br.o.bM bH j H.o.av cr;have aR:=A (jZ.o j cr);have H:=eP (show _=(bE L f .stmt (Y x.I j 0) s1).M λ_ s2=>(each (bE L f .stmt) (x.I.drop (j+1)) s2).M λ_ s1=> .ok [] (Ck.shut s1) by
    rw[kS cr,cd,cE cr];exact i' _ _ _) H
   generalize Y x.I j 0=a at*;go_wp2;refine SN dy hI aR.o (λt w2 s2 H=>?_) (H:=H);go_wp2;go_roundg (D x.I-(j+1))
   case rel=>exact⟨j+1,s2,by omega,by go_num,H⟩
   case measure=>omega
  .obtain rfl:j=D x.I:=J;have H:=eP (show _=df.ok [] (Ck.shut s1) by rw[rW];rfl) H;go_wp2;refine SK NR (λw2 H=>?_) H;go_wp2;go_returns;exact fs trivial H
def ahP(H:Hid (du L w0 p tp tv uv fv su0 sb w1 s0 pl bf wk s r)):D s.types=D L:=by obtain⟨su,R,_⟩:=H.o.st;exact R.rw.ty
def adO(h:D s.types=D L)(U:k<D L):(Ck.iA k t s).types.getD k []=t:=by show(s.types.set k t).getD k []=t;rw[cd,List.getElem?_set_self J];rfl
def aa9(V:Hid (gY L E cG w0 tp fv nv))(U:k<D E)(h:dz L w0 p tp tv uv fv w su sb s)(bW:Hid (∀w su,dz L w0 p tp tv uv fv w su sb s->aY 186 #[(p,0),k] w (jr L w0 p tp tv uv fv kI (sA L k) (typed L (bE L f) k s) s su sb w))):
  aY 158 #[(p,0),k] w (jr L w0 p tp tv uv fv kI (sA L k) (bE L (f+1) .b6 k s) s su sb w):=by have jG:D L=D E:=V.o.pF;obtain⟨gt,fQ,pP⟩:=dR h.ty (by rw[h.rw.ty,jG];omega);rw[show D s.types=D E from h.rw.ty.trans jG] at pP;subst pP;have tq:Hid (k<D L):=A J;have⟨hv,hi⟩:(k:Int)<D E/\(0:Int)<=k:=J;have H:=bO h (rfl:bE L (f+1) .b6 k s=(typed L (bE L f) k s).M λt s1=> .ok t (Ck.iA k t s1));go_in;have Go:=0;go_wp2;have H:=dE H (aT _ _).drew;refine jT 9 (λcc=>cc.cell? (p,1)=some (gt,D E,fQ)) (dL H).2.1 λaD=>?_;generalize w.drew=b4 at*;obtain⟨_,c9,_,_,_,_,b9,_⟩:=dL H;refine a' 0 ?_;refine a' 1 ?_;refine a' 2 ?_;refine a' 3 ?_;refine a' 4 ?_;refine a' 5 ?_;refine a' 6 ?_;refine cT 7 λK ab=>?_;go_simp;refine oT (val:=kI) (λsu h=>bW.o _ su h) (λt b3 mj ho _ H=>?_) (by intro c j w2 bZ bY;replace bZ:=A bZ;unfold gS;go_wp2;exact⟨rfl,kZ (k:=j) bZ.o bY⟩) H;have d_:=A ho;have mc:=A (ahP H);unfold kI;go_wp2;refine ab.o _ _ (λ_=>(dL H).2.1) ?_;have aD:aG b3 (p,1)=some (gt,D E,fQ):=(dL H).2.1;refine a' 8 ?_;refine cT 9 λK ab=>?_;obtain⟨hp,kd,y3⟩:=CO H tq.o;go_simp;refine ab.o _ _ (λh=>absurd rfl h) ?_;refine bV ?_;have H:=du.x0 H k d_.o.1;generalize a7 b3 (gt,k) t=a6 at*;obtain⟨_,c9,_,_,_,_,b9,_⟩:=dL H;obtain⟨hp,kd,y3⟩:=CO H tq.o;rw[adO mc.o tq.o] at hp;go_wp2;go_returns;exact fs (show sA L k t (Ck.iA k t mj) from d_.o) H
end
end Pk
namespace Pk
open Ck
open Rk (hD kq px sI sK sP sM)
section
variable{L:List aP}{E:List (aP×af)}{cG:Nat}{w0:jf}{p tp:Nat}{tv uv fv nv su su0:af}{sb bf:List Nat}{w w1 wk w2:ai}{s s0:b5}{pl r r2 rc:df}{Q:e7->ai->Prop}{K:bz->b5->df}{b:Bool}{c:Int}{t:bz}{k a f:Nat}{dY:e7}
def Pr(s q:bz)(w:ai):aY 193 #[s,q] w λe w'=>e= .returned (.tuple #[[if cv s q then s.drop (D q) else s],.bool (cv s q)])/\w'=w:=by
 refine b7 (strings_CutPrefix (str s) (str q) w) ?_;rintro w' rfl;refine⟨?_,rfl⟩;have h:Lib.trimPrefix s q=if cv s q then s.drop (D q) else s:=by
  unfold Lib.trimPrefix Lib.hasPrefix;rw[Gl]
 have T:Lib.hasPrefix s q=cv s q:=by unfold Lib.hasPrefix;exact Gl s q
 rw[<-h,<-T];rfl
def aaA:(fq t).isSome=cv t i_:=by unfold fq;cases cv t i_<;>rfl
def P5 (V:Hid (gY L E cG w0 tp fv nv)) (U:k<E.length) (h:dz L w0 p tp tv uv fv w su sb s) (t:bz):Calls prog 163 #[.pointer (some ⟨p,0,none⟩),.string (str t),.int .i64 (k:Int)] w (jr L w0 p tp tv uv fv kI (λhL s'=>fq t=some hL/\s'=s) (bl (fq t).isSome 8 k ((fq t).getD []) s) s su sb w):=by
 have H:=bO h (jU (fq t).isSome 8 k ((fq t).getD []) s);have cV:=A (Pr t i_ w);have cC:=A (aaA (t:=t));cases G:cv t i_ with
 |true=>
  have cM:Hid (fq t=some (t.drop 5)):=A (by unfold fq;rw[G];rfl);rw[cM.o] at H|-;rw[G] at cV;replace cV:Hid (Calls prog 193 #[t,i_] w λe w'=>e= .returned (.tuple #[[t.drop 5],.bool true])/\w'=w):=cV;generalize t.drop 5=u at*;go_in;have Go:=0;go_wp2;refine cV.o.mono ?_;rintro e bc ⟨rfl,rfl⟩;go_wp2;refine pB V U rfl (λw2 H=>?_) (H:=H);go_wp2;go_returns;exact fs ⟨rfl,rfl⟩ H
 |false=>
  have cM:Hid (fq t=none):=A (by unfold fq;rw[G];rfl);rw[cM.o] at H|-;rw[G] at cV;replace cV:Hid (Calls prog 193 #[t,i_] w λe w'=>e= .returned (.tuple #[t,.bool false])/\w'=w):=cV;go_in;have Go:=0;go_wp2;refine cV.o.mono ?_;rintro e bc ⟨rfl,rfl⟩;go_wp2;refine pB V U rfl (λw2 H=>?_) (H:=H);cases H.o.eq
def Hh(V:Hid (gY L E cG w0 tp fv nv))(U:a<E.length){ty}(ok: ∀w2 t,fq ty=some t->Hid (du L w0 p tp tv uv fv su0 sb w1 s0 pl bf w2 s (K t s))->Q (.returned t) w2)(bL: ∀c j w2,pl= .bL c j->eO w0 w2->Q (gS c ((Z L j).an:Int)) w2:=by intro c j w2 bZ bY;replace bZ:=A bZ;unfold gS;go_wp2;exact⟨rfl,kZ (k:=j) bZ.o bY⟩)(H:Hid (du L w0 p tp tv uv fv su0 sb w1 s0 pl bf wk s ((bl (fq ty).isSome 8 a ((fq ty).getD []) s).M K))):aY 163 #[(p,0),ty,a] wk Q:=
 oT (val:=kI) (λsu h=>P5 V U h ty) (λt w2 s2 ho _ H=>by rw[ho.2] at H;exact ok w2 t ho.1 H) bL H
def Sa{j':Int}{d:Nat}(h:c7 L j' t=(d:Int)):fk L j' (D L) t=some [d]:=by
 unfold c7 at h;unfold fk;rw[mM];revert h;cases L.findIdx? (λn=>n.j'==j'&&n.O==t) with
 |none=>intro h;have h:(-1:Int)=(d:Int):=h;omega
 |some j=>intro h;simp at h|-;omega
def OW (V:Hid (gY L E cG w0 tp fv nv)) (G:eO w0 w) (b':w.cell? ⟨p,0,none⟩=some (.pointer (some ⟨tp,0,none⟩))) (b9:p<w.heap.size) {a nW:bz} (aR:a.length<=dc):Calls prog 40 #[.pointer (some ⟨p,0,none⟩),.string (str a),.string (str nW)] w λe w'=>e= .returned (.tuple #[.string (str ((field L a nW).getD [])),.bool (field L a nW).isSome])/\aL w.heap.size w w':=by
 obtain⟨v1,v2,z0,lB,z2,eK,⟨dq,m1⟩,cR,m2⟩:=V.o.eo G;have ig:=m1.qK rO (rP w) aR;rw[wy] at ig;by_cases bB:c7 L 10 a<0
 .have cP:Hid (field L a nW=none):=A (by unfold field;rw[aS bB]);rw[oJ (by omega: ¬0<=c7 L 10 a)] at ig;generalize(fk L 10 L.length a).getD (0:Int)=ew at ig;go_in;have Go:=0;go_wp2;go_returns;exact⟨by rw[cP.o];rfl,aT _ _⟩
 .obtain⟨k,x,pI,gj,eh,_⟩:=px bB;have U:k<E.length:=by
   have:=(List.getElem?_eq_some_iff.1 gj).1;rw[V.o.eq,h2] at this;exact this
  have cP:Hid (field L a nW=(x.I.find? λa=>(Z L a).O==nW).map λa=>B.O L (bM L a 0)):=A (by
   unfold field;rw[ao bB,pI];show Option.map _ (List.find? _ (Z L k).I)=_;rw[show Z L k=x from mO gj])
  rw[ri (by omega:0<=c7 L 10 a),Sa pI,Option.getD_some] at ig;obtain⟨g,cA,fc,bb,aQ,rfl,cg⟩:=V.o.fe.gQ G U;obtain rfl:fc=x:=cg.Z.symm.trans (mO gj);have br:=A cg;have bh:=A G;have hv:(k:Int)<E.length:=by omega
  have hi:(0:Int)<=k:=by omega
  have rq:=cg.fA.2;have jZ:Hid (∀i,i<fc.I.length->fc.I.getD i 0<E.length/\(Z L (fc.I.getD i 0)).j'=9):=A λi ay=>by
   obtain⟨R,T⟩:=cg.at ay;rw[eh,show B.pat 10 fc.aX fc.I.length=ef fc.I.length 9 from rfl,cd (l:=ef _ _),ku,aS ay] at T;exact⟨by omega,by simpa[ct] using T⟩
  obtain⟨_,_,_,_,c4⟩:=cg.cells w G;clear cg G;go_in;have Go:=0;go_wp2;go_loopg[38] fc.I.length (λr i wr=> ∃(j:Nat),j+r=fc.I.length/\i= j/\Hid (wr=w)/\Hid ((fc.I.take j).all (λa=>!((Z L a).O==nW))=true))
  case atStart=>exact⟨0,by omega,rfl,A rfl,A rfl⟩
  case round=>
   obtain⟨j,bg,rfl,hw,cz⟩:=hrel;obtain rfl:=hw.o;by_cases cr:j<fc.I.length
   .have j3:(j:Int)<fc.I.length:=(by omega);have me:(0:Int)<=j:=(by omega);have hK:IntKind.i64.wrap (j+1)=j+1:=dI _ (by omega);obtain⟨g2,rfl,cu⟩:=br.o.bM wr j bh.o cr;obtain⟨pR,o0⟩:=jZ.o j cr;obtain⟨R,T⟩:=sI cr cz.o;have cJ:=A R;have en:=A T;clear R T;obtain⟨jE,akK,y,pY,hA,hG,dZ⟩:=V.o.fe.gQ bh.o pR;cases hG;generalize fc.I.getD j 0=d at*;have sd:=dZ.Z;rw[sd] at cJ en o0;have nR:y.I.length=1:=(by rw[dZ.ly.len,o0];rfl);have ajB:(0:Int)<y.I.length:=(by omega);have alL:0<y.I.length:=(by omega);obtain⟨g3,rfl,hp⟩:=dZ.bM wr 0 bh.o (by omega);have hj:y.I.getD 0 0<E.length:=(by have:=(dZ.at (i:=0) (by omega)).1;omega);have NQ:Hid (B.O L (bM L d 0)=B.O L (y.I.getD 0 0)):=A (by unfold bM;rw[sd]);obtain⟨_,_,_,bU,cL⟩:=dZ.cells wr bh.o;have vX:(d:Int)<E.length:=(by omega);have lz:(0:Int)<=d:=(by omega);cases hT:((str y.O).toList==(str nW).toList) with
    |false=>
     have uI:=A (en.o (by rw[<-mR];exact hT));go_wp2;go_roundg (fc.I.length-(j+1))
     case rel=>exact⟨j+1,by omega,by go_num,A rfl,uI⟩
     case measure=>omega
    |true=>
     have cM:Hid (field L a nW=some (B.O L (y.I.getD 0 0))):=A (by rw[cP.o,cJ.o (by rw[<-mR];exact hT),Option.map_some,NQ.o]);generalize y.I.getD 0 0=b at*;have aD:wr.drew.cell? p=some (tp,0)/\wr.drew.cell? tp=some (.slice (some g) E.length cA)/\wr.drew.cell? (g,d*5+4)=some (.slice (some g3) y.I.length hA)/\wr.drew.cell? g3=some [b]:=⟨b',z0,cL,hp⟩;have cN:=A (bh.o.trans ((aT wr wr).drew.mono bh.o.size));go_wp2;refine jT 19 (λcc=>cc.cell? p=some (tp,0)/\cc.cell? tp=some (.slice (some g) E.length cA)/\cc.cell? (g,d*5+4)=some (.slice (some g3) y.I.length hA)/\cc.cell? g3=some [b]) aD λaD=>?_;have rK:Hid (aL wr wr wr.drew):=A (aT _ _).drew;generalize As:wr.drew=b4 at*;refine a' 0 ?_;refine a' 1 ?_;refine a' 2 ?_;refine a' 3 ?_;refine a' 4 ?_;refine a' 5 ?_;refine a' 6 ?_;refine a' 7 ?_;refine a' 8 ?_;refine a' 9 ?_;refine a' 10 ?_;refine a' 11 ?_;refine a' 12 ?_;refine a' 13 ?_;refine a' 14 ?_;refine a' 15 ?_;refine a' 16 ?_;refine cT 17 λK ab=>?_;go_simp;refine b7 (V.o.O cN.o hj) λb3 ie=>?_;have Iu:=A (rK.o.trans (ie.mono rK.o.size));have vY:b3.cell? p=some (tp,0)/\b3.cell? tp=some (.slice (some g) E.length cA)/\b3.cell? (g,d*5+4)=some (.slice (some g3) y.I.length hA)/\b3.cell? g3=some [b]:=by
      have key: ∀{q:Addr} {v:af},b4.cell? q=some v->b3.cell? q=some v:=λh=>(ie.cell (sF h)).trans h;exact⟨key aD.1,key aD.2.1,key aD.2.2.1,key aD.2.2.2⟩
     go_wp2;refine ab.o _ _ (λ_=>vY) ?_;have aD:=vY;refine a' 18 ?_;refine cT 19 λK ab=>?_;go_simp;refine ab.o _ _ (λh=>absurd rfl h) ?_;refine bV ?_;go_wp2;go_returns;exact⟨by rw[cM.o];rfl,Iu.o⟩
   .obtain rfl:j=fc.I.length:=(by omega);have ep:Hid (field L a nW=none):=A (by
     have:=cz.o;rw[mM] at this;rw[cP.o,sK this];rfl)
    go_wp2;go_returns;exact⟨by rw[ep.o];rfl,aT _ _⟩
theorem XH (V:Hid (gY L E cG w0 tp fv nv)) (G:eO w0 w) (b':w.cell? ⟨p,0,none⟩=some (.pointer (some ⟨tp,0,none⟩))) (b9:p<w.heap.size) {of x:bz} (bX:of.length<=dc) (aF:x.length<=100000000000):Calls prog 228 #[.pointer (some ⟨p,0,none⟩),.string (str of),.string (str x)] w λe w'=>(∃t,e= .returned (.tuple #[.string (str t),.bool ((sY L of).find? λm=>cv m (x++[32])).isSome])/\ ∀m,((sY L of).find? λm=>cv m (x++[32]))=some m->t=m.drop (x.length+1))/\w'=w:=by
 obtain⟨lT,b1,b2,bC,dq,cR,n3,m3,h9⟩:=V.o.gB;have bW:=A (Ge rfl (h9 w G) bX);have Yt:Hid (∀m w',Calls prog 193 #[.string (str m),.string (str (x++[32]))] w' λe mh=>e= .returned (.tuple #[.string (str (if cv m (x++[32]) then m.drop (x++[32]).length else m)),.bool (cv m (x++[32]))])/\mh=w'):=A λm w'=>Pr m _ w'
 have LK:str x++(⟨#[32]⟩:ByteArray)=str (x++[32]):=by
  apply ByteArray.ext
  simp[str]
 have E7:Hid ((x++[32]).length=x.length+1):=A (by simp);have gE:(str x).size=x.length:=js _;generalize x++[32]=x32 at*;clear h9 G bX;generalize sY L of=oo at*
 go_enter func228,ntmps228
 go_wp2_with fail
 refine bW.o.mono ?_;rintro e bS ⟨⟨u,rfl,hu⟩,rfl⟩;have ia:=A hu;have nP:=hu.max;obtain⟨pE,lc,rfl⟩:=eR hu rfl;clear hu bW;go_wp2_with fail
 go_loopg[19] oo.length (λr i wr=> ∃j:Nat,j+r=oo.length/\i= .int .i64 (j:Int)/\Hid (wr=bS)/\Hid ((oo.take j).all (λa=>!cv a x32)=true))
 case atStart=>exact⟨0,by omega,rfl,A rfl,A rfl⟩
 case round=>
  obtain⟨j,bg,rfl,hw,cz⟩:=hrel;obtain rfl:=hw.o;clear hw
  by_cases cr:j<oo.length
  ·have j3:(j:Int)<(oo.length:Int):=by omega
   have me:(0:Int)<=(j:Int):=by omega
   have hK:IntKind.i64.wrap ((j:Int)+1)=(j:Int)+1:=dI _ (by omega);obtain⟨R,T⟩:=sP cr cz.o;have cJ:=A R;have en:=A T;clear R T;obtain⟨gs,cs,yP⟩:=dR ia.o (by omega)
   cases yP
   have cu:=h3 ia.o rfl cr;generalize oo.getD j []=m at*;have cV:=A (Yt.o m wr);go_wp2_with fail
   refine cV.o.mono ?_;rintro e bm ⟨rfl,rfl⟩
   cases jP:cv m x32 with
   |false=>
    have uI:=A (en.o jP);go_wp2_with fail
    go_roundg (oo.length-(j+1))
    case rel=>exact⟨j+1,by omega,by go_num,A rfl,uI⟩
    case measure=>omega
   |true=>
    have cM:=A (cJ.o jP);go_wp2
    go_returns
    exact⟨⟨_,by rw[cM.o];rfl,λwx h=>by rw[cM.o] at h;cases h;rw[E7.o]⟩,rfl⟩
  ·obtain rfl:j=oo.length:=by omega
   have ep:=cz.o;rw[mM] at ep;replace ep:=A (sM ep);go_wp2
   go_returns
   exact⟨⟨_,by rw[ep.o];rfl,λwx h=>by rw[ep.o] at h;cases h⟩,rfl⟩
def hh(V:Hid (gY L E cG w0 tp fv nv))(U:a<D E){b2}(G:b=b2)(ok: ∀w2,b2=true->Hid (du L w0 p tp tv uv fv su0 sb w1 s0 pl bf w2 s (K t s))->Q (.returned (.tuple #[])) w2)(bL: ∀c j w2,pl= .bL c j->eO w0 w2->Q (gS c ((Z L j).an:Int)) w2:=by intro c j w2 bZ bY;replace bZ:=A bZ;unfold gS;go_wp2;exact⟨rfl,kZ (k:=j) bZ.o bY⟩)(H:Hid (du L w0 p tp tv uv fv su0 sb w1 s0 pl bf wk s ((bl b2 c a t s).M K))):aY 38 #[(p,0),.bool b,c,a] wk Q:=by
 subst G;cases b with
 |true=>exact pB V U rfl (λw2 H=>ok w2 rfl H) bL H
 |false=>
  obtain⟨su,h,_⟩:=H.o.st;refine b7 (Gi V U false c h) ?_;rintro w' rfl;exact bL c a w' (by rw[H.o.eq];rfl) h.av
def adW{x of}:Rk.wL L k of x s=(bl ((fw (gv L of)).find? λm=>cv m (x++[32])).isSome 6 k [] s).M λ_ s'=> .ok ((Ck.method L of x).getD []) s':=by unfold Rk.wL Ck.method;cases(fw (gv L of)).find? λm=>cv m (x++[32])<;>rfl
def adX{y}(h:B.Nm y):cv y [42]=false:=by
 obtain⟨⟨c,r,rfl,hc⟩,_⟩:=h;unfold cv;cases a_:(c::r).take [42].length==[42] with
 |false=>simp
 |true=>
  obtain rfl:c=42:=by simpa using a_
  cases hc
def ack(V:Hid (gY L E cG w0 tp fv nv))(U:k<D E)(eh:(Z L k).j'=37)(h:dz L w0 p tp tv uv fv w su sb s){of}(NP:eB of):aY 211 #[.pointer (some ⟨p,0,none⟩),.int .i64 (k:Int),.string (str of)] w (jr L w0 p tp tv uv fv kI (λhL _=>eB hL) (dot L k of s) s su sb w):=by
 obtain⟨g,cA,x,bb,aQ,rfl,cg⟩:=V.o.fe.gQ h.av U;have ax:=cg.Z;have It:B.Nm x.O:=by
  obtain⟨fc,_,_,e,_,hm⟩:=V.o.fe.at U;obtain rfl:fc=x:=e.symm.trans ax;rw[ax] at eh;exact V.o.jn.eG fc hm (by rw[eh];rfl)
 have Ft:Hid (decide (0<=c7 L 12 of)=true->cv of [42]=false):=A λaH=>by
  obtain⟨d,y,_,bx,ai_,rfl⟩:=px (name:=of) (j':=12) (by simpa using aH);exact adX (V.o.jn.eG y (hX bx) (by rw[ai_];rfl))
 have Y9:Hid ((decide (0<=c7 L 12 of)||cv of [42])=true->sY L of=fw (gv L of)):=A λaH=>by unfold sY;rw[aS aH]
 have E7:Hid (D x.O<=100000000000):=A cg.fA.1;have UJ:D of<=dc:=by have:=NP.1;unfold dc;omega
 have ou:Hid (∀t,Ck.method L of x.O=some t->eB t):=A λt bI=>V.o.jn.method It bI;have YE:Hid (∀t,field L (of.drop 1) x.O=some t->eB t):=A λt bI=>V.o.jn.field bI;have Me:=A UJ;obtain⟨bO,bq,cK,c3,c4⟩:=cg.cells w h.av;obtain⟨v1,v2,z0,lB,z2,eK,⟨dq,m1⟩,cR,m2⟩:=V.o.eo h.av;obtain⟨b',_,_,_,_,_,_,b9,_⟩:=h.at;have hv:(k:Int)<D E:=by omega
 have hi:(0:Int)<=k:=by omega
 obtain⟨H1,cJ,qk,dx⟩:=LJ h x bb aQ;have H:=Pk.bO H1.o (Rk.R_ (L:=L) (k:=k) (of:=of) (s:=s));rw[ax] at H;have l2:=(m2.below ((aT w w).alloc (bD _) (hb x bb aQ))).qK rO (rP (aA w (hb x bb aQ))) UJ;rw[wy] at l2;generalize(fk L 12 (D L) of).getD (0:Int)=V2 at l2;clear h cg ax eh m1 m2 NP;go_in;have Go:=0;go_upto_region 3 with fail
 clear bO bq cK c3 c4 b' b9 z0 lB z2 eK l2 hv hi;generalize fp:aA w (hb x bb aQ)=w1 at*;generalize w.heap.size=q at*;clear fp;have uE:Hid (∀w',aY 89 #[of,.string (str [42])] w' λe mh=>e= .returned (.bool (cv of [42]))/\mh=w'):=A λw'=>zn of [42] w';generalize CQ:decide (0<=c7 L 12 of)=rQ at*;go_cut[] from 36 to 43 (λdN=>(rQ||cv of [42])=true/\Hid (du L w0 p tp tv uv fv su sb w1 s (dot L k of s) sb dN s (if(if cv of [42] then field L (of.drop 1) x.O else none).isSome then .ok ((if cv of [42] then field L (of.drop 1) x.O else none).getD []) s else Rk.wL L k of x.O s)))
 case first=>
  cases jP:cv of [42]
  all_goals
   rw[jP] at H uE;cases rQ with
   |true=>
    go_wp2;refine hh V U rfl (λw2 b8 H=>?_) (H:=H);replace b8:=A b8;go_wp2;go_meet;rw[jP]
    first|exact⟨rfl,H⟩|exact absurd b8.o (by decide)
   |false=>
    go_wp2;refine b7 (uE.o _) ?_;rintro w' rfl;go_wp2;refine hh V U rfl (λw2 b8 H=>?_) (H:=H);replace b8:=A b8;go_wp2;go_meet;rw[jP]
    first|exact⟨rfl,H⟩|exact absurd b8.o (by decide)
 case rest=>
  obtain⟨Ui,eU⟩:=hcut;clear H;have H:=eU;clear eU;generalize wc=w2 at*;have Rq:=A Ui;clear Ui;go_upto_if 45 with fail;go_cut[] from 10 to 57 (λdN=>Hid (du L w0 p tp tv uv fv su sb w1 s (dot L k of s) sb dN s (Rk.wL L k of x.O s)))
  case first=>
   cases rQ with
   |true=>
    replace H:=eP (show _=Rk.wL L k of x.O s by rw[Ft.o rfl];rfl) H;go_wp2;go_meet;exact H
   |false=>
    have jP:cv of [42]=true:=Rq.o;have hl:1<=of.length:=by
     have h:=jP;unfold cv at h;simp only[pv,pt] at h;exact h.1
    have e_:1<=(str of).size:=(by rw[js];exact hl);have ff:(1:Int)<=((str of).size:Int):=(by omega);have Ad:(1:Int)<=D of:=(by omega);rw[jP] at H;replace H:=eP (show _=if(field L (of.drop 1) x.O).isSome then .ok ((field L (of.drop 1) x.O).getD []) s else Rk.wL L k of x.O s from rfl) H;have rI:Hid ((str of).extract 1 (str of).size=str (of.drop 1)):=A (AS of);have wZ:Hid ((of.drop 1).length<=dc):=A (by rw[qA];omega);clear hl jP;go_wp2;replace H:=dE H (aT _ _).drew;obtain⟨_,_,iS,dO,hM⟩:=dx.o _ (cY H);refine jT 10 (λcc=>cc.cell? (q,3)=some [x.O]) iS λaD=>?_;generalize w2.drew=b4 at*;refine a' 0 ?_;refine a' 1 ?_;refine a' 2 ?_;refine a' 3 ?_;refine a' 4 ?_;refine cT 5 λK ab=>?_;obtain⟨b',_,_,_,_,_,b9,_⟩:=dL H;go_simp
    try rw[rI.o]
    refine pH (OW V H.o.av b' b9 wZ.o) (λb3 H=>?_) H;clear b' b9 aD iS dO hM;generalize field L (of.drop 1) x.O=vb at*;go_wp2;refine ab.o _ _ (λ_=>(dx.o _ (cY H)).2.2.1) ?_;clear ab K;have aD:=(dx.o _ (cY H)).2.2.1;refine a' 6 ?_;refine a' 7 ?_;refine a' 8 ?_;refine a' 9 ?_;refine cT 10 λK ab=>?_;go_simp;refine ab.o _ _ (λh=>absurd rfl h) ?_;clear ab K aD;refine bV ?_;cases vb with
    |none=>
     go_wp2;go_meet;exact H
    |some t=>
     have bI:=A (YE.o t rfl);go_wp2;go_returns;exact ju cJ.o (fs bI.o H)
  case rest=>
   clear H;have H:=eP adW hcut;clear hcut;generalize wc=bc at*;obtain⟨_,_,iS,dO,hM⟩:=dx.o _ (cY H);obtain⟨b',_,_,_,_,_,b9,_⟩:=dL H;have An:=A (XH V H.o.av b' b9 Me.o E7.o);rw[Y9.o Rq.o] at An;have Y1:Hid (∀m,((fw (gv L of)).find? λm=>cv m (x.O++[32]))=some m->Ck.method L of x.O=some (m.drop (D x.O+1))):=A λm hm=>by unfold Ck.method;rw[hm];rfl
   generalize((fw (gv L of)).find? λm=>cv m (x.O++[32]))=fm at*;go_wp2;refine An.o.mono ?_;rintro e bS ⟨⟨t,rfl,bI⟩,rfl⟩;have bW:=A bI;clear bI An iS dO hM b' b9;go_wp2;refine hh V U rfl (λbm b8 jS=>?_) (H:=H);clear H;obtain⟨m,rfl⟩:=Option.isSome_iff_exists.1 b8;have cM:=A (Y1.o m rfl);have Zi:=A (bW.o m rfl);rw[cM.o] at jS;rw[Zi.o];go_wp2;go_returns;exact ju cJ.o (fs (ou.o _ cM.o) jS)
open Rk (Ks Pq fitAll_nil Ga hD kq px sI sK sP sM)
def dz.row(h:dz L w0 p tp tv uv fv w su sb s)(aI:dS p tv uv su sb w w2){fX u l}(hu:db fX w u l)(hy: ∀b,tv.ownBlock=some b->b<fX):db fX w2 u l:=by
 refine hu.move λg aB=>?_;have bN:=eI hu g aB;obtain⟨bQ,_⟩|⟨g2,cap,cur,bQ,_,G,_⟩:=hu.2
 .rw[bQ] at aB;cases aB
 .rw[bQ] at aB;obtain rfl:g2=g:=gZ aB;have key: ∀{N e n:Nat} {v:af} {xs:List af},w.ownsRow N e 1 v n xs->9≠e->v.ownBlock≠some g2:=λ{N e n v xs} bX aZ ag=>by
   obtain⟨hu,_⟩|⟨g,cap,cur,hu,_,aB,_⟩:=bX.2
   .rw[hu] at ag;cases ag
   .rw[hu] at ag;rw[show g=g2 from gZ ag,G] at aB;cases aB;exact aZ rfl
  exact aI.gP g2 (bd G) (λe=>by have:=h.blk;rw[<-e,G] at this;cases this) (λe=>by have:=hy g2 e;omega) (key h.us aN) (key h.sc aN) λe=>h.mp.ne (List.mem_of_getLast? e) G rfl
def ahN(H:Hid (du L w0 p tp tv uv fv su0 sb w1 s0 pl sb wk s r)): ∃su,dz L w0 p tp tv uv fv wk su sb s/\Hid (du L w0 p tp tv uv fv su sb wk s0 pl sb wk s r)/\Hid (∀(val:bz->af) (P:bz->b5->Prop) (e:e7) (w':ai),jr L w0 p tp tv uv fv val P pl s0 su sb wk e w'->jr L w0 p tp tv uv fv val P pl s0 su0 sb w1 e w'):=by
 obtain⟨su,R,T,ah⟩:=H.o.st;refine⟨su,R,A ⟨⟨su,R,dS.refl,At.refl⟩,⟨[],(lU _).symm,λ_ h=>nomatch h⟩,H.o.gn,H.o.eq⟩,A λval P e w' h=>?_⟩;cases aJ:pl with
 |bL c k=>rw[aJ] at h;exact h
 |ok t s'=>
  rw[aJ] at h;obtain⟨g1,g2,g3,sq,g4,g5,g6⟩:=h;exact⟨g1,g2,g3,sq,g4,T.trans ah g5,ah.trans T.size g6⟩
def acv{t}(h:eB t)(G:cv t f'=true):(∀a∈(kX t).1,eB a)/\eB (kX t).2:=by
 have bI:jA t:=h.2.resolve_left λe=>by rw[e] at G;cases G
 have hl:=Ga (·.drop 1) (λr=>by simp) (D t) (t.drop 5) 0 [] [] 200000000000 (λa aR=>by cases aR) (by have:=h.1;simp;omega);obtain⟨l,r,rfl,R,T⟩:=bI.Q5 G;have e:kX (mx l r)=(l,(p' r).drop 1):=Pp _ R;have aE:(p' r).drop 1=r:=by
  unfold p';split
  .rename_i au;rw[au];rfl
  .rfl
 have iL:(∀a∈(kX (mx l r)).1,D a<=200000000000)/\(kX (mx l r)).2.length<=200000000000:=hl;rw[e,aE] at iL|-;exact⟨λa aR=>⟨iL.1 a aR,.inr (R a aR)⟩,iL.2,T⟩
def K3 (w:ai)(t:bz):Prop:=aY 229 #[t] w λe w'=> ∃u,e= .returned (.tuple #[u,.string (str (kX t).2)])/\db w.heap.size w' u (kX t).1/\aL w w w'
def aaz(V:Hid (gY L E cG w0 tp fv nv))(L7:Hid (∀w t,eB t->cv t f'=true->K3 w t))(U:k<D E)(h:dz L w0 p tp tv uv fv w su sb s){fX tK:Nat}{eF}{ad:Option Addr}{l:List bz}(vF:Hid (2<=D l->ad=some ⟨eF,1,none⟩))(hu:db fX w (.slice (some ⟨eF,0,none⟩) (D l) tK) l)(hy: ∀b,tv.ownBlock=some b->b<fX)(hl:0<D l)(G: ∀x∈l,eB x):
  aY 212 #[.pointer (some ⟨p,0,none⟩),.int .i64 (k:Int),.string (str (Y l 0 [])),(ad,(D l- 1),(tK- 1))] w (jr L w0 p tp tv uv fv kI (λhL _=>eB hL) (call L k l s) s su sb w):=by
 have H:=bO h (Ks (L:=L) (k:=k) (s:=s) (l:=l));have nP:=hu.max;have ia:=A hu;have Cp:Hid (∀j,j<D l->eB (Y l j [])):=A λj bg=>G _ (by rw[cd,cE bg];exact im bg);have n5:Hid (∀w',dS p tv uv su sb w w'->db fX w' (eF,D l,tK) l):=A λw' aI=>h.row aI ia.o hy;have Y2:=A hy;have NN:Hid (∀b,tv.ownBlock=some b->b<w.heap.size):=A λb G=>(eI h.ty b G).2;have Cq:=A (Cp.o 0 hl);clear h hu hy G ia;generalize Y l 0 []=t0 at*;have l7:Hid (∀w',aY 89 #[t0,f'] w' λe mh=>e= .returned (.bool (cv t0 f'))/\mh=w'):=A λw'=>zn t0 f' w';have um:=A (λw'=>L7.o w' t0 Cq.o);have jJ:Hid (cv t0 f'=true->(∀a∈(kX t0).1,eB a)/\eB (kX t0).2):=A λG=>acv Cq.o G;generalize Ai:cv t0 f'=bo at*;replace Ai:=A Ai;go_in;have Go:=0;go_wp2;refine b7 (l7.o _) ?_;rintro w2 rfl;go_wp2;refine hh V U rfl (λbc b8 jS=>?_) (H:=H);clear H;have ho:=um.o bc b8;obtain⟨SH,SI⟩:=jJ.o b8;have uP:=A SH;have lr:=A SI;clear SH SI um jJ b8 l7 Ai;have hsz:=(cY jS).size;go_wp2;refine ho.mono ?_;rintro e bS ⟨pn,rfl,bQ,o5⟩;have H:=dE jS o5;have fG:=A (cY H);have HB: ∀b,tv.ownBlock=some b->b<bc.heap.size:=λb G=>kv (NN.o b G) hsz;obtain⟨pE,lc,rfl⟩:=eR bQ rfl;have ajj:=bQ.max;obtain⟨yJ,DZ,eA,eX⟩:=ahN H;have NO:Hid (∀w',dS p tv uv yJ sb bS w'->db bc.heap.size w' (.slice pE (kX t0).1.length lc) (kX t0).1):=A λw' aI=>DZ.row aI bQ HB;have UQ:=n5.o bS fG.o;have RL:Hid (∀w',dS p tv uv yJ sb bS w'->db fX w' (eF,D l,tK) l):=A λw' aI=>DZ.row aI UQ Y2.o;clear H jS bQ HB DZ UQ n5 fG hsz;generalize kX t0=P at*;obtain⟨ps,res⟩:=P;dsimp only at*;have H:=eA;clear eA;obtain⟨b',_,_,_,_,_,b9,_⟩:=dL H;go_wp2;refine hh V U (b2:=decide (D ps=D l- 1)) ?_ (λbm HC eH=>?_) (H:=H)
 .by_cases h:D ps=D l- 1
  .rw[ri h];simp[h]
  .rw[oJ h];simp;omega
 clear H b' b9;have ep:Hid (D ps=D l- 1):=A (of_decide_eq_true HC);clear HC;go_wp2;go_loopg[33] (D ps) (λr i wr=> ∃(j:Nat),j+r=D ps/\i= j/\Hid (du L w0 p tp tv uv fv yJ sb bS s (call L k l s) sb wr s (bl (fitAll L ((l.drop 1).drop j) (ps.drop j)) 8 k res s)))
 case atStart=>exact⟨0,by omega,rfl,eH⟩
 case round=>
  obtain⟨j,bg,rfl,eU⟩:=hrel;clear eH;have H:=eU;clear eU;generalize wr=bH at*;by_cases cr:j<D ps
  .have j3:(j:Int)<D ps:=(by omega);have me:(0:Int)<=j:=(by omega);have hK:IntKind.i64.wrap (j+1)=j+1:=dI _ (by omega);have c6:=ep.o;have x6:j+1<D l:=(by omega);have bQ:=NO.o bH (cY H);obtain⟨y',FR,BT⟩:=dR bQ (by omega);cases BT;have cu:=h3 bQ rfl cr;have k2:=h3 (RL.o bH (cY H)) rfl x6;replace H:=eP (show _=(bl (fS L (Y l (j+1) []) (Y ps j [])) 8 k [] s).M λ_ s=>bl (fitAll L ((l.drop 1).drop (j+1)) (ps.drop (j+1))) 8 k res s by
    rw[zK,zK,kS cr,show 1+j=j+1 from yf 1 j,kS x6,show 1+(j+1)=j+1+1 from yf 1 (j+1),cd,cE x6,cd,cE cr];exact Pq) H
   have ai9:(j:Int)<((D l- 1:Nat):Int):=(by omega);have alK:j<D l- 1:=(by omega);have MF:=A (Cp.o (j+1) x6);have ux:Hid (eB (Y ps j [])):=A (uP.o _ (by rw[cd,cE cr];exact im cr));have iV:Hid (∀w',dS p tv uv yJ sb bS w'->aG w' (eF,1+j)=some [Y l (j+1) []]):=A λw' aI=>by rw[yf 1 j];exact h3 (RL.o w' aI) rfl x6
   clear bQ c6;generalize Y l (j+1) []=v at*;generalize Y ps j []=q at*;rw[show j+1=1+j from yf _ _] at k2;have q7:=vF.o (by omega);subst q7;go_wp2;replace H:=dE H (aT _ _).drew;refine jT 13 (λcc=>cc.cell? p=some (tp,0)/\cc.cell? (eF,1+j)=some [v]) ⟨(dL H).1,k2⟩ λaD=>?_;clear cu k2;generalize bH.drew=b4 at*;refine ae 0 ?_;refine ae 1 ?_;refine ae 2 ?_;refine ae 3 ?_;refine ae 4 ?_;refine ae 5 ?_;refine ae 6 ?_;refine ae 7 ?_;refine ae 8 ?_;refine ae 9 ?_;refine ae 11 ?_;refine cT 10 λK ab=>?_;go_simp;refine pH (V.o.fits H.o.av MF.o ux.o) (λb3 pZ=>?_) H;have vY:b3.cell? p=some (tp,0)/\b3.cell? (eF,1+j)=some [v]:=⟨(dL pZ).1,iV.o b3 (cY pZ)⟩;clear H;go_wp2;refine ab.o _ _ (λ_=>vY) ?_;clear ab K aD;have aD:=vY;refine cT 12 λK ab=>?_;go_simp;refine hh V U rfl (λa6 _ nG=>?_) (H:=pZ);clear pZ vY;go_wp2;refine ab.o _ _ (λ_=>⟨(dL nG).1,iV.o a6 (cY nG)⟩) ?_;clear ab K aD;refine bV ?_;go_wp2;go_roundg (ps.length-(j+1))
   case rel=>exact⟨j+1,by omega,by go_num,nG⟩
   case measure=>omega
  .obtain rfl:j=ps.length:=(by omega);replace H:=eP (show _= .ok res s by rw[rW,fitAll_nil];rfl) H;go_wp2;go_returns;exact eX.o _ _ _ _ (fs lr.o H)
end
end Pk
section
open Go.RowKit Go.Lib
namespace Pk
open Ck
open Rk (Ky zO OH CR)
def wG (r:bz):bz:=if cv r [32] then r.drop 1 else r
def Qb(s)(w:ai):aY 161 #[.string (str s),.string ⟨#[32]⟩] w λe w'=>e= .returned (.string (str (wG s)))/\w'=w:=by
 refine b7 (strings_TrimPrefix (str s) ⟨#[32]⟩ w) ?_;rintro w' rfl;refine⟨?_,rfl⟩;have h:Lib.trimPrefix s [32]=wG s:=by
  unfold Lib.trimPrefix Lib.hasPrefix wG;rw[Gl];rfl
 rw[<-h];rfl
def qx (t:bz)(i m d:Nat)(d':List bz):Prop:=(i<5/\m=5/\d=0/\d'=[])\/(5<=i/\ ∃e,d=e+1/\j6 wG t i m e d')
section
variable{t:bz}{i m d:Nat}{d':List bz}
def Kz(G:cv t f'=true)(h:i<5):Y t i 0=Y f' i 0:=by obtain⟨r,rfl⟩:=J8 G;rw[cd,qz (by exact h),<-cd]
def qx.open(G:cv t f'=true)(h:qx t i m d d')(ay:i<D t)(hc:Y t i 0=40):qx t (i+1) m (d+1) d':=by
 obtain⟨R,rfl,rfl,rfl⟩|⟨R,e,rfl,T⟩:=h
 .rw[Kz G R] at hc;obtain rfl:i=4:=by
   have:i=0\/i=1\/i=2\/i=3\/i=4:=J;obtain rfl|rfl|rfl|rfl|rfl:=this
   .exact absurd hc aN
   .exact absurd hc aN
   .exact absurd hc aN
   .exact absurd hc aN
   .rfl
  exact .inr ⟨bD _,0,rfl,j6.start ay⟩
 .exact .inr ⟨by omega,e+1,rfl,T.open ay hc⟩
def qx.shut(G:cv t f'=true)(h:qx t i m d d')(ay:i<D t)(hc:Y t i 0=41)(bB:d≠1): ∃e,d=e+2/\qx t (i+1) m (e+1) d':=by
 obtain⟨R,rfl,rfl,rfl⟩|⟨R,e,rfl,T⟩:=h
 .rw[Kz G R] at hc;have:i=0\/i=1\/i=2\/i=3\/i=4:=J;rcases this with rfl|rfl|rfl|rfl|rfl<;>exact absurd hc aN
 .obtain⟨e,rfl⟩: ∃f,e=f+1:=⟨e- 1,by omega⟩;exact⟨e,rfl,.inr ⟨by omega,e,rfl,T.shut ay hc⟩⟩
def qx.other(G:cv t f'=true)(h:qx t i m d d')(ay:i<D t)(aH:Y t i 0≠40)(R:Y t i 0≠41)(bJ:Y t i 0=44->d≠1):qx t (i+1) m d d':=by
 obtain⟨dH,rfl,rfl,rfl⟩|⟨dH,e,rfl,T⟩:=h
 .refine .inl ⟨?_,rfl,rfl,rfl⟩;have:i≠4:=λe=>by
   subst e;rw[Kz G aN] at aH;exact aH rfl
  omega
 .exact .inr ⟨by omega,e,rfl,T.other ay aH R λag aE=>bJ ag J⟩
def qx.one(h:qx t i m 1 d'):5<=i/\j6 wG t i m 0 d':=by
 obtain⟨_,_,h,_⟩|⟨dH,e,he,T⟩:=h
 .cases h
 .obtain rfl:e=0:=J;exact⟨dH,T⟩
def qx.le(h:qx t i m d d'):d<=i+1/\D d'<=i/\m<=5+i:=by
 obtain⟨_,rfl,rfl,rfl⟩|⟨_,e,rfl,h⟩:=h
 .simp
 .have:=h.dl;have:=h.al;have:=h.xV;omega
end
def aay{w k N s a b u l}(U:w.heap[k]?=some (.stringIter s a))(h:db N w u l):db N (w.iterAt k s b) u l:=h.move λg aB=>by
 rw[iterAt_other];intro e;subst e;obtain⟨bQ,_⟩|⟨g2,cap,cur,bQ,_,G,_⟩:=h.2
 .rw[bQ] at aB;cases aB
 .rw[bQ] at aB;rw[show g2=g from gZ aB,U] at G;cases G
def K2{w k N u l}(U:k<=N)(h:db N w u l):db k w u l:=⟨h.1,h.2.imp id λ⟨g,cap,cur,e,hN,r⟩=>⟨g,cap,cur,e,hg U hN,r⟩⟩
def Zp{w0 w k s b N}(G:aL N w0 w)(U:N<=k):aL N w0 (w.iterAt k s b):=⟨G.os,G.tape,G.output,by rw[show(w.iterAt k s b).heap.size=w.heap.size from by simp[World.iterAt]];exact G.size,λj bg=>by rw[iterAt_other _ _ _ _ _ J];exact G.block j bg⟩
def Zq(w:ai)(t:bz)(h:eB t)(G:cv t f'=true):K3 w t:=by
 have bI:jA t:=h.2.resolve_left λe=>by rw[e] at G;cases G
 have d_:Hid (kX t=wC wG t):=A (by
  obtain⟨l,r,rfl,R,T⟩:=bI.Q5 G;have ag:kX (mx l r)=(l,(p' r).drop 1):=Pp _ R;have aE:wC wG (mx l r)=(l,wG (p' r)):=Pp _ R;rw[ag,aE];unfold p' wG;split
  .rfl
  .simp[cv])
 have cz:Hid (∀i,i<D t->(Y t i 0).toNat<128):=A λi ay=>bI.aeY _ (by rw[cd,cE ay];exact im ay);have dH:5<=D t:=by
  unfold cv at G;simp only[pv,pt] at G;exact G.1
 have bN:=h.1;have l7:=A G;have mI:=A (js t);unfold K3;clear G;have anD:=run_range_string (P:=prog) w 9 (str t) underlying9;go_in;have Go:=0;go_wp2;obtain⟨w1,fp⟩: ∃w1,w.iter (str t) 0=w1:=⟨_,rfl⟩;have wX:Hid (w1.heap[w.heap.size]?=some (.stringIter (str t) 0)):=A (by rw[<-fp];exact World.iter_heap w (str t) 0);have c1:Hid (aL w w w1):=A (by rw[<-fp];exact(aT _ _).alloc (bD _) _);have k5:w.heap.size<w1.heap.size:=(Array.getElem?_eq_some_iff.1 wX.o).1;rw[fp];obtain⟨k,U⟩: ∃k,w.heap.size=k:=⟨_,rfl⟩;rw[U] at wX c1 k5|-;go_loopg[2,4,5] (D t) (λr l d m wr=> ∃(cH hW nK:Nat) (d':List bz),cH+r=D t/\m= hW/\d= nK/\Hid (qx t cH hW nK d')/\Hid (db (k+1) wr l d')/\Hid (aL k w wr)/\Hid (wr.heap[k]?=some (.stringIter (str t) cH)))
 case atStart=>exact⟨0,5,0,[],by omega,rfl,rfl,A (.inl ⟨by decide,rfl,rfl,rfl⟩),A (n7 _ _ _ _),c1,wX⟩
 case round=>
  obtain⟨cH,hW,nK,d',ay,rfl,rfl,dA,cM,bh,bK⟩:=hrel;obtain⟨pE,lc,rfl⟩:=eR cM.o rfl;by_cases h0:cH<D t
  .have DM:cH<(str t).size:=(by rw[mI.o];exact h0);have hle:=dA.o.le;have z:=A (Ky t DM);obtain⟨iR,HA⟩: ∃iR,wr.iterAt k (str t) (cH+1)=iR:=⟨_,rfl⟩;have Fs: ∀ty,(Instr.next (k,0) true ty).run prog wr= .ok (.tuple #[.bool true,cH,.int .i32 ((str t)[cH]'DM).toNat]) iR:=λty=>by rw[<-HA];exact run_next_ascii_at wr k (str t) cH ty bK.o DM (by rw[z.o];exact cz.o cH h0)
   have xx:Hid (db (k+1) iR (pE,D d',lc) d'):=A (by rw[<-HA];exact aay bK.o cM.o);have ov:Hid (aL k w iR):=A (by rw[<-HA];exact Zp bh.o (bD _));have yO:Hid (iR.heap[k]?=some (.stringIter (str t) (cH+1))):=A (by rw[<-HA];exact iterAt_heap wr k (str t) cH _ bK.o);have Ah:k+1<=iR.heap.size:=(Array.getElem?_eq_some_iff.1 yO.o).1;have hK:IntKind.i64.wrap (cH+1)=cH+1:=dI _ J;have ajF:IntKind.i64.wrap (nK+1)=nK+1:=dI _ J;have Co:Hid (D d'<=1000000000000):=A J;have uO:(((str t)[cH].toNat:Int)==40)=decide (Y t cH 0=40):=(by rw[z.o];exact zO 40);have tn:(((str t)[cH].toNat:Int)==41)=decide (Y t cH 0=41):=(by rw[z.o];exact zO 41);have xy:(((str t)[cH].toNat:Int)==44)=decide (Y t cH 0=44):=(by rw[z.o];exact zO 44);generalize((str t)[cH].toNat:Int)=vo at*;by_cases wF:Y t cH 0=40
   .rw[ri wF] at uO;have lO:=A (dA.o.open l7.o h0 wF);clear dA;go_wp2;go_roundg (D t-(cH+1))
    case rel=>exact⟨cH+1,hW,nK+1,d',by omega,rfl,by go_num,lO,xx,ov,yO⟩
    case measure=>omega
   .rw[oJ wF] at uO;by_cases k4:nK=1
    .subst k4;obtain⟨am8,vS⟩:=dA.o.one;have oB:=vS.xV;have Gx:=OH t (m:=hW) (Nat.le_of_lt h0);by_cases pz:Y t cH 0=44
     .rw[ri pz] at xy;rw[oJ (by rw[pz];decide)] at tn;by_cases hm:hW<cH
      .have lO:Hid (qx t (cH+1) (cH+1) 1 (d'++[(t.drop hW).take (cH-hW)])):=A (.inr ⟨by omega,0,rfl,vS.H' h0 pz hm⟩);have oA:(hW:Int)<cH:=J;clear dA vS;go_wp2_with(at_builtin;refine vv ((t.drop hW).take (cH-hW)) Co.o Ah xx.o (λjE og a6 fT di=>?_);have jm:=A fT;have hk:=A (ov.o.trans (di.mono (Nat.le_succ k)));have YO:=A ((di.block k (Nat.lt_succ_self k)).trans yO.o);clear fT)
       go_wp2;go_roundg (D t-(cH+1))
       case rel=>exact⟨cH+1,cH+1,1,_,by omega,by go_num,rfl,lO,jm,hk,YO⟩
       case measure=>omega
      .have lO:Hid (qx t (cH+1) (cH+1) 1 d'):=A (.inr ⟨by omega,0,rfl,vS.SE h0 pz hm⟩);have oA: ¬(hW:Int)<cH:=J;clear dA vS;go_wp2;go_roundg (D t-(cH+1))
       case rel=>exact⟨cH+1,cH+1,1,d',by omega,by go_num,rfl,lO,xx,ov,yO⟩
       case measure=>omega
     .rw[oJ pz] at xy;by_cases oV:Y t cH 0=41
      .rw[ri oV] at tn;have yz:(cH:Int)+1<=((str t).size:Int):=(by rw[mI.o];omega);have⟨vQ,Iq⟩:(0:Int)<=cH+1/\((cH:Int)+1).toNat=cH+1:=J;have yd:cH+1<=(str t).size:=(by rw[mI.o];omega);have uD:Hid ((str t).extract (cH+1) (str t).size=str (t.drop (cH+1))):=A (CR t (cH+1));by_cases hm:hW<cH
       .have cP:=A (vS.end h0 oV hm);have oA:(hW:Int)<cH:=J;clear dA vS;go_wp2_with(at_builtin;refine vv ((t.drop hW).take (cH-hW)) Co.o Ah xx.o (λjE og a6 fT di=>?_);have jm:=A fT;have hk:=A (ov.o.trans (di.mono (Nat.le_succ k)));clear fT)
        rw[uD.o];refine b7 (Qb (t.drop (cH+1)) a6) ?_;rintro cp rfl;go_wp2;go_returns;exact⟨(jE,D d'+1,og),by rw[d_.o,cP.o];rfl,by rw[d_.o,cP.o,U];exact K2 (Nat.le_succ k) jm.o,by rw[U];exact hk.o⟩
       .have cP:=A (vS.SF h0 oV hm);have oA: ¬(hW:Int)<cH:=J;clear dA vS;go_wp2;rw[uD.o];refine b7 (Qb (t.drop (cH+1)) iR) ?_;rintro cp rfl;go_wp2;go_returns;exact⟨(pE,D d',lc),by rw[d_.o,cP.o];rfl,by rw[d_.o,cP.o,U];exact K2 (Nat.le_succ k) xx.o,by rw[U];exact ov.o⟩
      .rw[oJ oV] at tn;have lO:=A (dA.o.other l7.o h0 wF oV (λe=>absurd e pz));clear dA vS;go_wp2;go_roundg (D t-(cH+1))
       case rel=>exact⟨cH+1,hW,1,d',by omega,rfl,rfl,lO,xx,ov,yO⟩
       case measure=>omega
    .have Jg:((nK:Int)==1)=false:=(by simp;omega);have vX: ¬(nK:Int)=1:=J;by_cases oV:Y t cH 0=41
     .rw[ri oV] at tn;rw[oJ (by rw[oV];decide)] at xy;obtain⟨e,rfl,wj⟩:=dA.o.shut l7.o h0 oV k4;have lO:=A wj;have Ir:IntKind.i64.wrap (((e+2:Nat):Int)- 1)=((e+1:Nat):Int):=(by rw[dI _ J];omega);have Is:IntKind.i64.wrap ((e:Int)+2- 1)=((e+1:Nat):Int):=(by rw[dI _ J];omega);clear dA wj;go_wp2;go_roundg (D t-(cH+1))
      case rel=>exact⟨cH+1,hW,e+1,d',by omega,rfl,by go_num,lO,xx,ov,yO⟩
      case measure=>omega
     .rw[oJ oV] at tn;have lO:=A (dA.o.other l7.o h0 wF oV (λ_=>k4));clear dA;by_cases pz:Y t cH 0=44
      .rw[ri pz] at xy;go_wp2;go_roundg (D t-(cH+1))
       case rel=>exact⟨cH+1,hW,nK,d',by omega,rfl,rfl,lO,xx,ov,yO⟩
       case measure=>omega
      .rw[oJ pz] at xy;go_wp2;go_roundg (D t-(cH+1))
       case rel=>exact⟨cH+1,hW,nK,d',by omega,rfl,rfl,lO,xx,ov,yO⟩
       case measure=>omega
  .have Fs: ∀ty,(Instr.next (k,0) true ty).run prog wr= .ok (.tuple #[.bool false]) wr:=λty=>run_next_end_at wr k (str t) cH ty bK.o (by rw[mI.o];exact h0);have cP:Hid (wC wG t=(d',[])):=A (by
    obtain⟨h,_⟩|⟨_,e,_,h⟩:=dA.o
    .omega
    .exact h.o h0)
   go_wp2;go_returns;exact⟨(pE,D d',lc),by rw[d_.o,cP.o];rfl,by rw[d_.o,cP.o,U];exact K2 (Nat.le_succ k) cM.o,by rw[U];exact bh.o⟩
end Pk
end
end Go.Proofs.YtjfkhpkicioakaaGreatDoor
