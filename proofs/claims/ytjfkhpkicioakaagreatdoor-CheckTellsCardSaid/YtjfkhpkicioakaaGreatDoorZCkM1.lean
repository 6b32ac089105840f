/- PROVED HERE: what is told of a whole program by both; the law; the card. No condition. -/
import Derived.Test.YtjfkhpkicioakaaGreatDoorZLx1
import Derived.Test.YtjfkhpkicioakaaGreatDoorZCkP1
import Derived.Lib.Mul64
import Derived.Laws.Bits64b
import Derived.Laws.CopyOwn
import Derived.Laws.MakeOwn
import Derived.Laws.OwnMore
import Derived.Deep.RegionLaw
import Derived.Test.YtjfkhpkicioakaaGreatDoorZCkR1
import Derived.Test.YtjfkhpkicioakaaGreatDoorZP2
import Derived.Recover
import Derived.RegionTactic
import Derived.BigRegion
import Derived.Test.YtjfkhpkicioakaaGreatDoorZCkP2
import Derived.Test.YtjfkhpkicioakaaGreatDoorZCkP3
set_option maxHeartbeats 60000000
set_option maxRecDepth 100000
set_option linter.all false
open Array renaming replicate->vy
open ByteArray renaming empty->ke
open Go renaming Ending->e7,Value->af,World->ai,maxLen->dc,results->iX,undef->eb,wpList->fo,wp_region_noPanic->Br
open Go.Instr renaming lookup->vz
open Go.Proofs.Tryz renaming underlying28->rN,underlying44->rO,zeroValue3->rP
open Go.Region renaming ready->nE,wanted->nF
open Go.RowKit renaming Below->aL
open Go.Value renaming string->mm
open Go.World renaming alloc->aA,cell?->aG,setCell->a7
open List renaming getD->Y,length->D,replicate->ef
open Go.Proofs.YtjfkhpkicioakaaGreatDoor.B hiding a8 fail run
open Go.Proofs.Tryz
namespace Go.Proofs.YtjfkhpkicioakaaGreatDoor
open Go.RowKit
def x9 (b1 bG cf eY eC:Bool):Array Bool:= #[true,b1,true,true,bG,cf,true,true,eY,eC,false,false,false]
def G7 (b1 bG cf eY eC:Bool):List Nat:=(if b1 then[] else[1])++((if bG then[] else[4])++((if cf then[] else[5])++((if b1&&cf&&!eY then[8] else[])++((if eC then[] else[9])++(if b1&&bG&&eY&&eC then[10] else[])))))
def wM (b1 bG cf eY eC:Bool):Nat:=(!b1).toNat+(!bG).toNat+(!cf).toNat+(!eY).toNat+(!eC).toNat
section
variable{P:Program}{ops:Array Oper}{Q:Exit->Act->ai->Prop}{bp f0:Nat}
def ro(i:Nat){fa}{K:Act->ai->Prop}{a w}
 (h: ∀gI:Act->ai->Prop,RowKit.Hid (∀a w,K a w->gI a w)->if nF fa (yielded ops a.tmps)=true then Oper.wp P fa a w gI Q else gI (a.put fa.dst eb) w)
 (ay:ops[i]?=some fa:=by rfl):wpOp P ops Q i K a w:=by
 have R:=h K (A λa w h=>h);unfold wpOp;simp only[ay];split at R
 .rename_i hw;simp only[hw,if_true];exact .inl R
 .rename_i hw;simp only[hw];exact R
def af8{iI:Bool->Bool->Bool->Bool->Bool->Act->ai->Prop}
 (s1: ∀bG cf eC a w,iI false bG cf false eC a w->wpOp P ops Q 1 (iI true bG cf false eC) a w)
 (bA: ∀b1 cf eY eC a w,iI b1 false cf eY eC a w->wpOp P ops Q 4 (iI b1 true cf eY eC) a w)
 (cm: ∀b1 bG eC a w,iI b1 bG false false eC a w->wpOp P ops Q 5 (iI b1 bG true false eC) a w)
 (ik: ∀bG eC a w,iI true bG true false eC a w->wpOp P ops Q 8 (iI true bG true true eC) a w)
 (k': ∀b1 bG cf eY a w,iI b1 bG cf eY false a w->wpOp P ops Q 9 (iI b1 bG cf eY true) a w)
 (fin: ∀a w,iI true true true true true a w->kz P .any ops Q (λ_=>True) bp f0 (x9 true true true true true) a w)
 (H5: ∀b1 bG cf eY eC,nE .any ops (x9 b1 bG cf eY eC)=G7 b1 bG cf eY eC:=by intro b1 bG cf eY eC;cases b1<;>cases bG<;>cases cf<;>cases eY<;>cases eC<;>kernel_rfl):
  ∀(n:Nat) (b1 bG cf eY eC:Bool) (a:Act) (w:ai),wM b1 bG cf eY eC=n->(eY=true->b1=true/\cf=true)->iI b1 bG cf eY eC a w->kz P .any ops Q (λ_=>True) bp (f0+n) (x9 b1 bG cf eY eC) a w:=by
 intro n
 induction n with
 |zero=>
  intro b1 bG cf eY eC a w hc _ wj;cases b1<;>cases bG<;>cases cf<;>cases eY<;>cases eC<;>simp[wM] at hc
  exact fin a w wj
 |succ n cB=>
  intro b1 bG cf eY eC a w hc hU wj;refine⟨λh=>?_,λi ay=>?_⟩
  .rw[H5] at h;cases b1<;>cases bG<;>cases cf<;>cases eY<;>cases eC<;>simp[G7] at h<;>simp at hU
  .rw[H5] at ay;have hm:(i=1/\b1=false/\eY=false)\/(i=4/\bG=false)\/(i=5/\cf=false/\eY=false)\/(i=8/\b1=true/\cf=true/\eY=false)\/(i=9/\eC=false):=by
    cases b1<;>cases bG<;>cases cf<;>cases eY<;>cases eC<;>simp[G7] at ay<;>simp[wM] at hc<;>simp at hU<;>simp[ay]<;>omega
   have key: ∀bq c4 c5 AQ FQ,wM bq c4 c5 AQ FQ+1=wM b1 bG cf eY eC->(AQ=true->bq=true/\c5=true)->(x9 b1 bG cf eY eC).setIfInBounds i true=x9 bq c4 c5 AQ FQ->wpOp P ops Q i (iI bq c4 c5 AQ FQ) a w->wpOp P ops Q i (λni w'=>(i≠bp->True)/\kz P .any ops Q (λ_=>True) bp (f0+n) ((x9 b1 bG cf eY eC).setIfInBounds i true) ni w') a w:=λbq c4 c5 AQ FQ ag aE bU h=>wpOp_mono (λni w' vd=>⟨λ_=>trivial,bU▸cB bq c4 c5 AQ FQ ni w' J aE vd⟩) h;obtain⟨rfl,rfl,rfl⟩|⟨rfl,rfl⟩|⟨rfl,rfl,rfl⟩|⟨rfl,rfl,rfl,rfl⟩|⟨rfl,rfl⟩:=hm
   .exact key true bG cf false eC (by simp[wM];omega) bT rfl (s1 _ _ _ _ _ wj)
   .exact key b1 true cf eY eC (by simp[wM];omega) hU rfl (bA _ _ _ _ _ _ wj)
   .exact key b1 bG true false eC (by simp[wM];omega) bT rfl (cm _ _ _ _ _ wj)
   .exact key true bG true true eC (by simp[wM];omega) bT rfl (ik _ _ _ _ wj)
   .exact key b1 bG cf eY true (by simp[wM]) hU rfl (k' _ _ _ _ _ _ wj)
def zL (a:Act)(k6 v28 kL kk kl:af):Act:=((((a.put (some 25) k6).put (some 28) v28).put (some 29) kL).put (some 32) kk).put (some 33) kl
def aeV(f0:Nat){iI:Act->Bool->Bool->Bool->Bool->Bool->Act->ai->Prop}{a0 w}(ajG:iI a0 false false false false false a0 w)
 (s1: ∀bG cf eC a w,iI a0 false bG cf false eC a w->wpOp P ops Q 1 (iI a0 true bG cf false eC) a w)
 (bA: ∀b1 cf eY eC a w,iI a0 b1 false cf eY eC a w->wpOp P ops Q 4 (iI a0 b1 true cf eY eC) a w)
 (cm: ∀b1 bG eC a w,iI a0 b1 bG false false eC a w->wpOp P ops Q 5 (iI a0 b1 bG true false eC) a w)
 (ik: ∀bG eC a w,iI a0 true bG true false eC a w->wpOp P ops Q 8 (iI a0 true bG true true eC) a w)
 (k': ∀b1 bG cf eY a w,iI a0 b1 bG cf eY false a w->wpOp P ops Q 9 (iI a0 b1 bG cf eY true) a w)
 (fin: ∀a w,iI a0 true true true true true a w->kz P .any ops Q (λ_=>True) bp f0 (x9 true true true true true) a w)
 (H5: ∀b1 bG cf eY eC,nE .any ops (x9 b1 bG cf eY eC)=G7 b1 bG cf eY eC:=by intro b1 bG cf eY eC;cases b1<;>cases bG<;>cases cf<;>cases eY<;>cases eC<;>kernel_rfl):
  kz P .any ops Q (λ_=>True) bp (f0+5) (x9 false false false false false) a0 w:=
 af8 s1 bA cm ik k' fin H5 5 false false false false false a0 w rfl (λe=>(nomatch e)) ajG
end
namespace Pk
namespace Mul
def Ld(a:Nat)(aR:a<18446744073709551616):bits .and .u64 (a:Int) 4294967295=((a % 4294967296:Nat):Int):=by have h:=bits_and_u64_nat a 4294967295 aR J;have e:a&&&4294967295=a % 4294967296:=Nat.and_two_pow_sub_one_eq_mod a 32;rw[e] at h;exact h
def af9(a:Nat):(a:Int)/4294967296=((a/4294967296:Nat):Int):=J
def af'(a b:Nat):(a:Int)*(b:Int)=((a*b:Nat):Int):=(Int.natCast_mul a b).symm
def x'(a b:Nat):(a:Int)+(b:Int)=((a+b:Nat):Int):=(Int.natCast_add a b).symm
def zp(a:Nat)(aR:a<18446744073709551616):IntKind.u64.wrap (a:Int)=(a:Int):=by rw[IntKind.wrap_u64];omega
def aeW(a:Nat):IntKind.u64.wrap (a:Int)=((a % 18446744073709551616:Nat):Int):=by rw[IntKind.wrap_u64];omega
end Mul
def aaf(x y:Nat)(aF:x<18446744073709551616)(bx:y<18446744073709551616)(w:ai):
  aY 69 #[.int .u64 x,.int .u64 y] w λe w'=>e= .returned (.tuple #[.int .u64 ((x*y/18446744073709551616:Nat):Int),.int .u64 ((x*y % 18446744073709551616:Nat):Int)])/\w'=w:=by
 obtain⟨Jg,oN,ahF,ai7⟩:=Lib.mul64_hi x y aF bx;have amS:=Lib.half_mul_le (a:=x/4294967296) (b:=y/4294967296) J J;have oM:=Lib.half_mul_le (a:=x/4294967296) (b:=y % 4294967296) J J;have amT:=Lib.half_mul_le (a:=x % 4294967296) (b:=y/4294967296) J J;have⟨ahy,ahz,ahA,ahD,ahC⟩:x/4294967296*(y/4294967296)<18446744073709551616/\x/4294967296*(y % 4294967296)<18446744073709551616/\x % 4294967296*(y/4294967296)<18446744073709551616/\x/4294967296*(y/4294967296)+(x/4294967296*(y % 4294967296)+x % 4294967296*(y % 4294967296)/4294967296)/4294967296<18446744073709551616/\x/4294967296*(y/4294967296)+(x/4294967296*(y % 4294967296)+x % 4294967296*(y % 4294967296)/4294967296)/4294967296+((x/4294967296*(y % 4294967296)+x % 4294967296*(y % 4294967296)/4294967296) % 4294967296+x % 4294967296*(y/4294967296))/4294967296<18446744073709551616:=J;go_in;go_wp2;simp only[Mul.Ld x aF,Mul.Ld y bx,Mul.af9,Mul.af',Mul.x',Mul.zp _ Jg,Mul.zp _ ahz,Mul.zp _ oN,Mul.Ld _ oN,Mul.zp _ ahA,Mul.zp _ ahF,Mul.zp _ ahy,Mul.zp _ ahD,Mul.zp _ ahC,Mul.aeW (x*y)];rw[ai7];go_ret2
 exact⟨rfl,rfl⟩
def adv(x y:Nat)(aF:x<18446744073709551616)(bx:y<18446744073709551616)(w:ai):
  aY 33 #[.int .u64 x,.int .u64 y] w λe w'=>e= .returned (.tuple #[.int .u64 ((x*y/18446744073709551616:Nat):Int),.int .u64 ((x*y % 18446744073709551616:Nat):Int)])/\w'=w:=by
 go_in;go_wp2_with(go_at_call 69;refine b7 (aaf x y aF bx _) λw' hw=>?_;rw[hw])
 go_ret2
 exact⟨rfl,rfl⟩
def mC (x:Int)(n k:Nat):List af:=ef k (.int .i64 x)++ef (n-k) (.int .i64 0)
def Xi{x:Int}{n:Nat}{k}(h:k<=n):D (mC x n k)=n:=by simp[mC];omega
def aag(x:Int)(n:Nat):mC x n n=ef n (.int .i64 x):=by simp[mC]
def aah(x:Int)(n:Nat):mC x n 0=ef n (.int .i64 0):=by simp[mC]
def Xj{x:Int}{n k m:Nat}(alm:k+m<=n):splice (mC x n k) k (ef m x)=mC x n (k+m):=by
 unfold splice mC;have ag:(ef k (Value.int .i64 x)++ef (n-k) (Value.int .i64 0)).take k=ef k (Value.int .i64 x):=bT;have aE:(ef k (Value.int .i64 x)++ef (n-k) (Value.int .i64 0)).drop (k+D (ef m (Value.int .i64 x)))=ef (n-(k+m)) (Value.int .i64 0):=by
  rw[List.drop_append];simp;omega
 rw[ag,aE,<-oH,List.replicate_append_replicate]
def abq{x:Int}{n:Nat}{k j}(h:j<k):(mC x n k)[j]?=some [x]:=by unfold mC;rw[qz (by simpa using h),ku,aS h]
def mul_one(n:Nat)(hU:n<=1200)(w:ai):aY 33 #[.int .u64 1,.int .u64 n] w λe w'=>e= .returned (.tuple #[.int .u64 0,.int .u64 n])/\w'=w:=by refine b7 (adv 1 n J J w) ?_;rintro w' rfl;refine⟨?_,rfl⟩;have⟨ag,aE⟩:((1*n/18446744073709551616:Nat):Int)=0/\((1*n % 18446744073709551616:Nat):Int)=n:=J;rw[ag,aE]
def aai(n:Nat)(hU:n<=1200)(w:ai)(x:Int):(Instr.makeSlice 28 n n).run prog w= .ok (w,n,n) (aA w (.cells (mC x n 0).toArray 3)):=by
 obtain⟨i0,ay,e',e_,ff⟩:=kT r1;have h:=run_makeSlice (P:=prog) (w:=w) 28 3 i0 (0:Int) rN ay e' .i64 .i64 n n J J (by rw[e_];omega) (by rw[ff];omega) J;rw[h,e_];have e:madeCells (Value.int .i64 0).cells ((n:Int).toNat*1)=(mC x n 0).toArray:=by
  rw[aah,<-toList_madeCells_one,Array.toArray_toList];simp[Value.cells]
 rw[e];simp
def Wm{w:ai}{g n k m:Nat}{x:Int}{a:Addr}{sL:Nat}{sC cap}(aB:w.heap[g]?=some (.cells (mC x n k).toArray 3 (0,0)))(U:k+m<=n)(hm:m=Nat.min sL (n-k))(hs: ∀j,j<m->aG w (a.add j)=some [x]):
  ∃w',(Builtin.copy_ #[28,28] 3 #[.slice (some (g,k)) (n-k) cap,.slice (some a) sL sC]).run prog w= .ok m w'/\w'.heap[g]?=some (.cells (mC x n (k+m)).toArray 3 (0,0))/\ ∀V w0,aL V w0 w->V<=g->aL V w0 w':=by
 obtain⟨i0,ay,e',e_,ff⟩:=kT r1;have h:=run_copy_row (P:=prog) w 28 28 3 3 g k (n-k) cap a sL sC (mC x n k).toArray 3 (ef m x) rN (by rw[ay];simp[e_]) aB (by simpa using hm)
  (λj v bQ=>by
   have bg:j<m:=(by have:=(List.getElem?_eq_some_iff.1 bQ).1;simpa using this);rw[ku,aS bg] at bQ;cases bQ;exact hs j bg)
  (by simp[Xi (x:=x) (n:=n) (k:=k) J];omega)
  (λv bQ=>by rw[(List.mem_replicate.1 bQ).2];rfl)
 have e:((mC x n k).toArray.toList.take k++ef m (Value.int .i64 x)++(mC x n k).toArray.toList.drop (k+D (ef m (Value.int .i64 x))))=mC x n (k+m):=by
  rw[List.toList_toArray,oH];exact Xj U
 rw[e] at h;refine⟨w.setRow g (mC x n (k+m)).toArray,by rw[h,wg];rfl,setRow_heap w g _ _ 3 (0,0) aB,λV w0 G bY=>below_setRow G bY _⟩
def X3(w:ai)(b n:Nat)(x:Int)(h:aG w ⟨b,0,none⟩=some (.int .i64 x))(G:b<w.heap.size)(R:1<=n)(hU:n<=1200):
  aY 15 #[.slice (some ⟨b,0,none⟩) 1 1,.int .i64 n] w λe w'=> ∃g,e= .returned (.slice (some ⟨g,0,none⟩) n n)/\w.heap.size<=g/\w'.heap[g]?=some (.cells (ef n (.int .i64 x)).toArray 3 (0,0))/\aL w w w':=by
 have BV:=aai n hU w x;obtain⟨w1,fp⟩: ∃w1,w1=aA w (.cells (mC x n 0).toArray 3):=⟨_,rfl⟩;rw[<-fp] at BV;have Mo:=(show aL w w w1 by rw[fp];exact(aT _ _).alloc (bD _) _);have Ue:w1.heap[w.heap.size]?=some (.cells (mC x n 0).toArray 3 (0,0)):=(by rw[fp];exact ek _ _);clear fp;obtain⟨w2,aiT,Uf,Ek⟩:=Wm (cap:=n) (a:=⟨b,0,none⟩) (sL:=1) (sC:=1) (m:=1) Ue J (by show 1=min 1 (n- 0);omega) (λj bg=>by
  obtain rfl:j=0:=J;rw[<-h];exact Mo.cell (p:=⟨b,0,none⟩) G)
 rw[Nat.sub_zero] at aiT;have cN:=A (Ek _ _ Mo (bD _));have fN:=A Uf;clear Ek Uf Mo Ue h;go_in;go_wp2_with(first|(go_at_call 33;refine(mul_one n hU _).mono ?_;rintro e w' ⟨rfl,hw⟩;rw[hw]))
 go_loopw[8] (λi wr=> ∃k:Nat,1<=k/\k<=n/\i= k/\Hid (aL w w wr)/\Hid (wr.heap[w.heap.size]?=some (.cells (mC x n k).toArray 3 (0,0)))) (λi _=>n-(intOf i).toNat)
 case atStart=>exact⟨1,by omega,R,by go_num,cN,fN⟩
 case round=>
  obtain⟨k,k5,mX,rfl,Ua,Mp⟩:=hrel;by_cases bN:k<n
  .obtain⟨m,hm⟩: ∃m,m=Nat.min k (n-k):=⟨_,rfl⟩;have oA:1<=m:=(by rw[hm];show 1<=min k (n-k);omega);have o3:k+m<=n:=(by rw[hm];show k+min k (n-k)<=n;omega);have H6:m<=k:=(by rw[hm];show min k (n-k)<=k;omega);obtain⟨bc,al_,Ug,T_⟩:=Wm (w:=wr.drew) (g:=w.heap.size) (cap:=n-k) (a:=⟨w.heap.size,0,none⟩) (sL:=k) (sC:=n) (m:=m) (show wr.drew.heap[w.heap.size]?=some (.cells (mC x n k).toArray 3 (0,0)) from Mp.o) o3 hm (λj bg=>by
    rw[show(⟨w.heap.size,0,none⟩:Addr).add j=⟨w.heap.size,j,none⟩ by simp[Addr.add];omega,World.cell?_drew,az Mp.o];rw[cO];exact abq J)
   have fu:=A (T_ _ _ Ua.o.drew (bD _));have qS:=A Ug;clear T_ Ug hm;go_wp2;go_region
   all_goals
    go_wp2;go_roundw
    case rel=>exact⟨k+m,by omega,o3,by go_num,fu,qS⟩
    case measure=>simp[intOf];omega
  .obtain rfl:k=n:=J;go_wp2;go_returns;exact⟨_,rfl,bD _,by rw[Mp.o,aag],Ua.o⟩
end Pk
section
open Rk (hD)
def zk (f:FuncId):Prop:= ∀(V:Nat) (w:ai) (S:ByteArray),kF V w->V<=w.heap.size->S.size<=dc->aY f #[S] w (y_ S w)
def Qx(w:ai)(n:Nat)(ax:n<=10000): ∃bm,(Instr.makeSlice 22 n n).run prog w= .ok (w,n,n) bm/\db w.heap.size bm (w,n,n) (ef n [])/\aL w w bm:=by obtain⟨i0,ay,hz,hsz,aiM⟩:=kT JJ;obtain⟨bm,pC,fF,ai6⟩:=run_makeSlice_full (P:=prog) (w:=w) w.heap.size 22 9 i0 ke 1 underlying22 ay hz hsz .i64 .i64 n J (by rw[aiM];omega) (by unfold dc;omega) (bD _);refine⟨bm,pC,?_,(aT w w).grown ai6 (bD _) (by intro k U;cases U)⟩;unfold db;rw[wg,List.map_replicate];have h:=fF;rw[Nat.mul_one,show(mm ke).cells= #[mm ke] from rfl,toList_madeCells_one] at h;exact h
def ahm{ops rest o s0 cF}{er:Exit->Act->ai->Prop}{a N H w u l}(x){cs}(hl:D l<=1000000)(hH:w.heap.size=H)(hN:N<=w.heap.size)(bQ:hD N w u l)
 (h: ∀g cap a6,hD N a6 (.slice (some ⟨g,0,none⟩) (D l+1) cap) (l++[x])->(aA w (.cells cs 3)).grownBy a6 u.ownBlock->fo prog ops er rest (a.put o.dst (.slice (some ⟨g,0,none⟩) (D l+1) cap)) a6)
 (ma:cs= #[.int .i64 x]:=by rfl)(jO:o.guard=none:=by rfl)(bX:o.op= .call {callee:= .builtin .append,args:= #[s0,cF],argTypes:= #[28,28]}:=by rfl)(hs:a.eval s0=u:=by rfl)(aF:a.eval cF= .slice (some ⟨H,0,none⟩) 1 1:=by rfl):
  fo prog ops er (o::rest) a (aA w (.cells cs 3)):=by obtain⟨i0,fM,e',e_,ff⟩:=kT r1;subst ma hH;have pL:(aA w (aw #[x] 3)).ownsRow N 3 1 u (D l) (l.map (Value.int .i64)):=fZ bQ ((aT w w).alloc (bD _) _) λk U=>(eI bQ k U).2;refine tI _ jO s0 cF 28 bX N 3 i0 _ 1 8 rN fM e' e_ ff rfl J u (D l) (l.map (Value.int .i64)) hs pL ⟨w.heap.size,0,none⟩ 1 1 [x] aF rfl (j7 (cs:= #[x]) (t:=3) (fr:=(0,0)) (hf _ _)) (by intro y bx;simp at bx;subst bx;rfl) J (by unfold dc;omega) J (by simp;omega) (w.heap.size+1) bT ?_;intro g cap a6 fF dv _ _;refine h g cap a6 ?_ dv;unfold hD;rw[dW,rX];simpa using fF
end
namespace Pk
open Ck
open Rk (hD)
def Bn (S:ByteArray)(w:ai)(e:e7)(w':ai):Prop:=aL w w w'/\match lZ S with
 | .error (c,p)=>e= .returned (.tuple #[.pointer none,.agg #[.int .i64 c,.int .i64 p]])
 | .ok (ts,us)=> ∃p tp tv uv fv su s,e= .returned (.tuple #[.pointer (some ⟨p,0,none⟩),.agg #[.int .i64 0,.int .i64 0]])/\w'.heap[p]?=some (.cells (sQ tp tv uv fv su s) 49 (0,0))/\db w.heap.size w' tv ts/\hD w.heap.size w' uv us
def QP{S w w' c p}(h:lZ S= .error (c,p))(G:aL w.heap.size w w'):Bn S w (.returned (.tuple #[.pointer none,.agg #[c,p]])) w':=by refine⟨G,?_⟩;rw[h]
def JI{dP cy:Nat}{v0 f0 f1}{w:ai}(e9:w.heap[dP]?=some (.cells #[v0] 40 (0,0)))(e3:w.heap[cy]?=some (.cells #[f0,f1] 25 (0,0)))(u c a):
  (a7 (a7 (a7 w dP u) cy c) (cy,1) a).heap[dP]?=some (.cells #[u] 40 (0,0))/\
  (a7 (a7 (a7 w dP u) cy c) (cy,1) a).heap[cy]?=some (.cells #[c,a] 25 (0,0))/\
  (∀V,V<=dP->V<=cy->aL V w (a7 (a7 (a7 w dP u) cy c) (cy,1) a))/\
  ∀N e bp n x xs,40≠e->25≠e->w.ownsRow N e bp x n xs->(a7 (a7 (a7 w dP u) cy c) (cy,1) a).ownsRow N e bp x n xs:=by
 have aZ:dP≠cy:=by
  rintro rfl;rw[e9] at e3;cases e3
 have a1:=et e9 0 u;have a2:=fK (p:=cy) a1 aZ 0 c;have a3:=fK (p:=cy) a2 aZ 1 a;have b1:=fK (p:=dP) e3 aZ.symm 0 u;have b2:=et b1 0 c;have bC:=et b2 1 a;exact⟨a3,bC,λV R T=>(((aT V w).setCell (p:=⟨dP,0,none⟩) R _).setCell (p:=⟨cy,0,none⟩) T _).setCell (p:=⟨cy,1,none⟩) T _,λN e bp n x xs R T h=>eZ (eZ (eZ h e9 R.symm) b1 T.symm) b2 T.symm⟩
def X4{dP cy:Nat}{v0 f0 f1:af}{w:ai}(e9:w.heap[dP]?=some (.cells #[v0] 40 (0,0)))(e3:w.heap[cy]?=some (.cells #[f0,f1] 25 (0,0)))(c a):
  (a7 (a7 (a7 w dP (.pointer none)) cy c) (cy,1) a).heap[dP]?=some (.cells #[.pointer none] 40 (0,0))/\
  (a7 (a7 (a7 w dP (.pointer none)) cy c) (cy,1) a).heap[cy]?=some (.cells #[c,a] 25 (0,0)):=
 ⟨(JI e9 e3 _ c a).1,(JI e9 e3 _ c a).2.1⟩
def aeB (dP cy:Nat) (v0 f0 f1:af) (c a:Int) (w:ai) (e9:w.heap[dP]?=some (.cells #[v0] 40 (0,0))) (e3:w.heap[cy]?=some (.cells #[f0,f1] 25 (0,0))):
  CallsD prog 13 #[.pointer (some ⟨dP,0,none⟩),.pointer (some ⟨cy,0,none⟩)] (.panicking [{v:= .iface 57 (.agg #[.int .i64 c,.int .i64 a]),recovered:=false}]) w λe pX w'=>
   e= .returned (.tuple #[])/\pX= .panicking [{v:= .iface 57 (.agg #[.int .i64 c,.int .i64 a]),recovered:=true}]/\w'.heap[dP]?=some (.cells #[.pointer none] 40 (0,0))/\w'.heap[cy]?=some (.cells #[.int .i64 c,.int .i64 a] 25 (0,0))/\ ∀V,V<=dP->V<=cy->aL V w w':=by
 have bO:=az e9 0;have g0:=az e3 0;have g1:=az e3 1;have cl:=cX e9 0;have aH:=cX e3 0;have R:=cX e3 1;have hl:=bd e9;have iL:=bd e3;have aZ:dP≠cy:=by
  rintro rfl;rw[e9] at e3
  cases e3
 simp only[cO,cQ,c8] at bO g0 g1;have Eb:=A e9;have Ec:=A e3;clear e9 e3;refine callsD_of_wpS func13 rfl λzv cs hu=>?_
 apply wpS_seq
 apply wpS_region
 simp[wpOpsS,go_sem,recoverD,hu,ntmps13,Exit.thenS];refine wpS_of_wp ?_;clear hu;have tj: ∀w,(Instr.typeAssert (.iface 57 (.agg #[.int .i64 c,.int .i64 a])) 20 57 true).run prog w= .ok (.tuple #[.agg #[.int .i64 c,.int .i64 a],.bool true]) w:=λw=>by kernel_rfl
 have e:(#[Value.pointer (some ⟨dP,0,none⟩),Value.pointer (some ⟨cy,0,none⟩)]++(vy 11 eb).setIfInBounds 3 (Value.iface 57 (Value.agg #[Value.int IntKind.i64 c,Value.int IntKind.i64 a])):Array af)= #[.pointer (some ⟨dP,0,none⟩),.pointer (some ⟨cy,0,none⟩),eb,eb,eb,.iface 57 (.agg #[.int .i64 c,.int .i64 a]),eb,eb,eb,eb,eb,eb,eb]:=rfl;rw[e];clear e;go_wp2
 go_region
 all_goals
  go_wp2
  obtain⟨m1,m2⟩:=X4 Eb.o Ec.o (.int .i64 c) (.int .i64 a);refine⟨rfl,_,rfl,.tuple #[],by simp[iX,results13,go_sem],rfl,rfl,hO m1 _,hO m2 _,λV R T=>?_⟩;exact(((((aT V w).setCell (p:=⟨dP,0,none⟩) R _).setCell (p:=⟨cy,0,none⟩) T _).setCell (p:=⟨cy,1,none⟩) T _).alloc (by simp;omega) _).drew
def Xh (dP cy:Nat) (w:ai):
  CallsD prog 13 #[.pointer (some ⟨dP,0,none⟩),.pointer (some ⟨cy,0,none⟩)] .returning w λe pX w'=>e= .returned (.tuple #[])/\pX= .returning/\w'=w:=by
 refine callsD_of_wpS func13 rfl λzv cs hu=>?_
 apply wpS_seq
 apply wpS_region
 simp[wpOpsS,go_sem,recoverD,hu,ntmps13,Exit.thenS];refine wpS_of_wp ?_;have e:(#[Value.pointer (some ⟨dP,0,none⟩),Value.pointer (some ⟨cy,0,none⟩)]++(vy 11 eb).setIfInBounds 3 Value.nilIface:Array af)= #[.pointer (some ⟨dP,0,none⟩),.pointer (some ⟨cy,0,none⟩),eb,eb,eb,.nilIface,eb,eb,eb,eb,eb,eb,eb]:=rfl;rw[e];clear e;go_wp2
 refine⟨rfl,.returning,?_,.tuple #[],by simp[iX,results13,go_sem],rfl,rfl,rfl⟩
 cases zv
 simp_all
def Kd (n:Nat):List Deferred:=[{target:= .fn (.func 13) #[(n,0),(n+1,0)],args:= #[]}]
def Ww {w dN:ai} {S:ByteArray} {c a:Int} {v0 f0 f1:af} {fR:Array af} (c9:dN.heap[w.heap.size]?=some (.cells #[v0] 40 (0,0))) (cw:dN.heap[w.heap.size+1]?=some (.cells #[f0,f1] 25 (0,0))) (da:aL w.heap.size w dN) (hc:lZ S= .error (c,a)) (T:fR[2]?=some (.pointer (some ⟨w.heap.size,0,none⟩))) (ah:fR[3]?=some (.pointer (some ⟨w.heap.size+1,0,none⟩))):
  bodyPostD prog f8 (Bn S w) (Exit.panic [{v:= .iface 57 (.agg #[.int .i64 c,.int .i64 a]),recovered:=false}]) {tmps:=fR,defers:=Kd w.heap.size} dN:=by
 unfold Kd;refine leaves_cons (f:=13) (args:= #[(w.heap.size,0),(w.heap.size+1,0)]) (by simp) (by simp[go_sem]) ?_;refine(aeB _ _ _ _ _ c a _ c9 cw).mono ?_;rintro e pX bc ⟨rfl,rfl,m1,m2,m3⟩;have cl:=az m1 0;have cu:=az m2 0;have k2:=az m2 1;have gq:=bd m1;have iL:=bd m2;simp only[cO,cQ,c8] at cl cu k2;have dj:=A (QP hc (da.trans (m3 w.heap.size (by omega) (by omega))));simp[Leaves,settle,iX,results8,go_sem,cl,cu,k2,T,ah];exact dj.o
def abp{w dN S v f0 f1 fR dY}(he:dY= .ret)(e9:dN.heap[w.heap.size]?=some (.cells #[v] 40 (0,0)))(e3:dN.heap[w.heap.size+1]?=some (.cells #[f0,f1] 25 (0,0)))(aJ:Bn S w (.returned (.tuple #[v,.agg #[f0,f1]])) dN)
 (T:fR[2]?=some (.pointer (some ⟨w.heap.size,0,none⟩)))(ah:fR[3]?=some (.pointer (some ⟨w.heap.size+1,0,none⟩))):
  bodyPostD prog f8 (Bn S w) dY {tmps:=fR,defers:=Kd w.heap.size} dN:=by subst he;unfold Kd;refine leaves_cons (f:=13) (args:= #[(w.heap.size,0),(w.heap.size+1,0)]) bT (by simp[go_sem]) ?_;refine(Xh _ _ _).mono ?_;rintro e pX bc ⟨rfl,rfl,rfl⟩;have cl:=az e9 0;have cu:=az e3 0;have k2:=az e3 1;have gq:=bd e9;have iL:=bd e3;simp only[cO,cQ,c8] at cl cu k2;have dj:=A aJ;clear aJ;simp[Leaves,settle,iX,results8,go_sem,cl,cu,k2,T,ah];exact dj.o
end Pk
namespace Pk
open Ck
open Rk (hD)
def Pm{w w':ai}{N e s8 n:Nat}{v:af}{xs}(h:w.ownsRow N e s8 v n xs)(U: ∀g,N<=g->g<w.heap.size->w'.heap[g]?=w.heap[g]?):w'.ownsRow N e s8 v n xs:=by
 refine⟨h.1,?_⟩;obtain aH|⟨g,cap,cur,rfl,hN,G,au⟩:=h.2
 .exact .inl aH
 .exact .inr ⟨g,cap,cur,rfl,hN,(U g hN (bd G)).trans G,au⟩
def RY{w:ai}{N N' e s8 n:Nat}{v:af}{xs}(h:w.ownsRow N e s8 v n xs)(U: ∀g,v.ownBlock=some g->N'<=g):w.ownsRow N' e s8 v n xs:=by
 refine⟨h.1,?_⟩;obtain aH|⟨g,cap,cur,rfl,hN,G,au⟩:=h.2
 .exact .inl aH
 .exact .inr ⟨g,cap,cur,rfl,U g rfl,G,au⟩
def VW{w w' N v E}(h:iJ N w v E)(U: ∀g,N<=g->g<w.heap.size->w'.heap[g]?=w.heap[g]?):iJ N w' v E:=
 ⟨Pm h.row U,λx aF=>Pm (h.I x aF) U⟩
structure lC (dV ay:Nat)(w w':ai):Prop where
 os:w'.os=w.os
 tape:w'.tape=w.tape
 output:w'.output=w.output
 size:ay<=w'.heap.size
 gP: ∀g,dV<=g->g<ay->w'.heap[g]?=w.heap[g]?
def lC.trans{dV ay a b c}(h:lC dV ay a b)(k:lC dV ay b c):lC dV ay a c:=⟨k.os.trans h.os,k.tape.trans h.tape,k.output.trans h.output,k.size,λg R T=>(k.gP g R T).trans (h.gP g R T)⟩
def lC.below{dV ay:Nat}{a:ai}{b}(h:aL a a b)(hJ:ay<=a.heap.size):lC dV ay a b:=⟨h.os,h.tape,h.output,hg hJ h.size,λg _ T=>h.block g J⟩
def lC.grown{dV ay q a b}(h:a.grownBy b (some q))(hJ:ay<=a.heap.size)(a_:q<dV\/ay<=q):lC dV ay a b:=⟨h.os,h.tape,h.output,hg hJ h.size,λg R T=>h.block g J λe=>by have:=gZ e;omega⟩
def y5 (L:List aP)(nv:af)(tp dV ay:Nat)(w:ai):Prop:= ∃lT bq cK c3 dq cR n3 m3,∀w',lC dV ay w w'->fO lT nv bq cK c3 tp dq cR n3 (fk L 10 (D L)) (fk L 12 (D L)) m3 (λt=>fw (gv L t)) w'
def y5.go{L nv tp dV ay w w'}(h:y5 L nv tp dV ay w)(k:lC dV ay w w'):y5 L nv tp dV ay w':=by obtain⟨lT,bq,cK,c3,dq,cR,n3,m3,h⟩:=h;exact⟨lT,bq,cK,c3,dq,cR,n3,m3,λw2 k2=>h w2 (k.trans k2)⟩
def y5.of{L nv tp bq cK c3 dq cR n3}{m3:bz->Option af}{lT GA}(h:fO lT nv bq cK c3 tp dq cR n3 (fk L 10 (D L)) (fk L 12 (D L)) m3 (λt=>fw (gv L t)) GA):y5 L nv tp lT.heap.size GA.heap.size GA:=by refine⟨{GA with heap:= #[]},bq,cK,c3,dq,cR,n3,m3,λw' k=>?_⟩;obtain⟨c9,cw,da,dQ,ij,fg,na⟩:=h.q;have bI:GA.heap[tp]?=some (.cells #[nv,.map (some bq),.map (some cK),.map (some c3)] 81 (0,0)):=h.gB;obtain⟨g1,g2,g3,g4⟩:=h.aq;refine⟨⟨k.os,k.tape,k.output,gp _,λb G=>absurd G (Nat.not_lt_zero b)⟩,(k.gP tp dQ (bd bI)).trans bI,h.s1.move (k.gP bq c9 h.s1.lt),h.s2.move (k.gP cK cw h.s2.lt),⟨g1.move (k.gP c3 da g1.lt),g2,λs v bQ=>⟨(g3 s v bQ).1,qE (Pm (g3 s v bQ).2 k.gP) (gp _)⟩,g4⟩,gp _,gp _,gp _,gp _,ij,fg,na⟩
structure mq (L:List aP)(nv:af)(n:Nat)(w1:ai)(b1 bG cf eY eC:Bool)(k6 v28 kL kk kl:af)(w:ai):Prop where
 av:aL w1 w1 w
 t1:b1=true-> ∃tp dV ay,k6= .pointer (some ⟨tp,0,none⟩)/\y5 L nv tp dV ay w/\w1.heap.size<=dV/\ay<=w.heap.size/\ ∀g,(v28.ownBlock=some g\/kk.ownBlock=some g\/kl= .map (some g))->g<dV\/ay<=g
 t4:bG=true-> ∃g,v28= .slice (some ⟨g,0,none⟩) n n/\w1.heap.size<=g/\g<w.heap.size/\db 0 w v28 (ef n [])
 t5:cf=true-> ∃g,kL= .slice (some ⟨g,0,none⟩) 1 1/\g<w.heap.size/\aG w ⟨g,0,none⟩=some (.int .i64 (-1))
 t8:eY=true-> ∃g,kk= .slice (some ⟨g,0,none⟩) n n/\w1.heap.size<=g/\w.heap[g]?=some (.cells (ef n (.int .i64 (-1))).toArray 3 (0,0))
 t9:eC=true-> ∃b,kl= .map (some b)/\w1.heap.size<=b/\gb w b 0 (λ_=>none)
 u4:bG=false->v28=eb
 u8:eY=false->kk=eb
 Dd:eC=false->kl=eb
section
variable{L:List aP}{nv:af}{n:Nat}{w1:ai}{b1 bG cf eY eC:Bool}{k6 v28 kL kk kl:af}{w w':ai}
def mq.start(h:aL w1 w1 w):mq L nv n w1 false false false false false eb eb eb eb eb w:=
 ⟨h,λe=>(nomatch e),λe=>(nomatch e),λe=>(nomatch e),λe=>(nomatch e),λe=>(nomatch e),λ_=>rfl,λ_=>rfl,λ_=>rfl⟩
def mq.below(h:mq L nv n w1 b1 bG cf eY eC k6 v28 kL kk kl w)(G:aL w w w'):mq L nv n w1 b1 bG cf eY eC k6 v28 kL kk kl w':=by
 refine⟨h.av.trans (G.mono h.av.size),λe=>?_,λe=>?_,λe=>?_,λe=>?_,λe=>?_,h.u4,h.u8,h.Dd⟩
 .obtain⟨tp,dV,ay,ag,aE,bU,cL,gi⟩:=h.t1 e;exact⟨tp,dV,ay,ag,aE.go (lC.below G cL),bU,hg cL G.size,gi⟩
 .obtain⟨g,ag,aE,bU,cL⟩:=h.t4 e;exact⟨g,ag,aE,kv bU G.size,fZ cL G λk U=>(eI cL k U).2⟩
 .obtain⟨g,ag,aE,bU⟩:=h.t5 e;exact⟨g,ag,kv aE G.size,(G.cell (p:=⟨g,0,none⟩) aE).trans bU⟩
 .obtain⟨g,ag,aE,bU⟩:=h.t8 e;exact⟨g,ag,aE,ds bU G (bd bU)⟩
 .obtain⟨b,ag,aE,bU⟩:=h.t9 e;exact⟨b,ag,aE,bU.below G⟩
def mq.s1(h:mq L nv n w1 false bG cf false eC k6 v28 kL kk kl w){tp bq cK c3 dq cR n3}{m3:bz->Option af}(h9:fO w nv bq cK c3 tp dq cR n3 (fk L 10 (D L)) (fk L 12 (D L)) m3 (λt=>fw (gv L t)) w'):mq L nv n w1 true bG cf false eC (tp,0) v28 kL kk kl w':=by
 have T:=h.below h9.av;refine⟨T.av,λ_=>⟨tp,w.heap.size,w'.heap.size,rfl,y5.of h9,h.av.size,bD _,λg aB=> .inl ?_⟩,T.t4,T.t5,T.t8,T.t9,T.u4,T.u8,T.Dd⟩;obtain aB|aB|aB:=aB
 .cases G:bG with
  |false=>rw[h.u4 G] at aB;cases aB
  |true=>
   obtain⟨h5,ag,_,bU,_⟩:=h.t4 G;rw[ag] at aB;rw[<-show h5=g from gZ aB];exact bU
 .rw[h.u8 rfl] at aB;cases aB
 .cases G:eC with
  |false=>rw[h.Dd G] at aB;cases aB
  |true=>
   obtain⟨h5,ag,_,bU⟩:=h.t9 G;rw[ag] at aB;cases aB;exact bU.lt
def mq.bA(h:mq L nv n w1 b1 false cf eY eC k6 v28 kL kk kl w)(G:aL w w w')(hT:db w.heap.size w' (w,n,n) (ef n []))(ax:0<n):mq L nv n w1 b1 true cf eY eC k6 (w,n,n) kL kk kl w':=by have T:=h.below G;refine⟨T.av,λe=>?_,λ_=>⟨_,rfl,h.av.size,(eI hT _ rfl).2,qE hT (gp _)⟩,T.t5,T.t8,T.t9,λe=>(nomatch e),T.u8,T.Dd⟩;obtain⟨tp,dV,ay,ag,aE,bU,cL,gi⟩:=h.t1 e;exact⟨tp,dV,ay,ag,aE.go (lC.below G cL),bU,hg cL G.size,λg aB=>aB.elim (λaB=> .inr (by rw[<-show w.heap.size=g from gZ aB];exact cL)) λaB=>gi g (.inr aB)⟩
def mq.cm(h:mq L nv n w1 b1 bG false eY eC k6 v28 kL kk kl w):mq L nv n w1 b1 bG true eY eC k6 v28 (.slice (some w.heap.size) 1 1) kk kl (aA w (aw #[[(-1:Int)]] 3)):=by have T:=h.below ((aT w w).alloc (bD _) (aw #[[(-1:Int)]] 3));exact⟨T.av,T.t1,T.t4,λ_=>⟨_,rfl,by simp,az (ek w (aw #[[(-1:Int)]] 3)) 0⟩,T.t8,T.t9,T.u4,T.u8,T.Dd⟩
def mq.ik(h:mq L nv n w1 b1 bG cf false eC k6 v28 kL kk kl w)(G:aL w w w'){g}(aB:w.heap.size<=g)(hc:w'.heap[g]?=some (.cells (ef n (.int .i64 (-1))).toArray 3 (0,0))):mq L nv n w1 b1 bG cf true eC k6 v28 kL (.slice (some ⟨g,0,none⟩) n n) kl w':=by have T:=h.below G;refine⟨T.av,λe=>?_,T.t4,T.t5,λ_=>⟨g,rfl,hg h.av.size aB,hc⟩,T.t9,T.u4,λe=>(nomatch e),T.Dd⟩;obtain⟨tp,dV,ay,ag,aE,bU,cL,gi⟩:=h.t1 e;exact⟨tp,dV,ay,ag,aE.go (lC.below G cL),bU,hg cL G.size,λh5 k3=>k3.elim (λk3=>gi h5 (.inl k3)) λk3=>k3.elim (λk3=> .inr (by rw[<-show g=h5 from gZ k3];omega)) λk3=>gi h5 (.inr (.inr k3))⟩
def mq.k'(h:mq L nv n w1 b1 bG cf eY false k6 v28 kL kk kl w):mq L nv n w1 b1 bG cf eY true k6 v28 kL kk (.map (some w.heap.size)) (aA w (.map #[] 0)):=by have G:aL w w (aA w (.map #[] 0)):=(aT w w).alloc (bD _) (.map #[] 0);have T:=h.below G;refine⟨T.av,λe=>?_,T.t4,T.t5,T.t8,λ_=>⟨_,rfl,h.av.size,gb.made w⟩,T.u4,T.u8,λe=>(nomatch e)⟩;obtain⟨tp,dV,ay,ag,aE,bU,cL,gi⟩:=h.t1 e;refine⟨tp,dV,ay,ag,aE.go (lC.below G cL),bU,hg cL G.size,λg aB=>aB.elim (λaB=>gi g (.inl aB)) λaB=>aB.elim (λaB=>gi g (.inr (.inl aB))) λaB=> .inr ?_⟩;cases aB;exact cL
end
structure mn (L:List aP)(E:List (aP×af))(nv:af)(w:ai)(p tp e8 dV ay fX:Nat)(tv uv:af)(k:Nat)(wr:ai):Prop where
 av:aL w w wr
 dP:wr.heap[w.heap.size]?=some (.cells #[(p,0)] 40 (0,0))
 cy:wr.heap[w.heap.size+1]?=some (.cells #[(0:Int),(0:Int)] 25 (0,0))
 aj: ∀w',lC (w.heap.size+2) fX wr w'->iJ (w.heap.size+2) w' nv E
 gB:y5 L nv tp dV ay wr
 zo:wr.heap[p]?=some (.cells (sQ tp tv uv (.map (some e8)) (.slice none 0 0) (Ck.start L)) 49 (0,0))
 ty:db 0 wr tv (Ck.start L).types
 us:hD 0 wr uv (Ck.start L).eJ
 mp:gb wr e8 k (fk L 13 k)
 xL:fX<=dV/\ay<=wr.heap.size/\w.heap.size+2<=fX
 o2: ∀g,(g=p\/tv.ownBlock=some g\/uv.ownBlock=some g\/g=e8)->fX<=g/\(g<dV\/ay<=g)
section
variable{L:List aP}{E:List (aP×af)}{nv:af}{w:ai}{p tp e8 dV ay fX:Nat}{tv uv:af}{k:Nat}{wr w':ai}
def mn.le(h:mn L E nv w p tp e8 dV ay fX tv uv k wr):fX<=wr.heap.size:=by have:=(h.o2 p (.inl rfl)).1;have:=bd h.zo;omega
def mn.below(h:mn L E nv w p tp e8 dV ay fX tv uv k wr)(G:aL wr wr w'):mn L E nv w p tp e8 dV ay fX tv uv k w':=
 ⟨h.av.trans (G.mono h.av.size),ds h.dP G (bd h.dP),ds h.cy G (bd h.cy),λw2 k2=>h.aj w2 ((lC.below G h.le).trans k2),h.gB.go (lC.below G h.xL.2.1),ds h.zo G (bd h.zo),fZ h.ty G λk U=>(eI h.ty k U).2,fZ h.us G λk U=>(eI h.us k U).2,h.mp.below G,⟨h.xL.1,hg h.xL.2.1 G.size,h.xL.2.2⟩,h.o2⟩
def mn.ne(h:mn L E nv w p tp e8 dV ay fX tv uv k wr):e8≠p/\tv.ownBlock≠some e8/\uv.ownBlock≠some e8:=by
 obtain⟨es,c,bX⟩:=h.mp.obj;have key: ∀{N e n:Nat} {v:af} {xs:List af},wr.ownsRow N e 1 v n xs->v.ownBlock≠some e8:=λ{N e n v xs} au ag=>by
  obtain⟨hu,_⟩|⟨g,cap,cur,hu,_,aB,_⟩:=au.2
  .rw[hu] at ag;cases ag
  .rw[hu] at ag;rw[show g=e8 from gZ ag,bX] at aB;cases aB
 exact⟨λe=>(by have:=h.zo;rw[<-e,bX] at this;cases this),key h.ty,key h.us⟩
def mn.put(h:mn L E nv w p tp e8 dV ay fX tv uv k wr)(aB:wr.grownBy w' (some e8))(hm:gb w' e8 (k+1) (fk L 13 (k+1))):mn L E nv w p tp e8 dV ay fX tv uv (k+1) w':=by
 obtain⟨dq,cR,n3⟩:=h.ne;obtain⟨m1,m2⟩:=h.o2 e8 (.inr (.inr (.inr rfl)));obtain⟨a1,a2,a3⟩:=h.xL;have U: ∀{b:Nat} {o:Obj},b≠e8->wr.heap[b]?=some o->w'.heap[b]?=some o:=λ{b o} aZ bX=>(aB.block b (Array.getElem?_eq_some_iff.1 bX).1 λe=>aZ (gZ e)).trans bX;refine⟨h.av.grown aB h.av.size (λq a_=>by cases a_;omega),U J h.dP,U J h.cy,λw2 k2=>h.aj w2 ((lC.grown aB h.le (.inr m1)).trans k2),h.gB.go (lC.grown aB a2 m2),U (Ne.symm dq) h.zo,?_,?_,hm,⟨a1,hg a2 aB.size,a3⟩,h.o2⟩
 .exact db.move h.ty λg e=>aB.block g (eI h.ty g e).2 λaE=>cR (by rw[e,gZ aE])
 .refine⟨h.us.1,?_⟩;obtain aH|⟨g,cap,cur,rfl,hN,G,au⟩:=h.us.2
  .exact .inl aH
  .exact .inr ⟨g,cap,cur,rfl,hN,U (λe=>n3 (by rw[<-e];rfl)) G,au⟩
def mn.same(h:mn L E nv w p tp e8 dV ay fX tv uv k wr)(e:fk L 13 (k+1)=fk L 13 k):mn L E nv w p tp e8 dV ay fX tv uv (k+1) wr:=
 ⟨h.av,h.dP,h.cy,h.aj,h.gB,h.zo,h.ty,h.us,by rw[e];exact h.mp.mono,h.xL,h.o2⟩
def zq (p:Nat)(tv uv:af)(wr:ai):jf:=⟨wr,λb=>b=p\/tv.ownBlock=some b\/uv.ownBlock=some b⟩
def eO.refl(w0:jf):eO w0 w0.w:=⟨rfl,rfl,rfl,bD _,λ_ _ _=>rfl⟩
def mn.F2(h:mn L E nv w p tp e8 dV ay fX tv uv k wr)(G:eO (zq p tv uv wr) w'){a b}(hs:b<=wr.heap.size)(aR: ∀g,a<=g->g<b-> ¬(fX<=g/\(g<dV\/ay<=g))):lC a b wr w':=
 ⟨G.os,G.tape,G.output,hg hs G.size,λg R T=>G.block g (kv T hs) λaI=>aR g R T (h.o2 g (aI.elim .inl λaI=>aI.elim (λaI=> .inr (.inl aI)) λaI=> .inr (.inr (.inl aI))))⟩
def mn.aj8(h:mn L E nv w p tp e8 dV ay fX tv uv (D L) wr)(bF:a8 L)(h8:L=E.map (·.1)):gY L E (w.heap.size+2) (zq p tv uv wr) tp (.map (some e8)) nv:=by obtain⟨dq,cR,n3⟩:=h.ne;refine⟨bF.jn,h8,bF.fA,by have:=bF.len;rw[h8,h2] at this;exact this,λw' G=>h.aj w' (h.F2 G h.le λg R T ⟨ah,_⟩=>by omega),?_,e8,D L,rfl,λw' G=>h.mp.move (G.block e8 h.mp.lt λaI=>aI.elim dq λaI=>aI.elim cR n3)⟩;obtain⟨lT,bq,cK,c3,c9,cw,da,m3,bI⟩:=h.gB;exact⟨lT,bq,cK,c3,c9,cw,da,m3,λw' G=>bI w' (h.F2 G h.xL.2.1 λg R T ⟨_,bJ⟩=>by omega)⟩
def mn.o(h:mn L E nv w p tp e8 dV ay fX tv uv k wr)(G:eO (zq p tv uv wr) w'):w'.heap[w.heap.size]?=some (.cells #[(p,0)] 40 (0,0))/\w'.heap[w.heap.size+1]?=some (.cells #[(0:Int),(0:Int)] 25 (0,0))/\aL w w w':=by
 have U:lC 0 fX wr w':=h.F2 G h.le λg R T ⟨ah,_⟩=>by omega
 have aR:=h.xL.2.2;exact⟨(U.gP _ (gp _) J).trans h.dP,(U.gP _ (gp _) J).trans h.cy,U.os.trans h.av.os,U.tape.trans h.av.tape,U.output.trans h.av.output,hg h.av.size G.size,λg aB=>(U.gP g (gp _) J).trans (h.av.block g aB)⟩
def mn.ahO(h:mn L E nv w p tp e8 dV ay fX tv uv k wr):dz L (zq p tv uv wr) p tp tv uv (.map (some e8)) wr (.slice none 0 0) [] (Ck.start L):=
 {av:=eO.refl _
  blk:=h.zo
  ty:=h.ty
  us:=h.us
  sc:=n7 _ _ _ _
  mp:=⟨rfl,List.nodup_nil,λi b m R _=>(by cases R),λm hm=>(by cases hm)⟩
  rw:=⟨by simp[Ck.start],by simp[Ck.start],λt bI=>by rw[(List.mem_replicate.1 bI).2];exact eB.nil,λd bB=>by rw[(List.mem_replicate.1 bB).2];omega⟩
  aJ:= .inl (.inl rfl)
  o2:=λb G=> .inl (.inr (.inl G))
  xX:=λb G=> .inl (.inr (.inr G))}
def mq.ah6{w2 bm lI l9 kL n}(h:mq L nv n w2 true true true true true (.pointer (some ⟨tp,0,none⟩)) (.slice (some ⟨lI,0,none⟩) n n) kL (.slice (some ⟨l9,0,none⟩) n n) (.map (some e8)) bm)(ax:n=D L)(hm:n<=10000)
 (aH:aL w w w2)(hc:w2.heap[w.heap.size]?=some (.cells #[.pointer none] 40 (0,0)))(aI:w2.heap[w.heap.size+1]?=some (.cells #[.int .i64 0,.int .i64 0] 25 (0,0)))(hN:iJ (w.heap.size+2) w2 nv E):
  ∃dV ay fX,mn L E nv w bm.heap.size tp e8 dV ay fX (.slice (some ⟨lI,0,none⟩) n n) (.slice (some ⟨l9,0,none⟩) n n) 0 (a7 (aA bm (.cells (sQ tp (.slice (some ⟨lI,0,none⟩) n n) (.slice (some ⟨l9,0,none⟩) n n) (.map (some e8)) (.slice none 0 0) (Ck.start L)) 49)) ⟨w.heap.size,0,none⟩ (.pointer (some ⟨bm.heap.size,0,none⟩))):=by
 have hz:w.heap.size+2<=w2.heap.size:=by have:=bd aI;omega
 obtain⟨akz,dV,ay,ag,aE,bU,cL,gi⟩:=h.t1 rfl;obtain rfl:tp=akz:=by cases ag;rfl
 obtain⟨g,c9,cw,da,dQ⟩:=h.t4 rfl;obtain rfl:lI=g:=by cases c9;rfl
 obtain⟨h5,kQ,r2,n1⟩:=h.t8 rfl;obtain rfl:l9=h5:=by cases kQ;rfl
 obtain⟨oL,t1,t2,t3⟩:=h.t9 rfl;obtain rfl:e8=oL:=by cases t1;rfl
 have aR:aL bm bm (aA bm (.cells (sQ tp (lI,n,n) (l9,n,n) (.map (some e8)) (.slice none 0 0) (Ck.start L)) 49)):=(aT _ _).alloc (bD _) _;have Mm:=ek bm (.cells (sQ tp (lI,n,n) (l9,n,n) (.map (some e8)) (.slice none 0 0) (Ck.start L)) 49);generalize(aA bm (.cells (sQ tp (lI,n,n) (l9,n,n) (.map (some e8)) (.slice none 0 0) (Ck.start L)) 49))=b4 at*;have lo:=h.av.size;have Mn:=aR.size;have aiP:=ds (ds hc h.av (bd hc)) aR (by have:=bd hc;omega);have ai0:=ds (ds aI h.av (bd aI)) aR (by have:=bd aI;omega);have aZ: ∀{b:Nat} {o:Obj},b≠w.heap.size->b4.heap[b]?=some o->(a7 b4 w.heap.size (bm.heap.size,0)).heap[b]?=some o:=λ{b o} G bX=>fK bX G 0 _;have UF: ∀a b,w.heap.size<a->b<=b4.heap.size->lC a b b4 (a7 b4 w.heap.size (bm.heap.size,0)):=λa b R T=>⟨rfl,rfl,rfl,by simp;exact T,λg ah bJ=>by
  obtain⟨o,bX⟩: ∃o,b4.heap[g]?=some o:=⟨_,u3 (kv bJ T)⟩;rw[bX];exact aZ J bX⟩
 refine⟨dV,ay,w2.heap.size,⟨((aH.trans (h.av.mono aH.size)).trans (aR.mono (by have:=aH.size;omega))).setCell (p:=⟨w.heap.size,0,none⟩) (bD _) _,et aiP 0 _,aZ J ai0,λw' Oi=>VW hN λg R T=>?_,(aE.go (lC.below aR cL)).go (UF _ _ J J),aZ J Mm,?_,?_,?_,⟨bU,by simp;omega,hz⟩,λg aB=>?_⟩⟩
 .have k2:=(((lC.below h.av (bD _)).trans ((lC.below aR J).trans (UF _ _ J J))).trans Oi);exact k2.gP g R T
 .have fW:db 0 b4 (lI,n,n) (ef n []):=fZ dQ aR λk U=>(eI dQ k U).2;rw[show(Ck.start L).types=ef n [] by rw[ax];rfl];exact db.move fW λg aB=>by
   have hl:=(eI fW g aB).2;obtain⟨o,bX⟩: ∃o,b4.heap[g]?=some o:=⟨_,u3 hl⟩;rw[bX];exact aZ (by have:lI=g:=gZ aB;omega) bX
 .have fW:=aZ J (ds n1 aR (bd n1));rw[show(Ck.start L).eJ=ef n (-1) by rw[ax];rfl];refine⟨by simp,.inr ⟨l9,n,_,by simp,gp _,fW,by simp,by unfold dc;omega,by simp,by simp⟩⟩
 .obtain⟨es,c,bX⟩:=(t3.below aR).obj;exact(t3.below aR).move ((aZ J bX).trans bX.symm)
 .obtain rfl|aB|aB|rfl:=aB
  .exact⟨lo,.inr cL⟩
  .obtain rfl:lI=g:=gZ aB;exact⟨cw,gi _ (.inl rfl)⟩
  .obtain rfl:l9=g:=gZ aB;exact⟨r2,gi _ (.inr (.inl rfl))⟩
  .exact⟨t2,gi _ (.inr (.inr rfl))⟩
end
def aeA{L E cG w0 tp g cA k fv x bb aQ w}(V:gY L E cG w0 tp fv (.slice (some ⟨g,0,none⟩) (D E) cA))(G:eO w0 w)(U:k<D E)(cg:uX L w0 k g x bb aQ):D x.I<=aQ:=by
 obtain⟨fc,u,Ea,z7,_,_⟩:=V.fe.at U;obtain rfl:x=fc:=cg.Z.symm.trans z7;have hc:=(n_ (V.aj w G) rfl Ea).2.2.2.2;have l':jC cG w u x.I:=(V.aj w G).I _ (hX Ea);rw[(cg.cells w G).2.2.2.2] at hc;obtain rfl:=gZ hc;obtain⟨_,aH⟩|⟨_,_,_,hu,_,_,ah,_⟩:=l'.2
 .omega
 .cases hu;exact ah
end Pk
namespace Pk
open Ck
open Rk (hD)
def On{fR Sy}{il:e7->ai->Prop}(h:iX f8 Sy=iX f8 fR): ∀{nm u w},Leaves prog f8 fR il nm u w->Leaves prog f8 Sy il nm u w
 |[],u,w,hl=>by
  cases u with
  |run=>exact hl
  |returning=>unfold Leaves at hl|-;rw[h];exact hl
  |panicking chain=>exact hl
 |d::nm,u,w,hl=>by
  obtain⟨R,fv,cap,f,args,T,ah,bJ⟩:=hl;refine⟨R,fv,cap,f,args,T,ah,bJ.mono ?_⟩;intro e pX w' he;cases e with
  |returned v=>exact On h he
  |panicked chain=>exact On h he
  |outgrown=>exact he
theorem blind {il:e7->ai->Prop} {c:List PanicEntry} {a:Act} {w:ai} {v:af} (d:Nat) (bB:3<d) (h:bodyPostD prog f8 il (.panic c) (a.put (some d) v) w):bodyPostD prog f8 il (.panic c) a w:=by
 refine On ?_ h;have e: ∀i,i<=3->(a.put (some d) v).tmps.getD i eb=a.tmps.getD i eb:=by
  intro i ay;unfold Act.put;simp only[Array.getD_eq_getD_getElem?,Array.getElem?_setIfInBounds];rw[ao (by omega)]
 unfold iX;rw[results8];simp only[Array.mapM_eq_mapM_toList,List.mapM_cons,List.mapM_nil,e 2 (by omega),e 3 (by omega)]
def Q4(vU:Hid (zk 12))(V:Nat)(w:ai)(S:ByteArray)(hT:kF V w)(bY:V<=w.heap.size)(hm:S.size<=dc)(wV: ∃m,aG w ⟨4,0,none⟩=some (.int .i64 m)):aY 8 #[.string S] w (Bn S w):=by
 have HY: ∀(fn:Fn) (first cap:Array af) (w:ai),(Instr.makeFunc fn first cap).run prog w= .ok (.func fn first cap) w:=λ_ _ _ _=>rfl;have bW:=A hT;have BS:=A wV;clear hT wV;go_enter_defers func8,ntmps8
 go_wp2_with fail;obtain⟨w0,qh⟩: ∃w0:ai,w0=(aA (aA w (aw #[.pointer none] 40)) (aw #[.int .i64 0,.int .i64 0] 25)):=⟨_,rfl⟩;have e':w0.heap.size=w.heap.size+2:=by rw[qh];simp
 have HZ:Hid (w0.heap[w.heap.size]?=some (.cells #[.pointer none] 40 (0,0))):=A (by rw[qh];exact hO (ek _ _) _);have uo:Hid (w0.heap[w.heap.size+1]?=some (.cells #[.int .i64 0,.int .i64 0] 25 (0,0))):=A (by rw[qh];exact F0 (by simp));have lP:Hid (aL w w w0):=A (by rw[qh];exact(((aT _ _).alloc (bD _) _).alloc (by simp) _));rw[<-qh];clear qh;refine(vU.o V w0 S (bW.o.below lP.o bY) (by omega) hm).mono ?_;clear bY;rintro e w1 ⟨ck,h7⟩;have qj:=A (ds HZ.o ck (by omega));have cJ:=A (ds uo.o ck (by omega));have c1:=A (lP.o.trans (ck.mono (by omega)));have e_:=ck.size;have f0:=az cJ.o 0;have f1:=az cJ.o 1;have oY:=cX cJ.o 0;have oZ:=cX cJ.o 1;have cl:=az qj.o 0;have zJ:=cX qj.o 0;have l8:=bd qj.o;have jQ:=bd cJ.o;simp only[cO,cQ,c8] at f0 f1 cl;clear ck;have aZ:w.heap.size≠w.heap.size+1:=by omega
 cases pf:j8 S with
 |error x=>
  obtain⟨c,q⟩:=x;rw[pf] at h7;dsimp only at h7;subst h7;have hc:=OJ pf;have cP:Hid (lZ S= .error (c,(q:Int))):=A (by unfold lZ;rw[pf]);clear pf;have e9:(c !=0)=true:=by simpa using hc
  have en:=A (show(a7 (a7 w1 ⟨w.heap.size+1,0,none⟩ (.int .i64 c)) ⟨w.heap.size+1,1,none⟩ (.int .i64 (q:Int))).heap[w.heap.size+1]?=some (.cells #[.int .i64 c,.int .i64 (q:Int)] 25 (0,0)) from et (et cJ.o 0 (.int .i64 c)) 1 (.int .i64 (q:Int)));have ny:=A (fK (fK qj.o aZ 0 (.int .i64 c)) aZ 1 (.int .i64 (q:Int)));have cN:=A ((c1.o.setCell (p:=⟨w.heap.size+1,0,none⟩) (by simp) (.int .i64 c)).setCell (p:=⟨w.heap.size+1,1,none⟩) (by simp) (.int .i64 (q:Int)));clear aZ;go_wp2_with fail;clear f0 f1 oY oZ cl zJ e9;generalize(a7 (a7 w1 ⟨w.heap.size+1,0,none⟩ (.int .i64 c)) ⟨w.heap.size+1,1,none⟩ (.int .i64 (q:Int)))=w2 at*;have f0:=az en.o 0;have f1:=az en.o 1;have oY:=cX en.o 0;have oZ:=cX en.o 1;have cl:=az ny.o 0;have zJ:=cX ny.o 0;have l8:=bd ny.o;have jQ:=bd en.o;simp only[cO,cQ,c8] at f0 f1 cl;have kK:=A (JI ny.o en.o (.pointer none) (.int .i64 c) (.int .i64 (q:Int)));go_region
  all_goals
   have cl:=az (ds kK.o.1 ((aT _ _).drew) (bd kK.o.1)) 0;have cu:=az (ds kK.o.2.1 ((aT _ _).drew) (bd kK.o.2.1)) 0;have k2:=az (ds kK.o.2.1 ((aT _ _).drew) (bd kK.o.2.1)) 1;have yr:=bd kK.o.1;have pe:=bd kK.o.2.1;simp only[cO,cQ,c8] at cl cu k2;have ba:=A (QP cP.o ((cN.o.trans (kK.o.2.2.1 w.heap.size (by omega) (by omega))).drew));clear f0 f1 oY oZ zJ;generalize(a7 (a7 (a7 w2 ⟨w.heap.size,0,none⟩ (.pointer none)) ⟨w.heap.size+1,0,none⟩ (.int .i64 c)) ⟨w.heap.size+1,1,none⟩ (.int .i64 (q:Int)))=bc at*;go_wp2;simp[bodyPostD,Leaves,iX,results8,go_sem,cl,cu,k2];exact ba.o
 |ok L=>
  rw[pf] at h7;obtain⟨v,E,rfl,dp,h8,c6⟩:=h7;have z:=A (O7 pf);have cZ:=A h8;have ic:=A pf;have hq:=A dp;clear pf h8 dp;obtain⟨gX,cA,rfl⟩:=eR hq.o.row rfl;have en:=A (show(a7 (a7 w1 ⟨w.heap.size+1,0,none⟩ (.int .i64 0)) ⟨w.heap.size+1,1,none⟩ (.int .i64 0)).heap[w.heap.size+1]?=some (.cells #[.int .i64 0,.int .i64 0] 25 (0,0)) from et (et cJ.o 0 (.int .i64 0)) 1 (.int .i64 0));have ny:=A (fK (fK qj.o aZ 0 (.int .i64 0)) aZ 1 (.int .i64 0));have cN:=A ((c1.o.setCell (p:=⟨w.heap.size+1,0,none⟩) (by simp) (.int .i64 0)).setCell (p:=⟨w.heap.size+1,1,none⟩) (by simp) (.int .i64 0));have ys:Hid (iJ w0.heap.size (a7 (a7 w1 ⟨w.heap.size+1,0,none⟩ (.int .i64 0)) ⟨w.heap.size+1,1,none⟩ (.int .i64 0)) (gX,D E,cA) E):=A (VW hq.o λg R T=>by
   obtain⟨o,bX⟩: ∃o,w1.heap[g]?=some o:=⟨_,u3 T⟩;rw[bX];exact fK (fK bX (by omega) 0 _) (by omega) 1 _)
  have ff:(a7 (a7 w1 ⟨w.heap.size+1,0,none⟩ (.int .i64 0)) ⟨w.heap.size+1,1,none⟩ (.int .i64 0)).heap.size=w1.heap.size:=by simp
  clear aZ;go_upto_region 5 with fail
  clear f0 f1 oY oZ cl zJ;generalize(a7 (a7 w1 ⟨w.heap.size+1,0,none⟩ (.int .i64 0)) ⟨w.heap.size+1,1,none⟩ (.int .i64 0))=w2 at*;have th:D L=D E:=by rw[cZ.o,h2]
  have vx:=A th;have BT:=z.o.an;have RC:=A (mq.start (L:=L) (nv:= (gX,D E,cA)) (n:=D E) (aT w2 w2).drew);refine Br ?_;refine jT 13 (λ_=>True) trivial λaD=>?_;generalize w2.drew=bc at*;refine ae 0 ?_;refine ae 2 ?_;refine ae 3 ?_;refine ae 6 ?_;refine ae 7 ?_;refine aeV 3 (iI:=λa0 b1 bG cf eY eC ni w'=> ∃k6 v28 kL kk kl,ni=zL a0 k6 v28 kL kk kl/\Hid (mq L (gX,D E,cA) (D E) w2 b1 bG cf eY eC k6 v28 kL kk kl w')) ⟨_,_,_,_,_,rfl,RC⟩ ?_ ?_ ?_ ?_ ?_ ?_
  .rintro bG cf eC _ wk ⟨k6,v28,kL,kk,kl,rfl,dT⟩;unfold zL;simp only[Act.put,ld,lf,lg];refine ro 1 λK ab=>?_;go_simp;refine(acK (A z.o.jn.wf) (A z.o.jn.gx) cZ (A z.o.fA) (by omega) (ys.o.vf dT.o.av)).mono ?_;rintro _ w' ⟨bq,cK,c3,tp,dq,cR,n3,m3,rfl,h9⟩;go_simp;refine ab.o _ _ ⟨_,v28,kL,kk,kl,?_,A (dT.o.s1 (by rw[vx.o];exact h9))⟩;rfl
  .rintro b1 cf eY eC _ wk ⟨k6,v28,kL,kk,kl,rfl,dT⟩;obtain⟨w',pC,hT,G⟩:=Qx wk (D E) (by omega);unfold zL;simp only[Act.put,ld,lf,lg];refine ro 4 λK ab=>?_;go_simp;refine ab.o _ _ ⟨k6,_,kL,kk,kl,?_,A (dT.o.bA G hT (by omega))⟩;rfl
  .rintro b1 bG eC _ wk ⟨k6,v28,kL,kk,kl,rfl,dT⟩;unfold zL;simp only[Act.put,ld,lf,lg];refine ro 5 λK ab=>?_;go_simp;refine ab.o _ _ ⟨k6,v28,_,kk,kl,?_,A dT.o.cm⟩;rfl
  .rintro bG eC _ wk ⟨k6,v28,kL,kk,kl,rfl,dT⟩;obtain⟨g,rfl,aB,hc⟩:=dT.o.t5 rfl;unfold zL;simp only[Act.put,ld,lf,lg];refine ro 8 λK ab=>?_;go_simp;refine(X3 wk g (D E) (-1) hc aB (by omega) (by omega)).mono ?_;rintro _ w' ⟨g2,rfl,hF,uq,b8⟩;go_simp;refine ab.o _ _ ⟨k6,v28,_,_,kl,?_,A (dT.o.ik b8 hF uq)⟩;rfl
  .rintro b1 bG cf eY _ wk ⟨k6,v28,kL,kk,kl,rfl,dT⟩;have BH:= @run_makeMap prog;unfold zL;simp only[Act.put,ld,lf,lg];refine ro 9 λK ab=>?_;go_simp;refine ab.o _ _ ⟨k6,v28,kL,kk,_,?_,A dT.o.k'⟩;rfl
  .rintro _ wk ⟨k6,v28,kL,kk,kl,rfl,dT⟩;obtain⟨tp,_,_,rfl,_⟩:=dT.o.t1 rfl;obtain⟨lI,rfl,_⟩:=dT.o.t4 rfl;obtain⟨l9,rfl,_⟩:=dT.o.t8 rfl;obtain⟨e8,rfl,_⟩:=dT.o.t9 rfl;unfold zL;simp only[Act.put,ld,lf,lg];have H0: ∃dV ay fX,mn L E (gX,D E,cA) w wk.heap.size tp e8 dV ay fX (.slice (some ⟨lI,0,none⟩) (D E) (D E)) (.slice (some ⟨l9,0,none⟩) (D E) (D E)) 0 (a7 (aA wk (aw #[.pointer (some ⟨tp,0,none⟩),.slice (some ⟨lI,0,none⟩) (D E) (D E),.slice (some ⟨l9,0,none⟩) (D E) (D E),.map (some e8),.slice none 0 0,.string ⟨#[]⟩,.int .i64 0] 49)) ⟨w.heap.size,0,none⟩ (.pointer (some ⟨wk.heap.size,0,none⟩))):=dT.o.ah6 vx.o.symm (by omega) cN.o ny.o en.o (e'▸ys.o);have e9:=hO (ds ny.o dT.o.av (bd ny.o)) (aw #[.pointer (some ⟨tp,0,none⟩),.slice (some ⟨lI,0,none⟩) (D E) (D E),.slice (some ⟨l9,0,none⟩) (D E) (D E),.map (some e8),.slice none 0 0,.string ⟨#[]⟩,.int .i64 0] 49);clear dT;refine ae 10 ?_;refine cT 11 λK ab=>?_;go_simp;refine ab.o _ _ (λ_=>trivial) ?_;clear ab K;generalize(aA wk (aw #[.pointer (some ⟨tp,0,none⟩),.slice (some ⟨lI,0,none⟩) (D E) (D E),.slice (some ⟨l9,0,none⟩) (D E) (D E),.map (some e8),.slice none 0 0,.string ⟨#[]⟩,.int .i64 0] 49))=bS at*;generalize wk.heap.size=p at*;have cl:=az e9 0;have U1:=cX e9 0;have AX:=bd e9;refine cT 12 λK ab=>?_;go_simp;refine ab.o _ _ (λ_=>trivial) ?_;clear ab K cl U1 AX e9;refine bV ?_;refine u2 ?_;generalize(a7 bS ⟨w.heap.size,0,none⟩ (.pointer (some ⟨p,0,none⟩)))=bm at*;obtain⟨dV,ay,fX,H0⟩:=H0;have sn:=A H0;clear H0 ys ny en cN qj cJ c1 HZ uo lP RC;go_wp2_with fail;go_loopg[38] (D E) (λr CS wr=> ∃k:Nat,k+r=D E/\CS= .int .i64 (k:Int)/\Hid (mn L E (gX,D E,cA) w p tp e8 dV ay fX (.slice (some ⟨lI,0,none⟩) (D E) (D E)) (.slice (some ⟨l9,0,none⟩) (D E) (D E)) k wr))
   case atStart=>exact⟨0,by omega,rfl,sn⟩
   case round=>
    obtain⟨k,U,rfl,eX⟩:=hrel;clear sn;generalize wr=gN at*;by_cases uk:k<D E
    .have hv:(k:Int)<D E:=(by omega);have hi:(0:Int)<=k:=(by omega);have hK:IntKind.i64.wrap (k+1)=k+1:=dI _ (by omega);obtain⟨⟨x,u⟩,aF⟩: ∃x,E[k]?=some x:=⟨_,cE uk⟩;have gj:L[k]?=some x:=(by rw[cZ.o,lW,aF];rfl);have ur:D x.O<=dc:=(by have:=(z.o.fA x (hX gj)).1;unfold dc;omega);have cC:=A (P3 (j':=13) gj);have H2:=eX.o.aj gN (lC.below (aT _ _) eX.o.le);obtain⟨g,cap,aB⟩:=dR H2.row (by omega);cases aB;obtain⟨bO,bq,cK,c3,c4⟩:=n_ H2 rfl aF;have l':jC (w.heap.size+2) gN u x.I:=H2.I _ (hX aF);dsimp only at bO bq cK c3 c4;obtain⟨bb,aQ,rfl⟩:=eR l' rfl;clear aF gj l' H2;have oz:=ek gN (aw #[.int .i64 x.j',.int .i64 x.an,.int .i64 x.aX,.string (str x.O),(bb,D x.I,aQ)] 53);have h':=A (eX.o.below ((aT gN gN).alloc (bD _) (aw #[.int .i64 x.j',.int .i64 x.an,.int .i64 x.aX,.string (str x.O),(bb,D x.I,aQ)] 53)));go_upto_region 9 with fail
     clear bO bq cK c3 c4 eX;generalize(aA gN (aw #[.int .i64 x.j',.int .i64 x.an,.int .i64 x.aX,.string (str x.O),(bb,D x.I,aQ)] 53))=fb at*;generalize gN.heap.size=q at*;have dX:Hid (∀w',aL fb fb w'->True->aG w' ⟨w.heap.size,0,none⟩=some (.pointer (some ⟨p,0,none⟩))/\aG w' ⟨p,3,none⟩=some (.map (some e8))/\aG w' ⟨q,0,none⟩=some (.int .i64 x.j')/\aG w' ⟨q,3,none⟩=some (.string (str x.O))/\(vz 44 (.map (some e8)) (.string (str x.O)) true).run prog w'= .ok (.tuple #[(fk L 13 k x.O).getD (.int .i64 0),.bool (fk L 13 k x.O).isSome]) w'):=A λw' G _=>by
      have h9:=h'.o.below G;have a_:=ds oz G (bd oz);exact⟨az h9.dP 0,az h9.zo 3,az a_ 0,az a_ 3,h9.mp.qK rO (rP w') ur⟩
     obtain⟨F,nM⟩: ∃b,(fk L 13 k x.O).isSome=b:=⟨_,rfl⟩;have dj:=A nM;rw[nM] at dX;generalize(fk L 13 k x.O).getD (.int .i64 0)=ew at*;clear nM;have kb:aL fb fb fb.drew:=(aT _ _).drew;refine Br ?_;refine jz 12 dX kb trivial λaD=>?_;have l_:=A (h'.o.below kb);have aju:fb.drew.heap.size=fb.heap.size:=rfl;generalize fb.drew=cp at*;refine ae 0 ?_;refine ae 1 ?_;refine ae 2 ?_;refine ae 3 ?_;refine ae 4 ?_;refine ae 5 ?_;refine ae 6 ?_;refine ae 7 ?_;refine ae 8 ?_;refine ae 9 ?_;refine ae 10 ?_;refine ae 11 ?_;refine bV ?_;refine u2 ?_;obtain⟨_,_,cF,_,_⟩:=aD;by_cases ji:x.j'=13
     .have qn:(x.j'==13)=true:=(by simp[ji]);cases F with
      |true=>
       go_wp2_with fail;go_roundg (D E-(k+1))
       case rel=>exact⟨k+1,by omega,by go_num,A (l_.o.same (by rw[cC.o,aS ji];unfold firstM;rw[aS dj.o]))⟩
       case measure=>omega
      |false=>
       go_wp2_with fail;have kJ:aL cp cp cp.drew:=(aT _ _).drew;refine Br ?_;refine jz 7 dX (kb.trans (kJ.mono (Nat.le_of_eq aju.symm))) trivial λaD=>?_;have nz:=A (l_.o.below kJ);generalize cp.drew=wA at*;obtain⟨w',pC,zZ,k3⟩:=nz.o.mp.put (t:=44) (by unfold dc;omega) rO ur (.int .i64 (k:Int));have pg:=A (nz.o.put k3 (by rw[cC.o,aS ji];unfold firstM;rw[ao (by rw[dj.o];decide)];exact zZ));clear zZ k3;refine a' 0 ?_;refine a' 1 ?_;refine a' 2 ?_;refine a' 3 ?_;refine a' 4 ?_;refine a' 5 ?_;refine a' 6 ?_;refine cT 7 λK ab=>?_;go_simp;refine ab.o _ _ (λh=>absurd rfl h) ?_;clear ab K pC aD;refine bV ?_;refine u2 ?_;go_wp2_with fail;go_roundg (D E-(k+1))
       case rel=>exact⟨k+1,by omega,by go_num,pg⟩
       case measure=>omega
     .have qn:(x.j'==13)=false:=(by simp[ji]);go_wp2_with fail;go_roundg (D E-(k+1))
      case rel=>exact⟨k+1,by omega,by go_num,A (l_.o.same (by rw[cC.o,ao ji]))⟩
      case measure=>omega
    .obtain rfl:k=D L:=(by omega);have mX: ¬(D L:Int)<D E:=(by omega);have bY:=eX.o.aj8 z.o cZ.o;obtain⟨ar,bZ⟩: ∃ar,D E=ar+1:=⟨D E- 1,by omega⟩;obtain⟨g,_,x,bb,aQ,hG,cg⟩:=bY.fe.gQ (eO.refl _) (k:=ar) (by omega);cases hG;have br:=A cg;have bh:=A bY;have Mk:=A (aeA bY (eO.refl _) (by omega) cg);obtain⟨bO,bq,cK,c3,c4⟩:=cg.cells gN (eO.refl _);have Ls:Hid (x.j'=15):=A (by rw[<-cg.Z,show ar=D L- 1 by omega];exact z.o.last);have GV:=cg.fA.2;have hK:IntKind.i64.wrap (D E- 1)=(ar:Int):=(by rw[dI _ (by omega)];omega);have ais:(0:Int)<=ar:=(by omega);have ait:(ar:Int)<D E:=(by omega);have jJ:Hid (prog L=decls L (bE L (D L+1)) [] x.I (Ck.start L)):=A (by
      show decls L (bE L (D L+1)) [] (Z L (D L- 1)).I (Ck.start L)=_;rw[show D L- 1=ar by omega,cg.Z])
     have ma:=eX.o.ahO;have oz:=ek gN (aw #[.int .i64 x.j',.int .i64 x.an,.int .i64 x.aX,.string (str x.O),(bb,D x.I,aQ)] 53);have so:aL gN gN (aA gN (aw #[.int .i64 x.j',.int .i64 x.an,.int .i64 x.aX,.string (str x.O),(bb,D x.I,aQ)] 53)):=(aT gN gN).alloc (bD _) _;have H:=Pk.bO (ma.below so) (rfl:prog L=prog L);have Ys:=A ma;clear cg bY ma;go_wp2_with fail;clear bO bq cK c3 c4;have H:=eP jJ.o H;generalize(aA gN (aw #[.int .i64 x.j',.int .i64 x.an,.int .i64 x.aX,.string (str x.O),(bb,D x.I,aQ)] 53))=fb at*;have qk:=bd oz;generalize UM:gN.heap.size=q at*;have eu:Hid (∀w' s' pJ,Hid (du L (zq p (.slice (some ⟨lI,0,none⟩) (D E) (D E)) (.slice (some ⟨l9,0,none⟩) (D E) (D E)) gN) p tp (.slice (some ⟨lI,0,none⟩) (D E) (D E)) (.slice (some ⟨l9,0,none⟩) (D E) (D E)) (.map (some e8)) (.slice none 0 0) [] fb (Ck.start L) (prog L) [] w' s' pJ)->aG w' ⟨w.heap.size,0,none⟩=some (.pointer (some ⟨p,0,none⟩))/\aG w' ⟨q,4,none⟩=some (bb,D x.I,aQ)):=A λw' s' pJ K=>by
      have a_:=(Ys.o.fresh (cY K) (Nat.le_of_eq UM) qk).trans oz;exact⟨az (eX.o.o K.o.av).1 0,az a_ 4⟩
     clear oz so qk UM;go_loopg[77] (D x.I) (λr CS wr=> ∃(i:Nat) (aq:b5),i+r=D x.I/\CS= .int .i64 (i:Int)/\Hid (du L (zq p (.slice (some ⟨lI,0,none⟩) (D E) (D E)) (.slice (some ⟨l9,0,none⟩) (D E) (D E)) gN) p tp (.slice (some ⟨lI,0,none⟩) (D E) (D E)) (.slice (some ⟨l9,0,none⟩) (D E) (D E)) (.map (some e8)) (.slice none 0 0) [] fb (Ck.start L) (prog L) [] wr aq (decls L (bE L (D L+1)) (x.I.take i) (x.I.drop i) aq)))
     case atStart=>exact⟨0,_,by omega,rfl,H⟩
     case round=>
      obtain⟨i,aq,ay,rfl,eU⟩:=hrel;clear H;have H:=eU;clear eU;generalize wr=bH at*;by_cases h0:i<D x.I
      .have H3:(i:Int)<D x.I:=(by omega);have fM:(0:Int)<=i:=(by omega);have ti:IntKind.i64.wrap (i+1)=i+1:=dI _ (by omega);have mE:=br.o.at h0;rw[Ls.o] at mE;have G6:ct 24 (Z L (Y x.I i 0)).j'=true:=by
        have T:=mE.2;rw[show B.pat 15 x.aX (D x.I)=ef (D x.I) 24 from rfl,cd (l:=ef _ _),ku,aS h0] at T;exact T
       obtain⟨ga,rfl,CX⟩:=br.o.bM bH i H.o.av h0;have UE:=mE.1;have z1:D (x.I.take i)=i:=(by rw[mr];omega);have ai':i<=aQ:=(by have:=Mk.o;omega);have anq:(i:Int)<=aQ:=(by omega);have gU:=Vw H;have cV:=A (λsu ka (h:dz L (zq p (.slice (some ⟨lI,0,none⟩) (D E) (D E)) (.slice (some ⟨l9,0,none⟩) (D E) (D E)) gN) p tp (.slice (some ⟨lI,0,none⟩) (D E) (D E)) (.slice (some ⟨l9,0,none⟩) (D E) (D E)) (.map (some e8)) bH.drew su [] aq)=>Zx (al:=x.I.take i) (ad:=some ⟨ga,0,none⟩) (cap:=ka) bh (k:=Y x.I i 0) (f:=D L+1) (by omega) (by omega) G6 (A λj bg=>abo bh (A ⟨_,λw' G=>(((eX.o.o G).2.2.cell (p:=⟨4,0,none⟩) (sF BS.o.choose_spec)).trans BS.o.choose_spec)⟩) j (D L+1) (by omega) (by omega)) h gU (by rw[z1];omega) (A λj bg=>by
        obtain⟨bp,hz,rfl⟩:=List.mem_iff_getElem.1 (List.mem_of_mem_take bg);have b8:=(br.o.at hz).1;rw[cd,cE hz] at b8;exact Nat.lt_trans b8 (by omega)) (A λw' G j bg=>by
        rw[z1] at bg;obtain⟨g3,bU,ah⟩:=br.o.bM w' j G (by omega);refine⟨g3,bU,?_⟩;rw[cd,List.getElem?_take_of_lt bg,<-cd];exact ah))
       rw[z1] at cV;have H:=eP (show _=(decl L (bE L (D L+1)) (x.I.take i) (Y x.I i 0) aq).M λ_ s1=>decls L (bE L (D L+1)) (x.I.take (i+1)) (x.I.drop (i+1)) s1 by
        have aB:x.I[i]=Y x.I i 0:=(by rw[cd,cE h0];rfl);rw[kS h0,aB,show x.I.take (i+1)=x.I.take i++[Y x.I i 0] by rw[p3,cE h0,aB];rfl];rfl) H
       generalize Y x.I i 0=om at*;go_wp2_with fail;have H:=dE H (aT _ _).drew;have dX:Hid (∀w',(∃s' pJ,Hid (du L (zq p (.slice (some ⟨lI,0,none⟩) (D E) (D E)) (.slice (some ⟨l9,0,none⟩) (D E) (D E)) gN) p tp (.slice (some ⟨lI,0,none⟩) (D E) (D E)) (.slice (some ⟨l9,0,none⟩) (D E) E.length) (.map (some e8)) (.slice none 0 0) [] fb (Ck.start L) (prog L) [] w' s' pJ))->True->w'.cell? ⟨w.heap.size,0,none⟩=some (.pointer (some ⟨p,0,none⟩))/\w'.cell? ⟨q,4,none⟩=some (.slice (some ⟨ga,0,none⟩) x.I.length aQ)):=A λw' ⟨s',pJ,K⟩ _=>eu.o w' s' pJ K;refine jz 7 dX ⟨_,_,H⟩ trivial λaD=>?_;generalize bH.drew=iR at*;refine ae 0 ?_ (hQ:=by exact λ_ _ _ h=>blind 82 (by omega) h);refine ae 1 ?_ (hQ:=by exact λ_ _ _ h=>blind 83 (by omega) h);refine ae 2 ?_ (hQ:=by exact λ_ _ _ h=>blind 84 (by omega) h);refine ae 3 ?_ (hQ:=by exact λ_ _ _ h=>blind 85 (by omega) h);refine ae 4 ?_ (hQ:=by exact λ_ _ _ h=>blind 86 (by omega) h);refine ae 5 ?_ (hQ:=by exact λ_ _ _ h=>blind 87 (by omega) h);refine cT 6 λK ab=>?_;go_simp;refine oT (λsu h=>cV.o su _ h) (λt b3 bA ho _ H=>?_) (λc j w2 bZ bY=>?_) H
       .go_simp;refine ab.o _ _ (λ_=>eu.o _ _ _ H) ?_;clear ab K aD;refine bV ?_;go_wp2_with fail;go_roundg (D x.I-(i+1))
        case rel=>exact⟨i+1,bA,by omega,by go_num,H⟩
        case measure=>omega
       .have cP:Hid (lZ S= .error (c,((Z L j).an:Int))):=A (by unfold lZ;rw[ic.o];dsimp only;rw[bZ]);obtain⟨c9,cw,da⟩:=eX.o.o bY;unfold gS;go_simp;exact Ww c9 cw da cP.o rfl rfl
      .obtain rfl:i=D x.I:=(by omega);have H:=eP (show _=df.ok [] aq by rw[rW];rfl) H;have H3: ¬(D x.I:Int)<D x.I:=(by omega);have cP:Hid (lZ S=if c7 L 13 zl<0 then .error (10,0) else .ok (aq.types,aq.eJ)):=A (by unfold lZ;rw[ic.o];dsimp only;rw[H.o.eq]);obtain⟨c9,cw,da⟩:=eX.o.o H.o.av;obtain⟨yt,gW,_,_⟩:=H.o.st;obtain⟨_,_,_,aj7,_,_,_,pl,_⟩:=gW.at;have cl:=az c9 0;obtain⟨oL,eG,ah0,ug⟩:=bh.o.fns;cases ah0;have ih:(vz 44 (.map (some e8)) (.string ⟨#[109,97,105,110]⟩) true).run prog bH=_:=(ug bH H.o.av).qK rO (rP bH) (s:=zl) (by decide);rw[wy] at ih;generalize(fk L 13 (D L) zl).getD (.int .i64 0)=ew at*;generalize c7 L 13 zl=gz at*;clear ug;by_cases bB:gz<0
       .have D9:decide (0<=gz)=false:=(by simpa using bB);rw[D9] at ih;go_wp2_with fail;exact Ww c9 cw da (by rw[cP.o,aS bB]) rfl rfl
       .have D9:decide (0<=gz)=true:=(by simp;omega);rw[D9] at ih;go_wp2_with fail;clear c9 cw da cl aj7 pl ih;have H:=dE H (aT bH bH).drew;obtain⟨c9,cw,da⟩:=eX.o.o H.o.av;have gW:=gW.drew;have RF:Hid (∀w':ai,w'.heap[w.heap.size]?=some (.cells #[.pointer (some ⟨p,0,none⟩)] 40 (0,0))->w'.heap[w.heap.size+1]?=some (.cells #[.int .i64 0,.int .i64 0] 25 (0,0))->aG w' ⟨w.heap.size,0,none⟩=some (.pointer (some ⟨p,0,none⟩))/\aG w' ⟨w.heap.size+1,0,none⟩=some (.int .i64 0)/\aG w' ⟨w.heap.size+1,1,none⟩=some (.int .i64 0)):=A λw' R T=>⟨az R 0,az T 0,az T 1⟩;refine Br ?_;refine jz 3 RF c9 cw λaD=>?_;generalize bH.drew=iR at*;have anw:=eX.o.o2 p (.inl rfl);have H4:=eX.o.xL.2.2;have eV:=A (JI c9 cw (.pointer (some ⟨p,0,none⟩)) (.int .i64 0) (.int .i64 0));have Ml:=A (fK (fK (fK gW.blk (show p≠w.heap.size by omega) 0 (.pointer (some ⟨p,0,none⟩))) (show p≠w.heap.size+1 by omega) 0 (.int .i64 0)) (show p≠w.heap.size+1 by omega) 1 (.int .i64 0));have mc:=A (RY (eV.o.2.2.2 _ _ _ _ _ _ (by decide) (by decide) gW.ty) (N':=w.heap.size) λg aB=>by have:=(eX.o.o2 g (.inr (.inl aB))).1;omega);have D':=A (RY (eV.o.2.2.2 _ _ _ _ _ _ (by decide) (by decide) gW.us) (N':=w.heap.size) λg aB=>by have:=(eX.o.o2 g (.inr (.inr (.inl aB)))).1;omega);have ba:Hid (Bn S w (.returned (.tuple #[.pointer (some ⟨p,0,none⟩),.agg #[.int .i64 0,.int .i64 0]])) (a7 (a7 (a7 iR ⟨w.heap.size,0,none⟩ (.pointer (some ⟨p,0,none⟩))) ⟨w.heap.size+1,0,none⟩ (.int .i64 0)) ⟨w.heap.size+1,1,none⟩ (.int .i64 0))):=A (by
         refine⟨da.trans (eV.o.2.2.1 w.heap.size (by omega) (by omega)),?_⟩;rw[cP.o,ao (by omega)];exact⟨p,tp,_,_,_,yt,aq,rfl,Ml.o,mc.o,D'.o⟩)
        have cl:=az c9 0;have U1:=cX c9 0;have AX:=bd c9;have dQ:=fK cw (show w.heap.size+1≠w.heap.size by omega) 0 (.pointer (some ⟨p,0,none⟩));have f0:=az dQ 0;have f1:=az dQ 1;have oY:=cX dQ 0;have oZ:=cX dQ 1;have fl:=bd dQ;simp only[cO,cQ,c8] at f0 f1;refine a' 0 ?_;refine a' 1 ?_;refine cT 2 λK ab=>?_;go_simp;refine ab.o _ _ (λ_=>RF.o _ (et c9 0 _) dQ) ?_;clear ab K;refine cT 3 λK ab=>?_;go_simp;refine ab.o _ _ (λh=>absurd rfl h) ?_;clear ab K;refine bV ?_;refine u2 ?_;go_wp2;exact abp rfl eV.o.1 eV.o.2.1 ba.o rfl rfl
end Pk
end Go.Proofs.YtjfkhpkicioakaaGreatDoor
