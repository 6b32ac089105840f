/- PROVED HERE: the lexer of the program, walked. No condition. -/
import Derived.Test.YtjfkhpkicioakaaGreatDoorProg
import Derived.Below
import Derived.Deep.AppendLies
import Derived.Deep.RegionHeld
import Derived.Deep.RegionHeld3
import Derived.IntWalk
import Derived.Laws.AppendOwn
import Derived.Laws.OwnMore
import Derived.Laws.Rows
import Derived.OrdersHeld
import Derived.OwnWalk
import Derived.RegionTactic
import Derived.Tactics
import Derived.WalkSmall
import Derived.Tactics2
import Derived.Handy
import Derived.Lib.Hide
import Derived.Shelf.Unicode.DecodeSlow
set_option linter.all false
open Go renaming Ending->e7,Value->af,World->ai,undef->eb
open Go.Lib renaming decodeN->Bo,hid->sz
open Go.Region renaming ready->nE,wanted->nF
open List renaming getD->Y,length->D
open Go.Proofs.Tryz
def Go.RowKit.Hid.o{p}(h : Go.RowKit.Hid p) : p := h.out
def Go.Shut.o{p}(h : Go.Shut p) : p := h.out
namespace Go.Proofs.YtjfkhpkicioakaaGreatDoor
open Go.RowKit
instance:Coe Int af:=⟨.int .i64⟩
instance:Coe Nat af:=⟨λn=>.int .i64 (n:Int)⟩
instance:Coe ByteArray af:=⟨.string⟩
instance:Coe Nat Addr:=⟨λq=>⟨q,0,none⟩⟩
instance(q i:Nat):CoeDep (Nat×Nat) (q,i) Addr:=⟨⟨q,i,none⟩⟩
instance(q i:Nat):CoeDep (Nat×Nat) (q,i) af:=⟨.pointer (some ⟨q,i,none⟩)⟩
instance(q i:Nat):CoeDep (Option (Nat×Nat)) (some (q,i)) (Option af):=⟨some (.pointer (some ⟨q,i,none⟩))⟩
instance(q:Int):CoeDep (List Int) [q] af:=⟨.int .i64 q⟩
instance(q:Nat):CoeDep (List Nat) [q] af:=⟨.int .i64 (q:Int)⟩
instance(q:ByteArray):CoeDep (List ByteArray) [q] af:=⟨.string q⟩
instance(q:Int):CoeDep (Option (List Int)) (some [q]) (Option af):=⟨some (.int .i64 q)⟩
instance(q:Nat):CoeDep (Option (List Nat)) (some [q]) (Option af):=⟨some (.int .i64 (q:Int))⟩
instance(q:ByteArray):CoeDep (Option (List ByteArray)) (some [q]) (Option af):=⟨some (.string q)⟩
instance(q n c:Nat):CoeDep (Nat×Nat×Nat) (q,n,c) af:=⟨.slice (some ⟨q,0,none⟩) n c⟩
instance(u:Option Addr)(n c:Nat):CoeDep (Option Addr×Nat×Nat) (u,n,c) af:=⟨.slice u n c⟩
instance(q n c:Nat):CoeDep (Option (Nat×Nat×Nat)) (some (q,n,c)) (Option af):=⟨some (.slice (some ⟨q,0,none⟩) n c)⟩
instance(u:Option Addr)(n c:Nat):CoeDep (Option (Option Addr×Nat×Nat)) (some (u,n,c)) (Option af):=⟨some (.slice u n c)⟩
instance:Coe ai Nat:=⟨λw=>w.heap.size⟩
instance(w:ai)(n c:Nat):CoeDep (ai×Nat×Nat) (w,n,c) af:=⟨.slice (some ⟨w.heap.size,0,none⟩) n c⟩
instance(w:ai)(n c:Nat):CoeDep (Option (ai×Nat×Nat)) (some (w,n,c)) (Option af):=⟨some (.slice (some ⟨w.heap.size,0,none⟩) n c)⟩
instance(w:ai)(i:Nat):CoeDep (ai×Nat) (w,i) Addr:=⟨⟨w.heap.size,i,none⟩⟩
instance(w:ai)(i:Nat):CoeDep (ai×Nat) (w,i) af:=⟨.pointer (some ⟨w.heap.size,i,none⟩)⟩
instance(w:ai)(i:Nat):CoeDep (Option (ai×Nat)) (some (w,i)) (Option af):=⟨some (.pointer (some ⟨w.heap.size,i,none⟩))⟩
structure nf where n:Nat
def aw (_:Array af)(_:TypeId):nf:=⟨0⟩
instance(x t):CoeDep nf (aw x t) Obj:=⟨.cells x t⟩
instance(x t):CoeDep (Option nf) (some (aw x t)) (Option Obj):=⟨some (.cells x t)⟩
theorem b7 {P f a w X}{Q:e7->ai->Prop}{y1:ai->Prop}(h:Calls P f a w λe w'=>e=X/\y1 w')(k: ∀w',y1 w'->Q X w'):Calls P f a w Q:=h.mono λ_ w' h=>h.1▸k w' h.2
theorem Q'0 {X:Type}{a:Option X}{b c}(h:a=some b)(e:b=c:=by kernel_rfl):a=some c:=h.trans (congrArg some e)
theorem Q'1 {p:Prop} (h:p:=by kernel_rfl):p:=h
theorem cS {p:Prop} (h:p:=by kernel_rfl):p:=h
theorem J {p:Prop} (h:p:=by omega):p:=h
theorem aN {p:Prop} (h:p:=by decide):p:=h
theorem bT {p:Prop} (h:p:=by simp):p:=h
structure RU where n:Nat
instance:CoeFun RU (λ_=>FuncId->Array af->ai->(e7->ai->Prop)->Prop):=⟨λ_=>Calls prog⟩
def aY:RU:=⟨0⟩
def cd:=@List.getD_eq_getElem?_getD
def cE:=@List.getElem?_eq_getElem
def aT:=@Go.RowKit.Below.refl
def cQ:=@List.getElem?_cons_zero
def ao:=@if_neg
def cO:=@List.getElem?_toArray
def c8:=@List.getElem?_cons_succ
def bD:=@Nat.le_refl
def aS:=@if_pos
def dW:=@List.length_append
def dI:=@Go.IntWalk.i64_in
def eI:=@Go.World.ownsRow.lt
def hP:=@List.mem_cons_of_mem
def hX:=@List.mem_of_getElem?
def hY:=@List.mem_cons_self
def gZ:=@Option.some.inj
def ld:=@List.setIfInBounds_toArray
def kS:=@List.drop_eq_getElem_cons
def im:=@List.getElem_mem
def hf:=@Go.heap_alloc_new
def ku:=@List.getElem?_replicate
def iq:=@List.length_cons
def h2:=@List.length_map
def gp:=@Nat.zero_le
def j7:=@Go.World.news_of_block
def hg:=@Nat.le_trans
def kv:=@Nat.lt_of_lt_of_le
def lf:=@List.set_cons_zero
def lg:=@List.set_cons_succ
def lV:=@Go.wp_region_held_drew
def lW:=@List.getElem?_map
def qz:=@List.getElem?_append_left
def mr:=@List.length_take
def pr:=@List.getElem?_eq_none
def lU:=@List.append_nil
def mM:=@List.take_length
def rU:=@List.getElem?_append_right
def n7:=@Go.World.ownsRow_nil
def sD:=@Go.World.ownsRow.alloc
def oH:=@List.append_assoc
def u0:=@List.dropLast_concat_getLast
def pt:=@decide_eq_true_eq
def oI:=@Nat.zero_lt_succ
def p3:=@List.take_add_one
def pv:=@Bool.and_eq_true
def oJ:=@decide_eq_false
def kT:=@Go.info_parts
def u3:=@Array.getElem?_eq_getElem
def qA:=@List.length_drop
def we:=@Classical.byContradiction
def u7:=@List.take_of_length_le
def tH:=@Go.World.ownsRow.cellAt
def qB:=@Bool.eq_iff_iff
def sE:=@List.mem_singleton
def oK:=@Go.bodyPost_ret
def rW:=@List.drop_length
def p4:=@Go.AllReady.cons
def tI:=@Go.wpList_append_lies
def wg:=@List.length_replicate
def rX:=@List.map_append
def ri:=@decide_eq_true
def u9:=@beq_eq_false_iff_ne
def sF:=@Go.block_lt_of_cell
def CN:=@ByteArray.getElem_eq_getElem_data
def tJ:=@Go.step_append_lies
def xK:=@List.take_append_drop
def u':=@List.flatMap_cons
def p2:=@Go.wpAnyH_done
def xE:=@Bool.or_eq_false_iff
def xF:=@List.dropLast_concat
def xG:=@List.flatMap_append
def y7:=@List.length_singleton
def rV:=@Go.AllReady.nil
def rh{V a w}(h:RowKit.Below V a w)(n):RowKit.Below V a (w.drewN n):=h.trans ⟨rfl,rfl,rfl,Nat.le_refl _,λ_ _=>rfl⟩
def u1:=@List.length_nil
def xH:=@List.contains_cons
def u2:=@Go.NoPanic.normal
def xI:=@List.find?_append
def xJ:=@Int.toNat_natCast
def aK{P ops}{Q:Exit->Act->ai->Prop}{md}{S:ai->Prop}(i:Nat){fa v fuel dB l2 a a2 w}
   (h:wpAnyH P md ops Q S fuel l2 a2 w)
   (ay:ops[i]?=some fa:=by rfl)(hs:Region.noSelect ops=true:=by kernel_rfl)(aI:Region.free md ops dB i=true:=by kernel_rfl)(au:(nE md ops dB).contains i=true:=by kernel_rfl)
   (hQ: ∀c a w,Q (.panic c) (a.put fa.dst v) w->Q (.panic c) a w:=by exact λ_ _ _ h=>h)
   (hw:nF fa (yielded ops a.tmps)=true:=by rfl)
   (bx: ∀w,S w->(execOp a.eval fa).run P w= .ok (.value v) w:=by intro w vT;(try dsimp only at vT);(try simp only[and_imp] at vT);(first|(go_simp;done)|(go_simp;with_reducible rfl)))
   (aD:S w:=by assumption)
   (aR:a.put fa.dst v=a2:=by simp only[Act.put,List.getElem_toArray,List.getElem_cons_succ,List.getElem_cons_zero,ld,lf,lg];rfl)
   (hl:dB.setIfInBounds i true=l2:=by first|(simp only[ld,lf,lg];rfl)|rfl):wpAnyH P md ops Q S (fuel+1) dB a w:=by subst aR hl;exact wpAnyH_take ay hs aI au hQ (Or.inl ⟨hw,bx⟩) aD h
def dw{P ops}{Q:Exit->Act->ai->Prop}{md}{S:ai->Prop}(i:Nat){fa fuel dB l2 a a2 w}
   (h:wpAnyH P md ops Q S fuel l2 a2 w)
   (ay:ops[i]?=some fa:=by rfl)(hs:Region.noSelect ops=true:=by kernel_rfl)(aI:Region.free md ops dB i=true:=by kernel_rfl)(au:(nE md ops dB).contains i=true:=by kernel_rfl)
   (hQ: ∀c a w,Q (.panic c) (a.put fa.dst eb) w->Q (.panic c) a w:=by exact λ_ _ _ h=>h)
   (hw:nF fa (yielded ops a.tmps)=false:=by rfl)
   (aD:S w:=by assumption)
   (aR:a.put fa.dst eb=a2:=by simp only[Act.put,List.getElem_toArray,List.getElem_cons_succ,List.getElem_cons_zero,ld,lf,lg];rfl)
   (hl:dB.setIfInBounds i true=l2:=by first|(simp only[ld,lf,lg];rfl)|rfl):wpAnyH P md ops Q S (fuel+1) dB a w:=by subst aR hl;exact wpAnyH_take ay hs aI au hQ (Or.inr ⟨hw,rfl⟩) aD h
def A{p}(h:p):RowKit.Hid p:=sz h
theorem alh {c2 mL:Prop} (g:mL) (h:RowKit.Hid mL->c2:=by intro bF;try first|refine aK 0 ?_|refine tku 0 ?_;try first|refine aK 1 ?_|refine tku 1 ?_;try first|refine aK 2 ?_|refine tku 2 ?_;try first|refine aK 3 ?_|refine tku 3 ?_;try first|refine aK 4 ?_|refine tku 4 ?_;try first|refine aK 5 ?_|refine tku 5 ?_;try first|refine aK 6 ?_|refine tku 6 ?_;try first|refine aK 7 ?_|refine tku 7 ?_;try first|refine aK 8 ?_|refine tku 8 ?_;try first|refine aK 9 ?_|refine tku 9 ?_;try first|refine aK 10 ?_|refine tku 10 ?_;try first|refine aK 11 ?_|refine tku 11 ?_;try first|refine aK 12 ?_|refine tku 12 ?_;try first|refine aK 13 ?_|refine tku 13 ?_;try first|refine aK 14 ?_|refine tku 14 ?_;try first|refine aK 15 ?_|refine tku 15 ?_;try first|refine aK 16 ?_|refine tku 16 ?_;try first|refine aK 17 ?_|refine tku 17 ?_;try first|refine aK 18 ?_|refine tku 18 ?_;try first|refine aK 19 ?_|refine tku 19 ?_;try first|refine aK 20 ?_|refine tku 20 ?_;try first|refine aK 21 ?_|refine tku 21 ?_;try first|refine aK 22 ?_|refine tku 22 ?_;try first|refine aK 23 ?_|refine tku 23 ?_;try first|refine aK 24 ?_|refine tku 24 ?_;try first|refine aK 25 ?_|refine tku 25 ?_;try first|refine aK 26 ?_|refine tku 26 ?_;try first|refine aK 27 ?_|refine tku 27 ?_;try first|refine aK 28 ?_|refine tku 28 ?_;try first|refine aK 29 ?_|refine tku 29 ?_;try first|refine aK 30 ?_|refine tku 30 ?_;try first|refine aK 31 ?_|refine tku 31 ?_;try first|refine aK 32 ?_|refine tku 32 ?_;try first|refine aK 33 ?_|refine tku 33 ?_;try first|refine aK 34 ?_|refine tku 34 ?_;try first|refine aK 35 ?_|refine tku 35 ?_;try first|refine aK 36 ?_|refine tku 36 ?_;try first|refine aK 37 ?_|refine tku 37 ?_;try first|refine aK 38 ?_|refine tku 38 ?_;try first|refine aK 39 ?_|refine tku 39 ?_;try first|refine aK 40 ?_|refine tku 40 ?_;try first|refine aK 41 ?_|refine tku 41 ?_;try first|refine aK 42 ?_|refine tku 42 ?_;try first|refine aK 43 ?_|refine tku 43 ?_;try first|refine aK 44 ?_|refine tku 44 ?_;try first|refine aK 45 ?_|refine tku 45 ?_;exact bF.o):c2:=h (A g)
theorem apL {c2 mL:Prop} (g:mL) (h:mL->c2:=by intro bF;go_wp2_with fail;exact bF):c2:=h g
theorem nH {bP c2 mL:Prop} (g:bP->mL) (h:(bP->mL)->c2:=by intro bF;go_wp2_with fail;exact bF z):c2:=h g
namespace aa
def dec (l:List UInt8):Nat×Nat:=Lib.decodeGo ⟨l.toArray⟩
structure Tok where
 j':Int
 O:List UInt8
 aX:Int
 an:Nat
def letter(c:UInt8):Bool:=c==95||(97<=c&&c<=122)||(65<=c&&c<=90)
def digit(c:UInt8):Bool:=48<=c&&c<=57
def hr (c:UInt8):Bool:=letter c||digit c
def blank(c:UInt8):Bool:=c==32||c==9||c==13
def words:List (List UInt8):=[[102,117,110,99],[116,121,112,101],[115,116,114,117,99,116],[105,110,116,101,114,102,97,99,101],[105,102],[101,108,115,101],[102,111,114],[114,101,116,117,114,110],[98,114,101,97,107],[115,101,108,101,99,116],[99,97,115,101],[100,101,102,97,117,108,116],[103,111],[99,108,111,115,101],[112,97,110,105,99],[112,114,105,110,116],[110,101,119],[109,97,107,101],[99,104,97,110],[105,110,116],[98,111,111,108],[110,105,108],[116,114,117,101],[102,97,108,115,101]]
def gD:List (List UInt8):=[[60,45],[61,61],[33,61],[60,61],[62,61],[38,38],[124,124],[58,61],[40],[41],[123],[125],[46],[44],[59],[58],[42],[43],[45],[47],[37],[60],[62],[61],[33]]
def vi:List (List UInt8):=[[114,101,116,117,114,110],[98,114,101,97,107],[105,110,116],[98,111,111,108],[110,105,108],[116,114,117,101],[102,97,108,115,101]]
def ends (t:Tok):Bool:=
 if t.j'=1\/t.j'=2 then true else if t.j'=3 then t.O==[41]||t.O==[125] else vi.contains t.O
def sZ (i:Nat):Tok:=⟨3,[59],0,i⟩
def close(d':List Tok)(line:Bool)(i:Nat):List Tok:=
 if line then match d'.getLast? with
  |some t=>if ends t then d'++[sZ i] else d'
  |none=>d'
 else d'
def fD (p:UInt8->Bool)(s:List UInt8)(i:Nat):Nat:=if i<D s/\p (Y s i 0)=true then fD p s (i+1) else i
termination_by (D s)-i
decreasing_by omega
def kV (s:List UInt8)(i:Nat):Except Nat Nat:=
 if i<D s/\Y s i 0≠10 then
  if dec (s.drop i)=(65533,1) then .error i else kV s (i+max 1 (dec (s.drop i)).2)
 else .ok i
termination_by (D s)-i
decreasing_by omega
def np (l:List UInt8):Int:=l.foldl (λa c=>10*a+((c.toNat:Int)- 48)) 0
def cut (s:List UInt8)(i j:Nat):List UInt8:=(s.drop i).take (j-i)
def xN (l:List UInt8):Option (List UInt8):=gD.find? λg=>g.isPrefixOf l
inductive Step where
 |skip (to:Nat)
 |tok (t:Tok) (to:Nat)
 |bL (code:Int) (an:Nat)
def kY (s:List UInt8)(i:Nat):Step:=
 if blank (Y s i 0) then .skip (i+1)
 else if[47,47].isPrefixOf (s.drop i) then match kV s i with
  | .error j=> .bL 2 j
  | .ok j=> .skip j
 else if letter (Y s i 0) then .tok ⟨if words.contains (cut s i (fD hr s i)) then 4 else 1,cut s i (fD hr s i),0,i⟩ (fD hr s i)
 else if digit (Y s i 0) then
  if 9<D (cut s i (fD digit s i))\/(1<D (cut s i (fD digit s i))/\Y s i 0=48) then .bL 3 i
  else .tok ⟨2,cut s i (fD digit s i),np (cut s i (fD digit s i)),i⟩ (fD digit s i)
 else match xN (s.drop i) with
  |none=> .bL 2 i
  |some g=> .tok ⟨3,g,0,i⟩ (i+D g)
def go (s:List UInt8)(i:Nat)(line:Bool)(d':List Tok):Except (Int×Nat) (List Tok):=
 if i<D s then
  if Y s i 0=10 then go s (i+1) false (close d' line i)
  else match kY s i with
   | .bL c j=> .error (c,j)
   | .skip to=>go s (max (i+1) to) line d'
   | .tok t to=>go s (max (i+1) to) true (d'++[t])
 else .ok (close d' line i)
termination_by (D s)-i
decreasing_by all_goals omega
def scan (s:List UInt8):Except (Int×Nat) (List Tok):=if 6000<D s then .error (1,0) else go s 0 false []
def go_end{s i line d'}(h: ¬i<D s):go s i line d'= .ok (close d' line i):=by rw[go,ao h]
def go_feed{s i line d'}(h:i<D s)(T:Y s i 0=10):go s i line d'=go s (i+1) false (close d' line i):=by rw[go,aS h,aS T]
def go_skip{s i to line d'}(h:i<D s)(T:Y s i 0≠10)(ah:kY s i= .skip to)(bJ:i<to):go s i line d'=go s to line d':=by rw[go,aS h,ao T,ah];dsimp only;rw[show max (i+1) to=to by omega]
def go_tok{s i to line d' t}(h:i<D s)(T:Y s i 0≠10)(ah:kY s i= .tok t to)(bJ:i<to):go s i line d'=go s to true (d'++[t]):=by rw[go,aS h,ao T,ah];dsimp only;rw[show max (i+1) to=to by omega]
def go_bad{s i j line d' c}(h:i<D s)(T:Y s i 0≠10)(ah:kY s i= .bL c j):go s i line d'= .error (c,j):=by rw[go,aS h,ao T,ah]
def CT{p:UInt8->Bool}{s i}(h:i<D s)(T:p (Y s i 0)=true):fD p s i=fD p s (i+1):=by rw[fD,aS ⟨h,T⟩]
def AU{p:UInt8->Bool}{s i}(h: ¬(i<D s/\p (Y s i 0)=true)):fD p s i=i:=by rw[fD,ao h]
def ON(p:UInt8->Bool)(s:List UInt8)(i):i<=fD p s i:=by
 rw[fD];split
 .have:=ON p s (i+1);omega
 .exact bD _
termination_by (D s)-i
decreasing_by omega
def OY{p:UInt8->Bool}{s i}(h:i<=D s):fD p s i<=D s:=by
 rw[fD];split
 .exact OY J
 .exact h
termination_by (D s)-i
decreasing_by omega
def CU{p:UInt8->Bool}{s i}(h:i<D s)(T:p (Y s i 0)=true):i<fD p s i:=by rw[CT h T];exact ON p s (i+1)
def OD{s i}(h:i<D s)(T:Y s i 0≠10)(ah:dec (s.drop i)≠(65533,1)):kV s i=kV s (i+max 1 (dec (s.drop i)).2):=by rw[kV,aS ⟨h,T⟩,ao ah]
def OL{s i}(h:i<D s)(T:Y s i 0≠10)(ah:dec (s.drop i)=(65533,1)):kV s i= .error i:=by rw[kV,aS ⟨h,T⟩,aS ah]
def F1{s i}(h: ¬(i<D s/\Y s i 0≠10)):kV s i= .ok i:=by rw[kV,ao h]
def V5{s i j}(h:kV s i= .ok j):i<=j:=by
 rw[kV] at h;split at h
 .split at h
  .cases h
  .have:=V5 h;omega
 .cases h;exact bD _
termination_by (D s)-i
decreasing_by omega
def Jq{s i j}(h:kV s i= .ok j)(ay:i<D s)(T:Y s i 0≠10):i<j:=by
 by_cases ah:dec (s.drop i)=(65533,1)
 .rw[OL ay T ah] at h;cases h
 .rw[OD ay T ah] at h;have:=V5 h;omega
def adh(n eS b1 b2 bC:Nat)(ax:0<n)(aH:eS<256):1<=(Bo n eS b1 b2 bC).2/\(Bo n eS b1 b2 bC).2<=n/\(Bo n eS b1 b2 bC).1<=1114111:=by
 unfold Bo
 repeat' split
 all_goals(simp;try omega)
def KP{l}(h:l≠[]):1<=(dec l).2/\(dec l).2<=D l/\(dec l).1<=1114111:=by
 have hl:0<D l:=List.length_pos_iff.2 h;have hs:(⟨l.toArray⟩:ByteArray).size=D l:=by show l.toArray.size=_;simp
 unfold dec Lib.decodeGo;rw[ao (by rw[hs];omega),Lib.decode_at,Nat.sub_zero,hs];exact adh _ _ _ _ _ hl (UInt8.toNat_lt _)
end aa
end Go.Proofs.YtjfkhpkicioakaaGreatDoor
