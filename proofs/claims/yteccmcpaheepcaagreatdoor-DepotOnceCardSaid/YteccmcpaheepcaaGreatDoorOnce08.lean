/-
  The abstract machine walked with unknowns: what is known of a frame; the rules, operation by operation.
-/
import Derived.Test.YteccmcpaheepcaaGreatDoorOnce07
import Derived.RowKit
import Derived.Test.YteccmcpaheepcaaGreatDoorOnce01
import Derived.SizedLaws
import Derived.Test.YteccmcpaheepcaaGreatDoorCards
import Derived.Test.YteccmcpaheepcaaGreatDoorTie
import Derived.Deep.DeepHandedRow
import Derived.Lib.LaidTab
import Derived.Lib.LaidU8
import Derived.Lay
import Derived.MakeChecks
import Derived.Shelf.Vars
set_option linter.unusedSimpArgs false
set_option linter.unusedVariables false
set_option linter.unusedSectionVars false
set_option linter.unnecessarySimpa false
set_option linter.defProp false
set_option maxRecDepth 100000
set_option maxHeartbeats 16000000
open Nat renaming reduceLT → yQ, reduceEqDiff → yK, reduceAdd → yV, reduceSub → yY, reduceMul → yU
open Int renaming reduceToNat → yW, reduceLE → yX, reduceEq → yZ, reduceLT → yJ
open List renaming getElem?_eq_getElem → qc, getElem?_take → qh, all_eq_true → qi, length_take → qj, getElem?_append → qm, getElem?_eq_some_iff → qp, drop_eq_getElem_cons → qq, mem_map → qr, range → qt, getElem?_map → qv, length_drop → qy, mem_append → qz, append_nil → qA, mem_of_getElem? → qC, length_map → qF, mem_range → qG, getElem?_drop → qI, getElem_range → qJ
open Array renaming getElem?_toList → qd, length_toList → qo
open Bool renaming and_eq_true → qe
open Nat renaming le_of_ble_eq_true → qf, zero_le → qk, add_mul → qw, zero_add → qB, mul_le_mul_right → qD, min_eq_left → qE, le_refl → qH
open Option renaming bind_eq_some_iff → qu, map_eq_some_iff → qx
namespace Go.Proofs.YteccmcpaheepcaaGreatDoor.Abs
open Go
section
variable [Defs]
abbrev AL:=List (Nat×Value)
def AL.get:AL→Nat→Option Value
 | [],_=>none
 |(s,v)::r,t=>if s=t then some v else AL.get r t
def Knows(n:Nat)(f:AL)(a:List Value):Prop:=a.length=n∧∀t v,AL.get f t=some v→a[t]?=some v
def AL.look(f:AL)(x:Operand):Option Value:=match x with
 |.tmp t=>AL.get f t
 |.const v=>if flat 3 v=true then some v else none
 |.func k=>some (.func (.func k) #[] #[])
 |.global _=>none
theorem Knows.look{n:Nat}{f:AL}{a:List Value}(h:Knows n f a)(x:Operand)(v:Value)(hx:AL.look f x=some v):JC a x=some v:=by
 cases x with
 |tmp t=>exact h.2 t v hx
 |const c=>exact hx
 |func k=>exact hx
 |global g=>cases hx
theorem Knows.put{n:Nat}{f:AL}{a:List Value}(h:Knows n f a){t:Nat}(ht:t<n)(v:Value):Knows n ((t,v)::f) (a.set t v):=by
 refine⟨by simp[h.1],fun s u hs=>?_⟩
 simp only[AL.get]at hs
 rw[List.getElem?_set]
 split at hs
 ·rename_i e
  rw[if_pos e,if_pos (by rw[h.1];exact ht)]
  exact hs
 ·rename_i e
  rw[if_neg e]
  exact h.2 s u hs
theorem Knows.less{n:Nat}{f f':AL}{a:List Value}(h:Knows n f a)(hs:∀t v,AL.get f' t=some v→AL.get f t=some v):Knows n f' a:=⟨h.1,fun t v hv=>h.2 t v (hs t v hv)⟩
class Box(α:Type) where
 k:α
def sPut(n:Nat)(d:Option Nat)(v:Value)(f:AL) [c:Box (AL→Prop)]:Prop:=match d with
 |none=>c.k f
 |some t=>t<n∧c.k ((t,v)::f)
theorem QO{n:Nat}{d:Option Nat}{v:Value}{f:AL}{k:AL→Prop}(h:@sPut n d v f ⟨k⟩){a:List Value}(ha:Knows n f a):∃f',Knows n f' (QQ a d v)∧k f':=by
 cases d with
 |none=>exact⟨f,ha,h⟩
 |some t=>exact⟨_,ha.put h.1 v,h.2⟩
def aBinI(op:BinOp)(k:IntKind)(a:Int)(k':IntKind)(b:Int):Option Value:=match op with
 |.shl=>if 0≤b then some (.int k (k.wrap (a*2^min b.toNat k.bits)))else none
 |.shr=>if 0≤b then some (.int k (a.fdiv (2^min b.toNat k.bits)))else none
 |op=>if k=k' then XP op k a b else none
theorem aBin_ii(P:Program)(op:BinOp)(t:TypeId)(cx:Bool)(k k':IntKind)(a b:Int):aBin P op t cx (.int k a) (.int k' b)=aBinI op k a k' b:=by cases op<;>rfl
theorem aBin_ss(P:Program)(op:BinOp)(t:TypeId)(cx:Bool)(a b:ByteArray):aBin P op t cx (.string a) (.string b)=aStr op a b:=rfl
def QP{α:Type}(o:Option α) [c:Box (α→Prop)]:Prop:=match o with
 |some v=>c.k v
 |none=>False
theorem withV_some{α:Type}(v:α)(k:α→Prop):@QP α (some v) ⟨k⟩=k v:=rfl
def Later [c:Box Prop]:Prop:=c.k
theorem withV_ite{α:Type}(c:Prop) [Decidable c] (o:Option α)(k:α→Prop):@QP α (if c then o else none) ⟨k⟩=(c∧@QP α o ⟨k⟩):=by
 by_cases h:c<;>simp[h,QP]
theorem Qb{α:Type}{o:Option α}{k:α→Prop}(h:@QP α o ⟨k⟩):∃v,o=some v∧k v:=by
 cases o with
 |none=>exact h.elim
 |some v=>exact⟨v,rfl,h⟩
def sArgs(g:UZ):List Operand→Option (List Value)
 | []=>some []
 |x::r=>match g x with
  |some v=>match sArgs g r with
   |some l=>some (v::l)
   |none=>none
  |none=>none
def sParts(g:UZ):List (Nat×Operand)→Option (List (Nat×Value))
 | []=>some []
 |(i,x)::r=>match g x with
  |some v=>match sParts g r with
   |some l=>some ((i,v)::l)
   |none=>none
  |none=>none
def sBin(P:Program)(op:BinOp)(t:TypeId)(cx:Bool)(x y:Option Value):Option Value:=match x,y with
 |some u,some v=>aBin P op t cx u v
 |_,_=>none
def sConv(P:Program)(get:Nat→Option Blk)(s d:TypeId)(x:Option Value):Option Value:=match x with
 |some (.int _ n)=>match P.underlying s with
  |some _=>match P.underlying d with
   |some (.int k)=>some (.int k (k.wrap n))
   |_=>none
  |none=>none
 |some (.string q)=>match P.underlying d with
  |some .string=>match P.underlying s with|some _=>some (.string q)|none=>none
  |_=>none
 |some x=>Xs P get s d x
 |none=>none
def sLookup(P:Program)(get:Nat→Option Blk)(t:TypeId)(x k:Option Value)(ok:Bool):Option Value:=match x with
 |some v=>match k with
  |some i=>Zz P get t v i ok
  |none=>none
 |none=>none
def sEntry(get:Nat→Option Blk)(x:Option Value):Option Value:=match x with
 |some v=>Ku get v
 |none=>none
def sVal(P:Program)(g:UZ)(get:Nat→Option Blk)(o:Op):Option Value:=
 match o with
 |.move x=>g x
 |.assign x=>g x
 |.pick c x y=>vPick (g c) (g x) (g y)
 |.build t ps=>vBuild P t (sParts g ps.toList)
 |.load t p=>vLoad P get t (g p)
 |.nilCheck x=>vNil (g x)
 |.binOp op t x y _=>sBin P op t (isC x||isC y) (g x) (g y)
 |.unOp op _ x=>vUn op (g x)
 |.convert s d x=>sConv P get s d (g x)
 |.makeInterface t x=>vIface P t (g x)
 |.makeFunc fn fs cs=>vFunc fn (sArgs g fs.toList) (sArgs g cs.toList)
 |.slice t x lo hi mx=>vSlice P get t (g x) (fOpt g lo) (fOpt g hi) mx
 |.fieldAddr t x f=>vFieldAddr P t (g x) f
 |.field t x f=>vField P t (g x) f
 |.indexAddr t x i=>vIndexAddr P t (g x) (g i)
 |.index t x i=>vIndex P t (g x) (g i)
 |.extract x i=>vExtract (g x) i
 |.call c=>vCall P c.callee c.argTypes.toList (sArgs g c.args.toList)
 |.lookup t x k ok=>sLookup P get t (g x) (g k) ok
 |.entry x=>sEntry get (g x)
 |_=>none
theorem VI(g:UZ):∀l,sArgs g l=fArgs g l
 | []=>rfl
 |x::r=>by
  have e:fArgs g (x::r)=match g x with|some v=>(match fArgs g r with|some r=>some (v::r)|none=>none)|none=>none:=rfl
  rw[e,←VI g r];rfl
theorem sParts_eq(g:UZ):∀l,sParts g l=fParts g l
 | []=>rfl
 |(i,x)::r=>by
  have e:fParts g ((i,x)::r)=match g x with|some v=>(match fParts g r with|some l=>some ((i,v)::l)|none=>none)|none=>none:=rfl
  rw[e,←sParts_eq g r];rfl
theorem Z9{P:Program}{g:UZ}{a:List Value}(hg:∀x v,g x=some v→JC a x=some v){get:Nat→Option Blk}{m:Mem}(hm:∀b x,get b=some x→m.get b=some x){o:Op}{v:Value}(h:sVal P g get o=some v):Jz P o a m=some (v,m):=by
 by_cases hb:∃op t x y ty,o=.binOp op t x y ty
 ·obtain⟨op,t,x,y,ty,rfl⟩:=hb
  simp only[sVal]at h
  unfold sBin at h
  split at h<;>first|(cases h;done)|skip
  rename_i u w hu hw
  simp only[Jz,hg x u hu,hg y w hw,h,QE]
 by_cases hc:∃s d x,o=.convert s d x
 ·obtain⟨s,d,x,rfl⟩:=hc
  simp only[sVal]at h
  unfold sConv at h
  split at h<;>first|(cases h;done)|skip
  ·rename_i k n hx
   split at h<;>first|(cases h;done)|skip
   rename_i hs
   split at h<;>first|(cases h;done)|skip
   rename_i k' hd
   cases h
   simp only[Jz,hg x _ hx,XL,hs,hd]
  ·rename_i q hx
   split at h<;>first|(cases h;done)|skip
   rename_i hd
   split at h<;>first|(cases h;done)|skip
   rename_i hs
   cases h
   simp only[Jz,hg x _ hx,XL,hd,hs]
  ·rename_i u hne hne' hx
   have:UV P m s d u=some v:=gToString_mono hm h
   simp only[Jz,hg x _ hx]
   unfold XL
   split
   ·exact absurd rfl (hne _ _)
   ·exact absurd rfl (hne' _)
   ·simp only[this]
 by_cases he:∃x,o=.entry x
 ·obtain⟨x,rfl⟩:=he
  simp only[sVal]at h
  unfold sEntry at h
  split at h<;>first|(cases h;done)|skip
  rename_i u hu
  simp only[Jz,hg x u hu,aEntry_mono hm h,QE]
 by_cases hl:∃t x k ok,o=.lookup t x k ok
 ·obtain⟨t,x,k,ok,rfl⟩:=hl
  simp only[sVal]at h
  unfold sLookup at h
  split at h<;>first|(cases h;done)|skip
  rename_i u hu
  split at h<;>first|(cases h;done)|skip
  rename_i i hi
  simp only[Jz,hg x u hu,hg k i hi,aLookup_mono hm h,QE]
 have e:fVal P g get o=sVal P g get o:=by
  cases o<;>simp only[fVal,sVal,VI,sParts_eq]<;>first|rfl|skip
  ·exact absurd ⟨_,_,_,_,_,rfl⟩ hb
  ·exact absurd ⟨_,_,_,rfl⟩ hc
  ·exact absurd ⟨_,_,_,_,rfl⟩ hl
  ·exact absurd ⟨_,rfl⟩ he
 exact fVal_spec hg hm (by rw[e];exact h)
def QS(P:Program)(t:TypeId)(v:Value):Option Blk:=if Jn v.cells.toList=true then some (.cells false (J6 P t) v.cells.toList)else none
def Qd(P:Program)(t:TypeId):Option Blk:=
 match P.info? t with
 |some i=>match i.zero with
  |some z=>if flat 3 z=true then QS P t z else none
  |none=>none
 |none=>none
def Jx(P:Program)(t:TypeId)(len:Nat)(parts:List (Nat×Value)):Option Blk:=
 match P.underlying t with
 |some (.slice e)=>match P.info? e with
  |some ie=>match ie.zero with
   |some z=>if flat 3 z=true∧len*ie.size≤16777216∧0<z.cells.toList.length∧Jn z.cells.toList=true∧parts.all (fun p=>Jn p.2.cells.toList)=true then
    match U1 (fun i=>some (i*ie.size,ie.size)) (Z7 z.cells.toList (len*ie.size)) parts with
    |some cs=>some (.cells false ie.size cs)
    |none=>none
    else none
   |none=>none
  |none=>none
 |_=>none
def VR(P:Program)(src dst:TypeId)(s:ByteArray):Option Blk:=
 match P.underlying src with
 |some .string=>match P.underlying dst with
  |some (.slice e)=>match P.underlying e with
   |some (.int .u8)=>if JA s≤140737488355328 then some (.cells false 1 (Qk s))else none
   |_=>none
  |_=>none
 |_=>none
def sNew(P:Program)(g:UZ)(n:Nat)(o:Op):Option (Value×Blk):=
 match o with
 |.alloc t=>match Qd P t with
  |some b=>some (.pointer (some ⟨n,0,none⟩),b)
  |none=>none
 |.box t x=>match g x with
  |some v=>match QS P t v with
   |some b=>some (.pointer (some ⟨n,0,none⟩),b)
   |none=>none
  |none=>none
 |.buildSlice t len ps=>match sParts g ps.toList with
  |some l=>match Jx P t len l with
   |some b=>some (.slice (some ⟨n,0,none⟩) len len,b)
   |none=>none
  |none=>none
 |.convert s d x=>match g x with
  |some (.string q)=>match P.underlying d with
   |some .string=>none
   |_=>match VR P s d q with
    |some b=>some (.slice (some ⟨n,0,none⟩) (JA q) (JA q),b)
    |none=>none
  |_=>none
 |.makeMap _ r=>match r with
  |none=>some (.map (some n),.kv false [] 0)
  |some _=>none
 |_=>none
theorem nBox_spec{P:Program}{m:Mem}{t:TypeId}{v:Value}{b:Blk}(h:QS P t v=some b):aBox P m t v=some (.pointer (some ⟨m.size,0,none⟩),m.push b)∧Vl (some b)=true:=by
 unfold QS at h
 unfold aBox
 split at h<;>first|(cases h;done)|skip
 rename_i hc
 cases h
 rw[if_pos hc]
 exact⟨rfl,rfl⟩
theorem sNew_spec{P:Program}{g:UZ}{a:List Value}(hg:∀x v,g x=some v→JC a x=some v){m:Mem}{o:Op}{v:Value}{b:Blk}(h:sNew P g m.size o=some (v,b)):Jz P o a m=some (v,m.push b)∧Vl (some b)=true:=by
 cases o<;>simp only[sNew]at h<;>first|(cases h;done)|skip
 case alloc t=>
  split at h<;>first|(cases h;done)|skip
  rename_i b' hb
  cases h
  unfold Qd at hb
  split at hb<;>first|(cases hb;done)|skip
  rename_i i hi
  split at hb<;>first|(cases hb;done)|skip
  rename_i z hz
  split at hb<;>first|(cases hb;done)|skip
  rename_i hf
  obtain⟨h1,h2⟩:=nBox_spec (m:=m) hb
  exact⟨by simp only[Jz,aAlloc,hi,hz,if_pos hf,h1],h2⟩
 case box t x=>
  split at h<;>first|(cases h;done)|skip
  rename_i u hu
  split at h<;>first|(cases h;done)|skip
  rename_i b' hb
  cases h
  obtain⟨h1,h2⟩:=nBox_spec (m:=m) hb
  exact⟨by simp only[Jz,hg x u hu,h1],h2⟩
 case buildSlice t len ps=>
  split at h<;>first|(cases h;done)|skip
  rename_i l hl
  rw[sParts_eq]at hl
  split at h<;>first|(cases h;done)|skip
  rename_i b' hb
  cases h
  unfold Jx at hb
  split at hb<;>first|(cases hb;done)|skip
  rename_i e hu
  split at hb<;>first|(cases hb;done)|skip
  rename_i ie hi
  split at hb<;>first|(cases hb;done)|skip
  rename_i z hz
  split at hb<;>first|(cases hb;done)|skip
  rename_i hc
  split at hb<;>first|(cases hb;done)|skip
  rename_i cs hcs
  cases hb
  exact⟨by simp only[Jz,fParts_spec hg _ hl,Ug,hu,hi,hz,if_pos hc,hcs],rfl⟩
 case convert s d x=>
  split at h<;>first|(cases h;done)|skip
  rename_i q hx
  split at h<;>first|(cases h;done)|skip
  rename_i hne
  split at h<;>first|(cases h;done)|skip
  rename_i b' hb
  cases h
  unfold VR at hb
  split at hb<;>first|(cases hb;done)|skip
  rename_i hs
  split at hb<;>first|(cases hb;done)|skip
  rename_i e hd
  split at hb<;>first|(cases hb;done)|skip
  rename_i he
  split at hb<;>first|(cases hb;done)|skip
  rename_i hc
  cases hb
  exact⟨by simp only[Jz,hg x _ hx,XL,hd,aToBytes,hs,he,if_pos hc],rfl⟩
 case makeMap t r=>
  cases r<;>simp only at h<;>first|(cases h;done)|skip
  cases h
  exact⟨rfl,rfl⟩
def sMem(P:Program)(g:UZ)(m:Mem)(o:Op):Option (Value×Mem):=
 match o with
 |.store t p x=>match g p with
  |some q=>match g x with
   |some v=>match Qe P m t q v with
    |some m'=>some (undef,m')
    |none=>none
   |none=>none
  |none=>none
 |.makeSlice t l c=>match g l with
  |some u=>match g c with
   |some v=>ZQ P m t u v
   |none=>none
  |none=>none
 |.call c=>match c.callee with
  |.builtin b=>match b with
   |.append=>match c.argTypes.toList with
    | [t,tx]=>match sArgs g c.args.toList with
      |some [s,x]=>JN P m t tx s x
      |_=>none
    |_=>none
   |.copy=>match c.argTypes.toList with
    | [t,tx]=>match sArgs g c.args.toList with
      |some [s,x]=>aCopy P m t tx s x
      |_=>none
    |_=>none
   |.clear=>match c.argTypes.toList with
    | [t]=>match sArgs g c.args.toList with
      |some [x]=>match aClear P m t x with
       |some m'=>some (.tuple #[],m')
       |none=>none
      |_=>none
    |_=>none
   |_=>none
  |_=>none
 |.mapUpdate t x k y=>match g x with
  |some v=>match g k with
   |some i=>match g y with
    |some u=>match ZP P m t v i u with
     |some m'=>some (undef,m')
     |none=>none
    |none=>none
   |none=>none
  |none=>none
 |.range t x=>match g x with
  |some v=>aRange P m t v
  |none=>none
 |_=>none
theorem sMem_spec{P:Program}{g:UZ}{a:List Value}(hg:∀x v,g x=some v→JC a x=some v){m m':Mem}{o:Op}{v:Value}(h:sMem P g m o=some (v,m')):Jz P o a m=some (v,m'):=by
 cases o<;>simp only[sMem]at h<;>first|(cases h;done)|skip
 case store t p x=>
  split at h<;>first|(cases h;done)|skip
  rename_i q hq
  split at h<;>first|(cases h;done)|skip
  rename_i u hu
  split at h<;>first|(cases h;done)|skip
  rename_i m1 h1
  cases h
  simp only[Jz,hg p q hq,hg x u hu,h1]
 case makeSlice t l c=>
  split at h<;>first|(cases h;done)|skip
  rename_i u hu
  split at h<;>first|(cases h;done)|skip
  rename_i q hq
  simp only[Jz,hg l u hu,hg c q hq,h]
 case call c=>
  obtain⟨callee,args,ts⟩:=c
  cases callee<;>simp only at h<;>first|(cases h;done)|skip
  rename_i b
  cases b<;>simp only at h<;>first|(cases h;done)|skip
  case append=>
   split at h<;>first|(cases h;done)|skip
   rename_i t tx ht
   split at h<;>first|(cases h;done)|skip
   rename_i s x hxs
   rw[VI]at hxs
   simp only[Jz,Xi hg _ hxs,VD,ht,h]
  case copy=>
   split at h<;>first|(cases h;done)|skip
   rename_i t tx ht
   split at h<;>first|(cases h;done)|skip
   rename_i s x hxs
   rw[VI]at hxs
   simp only[Jz,Xi hg _ hxs,VD,ht,h]
  case clear=>
   split at h<;>first|(cases h;done)|skip
   rename_i t ht
   split at h<;>first|(cases h;done)|skip
   rename_i x hxs
   split at h<;>first|(cases h;done)|skip
   rename_i m1 h1
   cases h
   rw[VI]at hxs
   simp only[Jz,Xi hg _ hxs,VD,ht,h1]
 case mapUpdate t x k y=>
  split at h<;>first|(cases h;done)|skip
  rename_i u hu
  split at h<;>first|(cases h;done)|skip
  rename_i i hi
  split at h<;>first|(cases h;done)|skip
  rename_i y hy
  split at h<;>first|(cases h;done)|skip
  rename_i m1 h1
  cases h
  simp only[Jz,hg x u hu,hg k i hi,hg _ _ hy,h1]
 case range t x=>
  split at h<;>first|(cases h;done)|skip
  rename_i u hu
  simp only[Jz,hg x u hu,h]
def sAny(g:UZ)(o:Op)(m:Mem):Option (Value→Mem→Prop):=match o with
 |.next it isS=>match isS with
  |false=>match g it with
   |some v=>aNext m v
   |none=>none
  |true=>none
 |_=>none
theorem sAny_spec{g:UZ}{a:List Value}(hg:∀x v,g x=some v→JC a x=some v){m:Mem}{o:Op}{R:Value→Mem→Prop}(h:sAny g o m=some R):evAny o a m=some R:=by
 cases o<;>simp only[sAny]at h<;>first|(cases h;done)|skip
 rename_i it isS
 cases isS<;>simp only at h<;>first|(cases h;done)|skip
 split at h<;>first|(cases h;done)|skip
 rename_i v hv
 simp only[evAny,hg it v hv,h]
inductive Kind|val|new|mem|fn|any
def kindB(b:Builtin):Kind:=match b with
 |.append=>.mem
 |.clear=>.mem
 |.copy=>.mem
 |_=>.val
def kindC(c:Callee):Kind:=match c with
 |.builtin b=>kindB b
 |_=>.fn
def kindT(d:Option TypeDesc):Kind:=match d with
 |some (.slice _)=>.new
 |_=>.val
def kind(P:Program)(o:Op):Kind:=
 match o with
 |.alloc _=>.new
 |.box .. =>.new
 |.buildSlice .. =>.new
 |.store .. =>.mem
 |.makeSlice .. =>.mem
 |.makeMap .. =>.new
 |.mapUpdate .. =>.mem
 |.range .. =>.mem
 |.next .. =>.any
 |.convert _ d _=>kindT (P.underlying d)
 |.call c=>kindC c.callee
 |_=>.val
def sCallee(g:UZ)(o:Op):Option (FuncId×List Value):=match o with
 |.call c=>match c.callee with
  |.value f=>match g f with
   |some (.func (.func k) fs cs)=>match sArgs g c.args.toList with
    |some xs=>some (k,fs.toList++xs++cs.toList)
    |none=>none
   |_=>none
  |_=>none
 |_=>none
theorem sCallee_eq(g:UZ)(o:Op):sCallee g o=fCallee g o:=by
 cases o<;>simp only[sCallee,fCallee,VI]<;>rfl
def sOp(P:Program)(o:Op)(f:AL)(m:Mem) [c:Box (Value→Mem→Prop)]:Prop:=
 match kind P o with
 |.val=>@QP _ (sVal P (AL.look f) m.get o) ⟨fun v=>c.k v m⟩
 |.new=>@QP _ (sNew P (AL.look f) m.size o) ⟨fun p=>c.k p.1 (m.push p.2)⟩
 |.mem=>@QP _ (sMem P (AL.look f) m o) ⟨fun p=>c.k p.1 p.2⟩
 |.fn=>@QP _ (sCallee (AL.look f) o) ⟨fun p=>Qf P p.1=true∧∃R,Spec P p.1 p.2 m R∧@Later ⟨∀v m',R v m'→c.k v m'⟩⟩
 |.any=>@QP _ (sAny (AL.look f) o m) ⟨fun R=>@Later ⟨∀v m',R v m'→c.k v m'⟩⟩
def sGuard(all:List Oper)(o:Oper)(f:AL) [y:Box (Unit→Prop)] [n:Box (Nat→Prop)]:Prop:=match o.guard with
 |none=>y.k ()
 |some (j,w)=>match all[j]? with
  |some p=>match p.dst with
   |some t=>match AL.get f t with
    |some (.bool b)=>if Region.wanted o (fun _=>some b)=true then y.k ()else n.k 0
    |some (.tuple _)=>if Region.wanted o (fun _=>none)=true then y.k ()else n.k 0
    |_=>False
   |none=>False
  |none=>False
theorem sGuard_spec{all:List Oper}{o:Oper}{f:AL}{y n:Prop}(h:@sGuard all o f ⟨fun _=>y⟩ ⟨fun _=>n⟩){k:Nat}{a:List Value}(ha:Knows k f a):(Region.wanted o (JL all a)=true∧y)∨(Region.wanted o (JL all a)=false∧n):=by
 unfold sGuard at h
 split at h
 ·rename_i hg
  left
  exact⟨by unfold Region.wanted;rw[hg],h⟩
 ·rename_i j w hg
  have key:∀r:Option Bool,JL all a j=r→Region.wanted o (JL all a)=Region.wanted o fun _=>r:=fun r hr=>
   Zg o fun i b hi=>by rw[hg]at hi;cases hi;exact hr
  split at h<;>first|exact h.elim|skip
  rename_i p hp
  split at h<;>first|exact h.elim|skip
  rename_i t ht
  split at h<;>first|exact h.elim|skip
  ·rename_i b hb
   rw[key (some b) (by simp only[JL,hp,ht,ha.2 t _ hb])]
   split at h
   ·rename_i hw;exact .inl ⟨hw,h⟩
   ·rename_i hw;exact .inr ⟨by simpa using hw,h⟩
  ·rename_i cs hb
   rw[key none (by simp only[JL,hp,ht,ha.2 t _ hb])]
   split at h
   ·rename_i hw;exact .inl ⟨hw,h⟩
   ·rename_i hw;exact .inr ⟨by simpa using hw,h⟩
def sWant(all:List Oper)(o:Oper)(f:AL):Option Bool:=match o.guard with
 |none=>some true
 |some (j,w)=>match all[j]? with
  |some p=>match p.dst with
   |some t=>match AL.get f t with
    |some (.bool b)=>some (Region.wanted o fun _=>some b)
    |some (.tuple _)=>some (Region.wanted o fun _=>none)
    |_=>none
   |none=>none
  |none=>none
theorem K7{all:List Oper}{o:Oper}{f:AL}{b:Bool}(h:sWant all o f=some b){k:Nat}{a:List Value}(ha:Knows k f a):Region.wanted o (JL all a)=b:=by
 unfold sWant at h
 split at h
 ·rename_i hg
  cases h
  unfold Region.wanted
  rw[hg]
 ·rename_i j w hg
  have key:∀r:Option Bool,JL all a j=r→Region.wanted o (JL all a)=Region.wanted o fun _=>r:=fun r hr=>
   Zg o fun i b hi=>by rw[hg]at hi;cases hi;exact hr
  split at h<;>first|(cases h;done)|skip
  rename_i p hp
  split at h<;>first|(cases h;done)|skip
  rename_i t ht
  split at h<;>first|(cases h;done)|skip
  ·rename_i b hb
   cases h
   exact key (some b) (by simp only[JL,hp,ht,ha.2 t _ hb])
  ·rename_i cs hb
   cases h
   exact key none (by simp only[JL,hp,ht,ha.2 t _ hb])
def sFun(P:Program)(o:Op)(f:AL)(m:Mem):Option (Value×Mem):=match kind P o with
 |.val=>match sVal P (AL.look f) m.get o with
  |some v=>some (v,m)
  |none=>none
 |.new=>match sNew P (AL.look f) m.size o with
  |some p=>some (p.1,m.push p.2)
  |none=>none
 |.mem=>sMem P (AL.look f) m o
 |.fn=>none
 |.any=>none
theorem sFun_spec{P:Program}{o:Op}{f:AL}{m m':Mem}{v:Value}(h:sFun P o f m=some (v,m')){k:Nat}{a:List Value}(ha:Knows k f a):Jz P o a m=some (v,m'):=by
 have hg:=ha.look
 unfold sFun at h
 split at h
 ·split at h<;>first|(cases h;done)|skip
  rename_i u hu
  cases h
  exact Z9 hg (fun _ _ h=>h) hu
 ·split at h<;>first|(cases h;done)|skip
  rename_i p hp
  cases h
  exact(sNew_spec hg hp).1
 ·exact sMem_spec hg h
 ·cases h
 ·cases h
def sGuarded(w:Option Bool)(x:Option (Value×Mem))(m:Mem):Option (Value×Mem):=match w with
 |some true=>x
 |some false=>some (undef,m)
 |none=>none
def isFn:Kind→Bool
 |.fn=>true
 |.any=>true
 |_=>false
def sOne(P:Program)(n:Nat)(all:List Oper)(o:Oper)(f:AL)(m:Mem) [c:Box (AL→Mem→Prop)]:Prop:=match o.guard with
 |none=>@sOp P o.op f m ⟨fun v m'=>@sPut n o.dst v f ⟨fun f'=>c.k f' m'⟩⟩
 |some _=>match isFn (kind P o.op)with
  |false=>@QP _ (sGuarded (sWant all o f) (sFun P o.op f m) m) ⟨fun p=>@sPut n o.dst p.1 f ⟨fun f'=>c.k f' p.2⟩⟩
  |true=>@sGuard all o f ⟨fun _=>@sOp P o.op f m ⟨fun v m'=>@sPut n o.dst v f ⟨fun f'=>c.k f' m'⟩⟩⟩ ⟨fun _=>@sPut n o.dst undef f ⟨fun f'=>c.k f' m⟩⟩
def sOpsB(P:Program)(n:Nat)(all:List Oper) [K:Box (AL→Mem→Prop)]:List Oper→AL→Mem→Prop
 | [],f,m=>K.k f m
 |o::r,f,m=>@sOne P n all o f m ⟨sOpsB P n all r⟩
def sOps(P:Program)(n:Nat)(all:List Oper)(K:AL→Mem→Prop)(l:List Oper)(f:AL)(m:Mem):Prop:=@sOpsB P n all ⟨K⟩ l f m
theorem sOp_run{P:Program}{n:Nat}{all:List Oper}{o:Oper}{f:AL}{m:Mem}{a:List Value}{Q:List Value→Mem→Prop}{r:List Oper}(ha:Knows n f a)(hw:Region.wanted o (JL all a)=true){next:AL→Mem→Prop}
 (h:@sOp P o.op f m ⟨fun v m'=>@sPut n o.dst v f ⟨fun f'=>next f' m'⟩⟩) (hn:∀f' m' a',Knows n f' a'→next f' m'→Xk P all Q r a' m'):Xk P all Q (o::r) a m:=by
 simp only[Xk]
 rw[if_pos hw]
 have hg:=ha.look
 unfold sOp at h
 split at h
 ·obtain⟨v,h1,h2⟩:=Qb h
  obtain⟨f',h3,h4⟩:=QO h2 ha
  exact .inl ⟨v,m,Z9 hg (fun _ _ h=>h) h1,hn f' m _ h3 h4⟩
 ·obtain⟨⟨v,b⟩,h1,h2⟩:=Qb h
  obtain⟨f',h3,h4⟩:=QO h2 ha
  exact .inl ⟨v,_,(sNew_spec hg h1).1,hn f' _ _ h3 h4⟩
 ·obtain⟨⟨v,m1⟩,h1,h2⟩:=Qb h
  obtain⟨f',h3,h4⟩:=QO h2 ha
  exact .inl ⟨v,m1,sMem_spec hg h1,hn f' _ _ h3 h4⟩
 ·obtain⟨⟨k,xs⟩,h1,he,R,hsp,h2⟩:=Qb h
  rw[sCallee_eq]at h1
  refine .inr (.inl ⟨k,xs,R,Km hg h1,he,hsp,fun v m' hR=>?_⟩)
  obtain⟨f',h3,h4⟩:=QO (h2 v m' hR) ha
  exact hn f' _ _ h3 h4
 ·obtain⟨R,h1,h2⟩:=Qb h
  refine .inr (.inr ⟨R,sAny_spec hg h1,fun v m' hR=>?_⟩)
  obtain⟨f',h3,h4⟩:=QO (h2 v m' hR) ha
  exact hn f' _ _ h3 h4
theorem V8{P:Program}{n:Nat}{all:List Oper}{K:AL→Mem→Prop}{Q:List Value→Mem→Prop}(hK:∀f m a,Knows n f a→K f m→Q a m):∀(l:List Oper)(f:AL)(m:Mem)(a:List Value),Knows n f a→sOps P n all K l f m→Xk P all Q l a m
 | [],f,m,a,ha,h=>hK f m a ha h
 |o::r,f,m,a,ha,h=>by
  have next:∀f' m' a',Knows n f' a'→sOps P n all K r f' m'→Xk P all Q r a' m':=fun f' m' a' h1 h2=>V8 hK r f' m' a' h1 h2
  simp only[sOps,sOpsB,sOne]at h
  have skip:Region.wanted o (JL all a)=false→(@sPut n o.dst undef f ⟨fun f'=>sOps P n all K r f' m⟩)→Xk P all Q (o::r) a m:=fun hw h=>by
   simp only[Xk]
   rw[if_neg (by rw[hw];simp)]
   obtain⟨f',h3,h4⟩:=QO h ha
   exact next f' _ _ h3 h4
  split at h
  ·rename_i hg
   exact sOp_run ha (by unfold Region.wanted;rw[hg]) h next
  ·split at h
   ·obtain⟨⟨v,m'⟩,h1,h2⟩:=Qb h
    unfold sGuarded at h1
    split at h1
    ·rename_i hw
     obtain⟨f',h3,h4⟩:=QO h2 ha
     simp only[Xk]
     rw[if_pos (K7 hw ha)]
     exact .inl ⟨v,m',sFun_spec h1 ha,next f' _ _ h3 h4⟩
    ·rename_i hw
     cases h1
     exact skip (K7 hw ha) h2
    ·cases h1
   ·rcases sGuard_spec h ha with⟨hw,h⟩|⟨hw,h⟩
    ·exact sOp_run ha hw h next
    ·exact skip hw h
def SW(P:Program)(n:Nat)(c:Code)(Q:Exit→AL→Mem→Prop)(f:AL)(m:Mem):Prop:=
 ∀a,Knows n f a→AW P c (fun e a' m'=>∃f',Knows n f' a'∧Q e f' m') a m
section
variable {P : Program} {n : Nat} {Q : Exit → AL → Mem → Prop} {f : AL} {m : Mem}
theorem SW.mono{c:Code}{Q':Exit→AL→Mem→Prop}(h:SW P n c Q f m)(hq:∀e f m,Q e f m→Q' e f m):SW P n c Q' f m:=
 fun a ha=>(h a ha).mono fun _ _ _ ⟨f',h1,h2⟩=>⟨f',h1,hq _ _ _ h2⟩
theorem SW.less{c:Code}{f':AL}(h:SW P n c Q f' m)(hs:∀t v,AL.get f' t=some v→AL.get f t=some v):SW P n c Q f m:=fun a ha=>h a (ha.less hs)
theorem Q2(h:Q .normal f m):SW P n .skip Q f m:=fun _ ha=>AW_skip ⟨f,ha,h⟩
theorem Qz{i:Nat}(h:Q (.exit i) f m):SW P n (.exit i) Q f m:=fun _ ha=>AW_exit ⟨f,ha,h⟩
theorem X4(h:Q .ret f m):SW P n .ret Q f m:=fun _ ha=>AW_ret ⟨f,ha,h⟩
def sThen(next:AL→Mem→Prop)(Q:Exit→AL→Mem→Prop):Exit→AL→Mem→Prop
 |.normal,f,m=>next f m
 |e,f,m=>Q e f m
theorem J4{x y:Code}(h:SW P n x (sThen (SW P n y Q) Q) f m):SW P n (.seq x y) Q f m:=fun a ha=>by
 refine AW_seq ((h a ha).mono ?_)
 rintro e a' m' ⟨f',h1,h2⟩
 cases e with
 |normal=>exact h2 a' h1
 |_=>exact⟨f',h1,h2⟩
theorem JZ{c:Operand}{x y:Code}(t:Bool)(hc:AL.look f c=some (.bool t))(ht:t=true→SW P n x Q f m)(hf:t=false→SW P n y Q f m):SW P n (.cond c x y) Q f m:=
 fun a ha=>AW_cond (ha.look c _ hc) (fun e=>ht e a ha) (fun e=>hf e a ha)
def sBlock(i:Nat)(Q:Exit→AL→Mem→Prop):Exit→AL→Mem→Prop
 |.exit j,f,m=>if j=i then Q .normal f m else Q (.exit j) f m
 |e,f,m=>Q e f m
theorem Js{i:Nat}{c:Code}(h:SW P n c (sBlock i Q) f m):SW P n (.block i c) Q f m:=fun a ha=>by
 refine AW_block ((h a ha).mono ?_)
 rintro e a' m' ⟨f',h1,h2⟩
 cases e with
 |exit j=>
  simp only[sBlock]at h2
  simp only[inBlockA]
  split
  ·rename_i e;rw[if_pos e]at h2;exact⟨f',h1,h2⟩
  ·rename_i e;rw[if_neg e]at h2;exact⟨f',h1,h2⟩
 |_=>exact⟨f',h1,h2⟩
theorem SW_loop{c:Code}(I:Nat→AL→Mem→Prop)(k₀:Nat)(h₀:I k₀ f m)(round:∀k f m,I k f m→SW P n c (sThen (fun f' m'=>∃k',I k' f' m'∧k'<k) Q) f m):SW P n (.loop c) Q f m:=fun a ha=>by
 let J:Nat→List Value→Mem→Prop:=fun k a m=>∃f,Knows n f a∧I k f m
 have key:∀k a m,J k a m→AW P (.loop c) (fun e a' m'=>∃f',Knows n f' a'∧Q e f' m') a m:=by
  intro k a m hJ ι₀ m₀ w₀ ι act w hs ha hr
  have run:∀k a m,J k a m→∀(ι₀:Nat→Loc)(m₀:Mem)(w₀:World)(ι:Nat→Loc)(act:Act)(w:World),Step ι₀ m₀ w₀ ι m w→ARel m.Has ι a act→Rel ι m w→
   Code.rounds P c (UY ι₀ m₀ w₀ fun e a' m'=>∃f',Knows n f' a'∧Q e f' m') (k+1) act w:=by
   intro k
   induction k using Nat.strongRecOn with
   |_ k ih=>
    rintro a m ⟨f,hf,hI⟩ ι₀ m₀ w₀ ι act w hs ha hr
    refine wp_mono (round k f m hI a hf ι₀ m₀ w₀ ι act w hs ha hr) ?_
    rintro e act2 w2 ⟨κ,a2,m2,⟨f2,hf2,hq2⟩,ha2,hr2,hs2⟩
    cases e with
    |normal=>
     obtain⟨k',hI',hlt⟩:=hq2
     have:=ih k' hlt a2 m2 ⟨f2,hf2,hI'⟩ ι₀ m₀ w₀ κ act2 w2 hs2 ha2 hr2
     exact rounds_le this (by omega)
    |_=>exact⟨κ,a2,m2,⟨f2,hf2,hq2⟩,ha2,hr2,hs2⟩
  exact wp_loop_rounds (k+1) (run k a m hJ ι₀ m₀ w₀ ι act w hs ha hr)
 exact key k₀ a m ⟨f,ha,h₀⟩
where
 rounds_le {c:Code} {Q:Exit→Act→World→Prop}:∀{j k:Nat}{a:Act}{w:World},Code.rounds P c Q j a w→j≤k→Code.rounds P c Q k a w
 |0,_,_,_,h,_=>h.elim
 |j+1,0,_,_,_,h=>by omega
 |j+1,k+1,a,w,h,hle=>wp_mono h fun e a' w' hq=>by
  cases e with
  |normal=>exact rounds_le hq (by omega)
  |_=>exact hq
theorem J2{id:Nat}{ops:Array Oper}(h:sOps P n ops.toList (Q .normal) ops.toList f m):SW P n (.region id ops false) Q f m:=
 fun a ha=>AW_region (V8 (fun f m a h1 h2=>⟨f,h1,h2⟩) _ f m a ha h)
end
end
end Go.Proofs.YteccmcpaheepcaaGreatDoor.Abs
namespace Go.Proofs.YteccmcpaheepcaaGreatDoor.Abs
open Go Go.RowKit
section
variable [Defs]
def isVal:Kind→Bool
 |.val=>true
 |_=>false
def sGuardedV(w:Option Bool)(x:Option Value):Option Value:=match w with
 |some true=>x
 |some false=>some undef
 |none=>none
def QB(P:Program)(n:Nat)(m0:Mem)(al:Bool)(o:Oper)(f:AL)(M:Mem) [c:Box (Bool→AL→Mem→Prop)]:Prop:=match kind P o.op with
 |.val=>@QP _ (sVal P (AL.look f) m0.get o.op) ⟨fun v=>@sPut n o.dst v f ⟨fun f'=>c.k al f' M⟩⟩
 |.new=>@QP _ (sNew P (AL.look f) M.size o.op) ⟨fun p=>@sPut n o.dst p.1 f ⟨fun f'=>c.k true f' (M.push p.2)⟩⟩
 |.mem=>False
 |.fn=>al=false∧@QP _ (sCallee (AL.look f) o.op) ⟨fun p=>Qf P p.1=true∧@Later ⟨∃v N,Spec P p.1 p.2 m0 (fun u m'=>u=v∧m'=m0.app N)∧N.all Vl=true∧@sPut n o.dst v f ⟨fun f'=>c.k (!N.isEmpty) f' (M.app N)⟩⟩⟩
 |.any=>False
def Qc(P:Program)(n:Nat)(all:List Oper)(m0:Mem)(al:Bool)(o:Oper)(f:AL)(M:Mem) [c:Box (Bool→AL→Mem→Prop)]:Prop:=match o.guard with
 |none=>@QB P n m0 al o f M c
 |some _=>match isVal (kind P o.op)with
  |true=>@QP _ (sGuardedV (sWant all o f) (sVal P (AL.look f) m0.get o.op)) ⟨fun v=>@sPut n o.dst v f ⟨fun f'=>c.k al f' M⟩⟩
  |false=>@sGuard all o f ⟨fun _=>@QB P n m0 al o f M c⟩ ⟨fun _=>@sPut n o.dst undef f ⟨fun f'=>c.k al f' M⟩⟩
def JM(P:Program)(n:Nat)(all:List Oper)(m0:Mem) [K:Box (AL→Mem→Prop)]:List Oper→Bool→AL→Mem→Prop
 | [],_,f,M=>K.k f M
 |o::r,al,f,M=>@Qc P n all m0 al o f M ⟨JM P n all m0 r⟩
def Uk(P:Program)(n:Nat)(all:List Oper)(m0:Mem)(K:AL→Mem→Prop)(al:Bool)(l:List Oper)(f:AL)(M:Mem):Prop:=@JM P n all m0 ⟨K⟩ l al f M
def sHOp(P:Program)(n:Nat)(m0:Mem)(al:Bool)(o:Oper)(f:AL)(M:Mem) [c:Box (Bool→AL→Mem→Prop)]:Prop:=match kind P o.op with
 |.val=>@QP _ (sVal P (AL.look f) m0.get o.op) ⟨fun v=>@sPut n o.dst v f ⟨fun f'=>c.k al f' M⟩⟩
 |.new=>@QP _ (sNew P (AL.look f) M.size o.op) ⟨fun p=>@sPut n o.dst p.1 f ⟨fun f'=>c.k true f' (M.push p.2)⟩⟩
 |.mem=>False
 |.fn=>al=false∧@QP _ (sCallee (AL.look f) o.op) ⟨fun p=>Qf P p.1=true∧@Later ⟨∃v,Spec P p.1 p.2 m0 (fun u m'=>u=v∧m'=m0)∧@sPut n o.dst v f ⟨fun f'=>c.k al f' M⟩⟩⟩
 |.any=>False
def sHOne(P:Program)(n:Nat)(all:List Oper)(m0:Mem)(al:Bool)(o:Oper)(f:AL)(M:Mem) [c:Box (Bool→AL→Mem→Prop)]:Prop:=match o.guard with
 |none=>@sHOp P n m0 al o f M c
 |some _=>match isVal (kind P o.op)with
  |true=>@QP _ (sGuardedV (sWant all o f) (sVal P (AL.look f) m0.get o.op)) ⟨fun v=>@sPut n o.dst v f ⟨fun f'=>c.k al f' M⟩⟩
  |false=>@sGuard all o f ⟨fun _=>@sHOp P n m0 al o f M c⟩ ⟨fun _=>@sPut n o.dst undef f ⟨fun f'=>c.k al f' M⟩⟩
def sHeadB(P:Program)(n:Nat)(all:List Oper)(m0:Mem) [K:Box (AL→Mem→Prop)]:List Oper→Bool→AL→Mem→Prop
 | [],_,f,M=>K.k f M
 |o::r,al,f,M=>@sHOne P n all m0 al o f M ⟨sHeadB P n all m0 r⟩
def sHead(P:Program)(n:Nat)(all:List Oper)(m0:Mem)(K:AL→Mem→Prop)(al:Bool)(l:List Oper)(f:AL)(M:Mem):Prop:=@sHeadB P n all m0 ⟨K⟩ l al f M
theorem still_kind{P:Program}{o:Op}(h:still o=true):kind P o=.val:=by
 cases o<;>simp only[still]at h<;>first|(cases h;done)|rfl
theorem sHead_runG(b:Nat)(V0:Nat→Value)(N0:Nat→List (Option Blk)){P:Program}{n:Nat}{ops:Array Oper}{m₀:Mem}{a₀:List Value}{q:Nat}{K:AL→Mem→Prop}(hq:Xt ops q=true)(hqs:q≤ops.size):
 ∀(l:List Oper)(k:Nat)(vs:List Value)(Ns:List (List (Option Blk)))(al:Bool)(f:AL)(M:Mem),(∀j,l[j]?=if k+j<q then ops[k+j]? else none)→k≤q→vs.length=k→Ns.length=k→
  Knows n f (Jd ops (JX vs) allS a₀ k)→M=Jq m₀ (JH Ns) allS k→(al=false→∀j,JH Ns j=[])→(∀j,j<k→(JH Ns j).all Vl=true)→
  (∀i o,b≤i→i<k→ops[i]?=some o→DOp P ops a₀ m₀ (JX vs) (JH Ns) i o)→(∀i o,b≤i→i<k→ops[i]?=some o→kind P o.op=.val→o.guard=none→Jz P o.op (Uc ops a₀ (JX vs) i) (X6 ops m₀ (JH Ns) i)=some (JX vs i,X6 ops m₀ (JH Ns) i)∧JH Ns i=[])→b≤k→(∀j,j<b→JX vs j=V0 j∧JH Ns j=N0 j)→Uk P n ops.toList m₀ K al l f M→
  ∃vs' Ns' f',Knows n f' (Jd ops (JX vs') allS a₀ q)∧K f' (Jq m₀ (JH Ns') allS q)∧(∀j,j<q→(JH Ns' j).all Vl=true)∧(∀i o,b≤i→i<q→ops[i]?=some o→DOp P ops a₀ m₀ (JX vs') (JH Ns') i o)∧(∀i o,b≤i→i<q→ops[i]?=some o→kind P o.op=.val→o.guard=none→Jz P o.op (Uc ops a₀ (JX vs') i) (X6 ops m₀ (JH Ns') i)=some (JX vs' i,X6 ops m₀ (JH Ns') i)∧JH Ns' i=[])∧(∀j,j<b→JX vs' j=V0 j∧JH Ns' j=N0 j):=by
 have hq0:=hq
 simp only[Xt,qe]at hq
 obtain⟨⟨hsel,hback⟩,hap⟩:=hq
 intro l
 induction l with
 |nil=>
  intro k vs Ns al f M hl hkq hvs hNs hf hm hal hown hd hst hbk hkeep h
  have hk:k=q:=by
   have h0:=hl 0
   rcases Nat.lt_or_ge k q with h1|h1
   ·rw[if_pos (by omega),Nat.add_zero,Array.getElem?_eq_getElem (show k<ops.size by omega)]at h0
    cases h0
   ·omega
  subst hk
  exact⟨vs,Ns,f,hf,by rw[←hm];exact h,hown,hd,hst,hkeep⟩
 |cons o l ih=>
  intro k vs Ns al f M hl hkq hvs hNs hf hm hal hown hd hst hbk hkeep h
  have hk:k<q∧ops[k]?=some o:=by
   have h0:=hl 0
   rcases Nat.lt_or_ge k q with h1|h1
   ·rw[if_pos (by omega),Nat.add_zero]at h0
    exact⟨h1,by simpa using h0.symm⟩
   ·rw[if_neg (by omega)]at h0;cases h0
  obtain⟨hkq',hko⟩:=hk
  obtain⟨a,ha⟩:∃a,a=Jd ops (JX vs) allS a₀ k:=⟨_,rfl⟩
  rw[←ha]at hf
  have hslot:∀t,t∈o.looksAt ops→(Uc ops a₀ (JX vs) k)[t]?=a[t]?:=fun t ht=>by rw[ha];exact slot_all hap hkq' hqs hko ht
  have hev:∀x∈o.op.operands,JC (Uc ops a₀ (JX vs) k) x=JC a x:=by
   intro x hx
   cases x with
   |tmp t=>
    simp only[JC]
    refine hslot t ?_
    simp only[Oper.looksAt,qz,List.mem_filterMap]
    exact .inl ⟨.tmp t,by simpa using hx,rfl⟩
   |_=>rfl
  have hwant:Region.wanted o (JL ops.toList (Uc ops a₀ (JX vs) k))=Region.wanted o (JL ops.toList a):=by
   refine Zg o fun g b hg=>?_
   unfold JL
   simp only[qd]
   cases hog:ops[g]? with
   |none=>rfl
   |some og=>
    cases hdg:og.dst with
    |none=>simp[hdg]
    |some t=>
     simp only[hdg]
     rw[hslot t (by simp[Oper.looksAt,hg,hog,hdg])]
  have next:∀(v:Value)(N:List (Option Blk))(al':Bool)(f1:AL),DOp P ops a₀ m₀ (JX (vs++[v])) (JH (Ns++[N])) k o→(kind P o.op=.val→o.guard=none→Jz P o.op (Uc ops a₀ (JX (vs++[v])) k) (X6 ops m₀ (JH (Ns++[N])) k)=some (v,X6 ops m₀ (JH (Ns++[N])) k)∧N=[])→N.all Vl=true→Knows n f1 (QQ a o.dst v)→(al'=false→al=false∧N=[])→
   Uk P n ops.toList m₀ K al' l f1 (M.app N)→
   ∃vs' Ns' f',Knows n f' (Jd ops (JX vs') allS a₀ q)∧K f' (Jq m₀ (JH Ns') allS q)∧(∀j,j<q→(JH Ns' j).all Vl=true)∧(∀i o,b≤i→i<q→ops[i]?=some o→DOp P ops a₀ m₀ (JX vs') (JH Ns') i o)∧(∀i o,b≤i→i<q→ops[i]?=some o→kind P o.op=.val→o.guard=none→Jz P o.op (Uc ops a₀ (JX vs') i) (X6 ops m₀ (JH Ns') i)=some (JX vs' i,X6 ops m₀ (JH Ns') i)∧JH Ns' i=[])∧(∀j,j<b→JX vs' j=V0 j∧JH Ns' j=N0 j):=by
   intro v N al' f1 hD hSt hNo hf1 hal' h
   have hlow:∀j,j<k→JX vs j=JX (vs++[v]) j:=fun j hj=>by rw[Vd,if_pos (by omega)]
   have hlowN:∀j,j<k→JH Ns j=JH (Ns++[N]) j:=fun j hj=>by rw[Ve,if_pos (by omega)]
   have gN:JH (Ns++[N]) k=N:=by rw[Ve,if_neg (by omega),if_pos (by omega)]
   have hmem:Jq m₀ (JH (Ns++[N])) allS k=Jq m₀ (JH Ns) allS k:=by
    unfold Jq
    rw[XT k fun j hj=>(hlowN j hj).symm]
   refine ih (k+1) (vs++[v]) (Ns++[N]) al' f1 (M.app N) (fun j=>?_) (by omega) (by simp[hvs]) (by simp[hNs]) ?_ ?_ (fun he j=>?_) (fun j hj=>?_) (fun i oi hbi hi hoi=>?_) (fun i oi hbi hi hoi hsi hgi=>?_) (by omega) (fun j hj=>by rw[←hlow j (by omega),←hlowN j (by omega)];exact hkeep j hj) h
   ·have:=hl (j+1)
    rw[List.getElem?_cons_succ]at this
    rw[this,show k+(j+1)=k+1+j by omega]
   ·simp only[Jd,allS,if_true,hko,Option.bind_some]
    rw[←XW k hlow,Vd,if_neg (by omega),if_pos (by omega)]
    rw[ha]at hf1
    exact hf1
   ·rw[memAt_succ,hmem,gN,←hm]
   ·obtain⟨h1,h2⟩:=hal' he
    rw[Ve]
    split
    ·exact hal h1 j
    ·split
     ·exact h2
     ·rfl
   ·by_cases e:j=k
    ·subst e;rw[gN];exact hNo
    ·rw[←hlowN j (by omega)];exact hown j (by omega)
   ·by_cases e:i=k
    ·subst e
     rw[hko]at hoi;cases hoi
     exact hD
    ·exact DOp_congr (fun j hj=>hlow j (by omega)) (fun j hj=>hlowN j (by omega)) (hd i oi hbi (by omega) hoi)
   ·by_cases e:i=k
    ·subst e
     rw[hko]at hoi;cases hoi
     obtain⟨h1,h2⟩:=hSt hsi hgi
     rw[gN,Vd,if_neg (by omega),if_pos (by omega)]
     exact⟨h1,h2⟩
    ·obtain⟨h1,h2⟩:=hst i oi hbi (by omega) hoi hsi hgi
     have e1:Uc ops a₀ (JX (vs++[v])) i=Uc ops a₀ (JX vs) i:=XW i fun j hj=>(hlow j (by omega)).symm
     have e2:X6 ops m₀ (JH (Ns++[N])) i=X6 ops m₀ (JH Ns) i:=by
      unfold X6 Jq
      rw[XT i fun j hj=>(hlowN j (by omega)).symm]
     rw[e1,e2,←hlow i (by omega),←hlowN i (by omega)]
     exact⟨h1,h2⟩
  have gv:∀v,JX (vs++[v]) k=v:=fun v=>by rw[Vd,if_neg (by omega),if_pos (by omega)]
  have gN:∀N,JH (Ns++[N]) k=N:=fun N=>by rw[Ve,if_neg (by omega),if_pos (by omega)]
  have fv:∀v,Uc ops a₀ (JX (vs++[v])) k=Uc ops a₀ (JX vs) k:=fun v=>XW k fun j hj=>by rw[Vd,if_pos (by omega)]
  have fN:∀N,X6 ops m₀ (JH (Ns++[N])) k=X6 ops m₀ (JH Ns) k:=fun N=>by
   unfold X6 Jq
   rw[XT k fun j hj=>by rw[Ve,if_pos (by omega)]]
  have app0:∀M:Mem,M.app []=M:=fun M=>by simp[Mem.app]
  have hsame:(X6 ops m₀ (JH Ns) k).size=M.size:=by
   rw[hm]
   unfold X6 Jq Mem.size
   simp only[List.length_append]
   rw[Um (JH Ns) (B ops k) allS k]
  have hg:=hf.look
  have hsub:∀b x,m₀.get b=some x→(X6 ops m₀ (JH Ns) k).get b=some x:=fun b x hx=>(QU _ _ _ _).2 (.inl ⟨Mem.get_lt hx,hx⟩)
  simp only[Uk,JM,Qc]at h
  have skip:Region.wanted o (JL ops.toList a)=false→(@sPut n o.dst undef f ⟨fun f'=>Uk P n ops.toList m₀ K al l f' M⟩)→∃vs' Ns' f',Knows n f' (Jd ops (JX vs') allS a₀ q)∧K f' (Jq m₀ (JH Ns') allS q)∧(∀j,j<q→(JH Ns' j).all Vl=true)∧(∀i o,b≤i→i<q→ops[i]?=some o→DOp P ops a₀ m₀ (JX vs') (JH Ns') i o)∧(∀i o,b≤i→i<q→ops[i]?=some o→kind P o.op=.val→o.guard=none→Jz P o.op (Uc ops a₀ (JX vs') i) (X6 ops m₀ (JH Ns') i)=some (JX vs' i,X6 ops m₀ (JH Ns') i)∧JH Ns' i=[])∧(∀j,j<b→JX vs' j=V0 j∧JH Ns' j=N0 j):=fun hw h=>by
   obtain⟨f',h3,h4⟩:=QO h hf
   refine next undef [] al f' ?_ (fun _ hg=>by rw[U3 hg]at hw;cases hw) rfl h3 (fun he=>⟨he,rfl⟩) (by rw[app0];exact h4)
   unfold DOp
   rw[fv,gv,gN,hwant,if_neg (by rw[hw];simp)]
   exact⟨rfl,rfl⟩
  have val:∀v,Region.wanted o (JL ops.toList a)=true→sVal P (AL.look f) m₀.get o.op=some v→(@sPut n o.dst v f ⟨fun f'=>Uk P n ops.toList m₀ K al l f' M⟩)→∃vs' Ns' f',Knows n f' (Jd ops (JX vs') allS a₀ q)∧K f' (Jq m₀ (JH Ns') allS q)∧(∀j,j<q→(JH Ns' j).all Vl=true)∧(∀i o,b≤i→i<q→ops[i]?=some o→DOp P ops a₀ m₀ (JX vs') (JH Ns') i o)∧(∀i o,b≤i→i<q→ops[i]?=some o→kind P o.op=.val→o.guard=none→Jz P o.op (Uc ops a₀ (JX vs') i) (X6 ops m₀ (JH Ns') i)=some (JX vs' i,X6 ops m₀ (JH Ns') i)∧JH Ns' i=[])∧(∀j,j<b→JX vs' j=V0 j∧JH Ns' j=N0 j):=fun v hw h1 h2=>by
   obtain⟨f',h3,h4⟩:=QO h2 hf
   refine next v [] al f' ?_ (fun _ _=>⟨by rw[fv,fN,Z6 P o.op _ hev];exact Z9 (P:=P) hg hsub h1,rfl⟩) rfl h3 (fun he=>⟨he,rfl⟩) (by rw[app0];exact h4)
   have:=Z9 (P:=P) hg hsub h1
   unfold DOp memOf
   rw[fv,fN,gv,gN,hwant,if_pos hw,app0]
   exact⟨OpSim.congr (OpSim.op this ⟨rfl,rfl⟩) hev,rfl⟩
  have run:Region.wanted o (JL ops.toList a)=true→@QB P n m₀ al o f M ⟨fun al' f' M'=>Uk P n ops.toList m₀ K al' l f' M'⟩→∃vs' Ns' f',Knows n f' (Jd ops (JX vs') allS a₀ q)∧K f' (Jq m₀ (JH Ns') allS q)∧(∀j,j<q→(JH Ns' j).all Vl=true)∧(∀i o,b≤i→i<q→ops[i]?=some o→DOp P ops a₀ m₀ (JX vs') (JH Ns') i o)∧(∀i o,b≤i→i<q→ops[i]?=some o→kind P o.op=.val→o.guard=none→Jz P o.op (Uc ops a₀ (JX vs') i) (X6 ops m₀ (JH Ns') i)=some (JX vs' i,X6 ops m₀ (JH Ns') i)∧JH Ns' i=[])∧(∀j,j<b→JX vs' j=V0 j∧JH Ns' j=N0 j):=fun hw h=>by
   unfold QB at h
   split at h<;>rename_i hkd
   ·obtain⟨v,h1,h2⟩:=Qb h
    exact val v hw h1 h2
   ·obtain⟨⟨v,b⟩,h1,h2⟩:=Qb h
    obtain⟨f',h3,h4⟩:=QO h2 hf
    rw[←hsame]at h1
    obtain⟨h5,h6⟩:=sNew_spec (P:=P) hg h1
    have e1:∀M:Mem,M.push b=M.app [some b]:=fun M=>rfl
    refine next v [some b] true f' ?_ (fun hs _=>by rw[hs]at hkd;cases hkd) (by simp only[List.all_cons,h6,List.all_nil,Bool.and_self]) h3 (fun he=>by cases he) (by rw[←e1];exact h4)
    rw[e1]at h5
    unfold DOp memOf
    rw[fv,fN,gv,gN,hwant,if_pos hw]
    exact⟨OpSim.congr (OpSim.op h5 ⟨rfl,rfl⟩) hev,by simp only[List.all_cons,h6,List.all_nil,Bool.and_self]⟩
   ·exact h.elim
   ·obtain⟨hal0,h⟩:=h
    obtain⟨⟨c,xs⟩,h1,he,v,N,hsp,hNo,h2⟩:=Qb h
    obtain⟨f',h3,h4⟩:=QO h2 hf
    have hB:X6 ops m₀ (JH Ns) k=m₀:=by
     have:∀i,Q5 (JH Ns) (B ops k) i=[]:=by
      intro i
      induction i with
      |zero=>rfl
      |succ i ih=>simp[Q5,ih,hal hal0]
     unfold X6 Jq
     rw[this,qA]
    rw[sCallee_eq]at h1
    refine next v N (!N.isEmpty) f' ?_ (fun hs _=>by rw[hs]at hkd;cases hkd) hNo h3 (fun he=>⟨hal0,by cases N with|nil=>rfl|cons=>simp at he⟩) h4
    unfold DOp memOf
    rw[fv,fN,gv,gN,hwant,if_pos hw,hB]
    exact⟨OpSim.congr (OpSim.call (Km hg h1) he hsp) hev,hNo⟩
   ·exact h.elim
  split at h
  ·rename_i hgd
   exact run (by unfold Region.wanted;rw[hgd]) h
  ·split at h
   ·obtain⟨v,h1,h2⟩:=Qb h
    unfold sGuardedV at h1
    split at h1
    ·rename_i hw;exact val v (K7 hw hf) h1 h2
    ·rename_i hw;cases h1;exact skip (K7 hw hf) h2
    ·cases h1
   ·rcases sGuard_spec h hf with⟨hw,h⟩|⟨hw,h⟩
    ·exact run hw h
    ·exact skip hw h
theorem UD{n:Nat}{d:Option Nat}{v:Value}{f:AL}{k k':AL→Prop}(h:∀f,k f→k' f)(g:@sPut n d v f ⟨k⟩):@sPut n d v f ⟨k'⟩:=by
 cases d with
 |none=>exact h _ g
 |some t=>exact⟨g.1,h _ g.2⟩
theorem K5{α:Type}{o:Option α}{k k':α→Prop}(h:∀v,k v→k' v)(g:@QP α o ⟨k⟩):@QP α o ⟨k'⟩:=by
 cases o with
 |none=>exact g
 |some v=>exact h v g
theorem sGuard_mono{all:List Oper}{o:Oper}{f:AL}{y n y' n':Prop}(hy:y→y')(hn:n→n')(h:@sGuard all o f ⟨fun _=>y⟩ ⟨fun _=>n⟩):@sGuard all o f ⟨fun _=>y'⟩ ⟨fun _=>n'⟩:=by
 unfold sGuard at h ⊢
 split at h
 ·exact hy h
 ·split at h<;>first|exact h.elim|skip
  split at h<;>first|exact h.elim|skip
  split at h<;>first|exact h.elim|skip
  all_goals
   split at h
   ·rename_i e;simp only[*]<;>exact hy h
   ·rename_i e;simp only[*]<;>exact hn h
theorem sHOp_G{P:Program}{n:Nat}{m0:Mem}{al:Bool}{o:Oper}{f:AL}{M:Mem}{c c':Bool→AL→Mem→Prop}(hc:∀al f M,c al f M→c' al f M)(h:@sHOp P n m0 al o f M ⟨c⟩):@QB P n m0 al o f M ⟨c'⟩:=by
 unfold sHOp at h
 unfold QB
 cases hk:kind P o.op<;>rw[hk]at h<;>simp only at h ⊢
 case val=>exact K5 (fun v=>UD fun f=>hc _ f _) h
 case new=>exact K5 (fun v=>UD fun f=>hc _ f _) h
 case fn=>
  obtain⟨rfl,h⟩:=h
  refine⟨rfl,K5 (fun p ⟨he,v,hs,hp⟩=>⟨he,v,[],?_,rfl,UD (fun f hf=>?_) hp⟩) h⟩
  ·rw[show m0.app []=m0 by simp[Mem.app]];exact hs
  ·rw[show M.app []=M by simp[Mem.app]];exact hc _ f _ hf
theorem sHead_G{P:Program}{n:Nat}{all:List Oper}{m0:Mem}{K:AL→Mem→Prop}:∀(l:List Oper)(al:Bool)(f:AL)(M:Mem),sHead P n all m0 K al l f M→Uk P n all m0 K al l f M
 | [],_,_,_,h=>h
 |o::r,al,f,M,h=>by
  have ih:=fun al f M=>sHead_G (P:=P) (n:=n) (all:=all) (m0:=m0) (K:=K) r al f M
  simp only[sHead,sHeadB,sHOne]at h
  simp only[Uk,JM,Qc]
  cases hg:o.guard with
  |none=>rw[hg]at h;exact sHOp_G ih h
  |some q=>
   rw[hg]at h
   simp only at h ⊢
   cases hv:isVal (kind P o.op)with
   |true=>rw[hv]at h;exact K5 (fun v=>UD fun f=>ih _ f _) h
   |false=>rw[hv]at h;exact sGuard_mono (sHOp_G ih) (UD fun f=>ih _ f _) h
theorem sHead_run(b:Nat)(V0:Nat→Value)(N0:Nat→List (Option Blk)){P:Program}{n:Nat}{ops:Array Oper}{m₀:Mem}{a₀:List Value}{q:Nat}{K:AL→Mem→Prop}(hq:Xt ops q=true)(hqs:q≤ops.size):
 ∀(l:List Oper)(k:Nat)(vs:List Value)(Ns:List (List (Option Blk)))(al:Bool)(f:AL)(M:Mem),(∀j,l[j]?=if k+j<q then ops[k+j]? else none)→k≤q→vs.length=k→Ns.length=k→
  Knows n f (Jd ops (JX vs) allS a₀ k)→M=Jq m₀ (JH Ns) allS k→(al=false→∀j,JH Ns j=[])→(∀j,j<k→(JH Ns j).all Vl=true)→
  (∀i o,b≤i→i<k→ops[i]?=some o→DOp P ops a₀ m₀ (JX vs) (JH Ns) i o)→(∀i o,b≤i→i<k→ops[i]?=some o→kind P o.op=.val→o.guard=none→Jz P o.op (Uc ops a₀ (JX vs) i) (X6 ops m₀ (JH Ns) i)=some (JX vs i,X6 ops m₀ (JH Ns) i)∧JH Ns i=[])→b≤k→(∀j,j<b→JX vs j=V0 j∧JH Ns j=N0 j)→sHead P n ops.toList m₀ K al l f M→
  ∃vs' Ns' f',Knows n f' (Jd ops (JX vs') allS a₀ q)∧K f' (Jq m₀ (JH Ns') allS q)∧(∀j,j<q→(JH Ns' j).all Vl=true)∧(∀i o,b≤i→i<q→ops[i]?=some o→DOp P ops a₀ m₀ (JX vs') (JH Ns') i o)∧(∀i o,b≤i→i<q→ops[i]?=some o→kind P o.op=.val→o.guard=none→Jz P o.op (Uc ops a₀ (JX vs') i) (X6 ops m₀ (JH Ns') i)=some (JX vs' i,X6 ops m₀ (JH Ns') i)∧JH Ns' i=[])∧(∀j,j<b→JX vs' j=V0 j∧JH Ns' j=N0 j):=fun l k vs Ns al f M g1 g2 g3 g4 g5 g6 g7 g8 g9 g10 g11 g12 h=>sHead_runG b V0 N0 hq hqs l k vs Ns al f M g1 g2 g3 g4 g5 g6 g7 g8 g9 g10 g11 g12 (sHead_G l al f M h)
theorem Z0{P:Program}{n:Nat}{Q:Exit→AL→Mem→Prop}{f:AL}{m:Mem}{id:Nat}{ops:Array Oper}(hmix:P.follows .mixedOrders=true)(q:Nat)(hq:Qm ops q=true)(hqs:Nat.ble q ops.size=true)
 (h:sHead P n ops.toList m (fun f' M=>sOps P n ops.toList (Q .normal) (ops.toList.drop q) f' M) false (ops.toList.take q) f m):SW P n (.region id ops true) Q f m:=by
 intro a ha
 have hqs:=qf hqs
 obtain⟨vs,Ns,f',h1,h2,h3,h4,_⟩:=sHead_run 0 (fun _=>undef) (fun _=>[]) (a₀:=a) (m₀:=m) (QW hq) hqs (ops.toList.take q) 0 [] [] false f m (fun j=>by rw[qh,qd,qB]) (by omega) rfl rfl ha (by simp[Jq,Q5])
  (fun _ j=>by simp[JH]) (fun j hj=>by omega) (fun i o _ hi=>by omega) (fun i o _ hi=>by omega) (qH _) (fun j hj=>by omega) h
 exact AW_draw hmix q hq hqs (JX vs) (JH Ns) (fun i o hi ho=>h4 i o (qk _) hi ho) (V8 (fun f m a h1 h2=>⟨f,h1,h2⟩) _ f' _ _ h1 h2)
theorem SW_draw2{P:Program}{n:Nat}{Q:Exit→AL→Mem→Prop}{f:AL}{m:Mem}{id:Nat}{ops:Array Oper}(hmix:P.follows .mixedOrders=true)(q:Nat)(hq:drawOK2 ops q=true)
 (h:sHead P n ops.toList m (fun f' M=>sOps P n ops.toList (Q .normal) (ops.toList.drop q) f' M) false (ops.toList.take q) f m):SW P n (.region id ops true) Q f m:=by
 intro a ha
 obtain⟨hq1,hqs,_⟩:=drawOK2_spec hq
 obtain⟨vs,Ns,f',h1,h2,h3,h4,h5,_⟩:=sHead_run 0 (fun _=>undef) (fun _=>[]) (a₀:=a) (m₀:=m) (Zb (QW hq1)) (by omega) (ops.toList.take q) 0 [] [] false f m (fun j=>by rw[qh,qd,qB]) (by omega) rfl rfl ha (by simp[Jq,Q5])
  (fun _ j=>by simp[JH]) (fun j hj=>by omega) (fun i o _ hi=>by omega) (fun i o _ hi=>by omega) (qH _) (fun j hj=>by omega) h
 exact AW_draw2 hmix q hq (JX vs) (JH Ns) (fun i o hi ho=>h4 i o (qk _) hi ho) (fun i o hi ho hs hg=>h5 i o (qk _) hi ho (still_kind hs) hg) (V8 (fun f m a h1 h2=>⟨f,h1,h2⟩) _ f' _ _ h1 h2)
def Zq(P:Program)(all:List Oper)(f:AL)(m0 m':Mem):List Nat→Prop
 | []=>True
 |j::r=>(∃x,(all[j]?).bind (fun o=>sVal P (AL.look f) m0.get o.op)=some x∧(all[j]?).bind (fun o=>sVal P (AL.look f) m'.get o.op)=some x)∧Zq P all f m0 m' r
theorem idleOK_spec{P:Program}{all:List Oper}{f:AL}{m0 m':Mem}:∀{J:List Nat},Zq P all f m0 m' J→∀j,J.contains j=true→∀o,all[j]?=some o→∃x,sVal P (AL.look f) m0.get o.op=some x∧sVal P (AL.look f) m'.get o.op=some x
 | [],_,j,hj,_,_=>by simp at hj
 |k::r,h,j,hj,o,ho=>by
  obtain⟨⟨x,h1,h2⟩,h3⟩:=h
  by_cases e:j=k
  ·subst e
   rw[ho]at h1 h2
   exact⟨x,h1,h2⟩
  ·refine idleOK_spec h3 j ?_ o ho
   simpa[e]using hj
def ZY(P:Program)(ops:Array Oper)(q:Nat)(J:List Nat):Bool:=
 Qm ops (q+1)&&Nat.blt q ops.size&&(qt q).all (fun j=>B ops q j||(J.contains j&&match ops[j]? with
  |some o=>isVal (kind P o.op)&&o.guard.isNone&&(qt q).all fun k=>Nat.blt k j||match(ops[k]?).bind (·.dst)with
   |some t=> !(o.looksAt ops).contains t
   |none=>true
  |none=>false))&&match ops[q]? with
  |some o=>o.guard.isNone
  |none=>false
theorem SW_draw4{P:Program}{n:Nat}{Q:Exit→AL→Mem→Prop}{f:AL}{m:Mem}{id:Nat}{ops:Array Oper}(hmix:P.follows .mixedOrders=true)(q:Nat)(J:List Nat)(hq:ZY P ops q J=true){oq:Oper}(hoq:ops[q]?=some oq)
 (h:sHead P n ops.toList m (fun f' M=>@QP _ (sMem P (AL.look f') M oq.op) ⟨fun p=>Zq P ops.toList f' m p.2 J∧@sPut n oq.dst p.1 f' ⟨fun f''=>sOps P n ops.toList (Q .normal) (ops.toList.drop (q+1)) f'' p.2⟩⟩) false (ops.toList.take q) f m):SW P n (.region id ops true) Q f m:=by
 intro a ha
 simp only[ZY,qe]at hq
 obtain⟨⟨⟨hq1,hqs⟩,hidle⟩,hgq⟩:=hq
 have hqs:=qf hqs
 rw[hoq]at hgq
 have hgq:oq.guard=none:=by simpa using hgq
 obtain⟨vs,Ns,f',h1,h2,h3,h4,h5,_⟩:=sHead_run 0 (fun _=>undef) (fun _=>[]) (a₀:=a) (m₀:=m) (Zb (QW hq1)) (by omega) (ops.toList.take q) 0 [] [] false f m (fun j=>by rw[qh,qd,qB]) (by omega) rfl rfl ha (by simp[Jq,Q5])
  (fun _ j=>by simp[JH]) (fun j hj=>by omega) (fun i o _ hi=>by omega) (fun i o _ hi=>by omega) (qH _) (fun j hj=>by omega) h
 obtain⟨⟨vq,M'⟩,g1,g2,g3⟩:=Qb h2
 obtain⟨f'',g4,g5⟩:=QO g3 h1
 have hap:Xn ops (befM ops.toList) q=true:=by
  have:=Zb (QW hq1)
  simp only[Xt,qe]at this
  exact this.2
 refine AW_draw4 hmix q hq1 hqs hoq hgq (JX vs) (JH Ns) (fun i o hi ho=>h4 i o (qk _) hi ho) (fun i o hi ho hb=>?_) (sMem_spec h1.look g1) (V8 (fun f m a h1 h2=>⟨f,h1,h2⟩) _ f'' _ _ g4 g5)
 have hi2:=qi.1 hidle i (qG.2 hi)
 rw[hb,ho]at hi2
 simp only[Bool.false_or,qe,Option.isNone_iff_eq_none]at hi2
 obtain⟨hJ,⟨hk,hg⟩,hov⟩:=hi2
 have hkv:kind P o.op=.val:=by cases hkk:kind P o.op<;>rw[hkk]at hk<;>first|rfl|cases hk
 obtain⟨e1,e2⟩:=h5 i o (qk _) hi ho hkv hg
 obtain⟨x,x1,x2⟩:=idleOK_spec g2 i hJ o (by simpa using ho)
 have hsl:∀t,t∈o.looksAt ops→(Uc ops a (JX vs) i)[t]?=(Jd ops (JX vs) allS a q)[t]?:=fun t ht=>by
  rw[slot_all hap hi (by omega) ho ht]
  have h1:(Jd ops (JX vs) allS a q)[t]?=(Jd ops (JX vs) (fun k=>decide (k<i)) a q)[t]?:=Q3 t q fun k hk hdst=>by
   by_cases hki:k<i
   ·simp[allS,hki]
   ·exfalso
    have:=qi.1 hov k (qG.2 hk)
    rw[Bool.or_eq_true]at this
    rcases this with h2|h2
    ·have:=qf h2;omega
    ·rw[hdst]at h2
     simp only[Bool.not_eq_true']at h2
     have:=List.contains_iff_mem.2 ht
     rw[this]at h2;cases h2
  rw[h1,Zs (i:=i) q (by omega) (fun k h1 _=>by simp;omega)]
  exact Q3 t i fun k hk _=>by simp[allS,hk]
 have v1:Jz P o.op (Uc ops a (JX vs) i) (X6 ops m (JH Ns) i)=some (x,X6 ops m (JH Ns) i):=by
  rw[Z6 P o.op _ (UQ hsl)]
  exact Z9 (P:=P) h1.look (fun b y hb=>(QU _ _ _ _).2 (.inl ⟨Mem.get_lt hb,hb⟩)) x1
 have v2:Jz P o.op (Uc ops a (JX vs) i) M'=some (x,M'):=by
  rw[Z6 P o.op _ (UQ hsl)]
  exact Z9 (P:=P) h1.look (fun _ _ h=>h) x2
 rw[e1]at v1
 have hx:JX vs i=x:=by injection v1 with v1;injection v1
 exact⟨hg,by rw[hx];exact v2,e2⟩
theorem SW_draw6{P:Program}{n:Nat}{Q:Exit→AL→Mem→Prop}{f:AL}{m:Mem}{id:Nat}{ops:Array Oper}(hmix:P.follows .mixedOrders=true)(q:Nat)(J:List Nat)(hq:ZY P ops q J=true){oq:Oper}(hoq:ops[q]?=some oq)
 (h:sHead P n ops.toList m (fun f' M=>@QP _ (sCallee (AL.look f') oq.op) ⟨fun p=>Qf P p.1=true∧∃R,Spec P p.1 p.2 M R∧@Later ⟨∀u M',R u M'→Zq P ops.toList f' m M' J∧@sPut n oq.dst u f' ⟨fun f''=>sOps P n ops.toList (Q .normal) (ops.toList.drop (q+1)) f'' M'⟩⟩⟩) false (ops.toList.take q) f m):SW P n (.region id ops true) Q f m:=by
 intro a ha
 simp only[ZY,qe]at hq
 obtain⟨⟨⟨hq1,hqs⟩,hidle⟩,hgq⟩:=hq
 have hqs:=qf hqs
 rw[hoq]at hgq
 have hgq:oq.guard=none:=by simpa using hgq
 obtain⟨vs,Ns,f',h1,h2,h3,h4,h5,_⟩:=sHead_run 0 (fun _=>undef) (fun _=>[]) (a₀:=a) (m₀:=m) (Zb (QW hq1)) (by omega) (ops.toList.take q) 0 [] [] false f m (fun j=>by rw[qh,qd,qB]) (by omega) rfl rfl ha (by simp[Jq,Q5])
  (fun _ j=>by simp[JH]) (fun j hj=>by omega) (fun i o _ hi=>by omega) (fun i o _ hi=>by omega) (qH _) (fun j hj=>by omega) h
 obtain⟨⟨c,xs⟩,g1,ge,R,gs,gR⟩:=Qb h2
 rw[sCallee_eq]at g1
 have hap:Xn ops (befM ops.toList) q=true:=by
  have:=Zb (QW hq1)
  simp only[Xt,qe]at this
  exact this.2
 have look:∀i o,i<q→ops[i]?=some o→B ops q i=false→o.guard=none∧JH Ns i=[]∧∀M',Zq P ops.toList f' m M' J→Jz P o.op (Uc ops a (JX vs) i) M'=some (JX vs i,M'):=fun i o hi ho hb=>by
  have hi2:=qi.1 hidle i (qG.2 hi)
  rw[hb,ho]at hi2
  simp only[Bool.false_or,qe,Option.isNone_iff_eq_none]at hi2
  obtain⟨hJ,⟨hk,hg⟩,hov⟩:=hi2
  have hkv:kind P o.op=.val:=by cases hkk:kind P o.op<;>rw[hkk]at hk<;>first|rfl|cases hk
  obtain⟨e1,e2⟩:=h5 i o (qk _) hi ho hkv hg
  have hsl:∀t,t∈o.looksAt ops→(Uc ops a (JX vs) i)[t]?=(Jd ops (JX vs) allS a q)[t]?:=fun t ht=>by
   rw[slot_all hap hi (by omega) ho ht]
   have h1:(Jd ops (JX vs) allS a q)[t]?=(Jd ops (JX vs) (fun k=>decide (k<i)) a q)[t]?:=Q3 t q fun k hk hdst=>by
    by_cases hki:k<i
    ·simp[allS,hki]
    ·exfalso
     have:=qi.1 hov k (qG.2 hk)
     rw[Bool.or_eq_true]at this
     rcases this with h2|h2
     ·have:=qf h2;omega
     ·rw[hdst]at h2
      simp only[Bool.not_eq_true']at h2
      have:=List.contains_iff_mem.2 ht
      rw[this]at h2;cases h2
   rw[h1,Zs (i:=i) q (by omega) (fun k h1 _=>by simp;omega)]
   exact Q3 t i fun k hk _=>by simp[allS,hk]
  refine⟨hg,e2,fun M' g2=>?_⟩
  obtain⟨x,x1,x2⟩:=idleOK_spec g2 i hJ o (by simpa using ho)
  have v1:Jz P o.op (Uc ops a (JX vs) i) (X6 ops m (JH Ns) i)=some (x,X6 ops m (JH Ns) i):=by
   rw[Z6 P o.op _ (UQ hsl)]
   exact Z9 (P:=P) h1.look (fun b y hb=>(QU _ _ _ _).2 (.inl ⟨Mem.get_lt hb,hb⟩)) x1
  have v2:Jz P o.op (Uc ops a (JX vs) i) M'=some (x,M'):=by
   rw[Z6 P o.op _ (UQ hsl)]
   exact Z9 (P:=P) h1.look (fun _ _ h=>h) x2
  rw[e1]at v1
  have hx:JX vs i=x:=by injection v1 with v1;injection v1
  rw[hx];exact v2
 refine AW_draw6 hmix q hq1 hqs hoq hgq (JX vs) (JH Ns) (fun i o hi ho=>h4 i o (qk _) hi ho) (fun i o hi ho hb=>(look i o hi ho hb).2.1) (OpSim.call (Km h1.look g1) ge gs) (fun u M' hR=>?_)
 obtain⟨g2,g3⟩:=gR u M' hR
 obtain⟨f'',g4,g5⟩:=QO g3 h1
 exact⟨fun i o hi ho hb=>.free (look i o hi ho hb).1 ((look i o hi ho hb).2.2 M' g2),V8 (fun f m a h1 h2=>⟨f,h1,h2⟩) _ f'' _ _ g4 g5⟩
def phasesOK(ops:Array Oper):List (Nat×Nat)→Nat→Bool
 | [],b=>Nat.ble ops.size b
 |(q,b')::r,b=>phaseOK ops b q b'&&phasesOK ops r b'
def alOf:Nat→List Value→AL
 |_,[]=>[]
 |i,v::r=>(i,v)::alOf (i+1) r
theorem alOf_get:∀(l:List Value)(i t:Nat)(v:Value),AL.get (alOf i l) t=some v→i≤t∧l[t-i]?=some v
 | [],i,t,v,h=>by cases h
 |x::r,i,t,v,h=>by
  simp only[alOf,AL.get]at h
  split at h
  ·rename_i e;subst e;cases h;exact⟨qH _,by simp⟩
  ·rename_i e
   obtain⟨h1,h2⟩:=alOf_get r (i+1) t v h
   exact⟨by omega,by rw[show t-i=(t-(i+1))+1 by omega];exact h2⟩
def sAnswer(P:Program)(rs:List ResultVar)(f:AL)(m:Mem):Option Value:=match sRes P rs f m with
 |some [v]=>some v
 |some l=>some (.tuple l.toArray)
 |none=>none
where sRes (P:Program):List ResultVar→AL→Mem→Option (List Value)
 | [],_,_=>some []
 |.tmp t::r,f,m=>match AL.get f t with
  |some v=>match sRes P r f m with
   |some l=>some (v::l)
   |none=>none
  |none=>none
 |.cell p t::r,f,m=>match AL.get f p with
  |some q=>match UW P m t q with
   |some v=>match sRes P r f m with
    |some l=>some (v::l)
    |none=>none
   |none=>none
  |none=>none
theorem Vy{P:Program}{n:Nat}{f:AL}{a:List Value}{m:Mem}(ha:Knows n f a):∀(rs:List ResultVar)(l:List Value),sAnswer.sRes P rs f m=some l→U0 P a m rs=some l
 | [],l,h=>h
 |.tmp t::r,l,h=>by
  unfold sAnswer.sRes at h
  split at h<;>first|(cases h;done)|skip
  rename_i v hv
  split at h<;>first|(cases h;done)|skip
  rename_i l' hl
  cases h
  simp only[U0,aResult,ha.2 t v hv,Vy ha r l' hl]
 |.cell p t::r,l,h=>by
  unfold sAnswer.sRes at h
  split at h<;>first|(cases h;done)|skip
  rename_i q hq
  split at h<;>first|(cases h;done)|skip
  rename_i v hv
  split at h<;>first|(cases h;done)|skip
  rename_i l' hl
  cases h
  simp only[U0,aResult,ha.2 p q hq,hv,Vy ha r l' hl]
def sEnd(P:Program)(rs:List ResultVar)(R:Value→Mem→Prop):Exit→AL→Mem→Prop
 |.ret,f,m=>@QP _ (sAnswer P rs f m) ⟨fun v=>R v m⟩
 |.normal,f,m=>@QP _ (sAnswer P rs f m) ⟨fun v=>R v m⟩
 |_,_,_=>False
end
theorem Spec.walk{P:Program}{k:FuncId}{fn:Func}{c:Code}{xs:List Value}{m:Mem}{R:Value→Mem→Prop}(hf:P.funcs[k]?=some fn)(hb:fn.body=some c)(rs:Array ResultVar)(hr:fn.results=rs)(n:Nat)(hn:fn.ntmps=n)(hx:xs.length≤n)
 (h:SW P n c (sEnd P rs.toList R) (alOf 0 xs) m):Spec P k xs m R:=by
 subst hr;subst hn
 refine Spec.of hf hb ((h (ZR fn xs) ⟨by simp[ZR];omega,fun t v hv=>?_⟩).mono ?_)
 ·obtain⟨_,h2⟩:=alOf_get xs 0 t v hv
  unfold ZR
  rw[qm,if_pos]
  ·exact h2
  ·exact(qp.1 h2).1
 ·rintro e a' m' ⟨f',h1,h2⟩
  have ans:∀v,sAnswer P fn.results.toList f' m'=some v→ZB P fn.results.toList a' m'=some v:=fun v hv=>by
   unfold sAnswer at hv
   unfold ZB
   split at hv<;>first|(cases hv;done)|skip
   ·rename_i v0 hv0;cases hv;simp only[Vy h1 _ _ hv0]
   ·rename_i l hne hl
    cases hv
    simp only[Vy h1 _ _ hl]
  cases e<;>simp only[sEnd]at h2<;>first|exact h2.elim|skip
  all_goals
   obtain⟨v,h3,h4⟩:=Qb h2
   exact⟨by simp,v,ans v h3,h4⟩
theorem Spec.of_below{P:Program}{k:FuncId}{xs:List Value}{m:Mem}{v:Value}(hv:flat 3 v=true)(h:∀(ι:Nat→Loc)(w:World)(ys:List Value),VRels m.Has ι xs ys→Rel ι m w→Calls P k ys.toArray w fun e w'=>e=.returned v∧Below w.heap.size w w'):
 Spec P k xs m fun u m'=>u=v∧m'=m:=by
 intro ι w ys hy hr
 refine(h ι w ys hy hr).mono ?_
 rintro e w' ⟨rfl,hb⟩
 refine⟨v,v,ι,m,⟨rfl,rfl⟩,rfl,QL 3 v hv,hr.same hb.block,⟨hb.os,hb.tape,hb.output,hb.size,fun b h=>h,fun _ _=>rfl,fun g hg _=>hb.block g hg,fun b hb=>.inr ⟨b,hb,rfl⟩⟩⟩
theorem VW{n:Nat→Prop}{ι:Nat→Loc}{xs ys:List Value}(hx:∀x∈xs,flat 3 x=true)(h:VRels n ι xs ys):ys=xs:=by
 apply List.ext_getElem?
 intro i
 cases hxi:xs[i]? with
 |none=>
  rw[List.getElem?_eq_none_iff]at hxi ⊢
  have:=h.1;omega
 |some x=>
  obtain⟨y,hy,hr⟩:=h.get hxi
  rw[hy,Vr 3 x y (hx x (qC hxi)) hr]
theorem Spec.of_flat{P:Program}{k:FuncId}{xs:List Value}{m:Mem}{v:Value}(hx:∀x∈xs,flat 3 x=true)(hv:flat 3 v=true)(h:∀w,Calls P k xs.toArray w fun e w'=>e=.returned v∧Below w.heap.size w w'):
 Spec P k xs m fun u m'=>u=v∧m'=m:=
 Spec.of_below hv fun ι w ys hy _=>by rw[VW hx hy];exact h w
theorem Calls.of_flat{P:Program}{k:FuncId}{xs:List Value}{R:Value→Mem→Prop}(hx:∀x∈xs,flat 3 x=true)(h:Spec P k xs ⟨[]⟩ R)(w:World)(hg:GlobK w:=by trivial):
 Calls P k xs.toArray w fun e w'=>∃v v' κ m',R v m'∧e=.returned v'∧VRel m'.Has κ v v'∧Rel κ m' w'∧Below w.heap.size w w':=by
 refine(h (fun _=>⟨0,0,0,0⟩) w xs ⟨rfl,fun i x y h1 h2=>?_⟩ ⟨fun b ro s cs hb=>?_,fun b x hb=>?_,fun b b' hb=>?_,⟨hg,fun b ⟨y,hb,_⟩=>?_⟩⟩).mono ?_
 ·rw[h1]at h2;cases h2
  exact QL 3 x (hx x (qC h1))
 ·have:=Mem.get_lt hb;simp[Mem.size]at this
 ·have:=Mem.get_lt hb;simp[Mem.size]at this
 ·obtain⟨x,hx⟩:=Option.ne_none_iff_exists'.1 hb
  have:=Mem.get_lt hx;simp[Mem.size]at this
 ·have:=Mem.get_lt hb;simp[Mem.size]at this
 ·rintro e w' ⟨v,v',κ,m',hR,rfl,hv,hr,hs⟩
  refine⟨v,v',κ,m',hR,rfl,hv,hr,hs.os,hs.tape,hs.output,hs.size,fun g hg=>hs.block g hg fun b ⟨y,hb,_⟩=>?_⟩
  have:=Mem.get_lt hb;simp[Mem.size]at this
theorem Calls.of_flat_val{P:Program}{k:FuncId}{xs:List Value}{v:Value}(hx:∀x∈xs,flat 3 x=true)(hv:flat 3 v=true)(h:Spec P k xs ⟨[]⟩ fun u _=>u=v)(w:World)(hg:GlobK w:=by trivial):
 Calls P k xs.toArray w fun e w'=>e=.returned v∧Below w.heap.size w w':=by
 refine(Calls.of_flat hx h w hg).mono ?_
 rintro e w' ⟨u,v',κ,m',rfl,rfl,hr,_,hb⟩
 exact⟨by rw[←Vr 3 _ _ hv hr],hb⟩
end Go.Proofs.YteccmcpaheepcaaGreatDoor.Abs
namespace Go.Proofs.YteccmcpaheepcaaGreatDoor.Abs
open Go Go.RowKit Go.ChangeShapes Go.WideShapes
inductive ARep(P:Program)(m:Mem)(B:Nat):TypeId→List Value→Prop
 |bool {t:TypeId} (h:P.underlying t=some .bool) (b:Bool):ARep P m B t [.bool b]
 |int {t:TypeId} {k:IntKind} (h:P.underlying t=some (.int k)) (n:Int) (hw:(Lit.int k n).wf=true):ARep P m B t [.int k n]
 |string {t:TypeId} (h:P.underlying t=some .string) (s:ByteArray) (hs:s.size≤B):ARep P m B t [.string s]
 |nil {t e:TypeId} (h:P.underlying t=some (.slice e)):ARep P m B t [.slice none 0 0]
 |empty {t e:TypeId} (h:P.underlying t=some (.slice e)) (b cap:Nat) (hb:m.Has b) (hc:cap≤maxLen) (hB:cap≤B∧cap*P.bytesOf e≤reachBytes):ARep P m B t [.slice (some ⟨b,0,none⟩) 0 cap]
 |slice {t e:TypeId} (h:P.underlying t=some (.slice e)) (b len cap:Nat) (all:List Value) (hb:m.get b=some (.cells true (P.cellsOf e) all)) (hl:all.length=len*P.cellsOf e) (hlc:len≤cap) (hc:cap≤maxLen) (hB:cap≤B∧cap*P.bytesOf e≤reachBytes)
  (hx:∀i,i<len→ARep P m B e ((all.drop (i*P.cellsOf e)).take (P.cellsOf e))):ARep P m B t [.slice (some ⟨b,0,none⟩) len cap]
 |struct {t:TypeId} {fs:Array Field} (h:P.underlying t=some (.struct fs)) (cs:List Value) (hl:cs.length=P.cellsOf t) (hx:∀f∈fs.toList,ARep P m B f.type ((cs.drop f.offset).take (P.cellsOf f.type))):ARep P m B t cs
 |array {t e:TypeId} {n:Nat} (h:P.underlying t=some (.array n e)) (cs:List Value) (hl:cs.length=P.cellsOf t) (hx:∀i,i<n→ARep P m B e ((cs.drop (i*P.cellsOf e)).take (P.cellsOf e))):ARep P m B t cs
theorem ARep.mono{P:Program}{m m':Mem}{B:Nat}{t:TypeId}{cs:List Value}(h:ARep P m B t cs)(hh:∀b,m.Has b→m'.Has b)(hg:∀b x,m.get b=some x→m'.get b=some x):ARep P m' B t cs:=by
 induction h with
 |bool h b=>exact .bool h b
 |int h n hw=>exact .int h n hw
 |string h s hs=>exact .string h s hs
 |nil h=>exact .nil h
 |empty h b cap hb hc hB=>exact .empty h b cap (hh b hb) hc hB
 |slice h b len cap all hb hl hlc hc hB _ ih=>exact .slice h b len cap all (hg _ _ hb) hl hlc hc hB ih
 |struct h cs hl _ ih=>exact .struct h cs hl ih
 |array h cs hl _ ih=>exact .array h cs hl ih
structure Lifted(ι:Nat→Loc)(m:Mem)(w:World):Prop where
 rel:Rel ι m w
 ro:∀b,¬m.Own b
structure Lifts(ι:Nat→Loc)(m:Mem)(κ:Nat→Loc)(m':Mem):Prop where
 has:∀b,m.Has b→m'.Has b
 at_:∀b,m.Has b→κ b=ι b
 get:∀b x,m.get b=some x→m'.get b=some x
theorem Lifts.refl(ι:Nat→Loc)(m:Mem):Lifts ι m ι m:=⟨fun _ h=>h,fun _ _=>rfl,fun _ _ h=>h⟩
theorem Lifts.trans{ι κ μ:Nat→Loc}{m m' m'':Mem}(h:Lifts ι m κ m')(k:Lifts κ m' μ m''):Lifts ι m μ m'':=
 ⟨fun b hb=>k.has b (h.has b hb),fun b hb=>(k.at_ b (h.has b hb)).trans (h.at_ b hb),fun b x hb=>k.get b x (h.get b x hb)⟩
theorem Lifts.rels{ι κ:Nat→Loc}{m m':Mem}(h:Lifts ι m κ m'){xs ys:List Value}(hr:VRels m.Has ι xs ys):VRels m'.Has κ xs ys:=hr.mono h.has h.at_
theorem Lifted.nil(w:World)(hg:GlobK w):Lifted (fun _=>⟨0,0,0,0⟩) ⟨[]⟩ w:=
 ⟨⟨fun b ro s cs hb=>by have:=Mem.get_lt hb;simp[Mem.size]at this,fun b x hb=>by have:=Mem.get_lt hb;simp[Mem.size]at this,fun b b' hb=>by
   obtain⟨x,hx⟩:=Option.ne_none_iff_exists'.1 hb
   have:=Mem.get_lt hx;simp[Mem.size]at this,⟨hg,fun b ⟨y,hb,_⟩=>by have:=Mem.get_lt hb;simp[Mem.size]at this⟩⟩,fun b ⟨y,hb,_⟩=>by have:=Mem.get_lt hb;simp[Mem.size]at this⟩
def Xz(m:Mem):Mem:=⟨m.blks++[some none]⟩
theorem UM{m:Mem}{b:Nat}{x:Blk}(h:(Xz m).get b=some x):m.get b=some x:=by
 have h1:=Mem.get_some h
 unfold Xz at h1
 simp only[qm]at h1
 split at h1
 ·unfold Mem.get;rw[h1]
 ·rename_i hb
  cases hk:b-m.blks.length with
  |zero=>rw[hk]at h1;simp at h1
  |succ k=>rw[hk]at h1;simp at h1
theorem has_dead{m:Mem}{b:Nat}(h:m.Has b):(Xz m).Has b:=by
 obtain⟨o,ho⟩:=h
 have hl:=(qp.1 ho).1
 exact⟨o,by unfold Xz;rw[qm,if_pos hl];exact ho⟩
theorem Ki(m:Mem):(Xz m).Has m.size:=⟨none,by simp[Xz,Mem.size]⟩
theorem dead_get{m:Mem}{b:Nat}{x:Blk}(h:m.get b=some x):(Xz m).get b=some x:=by
 have h1:=Mem.get_some h
 have hl:=(qp.1 h1).1
 unfold Mem.get Xz
 rw[qm,if_pos hl,h1]
theorem Lifted.dead{ι:Nat→Loc}{m:Mem}{w:World}(h:Lifted ι m w)(l:Loc):Lifted (Qh ι m.size l) (Xz m) w∧Lifts ι m (Qh ι m.size l) (Xz m):=by
 have hat:∀b,m.Has b→Qh ι m.size l b=ι b:=fun b hb=>Jw l (Mem.has_lt hb)
 refine⟨⟨⟨fun b ro s cs hb=>?_,fun b x hb=>(by rw[hat b (Mem.get_has (UM hb))];exact(h.rel.oth b x (UM hb)).mono (fun _=>has_dead) hat),fun b b' _ ⟨y,hb',hy⟩ _=>absurd ⟨y,UM hb',hy⟩ (h.ro b'),⟨h.rel.glob.known,fun b ⟨y,hb,hy⟩=>absurd ⟨y,UM hb,hy⟩ (h.ro b)⟩⟩,fun b ⟨y,hb,hy⟩=>h.ro b ⟨y,UM hb,hy⟩⟩,⟨fun _=>has_dead,hat,fun _ _=>dead_get⟩⟩
 have hg:=UM hb
 rw[hat b (Mem.get_has hg)]
 obtain⟨C,e,fz,h1,h2,h3,h4,h5,h6⟩:=h.rel.at' b ro s cs hg
 exact⟨C,e,fz,h1,h2,h3,h4,fun i v hi=>by
  obtain⟨h7,v',h8,h9⟩:=h5 i v hi
  exact⟨h7,v',h8,h9.mono (fun _=>has_dead) hat⟩,h6⟩
theorem Lifted.push{ι:Nat→Loc}{m:Mem}{w:World}(h:Lifted ι m w)(l:Loc)(cs:List Value)(C:Array Value)(e:TypeId)(fz:Nat×Nat)(hC:w.heap[l.blk]?=some (.cells C e fz))(hs:C.size=l.size)(hl:l.base+cs.length≤C.size)
 (hv:∀i v,cs[i]?=some v→v.oneCell'=true∧∃v',C[l.base+i]?=some v'∧VRel m.Has ι v v') (hst:TagAt l.base l.stride e C.size cs.length):Lifted (Qh ι m.size l) (m.push (.cells true l.stride cs)) w∧Lifts ι m (Qh ι m.size l) (m.push (.cells true l.stride cs)):=by
 have hat:∀b,m.Has b→Qh ι m.size l b=ι b:=fun b hb=>Jw l (Mem.has_lt hb)
 have hnot:∀b,¬(m.push (.cells true l.stride cs)).Own b:=by
  rintro b ⟨y,hb,hy⟩
  rcases Mem.get_push hb with⟨_,hg⟩|⟨_,hx⟩
  ·exact h.ro b ⟨y,hg,hy⟩
  ·cases hx;cases hy
 have mono:∀{v v':Value},VRel m.Has ι v v'→VRel (m.push (.cells true l.stride cs)).Has (Qh ι m.size l) v v':=fun hv=>hv.mono (fun _ hb=>Mem.has_push _ hb) hat
 refine⟨⟨⟨fun b ro s cs' hb=>?_,fun b x hb=>(by
  rcases Mem.get_push hb with⟨hlt,hg⟩|⟨rfl,hx⟩
  ·rw[hat b (Mem.get_has hg)]
   exact(h.rel.oth b x hg).mono (fun _ hb=>Mem.has_push _ hb) hat
  ·cases hx;trivial),fun b b' _ hb' _=>absurd hb' (hnot b'),⟨h.rel.glob.known,fun b hb=>absurd hb (hnot b)⟩⟩,hnot⟩,⟨fun _ hb=>Mem.has_push _ hb,hat,fun b x hb=>by rw[Mem.get_push_old (Mem.get_lt hb)];exact hb⟩⟩
 rcases Mem.get_push hb with⟨hlt,hg⟩|⟨rfl,hx⟩
 ·rw[hat b (Mem.get_has hg)]
  obtain⟨C,e,fz,h1,h2,h3,h4,h5,h6⟩:=h.rel.at' b ro s cs' hg
  exact⟨C,e,fz,h1,h2,h3,h4,fun i v hi=>by
   obtain⟨h7,v',h8,h9⟩:=h5 i v hi
   exact⟨h7,v',h8,mono h9⟩,h6⟩
 ·cases hx
  rw[JR]
  exact⟨C,e,fz,hC,hs,⟨rfl,hst⟩,hl,fun i v hi=>by
   obtain⟨h7,v',h8,h9⟩:=hv i v hi
   exact⟨h7,v',h8,mono h9⟩,fun hf=>by cases hf⟩
def U4(P:Program):Nat→List Field→Option Nat
 |o,[]=>some o
 |o,f::r=>if f.offset=o then U4 P (o+P.cellsOf f.type) r else none
def XU(P:Program):Nat→TypeId→Bool
 |0,_=>false
 |d+1,t=>match P.underlying t with
  |some .bool=>true
  |some (.int _)=>true
  |some .string=>true
  |some (.slice e)=>decide (0<P.cellsOf e∧0<P.bytesOf e∧P.bytesOf e≤67108864)&&XU P d e
  |some (.struct fs)=>(U4 P 0 fs.toList==some (P.cellsOf t))&&fs.toList.all fun f=>XU P d f.type
  |some (.array n e)=>(n*P.cellsOf e==P.cellsOf t)&&XU P d e
  |_=>false
section
variable {H : Type} {enc : TypeId × Value → H} {P : Program} {B : Nat} {w : World} {base : Nat}
def ZZ(P:Program)(B:Nat)(w:World)(t:TypeId)(cs:List Value):Prop:=∀(ι:Nat→Loc)(m:Mem),Lifted ι m w→∃(κ:Nat→Loc)(m':Mem)(cs':List Value),Lifted κ m' w∧Lifts ι m κ m'∧ARep P m' B t cs'∧VRels m'.Has κ cs' cs∧∀v∈cs',v.oneCell'=true
theorem lift_many:∀(its:List (TypeId×List Value)),(∀x∈its,ZZ P B w x.1 x.2)→∀(ι:Nat→Loc)(m:Mem),Lifted ι m w→∃(κ:Nat→Loc)(m':Mem)(css:List (List Value)),Lifted κ m' w∧Lifts ι m κ m'∧css.length=its.length∧
 (∀(i:Nat)(x:TypeId×List Value)(cs:List Value),its[i]?=some x→css[i]?=some cs→ARep P m' B x.1 cs∧cs.length=x.2.length)∧VRels m'.Has κ css.flatten (its.flatMap (·.2))∧∀v∈css.flatten,v.oneCell'=true
 | [],_,ι,m,hl=>⟨ι,m,[],hl,Lifts.refl ι m,rfl,fun i x cs h=>by simp at h,.nil,fun v hv=>by simp at hv⟩
 |x::r,h,ι,m,hl=>by
  obtain⟨κ,m1,cs,h1,h2,h3,h4,h5⟩:=h x (by simp) ι m hl
  obtain⟨μ,m2,css,g1,g2,g3,g4,g5,g6⟩:=lift_many r (fun y hy=>h y (by simp[hy])) κ m1 h1
  refine⟨μ,m2,cs::css,g1,h2.trans g2,by simp[g3],fun i y cs' hy hc=>?_,?_,?_⟩
  ·cases i with
   |zero=>
    simp at hy hc;subst hy;subst hc
    exact⟨h3.mono g2.has g2.get,h4.1⟩
   |succ i=>exact g4 i y cs' (by simpa using hy) (by simpa using hc)
  ·rw[List.flatten_cons,List.flatMap_cons]
   exact(g2.rels h4).append g5
  ·intro v hv
   rw[List.flatten_cons,qz]at hv
   rcases hv with hv|hv
   ·exact h5 v hv
   ·exact g6 v hv
theorem flatten_at:∀(css:List (List Value))(i:Nat)(cs:List Value),css[i]?=some cs→(css.flatten.drop (((css.take i).map List.length).sum)).take cs.length=cs
 | [],i,cs,h=>by simp at h
 |x::r,0,cs,h=>by simp at h;subst h;simp
 |x::r,i+1,cs,h=>by
  have:=flatten_at r i cs (by simpa using h)
  rw[List.flatten_cons,List.take_succ_cons,List.map_cons,List.sum_cons,List.drop_append, ]
  rw[List.drop_eq_nil_of_le (by omega),List.nil_append,Nat.add_sub_cancel_left]
  exact this
theorem tiles_at:∀(fs:List Field)(o n:Nat),U4 P o fs=some n→n=o+(fs.map fun f=>P.cellsOf f.type).sum∧∀i f,fs[i]?=some f→f.offset=o+((fs.take i).map fun f=>P.cellsOf f.type).sum
 | [],o,n,h=>by simp[U4]at h;subst h;exact⟨by simp,fun i f h=>by simp at h⟩
 |g::r,o,n,h=>by
  unfold U4 at h
  split at h
  ·rename_i hg
   obtain⟨h1,h2⟩:=tiles_at r _ n h
   refine⟨by rw[h1];simp;omega,fun i f hf=>?_⟩
   cases i with
   |zero=>simp at hf;subst hf;simp[hg]
   |succ i=>
    rw[h2 i f (by simpa using hf)]
    simp;omega
  ·cases h
theorem sum_const:∀(l:List Nat)(n:Nat),(∀x∈l,x=n)→l.sum=l.length*n
 | [],n,_=>by simp
 |x::r,n,h=>by
  rw[List.sum_cons,sum_const r n (fun y hy=>h y (by simp[hy])),h x (by simp),List.length_cons,qw]
  omega
theorem flatMap_stretch:∀(k n:Nat)(cs:List Value),cs.length=k*n→((qt k).flatMap fun i=>(cs.drop (i*n)).take n)=cs
 |0,n,cs,h=>by simp at h;simp[h]
 |k+1,n,cs,h=>by
  rw[List.range_succ,List.flatMap_append]
  have e:((qt k).flatMap fun i=>(cs.drop (i*n)).take n)=((qt k).flatMap fun i=>((cs.take (k*n)).drop (i*n)).take n):=by
   rw[List.flatMap_def,List.flatMap_def]
   congr 1
   refine List.map_congr_left fun i hi=>?_
   have hi:i<k:=by simpa using hi
   have:i*n+n≤k*n:=by
    have:=qD n (show i+1≤k by omega)
    rw[qw]at this;omega
   rw[List.drop_take,List.take_take,qE (by omega)]
  rw[e,flatMap_stretch k n (cs.take (k*n)) (by rw[qj,qE];rw[h,qw];omega)]
  rw[qw]at h
  simp only[List.flatMap_cons,List.flatMap_nil,qA]
  rw[List.take_of_length_le (l:=cs.drop (k*n)) (by rw[qy];omega),List.take_append_drop]
theorem tiles_stretch:∀(fs:List Field)(o n:Nat)(cs:List Value),U4 P o fs=some n→cs.length=n→(fs.flatMap fun f=>(cs.drop f.offset).take (P.cellsOf f.type))=cs.drop o
 | [],o,n,cs,h,hl=>by
   simp[U4]at h;subst h
   rw[List.drop_eq_nil_of_le (by omega)];rfl
 |g::r,o,n,cs,h,hl=>by
  unfold U4 at h
  split at h
  ·rename_i hg
   rw[List.flatMap_cons,tiles_stretch r _ n cs h hl,hg,←List.drop_drop]
   exact List.take_append_drop _ _
  ·cases h
theorem tiles_le:∀(fs:List Field)(o n:Nat),U4 P o fs=some n→o≤n
 | [],o,n,h=>by simp[U4]at h;omega
 |g::r,o,n,h=>by
  unfold U4 at h
  split at h
  ·have:=tiles_le r _ n h;omega
  ·cases h
theorem tiles_len:∀(fs:List Field)(o n:Nat)(cs:List Value),U4 P o fs=some n→cs.length=n→∀f∈fs,((cs.drop f.offset).take (P.cellsOf f.type)).length=P.cellsOf f.type
 | [],o,n,cs,h,hl,f,hf=>by simp at hf
 |g::r,o,n,cs,h,hl,f,hf=>by
  unfold U4 at h
  split at h
  ·rename_i hg
   have:=tiles_le r _ n h
   rcases List.mem_cons.1 hf with rfl|hf
   ·rw[qj,qy,hg];omega
   ·exact tiles_len r _ n cs h hl f hf
  ·cases h
theorem many_len(its:List (TypeId×List Value))(css:List (List Value))(h3:css.length=its.length){m:Mem}
 (h4:∀(i:Nat)(x:TypeId×List Value)(cs:List Value),its[i]?=some x→css[i]?=some cs→ARep P m B x.1 cs∧cs.length=x.2.length):css.map List.length=its.map fun x=>x.2.length:=by
 apply List.ext_getElem (by simp[h3])
 intro i h1 h2
 simp only[List.getElem_map]
 simp only[qF]at h1 h2
 exact(h4 i _ _ (qc h2) (qc h1)).2
theorem lift_row(e:TypeId)(N len:Nat)(cs0:List Value)(hl:cs0.length=len*N)(h:∀i,i<len→ZZ P B w e ((cs0.drop (i*N)).take N))(ι:Nat→Loc)(m:Mem)(hL:Lifted ι m w):
 ∃(κ:Nat→Loc)(m':Mem)(cs':List Value),Lifted κ m' w∧Lifts ι m κ m'∧cs'.length=len*N∧(∀i,i<len→ARep P m' B e ((cs'.drop (i*N)).take N))∧VRels m'.Has κ cs' cs0∧∀v∈cs',v.oneCell'=true:=by
 have hst:∀i,i<len→((cs0.drop (i*N)).take N).length=N:=by
  intro i hi
  have:=qD N (show i+1≤len by omega)
  rw[qw]at this
  rw[qj,qy];omega
 obtain⟨κ,m',css,g1,g2,g3,g4,g5,g6⟩:=lift_many (P:=P) (B:=B) (w:=w) ((qt len).map fun i=>(e,(cs0.drop (i*N)).take N)) (by
  intro x hx
  obtain⟨i,hi,rfl⟩:=qr.1 hx
  exact h i (by simpa using hi)) ι m hL
 have hmap:((qt len).map fun i=>(e,(cs0.drop (i*N)).take N)).flatMap (·.2)=cs0:=by
  rw[List.flatMap_map]
  exact flatMap_stretch len N cs0 hl
 rw[hmap]at g5
 have hml:=many_len _ css g3 g4
 have hN:∀k,k∈css.map List.length→k=N:=by
  intro k hk
  rw[hml,List.map_map]at hk
  obtain⟨i,hi,rfl⟩:=qr.1 hk
  exact hst i (by simpa using hi)
 refine⟨κ,m',css.flatten,g1,g2,by rw[g5.1,hl],fun i hi=>?_,g5,g6⟩
 have hi2:i<css.length:=by rw[g3];simpa using hi
 have h7:=flatten_at css i _ (qc hi2)
 rw[sum_const _ N (fun x hx=>hN x (by rw[List.map_take]at hx;exact List.mem_of_mem_take hx)),qF,qj,qE (by omega),hN css[i].length (qr.2 ⟨_,List.getElem_mem _,rfl⟩)]at h7
 rw[h7]
 exact(g4 i (e,(cs0.drop (i*N)).take N) css[i] (by simp[hi]) (qc hi2)).1
theorem lift_fields(t:TypeId)(fs:Array Field)(hu:P.underlying t=some (.struct fs))(ht:U4 P 0 fs.toList=some (P.cellsOf t))(cs0:List Value)(hl:cs0.length=P.cellsOf t)
 (h:∀f∈fs.toList,ZZ P B w f.type ((cs0.drop f.offset).take (P.cellsOf f.type))):ZZ P B w t cs0:=by
 intro ι m hL
 obtain⟨κ,m',css,g1,g2,g3,g4,g5,g6⟩:=lift_many (P:=P) (B:=B) (w:=w) (fs.toList.map fun f=>(f.type,(cs0.drop f.offset).take (P.cellsOf f.type))) (by
  intro x hx
  obtain⟨f,hf,rfl⟩:=qr.1 hx
  exact h f hf) ι m hL
 have hmap:(fs.toList.map fun f=>(f.type,(cs0.drop f.offset).take (P.cellsOf f.type))).flatMap (·.2)=cs0:=by
  rw[List.flatMap_map]
  have:=tiles_stretch fs.toList 0 _ cs0 ht hl
  rw[List.drop_zero]at this
  exact this
 rw[hmap]at g5
 have hml:=many_len _ css g3 g4
 have hcf:css.map List.length=fs.toList.map fun f=>P.cellsOf f.type:=by
  rw[hml,List.map_map]
  exact List.map_congr_left fun f hf=>tiles_len fs.toList 0 _ cs0 ht hl f hf
 refine⟨κ,m',css.flatten,g1,g2,.struct hu _ (by rw[g5.1,hl]) fun f hf=>?_,g5,g6⟩
 obtain⟨i,hi,hfi⟩:=List.getElem_of_mem hf
 have hi2:i<css.length:=by rw[g3];simpa using hi
 have hoff:=(tiles_at fs.toList 0 _ ht).2 i f (by rw[qc hi,hfi])
 have h7:=flatten_at css i _ (qc hi2)
 have hlen:css[i].length=P.cellsOf f.type:=by
  have:=(g4 i (f.type,(cs0.drop f.offset).take (P.cellsOf f.type)) css[i] (by rw[qv,qc hi,hfi];rfl) (qc hi2)).2
  rw[this]
  exact tiles_len fs.toList 0 _ cs0 ht hl f hf
 rw[List.map_take,hcf,←List.map_take,←qB (List.sum _),←hoff,hlen]at h7
 rw[h7]
 exact(g4 i (f.type,(cs0.drop f.offset).take (P.cellsOf f.type)) css[i] (by rw[qv,qc hi,hfi];rfl) (qc hi2)).1
theorem lift_slice(t e:TypeId)(hu:P.underlying t=some (.slice e))(hN:0<P.cellsOf e)(a:Addr)(len cap:Nat)(hlc:len≤cap)(hc:cap≤maxLen)(hB:cap≤B∧cap*P.bytesOf e≤reachBytes)
 (h:∀i,i<len→∃cs,w.cells? base (a.add (i*P.cellsOf e)) (P.cellsOf e)=some cs∧ZZ P B w e cs) (hsp:0<cap→a.spot=none):ZZ P B w t [.slice (some a) len cap]:=by
 intro ι m hL
 obtain⟨b,off,sp⟩:=a
 by_cases h0:len=0
 ·subst h0
  obtain⟨g1,g2⟩:=hL.dead ⟨b,off,0,0⟩
  refine⟨_,_,[.slice (some ⟨m.size,0,none⟩) 0 cap],g1,g2,.empty hu _ _ (Ki m) hc hB,.cons ?_ .nil,fun v hv=>by simp at hv;subst hv;rfl⟩
  by_cases hc0:cap=0
  ·subst hc0
   exact .empty _ _ _ (Ki m)
  ·have hsp:=hsp (by omega)
   simp only at hsp
   subst hsp
   have:=VRel.slice (n:=(Xz m).Has) (ι:=Qh ι m.size ⟨b,off,0,0⟩) m.size 0 0 cap cap (Ki m) (qk _) (.inl rfl)
   rw[JR]at this
   exact this
 ·obtain⟨N,hNe⟩:∃N,N=P.cellsOf e:=⟨_,rfl⟩
  rw[←hNe]at hN h
  have hsp:=hsp (by omega)
  simp only at hsp
  subst hsp
  have hcell:∀i,i<len→∃cs,w.cells? base (⟨b,off+i*N,none⟩:Addr) N=some cs∧ZZ P B w e cs:=by
   intro i hi
   have:=h i hi
   rwa [Xo]at this
  obtain⟨cs1,hc1,_⟩:=hcell 0 (by omega)
  obtain⟨hl1,hg1⟩:=cells?_get hc1
  have hw0:=hg1 0 cs1[0] (qc (by omega))
  rw[Xo]at hw0
  have hblk:∃C e fz,w.heap[b]?=some (.cells C e fz):=by
   unfold World.cell? at hw0
   simp only at hw0
   split at hw0
   ·rename_i C e fz hC;exact⟨C,e,fz,hC⟩
   ·cases hw0
  obtain⟨C,eC,fz,hC⟩:=hblk
  have hin:∀i,i<len→off+i*N+N≤C.size∧∀cs,w.cells? base (⟨b,off+i*N,none⟩:Addr) N=some cs→cs=((C.toList.drop off).drop (i*N)).take N:=by
   intro i hi
   obtain⟨cs,hcs,_⟩:=hcell i hi
   obtain⟨hl,hg⟩:=cells?_get hcs
   have hge:∀j,j<N→C[off+i*N+j]?=cs[j]?:=by
    intro j hj
    have:=hg j cs[j] (qc (by omega))
    rw[Xo,Qi hC]at this
    rw[this,qc]
   have hlast:=hge (N-1) (by omega)
   rw[qc (by omega)]at hlast
   have hlt:=(Array.getElem?_eq_some_iff.1 hlast).1
   refine⟨by omega,fun cs' hcs'=>?_⟩
   rw[hcs]at hcs'
   cases hcs'
   apply List.ext_getElem?
   intro j
   by_cases hj:j<N
   ·rw[←hge j hj,qh,if_pos hj,qI,qI,qd,Nat.add_assoc]
   ·rw[List.getElem?_eq_none (by omega),List.getElem?_eq_none (by rw[qj];omega)]
  have hsz:off+len*N≤C.size:=by
   have:=(hin (len-1) (by omega)).1
   rw[Nat.sub_mul,Nat.one_mul]at this
   have h2:N≤len*N:=Nat.le_mul_of_pos_left _ (by omega)
   omega
  have hl0:((C.toList.drop off).take (len*N)).length=len*N:=by rw[qj,qy,qo];omega
  obtain⟨κ,m',cs',g1,g2,g3,g4,g5,g6⟩:=lift_row (P:=P) (B:=B) (w:=w) e N len ((C.toList.drop off).take (len*N)) hl0 (by
   intro i hi
   obtain⟨cs,hcs,hlo⟩:=hcell i hi
   have:=(hin i hi).2 cs hcs
   have h2:=qD N (show i+1≤len by omega)
   rw[qw]at h2
   rw[List.drop_take,List.take_take,qE (by omega),←this]
   exact hlo) ι m hL
  have hlen:cs'.length=len*N:=g3
  obtain⟨k1,k2⟩:=g1.push ⟨b,off,C.size,N⟩ cs' C eC fz hC rfl (by simp only;omega) (by
   intro i v hi
   refine⟨g6 v (qC hi),?_⟩
   obtain⟨y,hy,hr⟩:=g5.get hi
   rw[qh]at hy
   split at hy
   ·rw[qI,qd]at hy;exact⟨y,hy,hr⟩
   ·cases hy) (.row len hlen)
  refine⟨_,_,[.slice (some ⟨m'.size,0,none⟩) len cap],k1,g2.trans k2,.slice hu _ _ _ cs' (by rw[←hNe];exact Mem.get_push_new _ _) (by rw[←hNe];exact hlen) hlc hc hB (fun i hi=>?_),.cons ?_ .nil,fun v hv=>by simp at hv;subst hv;rfl⟩
  ·rw[←hNe]
   exact(g4 i hi).mono k2.has k2.get
  ·have:=VRel.slice (n:=(m'.push (.cells true N cs')).Has) (ι:=Qh κ m'.size ⟨b,off,C.size,N⟩) m'.size 0 len cap cap (Mem.has_push_new _ _) hlc (.inl rfl)
   rw[JR]at this
   exact this
structure Closed(P:Program)(B:Nat)(K:TypeId→DataW H→Prop):Prop where
 str:∀t l,K t (.lit (.string l))→l.length≤B
 slice:∀t e es sp,P.underlying t=some (.slice e)→0<P.bytesOf e→P.bytesOf e≤67108864→K t (.slice es sp)→(es.length+sp.length≤B∧(es.length+sp.length)*P.bytesOf e≤reachBytes)∧∀d∈es,K e d
 struct:∀t fs ps,P.underlying t=some (.struct fs)→K t (.agg ps)→∀(i:Nat)(f:Field) d,fs[i]?=some f→ps[i]?=some d→K f.type d
 array:∀t n e ps,P.underlying t=some (.array n e)→K t (.agg ps)→∀d∈ps,K e d
theorem lift_one{K:TypeId→DataW H→Prop}(hK:Closed P B K):∀(fuel d:Nat)(t:TypeId)(cs:List Value)(x:DataW H×List MemPlace),XU P d t=true→DataW.trod enc P w base (fun _=>true) true fuel t cs=some x→K t x.1→ZZ P B w t cs
 |0,_,_,_,_,_,h,_=>by simp[DataW.trod]at h
 |fuel+1,0,_,_,_,hd,_,_=>by simp[XU]at hd
 |fuel+1,d+1,t,cs,x,hd,h,hk=>by
  intro ι m hL
  unfold XU at hd
  have one:∀v,flat 3 v=true→v.oneCell'=true→ARep P m B t [v]→∃(κ:Nat→Loc)(m':Mem)(cs':List Value),Lifted κ m' w∧Lifts ι m κ m'∧ARep P m' B t cs'∧VRels m'.Has κ cs' [v]∧∀v∈cs',v.oneCell'=true:=fun v hf h1 hr=>
   ⟨ι,m,[v],hL,Lifts.refl ι m,hr,.cons (QL 3 v hf) .nil,fun u hu=>by simp at hu;subst hu;exact h1⟩
  cases hu:P.underlying t with
  |none=>simp[hu]at hd
  |some ty=>
   simp only[hu]at hd
   cases ty<;>simp only[Bool.false_eq_true]at hd
   case bool=>
    simp only[DataW.trod,hu]at h
    split at h<;>simp_all
    exact one _ rfl rfl (.bool hu _)
   case int k=>
    simp only[DataW.trod,hu]at h
    split at h<;>simp_all
    rename_i h0
    obtain⟨⟨rfl,hw⟩,_⟩:=h
    cases h0
    exact one _ rfl rfl (.int hu _ hw)
   case string=>
    simp only[DataW.trod,hu]at h
    split at h<;>simp_all
    obtain⟨_,rfl⟩:=h
    have:=hK.str _ _ hk
    exact one _ rfl rfl (.string hu _ (by simpa using this))
   case slice e=>
    simp only[qe,decide_eq_true_eq]at hd
    simp only[DataW.trod,hu]at h
    match cs,h with
    | [.slice none 0 0],h=>exact one _ rfl rfl (.nil hu)
    | [.slice (some a) len cap],h=>
      simp only at h
      split at h
      ·rename_i hlc
       simp only[qu,qx,if_true]at h
       obtain⟨elems,h1,rest,h2,rfl⟩:=h
       obtain⟨hkB,hke⟩:=hK.slice _ _ _ _ hu hd.1.2.1 hd.1.2.2 hk
       have hat:∀i y,K e y.1→(w.cells? base (a.add (i*P.cellsOf e)) (P.cellsOf e)).bind (DataW.trod enc P w base (fun _=>true) true fuel e)=some y→∃cs,w.cells? base (a.add (i*P.cellsOf e)) (P.cellsOf e)=some cs∧ZZ P B w e cs:=by
        intro i y hky hy
        rw[qu]at hy
        obtain⟨cs,hcs,htr⟩:=hy
        exact⟨cs,hcs,lift_one hK fuel d e cs y hd.2 htr hky⟩
       obtain⟨l1,k1⟩:=UJ h1
       obtain⟨l2,k2⟩:=UJ h2
       have hel:∀i,i<len→∃cs,w.cells? base (a.add (i*P.cellsOf e)) (P.cellsOf e)=some cs∧ZZ P B w e cs:=by
        intro i hi
        have:=k1 i (by simpa using hi)
        rw[qJ,qc (by rw[l1];simpa using hi)]at this
        exact hat i _ (hke _ (qr.2 ⟨_,List.getElem_mem _,rfl⟩)) this
       refine lift_slice t e hu hd.1.1 a len cap hlc.2.1 hlc.2.2 (by
        have e1:(elems.map (·.1)).length+(rest.map (·.1)).length=cap:=by
         rw[qF,qF,l1,l2,List.length_range,List.length_range];omega
        rw[e1]at hkB
        exact hkB) hel (fun hcap=>?_) ι m hL
       have:∃cs,w.cells? base (a.add (0*P.cellsOf e)) (P.cellsOf e)=some cs:=by
        by_cases h0:0<len
        ·obtain⟨cs,hcs,_⟩:=hel 0 h0
         exact⟨cs,hcs⟩
        ·have:=k2 0 (by simp;omega)
         rw[qJ,qc (by rw[l2];simp;omega)]at this
         rw[qu]at this
         obtain⟨cs,hcs,_⟩:=this
         have e0:len+0=0:=by omega
         rw[e0]at hcs
         exact⟨cs,hcs⟩
       obtain⟨cs,hcs⟩:=this
       obtain⟨hl,hg⟩:=cells?_get hcs
       have:=hg 0 cs[0] (qc (by omega))
       have:=World.cell?_spot this
       simpa[Addr.add]using this
      ·cases h
   case struct fs=>
    simp only[qe,beq_iff_eq,qi]at hd
    simp only[DataW.trod,hu]at h
    split at h
    ·rename_i hl
     simp only[qx]at h
     obtain⟨xs,h1,rfl⟩:=h
     obtain⟨l1,k1⟩:=UJ h1
     refine lift_fields t fs hu hd.1 cs hl (fun f hf=>?_) ι m hL
     obtain⟨i,hi,rfl⟩:=List.getElem_of_mem hf
     have:=k1 i hi
     rw[qc (by rw[l1];exact hi)]at this
     exact lift_one hK fuel d _ _ _ (hd.2 _ hf) this (hK.struct _ _ _ hu hk i _ _ (by rw[←qd,qc hi]) (by rw[qv,qc (by rw[l1];exact hi)];rfl))
    ·cases h
   case array n e=>
    simp only[qe,beq_iff_eq]at hd
    simp only[DataW.trod,hu]at h
    split at h
    ·rename_i hl
     simp only[qx]at h
     obtain⟨xs,h1,rfl⟩:=h
     obtain⟨l1,k1⟩:=UJ h1
     obtain⟨κ,m',cs',g1,g2,g3,g4,g5,g6⟩:=lift_row (P:=P) (B:=B) (w:=w) e (P.cellsOf e) n cs (by rw[hl,hd.1]) (fun i hi=>by
      have:=k1 i (by simpa using hi)
      rw[qJ,qc (by rw[l1];simpa using hi)]at this
      exact lift_one hK fuel d e _ _ hd.2 this (hK.array _ _ _ _ hu hk _ (qr.2 ⟨_,List.getElem_mem _,rfl⟩))) ι m hL
     exact⟨κ,m',cs',g1,g2,.array hu cs' (by rw[g3,hd.1]) g4,g5,g6⟩
    ·cases h
end
def ArgOf(P:Program)(m:Mem)(B:Nat)(t:TypeId)(v:Value):Prop:=
 match P.underlying t with
 |some (.struct _)|some (.array _ _)=>∃cs:List Value,v=.agg cs.toArray∧ARep P m B t cs
 |_=>ARep P m B t [v]
theorem ArgOf.mono{P:Program}{m m':Mem}{B:Nat}{t:TypeId}{v:Value}(h:ArgOf P m B t v)(hh:∀b,m.Has b→m'.Has b)(hg:∀b x,m.get b=some x→m'.get b=some x):ArgOf P m' B t v:=by
 unfold ArgOf at h ⊢
 split<;>rename_i hu<;>simp only[hu]at h
 ·obtain⟨cs,e,h⟩:=h;exact⟨cs,e,h.mono hh hg⟩
 ·obtain⟨cs,e,h⟩:=h;exact⟨cs,e,h.mono hh hg⟩
 ·exact h.mono hh hg
inductive ArgsOf(P:Program)(m:Mem)(B:Nat):List TypeId→List Value→Prop
 |nil:ArgsOf P m B [] []
 |cons {t:TypeId} {v:Value} {ts:List TypeId} {vs:List Value} (h:ArgOf P m B t v) (hs:ArgsOf P m B ts vs):ArgsOf P m B (t::ts) (v::vs)
theorem ArgsOf.mono{P:Program}{m m':Mem}{B:Nat}{ts:List TypeId}{vs:List Value}(h:ArgsOf P m B ts vs)(hh:∀b,m.Has b→m'.Has b)(hg:∀b x,m.get b=some x→m'.get b=some x):ArgsOf P m' B ts vs:=by
 induction h with
 |nil=>exact .nil
 |cons h _ ih=>exact .cons (h.mono hh hg) ih
theorem lift_arg{H:Type}{enc:TypeId×Value→H}{P:Program}{B:Nat}{K:TypeId→DataW H→Prop}(hK:Closed P B K){w:World}{base b2:Nat}{t:TypeId}{v:Value}{d:DataW H}{ps:List MemPlace}(hl:XU P 20 t=true)(hv:Value.okWide P w .any b2 t v)
 (h:DataW.Trod enc P w base (fun _=>true) true t v d ps) (hk:K t d) (ι:Nat→Loc) (m:Mem) (hL:Lifted ι m w):
 ∃(κ:Nat→Loc)(m':Mem)(v':Value),Lifted κ m' w∧Lifts ι m κ m'∧ArgOf P m' B t v'∧VRel m'.Has κ v' v:=by
 obtain⟨fuel,h⟩:=h
 obtain⟨κ,m',cs',g1,g2,g3,g4,g5⟩:=lift_one (enc:=enc) hK fuel 20 t _ _ hl h hk ι m hL
 have hrow:(∃cs:Array Value,v=.agg cs)→((∃fs,P.underlying t=some (.struct fs))∨(∃n e,P.underlying t=some (.array n e)))→∃(κ:Nat→Loc)(m':Mem)(v':Value),Lifted κ m' w∧Lifts ι m κ m'∧ArgOf P m' B t v'∧VRel m'.Has κ v' v:=by
  rintro⟨cs,rfl⟩ ht
  refine⟨κ,m',.agg cs'.toArray,g1,g2,?_,VRel.aggs (by simpa[Value.cells]using g4)⟩
  unfold ArgOf
  rcases ht with⟨fs,hu⟩|⟨n,e,hu⟩<;>rw[hu]<;>exact⟨cs',rfl,g3⟩
 have hone:v.cells.toList=[v]→(∀fs,P.underlying t≠some (.struct fs))→(∀n e,P.underlying t≠some (.array n e))→∃(κ:Nat→Loc)(m':Mem)(v':Value),Lifted κ m' w∧Lifts ι m κ m'∧ArgOf P m' B t v'∧VRel m'.Has κ v' v:=by
  intro hc h1 h2
  rw[hc]at g4
  have hlen:=g4.1
  match cs',hlen with
  | [u],_=>
    refine⟨κ,m',u,g1,g2,?_,g4.2 0 u v rfl rfl⟩
    unfold ArgOf
    split
    ·rename_i fs hu;exact absurd hu (h1 fs)
    ·rename_i n e hu;exact absurd hu (h2 n e)
    ·exact g3
 unfold XU at hl
 unfold Value.okWide at hv
 cases hu:P.underlying t with
 |none=>simp[hu]at hl
 |some ty=>
  simp only[hu]at hl hv
  cases ty<;>simp only[Bool.false_eq_true]at hl
  case bool=>
   refine hone ?_ (by simp[hu]) (by simp[hu])
   unfold Cell.okWide at hv
   simp only[hu]at hv
   unfold Cell.ok at hv
   simp only[hu]at hv
   cases v<;>simp_all[Value.cells]
  case int k=>
   refine hone ?_ (by simp[hu]) (by simp[hu])
   unfold Cell.okWide at hv
   simp only[hu]at hv
   unfold Cell.ok at hv
   simp only[hu]at hv
   cases v<;>simp_all[Value.cells]
  case string=>
   refine hone ?_ (by simp[hu]) (by simp[hu])
   unfold Cell.okWide at hv
   simp only[hu]at hv
   unfold Cell.ok at hv
   simp only[hu]at hv
   cases v<;>simp_all[Value.cells]
  case slice e=>
   refine hone ?_ (by simp[hu]) (by simp[hu])
   unfold Cell.okWide at hv
   simp only[hu]at hv
   unfold Cell.ok at hv
   simp only[hu]at hv
   cases v<;>simp_all[Value.cells]
  case struct fs=>
   obtain⟨cs,rfl,_⟩:=hv
   exact hrow ⟨cs,rfl⟩ (.inl ⟨fs,hu⟩)
  case array n e=>
   obtain⟨cs,rfl,_⟩:=hv
   exact hrow ⟨cs,rfl⟩ (.inr ⟨n,e,hu⟩)
theorem lift_args{H:Type}{enc:TypeId×Value→H}{P:Program}{B:Nat}{K:TypeId→DataW H→Prop}(hK:Closed P B K){w:World}{base b2:Nat}:∀(ts:List TypeId)(vs:List Value)(ds:List (DataW H))(ps:List MemPlace),(∀t∈ts,XU P 20 t=true)→
 (∀(j:Nat) t v,ts[j]?=some t→vs[j]?=some v→Value.okWide P w .any b2 t v)→DataW.TrodAll enc P w base (fun _=>true) true ts vs ds ps→(∀(j:Nat) t d,ts[j]?=some t→ds[j]?=some d→K t d)→∀(ι:Nat→Loc)(m:Mem),Lifted ι m w→
 ∃(κ:Nat→Loc)(m':Mem)(vs':List Value),Lifted κ m' w∧Lifts ι m κ m'∧ArgsOf P m' B ts vs'∧VRels m'.Has κ vs' vs
 | [],[],[],_,_,_,_,_,ι,m,hL=>⟨ι,m,[],hL,Lifts.refl ι m,.nil,.nil⟩
 |t::ts,v::vs,d::ds,_,hl,hv,h,hk,ι,m,hL=>by
  obtain⟨p,q,h1,h2,rfl⟩:=h
  obtain⟨κ,m1,vs',g1,g2,g3,g4⟩:=lift_args hK ts vs ds q (fun t ht=>hl t (by simp[ht])) (fun j t' v' hj1 hj2=>hv (j+1) t' v' (by simpa using hj1) (by simpa using hj2)) h2 (fun j t' d' hj1 hj2=>hk (j+1) t' d' (by simpa using hj1) (by simpa using hj2)) ι m hL
  obtain⟨μ,m2,v',k1,k2,k3,k4⟩:=lift_arg hK (hl t (by simp)) (hv 0 t v rfl rfl) h1 (hk 0 t d rfl rfl) κ m1 g1
  exact⟨μ,m2,v'::vs',k1,g2.trans k2,.cons k3 (g3.mono k2.has k2.get),.cons k4 (k2.rels g4)⟩
 | [],_::_,_,_,_,_,h,_,_,_,_=>by simp[DataW.TrodAll]at h
 | [],[],_::_,_,_,_,h,_,_,_,_=>by simp[DataW.TrodAll]at h
 |_::_,[],_,_,_,_,h,_,_,_,_=>by simp[DataW.TrodAll]at h
 |_::_,_::_,[],_,_,_,h,_,_,_,_=>by simp[DataW.TrodAll]at h
theorem Spec.calls{P:Program}{k:FuncId}{xs:List Value}{m:Mem}{v:Value}(hf:flat 3 v=true)(h:Spec P k xs m fun u _=>u=v){ι:Nat→Loc}{w:World}(hL:Lifted ι m w){ys:List Value}(hy:VRels m.Has ι xs ys):
 Calls P k ys.toArray w fun e w'=>e=.returned v∧Below w.heap.size w w':=by
 refine(h ι w ys hy hL.rel).mono ?_
 rintro e w' ⟨u,v',κ,m',rfl,rfl,hv,hr,hs⟩
 exact⟨by rw[Vr 3 _ _ hf hv],hs.os,hs.tape,hs.output,hs.size,fun g hg=>hs.block g hg fun b hb=>absurd hb (hL.ro b)⟩
theorem closed_sized{H:Type}(P:Program):Closed (H:=H) P reachBytes fun t d=>∀n∈d.weights P t,n≤reachBytes where
 str t l h:=h _ (by simp[DataW.weights])
 slice t e es sp hu h1 h2 h:=by
  simp only[DataW.weights,hu]at h
  have h3:=h _ (List.mem_cons_self)
  refine⟨⟨Nat.le_trans (Nat.le_mul_of_pos_right _ h1) h3,h3⟩,fun d hd n hn=>h n ?_⟩
  refine List.mem_cons_of_mem _ (List.mem_append_left _ ?_)
  clear h h3
  induction es with
  |nil=>cases hd
  |cons x r ih=>
   rw[DataW.weightsAll,qz]
   rcases List.mem_cons.1 hd with rfl|hd
   ·exact .inl hn
   ·exact .inr (ih hd)
 struct t fs ps hu h i f d hf hd n hn:=by
  simp only[DataW.weights,hu]at h
  exact h n (DataW.weights_mem_each (by rw[qv,qd,hf];rfl) hd n hn)
 array t n e ps hu h d hd k hk:=by
  simp only[DataW.weights,hu]at h
  refine h k ?_
  clear h
  induction ps with
  |nil=>cases hd
  |cons x r ih=>
   rw[DataW.weightsAll,qz]
   rcases List.mem_cons.1 hd with rfl|hd
   ·exact .inl hk
   ·exact .inr (ih hd)
theorem calls_of_spec{P:Program}{n:FuncId}{f:Func}(ts:List TypeId)(hp:f.params.toList=ts)(hl:∀t∈ts,XU P 20 t=true)(h:∀(m:Mem)(vs:List Value),(∀b,¬m.Own b)→ArgsOf P m reachBytes ts vs→Spec P n vs m fun u _=>u=.bool true)
 {H:Type} {enc:TypeId×Value→H} {W:World} {base:Nat} {args:Array Value} {ds:List (DataW H)} {ps:List MemPlace} (hg:GlobK W) (hval:∀(j:Nat) t v,f.params[j]?=some t→args[j]?=some v→Value.okWide P W .any base t v)
 (hA:DataW.TrodAll enc P W 0 (fun _=>true) true f.params.toList args.toList ds ps) (hk:∀x∈DataW.weightsEach P f.params.toList ds,x≤reachBytes):Calls P n args W fun e W'=>e=.returned (.bool true)∧Below W.heap.size W W':=by
 rw[hp]at hA hk
 obtain⟨κ,m,vs,g1,g2,g3,g4⟩:=lift_args (closed_sized P) (b2:=base) ts args.toList ds ps hl (fun j t v hj hv=>hval j t v (by rw[←hp]at hj;simpa using hj) (by simpa using hv)) hA
  (fun j t d hj hd x hx=>hk x (DataW.weights_mem_each hj hd x hx)) _ _ (Lifted.nil W hg)
 exact Spec.calls rfl (h m vs g1.ro g3) g1 g4
end Go.Proofs.YteccmcpaheepcaaGreatDoor.Abs
namespace Go.Proofs.YteccmcpaheepcaaGreatDoor
open Go.ChangeShapes Go.WideShapes Go.ChangeAt Go.RowKit Abs
theorem K8{C:Checked}{os:Os}{n:FuncId}{f:Func}{s:ChangeSpec}{tb:TypeId}{laid:List (String×DataW Unit)}(own:ownKnob C.prog.godebug=none)(started:os.Started)
 (noInit:C.prog.inits.idxOf? n=none) (hf:C.prog.funcs[n]?=some f) (hl:laidOutB C.prog=true)
 (hs:IsLaw s f.params.size) (hr:f.resultTypes=#[tb]) (hu:C.prog.underlying tb=some .bool) (hp:∀t∈f.params.toList,C.prog.readableRec t=true∧t<C.prog.types.size)
 (hpl:(laid.all fun x=>x.2.handleName?.isNone)=true)
 {H:Type} {enc:TypeId×Value→H} (F:Stop.Interp)
 (witness:∃(w:World)(tape:Tape)(i:Input),w.os=os∧(w.forCall tape i).Shaped C.prog∧i.vars=[]∧Input.okWide C.prog (w.forCall tape i) .any w.heap.size n i∧
  (OpenSpec.ofChange s).preRow enc C.prog f [] false laid (w.forCall tape i).memory i.args∧Assume.holds {} C.prog (lone (Frame.enter C.prog n i.args .normal) [] (w.forCall tape i)))
 (walk:∀(W:World)(base:Nat)(args:Array Value)(ds:List (DataW H))(ps:List MemPlace),laidMet C.prog laid W→W.ShapedOpen C.prog→(∀(j:Nat) t v,f.params[j]?=some t→args[j]?=some v→Value.okWide C.prog W .any base t v)→
  DataW.TrodAll enc C.prog W 0 (fun _=>true) true f.params.toList args.toList ds ps→(∀x∈DataW.weightsEach C.prog f.params.toList ds,x≤reachBytes)→
  Calls C.prog n args W fun e W'=>e=.returned (.bool true)∧Below W.heap.size W W'):
 ReturnsInHanded {} C os n .any ((OpenSpec.ofChange s).preRow enc C.prog f [] false laid) (((OpenSpec.ofChange s).at F).post enc C.prog f false true false false):=by
 refine returnsInHanded_of_row (C:=C) (s:=OpenSpec.ofChange s) own started noInit hf witness ?_
 intro W base args ds gs before hval hW _ _ hz hL hS _
 obtain⟨p,q,hA,hV,rfl,hfz,hnd⟩:=id hW
 have hv:(OpenSpec.ofChange s).vars=[]:=hs.1
 have hv0:s.vars=[]:=hs.1
 rw[hv]at hV
 obtain⟨rfl,rfl⟩:=trodVars_none hV
 rw[qA]at hz
 have hz':∀x∈DataW.weightsEach C.prog f.params.toList ds,x≤reachBytes:=by
  have e:(OpenSpec.ofChange s).bare.plain.varTypes C.prog=[]:=by
   show s.plain.varTypes C.prog=[]
   simp[ChangeSpec.plain,hv0,DataSpec.varTypes]
  rw[e,qA]at hz
  intro x hx
  simpa using qi.1 hz x hx
 rw[MakeChecks.laidMetH_plain _ _ _ hpl]at hL
 refine(walk W base args ds p hL hS hval hA hz').mono fun e W' ⟨he,hb⟩=>?_
 exact⟨_,he,law_post hl hs hr hu hp hW hb⟩
end Go.Proofs.YteccmcpaheepcaaGreatDoor
namespace Go.Proofs.YteccmcpaheepcaaGreatDoor.Abs
open Go Go.RowKit
def pos:List Nat→Nat→Option Nat
 | [],_=>none
 |x::r,b=>if b=x then some 0 else match pos r b with
  |some c=>some (c+1)
  |none=>none
section
variable {P : Program} {n k : Nat} {f : AL} {m : Mem}
def AK(P:Program)(k:Nat)(c:Code)(Q:Exit→List Value→Mem→Prop)(a:List Value)(m:Mem):Prop:=
 ∀(ι₀:Nat→Loc)(m₀:Mem)(w₀:World)(ι:Nat→Loc)(act:Act)(w:World),m₀.size≤k→Step ι₀ m₀ w₀ ι m w→ARel m.Has ι a act→Rel ι m w→c.wp P (UY ι₀ m₀ w₀ Q) act w
def CW(P:Program)(n k:Nat) [c:Box Code] [Q:Box (Exit→AL→Mem→Prop)] (f:AL)(m:Mem):Prop:=
 ∀a,Knows n f a→AK P k c.k (fun e a' m'=>∃f',Knows n f' a'∧Q.k e f' m') a m
variable {Q : Exit → AL → Mem → Prop}
def cThen [next:Box (AL→Mem→Prop)] [Q:Box (Exit→AL→Mem→Prop)]:Exit→AL→Mem→Prop
 |.normal,f,m=>next.k f m
 |e,f,m=>Q.k e f m
def cBlock(i:Nat) [Q:Box (Exit→AL→Mem→Prop)]:Exit→AL→Mem→Prop
 |.exit j,f,m=>if j=i then Q.k .normal f m else Q.k (.exit j) f m
 |e,f,m=>Q.k e f m
theorem CW.of_SW{c:Code}(h:SW P n c Q f m):@CW P n k ⟨c⟩ ⟨Q⟩ f m:=fun a ha ι₀ m₀ w₀ ι act w _=>h a ha ι₀ m₀ w₀ ι act w
theorem J3(h:Q .normal f m):@CW P n k ⟨.skip⟩ ⟨Q⟩ f m:=.of_SW (Q2 h)
theorem Jp{i:Nat}(h:Q (.exit i) f m):@CW P n k ⟨.exit i⟩ ⟨Q⟩ f m:=.of_SW (Qz h)
theorem Qx(h:Q .ret f m):@CW P n k ⟨.ret⟩ ⟨Q⟩ f m:=.of_SW (X4 h)
theorem J1{id:Nat}{ops:Array Oper}(h:@sOpsB P n ops.toList ⟨Q .normal⟩ ops.toList f m):@CW P n k ⟨.region id ops false⟩ ⟨Q⟩ f m:=.of_SW (J2 h)
theorem QN{id:Nat}{ops:Array Oper}(hmix:P.follows .mixedOrders=true)(q:Nat)(hq:Qm ops q=true)(hqs:Nat.ble q ops.size=true)
 (h:@sHeadB P n ops.toList m ⟨fun f' M=>@sOpsB P n ops.toList ⟨Q .normal⟩ (ops.toList.drop q) f' M⟩ (ops.toList.take q) false f m):@CW P n k ⟨.region id ops true⟩ ⟨Q⟩ f m:=.of_SW (Z0 hmix q hq hqs h)
theorem CW_draw2{id:Nat}{ops:Array Oper}(hmix:P.follows .mixedOrders=true)(q:Nat)(hq:drawOK2 ops q=true)
 (h:@sHeadB P n ops.toList m ⟨fun f' M=>@sOpsB P n ops.toList ⟨Q .normal⟩ (ops.toList.drop q) f' M⟩ (ops.toList.take q) false f m):@CW P n k ⟨.region id ops true⟩ ⟨Q⟩ f m:=.of_SW (SW_draw2 hmix q hq h)
def sQB(P:Program)(n:Nat)(all:List Oper)(m:Mem)(J:List Nat) [K:Box (AL→Mem→Prop)]:List Oper→AL→Mem→Prop
 | [],_,_=>False
 |oq::r,f',M=>@QP _ (sMem P (AL.look f') M oq.op) ⟨fun p=>Zq P all f' m p.2 J∧@sPut n oq.dst p.1 f' ⟨fun f''=>@sOpsB P n all K r f'' p.2⟩⟩
theorem CW_draw4{id:Nat}{ops:Array Oper}(hmix:P.follows .mixedOrders=true)(q:Nat)(J:List Nat)(hq:ZY P ops q J=true)
 (h:@sHeadB P n ops.toList m ⟨fun f' M=>@sQB P n ops.toList m J ⟨Q .normal⟩ (ops.toList.drop q) f' M⟩ (ops.toList.take q) false f m):@CW P n k ⟨.region id ops true⟩ ⟨Q⟩ f m:=by
 have hqs:q<ops.toList.length:=by
  have:=hq
  simp only[ZY,qe]at this
  have:=qf this.1.1.2
  rw[qo]
  omega
 rw[qq hqs]at h
 exact .of_SW (SW_draw4 hmix q J hq (oq:=ops.toList[q]) (by rw[←qd];exact qc hqs) h)
def sQB6(P:Program)(n:Nat)(all:List Oper)(m:Mem)(J:List Nat) [K:Box (AL→Mem→Prop)]:List Oper→AL→Mem→Prop
 | [],_,_=>False
 |oq::r,f',M=>@QP _ (sCallee (AL.look f') oq.op) ⟨fun p=>Qf P p.1=true∧∃R,Spec P p.1 p.2 M R∧@Later ⟨∀u M',R u M'→Zq P all f' m M' J∧@sPut n oq.dst u f' ⟨fun f''=>@sOpsB P n all K r f'' M'⟩⟩⟩
theorem SW_draw4L [Defs] {P:Program}{n:Nat}{Q:Exit→AL→Mem→Prop}{f:AL}{m:Mem}{id:Nat}{ops:Array Oper}(hmix:P.follows .mixedOrders=true)(q:Nat)(J:List Nat)(hq:ZY P ops q J=true)
 (h:@sHeadB P n ops.toList m ⟨fun f' M=>@sQB P n ops.toList m J ⟨Q .normal⟩ (ops.toList.drop q) f' M⟩ (ops.toList.take q) false f m):SW P n (.region id ops true) Q f m:=by
 have hqs:q<ops.toList.length:=by
  have:=hq
  simp only[ZY,qe]at this
  have:=qf this.1.1.2
  rw[qo]
  omega
 rw[qq hqs]at h
 exact SW_draw4 hmix q J hq (oq:=ops.toList[q]) (by rw[←qd];exact qc hqs) h
theorem SW_draw6L [Defs] {P:Program}{n:Nat}{Q:Exit→AL→Mem→Prop}{f:AL}{m:Mem}{id:Nat}{ops:Array Oper}(hmix:P.follows .mixedOrders=true)(q:Nat)(J:List Nat)(hq:ZY P ops q J=true)
 (h:@sHeadB P n ops.toList m ⟨fun f' M=>@sQB6 P n ops.toList m J ⟨Q .normal⟩ (ops.toList.drop q) f' M⟩ (ops.toList.take q) false f m):SW P n (.region id ops true) Q f m:=by
 have hqs:q<ops.toList.length:=by
  have:=hq
  simp only[ZY,qe]at this
  have:=qf this.1.1.2
  rw[qo]
  omega
 rw[qq hqs]at h
 exact SW_draw6 hmix q J hq (oq:=ops.toList[q]) (by rw[←qd];exact qc hqs) h
theorem CW.mono{c:Code}{Q':Exit→AL→Mem→Prop}(h:@CW P n k ⟨c⟩ ⟨Q⟩ f m)(hq:∀e f m,Q e f m→Q' e f m):@CW P n k ⟨c⟩ ⟨Q'⟩ f m:=
 fun a ha ι₀ m₀ w₀ ι act w h0 hs hA hr=>wp_mono (h a ha ι₀ m₀ w₀ ι act w h0 hs hA hr) fun _ _ _ ⟨κ,a',m',⟨f',h1,h2⟩,h3⟩=>⟨κ,a',m',⟨f',h1,hq _ _ _ h2⟩,h3⟩
theorem J0{x y:Code}(h:@CW P n k ⟨x⟩ ⟨@cThen ⟨@CW P n k ⟨y⟩ ⟨Q⟩⟩ ⟨Q⟩⟩ f m):@CW P n k ⟨.seq x y⟩ ⟨Q⟩ f m:=by
 intro a ha ι₀ m₀ w₀ ι act w h0 hs hA hr
 refine wp_seq (wp_mono (h a ha ι₀ m₀ w₀ ι act w h0 hs hA hr) ?_)
 rintro e act' w' ⟨κ,a',m',⟨f',h1,h2⟩,h3,h4,h5⟩
 cases e with
 |normal=>exact h2 a' h1 ι₀ m₀ w₀ κ act' w' h0 h5 h3 h4
 |_=>exact⟨κ,a',m',⟨f',h1,h2⟩,h3,h4,h5⟩
theorem Qa{c:Operand}{x y:Code}(t:Bool)(hc:AL.look f c=some (.bool t))(ht:t=true→@CW P n k ⟨x⟩ ⟨Q⟩ f m)(hf:t=false→@CW P n k ⟨y⟩ ⟨Q⟩ f m):@CW P n k ⟨.cond c x y⟩ ⟨Q⟩ f m:=by
 intro a ha ι₀ m₀ w₀ ι act w h0 hs hA hr
 have he:=Jk hA (ha.look c _ hc)
 generalize hv:act.eval c=v at he
 cases he
 exact wp_cond_split hv (fun h=>ht h a ha ι₀ m₀ w₀ ι act w h0 hs hA hr) (fun h=>hf h a ha ι₀ m₀ w₀ ι act w h0 hs hA hr)
theorem J8{i:Nat}{c:Code}(h:@CW P n k ⟨c⟩ ⟨@cBlock i ⟨Q⟩⟩ f m):@CW P n k ⟨.block i c⟩ ⟨Q⟩ f m:=by
 intro a ha ι₀ m₀ w₀ ι act w h0 hs hA hr
 refine wp_block (wp_mono (h a ha ι₀ m₀ w₀ ι act w h0 hs hA hr) ?_)
 rintro e act' w' ⟨κ,a',m',⟨f',h1,h2⟩,h3,h4,h5⟩
 cases e with
 |exit j=>
  simp only[cBlock]at h2
  simp only[Exit.inBlock]
  split
  ·rename_i e;rw[if_pos e]at h2;exact⟨κ,a',m',⟨f',h1,h2⟩,h3,h4,h5⟩
  ·rename_i e;rw[if_neg e]at h2;exact⟨κ,a',m',⟨f',h1,h2⟩,h3,h4,h5⟩
 |_=>exact⟨κ,a',m',⟨f',h1,h2⟩,h3,h4,h5⟩
end
end Go.Proofs.YteccmcpaheepcaaGreatDoor.Abs
