import Derived.Test.YthohbneadomgdaaGreatDoorVisi07
import Derived.LoopN
import Derived.RowKit
import Derived.Test.YthohbneadomgdaaGreatDoorVisi01
import Derived.SizedLaws
import Derived.Test.YthohbneadomgdaaGreatDoorCards
import Derived.Test.YthohbneadomgdaaGreatDoorTie
import Derived.Deep.DeepHandedRow
import Derived.Lib.LaidTab
import Derived.Lib.LaidU8
import Derived.Lay
import Derived.MakeChecks
import Derived.Shelf.Vars
set_option linter.all false
set_option maxRecDepth 100000
set_option maxHeartbeats 16000000
open Nat renaming reduceLT→yQ,reduceEqDiff→yK,reduceAdd→yV,reduceSub→yY,reduceMul→yU
open Int renaming reduceToNat→yW,reduceLE→yX,reduceEq→yZ,reduceLT→yJ
open List renaming getElem?_eq_getElem→qc,getElem?_take→qf,all_eq_true→qi,length_take→qj,getElem?_append→qm,getElem?_eq_some_iff→qo,mem_map→qp,range→qq,getElem?_map→qu,length_drop→qx,mem_append→qy,append_nil→qA,mem_of_getElem?→qC,length_map→qF,mem_range→qG,getElem?_drop→qJ,getElem_range→qK
open Array renaming getElem?_toList→qd
open Bool renaming and_eq_true→qe,false_eq_true→qI
open Nat renaming le_of_ble_eq_true→qh,zero_le→qk,add_mul→qv,zero_add→qB,mul_le_mul_right→qD,min_eq_left→qE,le_refl→qH
open Option renaming bind_eq_some_iff→qt,map_eq_some_iff→qw
namespace Go.Proofs.YthohbneadomgdaaGreatDoor.Abs
open Go
abbrev K7:=Operand→Option Value
noncomputable def fArgs(g:K7)(l:List Operand):Option (List Value):=
 List.rec (motive:=fun _=>Option (List Value)) (some []) (fun x _ ih=>match g x with
  |some v=>match ih with
   |some r=>some (v::r)
   |none=>none
  |none=>none) l
noncomputable def fParts(g:K7)(l:List (Nat×Operand)):Option (List (Nat×Value)):=
 List.rec (motive:=fun _=>Option (List (Nat×Value))) (some []) (fun p _ ih=>match g p.2 with
  |some v=>match ih with
   |some r=>some ((p.1,v)::r)
   |none=>none
  |none=>none) l
def fOpt(g:K7)(x:Option Operand):Option (Option Value):=match x with
 |none=>some none
 |some x=>match g x with|some v=>some (some v)|none=>none
def vPick(c x y:Option Value):Option Value:=match c with
 |some (.bool true)=>x
 |some (.bool false)=>y
 |_=>none
def vBuild(P:Program)(t:TypeId)(l:Option (List (Nat×Value))):Option Value:=match l with
 |some l=>Qj P t l
 |none=>none
def vLoad(P:Program)(get:Nat→Option Blk)(t:TypeId)(p:Option Value):Option Value:=match p with
 |some p=>gLoad P get t p
 |none=>none
def vNil(x:Option Value):Option Value:=match x with
 |some (.pointer (some q))=>some (.pointer (some q))
 |some (.func (.func f) xs ys)=>some (.func (.func f) xs ys)
 |_=>none
noncomputable def vBin(P:Program)(op:BinOp)(t:TypeId)(cx:Bool)(x y:Option Value):Option Value:=match x with
 |some u=>match y with
  |some v=>fBin P op t cx u v
  |none=>none
 |none=>none
def vUn(op:UnOp)(x:Option Value):Option Value:=match x with
 |some v=>aUn op v
 |none=>none
noncomputable def vToInt(k:IntKind)(n:Int):Value:=match k,n with
 |.i64,.ofNat n=>bif Nat.blt n 9223372036854775808 then .int .i64 (.ofNat n)else .int .i64 (IntKind.i64.wrap (.ofNat n))
 |.u8,.ofNat n=>.int .u8 (.ofNat (Nat.mod n 256))
 |k,n=>.int k (k.wrap n)
noncomputable def vConv(P:Program)(get:Nat→Option Blk)(s d:TypeId)(x:Option Value):Option Value:=match x with
 |some (.int _ n)=>match P.underlying s with
  |some _=>match P.underlying d with
   |some (.int k)=>some (vToInt k n)
   |_=>none
  |none=>none
 |some (.string q)=>match P.underlying d with
  |some .string=>match P.underlying s with|some _=>some (.string q)|none=>none
  |_=>none
 |some x=>Xw P get s d x
 |none=>none
def vIface(P:Program)(t:TypeId)(x:Option Value):Option Value:=match x with
 |some v=>match P.underlying t with
  |some (.interface _)=>none
  |some _=>some (.iface t v)
  |none=>none
 |none=>none
def vFunc(fn:Fn)(l r:Option (List Value)):Option Value:=match fn with
 |.func f=>match l with
  |some l=>match r with
   |some r=>some (.func (.func f) l.toArray r.toArray)
   |none=>none
  |none=>none
 |_=>none
def vSlice(P:Program)(get:Nat→Option Blk)(t:TypeId)(x:Option Value)(lo hi:Option (Option Value))(mx:Option Operand):Option Value:=match mx with
 |none=>match x with
  |some x=>match lo with
   |some lo=>match hi with
    |some hi=>Q1 P get t x lo hi
    |none=>none
   |none=>none
  |none=>none
 |some _=>none
def vFieldAddr(P:Program)(t:TypeId)(x:Option Value)(f:Nat):Option Value:=match x with
 |some v=>Jf P t v f
 |none=>none
def vField(P:Program)(t:TypeId)(x:Option Value)(f:Nat):Option Value:=match x with
 |some (.agg cs)=>match P.underlying t with
  |some (.struct fs)=>match fs.toList[f]? with
   |some fd=>ZH P fd.type cs.toList fd.offset
   |none=>none
  |_=>none
 |_=>none
def vIndexAddr(P:Program)(t:TypeId)(x i:Option Value):Option Value:=match x with
 |some v=>match i with
  |some j=>aIndexAddr P t v j
  |none=>none
 |none=>none
def vIndex(P:Program)(t:TypeId)(x i:Option Value):Option Value:=match x with
 |some v=>match i with
  |some j=>KA P t v j
  |none=>none
 |none=>none
def vExtract(x:Option Value)(i:Nat):Option Value:=match x with
 |some (.tuple cs)=>cs.toList[i]?
 |_=>none
def vMin(b:Bool)(xs:List Value):Option Value:=match xs with
 |x::r=>evMin b x r
 | []=>none
def vLen(P:Program)(ts:List TypeId)(xs:List Value):Option Value:=match ts with
 | [t]=>match xs with
   | [x]=>aLen P t x
   |_=>none
 |_=>none
def vCap(P:Program)(ts:List TypeId)(xs:List Value):Option Value:=match ts with
 | [t]=>match xs with
   | [.slice none 0 0]=>match P.underlying t with
     |some (.slice _)=>some (.int .i64 0)
     |_=>none
   |_=>none
 |_=>none
def vLookup(P:Program)(get:Nat→Option Blk)(t:TypeId)(x i:Option Value)(ok:Bool):Option Value:=match x with
 |some v=>match i with
  |some k=>Z6 P get t v k ok
  |none=>none
 |none=>none
def vBuiltin(P:Program)(b:Builtin)(ts:List TypeId)(xs:List Value):Option Value:=match b with
 |.len=>vLen P ts xs
 |.min=>vMin true xs
 |.max=>vMin false xs
 |.cap=>vCap P ts xs
 |_=>none
def vCall(P:Program)(callee:Callee)(ts:List TypeId)(xs:Option (List Value)):Option Value:=match callee with
 |.builtin b=>match xs with
  |some xs=>vBuiltin P b ts xs
  |none=>none
 |_=>none
noncomputable def fVal(P:Program)(g:K7)(get:Nat→Option Blk)(o:Op):Option Value:=
 match o with
 |.move x=>g x
 |.assign x=>g x
 |.pick c x y=>vPick (g c) (g x) (g y)
 |.build t ps=>vBuild P t (fParts g ps.toList)
 |.load t p=>vLoad P get t (g p)
 |.nilCheck x=>vNil (g x)
 |.binOp op t x y _=>vBin P op t (isC x||isC y) (g x) (g y)
 |.unOp op _ x=>vUn op (g x)
 |.convert s d x=>vConv P get s d (g x)
 |.makeInterface t x=>vIface P t (g x)
 |.makeFunc fn fs cs=>vFunc fn (fArgs g fs.toList) (fArgs g cs.toList)
 |.slice t x lo hi mx=>vSlice P get t (g x) (fOpt g lo) (fOpt g hi) mx
 |.fieldAddr t x f=>vFieldAddr P t (g x) f
 |.field t x f=>vField P t (g x) f
 |.indexAddr t x i=>vIndexAddr P t (g x) (g i)
 |.index t x i=>vIndex P t (g x) (g i)
 |.extract x i=>vExtract (g x) i
 |.lookup t x i ok=>vLookup P get t (g x) (g i) ok
 |.call c=>vCall P c.callee c.argTypes.toList (fArgs g c.args.toList)
 |_=>none
noncomputable def fCallee(g:K7)(o:Op):Option (FuncId×List Value):=match o with
 |.call c=>match c.callee with
  |.value f=>match g f with
   |some (.func (.func k) fs cs)=>match fArgs g c.args.toList with
    |some xs=>some (k,fs.toList++xs++cs.toList)
    |none=>none
   |_=>none
  |_=>none
 |_=>none
section
variable {P : Program} {g : K7} {a : List Value} (hg : ∀ x v, g x = some v → JG a x = some v)
include hg
theorem Xo:∀(l:List Operand){r:List Value},fArgs g l=some r→ZS a l=some r
 | [],r,h=>h
 |x::l,r,h=>by
  have e:fArgs g (x::l)=match g x with|some v=>(match fArgs g l with|some r=>some (v::r)|none=>none)|none=>none:=rfl
  rw[e]at h
  unfold ZS
  split at h<;>first|(cases h;done)|skip
  rename_i v hv
  split at h<;>first|(cases h;done)|skip
  rename_i r' hr
  cases h
  simp only[hg x v hv,Xo l hr]
theorem fParts_spec:∀(l:List (Nat×Operand)){r:List (Nat×Value)},fParts g l=some r→V7 a l=some r
 | [],r,h=>h
 |p::l,r,h=>by
  have e:fParts g (p::l)=match g p.2 with|some v=>(match fParts g l with|some r=>some ((p.1,v)::r)|none=>none)|none=>none:=rfl
  rw[e]at h
  obtain⟨i,x⟩:=p
  unfold V7
  split at h<;>first|(cases h;done)|skip
  rename_i v hv
  split at h<;>first|(cases h;done)|skip
  rename_i r' hr
  cases h
  simp only[hg x v hv,fParts_spec l hr]
theorem fOpt_spec{x:Option Operand}{r:Option Value}(h:fOpt g x=some r):evOpt a x=some r:=by
 cases x with
 |none=>exact h
 |some x=>
  unfold fOpt at h
  unfold evOpt
  simp only at h ⊢
  split at h<;>first|(cases h;done)|skip
  rename_i v hv
  cases h
  simp only[hg x v hv]
theorem Ks{o:Op}{r:FuncId×List Value}(h:fCallee g o=some r):Xl a o=some r:=by
 unfold fCallee at h
 split at h<;>first|(cases h;done)|skip
 rename_i c
 obtain⟨E,I,ts⟩:=c
 cases E<;>simp only at h<;>first|(cases h;done)|skip
 rename_i f
 split at h<;>first|(cases h;done)|skip
 rename_i k fs cs hk
 split at h<;>first|(cases h;done)|skip
 rename_i xs hxs
 cases h
 simp only[Xl,hg f _ hk,Xo hg _ hxs]
theorem vToInt_eq(k:IntKind)(n:Int):vToInt k n=.int k (k.wrap n):=by
 unfold vToInt
 split
 ·rename_i n
  cases h:Nat.blt n 9223372036854775808 with
  |true=>simp only[cond_true,Z9 (blt_iff.1 h)]
  |false=>rfl
 ·rename_i n
  have e:IntKind.u8.wrap (Int.ofNat n)=Int.ofNat (Nat.mod n 256):=by
   have E:IntKind.u8.signed=false:=rfl
   have I:IntKind.u8.bits=8:=rfl
   unfold IntKind.wrap
   simp only[E,I,Bool.false_and,qI,if_false]
   rfl
  rw[e]
 ·rfl
theorem fVal_spec{get:Nat→Option Blk}{m:Mem}(hm:∀b x,get b=some x→m.get b=some x){o:Op}{v:Value}(h:fVal P g get o=some v):JD P o a m=some (v,m):=by
 cases o<;>simp only[fVal]at h<;>first|(cases h;done)|skip
 case move x=>simp only[JD,hg x v h,QI]
 case assign x=>simp only[JD,hg x v h,QI]
 case pick c x y=>
  unfold vPick at h
  split at h<;>first|(cases h;done)|skip
  ·rename_i hc;simp only[JD,hg c _ hc,hg x v h,QI]
  ·rename_i hc;simp only[JD,hg c _ hc,hg y v h,QI]
 case build t ps=>
  unfold vBuild at h
  split at h<;>first|(cases h;done)|skip
  rename_i l hl
  simp only[JD,fParts_spec hg _ hl,h,QI]
 case load t p=>
  unfold vLoad at h
  split at h<;>first|(cases h;done)|skip
  rename_i q hq
  have:UZ P m t q=some v:=gLoad_mono hm h
  simp only[JD,hg p q hq,this,QI]
 case nilCheck x=>
  unfold vNil at h
  split at h<;>first|(cases h;done)|skip
  all_goals
   rename_i hx
   cases h
   simp only[JD,hg x _ hx]
 case binOp op t x y ty=>
  unfold vBin at h
  split at h<;>first|(cases h;done)|skip
  rename_i u hu
  split at h<;>first|(cases h;done)|skip
  rename_i w hw
  simp only[JD,hg x u hu,hg y w hw,fBin_eq h,QI]
 case unOp op t x=>
  unfold vUn at h
  split at h<;>first|(cases h;done)|skip
  rename_i u hu
  simp only[JD,hg x u hu,h,QI]
 case convert s d x=>
  unfold vConv at h
  split at h<;>first|(cases h;done)|skip
  ·rename_i k n hx
   split at h<;>first|(cases h;done)|skip
   rename_i hs
   split at h<;>first|(cases h;done)|skip
   rename_i k' hd
   cases h
   simp only[JD,hg x _ hx,XS,hs,hd,vToInt_eq hg]
  ·rename_i q hx
   split at h<;>first|(cases h;done)|skip
   rename_i hd
   split at h<;>first|(cases h;done)|skip
   rename_i hs
   cases h
   simp only[JD,hg x _ hx,XS,hd,hs]
  ·rename_i u hne hne' hx
   have:UY P m s d u=some v:=gToString_mono hm h
   simp only[JD,hg x _ hx]
   unfold XS
   split
   ·exact absurd rfl (hne _ _)
   ·exact absurd rfl (hne' _)
   ·simp only[this]
 case makeInterface t x=>
  unfold vIface at h
  split at h<;>first|(cases h;done)|skip
  rename_i u hu
  split at h<;>first|(cases h;done)|skip
  rename_i d hne hd
  cases h
  simp only[JD,hg x u hu,hd]
 case makeFunc fn fs cs=>
  unfold vFunc at h
  split at h<;>first|(cases h;done)|skip
  split at h<;>first|(cases h;done)|skip
  rename_i l hl
  split at h<;>first|(cases h;done)|skip
  rename_i r hr
  cases h
  simp only[JD,Xo hg _ hl,Xo hg _ hr]
 case slice t x lo hi mx=>
  unfold vSlice at h
  split at h<;>first|(cases h;done)|skip
  split at h<;>first|(cases h;done)|skip
  rename_i u hu
  split at h<;>first|(cases h;done)|skip
  rename_i l hl
  split at h<;>first|(cases h;done)|skip
  rename_i r hr
  have:aSlice P m t u l r=some v:=gSlice_mono hm h
  simp only[JD,hg x u hu,fOpt_spec hg hl,fOpt_spec hg hr,this,QI]
 case fieldAddr t x f=>
  unfold vFieldAddr at h
  split at h<;>first|(cases h;done)|skip
  rename_i u hu
  simp only[JD,hg x u hu,h,QI]
 case field t x f=>
  unfold vField at h
  split at h<;>first|(cases h;done)|skip
  rename_i cs hu
  split at h<;>first|(cases h;done)|skip
  rename_i fs hs
  split at h<;>first|(cases h;done)|skip
  rename_i fd hf
  simp only[JD,hg x _ hu,hs,hf,h,QI]
 case indexAddr t x i=>
  unfold vIndexAddr at h
  split at h<;>first|(cases h;done)|skip
  rename_i u hu
  split at h<;>first|(cases h;done)|skip
  rename_i j hj
  simp only[JD,hg x u hu,hg i j hj,h,QI]
 case index t x i=>
  unfold vIndex at h
  split at h<;>first|(cases h;done)|skip
  rename_i u hu
  split at h<;>first|(cases h;done)|skip
  rename_i j hj
  simp only[JD,hg x u hu,hg i j hj,h,QI]
 case extract x i=>
  unfold vExtract at h
  split at h<;>first|(cases h;done)|skip
  rename_i cs hu
  simp only[JD,hg x _ hu,h,QI]
 case call c=>
  obtain⟨E,I,ts⟩:=c
  unfold vCall at h
  cases E<;>simp only at h<;>first|(cases h;done)|skip
  rename_i b
  split at h<;>first|(cases h;done)|skip
  rename_i xs hxs
  simp only[JD,Xo hg _ hxs]
  unfold vBuiltin at h
  unfold VG
  split at h<;>first|(cases h;done)|skip
  ·unfold vLen at h
   split at h<;>first|(cases h;done)|skip
   rename_i ht
   split at h<;>first|(cases h;done)|skip
   simp only[ht,h]
  ·unfold vMin at h
   split at h<;>first|(cases h;done)|skip
   simp only[h]
  ·unfold vMin at h
   split at h<;>first|(cases h;done)|skip
   simp only[h]
  ·unfold vCap at h
   split at h<;>first|(cases h;done)|skip
   rename_i ht
   split at h<;>first|(cases h;done)|skip
   split at h<;>first|(cases h;done)|skip
   rename_i hu
   cases h
   simp only[ht,hu]
 case lookup t x i ok=>
  unfold vLookup at h
  split at h<;>first|(cases h;done)|skip
  rename_i u hu
  split at h<;>first|(cases h;done)|skip
  rename_i j hj
  simp only[JD,hg x u hu,hg i j hj,aLookup_mono hm h,QI]
end
section
variable [Defs]
abbrev AL:=List (Nat×Value)
def AL.get:AL→Nat→Option Value
 | [],_=>none
 |(s,v)::r,t=>if s=t then some v else AL.get r t
def Knows(n:Nat)(f:AL)(a:List Value):Prop:=a.length=n∧∀t v,AL.get f t=some v→a[t]?=some v
def AL.look(f:AL)(x:Operand):Option Value:=match x with
 |.tmp t=>AL.get f t
 |.const v=>if flat 3 v=true then some v else none
 |.func k=>some (.func (.func k) #[] #[])
 |.global _=>none
theorem Knows.look{n:Nat}{f:AL}{a:List Value}(h:Knows n f a)(x:Operand)(v:Value)(hx:AL.look f x=some v):JG a x=some v:=by
 cases x with
 |tmp t=>exact h.2 t v hx
 |const c=>exact hx
 |func k=>exact hx
 |global g=>cases hx
theorem Knows.put{n:Nat}{f:AL}{a:List Value}(h:Knows n f a){t:Nat}(ht:t<n)(v:Value):Knows n ((t,v)::f) (a.set t v):=by
 refine⟨by simp[h.1],fun s u hs=>?_⟩
 simp only[AL.get]at hs
 rw[List.getElem?_set]
 split at hs
 ·rename_i e
  rw[if_pos e,if_pos (by rw[h.1];exact ht)]
  exact hs
 ·rename_i e
  rw[if_neg e]
  exact h.2 s u hs
theorem Knows.less{n:Nat}{f f':AL}{a:List Value}(h:Knows n f a)(hs:∀t v,AL.get f' t=some v→AL.get f t=some v):Knows n f' a:=⟨h.1,fun t v hv=>h.2 t v (hs t v hv)⟩
class Box(α:Type) where
 k:α
def sPut(n:Nat)(d:Option Nat)(v:Value)(f:AL) [c:Box (AL→Prop)]:Prop:=match d with
 |none=>c.k f
 |some t=>t<n∧c.k ((t,v)::f)
theorem QS{n:Nat}{d:Option Nat}{v:Value}{f:AL}{k:AL→Prop}(h:@sPut n d v f ⟨k⟩){a:List Value}(ha:Knows n f a):∃f',Knows n f' (QV a d v)∧k f':=by
 cases d with
 |none=>exact⟨f,ha,h⟩
 |some t=>exact⟨_,ha.put h.1 v,h.2⟩
def aBinI(op:BinOp)(k:IntKind)(a:Int)(k':IntKind)(b:Int):Option Value:=match op with
 |.shl=>if 0≤b then some (.int k (k.wrap (a*2^min b.toNat k.bits)))else none
 |.shr=>if 0≤b then some (.int k (a.fdiv (2^min b.toNat k.bits)))else none
 |op=>if k=k' then XV op k a b else none
theorem aBin_ii(P:Program)(op:BinOp)(t:TypeId)(cx:Bool)(k k':IntKind)(a b:Int):aBin P op t cx (.int k a) (.int k' b)=aBinI op k a k' b:=by cases op<;>rfl
theorem aBin_ss(P:Program)(op:BinOp)(t:TypeId)(cx:Bool)(a b:ByteArray):aBin P op t cx (.string a) (.string b)=aStr op a b:=rfl
def QT{α:Type}(o:Option α) [c:Box (α→Prop)]:Prop:=match o with
 |some v=>c.k v
 |none=>False
theorem withV_some{α:Type}(v:α)(k:α→Prop):@QT α (some v) ⟨k⟩=k v:=rfl
def Later [c:Box Prop]:Prop:=c.k
theorem withV_ite{α:Type}(c:Prop) [Decidable c] (o:Option α)(k:α→Prop):@QT α (if c then o else none) ⟨k⟩=(c∧@QT α o ⟨k⟩):=by
 by_cases h:c<;>simp[h,QT]
theorem Qe{α:Type}{o:Option α}{k:α→Prop}(h:@QT α o ⟨k⟩):∃v,o=some v∧k v:=by
 cases o with
 |none=>exact h.elim
 |some v=>exact⟨v,rfl,h⟩
def sArgs(g:K7):List Operand→Option (List Value)
 | []=>some []
 |x::r=>match g x with
  |some v=>match sArgs g r with
   |some l=>some (v::l)
   |none=>none
  |none=>none
def sParts(g:K7):List (Nat×Operand)→Option (List (Nat×Value))
 | []=>some []
 |(i,x)::r=>match g x with
  |some v=>match sParts g r with
   |some l=>some ((i,v)::l)
   |none=>none
  |none=>none
def sBin(P:Program)(op:BinOp)(t:TypeId)(cx:Bool)(x y:Option Value):Option Value:=match x,y with
 |some u,some v=>aBin P op t cx u v
 |_,_=>none
def sConv(P:Program)(get:Nat→Option Blk)(s d:TypeId)(x:Option Value):Option Value:=match x with
 |some (.int _ n)=>match P.underlying s with
  |some _=>match P.underlying d with
   |some (.int k)=>some (.int k (k.wrap n))
   |_=>none
  |none=>none
 |some (.string q)=>match P.underlying d with
  |some .string=>match P.underlying s with|some _=>some (.string q)|none=>none
  |_=>none
 |some x=>Xw P get s d x
 |none=>none
def sLookup(P:Program)(get:Nat→Option Blk)(t:TypeId)(x k:Option Value)(ok:Bool):Option Value:=match x with
 |some v=>match k with
  |some i=>Z6 P get t v i ok
  |none=>none
 |none=>none
def sEntry(get:Nat→Option Blk)(x:Option Value):Option Value:=match x with
 |some v=>KB get v
 |none=>none
def sVal(P:Program)(g:K7)(get:Nat→Option Blk)(o:Op):Option Value:=
 match o with
 |.move x=>g x
 |.assign x=>g x
 |.pick c x y=>vPick (g c) (g x) (g y)
 |.build t ps=>vBuild P t (sParts g ps.toList)
 |.load t p=>vLoad P get t (g p)
 |.nilCheck x=>vNil (g x)
 |.binOp op t x y _=>sBin P op t (isC x||isC y) (g x) (g y)
 |.unOp op _ x=>vUn op (g x)
 |.convert s d x=>sConv P get s d (g x)
 |.makeInterface t x=>vIface P t (g x)
 |.makeFunc fn fs cs=>vFunc fn (sArgs g fs.toList) (sArgs g cs.toList)
 |.slice t x lo hi mx=>vSlice P get t (g x) (fOpt g lo) (fOpt g hi) mx
 |.fieldAddr t x f=>vFieldAddr P t (g x) f
 |.field t x f=>vField P t (g x) f
 |.indexAddr t x i=>vIndexAddr P t (g x) (g i)
 |.index t x i=>vIndex P t (g x) (g i)
 |.extract x i=>vExtract (g x) i
 |.call c=>vCall P c.callee c.argTypes.toList (sArgs g c.args.toList)
 |.lookup t x k ok=>sLookup P get t (g x) (g k) ok
 |.entry x=>sEntry get (g x)
 |_=>none
theorem VM(g:K7):∀l,sArgs g l=fArgs g l
 | []=>rfl
 |x::r=>by
  have e:fArgs g (x::r)=match g x with|some v=>(match fArgs g r with|some r=>some (v::r)|none=>none)|none=>none:=rfl
  rw[e,←VM g r];rfl
theorem sParts_eq(g:K7):∀l,sParts g l=fParts g l
 | []=>rfl
 |(i,x)::r=>by
  have e:fParts g ((i,x)::r)=match g x with|some v=>(match fParts g r with|some l=>some ((i,v)::l)|none=>none)|none=>none:=rfl
  rw[e,←sParts_eq g r];rfl
theorem Zf{P:Program}{g:K7}{a:List Value}(hg:∀x v,g x=some v→JG a x=some v){get:Nat→Option Blk}{m:Mem}(hm:∀b x,get b=some x→m.get b=some x){o:Op}{v:Value}(h:sVal P g get o=some v):JD P o a m=some (v,m):=by
 by_cases hb:∃I t x y E,o=.binOp I t x y E
 ·obtain⟨I,t,x,y,E,rfl⟩:=hb
  simp only[sVal]at h
  unfold sBin at h
  split at h<;>first|(cases h;done)|skip
  rename_i u w hu hw
  simp only[JD,hg x u hu,hg y w hw,h,QI]
 by_cases hc:∃s d x,o=.convert s d x
 ·obtain⟨s,d,x,rfl⟩:=hc
  simp only[sVal]at h
  unfold sConv at h
  split at h<;>first|(cases h;done)|skip
  ·rename_i k n hx
   split at h<;>first|(cases h;done)|skip
   rename_i hs
   split at h<;>first|(cases h;done)|skip
   rename_i k' hd
   cases h
   simp only[JD,hg x _ hx,XS,hs,hd]
  ·rename_i q hx
   split at h<;>first|(cases h;done)|skip
   rename_i hd
   split at h<;>first|(cases h;done)|skip
   rename_i hs
   cases h
   simp only[JD,hg x _ hx,XS,hd,hs]
  ·rename_i u hne hne' hx
   have:UY P m s d u=some v:=gToString_mono hm h
   simp only[JD,hg x _ hx]
   unfold XS
   split
   ·exact absurd rfl (hne _ _)
   ·exact absurd rfl (hne' _)
   ·simp only[this]
 by_cases he:∃x,o=.entry x
 ·obtain⟨x,rfl⟩:=he
  simp only[sVal]at h
  unfold sEntry at h
  split at h<;>first|(cases h;done)|skip
  rename_i u hu
  simp only[JD,hg x u hu,aEntry_mono hm h,QI]
 have e:fVal P g get o=sVal P g get o:=by
  cases o<;>simp only[fVal,sVal,VM,sParts_eq]<;>first|rfl|skip
  ·exact absurd ⟨_,_,_,_,_,rfl⟩ hb
  ·exact absurd ⟨_,_,_,rfl⟩ hc
  ·exact absurd ⟨_,rfl⟩ he
 exact fVal_spec hg hm (by rw[e];exact h)
def QO(P:Program)(t:TypeId)(v:Value):Option Blk:=if Jo v.cells.toList=true then some (.cells false (J6 P t) v.cells.toList)else none
def Qa(P:Program)(t:TypeId):Option Blk:=
 match P.info? t with
 |some i=>match i.zero with
  |some z=>if flat 3 z=true then QO P t z else none
  |none=>none
 |none=>none
def JF(P:Program)(t:TypeId)(len:Nat)(parts:List (Nat×Value)):Option Blk:=
 match P.underlying t with
 |some (.slice e)=>match P.info? e with
  |some ie=>match ie.zero with
   |some z=>if flat 3 z=true∧len*ie.size≤16777216∧0<z.cells.toList.length∧Jo z.cells.toList=true∧parts.all (fun p=>Jo p.2.cells.toList)=true then
    match U2 (fun i=>some (i*ie.size,ie.size)) (Xz z.cells.toList (len*ie.size)) parts with
    |some cs=>some (.cells false ie.size cs)
    |none=>none
    else none
   |none=>none
  |none=>none
 |_=>none
def VT(P:Program)(src dst:TypeId)(s:ByteArray):Option Blk:=
 match P.underlying src with
 |some .string=>match P.underlying dst with
  |some (.slice e)=>match P.underlying e with
   |some (.int .u8)=>if JC s≤140737488355328 then some (.cells false 1 (Qm s))else none
   |_=>none
  |_=>none
 |_=>none
def sNew(P:Program)(g:K7)(n:Nat)(o:Op):Option (Value×Blk):=
 match o with
 |.alloc t=>match Qa P t with
  |some b=>some (.pointer (some ⟨n,0,none⟩),b)
  |none=>none
 |.box t x=>match g x with
  |some v=>match QO P t v with
   |some b=>some (.pointer (some ⟨n,0,none⟩),b)
   |none=>none
  |none=>none
 |.buildSlice t len ps=>match sParts g ps.toList with
  |some l=>match JF P t len l with
   |some b=>some (.slice (some ⟨n,0,none⟩) len len,b)
   |none=>none
  |none=>none
 |.convert s d x=>match g x with
  |some (.string q)=>match P.underlying d with
   |some .string=>none
   |_=>match VT P s d q with
    |some b=>some (.slice (some ⟨n,0,none⟩) (JC q) (JC q),b)
    |none=>none
  |_=>none
 |.makeMap _ r=>match r with
  |none=>some (.map (some n),.kv false [] 0)
  |some _=>none
 |_=>none
theorem nBox_spec{P:Program}{m:Mem}{t:TypeId}{v:Value}{b:Blk}(h:QO P t v=some b):aBox P m t v=some (.pointer (some ⟨m.size,0,none⟩),m.push b)∧ZK (some b)=true:=by
 unfold QO at h
 unfold aBox
 split at h<;>first|(cases h;done)|skip
 rename_i hc
 cases h
 rw[if_pos hc]
 exact⟨rfl,rfl⟩
theorem sNew_spec{P:Program}{g:K7}{a:List Value}(hg:∀x v,g x=some v→JG a x=some v){m:Mem}{o:Op}{v:Value}{b:Blk}(h:sNew P g m.size o=some (v,b)):JD P o a m=some (v,m.push b)∧ZK (some b)=true:=by
 cases o<;>simp only[sNew]at h<;>first|(cases h;done)|skip
 case alloc t=>
  split at h<;>first|(cases h;done)|skip
  rename_i b' hb
  cases h
  unfold Qa at hb
  split at hb<;>first|(cases hb;done)|skip
  rename_i i hi
  split at hb<;>first|(cases hb;done)|skip
  rename_i z hz
  split at hb<;>first|(cases hb;done)|skip
  rename_i hf
  obtain⟨E,h2⟩:=nBox_spec (m:=m) hb
  exact⟨by simp only[JD,aAlloc,hi,hz,if_pos hf,E],h2⟩
 case box t x=>
  split at h<;>first|(cases h;done)|skip
  rename_i u hu
  split at h<;>first|(cases h;done)|skip
  rename_i b' hb
  cases h
  obtain⟨E,h2⟩:=nBox_spec (m:=m) hb
  exact⟨by simp only[JD,hg x u hu,E],h2⟩
 case buildSlice t len ps=>
  split at h<;>first|(cases h;done)|skip
  rename_i l hl
  rw[sParts_eq]at hl
  split at h<;>first|(cases h;done)|skip
  rename_i b' hb
  cases h
  unfold JF at hb
  split at hb<;>first|(cases hb;done)|skip
  rename_i e hu
  split at hb<;>first|(cases hb;done)|skip
  rename_i ie hi
  split at hb<;>first|(cases hb;done)|skip
  rename_i z hz
  split at hb<;>first|(cases hb;done)|skip
  rename_i hc
  split at hb<;>first|(cases hb;done)|skip
  rename_i cs hcs
  cases hb
  exact⟨by simp only[JD,fParts_spec hg _ hl,Uh,hu,hi,hz,if_pos hc,hcs],rfl⟩
 case convert s d x=>
  split at h<;>first|(cases h;done)|skip
  rename_i q hx
  split at h<;>first|(cases h;done)|skip
  rename_i hne
  split at h<;>first|(cases h;done)|skip
  rename_i b' hb
  cases h
  unfold VT at hb
  split at hb<;>first|(cases hb;done)|skip
  rename_i hs
  split at hb<;>first|(cases hb;done)|skip
  rename_i e hd
  split at hb<;>first|(cases hb;done)|skip
  rename_i he
  split at hb<;>first|(cases hb;done)|skip
  rename_i hc
  cases hb
  exact⟨by simp only[JD,hg x _ hx,XS,hd,aToBytes,hs,he,if_pos hc],rfl⟩
 case makeMap t r=>
  cases r<;>simp only at h<;>first|(cases h;done)|skip
  cases h
  exact⟨rfl,rfl⟩
def sMem(P:Program)(g:K7)(m:Mem)(o:Op):Option (Value×Mem):=
 match o with
 |.store t p x=>match g p with
  |some q=>match g x with
   |some v=>match Qf P m t q v with
    |some m'=>some (undef,m')
    |none=>none
   |none=>none
  |none=>none
 |.makeSlice t l c=>match g l with
  |some u=>match g c with
   |some v=>ZX P m t u v
   |none=>none
  |none=>none
 |.call c=>match c.callee with
  |.builtin b=>match b with
   |.append=>match c.argTypes.toList with
    | [t,tx]=>match sArgs g c.args.toList with
      |some [s,x]=>JT P m t tx s x
      |_=>none
    |_=>none
   |.copy=>match c.argTypes.toList with
    | [t,tx]=>match sArgs g c.args.toList with
      |some [s,x]=>aCopy P m t tx s x
      |_=>none
    |_=>none
   |.clear=>match c.argTypes.toList with
    | [t]=>match sArgs g c.args.toList with
      |some [x]=>match aClear P m t x with
       |some m'=>some (.tuple #[],m')
       |none=>none
      |_=>none
    |_=>none
   |_=>none
  |_=>none
 |.mapUpdate t x k y=>match g x with
  |some v=>match g k with
   |some i=>match g y with
    |some u=>match ZW P m t v i u with
     |some m'=>some (undef,m')
     |none=>none
    |none=>none
   |none=>none
  |none=>none
 |.range t x=>match g x with
  |some v=>aRange P m t v
  |none=>none
 |_=>none
theorem sMem_spec{P:Program}{g:K7}{a:List Value}(hg:∀x v,g x=some v→JG a x=some v){m m':Mem}{o:Op}{v:Value}(h:sMem P g m o=some (v,m')):JD P o a m=some (v,m'):=by
 cases o<;>simp only[sMem]at h<;>first|(cases h;done)|skip
 case store t p x=>
  split at h<;>first|(cases h;done)|skip
  rename_i q hq
  split at h<;>first|(cases h;done)|skip
  rename_i u hu
  split at h<;>first|(cases h;done)|skip
  rename_i m1 h1
  cases h
  simp only[JD,hg p q hq,hg x u hu,h1]
 case makeSlice t l c=>
  split at h<;>first|(cases h;done)|skip
  rename_i u hu
  split at h<;>first|(cases h;done)|skip
  rename_i q hq
  simp only[JD,hg l u hu,hg c q hq,h]
 case call c=>
  obtain⟨E,I,ts⟩:=c
  cases E<;>simp only at h<;>first|(cases h;done)|skip
  rename_i b
  cases b<;>simp only at h<;>first|(cases h;done)|skip
  case append=>
   split at h<;>first|(cases h;done)|skip
   rename_i t tx ht
   split at h<;>first|(cases h;done)|skip
   rename_i s x hxs
   rw[VM]at hxs
   simp only[JD,Xo hg _ hxs,VG,ht,h]
  case copy=>
   split at h<;>first|(cases h;done)|skip
   rename_i t tx ht
   split at h<;>first|(cases h;done)|skip
   rename_i s x hxs
   rw[VM]at hxs
   simp only[JD,Xo hg _ hxs,VG,ht,h]
  case clear=>
   split at h<;>first|(cases h;done)|skip
   rename_i t ht
   split at h<;>first|(cases h;done)|skip
   rename_i x hxs
   split at h<;>first|(cases h;done)|skip
   rename_i m1 h1
   cases h
   rw[VM]at hxs
   simp only[JD,Xo hg _ hxs,VG,ht,h1]
 case mapUpdate t x k y=>
  split at h<;>first|(cases h;done)|skip
  rename_i u hu
  split at h<;>first|(cases h;done)|skip
  rename_i i hi
  split at h<;>first|(cases h;done)|skip
  rename_i y hy
  split at h<;>first|(cases h;done)|skip
  rename_i m1 h1
  cases h
  simp only[JD,hg x u hu,hg k i hi,hg _ _ hy,h1]
 case range t x=>
  split at h<;>first|(cases h;done)|skip
  rename_i u hu
  simp only[JD,hg x u hu,h]
def sAny(g:K7)(o:Op)(m:Mem):Option (Value→Mem→Prop):=match o with
 |.next it isS=>match isS with
  |false=>match g it with
   |some v=>aNext m v
   |none=>none
  |true=>none
 |_=>none
theorem sAny_spec{g:K7}{a:List Value}(hg:∀x v,g x=some v→JG a x=some v){m:Mem}{o:Op}{R:Value→Mem→Prop}(h:sAny g o m=some R):evAny o a m=some R:=by
 cases o<;>simp only[sAny]at h<;>first|(cases h;done)|skip
 rename_i it isS
 cases isS<;>simp only at h<;>first|(cases h;done)|skip
 split at h<;>first|(cases h;done)|skip
 rename_i v hv
 simp only[evAny,hg it v hv,h]
inductive Kind|val|new|mem|fn|any
def kindB(b:Builtin):Kind:=match b with
 |.append=>.mem
 |.clear=>.mem
 |.copy=>.mem
 |_=>.val
def kindC(c:Callee):Kind:=match c with
 |.builtin b=>kindB b
 |_=>.fn
def kindT(d:Option TypeDesc):Kind:=match d with
 |some (.slice _)=>.new
 |_=>.val
def kind(P:Program)(o:Op):Kind:=
 match o with
 |.alloc _=>.new
 |.box .. =>.new
 |.buildSlice .. =>.new
 |.store .. =>.mem
 |.makeSlice .. =>.mem
 |.makeMap .. =>.new
 |.mapUpdate .. =>.mem
 |.range .. =>.mem
 |.next .. =>.any
 |.convert _ d _=>kindT (P.underlying d)
 |.call c=>kindC c.callee
 |_=>.val
def sCallee(g:K7)(o:Op):Option (FuncId×List Value):=match o with
 |.call c=>match c.callee with
  |.value f=>match g f with
   |some (.func (.func k) fs cs)=>match sArgs g c.args.toList with
    |some xs=>some (k,fs.toList++xs++cs.toList)
    |none=>none
   |_=>none
  |_=>none
 |_=>none
theorem sCallee_eq(g:K7)(o:Op):sCallee g o=fCallee g o:=by
 cases o<;>simp only[sCallee,fCallee,VM]<;>rfl
def sOp(P:Program)(o:Op)(f:AL)(m:Mem) [c:Box (Value→Mem→Prop)]:Prop:=
 match kind P o with
 |.val=>@QT _ (sVal P (AL.look f) m.get o) ⟨fun v=>c.k v m⟩
 |.new=>@QT _ (sNew P (AL.look f) m.size o) ⟨fun p=>c.k p.1 (m.push p.2)⟩
 |.mem=>@QT _ (sMem P (AL.look f) m o) ⟨fun p=>c.k p.1 p.2⟩
 |.fn=>@QT _ (sCallee (AL.look f) o) ⟨fun p=>Qg P p.1=true∧∃R,Spec P p.1 p.2 m R∧@Later ⟨∀v m',R v m'→c.k v m'⟩⟩
 |.any=>@QT _ (sAny (AL.look f) o m) ⟨fun R=>@Later ⟨∀v m',R v m'→c.k v m'⟩⟩
def sGuard(all:List Oper)(o:Oper)(f:AL) [y:Box (Unit→Prop)] [n:Box (Nat→Prop)]:Prop:=match o.guard with
 |none=>y.k ()
 |some (j,w)=>match all[j]? with
  |some p=>match p.dst with
   |some t=>match AL.get f t with
    |some (.bool b)=>if Region.wanted o (fun _=>some b)=true then y.k ()else n.k 0
    |some (.tuple _)=>if Region.wanted o (fun _=>none)=true then y.k ()else n.k 0
    |_=>False
   |none=>False
  |none=>False
theorem sGuard_spec{all:List Oper}{o:Oper}{f:AL}{y n:Prop}(h:@sGuard all o f ⟨fun _=>y⟩ ⟨fun _=>n⟩){k:Nat}{a:List Value}(ha:Knows k f a):(Region.wanted o (JO all a)=true∧y)∨(Region.wanted o (JO all a)=false∧n):=by
 unfold sGuard at h
 split at h
 ·rename_i hg
  left
  exact⟨by unfold Region.wanted;rw[hg],h⟩
 ·rename_i j w hg
  have key:∀r:Option Bool,JO all a j=r→Region.wanted o (JO all a)=Region.wanted o fun _=>r:=fun r hr=>
   Zo o fun i b hi=>by rw[hg]at hi;cases hi;exact hr
  split at h<;>first|exact h.elim|skip
  rename_i p hp
  split at h<;>first|exact h.elim|skip
  rename_i t ht
  split at h<;>first|exact h.elim|skip
  ·rename_i b hb
   rw[key (some b) (by simp only[JO,hp,ht,ha.2 t _ hb])]
   split at h
   ·rename_i hw;exact .inl ⟨hw,h⟩
   ·rename_i hw;exact .inr ⟨by simpa using hw,h⟩
  ·rename_i cs hb
   rw[key none (by simp only[JO,hp,ht,ha.2 t _ hb])]
   split at h
   ·rename_i hw;exact .inl ⟨hw,h⟩
   ·rename_i hw;exact .inr ⟨by simpa using hw,h⟩
def sWant(all:List Oper)(o:Oper)(f:AL):Option Bool:=match o.guard with
 |none=>some true
 |some (j,w)=>match all[j]? with
  |some p=>match p.dst with
   |some t=>match AL.get f t with
    |some (.bool b)=>some (Region.wanted o fun _=>some b)
    |some (.tuple _)=>some (Region.wanted o fun _=>none)
    |_=>none
   |none=>none
  |none=>none
theorem Kb{all:List Oper}{o:Oper}{f:AL}{b:Bool}(h:sWant all o f=some b){k:Nat}{a:List Value}(ha:Knows k f a):Region.wanted o (JO all a)=b:=by
 unfold sWant at h
 split at h
 ·rename_i hg
  cases h
  unfold Region.wanted
  rw[hg]
 ·rename_i j w hg
  have key:∀r:Option Bool,JO all a j=r→Region.wanted o (JO all a)=Region.wanted o fun _=>r:=fun r hr=>
   Zo o fun i b hi=>by rw[hg]at hi;cases hi;exact hr
  split at h<;>first|(cases h;done)|skip
  rename_i p hp
  split at h<;>first|(cases h;done)|skip
  rename_i t ht
  split at h<;>first|(cases h;done)|skip
  ·rename_i b hb
   cases h
   exact key (some b) (by simp only[JO,hp,ht,ha.2 t _ hb])
  ·rename_i cs hb
   cases h
   exact key none (by simp only[JO,hp,ht,ha.2 t _ hb])
def sFun(P:Program)(o:Op)(f:AL)(m:Mem):Option (Value×Mem):=match kind P o with
 |.val=>match sVal P (AL.look f) m.get o with
  |some v=>some (v,m)
  |none=>none
 |.new=>match sNew P (AL.look f) m.size o with
  |some p=>some (p.1,m.push p.2)
  |none=>none
 |.mem=>sMem P (AL.look f) m o
 |.fn=>none
 |.any=>none
theorem sFun_spec{P:Program}{o:Op}{f:AL}{m m':Mem}{v:Value}(h:sFun P o f m=some (v,m')){k:Nat}{a:List Value}(ha:Knows k f a):JD P o a m=some (v,m'):=by
 have E:=ha.look
 unfold sFun at h
 split at h
 ·split at h<;>first|(cases h;done)|skip
  rename_i u hu
  cases h
  exact Zf E (fun _ _ h=>h) hu
 ·split at h<;>first|(cases h;done)|skip
  rename_i p hp
  cases h
  exact(sNew_spec E hp).1
 ·exact sMem_spec E h
 ·cases h
 ·cases h
def sGuarded(w:Option Bool)(x:Option (Value×Mem))(m:Mem):Option (Value×Mem):=match w with
 |some true=>x
 |some false=>some (undef,m)
 |none=>none
def isFn:Kind→Bool
 |.fn=>true
 |.any=>true
 |_=>false
def sOne(P:Program)(n:Nat)(all:List Oper)(o:Oper)(f:AL)(m:Mem) [c:Box (AL→Mem→Prop)]:Prop:=match o.guard with
 |none=>@sOp P o.op f m ⟨fun v m'=>@sPut n o.dst v f ⟨fun f'=>c.k f' m'⟩⟩
 |some _=>match isFn (kind P o.op)with
  |false=>@QT _ (sGuarded (sWant all o f) (sFun P o.op f m) m) ⟨fun p=>@sPut n o.dst p.1 f ⟨fun f'=>c.k f' p.2⟩⟩
  |true=>@sGuard all o f ⟨fun _=>@sOp P o.op f m ⟨fun v m'=>@sPut n o.dst v f ⟨fun f'=>c.k f' m'⟩⟩⟩ ⟨fun _=>@sPut n o.dst undef f ⟨fun f'=>c.k f' m⟩⟩
def sOpsB(P:Program)(n:Nat)(all:List Oper) [K:Box (AL→Mem→Prop)]:List Oper→AL→Mem→Prop
 | [],f,m=>K.k f m
 |o::r,f,m=>@sOne P n all o f m ⟨sOpsB P n all r⟩
def sOps(P:Program)(n:Nat)(all:List Oper)(K:AL→Mem→Prop)(l:List Oper)(f:AL)(m:Mem):Prop:=@sOpsB P n all ⟨K⟩ l f m
theorem sOp_run{P:Program}{n:Nat}{all:List Oper}{o:Oper}{f:AL}{m:Mem}{a:List Value}{Q:List Value→Mem→Prop}{r:List Oper}(ha:Knows n f a)(hw:Region.wanted o (JO all a)=true){next:AL→Mem→Prop}
 (h:@sOp P o.op f m ⟨fun v m'=>@sPut n o.dst v f ⟨fun f'=>next f' m'⟩⟩) (hn:∀f' m' a',Knows n f' a'→next f' m'→Xq P all Q r a' m'):Xq P all Q (o::r) a m:=by
 simp only[Xq]
 rw[if_pos hw]
 have U:=ha.look
 unfold sOp at h
 split at h
 ·obtain⟨v,E,h2⟩:=Qe h
  obtain⟨f',I,O⟩:=QS h2 ha
  exact .inl ⟨v,m,Zf U (fun _ _ h=>h) E,hn f' m _ I O⟩
 ·obtain⟨⟨v,b⟩,E,h2⟩:=Qe h
  obtain⟨f',I,O⟩:=QS h2 ha
  exact .inl ⟨v,_,(sNew_spec U E).1,hn f' _ _ I O⟩
 ·obtain⟨⟨v,m1⟩,E,h2⟩:=Qe h
  obtain⟨f',I,O⟩:=QS h2 ha
  exact .inl ⟨v,m1,sMem_spec U E,hn f' _ _ I O⟩
 ·obtain⟨⟨k,xs⟩,E,Z,R,Y,h2⟩:=Qe h
  rw[sCallee_eq]at E
  refine .inr (.inl ⟨k,xs,R,Ks U E,Z,Y,fun v m' hR=>?_⟩)
  obtain⟨f',I,O⟩:=QS (h2 v m' hR) ha
  exact hn f' _ _ I O
 ·obtain⟨R,E,h2⟩:=Qe h
  refine .inr (.inr ⟨R,sAny_spec U E,fun v m' hR=>?_⟩)
  obtain⟨f',I,O⟩:=QS (h2 v m' hR) ha
  exact hn f' _ _ I O
theorem Ve{P:Program}{n:Nat}{all:List Oper}{K:AL→Mem→Prop}{Q:List Value→Mem→Prop}(hK:∀f m a,Knows n f a→K f m→Q a m):∀(l:List Oper)(f:AL)(m:Mem)(a:List Value),Knows n f a→sOps P n all K l f m→Xq P all Q l a m
 | [],f,m,a,ha,h=>hK f m a ha h
 |o::r,f,m,a,ha,h=>by
  have next:∀f' m' a',Knows n f' a'→sOps P n all K r f' m'→Xq P all Q r a' m':=fun f' m' a' h1 h2=>Ve hK r f' m' a' h1 h2
  simp only[sOps,sOpsB,sOne]at h
  have skip:Region.wanted o (JO all a)=false→(@sPut n o.dst undef f ⟨fun f'=>sOps P n all K r f' m⟩)→Xq P all Q (o::r) a m:=fun hw h=>by
   simp only[Xq]
   rw[if_neg (by rw[hw];simp)]
   obtain⟨f',h3,h4⟩:=QS h ha
   exact next f' _ _ h3 h4
  split at h
  ·rename_i hg
   exact sOp_run ha (by unfold Region.wanted;rw[hg]) h next
  ·split at h
   ·obtain⟨⟨v,m'⟩,h1,h2⟩:=Qe h
    unfold sGuarded at h1
    split at h1
    ·rename_i hw
     obtain⟨f',h3,h4⟩:=QS h2 ha
     simp only[Xq]
     rw[if_pos (Kb hw ha)]
     exact .inl ⟨v,m',sFun_spec h1 ha,next f' _ _ h3 h4⟩
    ·rename_i hw
     cases h1
     exact skip (Kb hw ha) h2
    ·cases h1
   ·rcases sGuard_spec h ha with⟨hw,h⟩|⟨hw,h⟩
    ·exact sOp_run ha hw h next
    ·exact skip hw h
def SW(P:Program)(n:Nat)(c:Code)(Q:Exit→AL→Mem→Prop)(f:AL)(m:Mem):Prop:=
 ∀a,Knows n f a→AW P c (fun e a' m'=>∃f',Knows n f' a'∧Q e f' m') a m
section
variable {P : Program} {n : Nat} {Q : Exit → AL → Mem → Prop} {f : AL} {m : Mem}
theorem SW.mono{c:Code}{Q':Exit→AL→Mem→Prop}(h:SW P n c Q f m)(hq:∀e f m,Q e f m→Q' e f m):SW P n c Q' f m:=
 fun a ha=>(h a ha).mono fun _ _ _ ⟨f',h1,h2⟩=>⟨f',h1,hq _ _ _ h2⟩
theorem SW.less{c:Code}{f':AL}(h:SW P n c Q f' m)(hs:∀t v,AL.get f' t=some v→AL.get f t=some v):SW P n c Q f m:=fun a ha=>h a (ha.less hs)
theorem Q5(h:Q .normal f m):SW P n .skip Q f m:=fun _ ha=>AW_skip ⟨f,ha,h⟩
theorem QF{i:Nat}(h:Q (.exit i) f m):SW P n (.exit i) Q f m:=fun _ ha=>AW_exit ⟨f,ha,h⟩
theorem Xa(h:Q .ret f m):SW P n .ret Q f m:=fun _ ha=>AW_ret ⟨f,ha,h⟩
def sThen(next:AL→Mem→Prop)(Q:Exit→AL→Mem→Prop):Exit→AL→Mem→Prop
 |.normal,f,m=>next f m
 |e,f,m=>Q e f m
theorem J4{x y:Code}(h:SW P n x (sThen (SW P n y Q) Q) f m):SW P n (.seq x y) Q f m:=fun a ha=>by
 refine AW_seq ((h a ha).mono ?_)
 rintro e a' m' ⟨f',h1,h2⟩
 cases e with
 |normal=>exact h2 a' h1
 |_=>exact⟨f',h1,h2⟩
theorem Q2{c:Operand}{x y:Code}(t:Bool)(hc:AL.look f c=some (.bool t))(ht:t=true→SW P n x Q f m)(hf:t=false→SW P n y Q f m):SW P n (.cond c x y) Q f m:=
 fun a ha=>AW_cond (ha.look c _ hc) (fun e=>ht e a ha) (fun e=>hf e a ha)
def sBlock(i:Nat)(Q:Exit→AL→Mem→Prop):Exit→AL→Mem→Prop
 |.exit j,f,m=>if j=i then Q .normal f m else Q (.exit j) f m
 |e,f,m=>Q e f m
theorem Jv{i:Nat}{c:Code}(h:SW P n c (sBlock i Q) f m):SW P n (.block i c) Q f m:=fun a ha=>by
 refine AW_block ((h a ha).mono ?_)
 rintro e a' m' ⟨f',h1,h2⟩
 cases e with
 |exit j=>
  simp only[sBlock]at h2
  simp only[inBlockA]
  split
  ·rename_i e;rw[if_pos e]at h2;exact⟨f',h1,h2⟩
  ·rename_i e;rw[if_neg e]at h2;exact⟨f',h1,h2⟩
 |_=>exact⟨f',h1,h2⟩
theorem SW_loop{c:Code}(I:Nat→AL→Mem→Prop)(k₀:Nat)(h₀:I k₀ f m)(round:∀k f m,I k f m→SW P n c (sThen (fun f' m'=>∃k',I k' f' m'∧k'<k) Q) f m):SW P n (.loop c) Q f m:=fun a ha=>by
 let J:Nat→List Value→Mem→Prop:=fun k a m=>∃f,Knows n f a∧I k f m
 have key:∀k a m,J k a m→AW P (.loop c) (fun e a' m'=>∃f',Knows n f' a'∧Q e f' m') a m:=by
  intro k a m hJ ι₀ m₀ w₀ ι act w hs ha hr
  have aa:∀k a m,J k a m→∀(ι₀:Nat→Loc)(m₀:Mem)(w₀:World)(ι:Nat→Loc)(act:Act)(w:World),Step ι₀ m₀ w₀ ι m w→ARel m.Has ι a act→Rel ι m w→
   Code.rounds P c (K6 ι₀ m₀ w₀ fun e a' m'=>∃f',Knows n f' a'∧Q e f' m') (k+1) act w:=by
   intro k
   induction k using Nat.strongRecOn with
   |_ k ih=>
    rintro a m ⟨f,hf,hI⟩ ι₀ m₀ w₀ ι act w hs ha hr
    refine wp_mono (round k f m hI a hf ι₀ m₀ w₀ ι act w hs ha hr) ?_
    rintro e Y w2 ⟨κ,a2,m2,⟨f2,O,Z⟩,U,E,hs2⟩
    cases e with
    |normal=>
     obtain⟨k',a8,a7⟩:=Z
     have:=ih k' a7 a2 m2 ⟨f2,O,a8⟩ ι₀ m₀ w₀ κ Y w2 hs2 U E
     exact rounds_le this (by omega)
    |_=>exact⟨κ,a2,m2,⟨f2,O,Z⟩,U,E,hs2⟩
  exact wp_loop_rounds (k+1) (aa k a m hJ ι₀ m₀ w₀ ι act w hs ha hr)
 exact key k₀ a m ⟨f,ha,h₀⟩
where
 rounds_le {c:Code} {Q:Exit→Act→World→Prop}:∀{j k:Nat}{a:Act}{w:World},Code.rounds P c Q j a w→j≤k→Code.rounds P c Q k a w
 |0,_,_,_,h,_=>h.elim
 |j+1,0,_,_,_,h=>by omega
 |j+1,k+1,a,w,h,hle=>wp_mono h fun e a' w' hq=>by
  cases e with
  |normal=>exact rounds_le hq (by omega)
  |_=>exact hq
theorem J2{id:Nat}{ops:Array Oper}(h:sOps P n ops.toList (Q .normal) ops.toList f m):SW P n (.region id ops false) Q f m:=
 fun a ha=>AW_region (Ve (fun f m a h1 h2=>⟨f,h1,h2⟩) _ f m a ha h)
end
end
end Go.Proofs.YthohbneadomgdaaGreatDoor.Abs
namespace Go.Proofs.YthohbneadomgdaaGreatDoor.Abs
open Go Go.RowKit
section
variable [Defs]
def isVal:Kind→Bool
 |.val=>true
 |_=>false
def sGuardedV(w:Option Bool)(x:Option Value):Option Value:=match w with
 |some true=>x
 |some false=>some undef
 |none=>none
def Qo(P:Program)(n:Nat)(m0:Mem)(al:Bool)(o:Oper)(f:AL)(M:Mem) [c:Box (Bool→AL→Mem→Prop)]:Prop:=match kind P o.op with
 |.val=>@QT _ (sVal P (AL.look f) m0.get o.op) ⟨fun v=>@sPut n o.dst v f ⟨fun f'=>c.k al f' M⟩⟩
 |.new=>@QT _ (sNew P (AL.look f) M.size o.op) ⟨fun p=>@sPut n o.dst p.1 f ⟨fun f'=>c.k true f' (M.push p.2)⟩⟩
 |.mem=>False
 |.fn=>al=false∧@QT _ (sCallee (AL.look f) o.op) ⟨fun p=>Qg P p.1=true∧@Later ⟨∃v N,Spec P p.1 p.2 m0 (fun u m'=>u=v∧m'=m0.app N)∧N.all ZK=true∧@sPut n o.dst v f ⟨fun f'=>c.k (!N.isEmpty) f' (M.app N)⟩⟩⟩
 |.any=>False
def Q3(P:Program)(n:Nat)(all:List Oper)(m0:Mem)(al:Bool)(o:Oper)(f:AL)(M:Mem) [c:Box (Bool→AL→Mem→Prop)]:Prop:=match o.guard with
 |none=>@Qo P n m0 al o f M c
 |some _=>match isVal (kind P o.op)with
  |true=>@QT _ (sGuardedV (sWant all o f) (sVal P (AL.look f) m0.get o.op)) ⟨fun v=>@sPut n o.dst v f ⟨fun f'=>c.k al f' M⟩⟩
  |false=>@sGuard all o f ⟨fun _=>@Qo P n m0 al o f M c⟩ ⟨fun _=>@sPut n o.dst undef f ⟨fun f'=>c.k al f' M⟩⟩
def JA(P:Program)(n:Nat)(all:List Oper)(m0:Mem) [K:Box (AL→Mem→Prop)]:List Oper→Bool→AL→Mem→Prop
 | [],_,f,M=>K.k f M
 |o::r,al,f,M=>@Q3 P n all m0 al o f M ⟨JA P n all m0 r⟩
def Ul(P:Program)(n:Nat)(all:List Oper)(m0:Mem)(K:AL→Mem→Prop)(al:Bool)(l:List Oper)(f:AL)(M:Mem):Prop:=@JA P n all m0 ⟨K⟩ l al f M
def sHOp(P:Program)(n:Nat)(m0:Mem)(al:Bool)(o:Oper)(f:AL)(M:Mem) [c:Box (Bool→AL→Mem→Prop)]:Prop:=match kind P o.op with
 |.val=>@QT _ (sVal P (AL.look f) m0.get o.op) ⟨fun v=>@sPut n o.dst v f ⟨fun f'=>c.k al f' M⟩⟩
 |.new=>@QT _ (sNew P (AL.look f) M.size o.op) ⟨fun p=>@sPut n o.dst p.1 f ⟨fun f'=>c.k true f' (M.push p.2)⟩⟩
 |.mem=>False
 |.fn=>al=false∧@QT _ (sCallee (AL.look f) o.op) ⟨fun p=>Qg P p.1=true∧@Later ⟨∃v,Spec P p.1 p.2 m0 (fun u m'=>u=v∧m'=m0)∧@sPut n o.dst v f ⟨fun f'=>c.k al f' M⟩⟩⟩
 |.any=>False
def sHOne(P:Program)(n:Nat)(all:List Oper)(m0:Mem)(al:Bool)(o:Oper)(f:AL)(M:Mem) [c:Box (Bool→AL→Mem→Prop)]:Prop:=match o.guard with
 |none=>@sHOp P n m0 al o f M c
 |some _=>match isVal (kind P o.op)with
  |true=>@QT _ (sGuardedV (sWant all o f) (sVal P (AL.look f) m0.get o.op)) ⟨fun v=>@sPut n o.dst v f ⟨fun f'=>c.k al f' M⟩⟩
  |false=>@sGuard all o f ⟨fun _=>@sHOp P n m0 al o f M c⟩ ⟨fun _=>@sPut n o.dst undef f ⟨fun f'=>c.k al f' M⟩⟩
def sHeadB(P:Program)(n:Nat)(all:List Oper)(m0:Mem) [K:Box (AL→Mem→Prop)]:List Oper→Bool→AL→Mem→Prop
 | [],_,f,M=>K.k f M
 |o::r,al,f,M=>@sHOne P n all m0 al o f M ⟨sHeadB P n all m0 r⟩
def sHead(P:Program)(n:Nat)(all:List Oper)(m0:Mem)(K:AL→Mem→Prop)(al:Bool)(l:List Oper)(f:AL)(M:Mem):Prop:=@sHeadB P n all m0 ⟨K⟩ l al f M
theorem still_kind{P:Program}{o:Op}(h:still o=true):kind P o=.val:=by
 cases o<;>simp only[still]at h<;>first|(cases h;done)|rfl
theorem sHead_runG(b:Nat)(V0:Nat→Value)(N0:Nat→List (Option Blk)){P:Program}{n:Nat}{ops:Array Oper}{m₀:Mem}{a₀:List Value}{q:Nat}{K:AL→Mem→Prop}(hq:Xy ops q=true)(hqs:q≤ops.size):
 ∀(l:List Oper)(k:Nat)(vs:List Value)(Ns:List (List (Option Blk)))(al:Bool)(f:AL)(M:Mem),(∀j,l[j]?=if k+j<q then ops[k+j]? else none)→k≤q→vs.length=k→Ns.length=k→
  Knows n f (Jd ops (JZ vs) allS a₀ k)→M=Js m₀ (JL Ns) allS k→(al=false→∀j,JL Ns j=[])→(∀j,j<k→(JL Ns j).all ZK=true)→
  (∀i o,b≤i→i<k→ops[i]?=some o→DOp P ops a₀ m₀ (JZ vs) (JL Ns) i o)→(∀i o,b≤i→i<k→ops[i]?=some o→kind P o.op=.val→o.guard=none→JD P o.op (Ud ops a₀ (JZ vs) i) (Xc ops m₀ (JL Ns) i)=some (JZ vs i,Xc ops m₀ (JL Ns) i)∧JL Ns i=[])→b≤k→(∀j,j<b→JZ vs j=V0 j∧JL Ns j=N0 j)→Ul P n ops.toList m₀ K al l f M→
  ∃vs' Ns' f',Knows n f' (Jd ops (JZ vs') allS a₀ q)∧K f' (Js m₀ (JL Ns') allS q)∧(∀j,j<q→(JL Ns' j).all ZK=true)∧(∀i o,b≤i→i<q→ops[i]?=some o→DOp P ops a₀ m₀ (JZ vs') (JL Ns') i o)∧(∀i o,b≤i→i<q→ops[i]?=some o→kind P o.op=.val→o.guard=none→JD P o.op (Ud ops a₀ (JZ vs') i) (Xc ops m₀ (JL Ns') i)=some (JZ vs' i,Xc ops m₀ (JL Ns') i)∧JL Ns' i=[])∧(∀j,j<b→JZ vs' j=V0 j∧JL Ns' j=N0 j):=by
 have aR:=hq
 simp only[Xy,qe]at hq
 obtain⟨⟨aP,aG⟩,aE⟩:=hq
 intro l
 induction l with
 |nil=>
  intro k vs Ns al f M hl aH ap aq hf hm ak a6 hd ao aK Y h
  have hk:k=q:=by
   have h0:=hl 0
   rcases Nat.lt_or_ge k q with E|E
   ·rw[if_pos (by omega),Nat.add_zero,Array.getElem?_eq_getElem (show k<ops.size by omega)]at h0
    cases h0
   ·omega
  subst hk
  exact⟨vs,Ns,f,hf,by rw[←hm];exact h,a6,hd,ao,Y⟩
 |cons o l ih=>
  intro k vs Ns al f M hl aH ap aq hf hm ak a6 hd ao aK Y h
  have hk:k<q∧ops[k]?=some o:=by
   have h0:=hl 0
   rcases Nat.lt_or_ge k q with E|E
   ·rw[if_pos (by omega),Nat.add_zero]at h0
    exact⟨E,by simpa using h0.symm⟩
   ·rw[if_neg (by omega)]at h0;cases h0
  obtain⟨au,ad⟩:=hk
  obtain⟨a,ha⟩:∃a,a=Jd ops (JZ vs) allS a₀ k:=⟨_,rfl⟩
  rw[←ha]at hf
  have a2:∀t,t∈o.looksAt ops→(Ud ops a₀ (JZ vs) k)[t]?=a[t]?:=fun t ht=>by rw[ha];exact slot_all aE au hqs ad ht
  have ac:∀x∈o.op.operands,JG (Ud ops a₀ (JZ vs) k) x=JG a x:=by
   intro x hx
   cases x with
   |tmp t=>
    simp only[JG]
    refine a2 t ?_
    simp only[Oper.looksAt,qy,List.mem_filterMap]
    exact .inl ⟨.tmp t,by simpa using hx,rfl⟩
   |_=>rfl
  have O:Region.wanted o (JO ops.toList (Ud ops a₀ (JZ vs) k))=Region.wanted o (JO ops.toList a):=by
   refine Zo o fun g b hg=>?_
   unfold JO
   simp only[qd]
   cases hog:ops[g]? with
   |none=>rfl
   |some og=>
    cases hdg:og.dst with
    |none=>simp[hdg]
    |some t=>
     simp only[hdg]
     rw[a2 t (by simp[Oper.looksAt,hg,hog,hdg])]
  have next:∀(v:Value)(N:List (Option Blk))(Z:Bool)(f1:AL),DOp P ops a₀ m₀ (JZ (vs++[v])) (JL (Ns++[N])) k o→(kind P o.op=.val→o.guard=none→JD P o.op (Ud ops a₀ (JZ (vs++[v])) k) (Xc ops m₀ (JL (Ns++[N])) k)=some (v,Xc ops m₀ (JL (Ns++[N])) k)∧N=[])→N.all ZK=true→Knows n f1 (QV a o.dst v)→(Z=false→al=false∧N=[])→
   Ul P n ops.toList m₀ K Z l f1 (M.app N)→
   ∃vs' Ns' f',Knows n f' (Jd ops (JZ vs') allS a₀ q)∧K f' (Js m₀ (JL Ns') allS q)∧(∀j,j<q→(JL Ns' j).all ZK=true)∧(∀i o,b≤i→i<q→ops[i]?=some o→DOp P ops a₀ m₀ (JZ vs') (JL Ns') i o)∧(∀i o,b≤i→i<q→ops[i]?=some o→kind P o.op=.val→o.guard=none→JD P o.op (Ud ops a₀ (JZ vs') i) (Xc ops m₀ (JL Ns') i)=some (JZ vs' i,Xc ops m₀ (JL Ns') i)∧JL Ns' i=[])∧(∀j,j<b→JZ vs' j=V0 j∧JL Ns' j=N0 j):=by
   intro v N Z f1 hD aL ab ax ay h
   have U:∀j,j<k→JZ vs j=JZ (vs++[v]) j:=fun j hj=>by rw[Vh,if_pos (by omega)]
   have I:∀j,j<k→JL Ns j=JL (Ns++[N]) j:=fun j hj=>by rw[Vi,if_pos (by omega)]
   have gN:JL (Ns++[N]) k=N:=by rw[Vi,if_neg (by omega),if_pos (by omega)]
   have aw:Js m₀ (JL (Ns++[N])) allS k=Js m₀ (JL Ns) allS k:=by
    unfold Js
    rw[XX k fun j hj=>(I j hj).symm]
   refine ih (k+1) (vs++[v]) (Ns++[N]) Z f1 (M.app N) (fun j=>?_) (by omega) (by simp[ap]) (by simp[aq]) ?_ ?_ (fun he j=>?_) (fun j hj=>?_) (fun i oi hbi hi hoi=>?_) (fun i oi hbi hi hoi hsi hgi=>?_) (by omega) (fun j hj=>by rw[←U j (by omega),←I j (by omega)];exact Y j hj) h
   ·have:=hl (j+1)
    rw[List.getElem?_cons_succ]at this
    rw[this,show k+(j+1)=k+1+j by omega]
   ·simp only[Jd,allS,if_true,ad,Option.bind_some]
    rw[←Z1 k U,Vh,if_neg (by omega),if_pos (by omega)]
    rw[ha]at ax
    exact ax
   ·rw[memAt_succ,aw,gN,←hm]
   ·obtain⟨E,h2⟩:=ay he
    rw[Vi]
    split
    ·exact ak E j
    ·split
     ·exact h2
     ·rfl
   ·by_cases e:j=k
    ·subst e;rw[gN];exact ab
    ·rw[←I j (by omega)];exact a6 j (by omega)
   ·by_cases e:i=k
    ·subst e
     rw[ad]at hoi;cases hoi
     exact hD
    ·exact DOp_congr (fun j hj=>U j (by omega)) (fun j hj=>I j (by omega)) (hd i oi hbi (by omega) hoi)
   ·by_cases e:i=k
    ·subst e
     rw[ad]at hoi;cases hoi
     obtain⟨E,h2⟩:=aL hsi hgi
     rw[gN,Vh,if_neg (by omega),if_pos (by omega)]
     exact⟨E,h2⟩
    ·obtain⟨E,h2⟩:=ao i oi hbi (by omega) hoi hsi hgi
     have e1:Ud ops a₀ (JZ (vs++[v])) i=Ud ops a₀ (JZ vs) i:=Z1 i fun j hj=>(U j (by omega)).symm
     have e2:Xc ops m₀ (JL (Ns++[N])) i=Xc ops m₀ (JL Ns) i:=by
      unfold Xc Js
      rw[XX i fun j hj=>(I j (by omega)).symm]
     rw[e1,e2,←U i (by omega),←I i (by omega)]
     exact⟨E,h2⟩
  have gv:∀v,JZ (vs++[v]) k=v:=fun v=>by rw[Vh,if_neg (by omega),if_pos (by omega)]
  have gN:∀N,JL (Ns++[N]) k=N:=fun N=>by rw[Vi,if_neg (by omega),if_pos (by omega)]
  have fv:∀v,Ud ops a₀ (JZ (vs++[v])) k=Ud ops a₀ (JZ vs) k:=fun v=>Z1 k fun j hj=>by rw[Vh,if_pos (by omega)]
  have fN:∀N,Xc ops m₀ (JL (Ns++[N])) k=Xc ops m₀ (JL Ns) k:=fun N=>by
   unfold Xc Js
   rw[XX k fun j hj=>by rw[Vi,if_pos (by omega)]]
  have a8:∀M:Mem,M.app []=M:=fun M=>by simp[Mem.app]
  have aj:(Xc ops m₀ (JL Ns) k).size=M.size:=by
   rw[hm]
   unfold Xc Js Mem.size
   simp only[List.length_append]
   rw[Un (JL Ns) (B ops k) allS k]
  have hg:=hf.look
  have ag:∀b x,m₀.get b=some x→(Xc ops m₀ (JL Ns) k).get b=some x:=fun b x hx=>(QX _ _ _ _).2 (.inl ⟨Mem.get_lt hx,hx⟩)
  simp only[Ul,JA,Q3]at h
  have skip:Region.wanted o (JO ops.toList a)=false→(@sPut n o.dst undef f ⟨fun f'=>Ul P n ops.toList m₀ K al l f' M⟩)→∃vs' Ns' f',Knows n f' (Jd ops (JZ vs') allS a₀ q)∧K f' (Js m₀ (JL Ns') allS q)∧(∀j,j<q→(JL Ns' j).all ZK=true)∧(∀i o,b≤i→i<q→ops[i]?=some o→DOp P ops a₀ m₀ (JZ vs') (JL Ns') i o)∧(∀i o,b≤i→i<q→ops[i]?=some o→kind P o.op=.val→o.guard=none→JD P o.op (Ud ops a₀ (JZ vs') i) (Xc ops m₀ (JL Ns') i)=some (JZ vs' i,Xc ops m₀ (JL Ns') i)∧JL Ns' i=[])∧(∀j,j<b→JZ vs' j=V0 j∧JL Ns' j=N0 j):=fun hw h=>by
   obtain⟨f',h3,h4⟩:=QS h hf
   refine next undef [] al f' ?_ (fun _ hg=>by rw[U4 hg]at hw;cases hw) rfl h3 (fun he=>⟨he,rfl⟩) (by rw[a8];exact h4)
   unfold DOp
   rw[fv,gv,gN,O,if_neg (by rw[hw];simp)]
   exact⟨rfl,rfl⟩
  have val:∀v,Region.wanted o (JO ops.toList a)=true→sVal P (AL.look f) m₀.get o.op=some v→(@sPut n o.dst v f ⟨fun f'=>Ul P n ops.toList m₀ K al l f' M⟩)→∃vs' Ns' f',Knows n f' (Jd ops (JZ vs') allS a₀ q)∧K f' (Js m₀ (JL Ns') allS q)∧(∀j,j<q→(JL Ns' j).all ZK=true)∧(∀i o,b≤i→i<q→ops[i]?=some o→DOp P ops a₀ m₀ (JZ vs') (JL Ns') i o)∧(∀i o,b≤i→i<q→ops[i]?=some o→kind P o.op=.val→o.guard=none→JD P o.op (Ud ops a₀ (JZ vs') i) (Xc ops m₀ (JL Ns') i)=some (JZ vs' i,Xc ops m₀ (JL Ns') i)∧JL Ns' i=[])∧(∀j,j<b→JZ vs' j=V0 j∧JL Ns' j=N0 j):=fun v hw E h2=>by
   obtain⟨f',h3,h4⟩:=QS h2 hf
   refine next v [] al f' ?_ (fun _ _=>⟨by rw[fv,fN,Zd P o.op _ ac];exact Zf (P:=P) hg ag E,rfl⟩) rfl h3 (fun he=>⟨he,rfl⟩) (by rw[a8];exact h4)
   have:=Zf (P:=P) hg ag E
   unfold DOp memOf
   rw[fv,fN,gv,gN,O,if_pos hw,a8]
   exact⟨OpSim.congr (OpSim.op this ⟨rfl,rfl⟩) ac,rfl⟩
  have av:Region.wanted o (JO ops.toList a)=true→@Qo P n m₀ al o f M ⟨fun Z f' M'=>Ul P n ops.toList m₀ K Z l f' M'⟩→∃vs' Ns' f',Knows n f' (Jd ops (JZ vs') allS a₀ q)∧K f' (Js m₀ (JL Ns') allS q)∧(∀j,j<q→(JL Ns' j).all ZK=true)∧(∀i o,b≤i→i<q→ops[i]?=some o→DOp P ops a₀ m₀ (JZ vs') (JL Ns') i o)∧(∀i o,b≤i→i<q→ops[i]?=some o→kind P o.op=.val→o.guard=none→JD P o.op (Ud ops a₀ (JZ vs') i) (Xc ops m₀ (JL Ns') i)=some (JZ vs' i,Xc ops m₀ (JL Ns') i)∧JL Ns' i=[])∧(∀j,j<b→JZ vs' j=V0 j∧JL Ns' j=N0 j):=fun hw h=>by
   unfold Qo at h
   split at h<;>rename_i hkd
   ·obtain⟨v,E,h2⟩:=Qe h
    exact val v hw E h2
   ·obtain⟨⟨v,b⟩,E,h2⟩:=Qe h
    obtain⟨f',h3,h4⟩:=QS h2 hf
    rw[←aj]at E
    obtain⟨h5,h6⟩:=sNew_spec (P:=P) hg E
    have e1:∀M:Mem,M.push b=M.app [some b]:=fun M=>rfl
    refine next v [some b] true f' ?_ (fun hs _=>by rw[hs]at hkd;cases hkd) (by simp only[List.all_cons,h6,List.all_nil,Bool.and_self]) h3 (fun he=>by cases he) (by rw[←e1];exact h4)
    rw[e1]at h5
    unfold DOp memOf
    rw[fv,fN,gv,gN,O,if_pos hw]
    exact⟨OpSim.congr (OpSim.op h5 ⟨rfl,rfl⟩) ac,by simp only[List.all_cons,h6,List.all_nil,Bool.and_self]⟩
   ·exact h.elim
   ·obtain⟨ah,h⟩:=h
    obtain⟨⟨c,xs⟩,E,he,v,N,aM,ab,h2⟩:=Qe h
    obtain⟨f',h3,h4⟩:=QS h2 hf
    have hB:Xc ops m₀ (JL Ns) k=m₀:=by
     have:∀i,Q8 (JL Ns) (B ops k) i=[]:=by
      intro i
      induction i with
      |zero=>rfl
      |succ i ih=>simp[Q8,ih,ak ah]
     unfold Xc Js
     rw[this,qA]
    rw[sCallee_eq]at E
    refine next v N (!N.isEmpty) f' ?_ (fun hs _=>by rw[hs]at hkd;cases hkd) ab h3 (fun he=>⟨ah,by cases N with|nil=>rfl|cons=>simp at he⟩) h4
    unfold DOp memOf
    rw[fv,fN,gv,gN,O,if_pos hw,hB]
    exact⟨OpSim.congr (OpSim.call (Ks hg E) he aM) ac,ab⟩
   ·exact h.elim
  split at h
  ·rename_i hgd
   exact av (by unfold Region.wanted;rw[hgd]) h
  ·split at h
   ·obtain⟨v,E,h2⟩:=Qe h
    unfold sGuardedV at E
    split at E
    ·rename_i hw;exact val v (Kb hw hf) E h2
    ·rename_i hw;cases E;exact skip (Kb hw hf) h2
    ·cases E
   ·rcases sGuard_spec h hf with⟨hw,h⟩|⟨hw,h⟩
    ·exact av hw h
    ·exact skip hw h
theorem UF{n:Nat}{d:Option Nat}{v:Value}{f:AL}{k k':AL→Prop}(h:∀f,k f→k' f)(g:@sPut n d v f ⟨k⟩):@sPut n d v f ⟨k'⟩:=by
 cases d with
 |none=>exact h _ g
 |some t=>exact⟨g.1,h _ g.2⟩
theorem K8{α:Type}{o:Option α}{k k':α→Prop}(h:∀v,k v→k' v)(g:@QT α o ⟨k⟩):@QT α o ⟨k'⟩:=by
 cases o with
 |none=>exact g
 |some v=>exact h v g
theorem sGuard_mono{all:List Oper}{o:Oper}{f:AL}{y n y' n':Prop}(hy:y→y')(hn:n→n')(h:@sGuard all o f ⟨fun _=>y⟩ ⟨fun _=>n⟩):@sGuard all o f ⟨fun _=>y'⟩ ⟨fun _=>n'⟩:=by
 unfold sGuard at h ⊢
 split at h
 ·exact hy h
 ·split at h<;>first|exact h.elim|skip
  split at h<;>first|exact h.elim|skip
  split at h<;>first|exact h.elim|skip
  all_goals
   split at h
   ·rename_i e;simp only[*]<;>exact hy h
   ·rename_i e;simp only[*]<;>exact hn h
theorem sHOp_G{P:Program}{n:Nat}{m0:Mem}{al:Bool}{o:Oper}{f:AL}{M:Mem}{c c':Bool→AL→Mem→Prop}(hc:∀al f M,c al f M→c' al f M)(h:@sHOp P n m0 al o f M ⟨c⟩):@Qo P n m0 al o f M ⟨c'⟩:=by
 unfold sHOp at h
 unfold Qo
 cases hk:kind P o.op<;>rw[hk]at h<;>simp only at h ⊢
 case val=>exact K8 (fun v=>UF fun f=>hc _ f _) h
 case new=>exact K8 (fun v=>UF fun f=>hc _ f _) h
 case fn=>
  obtain⟨rfl,h⟩:=h
  refine⟨rfl,K8 (fun p ⟨he,v,hs,hp⟩=>⟨he,v,[],?_,rfl,UF (fun f hf=>?_) hp⟩) h⟩
  ·rw[show m0.app []=m0 by simp[Mem.app]];exact hs
  ·rw[show M.app []=M by simp[Mem.app]];exact hc _ f _ hf
theorem sHead_G{P:Program}{n:Nat}{all:List Oper}{m0:Mem}{K:AL→Mem→Prop}:∀(l:List Oper)(al:Bool)(f:AL)(M:Mem),sHead P n all m0 K al l f M→Ul P n all m0 K al l f M
 | [],_,_,_,h=>h
 |o::r,al,f,M,h=>by
  have ih:=fun al f M=>sHead_G (P:=P) (n:=n) (all:=all) (m0:=m0) (K:=K) r al f M
  simp only[sHead,sHeadB,sHOne]at h
  simp only[Ul,JA,Q3]
  cases hg:o.guard with
  |none=>rw[hg]at h;exact sHOp_G ih h
  |some q=>
   rw[hg]at h
   simp only at h ⊢
   cases hv:isVal (kind P o.op)with
   |true=>rw[hv]at h;exact K8 (fun v=>UF fun f=>ih _ f _) h
   |false=>rw[hv]at h;exact sGuard_mono (sHOp_G ih) (UF fun f=>ih _ f _) h
theorem sHead_run(b:Nat)(V0:Nat→Value)(N0:Nat→List (Option Blk)){P:Program}{n:Nat}{ops:Array Oper}{m₀:Mem}{a₀:List Value}{q:Nat}{K:AL→Mem→Prop}(hq:Xy ops q=true)(hqs:q≤ops.size):
 ∀(l:List Oper)(k:Nat)(vs:List Value)(Ns:List (List (Option Blk)))(al:Bool)(f:AL)(M:Mem),(∀j,l[j]?=if k+j<q then ops[k+j]? else none)→k≤q→vs.length=k→Ns.length=k→
  Knows n f (Jd ops (JZ vs) allS a₀ k)→M=Js m₀ (JL Ns) allS k→(al=false→∀j,JL Ns j=[])→(∀j,j<k→(JL Ns j).all ZK=true)→
  (∀i o,b≤i→i<k→ops[i]?=some o→DOp P ops a₀ m₀ (JZ vs) (JL Ns) i o)→(∀i o,b≤i→i<k→ops[i]?=some o→kind P o.op=.val→o.guard=none→JD P o.op (Ud ops a₀ (JZ vs) i) (Xc ops m₀ (JL Ns) i)=some (JZ vs i,Xc ops m₀ (JL Ns) i)∧JL Ns i=[])→b≤k→(∀j,j<b→JZ vs j=V0 j∧JL Ns j=N0 j)→sHead P n ops.toList m₀ K al l f M→
  ∃vs' Ns' f',Knows n f' (Jd ops (JZ vs') allS a₀ q)∧K f' (Js m₀ (JL Ns') allS q)∧(∀j,j<q→(JL Ns' j).all ZK=true)∧(∀i o,b≤i→i<q→ops[i]?=some o→DOp P ops a₀ m₀ (JZ vs') (JL Ns') i o)∧(∀i o,b≤i→i<q→ops[i]?=some o→kind P o.op=.val→o.guard=none→JD P o.op (Ud ops a₀ (JZ vs') i) (Xc ops m₀ (JL Ns') i)=some (JZ vs' i,Xc ops m₀ (JL Ns') i)∧JL Ns' i=[])∧(∀j,j<b→JZ vs' j=V0 j∧JL Ns' j=N0 j):=fun l k vs Ns al f M g1 g2 g3 g4 g5 g6 g7 g8 g9 g10 g11 g12 h=>sHead_runG b V0 N0 hq hqs l k vs Ns al f M g1 g2 g3 g4 g5 g6 g7 g8 g9 g10 g11 g12 (sHead_G l al f M h)
theorem Z7{P:Program}{n:Nat}{Q:Exit→AL→Mem→Prop}{f:AL}{m:Mem}{id:Nat}{ops:Array Oper}(hmix:P.follows .mixedOrders=true)(q:Nat)(hq:Ql ops q=true)(hqs:Nat.ble q ops.size=true)
 (h:sHead P n ops.toList m (fun f' M=>sOps P n ops.toList (Q .normal) (ops.toList.drop q) f' M) false (ops.toList.take q) f m):SW P n (.region id ops true) Q f m:=by
 intro a U
 have hqs:=qh hqs
 obtain⟨vs,I,f',E,h2,Y,O,_⟩:=sHead_run 0 (fun _=>undef) (fun _=>[]) (a₀:=a) (m₀:=m) (QZ hq) hqs (ops.toList.take q) 0 [] [] false f m (fun j=>by rw[qf,qd,qB]) (by omega) rfl rfl U (by simp[Js,Q8])
  (fun _ j=>by simp[JL]) (fun j hj=>by omega) (fun i o _ hi=>by omega) (fun i o _ hi=>by omega) (qH _) (fun j hj=>by omega) h
 exact AW_draw hmix q hq hqs (JZ vs) (JL I) (fun i o hi ho=>O i o (qk _) hi ho) (Ve (fun f m a E h2=>⟨f,E,h2⟩) _ f' _ _ E h2)
theorem SW_draw2{P:Program}{n:Nat}{Q:Exit→AL→Mem→Prop}{f:AL}{m:Mem}{id:Nat}{ops:Array Oper}(hmix:P.follows .mixedOrders=true)(q:Nat)(hq:drawOK2 ops q=true)
 (h:sHead P n ops.toList m (fun f' M=>sOps P n ops.toList (Q .normal) (ops.toList.drop q) f' M) false (ops.toList.take q) f m):SW P n (.region id ops true) Q f m:=by
 intro a ha
 obtain⟨E,U,_⟩:=drawOK2_spec hq
 obtain⟨vs,O,f',I,h2,h3,Y,Z,_⟩:=sHead_run 0 (fun _=>undef) (fun _=>[]) (a₀:=a) (m₀:=m) (Zj (QZ E)) (by omega) (ops.toList.take q) 0 [] [] false f m (fun j=>by rw[qf,qd,qB]) (by omega) rfl rfl ha (by simp[Js,Q8])
  (fun _ j=>by simp[JL]) (fun j hj=>by omega) (fun i o _ hi=>by omega) (fun i o _ hi=>by omega) (qH _) (fun j hj=>by omega) h
 exact AW_draw2 hmix q hq (JZ vs) (JL O) (fun i o hi ho=>Y i o (qk _) hi ho) (fun i o hi ho hs hg=>Z i o (qk _) hi ho (still_kind hs) hg) (Ve (fun f m a I h2=>⟨f,I,h2⟩) _ f' _ _ I h2)
def Zy(P:Program)(all:List Oper)(f:AL)(m0 m':Mem):List Nat→Prop
 | []=>True
 |j::r=>(∃x,(all[j]?).bind (fun o=>sVal P (AL.look f) m0.get o.op)=some x∧(all[j]?).bind (fun o=>sVal P (AL.look f) m'.get o.op)=some x)∧Zy P all f m0 m' r
theorem idleOK_spec{P:Program}{all:List Oper}{f:AL}{m0 m':Mem}:∀{J:List Nat},Zy P all f m0 m' J→∀j,J.contains j=true→∀o,all[j]?=some o→∃x,sVal P (AL.look f) m0.get o.op=some x∧sVal P (AL.look f) m'.get o.op=some x
 | [],_,j,hj,_,_=>by simp at hj
 |k::r,h,j,hj,o,ho=>by
  obtain⟨⟨x,h1,h2⟩,h3⟩:=h
  by_cases e:j=k
  ·subst e
   rw[ho]at h1 h2
   exact⟨x,h1,h2⟩
  ·refine idleOK_spec h3 j ?_ o ho
   simpa[e]using hj
def V8(P:Program)(ops:Array Oper)(q:Nat)(J:List Nat):Bool:=
 Ql ops (q+1)&&Nat.blt q ops.size&&(qq q).all (fun j=>B ops q j||(J.contains j&&match ops[j]? with
  |some o=>isVal (kind P o.op)&&o.guard.isNone&&(qq q).all fun k=>Nat.blt k j||match(ops[k]?).bind (·.dst)with
   |some t=> !(o.looksAt ops).contains t
   |none=>true
  |none=>false))&&match ops[q]? with
  |some o=>o.guard.isNone
  |none=>false
theorem SW_draw4{P:Program}{n:Nat}{Q:Exit→AL→Mem→Prop}{f:AL}{m:Mem}{id:Nat}{ops:Array Oper}(hmix:P.follows .mixedOrders=true)(q:Nat)(J:List Nat)(hq:V8 P ops q J=true){oq:Oper}(hoq:ops[q]?=some oq)
 (h:sHead P n ops.toList m (fun f' M=>@QT _ (sMem P (AL.look f') M oq.op) ⟨fun p=>Zy P ops.toList f' m p.2 J∧@sPut n oq.dst p.1 f' ⟨fun f''=>sOps P n ops.toList (Q .normal) (ops.toList.drop (q+1)) f'' p.2⟩⟩) false (ops.toList.take q) f m):SW P n (.region id ops true) Q f m:=by
 intro a ha
 simp only[V8,qe]at hq
 obtain⟨⟨⟨Y,Z⟩,U⟩,I⟩:=hq
 have Z:=qh Z
 rw[hoq]at I
 have I:oq.guard=none:=by simpa using I
 obtain⟨vs,Ns,f',E,h2,h3,h4,h5,_⟩:=sHead_run 0 (fun _=>undef) (fun _=>[]) (a₀:=a) (m₀:=m) (Zj (QZ Y)) (by omega) (ops.toList.take q) 0 [] [] false f m (fun j=>by rw[qf,qd,qB]) (by omega) rfl rfl ha (by simp[Js,Q8])
  (fun _ j=>by simp[JL]) (fun j hj=>by omega) (fun i o _ hi=>by omega) (fun i o _ hi=>by omega) (qH _) (fun j hj=>by omega) h
 obtain⟨⟨vq,M'⟩,g1,g2,g3⟩:=Qe h2
 obtain⟨f'',g4,g5⟩:=QS g3 E
 have a8:Xr ops (befM ops.toList) q=true:=by
  have:=Zj (QZ Y)
  simp only[Xy,qe]at this
  exact this.2
 refine AW_draw4 hmix q Y Z hoq I (JZ vs) (JL Ns) (fun i o hi ho=>h4 i o (qk _) hi ho) (fun i o hi ho hb=>?_) (sMem_spec E.look g1) (Ve (fun f m a E h2=>⟨f,E,h2⟩) _ f'' _ _ g4 g5)
 have O:=qi.1 U i (qG.2 hi)
 rw[hb,ho]at O
 simp only[Bool.false_or,qe,Option.isNone_iff_eq_none]at O
 obtain⟨hJ,⟨hk,hg⟩,ab⟩:=O
 have ac:kind P o.op=.val:=by cases hkk:kind P o.op<;>rw[hkk]at hk<;>first|rfl|cases hk
 obtain⟨e1,e2⟩:=h5 i o (qk _) hi ho ac hg
 obtain⟨x,x1,x2⟩:=idleOK_spec g2 i hJ o (by simpa using ho)
 have a6:∀t,t∈o.looksAt ops→(Ud ops a (JZ vs) i)[t]?=(Jd ops (JZ vs) allS a q)[t]?:=fun t ht=>by
  rw[slot_all a8 hi (by omega) ho ht]
  have E:(Jd ops (JZ vs) allS a q)[t]?=(Jd ops (JZ vs) (fun k=>decide (k<i)) a q)[t]?:=Q6 t q fun k hk hdst=>by
   by_cases hki:k<i
   ·simp[allS,hki]
   ·exfalso
    have:=qi.1 ab k (qG.2 hk)
    rw[Bool.or_eq_true]at this
    rcases this with h2|h2
    ·have:=qh h2;omega
    ·rw[hdst]at h2
     simp only[Bool.not_eq_true']at h2
     have:=List.contains_iff_mem.2 ht
     rw[this]at h2;cases h2
  rw[E,ZA (i:=i) q (by omega) (fun k E _=>by simp;omega)]
  exact Q6 t i fun k hk _=>by simp[allS,hk]
 have v1:JD P o.op (Ud ops a (JZ vs) i) (Xc ops m (JL Ns) i)=some (x,Xc ops m (JL Ns) i):=by
  rw[Zd P o.op _ (US a6)]
  exact Zf (P:=P) E.look (fun b y hb=>(QX _ _ _ _).2 (.inl ⟨Mem.get_lt hb,hb⟩)) x1
 have v2:JD P o.op (Ud ops a (JZ vs) i) M'=some (x,M'):=by
  rw[Zd P o.op _ (US a6)]
  exact Zf (P:=P) E.look (fun _ _ h=>h) x2
 rw[e1]at v1
 have hx:JZ vs i=x:=by injection v1 with v1;injection v1
 exact⟨hg,by rw[hx];exact v2,e2⟩
theorem SW_draw6{P:Program}{n:Nat}{Q:Exit→AL→Mem→Prop}{f:AL}{m:Mem}{id:Nat}{ops:Array Oper}(hmix:P.follows .mixedOrders=true)(q:Nat)(J:List Nat)(hq:V8 P ops q J=true){oq:Oper}(hoq:ops[q]?=some oq)
 (h:sHead P n ops.toList m (fun f' M=>@QT _ (sCallee (AL.look f') oq.op) ⟨fun p=>Qg P p.1=true∧∃R,Spec P p.1 p.2 M R∧@Later ⟨∀u M',R u M'→Zy P ops.toList f' m M' J∧@sPut n oq.dst u f' ⟨fun f''=>sOps P n ops.toList (Q .normal) (ops.toList.drop (q+1)) f'' M'⟩⟩⟩) false (ops.toList.take q) f m):SW P n (.region id ops true) Q f m:=by
 intro a ha
 simp only[V8,qe]at hq
 obtain⟨⟨⟨Y,Z⟩,U⟩,I⟩:=hq
 have Z:=qh Z
 rw[hoq]at I
 have I:oq.guard=none:=by simpa using I
 obtain⟨vs,Ns,f',E,h2,h3,h4,h5,_⟩:=sHead_run 0 (fun _=>undef) (fun _=>[]) (a₀:=a) (m₀:=m) (Zj (QZ Y)) (by omega) (ops.toList.take q) 0 [] [] false f m (fun j=>by rw[qf,qd,qB]) (by omega) rfl rfl ha (by simp[Js,Q8])
  (fun _ j=>by simp[JL]) (fun j hj=>by omega) (fun i o _ hi=>by omega) (fun i o _ hi=>by omega) (qH _) (fun j hj=>by omega) h
 obtain⟨⟨c,xs⟩,g1,ge,R,gs,gR⟩:=Qe h2
 rw[sCallee_eq]at g1
 have aa:Xr ops (befM ops.toList) q=true:=by
  have:=Zj (QZ Y)
  simp only[Xy,qe]at this
  exact this.2
 have look:∀i o,i<q→ops[i]?=some o→B ops q i=false→o.guard=none∧JL Ns i=[]∧∀M',Zy P ops.toList f' m M' J→JD P o.op (Ud ops a (JZ vs) i) M'=some (JZ vs i,M'):=fun i o hi ho hb=>by
  have O:=qi.1 U i (qG.2 hi)
  rw[hb,ho]at O
  simp only[Bool.false_or,qe,Option.isNone_iff_eq_none]at O
  obtain⟨hJ,⟨hk,hg⟩,ac⟩:=O
  have ad:kind P o.op=.val:=by cases hkk:kind P o.op<;>rw[hkk]at hk<;>first|rfl|cases hk
  obtain⟨e1,e2⟩:=h5 i o (qk _) hi ho ad hg
  have a6:∀t,t∈o.looksAt ops→(Ud ops a (JZ vs) i)[t]?=(Jd ops (JZ vs) allS a q)[t]?:=fun t ht=>by
   rw[slot_all aa hi (by omega) ho ht]
   have E:(Jd ops (JZ vs) allS a q)[t]?=(Jd ops (JZ vs) (fun k=>decide (k<i)) a q)[t]?:=Q6 t q fun k hk hdst=>by
    by_cases hki:k<i
    ·simp[allS,hki]
    ·exfalso
     have:=qi.1 ac k (qG.2 hk)
     rw[Bool.or_eq_true]at this
     rcases this with h2|h2
     ·have:=qh h2;omega
     ·rw[hdst]at h2
      simp only[Bool.not_eq_true']at h2
      have:=List.contains_iff_mem.2 ht
      rw[this]at h2;cases h2
   rw[E,ZA (i:=i) q (by omega) (fun k E _=>by simp;omega)]
   exact Q6 t i fun k hk _=>by simp[allS,hk]
  refine⟨hg,e2,fun M' g2=>?_⟩
  obtain⟨x,x1,x2⟩:=idleOK_spec g2 i hJ o (by simpa using ho)
  have v1:JD P o.op (Ud ops a (JZ vs) i) (Xc ops m (JL Ns) i)=some (x,Xc ops m (JL Ns) i):=by
   rw[Zd P o.op _ (US a6)]
   exact Zf (P:=P) E.look (fun b y hb=>(QX _ _ _ _).2 (.inl ⟨Mem.get_lt hb,hb⟩)) x1
  have v2:JD P o.op (Ud ops a (JZ vs) i) M'=some (x,M'):=by
   rw[Zd P o.op _ (US a6)]
   exact Zf (P:=P) E.look (fun _ _ h=>h) x2
  rw[e1]at v1
  have hx:JZ vs i=x:=by injection v1 with v1;injection v1
  rw[hx];exact v2
 refine AW_draw6 hmix q Y Z hoq I (JZ vs) (JL Ns) (fun i o hi ho=>h4 i o (qk _) hi ho) (fun i o hi ho hb=>(look i o hi ho hb).2.1) (OpSim.call (Ks E.look g1) ge gs) (fun u M' hR=>?_)
 obtain⟨g2,g3⟩:=gR u M' hR
 obtain⟨f'',g4,g5⟩:=QS g3 E
 exact⟨fun i o hi ho hb=>.free (look i o hi ho hb).1 ((look i o hi ho hb).2.2 M' g2),Ve (fun f m a E h2=>⟨f,E,h2⟩) _ f'' _ _ g4 g5⟩
def phasesOK(ops:Array Oper):List (Nat×Nat)→Nat→Bool
 | [],b=>Nat.ble ops.size b
 |(q,b')::r,b=>phaseOK ops b q b'&&phasesOK ops r b'
def alOf:Nat→List Value→AL
 |_,[]=>[]
 |i,v::r=>(i,v)::alOf (i+1) r
theorem alOf_get:∀(l:List Value)(i t:Nat)(v:Value),AL.get (alOf i l) t=some v→i≤t∧l[t-i]?=some v
 | [],i,t,v,h=>by cases h
 |x::r,i,t,v,h=>by
  simp only[alOf,AL.get]at h
  split at h
  ·rename_i e;subst e;cases h;exact⟨qH _,by simp⟩
  ·rename_i e
   obtain⟨h1,h2⟩:=alOf_get r (i+1) t v h
   exact⟨by omega,by rw[show t-i=(t-(i+1))+1 by omega];exact h2⟩
def sAnswer(P:Program)(rs:List ResultVar)(f:AL)(m:Mem):Option Value:=match sRes P rs f m with
 |some [v]=>some v
 |some l=>some (.tuple l.toArray)
 |none=>none
where sRes (P:Program):List ResultVar→AL→Mem→Option (List Value)
 | [],_,_=>some []
 |.tmp t::r,f,m=>match AL.get f t with
  |some v=>match sRes P r f m with
   |some l=>some (v::l)
   |none=>none
  |none=>none
 |.cell p t::r,f,m=>match AL.get f p with
  |some q=>match UZ P m t q with
   |some v=>match sRes P r f m with
    |some l=>some (v::l)
    |none=>none
   |none=>none
  |none=>none
theorem VA{P:Program}{n:Nat}{f:AL}{a:List Value}{m:Mem}(ha:Knows n f a):∀(rs:List ResultVar)(l:List Value),sAnswer.sRes P rs f m=some l→U1 P a m rs=some l
 | [],l,h=>h
 |.tmp t::r,l,h=>by
  unfold sAnswer.sRes at h
  split at h<;>first|(cases h;done)|skip
  rename_i v hv
  split at h<;>first|(cases h;done)|skip
  rename_i l' hl
  cases h
  simp only[U1,aResult,ha.2 t v hv,VA ha r l' hl]
 |.cell p t::r,l,h=>by
  unfold sAnswer.sRes at h
  split at h<;>first|(cases h;done)|skip
  rename_i q hq
  split at h<;>first|(cases h;done)|skip
  rename_i v hv
  split at h<;>first|(cases h;done)|skip
  rename_i l' hl
  cases h
  simp only[U1,aResult,ha.2 p q hq,hv,VA ha r l' hl]
def sEnd(P:Program)(rs:List ResultVar)(R:Value→Mem→Prop):Exit→AL→Mem→Prop
 |.ret,f,m=>@QT _ (sAnswer P rs f m) ⟨fun v=>R v m⟩
 |.normal,f,m=>@QT _ (sAnswer P rs f m) ⟨fun v=>R v m⟩
 |_,_,_=>False
end
theorem Spec.walk{P:Program}{k:FuncId}{fn:Func}{c:Code}{xs:List Value}{m:Mem}{R:Value→Mem→Prop}(hf:P.funcs[k]?=some fn)(hb:fn.body=some c)(rs:Array ResultVar)(hr:fn.results=rs)(n:Nat)(hn:fn.ntmps=n)(hx:xs.length≤n)
 (h:SW P n c (sEnd P rs.toList R) (alOf 0 xs) m):Spec P k xs m R:=by
 subst hr;subst hn
 refine Spec.of hf hb ((h (ZY fn xs) ⟨by simp[ZY];omega,fun t v hv=>?_⟩).mono ?_)
 ·obtain⟨_,h2⟩:=alOf_get xs 0 t v hv
  unfold ZY
  rw[qm,if_pos]
  ·exact h2
  ·exact(qo.1 h2).1
 ·rintro e Z m' ⟨Y,I,h2⟩
  have E:∀v,sAnswer P fn.results.toList Y m'=some v→ZJ P fn.results.toList Z m'=some v:=fun v hv=>by
   unfold sAnswer at hv
   unfold ZJ
   split at hv<;>first|(cases hv;done)|skip
   ·rename_i v0 hv0;cases hv;simp only[VA I _ _ hv0]
   ·rename_i l hne hl
    cases hv
    simp only[VA I _ _ hl]
  cases e<;>simp only[sEnd]at h2<;>first|exact h2.elim|skip
  all_goals
   obtain⟨v,O,U⟩:=Qe h2
   exact⟨by simp,v,E v O,U⟩
theorem Spec.of_below{P:Program}{k:FuncId}{xs:List Value}{m:Mem}{v:Value}(hv:flat 3 v=true)(h:∀(ι:Nat→Loc)(w:World)(ys:List Value),VRels m.Has ι xs ys→Rel ι m w→Calls P k ys.toArray w fun e w'=>e=.returned v∧Below w.heap.size w w'):
 Spec P k xs m fun u m'=>u=v∧m'=m:=by
 intro ι w ys I E
 refine(h ι w ys I E).mono ?_
 rintro e w' ⟨rfl,hb⟩
 refine⟨v,v,ι,m,⟨rfl,rfl⟩,rfl,Qu 3 v hv,E.same hb.block,⟨hb.os,hb.tape,hb.output,hb.size,fun b h=>h,fun _ _=>rfl,fun g hg _=>hb.block g hg,fun b hb=>.inr ⟨b,hb,rfl⟩⟩⟩
theorem VY{n:Nat→Prop}{ι:Nat→Loc}{xs ys:List Value}(hx:∀x∈xs,flat 3 x=true)(h:VRels n ι xs ys):ys=xs:=by
 apply List.ext_getElem?
 intro i
 cases hxi:xs[i]? with
 |none=>
  rw[List.getElem?_eq_none_iff]at hxi ⊢
  have:=h.1;omega
 |some x=>
  obtain⟨y,I,E⟩:=h.get hxi
  rw[I,Vt 3 x y (hx x (qC hxi)) E]
theorem Spec.of_flat{P:Program}{k:FuncId}{xs:List Value}{m:Mem}{v:Value}(hx:∀x∈xs,flat 3 x=true)(hv:flat 3 v=true)(h:∀w,Calls P k xs.toArray w fun e w'=>e=.returned v∧Below w.heap.size w w'):
 Spec P k xs m fun u m'=>u=v∧m'=m:=
 Spec.of_below hv fun ι w ys hy _=>by rw[VY hx hy];exact h w
theorem Calls.of_flat{P:Program}{k:FuncId}{xs:List Value}{R:Value→Mem→Prop}(hx:∀x∈xs,flat 3 x=true)(h:Spec P k xs ⟨[]⟩ R)(w:World)(hg:GlobK w:=by trivial):
 Calls P k xs.toArray w fun e w'=>∃v v' κ m',R v m'∧e=.returned v'∧VRel m'.Has κ v v'∧Rel κ m' w'∧Below w.heap.size w w':=by
 refine(h (fun _=>⟨0,0,0,0⟩) w xs ⟨rfl,fun i x y h1 h2=>?_⟩ ⟨fun b ro s cs hb=>?_,fun b x hb=>?_,fun b b' hb=>?_,⟨hg,fun b ⟨y,hb,_⟩=>?_⟩⟩).mono ?_
 ·rw[h1]at h2;cases h2
  exact Qu 3 x (hx x (qC h1))
 ·have:=Mem.get_lt hb;simp[Mem.size]at this
 ·have:=Mem.get_lt hb;simp[Mem.size]at this
 ·obtain⟨x,hx⟩:=Option.ne_none_iff_exists'.1 hb
  have:=Mem.get_lt hx;simp[Mem.size]at this
 ·have:=Mem.get_lt hb;simp[Mem.size]at this
 ·rintro e w' ⟨v,v',κ,m',I,rfl,O,E,hs⟩
  refine⟨v,v',κ,m',I,rfl,O,E,hs.os,hs.tape,hs.output,hs.size,fun g hg=>hs.block g hg fun b ⟨y,hb,_⟩=>?_⟩
  have:=Mem.get_lt hb;simp[Mem.size]at this
theorem Calls.of_flat_val{P:Program}{k:FuncId}{xs:List Value}{v:Value}(hx:∀x∈xs,flat 3 x=true)(hv:flat 3 v=true)(h:Spec P k xs ⟨[]⟩ fun u _=>u=v)(w:World)(hg:GlobK w:=by trivial):
 Calls P k xs.toArray w fun e w'=>e=.returned v∧Below w.heap.size w w':=by
 refine(Calls.of_flat hx h w hg).mono ?_
 rintro e w' ⟨u,v',κ,m',rfl,rfl,E,_,hb⟩
 exact⟨by rw[←Vt 3 _ _ hv E],hb⟩
end Go.Proofs.YthohbneadomgdaaGreatDoor.Abs
namespace Go.Proofs.YthohbneadomgdaaGreatDoor.Abs
open Go Go.RowKit Go.ChangeShapes Go.WideShapes
inductive ARep(P:Program)(m:Mem)(B:Nat):TypeId→List Value→Prop
 |bool {t:TypeId} (h:P.underlying t=some .bool) (b:Bool):ARep P m B t [.bool b]
 |int {t:TypeId} {k:IntKind} (h:P.underlying t=some (.int k)) (n:Int) (hw:(Lit.int k n).wf=true):ARep P m B t [.int k n]
 |string {t:TypeId} (h:P.underlying t=some .string) (s:ByteArray) (hs:s.size≤B):ARep P m B t [.string s]
 |nil {t e:TypeId} (h:P.underlying t=some (.slice e)):ARep P m B t [.slice none 0 0]
 |empty {t e:TypeId} (h:P.underlying t=some (.slice e)) (b cap:Nat) (hb:m.Has b) (hc:cap≤maxLen) (hB:cap≤B∧cap*P.bytesOf e≤reachBytes):ARep P m B t [.slice (some ⟨b,0,none⟩) 0 cap]
 |slice {t e:TypeId} (h:P.underlying t=some (.slice e)) (b len cap:Nat) (all:List Value) (hb:m.get b=some (.cells true (P.cellsOf e) all)) (hl:all.length=len*P.cellsOf e) (hlc:len≤cap) (hc:cap≤maxLen) (hB:cap≤B∧cap*P.bytesOf e≤reachBytes)
  (hx:∀i,i<len→ARep P m B e ((all.drop (i*P.cellsOf e)).take (P.cellsOf e))):ARep P m B t [.slice (some ⟨b,0,none⟩) len cap]
 |struct {t:TypeId} {fs:Array Field} (h:P.underlying t=some (.struct fs)) (cs:List Value) (hl:cs.length=P.cellsOf t) (hx:∀f∈fs.toList,ARep P m B f.type ((cs.drop f.offset).take (P.cellsOf f.type))):ARep P m B t cs
 |array {t e:TypeId} {n:Nat} (h:P.underlying t=some (.array n e)) (cs:List Value) (hl:cs.length=P.cellsOf t) (hx:∀i,i<n→ARep P m B e ((cs.drop (i*P.cellsOf e)).take (P.cellsOf e))):ARep P m B t cs
theorem ARep.mono{P:Program}{m m':Mem}{B:Nat}{t:TypeId}{cs:List Value}(h:ARep P m B t cs)(hh:∀b,m.Has b→m'.Has b)(hg:∀b x,m.get b=some x→m'.get b=some x):ARep P m' B t cs:=by
 induction h with
 |bool h b=>exact .bool h b
 |int h n hw=>exact .int h n hw
 |string h s hs=>exact .string h s hs
 |nil h=>exact .nil h
 |empty h b cap hb hc hB=>exact .empty h b cap (hh b hb) hc hB
 |slice h b len cap all hb hl hlc hc hB _ ih=>exact .slice h b len cap all (hg _ _ hb) hl hlc hc hB ih
 |struct h cs hl _ ih=>exact .struct h cs hl ih
 |array h cs hl _ ih=>exact .array h cs hl ih
structure Lifted(ι:Nat→Loc)(m:Mem)(w:World):Prop where
 rel:Rel ι m w
 ro:∀b,¬m.Own b
structure Lifts(ι:Nat→Loc)(m:Mem)(κ:Nat→Loc)(m':Mem):Prop where
 has:∀b,m.Has b→m'.Has b
 at_:∀b,m.Has b→κ b=ι b
 get:∀b x,m.get b=some x→m'.get b=some x
theorem Lifts.refl(ι:Nat→Loc)(m:Mem):Lifts ι m ι m:=⟨fun _ h=>h,fun _ _=>rfl,fun _ _ h=>h⟩
theorem Lifts.trans{ι κ μ:Nat→Loc}{m m' m'':Mem}(h:Lifts ι m κ m')(k:Lifts κ m' μ m''):Lifts ι m μ m'':=
 ⟨fun b hb=>k.has b (h.has b hb),fun b hb=>(k.at_ b (h.has b hb)).trans (h.at_ b hb),fun b x hb=>k.get b x (h.get b x hb)⟩
theorem Lifts.rels{ι κ:Nat→Loc}{m m':Mem}(h:Lifts ι m κ m'){xs ys:List Value}(hr:VRels m.Has ι xs ys):VRels m'.Has κ xs ys:=hr.mono h.has h.at_
theorem Lifted.nil(w:World)(hg:GlobK w):Lifted (fun _=>⟨0,0,0,0⟩) ⟨[]⟩ w:=
 ⟨⟨fun b ro s cs hb=>by have:=Mem.get_lt hb;simp[Mem.size]at this,fun b x hb=>by have:=Mem.get_lt hb;simp[Mem.size]at this,fun b b' hb=>by
   obtain⟨x,hx⟩:=Option.ne_none_iff_exists'.1 hb
   have:=Mem.get_lt hx;simp[Mem.size]at this,⟨hg,fun b ⟨y,hb,_⟩=>by have:=Mem.get_lt hb;simp[Mem.size]at this⟩⟩,fun b ⟨y,hb,_⟩=>by have:=Mem.get_lt hb;simp[Mem.size]at this⟩
def XE(m:Mem):Mem:=⟨m.blks++[some none]⟩
theorem UO{m:Mem}{b:Nat}{x:Blk}(h:(XE m).get b=some x):m.get b=some x:=by
 have E:=Mem.get_some h
 unfold XE at E
 simp only[qm]at E
 split at E
 ·unfold Mem.get;rw[E]
 ·rename_i hb
  cases hk:b-m.blks.length with
  |zero=>rw[hk]at E;simp at E
  |succ k=>rw[hk]at E;simp at E
theorem has_dead{m:Mem}{b:Nat}(h:m.Has b):(XE m).Has b:=by
 obtain⟨o,E⟩:=h
 have hl:=(qo.1 E).1
 exact⟨o,by unfold XE;rw[qm,if_pos hl];exact E⟩
theorem Kn(m:Mem):(XE m).Has m.size:=⟨none,by simp[XE,Mem.size]⟩
theorem dead_get{m:Mem}{b:Nat}{x:Blk}(h:m.get b=some x):(XE m).get b=some x:=by
 have E:=Mem.get_some h
 have hl:=(qo.1 E).1
 unfold Mem.get XE
 rw[qm,if_pos hl,E]
theorem Lifted.dead{ι:Nat→Loc}{m:Mem}{w:World}(h:Lifted ι m w)(l:Loc):Lifted (Qh ι m.size l) (XE m) w∧Lifts ι m (Qh ι m.size l) (XE m):=by
 have E:∀b,m.Has b→Qh ι m.size l b=ι b:=fun b hb=>Jz l (Mem.has_lt hb)
 refine⟨⟨⟨fun b ro s cs hb=>?_,fun b x hb=>(by rw[E b (Mem.get_has (UO hb))];exact(h.rel.oth b x (UO hb)).mono (fun _=>has_dead) E),fun b b' _ ⟨y,hb',hy⟩ _=>absurd ⟨y,UO hb',hy⟩ (h.ro b'),⟨h.rel.glob.known,fun b ⟨y,hb,hy⟩=>absurd ⟨y,UO hb,hy⟩ (h.ro b)⟩⟩,fun b ⟨y,hb,hy⟩=>h.ro b ⟨y,UO hb,hy⟩⟩,⟨fun _=>has_dead,E,fun _ _=>dead_get⟩⟩
 have I:=UO hb
 rw[E b (Mem.get_has I)]
 obtain⟨C,e,fz,U,h2,O,Y,h5,h6⟩:=h.rel.at' b ro s cs I
 exact⟨C,e,fz,U,h2,O,Y,fun i v hi=>by
  obtain⟨Z,v',h8,h9⟩:=h5 i v hi
  exact⟨Z,v',h8,h9.mono (fun _=>has_dead) E⟩,h6⟩
theorem Lifted.push{ι:Nat→Loc}{m:Mem}{w:World}(h:Lifted ι m w)(l:Loc)(cs:List Value)(C:Array Value)(e:TypeId)(fz:Nat×Nat)(hC:w.heap[l.blk]?=some (.cells C e fz))(hs:C.size=l.size)(hl:l.base+cs.length≤C.size)
 (hv:∀i v,cs[i]?=some v→v.oneCell'=true∧∃v',C[l.base+i]?=some v'∧VRel m.Has ι v v') (hst:TagAt l.base l.stride e C.size cs.length):Lifted (Qh ι m.size l) (m.push (.cells true l.stride cs)) w∧Lifts ι m (Qh ι m.size l) (m.push (.cells true l.stride cs)):=by
 have I:∀b,m.Has b→Qh ι m.size l b=ι b:=fun b hb=>Jz l (Mem.has_lt hb)
 have E:∀b,¬(m.push (.cells true l.stride cs)).Own b:=by
  rintro b ⟨y,hb,hy⟩
  rcases Mem.get_push hb with⟨_,O⟩|⟨_,hx⟩
  ·exact h.ro b ⟨y,O,hy⟩
  ·cases hx;cases hy
 have mono:∀{v v':Value},VRel m.Has ι v v'→VRel (m.push (.cells true l.stride cs)).Has (Qh ι m.size l) v v':=fun hv=>hv.mono (fun _ hb=>Mem.has_push _ hb) I
 refine⟨⟨⟨fun b ro s cs' hb=>?_,fun b x hb=>(by
  rcases Mem.get_push hb with⟨Z,O⟩|⟨rfl,hx⟩
  ·rw[I b (Mem.get_has O)]
   exact(h.rel.oth b x O).mono (fun _ hb=>Mem.has_push _ hb) I
  ·cases hx;trivial),fun b b' _ hb' _=>absurd hb' (E b'),⟨h.rel.glob.known,fun b hb=>absurd hb (E b)⟩⟩,E⟩,⟨fun _ hb=>Mem.has_push _ hb,I,fun b x hb=>by rw[Mem.get_push_old (Mem.get_lt hb)];exact hb⟩⟩
 rcases Mem.get_push hb with⟨Z,O⟩|⟨rfl,hx⟩
 ·rw[I b (Mem.get_has O)]
  obtain⟨C,e,fz,h1,h2,h3,h4,h5,h6⟩:=h.rel.at' b ro s cs' O
  exact⟨C,e,fz,h1,h2,h3,h4,fun i v hi=>by
   obtain⟨U,v',Y,h9⟩:=h5 i v hi
   exact⟨U,v',Y,mono h9⟩,h6⟩
 ·cases hx
  rw[JU]
  exact⟨C,e,fz,hC,hs,⟨rfl,hst⟩,hl,fun i v hi=>by
   obtain⟨U,v',Y,h9⟩:=hv i v hi
   exact⟨U,v',Y,mono h9⟩,fun hf=>by cases hf⟩
def U5(P:Program):Nat→List Field→Option Nat
 |o,[]=>some o
 |o,f::r=>if f.offset=o then U5 P (o+P.cellsOf f.type) r else none
def XY(P:Program):Nat→TypeId→Bool
 |0,_=>false
 |d+1,t=>match P.underlying t with
  |some .bool=>true
  |some (.int _)=>true
  |some .string=>true
  |some (.slice e)=>decide (0<P.cellsOf e∧0<P.bytesOf e∧P.bytesOf e≤67108864)&&XY P d e
  |some (.struct fs)=>(U5 P 0 fs.toList==some (P.cellsOf t))&&fs.toList.all fun f=>XY P d f.type
  |some (.array n e)=>(n*P.cellsOf e==P.cellsOf t)&&XY P d e
  |_=>false
section
variable {H : Type} {enc : TypeId × Value → H} {P : Program} {B : Nat} {w : World} {base : Nat}
def V9(P:Program)(B:Nat)(w:World)(t:TypeId)(cs:List Value):Prop:=∀(ι:Nat→Loc)(m:Mem),Lifted ι m w→∃(κ:Nat→Loc)(m':Mem)(cs':List Value),Lifted κ m' w∧Lifts ι m κ m'∧ARep P m' B t cs'∧VRels m'.Has κ cs' cs∧∀v∈cs',v.oneCell'=true
theorem lift_many:∀(its:List (TypeId×List Value)),(∀x∈its,V9 P B w x.1 x.2)→∀(ι:Nat→Loc)(m:Mem),Lifted ι m w→∃(κ:Nat→Loc)(m':Mem)(css:List (List Value)),Lifted κ m' w∧Lifts ι m κ m'∧css.length=its.length∧
 (∀(i:Nat)(x:TypeId×List Value)(cs:List Value),its[i]?=some x→css[i]?=some cs→ARep P m' B x.1 cs∧cs.length=x.2.length)∧VRels m'.Has κ css.flatten (its.flatMap (·.2))∧∀v∈css.flatten,v.oneCell'=true
 | [],_,ι,m,hl=>⟨ι,m,[],hl,Lifts.refl ι m,rfl,fun i x cs h=>by simp at h,.nil,fun v hv=>by simp at hv⟩
 |x::r,h,ι,m,hl=>by
  obtain⟨κ,m1,cs,h1,h2,h3,h4,h5⟩:=h x (by simp) ι m hl
  obtain⟨μ,m2,css,g1,g2,g3,g4,g5,g6⟩:=lift_many r (fun y hy=>h y (by simp[hy])) κ m1 h1
  refine⟨μ,m2,cs::css,g1,h2.trans g2,by simp[g3],fun i y cs' hy hc=>?_,?_,?_⟩
  ·cases i with
   |zero=>
    simp at hy hc;subst hy;subst hc
    exact⟨h3.mono g2.has g2.get,h4.1⟩
   |succ i=>exact g4 i y cs' (by simpa using hy) (by simpa using hc)
  ·rw[List.flatten_cons,List.flatMap_cons]
   exact(g2.rels h4).append g5
  ·intro v hv
   rw[List.flatten_cons,qy]at hv
   rcases hv with hv|hv
   ·exact h5 v hv
   ·exact g6 v hv
theorem flatten_at:∀(css:List (List Value))(i:Nat)(cs:List Value),css[i]?=some cs→(css.flatten.drop (((css.take i).map List.length).sum)).take cs.length=cs
 | [],i,cs,h=>by simp at h
 |x::r,0,cs,h=>by simp at h;subst h;simp
 |x::r,i+1,cs,h=>by
  have:=flatten_at r i cs (by simpa using h)
  rw[List.flatten_cons,List.take_succ_cons,List.map_cons,List.sum_cons,List.drop_append, ]
  rw[List.drop_eq_nil_of_le (by omega),List.nil_append,Nat.add_sub_cancel_left]
  exact this
theorem tiles_at:∀(fs:List Field)(o n:Nat),U5 P o fs=some n→n=o+(fs.map fun f=>P.cellsOf f.type).sum∧∀i f,fs[i]?=some f→f.offset=o+((fs.take i).map fun f=>P.cellsOf f.type).sum
 | [],o,n,h=>by simp[U5]at h;subst h;exact⟨by simp,fun i f h=>by simp at h⟩
 |g::r,o,n,h=>by
  unfold U5 at h
  split at h
  ·rename_i hg
   obtain⟨h1,h2⟩:=tiles_at r _ n h
   refine⟨by rw[h1];simp;omega,fun i f hf=>?_⟩
   cases i with
   |zero=>simp at hf;subst hf;simp[hg]
   |succ i=>
    rw[h2 i f (by simpa using hf)]
    simp;omega
  ·cases h
theorem sum_const:∀(l:List Nat)(n:Nat),(∀x∈l,x=n)→l.sum=l.length*n
 | [],n,_=>by simp
 |x::r,n,h=>by
  rw[List.sum_cons,sum_const r n (fun y hy=>h y (by simp[hy])),h x (by simp),List.length_cons,qv]
  omega
theorem flatMap_stretch:∀(k n:Nat)(cs:List Value),cs.length=k*n→((qq k).flatMap fun i=>(cs.drop (i*n)).take n)=cs
 |0,n,cs,h=>by simp at h;simp[h]
 |k+1,n,cs,h=>by
  rw[List.range_succ,List.flatMap_append]
  have e:((qq k).flatMap fun i=>(cs.drop (i*n)).take n)=((qq k).flatMap fun i=>((cs.take (k*n)).drop (i*n)).take n):=by
   rw[List.flatMap_def,List.flatMap_def]
   congr 1
   refine List.map_congr_left fun i hi=>?_
   have hi:i<k:=by simpa using hi
   have:i*n+n≤k*n:=by
    have:=qD n (show i+1≤k by omega)
    rw[qv]at this;omega
   rw[List.drop_take,List.take_take,qE (by omega)]
  rw[e,flatMap_stretch k n (cs.take (k*n)) (by rw[qj,qE];rw[h,qv];omega)]
  rw[qv]at h
  simp only[List.flatMap_cons,List.flatMap_nil,qA]
  rw[List.take_of_length_le (l:=cs.drop (k*n)) (by rw[qx];omega),List.take_append_drop]
theorem tiles_stretch:∀(fs:List Field)(o n:Nat)(cs:List Value),U5 P o fs=some n→cs.length=n→(fs.flatMap fun f=>(cs.drop f.offset).take (P.cellsOf f.type))=cs.drop o
 | [],o,n,cs,h,hl=>by
   simp[U5]at h;subst h
   rw[List.drop_eq_nil_of_le (by omega)];rfl
 |g::r,o,n,cs,h,hl=>by
  unfold U5 at h
  split at h
  ·rename_i hg
   rw[List.flatMap_cons,tiles_stretch r _ n cs h hl,hg,←List.drop_drop]
   exact List.take_append_drop _ _
  ·cases h
theorem tiles_le:∀(fs:List Field)(o n:Nat),U5 P o fs=some n→o≤n
 | [],o,n,h=>by simp[U5]at h;omega
 |g::r,o,n,h=>by
  unfold U5 at h
  split at h
  ·have:=tiles_le r _ n h;omega
  ·cases h
theorem tiles_len:∀(fs:List Field)(o n:Nat)(cs:List Value),U5 P o fs=some n→cs.length=n→∀f∈fs,((cs.drop f.offset).take (P.cellsOf f.type)).length=P.cellsOf f.type
 | [],o,n,cs,h,hl,f,hf=>by simp at hf
 |g::r,o,n,cs,h,hl,f,hf=>by
  unfold U5 at h
  split at h
  ·rename_i hg
   have:=tiles_le r _ n h
   rcases List.mem_cons.1 hf with rfl|hf
   ·rw[qj,qx,hg];omega
   ·exact tiles_len r _ n cs h hl f hf
  ·cases h
theorem many_len(its:List (TypeId×List Value))(css:List (List Value))(h3:css.length=its.length){m:Mem}
 (h4:∀(i:Nat)(x:TypeId×List Value)(cs:List Value),its[i]?=some x→css[i]?=some cs→ARep P m B x.1 cs∧cs.length=x.2.length):css.map List.length=its.map fun x=>x.2.length:=by
 apply List.ext_getElem (by simp[h3])
 intro i E h2
 simp only[List.getElem_map]
 simp only[qF]at E h2
 exact(h4 i _ _ (qc h2) (qc E)).2
theorem lift_row(e:TypeId)(N len:Nat)(cs0:List Value)(hl:cs0.length=len*N)(h:∀i,i<len→V9 P B w e ((cs0.drop (i*N)).take N))(ι:Nat→Loc)(m:Mem)(hL:Lifted ι m w):
 ∃(κ:Nat→Loc)(m':Mem)(cs':List Value),Lifted κ m' w∧Lifts ι m κ m'∧cs'.length=len*N∧(∀i,i<len→ARep P m' B e ((cs'.drop (i*N)).take N))∧VRels m'.Has κ cs' cs0∧∀v∈cs',v.oneCell'=true:=by
 have Y:∀i,i<len→((cs0.drop (i*N)).take N).length=N:=by
  intro i hi
  have:=qD N (show i+1≤len by omega)
  rw[qv]at this
  rw[qj,qx];omega
 obtain⟨κ,m',E,g1,g2,g3,g4,U,g6⟩:=lift_many (P:=P) (B:=B) (w:=w) ((qq len).map fun i=>(e,(cs0.drop (i*N)).take N)) (by
  intro x hx
  obtain⟨i,hi,rfl⟩:=qp.1 hx
  exact h i (by simpa using hi)) ι m hL
 have O:((qq len).map fun i=>(e,(cs0.drop (i*N)).take N)).flatMap (·.2)=cs0:=by
  rw[List.flatMap_map]
  exact flatMap_stretch len N cs0 hl
 rw[O]at U
 have Z:=many_len _ E g3 g4
 have hN:∀k,k∈E.map List.length→k=N:=by
  intro k hk
  rw[Z,List.map_map]at hk
  obtain⟨i,hi,rfl⟩:=qp.1 hk
  exact Y i (by simpa using hi)
 refine⟨κ,m',E.flatten,g1,g2,by rw[U.1,hl],fun i hi=>?_,U,g6⟩
 have I:i<E.length:=by rw[g3];simpa using hi
 have h7:=flatten_at E i _ (qc I)
 rw[sum_const _ N (fun x hx=>hN x (by rw[List.map_take]at hx;exact List.mem_of_mem_take hx)),qF,qj,qE (by omega),hN E[i].length (qp.2 ⟨_,List.getElem_mem _,rfl⟩)]at h7
 rw[h7]
 exact(g4 i (e,(cs0.drop (i*N)).take N) E[i] (by simp[hi]) (qc I)).1
theorem lift_fields(t:TypeId)(fs:Array Field)(hu:P.underlying t=some (.struct fs))(ht:U5 P 0 fs.toList=some (P.cellsOf t))(cs0:List Value)(hl:cs0.length=P.cellsOf t)
 (h:∀f∈fs.toList,V9 P B w f.type ((cs0.drop f.offset).take (P.cellsOf f.type))):V9 P B w t cs0:=by
 intro ι m hL
 obtain⟨κ,m',E,g1,g2,g3,g4,g5,g6⟩:=lift_many (P:=P) (B:=B) (w:=w) (fs.toList.map fun f=>(f.type,(cs0.drop f.offset).take (P.cellsOf f.type))) (by
  intro x hx
  obtain⟨f,U,rfl⟩:=qp.1 hx
  exact h f U) ι m hL
 have Z:(fs.toList.map fun f=>(f.type,(cs0.drop f.offset).take (P.cellsOf f.type))).flatMap (·.2)=cs0:=by
  rw[List.flatMap_map]
  have:=tiles_stretch fs.toList 0 _ cs0 ht hl
  rw[List.drop_zero]at this
  exact this
 rw[Z]at g5
 have aa:=many_len _ E g3 g4
 have a8:E.map List.length=fs.toList.map fun f=>P.cellsOf f.type:=by
  rw[aa,List.map_map]
  exact List.map_congr_left fun f U=>tiles_len fs.toList 0 _ cs0 ht hl f U
 refine⟨κ,m',E.flatten,g1,g2,.struct hu _ (by rw[g5.1,hl]) fun f U=>?_,g5,g6⟩
 obtain⟨i,hi,O⟩:=List.getElem_of_mem U
 have I:i<E.length:=by rw[g3];simpa using hi
 have a2:=(tiles_at fs.toList 0 _ ht).2 i f (by rw[qc hi,O])
 have h7:=flatten_at E i _ (qc I)
 have Y:E[i].length=P.cellsOf f.type:=by
  have:=(g4 i (f.type,(cs0.drop f.offset).take (P.cellsOf f.type)) E[i] (by rw[qu,qc hi,O];rfl) (qc I)).2
  rw[this]
  exact tiles_len fs.toList 0 _ cs0 ht hl f U
 rw[List.map_take,a8,←List.map_take,←qB (List.sum _),←a2,Y]at h7
 rw[h7]
 exact(g4 i (f.type,(cs0.drop f.offset).take (P.cellsOf f.type)) E[i] (by rw[qu,qc hi,O];rfl) (qc I)).1
theorem lift_slice(t e:TypeId)(hu:P.underlying t=some (.slice e))(hN:0<P.cellsOf e)(a:Addr)(len cap:Nat)(hlc:len≤cap)(hc:cap≤maxLen)(hB:cap≤B∧cap*P.bytesOf e≤reachBytes)
 (h:∀i,i<len→∃cs,w.cells? base (a.add (i*P.cellsOf e)) (P.cellsOf e)=some cs∧V9 P B w e cs) (hsp:0<cap→a.spot=none):V9 P B w t [.slice (some a) len cap]:=by
 intro ι m hL
 obtain⟨b,E,sp⟩:=a
 by_cases h0:len=0
 ·subst h0
  obtain⟨g1,g2⟩:=hL.dead ⟨b,E,0,0⟩
  refine⟨_,_,[.slice (some ⟨m.size,0,none⟩) 0 cap],g1,g2,.empty hu _ _ (Kn m) hc hB,.cons ?_ .nil,fun v hv=>by simp at hv;subst hv;rfl⟩
  by_cases hc0:cap=0
  ·subst hc0
   exact .empty _ _ _ (Kn m)
  ·have hsp:=hsp (by omega)
   simp only at hsp
   subst hsp
   have:=VRel.slice (n:=(XE m).Has) (ι:=Qh ι m.size ⟨b,E,0,0⟩) m.size 0 0 cap cap (Kn m) (qk _) (.inl rfl)
   rw[JU]at this
   exact this
 ·obtain⟨N,Z⟩:∃N,N=P.cellsOf e:=⟨_,rfl⟩
  rw[←Z]at hN h
  have hsp:=hsp (by omega)
  simp only at hsp
  subst hsp
  have I:∀i,i<len→∃cs,w.cells? base (⟨b,E+i*N,none⟩:Addr) N=some cs∧V9 P B w e cs:=by
   intro i hi
   have:=h i hi
   rwa [Xs]at this
  obtain⟨af,aj,_⟩:=I 0 (by omega)
  obtain⟨aw,ak⟩:=cells?_get aj
  have U:=ak 0 af[0] (qc (by omega))
  rw[Xs]at U
  have ab:∃C e fz,w.heap[b]?=some (.cells C e fz):=by
   unfold World.cell? at U
   simp only at U
   split at U
   ·rename_i C e fz hC;exact⟨C,e,fz,hC⟩
   ·cases U
  obtain⟨C,eC,fz,hC⟩:=ab
  have a7:∀i,i<len→E+i*N+N≤C.size∧∀cs,w.cells? base (⟨b,E+i*N,none⟩:Addr) N=some cs→cs=((C.toList.drop E).drop (i*N)).take N:=by
   intro i hi
   obtain⟨cs,a2,_⟩:=I i hi
   obtain⟨hl,hg⟩:=cells?_get a2
   have aa:∀j,j<N→C[E+i*N+j]?=cs[j]?:=by
    intro j hj
    have:=hg j cs[j] (qc (by omega))
    rw[Xs,Qi hC]at this
    rw[this,qc]
   have O:=aa (N-1) (by omega)
   rw[qc (by omega)]at O
   have an:=(Array.getElem?_eq_some_iff.1 O).1
   refine⟨by omega,fun Y hcs'=>?_⟩
   rw[a2]at hcs'
   cases hcs'
   apply List.ext_getElem?
   intro j
   by_cases hj:j<N
   ·rw[←aa j hj,qf,if_pos hj,qJ,qJ,qd,Nat.add_assoc]
   ·rw[List.getElem?_eq_none (by omega),List.getElem?_eq_none (by rw[qj];omega)]
  have az:E+len*N≤C.size:=by
   have:=(a7 (len-1) (by omega)).1
   rw[Nat.sub_mul,Nat.one_mul]at this
   have h2:N≤len*N:=Nat.le_mul_of_pos_left _ (by omega)
   omega
  have ai:((C.toList.drop E).take (len*N)).length=len*N:=by rw[qj,qx,Array.length_toList];omega
  obtain⟨κ,m',Y,g1,g2,g3,g4,g5,g6⟩:=lift_row (P:=P) (B:=B) (w:=w) e N len ((C.toList.drop E).take (len*N)) ai (by
   intro i hi
   obtain⟨cs,a2,ae⟩:=I i hi
   have:=(a7 i hi).2 cs a2
   have h2:=qD N (show i+1≤len by omega)
   rw[qv]at h2
   rw[List.drop_take,List.take_take,qE (by omega),←this]
   exact ae) ι m hL
  have a6:Y.length=len*N:=g3
  obtain⟨k1,k2⟩:=g1.push ⟨b,E,C.size,N⟩ Y C eC fz hC rfl (by simp only;omega) (by
   intro i v hi
   refine⟨g6 v (qC hi),?_⟩
   obtain⟨y,hy,hr⟩:=g5.get hi
   rw[qf]at hy
   split at hy
   ·rw[qJ,qd]at hy;exact⟨y,hy,hr⟩
   ·cases hy) (.row len a6)
  refine⟨_,_,[.slice (some ⟨m'.size,0,none⟩) len cap],k1,g2.trans k2,.slice hu _ _ _ Y (by rw[←Z];exact Mem.get_push_new _ _) (by rw[←Z];exact a6) hlc hc hB (fun i hi=>?_),.cons ?_ .nil,fun v hv=>by simp at hv;subst hv;rfl⟩
  ·rw[←Z]
   exact(g4 i hi).mono k2.has k2.get
  ·have:=VRel.slice (n:=(m'.push (.cells true N Y)).Has) (ι:=Qh κ m'.size ⟨b,E,C.size,N⟩) m'.size 0 len cap cap (Mem.has_push_new _ _) hlc (.inl rfl)
   rw[JU]at this
   exact this
structure Closed(P:Program)(B:Nat)(K:TypeId→DataW H→Prop):Prop where
 str:∀t l,K t (.lit (.string l))→l.length≤B
 slice:∀t e es sp,P.underlying t=some (.slice e)→0<P.bytesOf e→P.bytesOf e≤67108864→K t (.slice es sp)→(es.length+sp.length≤B∧(es.length+sp.length)*P.bytesOf e≤reachBytes)∧∀d∈es,K e d
 struct:∀t fs ps,P.underlying t=some (.struct fs)→K t (.agg ps)→∀(i:Nat)(f:Field) d,fs[i]?=some f→ps[i]?=some d→K f.type d
 array:∀t n e ps,P.underlying t=some (.array n e)→K t (.agg ps)→∀d∈ps,K e d
theorem lift_one{K:TypeId→DataW H→Prop}(hK:Closed P B K):∀(fuel d:Nat)(t:TypeId)(cs:List Value)(x:DataW H×List MemPlace),XY P d t=true→DataW.trod enc P w base (fun _=>true) true fuel t cs=some x→K t x.1→V9 P B w t cs
 |0,_,_,_,_,_,h,_=>by simp[DataW.trod]at h
 |fuel+1,0,_,_,_,hd,_,_=>by simp[XY]at hd
 |fuel+1,d+1,t,cs,x,hd,h,hk=>by
  intro ι m hL
  unfold XY at hd
  have one:∀v,flat 3 v=true→v.oneCell'=true→ARep P m B t [v]→∃(κ:Nat→Loc)(m':Mem)(cs':List Value),Lifted κ m' w∧Lifts ι m κ m'∧ARep P m' B t cs'∧VRels m'.Has κ cs' [v]∧∀v∈cs',v.oneCell'=true:=fun v hf h1 hr=>
   ⟨ι,m,[v],hL,Lifts.refl ι m,hr,.cons (Qu 3 v hf) .nil,fun u hu=>by simp at hu;subst hu;exact h1⟩
  cases hu:P.underlying t with
  |none=>simp[hu]at hd
  |some ty=>
   simp only[hu]at hd
   cases ty<;>simp only[qI]at hd
   case bool=>
    simp only[DataW.trod,hu]at h
    split at h<;>simp_all
    exact one _ rfl rfl (.bool hu _)
   case int k=>
    simp only[DataW.trod,hu]at h
    split at h<;>simp_all
    rename_i h0
    obtain⟨⟨rfl,hw⟩,_⟩:=h
    cases h0
    exact one _ rfl rfl (.int hu _ hw)
   case string=>
    simp only[DataW.trod,hu]at h
    split at h<;>simp_all
    obtain⟨_,rfl⟩:=h
    have:=hK.str _ _ hk
    exact one _ rfl rfl (.string hu _ (by simpa using this))
   case slice e=>
    simp only[qe,decide_eq_true_eq]at hd
    simp only[DataW.trod,hu]at h
    match cs,h with
    | [.slice none 0 0],h=>exact one _ rfl rfl (.nil hu)
    | [.slice (some a) len cap],h=>
      simp only at h
      split at h
      ·rename_i hlc
       simp only[qt,qw,if_true]at h
       obtain⟨elems,h1,rest,h2,rfl⟩:=h
       obtain⟨hkB,hke⟩:=hK.slice _ _ _ _ hu hd.1.2.1 hd.1.2.2 hk
       have hat:∀i y,K e y.1→(w.cells? base (a.add (i*P.cellsOf e)) (P.cellsOf e)).bind (DataW.trod enc P w base (fun _=>true) true fuel e)=some y→∃cs,w.cells? base (a.add (i*P.cellsOf e)) (P.cellsOf e)=some cs∧V9 P B w e cs:=by
        intro i y Z hy
        rw[qt]at hy
        obtain⟨cs,E,Y⟩:=hy
        exact⟨cs,E,lift_one hK fuel d e cs y hd.2 Y Z⟩
       obtain⟨I,U⟩:=UL h1
       obtain⟨l2,k2⟩:=UL h2
       have O:∀i,i<len→∃cs,w.cells? base (a.add (i*P.cellsOf e)) (P.cellsOf e)=some cs∧V9 P B w e cs:=by
        intro i hi
        have:=U i (by simpa using hi)
        rw[qK,qc (by rw[I];simpa using hi)]at this
        exact hat i _ (hke _ (qp.2 ⟨_,List.getElem_mem _,rfl⟩)) this
       refine lift_slice t e hu hd.1.1 a len cap hlc.2.1 hlc.2.2 (by
        have e1:(elems.map (·.1)).length+(rest.map (·.1)).length=cap:=by
         rw[qF,qF,I,l2,List.length_range,List.length_range];omega
        rw[e1]at hkB
        exact hkB) O (fun hcap=>?_) ι m hL
       have:∃cs,w.cells? base (a.add (0*P.cellsOf e)) (P.cellsOf e)=some cs:=by
        by_cases h0:0<len
        ·obtain⟨cs,E,_⟩:=O 0 h0
         exact⟨cs,E⟩
        ·have:=k2 0 (by simp;omega)
         rw[qK,qc (by rw[l2];simp;omega)]at this
         rw[qt]at this
         obtain⟨cs,E,_⟩:=this
         have e0:len+0=0:=by omega
         rw[e0]at E
         exact⟨cs,E⟩
       obtain⟨cs,E⟩:=this
       obtain⟨hl,hg⟩:=cells?_get E
       have:=hg 0 cs[0] (qc (by omega))
       have:=World.cell?_spot this
       simpa[Addr.add]using this
      ·cases h
   case struct fs=>
    simp only[qe,beq_iff_eq,qi]at hd
    simp only[DataW.trod,hu]at h
    split at h
    ·rename_i hl
     simp only[qw]at h
     obtain⟨xs,h1,rfl⟩:=h
     obtain⟨I,U⟩:=UL h1
     refine lift_fields t fs hu hd.1 cs hl (fun f hf=>?_) ι m hL
     obtain⟨i,hi,rfl⟩:=List.getElem_of_mem hf
     have:=U i hi
     rw[qc (by rw[I];exact hi)]at this
     exact lift_one hK fuel d _ _ _ (hd.2 _ hf) this (hK.struct _ _ _ hu hk i _ _ (by rw[←qd,qc hi]) (by rw[qu,qc (by rw[I];exact hi)];rfl))
    ·cases h
   case array n e=>
    simp only[qe,beq_iff_eq]at hd
    simp only[DataW.trod,hu]at h
    split at h
    ·rename_i hl
     simp only[qw]at h
     obtain⟨xs,h1,rfl⟩:=h
     obtain⟨I,U⟩:=UL h1
     obtain⟨κ,m',cs',g1,g2,g3,g4,g5,g6⟩:=lift_row (P:=P) (B:=B) (w:=w) e (P.cellsOf e) n cs (by rw[hl,hd.1]) (fun i hi=>by
      have:=U i (by simpa using hi)
      rw[qK,qc (by rw[I];simpa using hi)]at this
      exact lift_one hK fuel d e _ _ hd.2 this (hK.array _ _ _ _ hu hk _ (qp.2 ⟨_,List.getElem_mem _,rfl⟩))) ι m hL
     exact⟨κ,m',cs',g1,g2,.array hu cs' (by rw[g3,hd.1]) g4,g5,g6⟩
    ·cases h
end
def ArgOf(P:Program)(m:Mem)(B:Nat)(t:TypeId)(v:Value):Prop:=
 match P.underlying t with
 |some (.struct _)|some (.array _ _)=>∃cs:List Value,v=.agg cs.toArray∧ARep P m B t cs
 |_=>ARep P m B t [v]
theorem ArgOf.mono{P:Program}{m m':Mem}{B:Nat}{t:TypeId}{v:Value}(h:ArgOf P m B t v)(hh:∀b,m.Has b→m'.Has b)(hg:∀b x,m.get b=some x→m'.get b=some x):ArgOf P m' B t v:=by
 unfold ArgOf at h ⊢
 split<;>rename_i hu<;>simp only[hu]at h
 ·obtain⟨cs,e,h⟩:=h;exact⟨cs,e,h.mono hh hg⟩
 ·obtain⟨cs,e,h⟩:=h;exact⟨cs,e,h.mono hh hg⟩
 ·exact h.mono hh hg
inductive ArgsOf(P:Program)(m:Mem)(B:Nat):List TypeId→List Value→Prop
 |nil:ArgsOf P m B [] []
 |cons {t:TypeId} {v:Value} {ts:List TypeId} {vs:List Value} (h:ArgOf P m B t v) (hs:ArgsOf P m B ts vs):ArgsOf P m B (t::ts) (v::vs)
theorem ArgsOf.mono{P:Program}{m m':Mem}{B:Nat}{ts:List TypeId}{vs:List Value}(h:ArgsOf P m B ts vs)(hh:∀b,m.Has b→m'.Has b)(hg:∀b x,m.get b=some x→m'.get b=some x):ArgsOf P m' B ts vs:=by
 induction h with
 |nil=>exact .nil
 |cons h _ ih=>exact .cons (h.mono hh hg) ih
theorem lift_arg{H:Type}{enc:TypeId×Value→H}{P:Program}{B:Nat}{K:TypeId→DataW H→Prop}(hK:Closed P B K){w:World}{base b2:Nat}{t:TypeId}{v:Value}{d:DataW H}{ps:List MemPlace}(hl:XY P 20 t=true)(hv:Value.okWide P w .any b2 t v)
 (h:DataW.Trod enc P w base (fun _=>true) true t v d ps) (hk:K t d) (ι:Nat→Loc) (m:Mem) (hL:Lifted ι m w):
 ∃(κ:Nat→Loc)(m':Mem)(v':Value),Lifted κ m' w∧Lifts ι m κ m'∧ArgOf P m' B t v'∧VRel m'.Has κ v' v:=by
 obtain⟨Z,h⟩:=h
 obtain⟨κ,m',U,g1,g2,g3,g4,g5⟩:=lift_one (enc:=enc) hK Z 20 t _ _ hl h hk ι m hL
 have O:(∃cs:Array Value,v=.agg cs)→((∃fs,P.underlying t=some (.struct fs))∨(∃n e,P.underlying t=some (.array n e)))→∃(κ:Nat→Loc)(m':Mem)(v':Value),Lifted κ m' w∧Lifts ι m κ m'∧ArgOf P m' B t v'∧VRel m'.Has κ v' v:=by
  rintro⟨cs,rfl⟩ ht
  refine⟨κ,m',.agg U.toArray,g1,g2,?_,VRel.aggs (by simpa[Value.cells]using g4)⟩
  unfold ArgOf
  rcases ht with⟨fs,E⟩|⟨n,e,E⟩<;>rw[E]<;>exact⟨U,rfl,g3⟩
 have I:v.cells.toList=[v]→(∀fs,P.underlying t≠some (.struct fs))→(∀n e,P.underlying t≠some (.array n e))→∃(κ:Nat→Loc)(m':Mem)(v':Value),Lifted κ m' w∧Lifts ι m κ m'∧ArgOf P m' B t v'∧VRel m'.Has κ v' v:=by
  intro hc h1 h2
  rw[hc]at g4
  have Y:=g4.1
  match U,Y with
  | [u],_=>
    refine⟨κ,m',u,g1,g2,?_,g4.2 0 u v rfl rfl⟩
    unfold ArgOf
    split
    ·rename_i fs E;exact absurd E (h1 fs)
    ·rename_i n e E;exact absurd E (h2 n e)
    ·exact g3
 unfold XY at hl
 unfold Value.okWide at hv
 cases E:P.underlying t with
 |none=>simp[E]at hl
 |some ty=>
  simp only[E]at hl hv
  cases ty<;>simp only[qI]at hl
  case bool=>
   refine I ?_ (by simp[E]) (by simp[E])
   unfold Cell.okWide at hv
   simp only[E]at hv
   unfold Cell.ok at hv
   simp only[E]at hv
   cases v<;>simp_all[Value.cells]
  case int k=>
   refine I ?_ (by simp[E]) (by simp[E])
   unfold Cell.okWide at hv
   simp only[E]at hv
   unfold Cell.ok at hv
   simp only[E]at hv
   cases v<;>simp_all[Value.cells]
  case string=>
   refine I ?_ (by simp[E]) (by simp[E])
   unfold Cell.okWide at hv
   simp only[E]at hv
   unfold Cell.ok at hv
   simp only[E]at hv
   cases v<;>simp_all[Value.cells]
  case slice e=>
   refine I ?_ (by simp[E]) (by simp[E])
   unfold Cell.okWide at hv
   simp only[E]at hv
   unfold Cell.ok at hv
   simp only[E]at hv
   cases v<;>simp_all[Value.cells]
  case struct fs=>
   obtain⟨cs,rfl,_⟩:=hv
   exact O ⟨cs,rfl⟩ (.inl ⟨fs,E⟩)
  case array n e=>
   obtain⟨cs,rfl,_⟩:=hv
   exact O ⟨cs,rfl⟩ (.inr ⟨n,e,E⟩)
theorem lift_args{H:Type}{enc:TypeId×Value→H}{P:Program}{B:Nat}{K:TypeId→DataW H→Prop}(hK:Closed P B K){w:World}{base b2:Nat}:∀(ts:List TypeId)(vs:List Value)(ds:List (DataW H))(ps:List MemPlace),(∀t∈ts,XY P 20 t=true)→
 (∀(j:Nat) t v,ts[j]?=some t→vs[j]?=some v→Value.okWide P w .any b2 t v)→DataW.TrodAll enc P w base (fun _=>true) true ts vs ds ps→(∀(j:Nat) t d,ts[j]?=some t→ds[j]?=some d→K t d)→∀(ι:Nat→Loc)(m:Mem),Lifted ι m w→
 ∃(κ:Nat→Loc)(m':Mem)(vs':List Value),Lifted κ m' w∧Lifts ι m κ m'∧ArgsOf P m' B ts vs'∧VRels m'.Has κ vs' vs
 | [],[],[],_,_,_,_,_,ι,m,hL=>⟨ι,m,[],hL,Lifts.refl ι m,.nil,.nil⟩
 |t::ts,v::vs,d::ds,_,hl,hv,h,hk,ι,m,hL=>by
  obtain⟨p,q,h1,h2,rfl⟩:=h
  obtain⟨κ,m1,vs',g1,g2,g3,g4⟩:=lift_args hK ts vs ds q (fun t ht=>hl t (by simp[ht])) (fun j t' v' hj1 hj2=>hv (j+1) t' v' (by simpa using hj1) (by simpa using hj2)) h2 (fun j t' d' hj1 hj2=>hk (j+1) t' d' (by simpa using hj1) (by simpa using hj2)) ι m hL
  obtain⟨μ,m2,v',k1,k2,k3,k4⟩:=lift_arg hK (hl t (by simp)) (hv 0 t v rfl rfl) h1 (hk 0 t d rfl rfl) κ m1 g1
  exact⟨μ,m2,v'::vs',k1,g2.trans k2,.cons k3 (g3.mono k2.has k2.get),.cons k4 (k2.rels g4)⟩
 | [],_::_,_,_,_,_,h,_,_,_,_=>by simp[DataW.TrodAll]at h
 | [],[],_::_,_,_,_,h,_,_,_,_=>by simp[DataW.TrodAll]at h
 |_::_,[],_,_,_,_,h,_,_,_,_=>by simp[DataW.TrodAll]at h
 |_::_,_::_,[],_,_,_,h,_,_,_,_=>by simp[DataW.TrodAll]at h
theorem Spec.calls{P:Program}{k:FuncId}{xs:List Value}{m:Mem}{v:Value}(hf:flat 3 v=true)(h:Spec P k xs m fun u _=>u=v){ι:Nat→Loc}{w:World}(hL:Lifted ι m w){ys:List Value}(hy:VRels m.Has ι xs ys):
 Calls P k ys.toArray w fun e w'=>e=.returned v∧Below w.heap.size w w':=by
 refine(h ι w ys hy hL.rel).mono ?_
 rintro e w' ⟨u,v',κ,m',rfl,rfl,E,I,hs⟩
 exact⟨by rw[Vt 3 _ _ hf E],hs.os,hs.tape,hs.output,hs.size,fun g hg=>hs.block g hg fun b hb=>absurd hb (hL.ro b)⟩
theorem closed_sized{H:Type}(P:Program):Closed (H:=H) P reachBytes fun t d=>∀n∈d.weights P t,n≤reachBytes where
 str t l h:=h _ (by simp[DataW.weights])
 slice t e es sp hu h1 h2 h:=by
  simp only[DataW.weights,hu]at h
  have I:=h _ (List.mem_cons_self)
  refine⟨⟨Nat.le_trans (Nat.le_mul_of_pos_right _ h1) I,I⟩,fun d E n hn=>h n ?_⟩
  refine List.mem_cons_of_mem _ (List.mem_append_left _ ?_)
  clear h I
  induction es with
  |nil=>cases E
  |cons x r ih=>
   rw[DataW.weightsAll,qy]
   rcases List.mem_cons.1 E with rfl|E
   ·exact .inl hn
   ·exact .inr (ih E)
 struct t fs ps hu h i f d hf E n hn:=by
  simp only[DataW.weights,hu]at h
  exact h n (DataW.weights_mem_each (by rw[qu,qd,hf];rfl) E n hn)
 array t n e ps hu h d E k hk:=by
  simp only[DataW.weights,hu]at h
  refine h k ?_
  clear h
  induction ps with
  |nil=>cases E
  |cons x r ih=>
   rw[DataW.weightsAll,qy]
   rcases List.mem_cons.1 E with rfl|E
   ·exact .inl hk
   ·exact .inr (ih E)
theorem calls_of_spec{P:Program}{n:FuncId}{f:Func}(ts:List TypeId)(hp:f.params.toList=ts)(hl:∀t∈ts,XY P 20 t=true)(h:∀(m:Mem)(vs:List Value),(∀b,¬m.Own b)→ArgsOf P m reachBytes ts vs→Spec P n vs m fun u _=>u=.bool true)
 {H:Type} {enc:TypeId×Value→H} {W:World} {base:Nat} {args:Array Value} {ds:List (DataW H)} {ps:List MemPlace} (hg:GlobK W) (hval:∀(j:Nat) t v,f.params[j]?=some t→args[j]?=some v→Value.okWide P W .any base t v)
 (hA:DataW.TrodAll enc P W 0 (fun _=>true) true f.params.toList args.toList ds ps) (hk:∀x∈DataW.weightsEach P f.params.toList ds,x≤reachBytes):Calls P n args W fun e W'=>e=.returned (.bool true)∧Below W.heap.size W W':=by
 rw[hp]at hA hk
 obtain⟨κ,m,vs,E,U,O,I⟩:=lift_args (closed_sized P) (b2:=base) ts args.toList ds ps hl (fun j t v hj hv=>hval j t v (by rw[←hp]at hj;simpa using hj) (by simpa using hv)) hA
  (fun j t d hj hd x hx=>hk x (DataW.weights_mem_each hj hd x hx)) _ _ (Lifted.nil W hg)
 exact Spec.calls rfl (h m vs E.ro O) E I
end Go.Proofs.YthohbneadomgdaaGreatDoor.Abs
namespace Go.Proofs.YthohbneadomgdaaGreatDoor
open Go.ChangeShapes Go.WideShapes Go.ChangeAt Go.RowKit Abs
theorem Kc{C:Checked}{os:Os}{n:FuncId}{f:Func}{s:ChangeSpec}{tb:TypeId}{laid:List (String×DataW Unit)}(own:ownKnob C.prog.godebug=none)(started:os.Started)
 (noInit:C.prog.inits.idxOf? n=none) (hf:C.prog.funcs[n]?=some f) (hl:laidOutB C.prog=true)
 (hs:IsLaw s f.params.size) (hr:f.resultTypes=#[tb]) (hu:C.prog.underlying tb=some .bool) (hp:∀t∈f.params.toList,C.prog.readableRec t=true∧t<C.prog.types.size)
 (hpl:(laid.all fun x=>x.2.handleName?.isNone)=true)
 {H:Type} {enc:TypeId×Value→H} (F:Stop.Interp)
 (witness:∃(w:World)(tape:Tape)(i:Input),w.os=os∧(w.forCall tape i).Shaped C.prog∧i.vars=[]∧Input.okWide C.prog (w.forCall tape i) .any w.heap.size n i∧
  (OpenSpec.ofChange s).preRow enc C.prog f [] false laid (w.forCall tape i).memory i.args∧Assume.holds {} C.prog (lone (Frame.enter C.prog n i.args .normal) [] (w.forCall tape i)))
 (walk:∀(W:World)(base:Nat)(args:Array Value)(ds:List (DataW H))(ps:List MemPlace),laidMet C.prog laid W→W.ShapedOpen C.prog→(∀(j:Nat) t v,f.params[j]?=some t→args[j]?=some v→Value.okWide C.prog W .any base t v)→
  DataW.TrodAll enc C.prog W 0 (fun _=>true) true f.params.toList args.toList ds ps→(∀x∈DataW.weightsEach C.prog f.params.toList ds,x≤reachBytes)→
  Calls C.prog n args W fun e W'=>e=.returned (.bool true)∧Below W.heap.size W W'):
 ReturnsInHanded {} C os n .any ((OpenSpec.ofChange s).preRow enc C.prog f [] false laid) (((OpenSpec.ofChange s).at F).post enc C.prog f false true false false):=by
 refine returnsInHanded_of_row (C:=C) (s:=OpenSpec.ofChange s) own started noInit hf witness ?_
 intro W base args ds gs I E Z _ _ U hL hS _
 obtain⟨p,q,hA,hV,rfl,ac,aa⟩:=id Z
 have hv:(OpenSpec.ofChange s).vars=[]:=hs.1
 have Y:s.vars=[]:=hs.1
 rw[hv]at hV
 obtain⟨rfl,rfl⟩:=trodVars_none hV
 rw[qA]at U
 have O:∀x∈DataW.weightsEach C.prog f.params.toList ds,x≤reachBytes:=by
  have e:(OpenSpec.ofChange s).bare.plain.varTypes C.prog=[]:=by
   show s.plain.varTypes C.prog=[]
   simp[ChangeSpec.plain,Y,DataSpec.varTypes]
  rw[e,qA]at U
  intro x hx
  simpa using qi.1 U x hx
 rw[MakeChecks.laidMetH_plain _ _ _ hpl]at hL
 refine(walk W base args ds p hL hS E hA O).mono fun e W' ⟨he,hb⟩=>?_
 exact⟨_,he,law_post hl hs hr hu hp Z hb⟩
end Go.Proofs.YthohbneadomgdaaGreatDoor
