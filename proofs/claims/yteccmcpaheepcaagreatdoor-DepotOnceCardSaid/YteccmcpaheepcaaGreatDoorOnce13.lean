/-
  Sectors of archives, and sets of blocks, in plain words.
-/
import Derived.Test.YteccmcpaheepcaaGreatDoorOnce10
import Derived.Test.YteccmcpaheepcaaGreatDoorOnce11
import Derived.Test.YteccmcpaheepcaaGreatDoorOnce12
import Derived.Test.YteccmcpaheepcaaGreatDoorOnce01
import Derived.Test.YteccmcpaheepcaaGreatDoorOnce08
import Derived.Test.YteccmcpaheepcaaGreatDoorOnce02
import Derived.Test.YteccmcpaheepcaaGreatDoorOnce09
import Derived.Lib.AtoiAllCases
import Derived.Lib.ItoaMem
set_option linter.unusedSimpArgs false
set_option linter.unusedVariables false
set_option linter.unusedSectionVars false
set_option linter.unnecessarySimpa false
set_option linter.defProp false
set_option maxRecDepth 100000
set_option maxHeartbeats 16000000
open Nat renaming reduceLT → yQ, reduceEqDiff → yK, reduceAdd → yV, reduceSub → yY, reduceMul → yU
open Int renaming reduceToNat → yW, reduceLE → yX, reduceEq → yZ, reduceLT → yJ
open Go.Proofs.Tryz renaming prog → qc
open List renaming replicate → qd, append_assoc → qe, length_append → qf, getD_eq_getElem?_getD → qh, length_drop → qi, getElem?_eq_getElem → qk, range → qm, mem_range → qp, find?_cons → qq, take_of_length_le → qr, length_take → qt, all_eq_true → qu, getElem?_eq_none → qx, length_cons → qy, getElem?_eq_some_iff → qE, getElem?_take → qF, map_cons → qJ, length_replicate → qL, drop_zero → qP, drop_drop → qQ, all_cons → qR
open Int renaming toNat_natCast → qj, natCast_add → qw, natCast_pow → qC, eq_ofNat_of_zero_le → qI, fdiv → qO
open Bool renaming and_eq_true → qo, true_and → qB, eq_iff_iff → qD
open Nat renaming div_add_mod → qv, eq_of_testBit_eq → qz, mod_lt → qA, testBit_div_two_pow → qG, testBit_mod_two_pow → qH, and_le_right → qK, pow_le_pow_right → qM
open Array renaming length_toList → qN
namespace Go.Proofs.YteccmcpaheepcaaGreatDoor
open Go.RowKit Abs
def Vm:List Bool→Nat
 | []=>0
 |b::r=>(if b then 1 else 0)+2*Vm r
theorem ofBits_lt:∀l:List Bool,Vm l<2^l.length
 | []=>by simp[Vm]
 |b::r=>by
  have:=ofBits_lt r
  simp only[Vm,qy,Nat.pow_succ]
  cases b<;>simp<;>omega
theorem ofBits_bit:∀(l:List Bool)(k:Nat),(Vm l).testBit k=l.getD k false
 | [],k=>by simp[Vm]
 |b::r,0=>by
  simp only[Vm,Nat.testBit_zero,List.getD_cons_zero]
  cases b<;>simp<;>omega
 |b::r,k+1=>by
  have ih:=ofBits_bit r k
  simp only[Vm,List.getD_cons_succ]
  rw[←ih,Nat.testBit_succ]
  congr 1
  cases b<;>simp<;>omega
def Jj(l:List Bool)(j:Nat):Nat:=Vm ((l.drop (64*j)).take 64)
theorem V3(l:List Bool)(j:Nat):Jj l j<18446744073709551616:=by
 have h:=ofBits_lt ((l.drop (64*j)).take 64)
 have h2:((l.drop (64*j)).take 64).length≤64:=by rw[qt];omega
 have h3:2^((l.drop (64*j)).take 64).length≤2^64:=qM (by decide) h2
 have h4:(2:Nat)^64=18446744073709551616:=by decide
 unfold Jj
 omega
theorem Qv(l:List Bool)(j k:Nat)(hk:k<64):(Jj l j).testBit k=l.getD (64*j+k) false:=by
 unfold Jj
 rw[ofBits_bit]
 simp only[qh,qF,if_pos hk,List.getElem?_drop]
theorem Xw(l:List Bool)(j k:Nat)(hk:64≤k):(Jj l j).testBit k=false:=by
 refine Nat.testBit_lt_two_pow (Nat.lt_of_lt_of_le (V3 l j) ?_)
 have h4:(2:Nat)^64=18446744073709551616:=by decide
 rw[←h4]
 exact qM (by decide) hk
theorem wordB_set(l:List Bool)(i j:Nat)(hi:i<l.length):Jj (l.set i true) j=if i/64=j then Jj l j|||2^(i%64)else Jj l j:=by
 apply qz
 intro k
 by_cases hk:k<64
 ·rw[Qv _ _ _ hk]
  simp only[qh,List.getElem?_set]
  by_cases hj:i/64=j
  ·rw[if_pos hj,Nat.testBit_or,Qv _ _ _ hk,Nat.testBit_two_pow]
   by_cases e:i=64*j+k
   ·rw[if_pos e,if_pos hi]
    have:i%64=k:=by omega
    simp[this]
   ·rw[if_neg e]
    have:¬i%64=k:=by omega
    simp[this]
  ·rw[if_neg hj,Qv _ _ _ hk]
   have e:¬i=64*j+k:=by omega
   rw[if_neg e]
   simp
 ·rw[Xw _ _ _ (by omega)]
  by_cases hj:i/64=j
  ·rw[if_pos hj,Nat.testBit_or,Xw _ _ _ (by omega),Nat.testBit_two_pow]
   have:¬i%64=k:=by omega
   simp[this]
  ·rw[if_neg hj,Xw _ _ _ (by omega)]
theorem wordB_nil(j:Nat):Jj [] j=0:=by simp[Jj,Vm]
theorem ofBits_falses:∀n,Vm (qd n false)=0
 |0=>rfl
 |n+1=>by rw[List.replicate_succ,Vm,ofBits_falses n];rfl
theorem Vp(n j:Nat):Jj (qd n false) j=0:=by
 unfold Jj
 rw[List.drop_replicate,List.take_replicate,ofBits_falses]
def setCells(l:List Bool):List Value:=[.int .i64 (l.length:Nat),.int .u64 (Jj l 0:Nat),.int .u64 (Jj l 1:Nat),.int .u64 (Jj l 2:Nat),.int .u64 (Jj l 3:Nat)]
instance hdrDec:DecidableEq Header:=fun a b=>
 if h:a.id=b.id∧a.salt=b.salt∧a.n=b.n∧a.bytes=b.bytes∧a.raw=b.raw∧a.root=b.root∧a.tag=b.tag then .isTrue (by
  obtain⟨a0,a1,a2,a3,a4,a5,a6⟩:=a
  obtain⟨b0,b1,b2,b3,b4,b5,b6⟩:=b
  obtain⟨h0,h1,h2,h3,h4,h5,h6⟩:=h
  simp only at h0 h1 h2 h3 h4 h5 h6
  subst h0 h1 h2 h3 h4 h5 h6
  rfl)else .isFalse fun e=>h (by subst e;exact⟨rfl,rfl,rfl,rfl,rfl,rfl,rfl⟩)
structure Ext where
 head:Header
 base:Int
def Ext.cells(x:Ext):List Value:=x.head.cells++[.int .i64 x.base]
def noHead:Header:=⟨0,⟨#[]⟩,0,0,0,⟨#[]⟩,⟨#[]⟩⟩
def noExt:Ext:=⟨noHead,0⟩
structure Rec where
 x:Ext
 got:List Bool
def Rec.cells(r:Rec):List Value:=r.x.cells++setCells r.got
def noRec:Rec:=⟨noExt,[]⟩
theorem ext_len(x:Ext):x.cells.length=8:=rfl
def JB(x:Ext):Bool:=x.head.may&&decide (0≤x.base)&&decide (x.base≤1024-x.head.n)
def markC:List UInt8:=[83,76,67,49]
def markJ:List UInt8:=[83,76,74,49]
def JP(h:Header):List UInt8:=h.fields.data.toList++h.tag.data.toList
def JD(x:Ext):List UInt8:=markC++JP x.head++Sha.fixed x.base 2
def XH(l:List Bool):List UInt8:=Sha.fixed (Jj l 0:Nat) 8++Sha.fixed (Jj l 1:Nat) 8++Sha.fixed (Jj l 2:Nat) 8++Sha.fixed (Jj l 3:Nat) 8
def JW(r:Rec):List UInt8:=markJ++JP r.x.head++Sha.fixed r.x.base 2++XH r.got
def Vc(s:ByteArray):Header×Int:=if s.size=98∧s.extract 0 4=⟨#[83,76,71,49]⟩∧(Zr s).check≠1 then(Zr s,0)else(noHead,2)
def QG(s:List UInt8)(a n:Nat):List UInt8:=(s.drop a).take n
def Xb(s:List UInt8):Ext×Int:=
 if JO s=[]then(noExt,8)else if s.take 4≠markC∨JO (s.drop 104)≠ []then(noExt,2)else
 if(Vc (str (QG s 4 98))).2≠0∨JB ⟨(Vc (str (QG s 4 98))).1,(Sha.num (QG s 102 2):Nat)⟩=false then(noExt,2)else
 (⟨(Vc (str (QG s 4 98))).1,(Sha.num (QG s 102 2):Nat)⟩,0)
def Ue(t:List UInt8)(i:Nat):Bool:=(t.getD (8*(i/64)+7-i%64/8) 0).toNat.testBit (i%8)
def QC(n:Nat)(t:List UInt8):List Bool×Int:=if(qm 256).any (fun i=>Ue t i&&decide (n≤i))=true then([],2)else((qm n).map (Ue t),0)
def QM(s:List UInt8):Rec×Int:=
 if JO s=[]then(noRec,8)else if s.take 4≠markJ∨JO (s.drop 136)≠ []then(noRec,2)else
 if(Vc (str (QG s 4 98))).2≠0∨JB ⟨(Vc (str (QG s 4 98))).1,(Sha.num (QG s 102 2):Nat)⟩=false∨(QC (Vc (str (QG s 4 98))).1.n.toNat (QG s 104 32)).2≠0 then(noRec,2)else
 (⟨⟨(Vc (str (QG s 4 98))).1,(Sha.num (QG s 102 2):Nat)⟩,(QC (Vc (str (QG s 4 98))).1.n.toNat (QG s 104 32)).1⟩,0)
def meets(x y:Ext):Bool:=decide (x.base<y.base+y.head.n)&&decide (y.base<x.base+x.head.n)
def VP(x y:Ext):Bool:=decide (y.head.id=x.head.id)||meets x y
def Qq(kept:List (Option Ext))(opn:List (Option Rec)):List Ext:=kept.filterMap id++(opn.filterMap id).map Rec.x
def XX(key:List UInt8)(n:Nat)(places:List Ext)(x:Ext):Bool:=
 decide (x.head.verify key=0)&&decide (13≤x.base)&&decide (x.base+x.head.n≤(n:Int))&& !(places.any (VP x))
structure Dep where
 key:List UInt8
 epoch:Int
 opn:List (Option Rec)
 kept:List (Option Ext)
 staged:Int
def XD(d:Dsk)(key:List UInt8)(kept:List (Option Ext))(i:Nat):Option Ext:=
 if(Xb (d.sector (5+i))).2=0∧XX key d.old.length (Qq kept []) (Xb (d.sector (5+i))).1=true then some (Xb (d.sector (5+i))).1 else none
def Jo(d:Dsk)(key:List UInt8):Nat→List (Option Ext)
 |0=>qd 8 none
 |k+1=>(Jo d key k).set k (XD d key (Jo d key k) k)
def X8(key:List UInt8)(kept:List (Option Ext))(d:Dsk)(opn:List (Option Rec))(i:Nat):Dsk×List (Option Rec)×Int:=
 if(QM (d.sector (1+i))).2=0∧XX key d.old.length (Qq kept opn) (QM (d.sector (1+i))).1.x=true then(d,opn.set i (some (QM (d.sector (1+i))).1),0)else
 if(QM (d.sector (1+i))).2≠8 then((d.write ((1+i:Nat):Int) []).1,opn,(d.write ((1+i:Nat):Int) []).2)else(d,opn,0)
def Jl(key:List UInt8)(kept:List (Option Ext))(d:Dsk):Nat→Dsk×List (Option Rec)×Int
 |0=>(d,qd 4 none,0)
 |k+1=>if(Jl key kept d k).2.2≠0 then Jl key kept d k else X8 key kept (Jl key kept d k).1 (Jl key kept d k).2.1 k
def openD(d:Dsk)(key:List UInt8):Dsk×Option Dep×Int:=
 if d.old.length<13 then(d,none,1)else if d.dead=true then(d,none,7)else
 if(Jl key (Jo d key 8) d 4).2.2≠0 then((Jl key (Jo d key 8) d 4).1,none,(Jl key (Jo d key 8) d 4).2.2)else
 if((Jl key (Jo d key 8) d 4).1.nextE 0).2.2≠0 then(((Jl key (Jo d key 8) d 4).1.nextE 0).1,none,((Jl key (Jo d key 8) d 4).1.nextE 0).2.2)else
 (((Jl key (Jo d key 8) d 4).1.nextE 0).1,some ⟨key,((Jl key (Jo d key 8) d 4).1.nextE 0).2.1,(Jl key (Jo d key 8) d 4).2.1,Jo d key 8,0⟩,0)
def X0{α:Type}(p:α→Bool):List (Option α)→Nat→Option (Nat×α)
 | [],_=>none
 |some a::r,i=>if p a=true then some (i,a)else X0 p r (i+1)
 |none::r,i=>X0 p r (i+1)
def QZ{α:Type}:List (Option α)→Nat→Option Nat
 | [],_=>none
 |none::_,i=>some i
 |some _::r,i=>QZ r (i+1)
def Zi{α:Type}(o:Option (Nat×α)):Int:=match o with|some (i,_)=>(i:Int)|none=> -1
def freeI(o:Option Nat):Int:=match o with|some i=>(i:Int)|none=> -1
def Dep.ext? (p:Dep)(id:Int):Option (Nat×Ext):=X0 (fun x:Ext=>decide (x.head.id=id)) p.kept 0
def Dep.rec? (p:Dep)(id:Int):Option (Nat×Rec):=X0 (fun r:Rec=>decide (r.x.head.id=id)) p.opn 0
def Dep.places(p:Dep):List Ext:=Qq p.kept p.opn
def Dep.headAt(p:Dep)(id:Int):Header×Bool×Int:=
 match p.ext? id with
 |some (_,x)=>(x.head,true,0)
 |none=>match p.rec? id with
  |some (_,r)=>(r.x.head,false,0)
  |none=>(noHead,false,8)
def freeFor(at' n:Int)(l:List Ext):Bool:=l.all fun x=> !(decide (at'<x.base+x.head.n)&&decide (x.base-at'<n))
def roomGo(n:Int)(l:List Ext):Nat→Int→Option Int
 |0,_=>none
 |k+1,at'=>if freeFor at' n l=true then some at' else roomGo n l k (at'+1)
def roomV(lo hi n:Int)(l:List Ext):Option Int:=if n<1∨lo<0∨hi<lo then none else roomGo n l (hi-lo-n+1).toNat lo
def thenD{β:Type}(w:Dsk×Int)(bad:Dsk→Int→β)(ok:Dsk→β):β:=if w.2≠0 then bad w.1 w.2 else ok w.1
def Dep.begun(d:Dsk)(p:Dep)(h:Header)(i:Nat)(base:Int):Dsk×Dep×Int:=
 thenD (d.write ((1+i:Nat):Int) (JW ⟨⟨h,base⟩,qd h.n.toNat false⟩)) (fun d e=>(d,p,e)) fun d=>
 thenD d.sync (fun d e=>(d,p,e)) fun d=>
 (d,{ p with opn:=p.opn.set i (some ⟨⟨h,base⟩,qd h.n.toNat false⟩) },0)
def Dep.begin(d:Dsk)(p:Dep)(h:Header):Dsk×Dep×Int:=
 if d.dead=true then(d,p,7)else if h.verify p.key≠0 then(d,p,h.verify p.key)else
 if(p.headAt h.id).2.2=0 then(d,p,if(p.headAt h.id).1=h then 0 else 6)else
 match QZ p.opn 0 with
 |none=>(d,p,3)
 |some i=>match roomV 13 (d.old.length:Nat) h.n p.places with
  |none=>(d,p,13)
  |some base=>Dep.begun d p h i base
def Dep.staged1(d:Dsk)(p:Dep)(k:Nat)(r:Rec)(i:Int)(s:List UInt8):Dsk×Dep×Int:=
 thenD (d.write (r.x.base+i) s) (fun d e=>(d,p,e)) fun d=>
 thenD d.sync (fun d e=>(d,{ p with staged:=p.staged+1 },e)) fun d=>
 thenD (d.write ((1+k:Nat):Int) (JW { r with got:=r.got.set i.toNat true })) (fun d e=>(d,{ p with staged:=p.staged+1 },e)) fun d=>
 (d,{ p with staged:=p.staged+1,opn:=p.opn.set k (some { r with got:=r.got.set i.toNat true }) },0)
def Dep.stage(d:Dsk)(p:Dep)(id i:Int)(s:List UInt8):Dsk×Dep×Int:=
 if d.dead=true then(d,p,7)else
 match p.rec? id with
 |none=>(d,p,8)
 |some (k,r)=>
  if i<0∨r.x.head.n≤i then(d,p,10)else if s.length≠224 then(d,p,1)else if r.got.getD i.toNat false=true then(d,p,0)else
  Dep.staged1 d p k r i s
def Xv(d:Dsk)(x:Ext):List (List UInt8)×Int:=if d.dead=true∧0<x.head.n then([],7)else((qm x.head.n.toNat).map fun i=>(d.sector (x.base.toNat+i)).take 224,0)
def X5(l:List (List UInt8)):List UInt8:=
 match l with
 | []=>Sha.sum []
 | [a]=>a
 |a::b::r=>Sha.sum (1::(X5 ((a::b::r).take (min (Sha.cut (r.length+2)) (r.length+1)))++X5 ((a::b::r).drop (max (Sha.cut (r.length+2)) 1))))
termination_by l.length
decreasing_by
 ·simp only[qt,qy];omega
 ·simp only[qi,qy];omega
def Ua(b:List UInt8):List UInt8:=Sha.sum (0::b)
def rootV(l:List (List UInt8)):List UInt8:=X5 (l.map Ua)
def Dep.keep(d:Dsk)(p:Dep)(i:Nat)(x:Ext):Dsk×Dep×Int:=
 thenD (d.write ((5+i:Nat):Int) (JD x)) (fun d e=>(d,p,e)) fun d=>
 thenD d.sync (fun d e=>(d,p,e)) fun d=>(d,{ p with kept:=p.kept.set i (some x) },0)
def Dep.commit(d:Dsk)(p:Dep)(id:Int):Dsk×Dep×Int:=
 if d.dead=true then(d,p,7)else
 match p.ext? id with
 |some _=>(d,p,0)
 |none=>match p.rec? id with
  |none=>(d,p,8)
  |some (k,r)=>
   if r.got.all (fun b=>b)=false then(d,p,9)else
   if str (rootV (Xv d r.x).1)≠r.x.head.root then(d,p,11)else
   match QZ p.kept 0 with
   |none=>(d,p,3)
   |some i=>if(Dep.keep d p i r.x).2.2≠0 then Dep.keep d p i r.x else
    (((Dep.keep d p i r.x).1.write ((1+k:Nat):Int) []).1,{ (Dep.keep d p i r.x).2.1 with opn:=p.opn.set k none },((Dep.keep d p i r.x).1.write ((1+k:Nat):Int) []).2)
structure Arc where
 head:Header
 blocks:List (List UInt8)
def insHead(l:List Header)(h:Header):List Header:=match l with
 | []=>[h]
 |x::r=>if x.id≤h.id then x::insHead r h else h::x::r
def headsOf(l:List Header):List Header:=l.foldl insHead []
def Dep.keptL(p:Dep):List Header:=headsOf ((p.kept.filterMap id).map Ext.head)
def Je(d:Dsk):List Nat:=(qm d.old.length).filter fun i=>(Jr d.last i).isSome
def bitOf(bits:Int)(k:Nat):Bool:=decide (bits/2^(k%62)%2=1)
def Dsk.crash(d:Dsk)(bits:Int):Dsk:=
 { d with old:=d.old.mapIdx fun i o=>if bitOf bits ((Je d).idxOf i)=true then(Jr d.last i).getD o else o,last:=[],fuse:= -1,dead:=false }
def Dsk.setFuse(d:Dsk)(n:Int):Dsk:=if d.dead=true then d else { d with fuse:=max n (-1) }
structure Dep.Ok(p:Dep)(n:Nat):Prop where
 opn:p.opn.length=4
 kept:p.kept.length=8
 fitO:∀r,some r∈p.opn→r.x.head.verify p.key=0∧13≤r.x.base∧r.x.base+r.x.head.n≤(n:Int)∧(r.got.length:Int)=r.x.head.n
 fitK:∀x,some x∈p.kept→x.head.verify p.key=0∧13≤x.base∧x.base+x.head.n≤(n:Int)
end Go.Proofs.YteccmcpaheepcaaGreatDoor
namespace Go.Proofs.YteccmcpaheepcaaGreatDoor
def Vk(x k:Nat):Nat:=((qm k).filter x.testBit).length
theorem popc_succ(x k:Nat):Vk x (k+1)=Vk x k+(if x.testBit k then 1 else 0):=by
 unfold Vk
 rw[List.range_succ,List.filter_append,qf]
 congr 1
 cases h:x.testBit k<;>simp[h]
theorem popc_add(x a b:Nat):Vk x (a+b)=Vk x a+Vk (x/2^a) b:=by
 induction b with
 |zero=>simp[Vk]
 |succ b ih=>
  rw[←Nat.add_assoc,popc_succ,ih,popc_succ,qG,Nat.add_comm b a]
  omega
theorem popc_mod(x k:Nat):Vk (x%2^k) k=Vk x k:=by
 unfold Vk
 congr 1
 apply List.filter_congr
 intro i hi
 rw[qp]at hi
 rw[qH]
 simp[hi]
def K9(p:Nat):Nat→Nat
 |0=>0
 |n+1=>256*K9 p n+p
theorem and_byte(h b M p:Nat)(hb:b<256)(hp:p<256):(256*h+b)&&&(256*M+p)=256*(h&&&M)+(b&&&p):=by
 have e1:((256*h+b)&&&(256*M+p))/2^8=h&&&M:=by
  rw[Nat.and_div_two_pow,show(256*h+b)/2^8=h by omega,show(256*M+p)/2^8=M by omega]
 have e2:((256*h+b)&&&(256*M+p))%2^8=b&&&p:=by
  rw[Nat.and_mod_two_pow,show(256*h+b)%2^8=b by omega,show(256*M+p)%2^8=p by omega]
 have:=qv ((256*h+b)&&&(256*M+p)) (2^8)
 rw[e1,e2]at this
 omega
def sw1(n x:Nat):Nat:=(x/2&&&K9 85 n)+(x&&&K9 85 n)
def sw2(n x:Nat):Nat:=(x/4&&&K9 51 n)+(x&&&K9 51 n)
def sw3(n x:Nat):Nat:=(x/16+x)&&&K9 15 n
theorem low1:∀(c:Fin 2)(b:Fin 256),(c.val*128+b.val/2)&&&85=b.val/2&&&85:=by decide+kernel
theorem low2:∀(c:Fin 4)(b:Fin 256),(c.val*64+b.val/4)&&&51=b.val/4&&&51:=by decide+kernel
theorem low3:∀(c:Fin 5)(b:Fin 69),(c.val*16+b.val/16+b.val)&&&15=(b.val/16+b.val)&&&15:=by decide+kernel
theorem sw1_step(n h b:Nat)(hb:b<256):sw1 (n+1) (256*h+b)=256*sw1 n h+((b/2&&&85)+(b&&&85)):=by
 have hp:K9 85 (n+1)=256*K9 85 n+85:=rfl
 unfold sw1
 rw[hp]
 rw[show(256*h+b)/2=256*(h/2)+(h%2*128+b/2) by omega,and_byte _ _ _ _ (by omega) (by decide),and_byte _ _ _ _ hb (by decide),low1 ⟨h%2,by omega⟩ ⟨b,hb⟩]
 simp only
 omega
theorem sw2_step(n h b:Nat)(hb:b<256):sw2 (n+1) (256*h+b)=256*sw2 n h+((b/4&&&51)+(b&&&51)):=by
 have hp:K9 51 (n+1)=256*K9 51 n+51:=rfl
 unfold sw2
 rw[hp]
 rw[show(256*h+b)/4=256*(h/4)+(h%4*64+b/4) by omega,and_byte _ _ _ _ (by omega) (by decide),and_byte _ _ _ _ hb (by decide),low2 ⟨h%4,by omega⟩ ⟨b,hb⟩]
 simp only
 omega
theorem sw3_step(n h b:Nat)(hb:b<69)(hh:h%16<5):sw3 (n+1) (256*h+b)=256*sw3 n h+((b/16+b)&&&15):=by
 have hp:K9 15 (n+1)=256*K9 15 n+15:=rfl
 unfold sw3
 rw[hp]
 rw[show(256*h+b)/16+(256*h+b)=256*(h/16+h)+(h%16*16+b/16+b) by omega,and_byte _ _ _ _ (by omega) (by decide),low3 ⟨h%16,hh⟩ ⟨b,hb⟩]
def by1(b:Nat):Nat:=(b/2&&&85)+(b&&&85)
def by2(b:Nat):Nat:=(by1 b/4&&&51)+(by1 b&&&51)
theorem by1_lt:∀b:Fin 256,by1 b.val<256:=by decide+kernel
theorem by2_lt:∀b:Fin 256,by2 b.val<69∧by2 b.val%16<5:=by decide+kernel
theorem by3_pop:∀b:Fin 256,(by2 b.val/16+by2 b.val)&&&15=Vk b.val 8:=by decide+kernel
theorem pop8_le:∀b:Fin 256,Vk b.val 8≤8:=by decide+kernel
def popS:Nat→Nat→Nat
 |0,_=>0
 |n+1,x=>256*popS n (x/256)+Vk (x%256) 8
theorem sw_all:∀(n x:Nat),x<256^n→sw2 n (sw1 n x)%16<5∧sw3 n (sw2 n (sw1 n x))=popS n x
 |0,x,hx=>by
  have:x=0:=by simpa using hx
  subst this
  exact⟨by decide,by decide⟩
 |n+1,x,hx=>by
  have hx':x/256<256^n:=Nat.div_lt_of_lt_mul (by rw[Nat.pow_succ]at hx;omega)
  obtain⟨h1,h2⟩:=sw_all n (x/256) hx'
  have hb:x%256<256:=qA _ (by decide)
  have e0:x=256*(x/256)+x%256:=by omega
  have e1:sw1 (n+1) x=256*sw1 n (x/256)+by1 (x%256):=by
   conv=>lhs;rw[e0]
   exact sw1_step n _ _ hb
  have l1:=by1_lt ⟨x%256,hb⟩
  have e2:sw2 (n+1) (sw1 (n+1) x)=256*sw2 n (sw1 n (x/256))+by2 (x%256):=by rw[e1];exact sw2_step n _ _ l1
  have l2:=by2_lt ⟨x%256,hb⟩
  simp only at l2
  refine⟨by rw[e2];omega,?_⟩
  rw[e2,sw3_step n _ _ l2.1 h1,h2,by3_pop ⟨x%256,hb⟩]
  rfl
theorem popS_pop:∀(n x:Nat),∃l:List Nat,l.length=n∧(∀c∈l,c≤8)∧popS n x=l.foldr (fun c a=>256*a+c) 0∧Vk x (8*n)=l.foldr (·+ ·) 0
 |0,x=>⟨[],rfl,fun c h=>by simp at h,rfl,rfl⟩
 |n+1,x=>by
  obtain⟨l,h1,h2,h3,h4⟩:=popS_pop n (x/256)
  have hb:x%256<256:=qA _ (by decide)
  refine⟨Vk (x%256) 8::l,by simp[h1],fun c hc=>?_,by simp[popS,h3],?_⟩
  ·rcases List.mem_cons.1 hc with rfl|hc
   ·exact pop8_le ⟨x%256,hb⟩
   ·exact h2 c hc
  ·have e:Vk x (8*(n+1))=Vk x 8+Vk (x/2^8) (8*n):=by rw[show 8*(n+1)=8+8*n by omega];exact popc_add x 8 (8*n)
   rw[e,show(2:Nat)^8=256 by decide,h4]
   have:=popc_mod x 8
   rw[show(2:Nat)^8=256 by decide]at this
   rw[List.foldr_cons,this]
def sw4(y:Nat):Nat:=y+y/256
def sw5(y:Nat):Nat:=sw4 y+sw4 y/65536
def sw6(y:Nat):Nat:=sw5 y+sw5 y/4294967296
theorem sw_end(x:Nat):sw6 (popS 8 x)%128=Vk x 64∧sw6 (popS 8 x)<9223372036854775808:=by
 obtain⟨l,h1,h2,h3,h4⟩:=popS_pop 8 x
 match l,h1 with
 | [a,b,c,d,e,f,g,h],_=>
   simp only[List.foldr_cons,List.foldr_nil]at h3 h4
   have b1:=h2 a (by simp)
   have b2:=h2 b (by simp)
   have b3:=h2 c (by simp)
   have b4:=h2 d (by simp)
   have b5:=h2 e (by simp)
   have b6:=h2 f (by simp)
   have b7:=h2 g (by simp)
   have b8:=h2 h (by simp)
   have q4:sw4 (popS 8 x)=(a+b)+256*(b+c)+65536*(c+d)+16777216*(d+e)+4294967296*(e+f)+1099511627776*(f+g)+281474976710656*(g+h)+72057594037927936*h:=by unfold sw4;omega
   have q5:sw5 (popS 8 x)=(a+b+c+d)+256*(b+c+d+e)+65536*(c+d+e+f)+16777216*(d+e+f+g)+4294967296*(e+f+g+h)+1099511627776*(f+g+h)+281474976710656*(g+h)+72057594037927936*h:=by unfold sw5;rw[q4];omega
   have q6:sw6 (popS 8 x)=(a+b+c+d+e+f+g+h)+256*(b+c+d+e+f+g+h)+65536*(c+d+e+f+g+h)+16777216*(d+e+f+g+h)+4294967296*(e+f+g+h)+1099511627776*(f+g+h)+281474976710656*(g+h)+72057594037927936*h:=by unfold sw6;rw[q5];omega
   have q7:Vk x 64=a+(b+(c+(d+(e+(f+(g+(h+0))))))):=h4
   rw[q6,q7]
   omega
end Go.Proofs.YteccmcpaheepcaaGreatDoor
namespace Go.Proofs.YteccmcpaheepcaaGreatDoor
open Go.RowKit Abs
theorem Abs.Spec.of_empty{P:Program}{k:FuncId}{xs:List Value}{v:Value}(hx:∀x∈xs,flat 3 x=true)(hv:flat 3 v=true)(h:Abs.Spec P k xs ⟨[]⟩ fun u _=>u=v)(m:Mem):
 Abs.Spec P k xs m fun u m'=>u=v∧m'=m:=
 Abs.Spec.of_below hv fun ι w ys hy hr=>by rw[VW hx hy];exact Calls.of_flat_val hx hv h w hr.glob.known
theorem VA(a:Nat)(ha:a<18446744073709551616):(BitVec.ofInt 64 (a:Int)).toNat=a:=by
 rw[BitVec.ofInt_natCast,BitVec.toNat_ofNat];exact Nat.mod_eq_of_lt (by omega)
theorem XR(a:Nat)(ha:a<18446744073709551616):IntKind.u64.wrap (a:Int)=(a:Int):=by unfold IntKind.wrap;simp[IntKind.bits,IntKind.signed];omega
theorem Z8(a b:Nat)(ha:a<18446744073709551616)(hb:b<18446744073709551616):bits .and .u64 (a:Int) (b:Int)=((a&&&b:Nat):Int):=by
 have hx:a&&&b<2^64:=Nat.and_lt_two_pow _ (by omega)
 show IntKind.u64.wrap ((BitVec.ofInt 64 (a:Int)&&&BitVec.ofInt 64 (b:Int)).toNat:Int)=_
 rw[BitVec.toNat_and,VA a ha,VA b hb,XR _ (by omega)]
theorem u64_or_nat(a b:Nat)(ha:a<18446744073709551616)(hb:b<18446744073709551616):bits .or .u64 (a:Int) (b:Int)=((a|||b:Nat):Int):=by
 have hx:a|||b<2^64:=Nat.or_lt_two_pow (by omega) (by omega)
 show IntKind.u64.wrap ((BitVec.ofInt 64 (a:Int)|||BitVec.ofInt 64 (b:Int)).toNat:Int)=_
 rw[BitVec.toNat_or,VA a ha,VA b hb,XR _ (by omega)]
theorem K6(x k:Nat)(hk:k≤64):qO (x:Int) (2^min k IntKind.u64.bits)=((x/2^k:Nat):Int):=by
 have e:min k IntKind.u64.bits=k:=by show min k 64=k;omega
 rw[e,Int.fdiv_eq_ediv_of_nonneg _ (Int.le_of_lt (Int.pow_pos (by decide))),Int.natCast_ediv,qC];rfl
theorem u64_shl1(k:Nat)(hk:k<64):IntKind.u64.wrap (1*2^min k IntKind.u64.bits)=((2^k:Nat):Int):=by
 have e:min k IntKind.u64.bits=k:=by show min k 64=k;omega
 have h:=XR (2^k) (by have:2^k<2^64:=Nat.pow_lt_pow_right (by decide) hk;omega)
 rw[e,Int.one_mul]
 rw[qC]at h ⊢
 exact h
theorem ones_spec(x:Nat)(hx:x<18446744073709551616)(m:Mem):
 Abs.Spec qc 83 [.int .u64 (x:Nat)] m fun u M=>u=.int .i64 (Vk x 64:Nat)∧M=m:=by
 refine Abs.Spec.walkM Tryz.func83 (by rfl) _ Tryz.results83 _ Tryz.ntmps83 (by simp) ?_
 intro hc hx' k
 have p1:K9 85 8=6148914691236517205:=by decide
 have p2:K9 51 8=3689348814741910323:=by decide
 have p3:K9 15 8=1085102592571150095:=by decide
 obtain⟨a1,h1⟩:∃a,a=sw1 8 x:=⟨_,rfl⟩
 obtain⟨a2,h2⟩:∃a,a=sw2 8 a1:=⟨_,rfl⟩
 obtain⟨a3,h3⟩:∃a,a=sw3 8 a2:=⟨_,rfl⟩
 have b1:a1<18446744073709551616:=by
  have u1:=qK (n:=x/2) (m:=K9 85 8)
  have u2:=qK (n:=x) (m:=K9 85 8)
  rw[h1];unfold sw1;omega
 have b2:a2≤7378697629483820646:=by
  have u1:=qK (n:=a1/4) (m:=K9 51 8)
  have u2:=qK (n:=a1) (m:=K9 51 8)
  rw[h2];unfold sw2;omega
 have e1:IntKind.u64.wrap (bits .and .u64 (qO (x:Int) (2^min 1 IntKind.u64.bits)) 6148914691236517205+bits .and .u64 (x:Int) 6148914691236517205)=(a1:Int):=by
  rw[K6 x 1 (by decide),show(6148914691236517205:Int)=((6148914691236517205:Nat):Int)from rfl,Z8 _ _ (by omega) (by decide),Z8 _ _ hx (by decide),←qw]
  rw[h1]at b1 ⊢
  unfold sw1 at b1 ⊢
  rw[p1]at b1 ⊢
  exact XR _ b1
 have e2:IntKind.u64.wrap (bits .and .u64 (qO (a1:Int) (2^min 2 IntKind.u64.bits)) 3689348814741910323+bits .and .u64 (a1:Int) 3689348814741910323)=(a2:Int):=by
  rw[K6 a1 2 (by decide),show(3689348814741910323:Int)=((3689348814741910323:Nat):Int)from rfl,Z8 _ _ (by omega) (by decide),Z8 _ _ b1 (by decide),←qw]
  have e:(a1/2^2&&&3689348814741910323)+(a1&&&3689348814741910323)=a2:=by rw[h2];unfold sw2;rw[p2]
  rw[e];exact XR _ (by omega)
 have e3:bits .and .u64 (IntKind.u64.wrap (qO (a2:Int) (2^min 4 IntKind.u64.bits)+(a2:Int))) 1085102592571150095=(a3:Int):=by
  rw[K6 a2 4 (by decide),←qw,XR _ (by omega),show(1085102592571150095:Int)=((1085102592571150095:Nat):Int)from rfl,Z8 _ _ (by omega) (by decide)]
  rw[h3];unfold sw3;rw[p3]
 have hs:=(sw_all 8 x (by rw[show(256:Nat)^8=18446744073709551616 by decide];exact hx)).2
 rw[←h1,←h2,←h3]at hs
 obtain⟨q1,q2⟩:=sw_end x
 rw[←hs]at q1 q2
 have l1:sw5 a3≤sw6 a3:=by unfold sw6;omega
 have l2:sw4 a3≤sw5 a3:=by unfold sw5;omega
 have e4:IntKind.u64.wrap ((a3:Int)+qO (a3:Int) (2^min 8 IntKind.u64.bits))=(sw4 a3:Nat):=by
  rw[K6 a3 8 (by decide),←qw]
  have e:a3+a3/2^8=sw4 a3:=rfl
  rw[e];exact XR _ (by omega)
 have e5:IntKind.u64.wrap (((sw4 a3:Nat):Int)+qO ((sw4 a3:Nat):Int) (2^min 16 IntKind.u64.bits))=(sw5 a3:Nat):=by
  rw[K6 _ 16 (by decide),←qw]
  have e:sw4 a3+sw4 a3/2^16=sw5 a3:=rfl
  rw[e];exact XR _ (by omega)
 have e6:IntKind.u64.wrap (((sw5 a3:Nat):Int)+qO ((sw5 a3:Nat):Int) (2^min 32 IntKind.u64.bits))=(sw6 a3:Nat):=by
  rw[K6 _ 32 (by decide),←qw]
  have e:sw5 a3+sw5 a3/2^32=sw6 a3:=rfl
  rw[e];exact XR _ (by omega)
 have e7:bits .and .i64 (IntKind.i64.wrap ((sw6 a3:Nat):Int)) 127=(Vk x 64:Nat):=by
  rw[Xl (by omega) (by omega),show(127:Int)=((127:Nat):Int)from rfl,Qw _ _ (by omega) (by decide),←q1]
  congr 1
  exact Nat.and_two_pow_sub_one_eq_mod _ 7
 refine J0 (J1 ?_)
 simp only[zZ,reduceIte,yQ,yW,yX,yZ,yJ,yK,yV,zDk]
 refine J0 (J1 ?_)
 simp only[zZ,reduceIte,yQ,yW,yX,yZ,yJ,yK,yV,zDk,e1]
 refine J0 (J1 ?_)
 simp only[zZ,reduceIte,yQ,yW,yX,yZ,yJ,yK,yV,zDk,e2]
 refine J0 (J1 ?_)
 simp only[zZ,reduceIte,yQ,yW,yX,yZ,yJ,yK,yV,zDk,e3]
 refine J0 (J1 ?_)
 simp only[zZ,reduceIte,yQ,yW,yX,yZ,yJ,yK,yV,zDk,e4]
 refine J0 (J1 ?_)
 simp only[zZ,reduceIte,yQ,yW,yX,yZ,yJ,yK,yV,zDk,e5]
 refine J0 (J1 ?_)
 simp only[zZ,reduceIte,yQ,yW,yX,yZ,yJ,yK,yV,zDk,e6]
 refine J0 (J1 ?_)
 simp only[zZ,reduceIte,yQ,yW,yX,yZ,yJ,yK,yV,zDk,e7]
 refine Qx ?_
 simp only[zZ,reduceIte,yQ,yW,yX,yZ,yJ,yK,yV,zDk,mEnd,sAnswer,sAnswer.sRes]
 exact⟨m,Thin.refl _,rfl⟩
def Xh(l:List Bool):Value:=.agg (setCells l).toArray
theorem bx_set(l:List Bool):QS qc 57 (Xh l)=some (.cells false (J6 qc 57) (setCells l)):=bx_Set _ rfl
def hasV(l:List Bool)(i:Int):Bool:=decide (0≤i)&&l.getD i.toNat false
theorem set_cell(l:List Bool)(j:Nat)(hj:j<4):(setCells l)[1+j]?=some (.int .u64 (Jj l j:Nat)):=by
 match j,hj with
 |0,_=>rfl
 |1,_=>rfl
 |2,_=>rfl
 |3,_=>rfl
theorem set_len(l:List Bool):(setCells l)[0]?=some (.int .i64 (l.length:Nat)):=rfl
theorem bit_of(l:List Bool)(i:Nat):((Jj l (i/64)/2^(i%64)&&&1)==1)=l.getD i false:=by
 have h:=Qv l (i/64) (i%64) (qA _ (by decide))
 rw[qv]at h
 rw[←h,Nat.testBit_eq_decide_div_mod_eq,Nat.and_one_is_mod]
 by_cases e:Jj l (i/64)/2^(i%64)%2=1<;>simp[e]
theorem has_spec(l:List Bool)(hl:l.length≤256)(i:Int)(m:Mem):
 Abs.Spec qc 33 [Xh l,.int .i64 i] m fun u M=>u=.bool (hasV l i)∧(∀b x,m.get b=some x→M.get b=some x)∧m.size≤M.size:=by
 refine Abs.Spec.walkM Tryz.func33 (by rfl) _ Tryz.results33 _ Tryz.ntmps33 (by simp) ?_
 intro hc hx k
 have bx:=bx_set l
 generalize J6 qc 57=s1 at bx
 have ho:∀b x,m.get b=some x→(m.push (.cells false s1 (setCells l))).get b=some x:=fun b x hb=>by rw[Mem.get_push_old (Mem.get_lt hb)];exact hb
 have hs:m.size≤(m.push (.cells false s1 (setCells l))).size:=by rw[Mem.size_push];omega
 refine J0 (J1 ?_)
 simp only[zZ,reduceIte,yQ,yW,yX,yZ,yJ,yK,yV,zDk,bx]
 refine J0 (J1 ?_)
 cases q1:decide (i≥0)
 ·have e:hasV l i=false:=by unfold hasV;have:=of_decide_eq_false q1;rw[decide_eq_false (by omega)];rfl
  simp only[zZ,reduceIte,yQ,yW,yX,yZ,yJ,yK,yV,zDk,q1]
  refine Qx ?_
  simp only[zZ,reduceIte,yQ,yW,yX,yZ,yJ,yK,yV,zDk,mEnd,sAnswer,sAnswer.sRes]
  exact⟨_,Thin.refl _,by rw[e],ho,hs⟩
 ·have h0:=of_decide_eq_true q1
  obtain⟨n,rfl⟩:=qI h0
  have e:hasV l (n:Int)=l.getD n false:=by unfold hasV;rw[decide_eq_true h0,qj];rfl
  cases q2:decide ((n:Int)<(l.length:Int))
  ·have h2:=of_decide_eq_false q2
   have e2:l.getD n false=false:=by rw[qh,qx (by omega)];rfl
   simp only[zZ,reduceIte,yQ,yW,yX,yZ,yJ,yK,yV,zDk,q1,Mem.get_push_new,set_len,q2]
   refine Qx ?_
   simp only[zZ,reduceIte,yQ,yW,yX,yZ,yJ,yK,yV,zDk,mEnd,sAnswer,sAnswer.sRes]
   exact⟨_,Thin.refl _,by rw[e,e2],ho,hs⟩
  ·have h2:=of_decide_eq_true q2
   have wq:IntKind.i64.wrap (Int.tdiv (n:Int) 64)=((n/64:Nat):Int):=by rw[Int.tdiv_eq_ediv_of_nonneg (by omega),Xl (by omega) (by omega)];omega
   have wr:Int.tmod (n:Int) 64=((n%64:Nat):Int):=by rw[Int.tmod_eq_emod_of_nonneg (by omega)];omega
   have z0:(0:Int)≤((n/64:Nat):Int):=by omega
   have z4:((n/64:Nat):Int)<((4:Nat):Int):=by omega
   have z1:(0:Int)≤((n%64:Nat):Int):=by omega
   have hcell:=set_cell l (n/64) (by omega)
   have sh:=K6 (Jj l (n/64)) (n%64) (by omega)
   have hw:=V3 l (n/64)
   have eb:(bits .and .u64 ((Jj l (n/64)/2^(n%64):Nat):Int) 1==1)=l.getD n false:=by
    rw[show(1:Int)=((1:Nat):Int)from rfl,Z8 _ _ (Nat.lt_of_le_of_lt (Nat.div_le_self _ _) hw) (by decide),←bit_of l n]
    rw[qD,beq_iff_eq,beq_iff_eq]
    exact Int.ofNat_inj
   simp only[zZ,reduceIte,yQ,yW,yX,yZ,yJ,yK,yV,zDk,q1,Mem.get_push_new,set_len,q2,wq,wr,z0,z4,z1,and_self,qj,hcell,sh,eb]
   refine Qx ?_
   simp only[zZ,reduceIte,yQ,yW,yX,yZ,yJ,yK,yV,zDk,mEnd,sAnswer,sAnswer.sRes]
   exact⟨_,Thin.refl _,by rw[e],ho,hs⟩
theorem has_at(l:List Bool)(hl:l.length≤256)(i:Int)(m:Mem):
 Abs.Spec qc 33 [Xh l,.int .i64 i] m fun u M=>u=.bool (hasV l i)∧M=m:=
 Abs.Spec.of_empty (by intro x hx;simp at hx;rcases hx with rfl|rfl<;>rfl) rfl ((has_spec l hl i ⟨[]⟩).mono fun _ _ h=>h.1) m
theorem set_put(l:List Bool)(n:Nat)(hn:n<l.length)(hl:l.length≤256):(setCells l).set (1+n/64) (.int .u64 ((Jj l (n/64)|||2^(n%64):Nat):Int))=setCells (l.set n true):=by
 have w:=fun j=>wordB_set l n j hn
 unfold setCells
 rw[List.length_set,w 0,w 1,w 2,w 3]
 have h4:n/64<4:=by omega
 generalize n/64=q at*
 match q,h4 with
 |0,_=>rfl
 |1,_=>rfl
 |2,_=>rfl
 |3,_=>rfl
def Uy(l:List Bool)(i:Int):List Bool:=if 0≤i∧i<(l.length:Int)then l.set i.toNat true else l
theorem with_spec(l:List Bool)(hl:l.length≤256)(i:Int)(m:Mem):
 Abs.Spec qc 76 [Xh l,.int .i64 i] m fun u M=>u=Xh (Uy l i)∧(∀b x,m.get b=some x→M.get b=some x)∧m.size≤M.size:=by
 refine Abs.Spec.walkM Tryz.func76 (by rfl) _ Tryz.results76 _ Tryz.ntmps76 (by simp) ?_
 intro hc hx k
 have bx:=bx_set l
 have hal:=al_Set
 generalize J6 qc 57=s1 at bx hal
 refine J0 (J1 ?_)
 simp only[zZ,reduceIte,yQ,yW,yX,yZ,yJ,yK,yV,zDk,bx,hal]
 obtain⟨M1,hM1⟩:∃M1,M1=m.push (.cells false s1 (setCells l)):=⟨_,rfl⟩
 obtain⟨M2,hM2⟩:∃M2,M2=M1.push (.cells false s1 [.int .i64 0,.int .u64 0,.int .u64 0,.int .u64 0,.int .u64 0]):=⟨_,rfl⟩
 obtain⟨b1,hb1⟩:∃b,b=m.size:=⟨_,rfl⟩
 obtain⟨b2,hb2⟩:∃b,b=M1.size:=⟨_,rfl⟩
 have hs1:M1.size=m.size+1:=by rw[hM1,Mem.size_push]
 have hs2:M2.size=m.size+2:=by rw[hM2,Mem.size_push,hs1]
 have g1:M2.get b1=some (.cells false s1 (setCells l)):=by rw[hM2,Mem.get_push_old (by omega),hM1,hb1,Mem.get_push_new]
 have g2:M2.get b2=some (.cells false s1 [.int .i64 0,.int .u64 0,.int .u64 0,.int .u64 0,.int .u64 0]):=by rw[hM2,hb2,Mem.get_push_new]
 have ho:∀b x,m.get b=some x→M2.get b=some x:=fun b x hb=>by
  have:=Mem.get_lt hb
  rw[hM2,Mem.get_push_old (by omega),hM1,Mem.get_push_old this];exact hb
 have hne:b1≠b2:=by omega
 rw[←hM1,←hM2,←hb1,←hb2]
 have fin:∀(M3:Mem)(L:List Bool),M3.get b1=some (.cells false s1 (setCells L))→M3.get b2=some (.cells false s1 [.int .i64 0,.int .u64 0,.int .u64 0,.int .u64 0,.int .u64 0])→(∀b x,m.get b=some x→M3.get b=some x)→m.size≤M3.size→
  ∃M4,Ji 5 M3 b2 0 (setCells L) (M3.get b2)=some M4∧M4.get b2=some (.cells false s1 (setCells L))∧(∀b x,m.get b=some x→M4.get b=some x)∧m.size≤M4.size:=fun M3 L h1 h2 h3 h4=>
  ⟨M3.set b2 (some (.cells false s1 (setCells L))),by rw[h2];rfl,Mem.get_set_same h2 _,fun b x hb=>by rw[Mem.get_set_ne (by have:=Mem.get_lt hb;omega)];exact h3 b x hb,by rw[Mem.size_set];exact h4⟩
 have row:∀L:List Bool,Jv 5 0 (some (.cells false s1 (setCells L)))=some (Xh L):=fun L=>rfl
 have agg:∀L:List Bool,(Xh L).cells.toList=setCells L:=fun L=>rfl
 refine QR (fun f M3=>f=[(2,.pointer (some ⟨b1,0,none⟩)),(4,.pointer (some ⟨b2,0,none⟩))]∧M3.get b1=some (.cells false s1 (setCells (Uy l i)))∧M3.get b2=some (.cells false s1 [.int .i64 0,.int .u64 0,.int .u64 0,.int .u64 0,.int .u64 0])∧(∀b x,m.get b=some x→M3.get b=some x)∧m.size≤M3.size) ?_ ?_
 ·refine J0 (J1 ?_)
  cases q1:decide (i≥0)
  ·have e:Uy l i=l:=by unfold Uy;have:=of_decide_eq_false q1;rw[if_neg (by omega)]
   simp only[zZ,reduceIte,yQ,yW,yX,yZ,yJ,yK,yV,zDk,q1]
   refine Qa false (by rfl) (fun h=>by cases h) (fun _=>J3 ?_)
   refine⟨[2,4],?_⟩
   simp only[zZ,reduceIte,yQ,yW,yX,yZ,yJ,yK,yV,keepF]
   exact⟨M2,Thin.refl _,by rw[e];exact g1,g2,ho,by omega⟩
  ·have h0:=of_decide_eq_true q1
   obtain⟨n,rfl⟩:=qI h0
   cases q2:decide ((n:Int)<(l.length:Int))
   ·have e:Uy l (n:Int)=l:=by unfold Uy;have:=of_decide_eq_false q2;rw[if_neg (by omega)]
    simp only[zZ,reduceIte,yQ,yW,yX,yZ,yJ,yK,yV,zDk,q1,g1,set_len,q2]
    refine Qa false (by rfl) (fun h=>by cases h) (fun _=>J3 ?_)
    refine⟨[2,4],?_⟩
    simp only[zZ,reduceIte,yQ,yW,yX,yZ,yJ,yK,yV,keepF]
    exact⟨M2,Thin.refl _,by rw[e];exact g1,g2,ho,by omega⟩
   ·have h2:=of_decide_eq_true q2
    have e:Uy l (n:Int)=l.set n true:=by unfold Uy;rw[if_pos ⟨h0,h2⟩,qj]
    have wq:IntKind.i64.wrap (Int.tdiv (n:Int) 64)=((n/64:Nat):Int):=by rw[Int.tdiv_eq_ediv_of_nonneg (by omega),Xl (by omega) (by omega)];omega
    have wr:Int.tmod (n:Int) 64=((n%64:Nat):Int):=by rw[Int.tmod_eq_emod_of_nonneg (by omega)];omega
    have z0:(0:Int)≤((n/64:Nat):Int):=by omega
    have z4:((n/64:Nat):Int)<((4:Nat):Int):=by omega
    have z1:(0:Int)≤((n%64:Nat):Int):=by omega
    have hcell:=set_cell l (n/64) (by omega)
    have sl:=u64_shl1 (n%64) (by omega)
    have hw:=V3 l (n/64)
    have hp:2^(n%64)<18446744073709551616:=by
     have:2^(n%64)<2^64:=Nat.pow_lt_pow_right (by decide) (by omega)
     exact this
    have eo:=u64_or_nat (Jj l (n/64)) (2^(n%64)) hw hp
    have sp:=set_put l n (by omega) hl
    have hput:Ji 1 M2 b1 (1+n/64) [.int .u64 ((Jj l (n/64)|||2^(n%64):Nat):Int)] (some (.cells false s1 (setCells l)))=some (M2.set b1 (some (.cells false s1 (setCells (l.set n true))))):=by
     simp only[Ji]
     rw[if_pos ⟨rfl,by show 1+n/64+1≤5;omega,rfl⟩,←sp]
     rfl
    simp only[zZ,reduceIte,yQ,yW,yX,yZ,yJ,yK,yV,zDk,q1,g1,set_len,q2]
    refine Qa true (by rfl) (fun _=>QN hmix 10 (by kernel_rfl) (by kernel_rfl) ?_) (fun h=>by cases h)
    simp only[zZ,reduceIte,yQ,yW,yX,yZ,yJ,yK,yV,zDk,g1,wq,wr,z0,z4,z1,and_self,qj,hcell,sl,eo,hput]
    refine⟨[2,4],?_⟩
    simp only[zZ,reduceIte,yQ,yW,yX,yZ,yJ,yK,yV,keepF]
    refine⟨_,Thin.refl _,by rw[e];exact Mem.get_set_same g1 _,by rw[Mem.get_set_ne hne];exact g2,fun b x hb=>by rw[Mem.get_set_ne (by have:=Mem.get_lt hb;omega)];exact ho b x hb,by rw[Mem.size_set];omega⟩
 rintro _ M3 ⟨rfl,h1,h2,h3,h4⟩
 obtain⟨M4,hput,h5,h6,h7⟩:=fin M3 _ h1 h2 h3 h4
 rw[h2]at hput
 refine J0 (J1 ?_)
 simp only[zZ,reduceIte,yQ,yW,yX,yZ,yJ,yK,yV,zDk,h1,h2,row,agg,hput]
 refine Qx ?_
 simp only[zZ,reduceIte,yQ,yW,yX,yZ,yJ,yK,yV,zDk,mEnd,sAnswer,sAnswer.sRes,Q9,h5,row]
 exact⟨_,Thin.refl _,h6,by rw[hb1];exact h7⟩
theorem with_at(l:List Bool)(hl:l.length≤256)(i:Int)(m:Mem):
 Abs.Spec qc 76 [Xh l,.int .i64 i] m fun u M=>u=Xh (Uy l i)∧M=m:=
 Abs.Spec.of_empty (by intro x hx;simp at hx;rcases hx with rfl|rfl<;>rfl) rfl ((with_spec l hl i ⟨[]⟩).mono fun _ _ h=>h.1) m
theorem Zw(a b:List UInt8):bcat (str a) (str b)=str (a++b):=by
 unfold bcat str
 simp
theorem ZU(a:List UInt8):JA (str a)=a.length:=rfl
structure More(M M':Mem):Prop where
 get:∀b x,M.get b=some x→M'.get b=some x
 size:M.size≤M'.size
theorem More.refl(M:Mem):More M M:=⟨fun _ _ h=>h,Nat.le_refl _⟩
theorem More.trans{M M' M'':Mem}(h:More M M')(k:More M' M''):More M M'':=⟨fun b x hb=>k.get b x (h.get b x hb),Nat.le_trans h.size k.size⟩
theorem More.push(M:Mem)(y:Blk):More M (M.push y):=⟨fun b x hb=>by rw[Mem.get_push_old (Mem.get_lt hb)];exact hb,by rw[Mem.size_push];omega⟩
def cntB(l:List Bool)(n:Nat):Nat:=((qm n).filter fun i=>l.getD i false).length
theorem cntB_succ(l:List Bool)(n:Nat):cntB l (n+1)=cntB l n+(if l.getD n false then 1 else 0):=by
 unfold cntB
 rw[List.range_succ,List.filter_append,qf]
 congr 1
 cases h:l.getD n false<;>simp only[List.filter_cons,List.filter_nil,h]<;>rfl
theorem cntB_word(l:List Bool)(j:Nat):∀k,k≤64→cntB l (64*j+k)=cntB l (64*j)+Vk (Jj l j) k
 |0,_=>by simp[Vk]
 |k+1,hk=>by
  rw[←Nat.add_assoc,cntB_succ,cntB_word l j k (by omega),popc_succ,Qv l j k (by omega)]
  omega
def countT(l:List Bool):Nat:=(l.filter fun b=>b).length
theorem cntB_all(l:List Bool):∀n,l.length≤n→cntB l n=countT l:=by
 intro n hn
 have h1:cntB l l.length=countT l:=by
  unfold cntB countT
  have e:l=(qm l.length).map fun i=>l.getD i false:=by
   apply List.ext_getElem (by simp)
   intro i h1 h2
   simp[qh,h1]
  conv=>rhs;rw[e]
  rw[List.filter_map,List.length_map]
  rfl
 induction n with
 |zero=>rw[←h1];congr 1;omega
 |succ n ih=>
  by_cases e:l.length=n+1
  ·rw[←e];exact h1
  ·rw[cntB_succ,ih (by omega),qh,qx (by omega)]
   rfl
theorem cntB_le(l:List Bool)(n:Nat):cntB l n≤n:=by
 unfold cntB
 have:=List.length_filter_le (fun i=>l.getD i false) (qm n)
 rwa [List.length_range]at this
theorem arr_set(l:List Bool)(j:Nat)(hj:j<4):(#[Value.int .u64 (Jj l 0:Nat),.int .u64 (Jj l 1:Nat),.int .u64 (Jj l 2:Nat),.int .u64 (Jj l 3:Nat)]:Array Value)[j]?=some (.int .u64 (Jj l j:Nat)):=by
 match j,hj with
 |0,_=>rfl
 |1,_=>rfl
 |2,_=>rfl
 |3,_=>rfl
def wordsV(l:List Bool):Value:=.agg #[.int .u64 (Jj l 0:Nat),.int .u64 (Jj l 1:Nat),.int .u64 (Jj l 2:Nat),.int .u64 (Jj l 3:Nat)]
theorem ix_W4(l:List Bool)(i:Nat)(hi:i<4):Ks qc 55 (wordsV l) (.int .i64 (i:Nat))=some (.int .u64 (Jj l i:Nat)):=by
 rcases(by omega:i=0∨i=1∨i=2∨i=3)with rfl|rfl|rfl|rfl<;>kernel_rfl
theorem count_spec(l:List Bool)(hl:l.length≤256)(m:Mem):
 Abs.Spec qc 35 [Xh l] m fun u M=>u=.int .i64 (countT l:Nat)∧More m M:=by
 refine Abs.Spec.walkM Tryz.func35 (by rfl) _ Tryz.results35 _ Tryz.ntmps35 (by simp) ?_
 intro hc hx k
 have bx:=bx_set l
 generalize J6 qc 57=s1 at bx
 have row:Jv 4 1 (some (.cells false s1 (setCells l)))=some (wordsV l):=rfl
 obtain⟨M1,hM1⟩:∃M1,M1=m.push (.cells false s1 (setCells l)):=⟨_,rfl⟩
 have hg1:M1.get m.size=some (.cells false s1 (setCells l)):=by rw[hM1,Mem.get_push_new]
 have hmo:More m M1:=by rw[hM1];exact More.push _ _
 refine J0 (J1 ?_)
 simp only[zZ,reduceIte,yQ,yW,yX,yZ,yJ,yK,yV,zDk,bx]
 rw[←hM1]
 refine J0 (J1 ?_)
 simp only[zZ,reduceIte,yQ,yW,yX,yZ,yJ,yK,yV,zDk]
 refine J0 (J0 (J1 ?_))
 simp only[zZ,reduceIte,yQ,yW,yX,yZ,yJ,yK,yV,zDk,hg1,row]
 refine J8 (Jt (fun j f M'=>∃i:Nat,j=4-i∧f=[(3,.int .i64 (cntB l (64*i):Nat)),(7,wordsV l),(8,.int .i64 (i:Nat))]∧i≤4∧M'=M1) 4 ?_ ?_)
 ·refine⟨[3,7,8],?_⟩
  simp only[zZ,reduceIte,yQ,yW,yX,yZ,yJ,yK,yV,keepF]
  exact⟨M1,Thin.refl _,0,rfl,rfl,by omega,rfl⟩
 ·rintro j f M' ⟨i,rfl,rfl,hi,rfl⟩
  refine J0 (J1 ?_)
  simp only[zZ,reduceIte,yQ,yW,yX,yZ,yJ,yK,yV,zDk]
  refine J0 (Qa (decide ((i:Int)<4)) (by rfl) (fun hq=>J3 ?_) (fun hq=>Jp ?_))
  ·have hi4:=of_decide_eq_true hq
   have z0:(0:Int)≤(i:Int):=by omega
   have z4:(i:Int)<((4:Nat):Int):=by omega
   have ha:=arr_set l i (by omega)
   have w9:IntKind.i64.wrap ((i:Int)+1)=((i+1:Nat):Int):=by rw[Xl (by omega) (by omega)];omega
   have hw:=cntB_word l i 64 (Nat.le_refl _)
   rw[show 64*i+64=64*(i+1) by omega]at hw
   have hb:=cntB_le l (64*(i+1))
   have w1:IntKind.i64.wrap (((cntB l (64*i):Nat):Int)+((Vk (Jj l i) 64:Nat):Int))=((cntB l (64*(i+1)):Nat):Int):=by rw[Xl (by omega) (by omega)];omega
   simp only[zZ,reduceIte,yQ,yW,yX,yZ,yJ,yK,yV]
   refine J0 (J8 (J0 (J1 ?_)))
   simp only[zZ,reduceIte,yQ,yW,yX,yZ,yJ,yK,yV,zDk,ix_W4 l i (by omega)]
   refine J1 ?_
   simp only[zZ,reduceIte,yQ,yW,yX,yZ,yJ,yK,yV,zDk]
   refine⟨by kernel_rfl,_,ones_spec (Jj l i) (V3 l i) _,?_⟩
   rintro _ M9 ⟨rfl,e9⟩;replace e9:=e9.symm;subst e9
   simp only[zZ,reduceIte,yQ,yW,yX,yZ,yJ,yK,yV,zDk,w1]
   refine J1 ?_
   simp only[zZ,reduceIte,yQ,yW,yX,yZ,yJ,yK,yV,zDk,w9]
   refine⟨[3,7,8],?_⟩
   simp only[zZ,reduceIte,yQ,yW,yX,yZ,yJ,yK,yV,keepF]
   exact⟨_,Thin.refl _,4-(i+1),⟨i+1,rfl,rfl,by omega,rfl⟩,by omega⟩
  ·have hi4:=of_decide_eq_false hq
   have hE:i=4:=by omega
   subst hE
   simp only[zZ,reduceIte,yQ,yW,yX,yZ,yJ,yK,yV]
   refine J0 (J1 ?_)
   simp only[zZ,reduceIte,yQ,yW,yX,yZ,yJ,yK,yV,zDk]
   refine Qx ?_
   simp only[zZ,reduceIte,yQ,yW,yX,yZ,yJ,yK,yV,zDk,mEnd,sAnswer,sAnswer.sRes]
   exact⟨_,Thin.refl _,by rw[cntB_all l _ (by omega)],hmo⟩
theorem count_at(l:List Bool)(hl:l.length≤256)(m:Mem):
 Abs.Spec qc 35 [Xh l] m fun u M=>u=.int .i64 (countT l:Nat)∧M=m:=
 Abs.Spec.of_empty (by intro x hx;simp at hx;subst hx;rfl) rfl ((count_spec l hl ⟨[]⟩).mono fun _ _ h=>h.1) m
theorem countT_all(l:List Bool):(countT l=l.length)↔l.all (fun b=>b)=true:=by
 unfold countT
 rw[qu]
 constructor
 ·intro h b hb
  have:=(List.filter_eq_self (p:=fun b=>b) (l:=l)).1 (List.Sublist.eq_of_length List.filter_sublist h)
  exact this b hb
 ·intro h
  rw[(List.filter_eq_self (p:=fun b=>b) (l:=l)).2 h]
theorem full_spec(l:List Bool)(hl:l.length≤256)(m:Mem):
 Abs.Spec qc 77 [Xh l] m fun u M=>u=.bool (l.all fun b=>b)∧More m M:=by
 refine Abs.Spec.walkM Tryz.func77 (by rfl) _ Tryz.results77 _ Tryz.ntmps77 (by simp) ?_
 intro hc hx k
 have bx:=bx_set l
 generalize J6 qc 57=s1 at bx
 have row:Jv 5 0 (some (.cells false s1 (setCells l)))=some (Xh l):=rfl
 obtain⟨M1,hM1⟩:∃M1,M1=m.push (.cells false s1 (setCells l)):=⟨_,rfl⟩
 obtain⟨b1,hb1⟩:∃b1,b1=m.size:=⟨_,rfl⟩
 have hg1:M1.get b1=some (.cells false s1 (setCells l)):=by rw[hM1,hb1,Mem.get_push_new]
 have hmo:More m M1:=by rw[hM1];exact More.push _ _
 refine J0 (J1 ?_)
 simp only[zZ,reduceIte,yQ,yW,yX,yZ,yJ,yK,yV,zDk,bx]
 rw[←hM1,←hb1]
 refine J0 (QN hmix 4 (by kernel_rfl) (by kernel_rfl) ?_)
 simp only[zZ,reduceIte,yQ,yW,yX,yZ,yJ,yK,yV,zDk,hg1,row]
 refine⟨by kernel_rfl,_,count_at l hl M1,?_⟩
 refine⟨by decide,?_⟩
 have e:(((countT l:Nat):Int)==(l.length:Int))=l.all fun b=>b:=by
  rw[qD,beq_iff_eq,←countT_all]
  exact Int.ofNat_inj
 simp only[zZ,reduceIte,yQ,yW,yX,yZ,yJ,yK,yV,zDk,hg1,set_len,e]
 refine Qx ?_
 simp only[zZ,reduceIte,yQ,yW,yX,yZ,yJ,yK,yV,zDk,mEnd,sAnswer,sAnswer.sRes]
 exact⟨_,Thin.refl _,hmo⟩
theorem full_at(l:List Bool)(hl:l.length≤256)(m:Mem):
 Abs.Spec qc 77 [Xh l] m fun u M=>u=.bool (l.all fun b=>b)∧M=m:=
 Abs.Spec.of_empty (by intro x hx;simp at hx;subst hx;rfl) rfl ((full_spec l hl ⟨[]⟩).mono fun _ _ h=>h.1) m
def setWord(l:List Bool):List UInt8→Nat→List UInt8
 |t,0=>t
 |t,j+1=>setWord l t j++Sha.fixed (Jj l j:Nat) 8
theorem setWord_len(l:List Bool):∀j,(setWord l [] j).length=8*j
 |0=>rfl
 |j+1=>by rw[setWord,qf,setWord_len l j,Sha.fixed_length];omega
theorem fixed_wrap(n:Nat)(hn:n<18446744073709551616):Sha.fixed (IntKind.i64.wrap (n:Int)) 8=Sha.fixed (n:Int) 8:=by
 have key:∀(a b:Int)(k:Nat),(∀j,j<k→a/256^j%256=b/256^j%256)→Sha.fixed a k=Sha.fixed b k:=by
  intro a b k
  induction k with
  |zero=>intro _;rfl
  |succ k ih=>
   intro h
   rw[Z5,Z5,h k (by omega),ih fun j hj=>h j (by omega)]
 have hm:IntKind.i64.wrap (n:Int)=(n:Int)∨IntKind.i64.wrap (n:Int)=(n:Int)-18446744073709551616:=by rw[IntKind.wrap_i64];omega
 rcases hm with h|h
 ·rw[h]
 ·rw[h]
  refine key _ _ 8 fun j hj=>?_
  rcases(by omega:j=0∨j=1∨j=2∨j=3∨j=4∨j=5∨j=6∨j=7)with rfl|rfl|rfl|rfl|rfl|rfl|rfl|rfl<;>simp only[Int.reducePow]<;>omega
theorem sput_spec(l:List Bool)(m:Mem):
 Abs.Spec qc 210 [Xh l] m fun u M=>u=.string (str (XH l))∧More m M:=by
 refine Abs.Spec.walkM Tryz.func210 (by rfl) _ Tryz.results210 _ Tryz.ntmps210 (by simp) ?_
 intro hc hx k
 have bx:=bx_set l
 generalize J6 qc 57=s1 at bx
 have row:Jv 4 1 (some (.cells false s1 (setCells l)))=some (wordsV l):=rfl
 obtain⟨M1,hM1⟩:∃M1,M1=m.push (.cells false s1 (setCells l)):=⟨_,rfl⟩
 have hg1:M1.get m.size=some (.cells false s1 (setCells l)):=by rw[hM1,Mem.get_push_new]
 have hmo:More m M1:=by rw[hM1];exact More.push _ _
 have zemp:(⟨#[]⟩:ByteArray)=str []:=rfl
 refine J0 (J1 ?_)
 simp only[zZ,reduceIte,yQ,yW,yX,yZ,yJ,yK,yV,zDk,bx]
 rw[←hM1]
 refine J0 (J1 ?_)
 simp only[zZ,reduceIte,yQ,yW,yX,yZ,yJ,yK,yV,zDk,zemp]
 refine J0 (J0 (J1 ?_))
 simp only[zZ,reduceIte,yQ,yW,yX,yZ,yJ,yK,yV,zDk,hg1,row]
 refine J8 (Jt (fun j f M'=>∃i:Nat,j=4-i∧f=[(3,.string (str (setWord l [] i))),(7,wordsV l),(8,.int .i64 (i:Nat))]∧i≤4∧M'=M1) 4 ?_ ?_)
 ·refine⟨[3,7,8],?_⟩
  simp only[zZ,reduceIte,yQ,yW,yX,yZ,yJ,yK,yV,keepF]
  exact⟨M1,Thin.refl _,0,rfl,rfl,by omega,rfl⟩
 ·rintro j f M' ⟨i,rfl,rfl,hi,rfl⟩
  refine J0 (J1 ?_)
  simp only[zZ,reduceIte,yQ,yW,yX,yZ,yJ,yK,yV,zDk]
  refine J0 (Qa (decide ((i:Int)<4)) (by rfl) (fun hq=>J3 ?_) (fun hq=>Jp ?_))
  ·have hi4:=of_decide_eq_true hq
   have w9:IntKind.i64.wrap ((i:Int)+1)=((i+1:Nat):Int):=by rw[Xl (by omega) (by omega)];omega
   have hwl:=setWord_len l i
   have hfx:=Kl (IntKind.i64.wrap ((Jj l i:Nat):Int)) 8 (by decide) (by decide) M'
   rw[fixed_wrap _ (V3 l i)]at hfx
   have hfl:=Sha.fixed_length 8 ((Jj l i:Nat):Int)
   simp only[zZ,reduceIte,yQ,yW,yX,yZ,yJ,yK,yV]
   refine J0 (J8 (J0 (J1 ?_)))
   simp only[zZ,reduceIte,yQ,yW,yX,yZ,yJ,yK,yV,zDk,ix_W4 l i (by omega)]
   refine J1 ?_
   simp only[zZ,reduceIte,yQ,yW,yX,yZ,yJ,yK,yV,zDk]
   refine⟨by kernel_rfl,_,hfx,?_⟩
   rintro _ M9 ⟨rfl,e9⟩;replace e9:=e9.symm;subst e9
   simp only[zZ,reduceIte,yQ,yW,yX,yZ,yJ,yK,yV,zDk,Zw,ZU]
   refine⟨by omega,?_⟩
   refine J1 ?_
   simp only[zZ,reduceIte,yQ,yW,yX,yZ,yJ,yK,yV,zDk,w9]
   refine⟨[3,7,8],?_⟩
   simp only[zZ,reduceIte,yQ,yW,yX,yZ,yJ,yK,yV,keepF]
   exact⟨M',Thin.refl _,4-(i+1),⟨i+1,rfl,rfl,by omega,rfl⟩,by omega⟩
  ·have hi4:=of_decide_eq_false hq
   have hE:i=4:=by omega
   subst hE
   simp only[zZ,reduceIte,yQ,yW,yX,yZ,yJ,yK,yV]
   refine J0 (J1 ?_)
   simp only[zZ,reduceIte,yQ,yW,yX,yZ,yJ,yK,yV,zDk]
   refine Qx ?_
   simp only[zZ,reduceIte,yQ,yW,yX,yZ,yJ,yK,yV,zDk,mEnd,sAnswer,sAnswer.sRes]
   exact⟨_,Thin.refl _,rfl,hmo⟩
theorem sput_at(l:List Bool)(m:Mem):
 Abs.Spec qc 210 [Xh l] m fun u M=>u=.string (str (XH l))∧M=m:=
 Abs.Spec.of_empty (by intro x hx;simp at hx;subst hx;rfl) rfl ((sput_spec l ⟨[]⟩).mono fun _ _ h=>h.1) m
theorem bnew_spec(n:Nat)(hn:n≤256)(m:Mem):
 Abs.Spec qc 60 [.int .i64 (n:Nat)] m fun u M=>u=Xh (qd n false)∧More m M:=by
 refine Abs.Spec.walkM Tryz.func60 (by rfl) _ Tryz.results60 _ Tryz.ntmps60 (by simp) ?_
 intro hc hx k
 have hal:=al_Set
 generalize J6 qc 57=s1 at hal
 have e1:max (n:Int) 0=(n:Int):=by omega
 have e2:min (n:Int) 256=(n:Int):=by omega
 have hbd:Qo qc 57 [(0,.int .i64 (n:Nat))]=some (.agg #[.int .i64 (n:Nat),.int .u64 0,.int .u64 0,.int .u64 0,.int .u64 0]):=by kernel_rfl
 have hs:setCells (qd n false)=[.int .i64 (n:Nat),.int .u64 0,.int .u64 0,.int .u64 0,.int .u64 0]:=by
  unfold setCells
  rw[Vp,Vp,Vp,Vp,qL]
  rfl
 have hput:∀M0 b,Ji 5 M0 b 0 [.int .i64 (n:Nat),.int .u64 0,.int .u64 0,.int .u64 0,.int .u64 0] (some (.cells false s1 [.int .i64 0,.int .u64 0,.int .u64 0,.int .u64 0,.int .u64 0]))=some (M0.set b (some (.cells false s1 (setCells (qd n false))))):=fun M0 b=>by rw[hs];rfl
 have row:∀L:List Bool,Jv 5 0 (some (.cells false s1 (setCells L)))=some (Xh L):=fun L=>rfl
 refine J0 (J1 ?_)
 simp only[zZ,reduceIte,yQ,yW,yX,yZ,yJ,yK,yV,zDk,hal]
 obtain⟨M1,hM1⟩:∃M1,M1=m.push (.cells false s1 [.int .i64 0,.int .u64 0,.int .u64 0,.int .u64 0,.int .u64 0]):=⟨_,rfl⟩
 obtain⟨b1,hb1⟩:∃b1,b1=m.size:=⟨_,rfl⟩
 have hg1:M1.get b1=some (.cells false s1 [.int .i64 0,.int .u64 0,.int .u64 0,.int .u64 0,.int .u64 0]):=by rw[hM1,hb1,Mem.get_push_new]
 have hmo:More m M1:=by rw[hM1];exact More.push _ _
 rw[←hM1,←hb1]
 have hgs:(M1.set b1 (some (.cells false s1 (setCells (qd n false))))).get b1=some (.cells false s1 (setCells (qd n false))):=Mem.get_set_same hg1 _
 have hm2:More m (M1.set b1 (some (.cells false s1 (setCells (qd n false))))):=⟨fun b x hb=>by rw[Mem.get_set_ne (by have:=Mem.get_lt hb;omega)];exact hmo.get b x hb,by rw[Mem.size_set];exact hmo.size⟩
 refine J0 (J1 ?_)
 simp only[zZ,reduceIte,yQ,yW,yX,yZ,yJ,yK,yV,zDk,vMax_int,vMin_int,e1,e2,hbd,agg_cells,hg1,hput]
 refine Qx ?_
 simp only[zZ,reduceIte,yQ,yW,yX,yZ,yJ,yK,yV,zDk,mEnd,sAnswer,sAnswer.sRes,Q9,hgs,row]
 exact⟨_,Thin.refl _,hm2⟩
theorem bnew_at(n:Nat)(hn:n≤256)(m:Mem):
 Abs.Spec qc 60 [.int .i64 (n:Nat)] m fun u M=>u=Xh (qd n false)∧M=m:=
 Abs.Spec.of_empty (by intro x hx;simp at hx;subst hx;rfl) rfl ((bnew_spec n hn ⟨[]⟩).mono fun _ _ h=>h.1) m
theorem size_spec(l:List Bool)(m:Mem):
 Abs.Spec qc 108 [Xh l] m fun u M=>u=.int .i64 (l.length:Nat)∧More m M:=by
 refine Abs.Spec.walkM Tryz.func108 (by rfl) _ Tryz.results108 _ Tryz.ntmps108 (by simp) ?_
 intro hc hx k
 have bx:=bx_set l
 generalize J6 qc 57=s1 at bx
 refine J0 (J1 ?_)
 simp only[zZ,reduceIte,yQ,yW,yX,yZ,yJ,yK,yV,zDk,bx]
 refine J0 (J1 ?_)
 simp only[zZ,reduceIte,yQ,yW,yX,yZ,yJ,yK,yV,zDk,Mem.get_push_new,set_len]
 refine Qx ?_
 simp only[zZ,reduceIte,yQ,yW,yX,yZ,yJ,yK,yV,zDk,mEnd,sAnswer,sAnswer.sRes]
 exact⟨_,Thin.refl _,More.push _ _⟩
theorem size_at(l:List Bool)(m:Mem):
 Abs.Spec qc 108 [Xh l] m fun u M=>u=.int .i64 (l.length:Nat)∧M=m:=
 Abs.Spec.of_empty (by intro x hx;simp at hx;subst hx;rfl) rfl ((size_spec l ⟨[]⟩).mono fun _ _ h=>h.1) m
def JT(n:Nat)(l:List Bool):List Value:=[.int .i64 (n:Nat),.int .u64 (Jj l 0:Nat),.int .u64 (Jj l 1:Nat),.int .u64 (Jj l 2:Nat),.int .u64 (Jj l 3:Nat)]
def rawV(n:Nat)(l:List Bool):Value:=.agg (JT n l).toArray
def QI(l m:List Bool)(n:Nat):Bool:=(qm n).all fun i=> !(l.getD i false)||m.getD i false
theorem andNot_zero(a b:Nat)(ha:a<18446744073709551616)(hb:b<18446744073709551616):(bits .andNot .u64 (a:Int) (b:Int)=0)↔∀k,k<64→a.testBit k=true→b.testBit k=true:=by
 have e:bits .andNot .u64 (a:Int) (b:Int)=((BitVec.ofInt 64 (a:Int)&&& ~~~ (BitVec.ofInt 64 (b:Int))).toNat:Int):=by
  show IntKind.u64.wrap _=_
  exact XR _ (BitVec.isLt _)
 rw[e]
 have hA:∀k,k<64→(BitVec.ofInt 64 (a:Int)).getLsbD k=a.testBit k:=fun k hk=>by rw[←BitVec.testBit_toNat,VA a ha]
 have hB:∀k,k<64→(BitVec.ofInt 64 (b:Int)).getLsbD k=b.testBit k:=fun k hk=>by rw[←BitVec.testBit_toNat,VA b hb]
 constructor
 ·intro h k hk hak
  have h0:(BitVec.ofInt 64 (a:Int)&&& ~~~ (BitVec.ofInt 64 (b:Int)))=0#64:=BitVec.eq_of_toNat_eq (by simpa using h)
  have h1:=congrArg (fun v=>BitVec.getLsbD v k) h0
  simp only[BitVec.getLsbD_and,BitVec.getLsbD_not,hA k hk,hB k hk,hak,hk,decide_true,qB,BitVec.getLsbD_zero,Bool.not_eq_false']at h1
  exact h1
 ·intro h
  have h0:(BitVec.ofInt 64 (a:Int)&&& ~~~ (BitVec.ofInt 64 (b:Int)))=0#64:=by
   apply BitVec.eq_of_getLsbD_eq
   intro k hk
   simp only[BitVec.getLsbD_and,BitVec.getLsbD_not,hA k hk,hB k hk,hk,decide_true,qB,BitVec.getLsbD_zero]
   cases ha':a.testBit k
   ·rfl
   ·rw[h k hk ha'];rfl
  rw[h0];rfl
theorem withinB_word(l m:List Bool)(j:Nat):QI l m (64*(j+1))=(QI l m (64*j)&&decide (bits .andNot .u64 (Jj l j:Nat) (Jj m j:Nat)=0)):=by
 rw[qD,qo,decide_eq_true_eq,andNot_zero _ _ (V3 l j) (V3 m j)]
 unfold QI
 simp only[qu,qp,Bool.or_eq_true,Bool.not_eq_true']
 constructor
 ·intro h
  refine⟨fun i hi=>h i (by omega),fun k hk hl=>?_⟩
  rw[Qv _ _ _ hk]at hl ⊢
  rcases h (64*j+k) (by omega)with h1|h1
  ·rw[h1]at hl;cases hl
  ·exact h1
 ·rintro⟨h1,h2⟩ i hi
  by_cases hj:i<64*j
  ·exact h1 i hj
  ·have:=h2 (i-64*j) (by omega)
   rw[Qv _ _ _ (by omega),Qv _ _ _ (by omega),show 64*j+(i-64*j)=i by omega]at this
   cases hl:l.getD i false
   ·exact .inl rfl
   ·exact .inr (this hl)
def chainO:List (Option Bool)→Option Bool
 | []=>some true
 |o::r=>match o with
  |some true=>chainO r
  |some false=>some false
  |none=>none
theorem chainO_eq:∀l:List Bool,chainO (l.map some)=some (l.all id)
 | []=>rfl
 |true::r=>by simp only[qJ,chainO,chainO_eq r,qR,id,qB]
 |false::r=>by simp only[qJ,chainO,qR,id,Bool.false_and]
def sameRaw(n:Nat)(l:List Bool)(n':Nat)(m:List Bool):Bool:=[((n:Nat):Int)==(n':Nat),((Jj l 0:Nat):Int)==(Jj m 0:Nat),((Jj l 1:Nat):Int)==(Jj m 1:Nat),((Jj l 2:Nat):Int)==(Jj m 2:Nat),((Jj l 3:Nat):Int)==(Jj m 3:Nat)].all id
theorem set_eql(cx:Bool)(n n':Nat)(l m:List Bool):aBin qc .eql 57 cx (rawV n l) (rawV n' m)=some (.bool (sameRaw n l n' m)):=by
 have e0:aBin qc .eql 57 cx (rawV n l) (rawV n' m)=(chainO [some (((n:Nat):Int)==(n':Nat)),chainO ([((Jj l 0:Nat):Int)==(Jj m 0:Nat),((Jj l 1:Nat):Int)==(Jj m 1:Nat),((Jj l 2:Nat):Int)==(Jj m 2:Nat),((Jj l 3:Nat):Int)==(Jj m 3:Nat)].map some)]).map fun b=>.bool b:=by cases cx<;>kernel_rfl
 rw[e0,chainO_eq]
 unfold sameRaw
 cases h1:(((n:Nat):Int)==(n':Nat))
 ·rfl
 ·simp only[chainO,qR,id,qB,List.all_nil,Bool.and_true]
  cases(((Jj l 0:Nat):Int)==(Jj m 0:Nat))<;>cases(((Jj l 1:Nat):Int)==(Jj m 1:Nat))<;>cases(((Jj l 2:Nat):Int)==(Jj m 2:Nat))<;>cases(((Jj l 3:Nat):Int)==(Jj m 3:Nat))<;>rfl
theorem bx_raw(n:Nat)(l:List Bool):QS qc 57 (rawV n l)=some (.cells false (J6 qc 57) (JT n l)):=bx_Set _ rfl
theorem raw_cell(n:Nat)(l:List Bool)(j:Nat)(hj:j<4):(JT n l)[1+j]?=some (.int .u64 (Jj l j:Nat)):=by
 match j,hj with
 |0,_=>rfl
 |1,_=>rfl
 |2,_=>rfl
 |3,_=>rfl
theorem sameRaw_within{n n':Nat}{l m:List Bool}(h:sameRaw n l n' m=true):QI l m 256=true:=by
 unfold sameRaw at h
 simp only[qR,List.all_nil,id,Bool.and_true,qo,beq_iff_eq,Int.ofNat_inj]at h
 obtain⟨_,h0,h1,h2,h3⟩:=h
 unfold QI
 rw[qu]
 intro i hi
 rw[qp]at hi
 have e:Jj l (i/64)=Jj m (i/64):=by
  rcases(by omega:i/64=0∨i/64=1∨i/64=2∨i/64=3)with e|e|e|e<;>rw[e]<;>assumption
 have a:=Qv l (i/64) (i%64) (qA _ (by decide))
 have b:=Qv m (i/64) (i%64) (qA _ (by decide))
 rw[qv]at a b
 rw[←a,←b,e]
 cases(Jj m (i/64)).testBit (i%64)<;>rfl
theorem withinB_less{l m:List Bool}{a b:Nat}(h:QI l m b=true)(hab:a≤b):QI l m a=true:=by
 unfold QI at*
 rw[qu]at*
 intro i hi
 rw[qp]at hi
 exact h i (qp.2 (by omega))
theorem within_spec(n n':Nat)(l l':List Bool)(m:Mem):
 Abs.Spec qc 34 [rawV n l,rawV n' l'] m fun u M=>u=.bool (QI l l' 256)∧More m M:=by
 refine Abs.Spec.walkM Tryz.func34 (by rfl) _ Tryz.results34 _ Tryz.ntmps34 (by simp) ?_
 intro hc hx k
 have bx:=bx_raw n l
 have bx':=bx_raw n' l'
 generalize J6 qc 57=s1 at bx bx'
 have row:∀n l,Jv 5 0 (some (.cells false s1 (JT n l)))=some (rawV n l):=fun n l=>rfl
 have row4:∀n l,Jv 4 1 (some (.cells false s1 (JT n l)))=some (wordsV l):=fun n l=>rfl
 obtain⟨M1,hM1⟩:∃M1,M1=m.push (.cells false s1 (JT n l)):=⟨_,rfl⟩
 obtain⟨M2,hM2⟩:∃M2,M2=M1.push (.cells false s1 (JT n' l')):=⟨_,rfl⟩
 obtain⟨b1,hb1⟩:∃b,b=m.size:=⟨_,rfl⟩
 obtain⟨b2,hb2⟩:∃b,b=M1.size:=⟨_,rfl⟩
 have hs1:M1.size=m.size+1:=by rw[hM1,Mem.size_push]
 have g1:M2.get b1=some (.cells false s1 (JT n l)):=by rw[hM2,Mem.get_push_old (by omega),hM1,hb1,Mem.get_push_new]
 have g2:M2.get b2=some (.cells false s1 (JT n' l')):=by rw[hM2,hb2,Mem.get_push_new]
 have hmo:More m M2:=by rw[hM2,hM1];exact(More.push _ _).trans (More.push _ _)
 refine J0 (J1 ?_)
 simp only[zZ,reduceIte,yQ,yW,yX,yZ,yJ,yK,yV,zDk,bx,bx']
 rw[←hM1,←hM2,←hb1,←hb2]
 refine J0 (J0 (J1 ?_))
 simp only[zZ,reduceIte,yQ,yW,yX,yZ,yJ,yK,yV,zDk,g1,g2,row,set_eql]
 refine Qa (sameRaw n l n' l') (by rfl) (fun h=>J0 (J1 ?_)) (fun h=>J3 ?_)
 ·simp only[zZ,reduceIte,yQ,yW,yX,yZ,yJ,yK,yV,zDk]
  refine Qx ?_
  simp only[zZ,reduceIte,yQ,yW,yX,yZ,yJ,yK,yV,zDk,mEnd,sAnswer,sAnswer.sRes]
  exact⟨M2,Thin.refl _,by rw[sameRaw_within h],hmo⟩
 simp only[zZ,reduceIte,yQ,yW,yX,yZ,yJ,yK,yV]
 refine J0 (J0 (J1 ?_))
 simp only[zZ,reduceIte,yQ,yW,yX,yZ,yJ,yK,yV,zDk,g1,row4]
 refine J8 (Jt (fun j f M'=>∃i:Nat,j=4-i∧f=[(3,.pointer (some ⟨b2,0,none⟩)),(11,wordsV l),(12,.int .i64 (i:Nat))]∧i≤4∧QI l l' (64*i)=true∧M'=M2) 4 ?_ ?_)
 ·refine⟨[3,11,12],?_⟩
  simp only[zZ,reduceIte,yQ,yW,yX,yZ,yJ,yK,yV,keepF]
  exact⟨M2,Thin.refl _,0,rfl,rfl,by omega,rfl,rfl⟩
 ·rintro j f M' ⟨i,rfl,rfl,hi,hwi,rfl⟩
  refine J0 (J1 ?_)
  simp only[zZ,reduceIte,yQ,yW,yX,yZ,yJ,yK,yV,zDk]
  refine J0 (Qa (decide ((i:Int)<4)) (by rfl) (fun hq=>J3 ?_) (fun hq=>Jp ?_))
  ·have hi4:=of_decide_eq_true hq
   have z0:(0:Int)≤(i:Int):=by omega
   have z4:(i:Int)<((4:Nat):Int):=by omega
   have w9:IntKind.i64.wrap ((i:Int)+1)=((i+1:Nat):Int):=by rw[Xl (by omega) (by omega)];omega
   have hcell:=raw_cell n' l' i (by omega)
   have hww:=withinB_word l l' i
   rw[hwi,qB]at hww
   obtain⟨A,hA⟩:∃A,A=bits .andNot .u64 (Jj l i:Nat) (Jj l' i:Nat):=⟨_,rfl⟩
   have ean:XP .andNot .u64 ((Jj l i:Nat):Int) ((Jj l' i:Nat):Int)=some (.int .u64 A):=by rw[hA];rfl
   have hne:(A !=0)= !QI l l' (64*(i+1)):=by
    rw[hww,←hA]
    by_cases e:A=0
    ·simp[e]
    ·simp[e]
   simp only[zZ,reduceIte,yQ,yW,yX,yZ,yJ,yK,yV]
   refine J0 (J8 (J0 (J1 ?_)))
   simp only[zZ,reduceIte,yQ,yW,yX,yZ,yJ,yK,yV,zDk,ix_W4 l i (by omega)]
   refine J0 (J1 ?_)
   simp only[zZ,reduceIte,yQ,yW,yX,yZ,yJ,yK,yV,zDk,g2,z0,z4,and_self,qj,hcell,ean,hne]
   refine Qa (!QI l l' (64*(i+1))) (by rfl) (fun hb=>J0 (J1 ?_)) (fun hb=>J3 ?_)
   ·have hb:QI l l' (64*(i+1))=false:=by simpa using hb
    have e:QI l l' 256=false:=by
     cases h2:QI l l' 256
     ·rfl
     ·rw[withinB_less h2 (by omega)]at hb;cases hb
    simp only[zZ,reduceIte,yQ,yW,yX,yZ,yJ,yK,yV,zDk]
    refine Qx ?_
    simp only[zZ,reduceIte,yQ,yW,yX,yZ,yJ,yK,yV,zDk,mEnd,sAnswer,sAnswer.sRes]
    exact⟨_,Thin.refl _,by rw[e],hmo⟩
   ·have hb:QI l l' (64*(i+1))=true:=by simpa using hb
    simp only[zZ,reduceIte,yQ,yW,yX,yZ,yJ,yK,yV]
    refine J1 ?_
    simp only[zZ,reduceIte,yQ,yW,yX,yZ,yJ,yK,yV,zDk,w9]
    refine⟨[3,11,12],?_⟩
    simp only[zZ,reduceIte,yQ,yW,yX,yZ,yJ,yK,yV,keepF]
    exact⟨_,Thin.refl _,4-(i+1),⟨i+1,rfl,rfl,by omega,hb,rfl⟩,by omega⟩
  ·have hi4:=of_decide_eq_false hq
   have hE:i=4:=by omega
   subst hE
   simp only[zZ,reduceIte,yQ,yW,yX,yZ,yJ,yK,yV]
   refine J0 (J1 ?_)
   simp only[zZ,reduceIte,yQ,yW,yX,yZ,yJ,yK,yV,zDk]
   refine Qx ?_
   simp only[zZ,reduceIte,yQ,yW,yX,yZ,yJ,yK,yV,zDk,mEnd,sAnswer,sAnswer.sRes]
   exact⟨_,Thin.refl _,by rw[←hwi],hmo⟩
theorem within_at(n n':Nat)(l l':List Bool)(m:Mem):
 Abs.Spec qc 34 [rawV n l,rawV n' l'] m fun u M=>u=.bool (QI l l' 256)∧M=m:=
 Abs.Spec.of_empty (by intro x hx;simp at hx;rcases hx with rfl|rfl<;>rfl) rfl ((within_spec n n' l l' ⟨[]⟩).mono fun _ _ h=>h.1) m
theorem Zh(get:Nat→Option Blk)(s:ByteArray)(k:Nat)(h:k≤s.size):JY qc get 9 (.string s) none (some (.int .i64 (k:Int)))=some (.string (str (s.data.toList.take k))):=by
 have hbs:JA s=s.size:=rfl
 unfold JY X3
 simp only[Tryz.underlying9,hbs]
 rw[if_pos (by omega)]
 rfl
theorem ZC(get:Nat→Option Blk)(l:List UInt8)(a:Nat)(h:a≤l.length):
 JY qc get 9 (.string (str l)) (some (.int .i64 (a:Nat))) none=some (.string (str (l.drop a))):=by
 have hbs:JA (str l)=l.length:=rfl
 unfold JY X3
 simp only[Tryz.underlying9,hbs]
 rw[if_pos (by omega)]
 show some (Value.string (str ((l.drop a).take (l.length-a))))=_
 rw[qr (by simp)]
def Uw(n:Nat):Int:=IntKind.i64.wrap (n:Int)
theorem wr64_eq(n:Nat):Uw n=(n:Int)%18446744073709551616∨Uw n=(n:Int)%18446744073709551616-18446744073709551616:=by unfold Uw;rw[IntKind.wrap_i64];omega
theorem wr64_mod(n:Nat):Uw n%18446744073709551616=(n:Int)%18446744073709551616:=by rcases wr64_eq n with h|h<;>rw[h]<;>omega
theorem ofInt_wr64(n:Nat):(BitVec.ofInt 64 (Uw n)).toNat=n%18446744073709551616:=by
 rw[BitVec.toNat_ofInt]
 have:=wr64_mod n
 have e:(2:Int)^64=18446744073709551616:=by decide
 show(Uw n%((2^64:Nat):Int)).toNat=_
 rw[show((2^64:Nat):Int)=18446744073709551616 by decide,this]
 omega
theorem or_byte(x c:Nat)(hc:c<256):(256*x)|||c=256*x+c:=(Nat.two_pow_add_eq_or_of_lt (i:=8) hc x).symm
theorem take_step(n c:Nat)(hc:c<256):bits .or .i64 (IntKind.i64.wrap (Uw n*2^min 8 IntKind.i64.bits)) (c:Int)=Uw (n*256+c):=by
 have e1:IntKind.i64.wrap (Uw n*2^min 8 IntKind.i64.bits)=Uw (n*256):=by
  show IntKind.i64.wrap (Uw n*256)=_
  unfold Uw
  rw[IntKind.wrap_i64,IntKind.wrap_i64,IntKind.wrap_i64]
  omega
 rw[e1]
 show IntKind.i64.wrap ((BitVec.ofInt 64 (Uw (n*256))|||BitVec.ofInt 64 (c:Int)).toNat:Int)=_
 rw[BitVec.toNat_or,ofInt_wr64,ZG c (by omega)]
 have e2:n*256%18446744073709551616|||c=n*256%18446744073709551616+c:=by
  have:n*256%18446744073709551616=256*(n%72057594037927936):=by omega
  rw[this];exact or_byte _ c hc
 rw[e2]
 unfold Uw
 rw[IntKind.wrap_i64,IntKind.wrap_i64]
 omega
theorem to_bytes(l:List UInt8)(h:l.length≤1000000):VR qc 9 110 (str l)=some (.cells false 1 (J5 l)):=by
 have hbs:JA (str l)=l.length:=rfl
 unfold VR
 simp only[Tryz.underlying9,Tryz.underlying110,Tryz.underlying5,hbs]
 rw[if_pos (by omega)]
 rfl
theorem ld_u8c(get:Nat→Option Blk)(b o:Nat):gLoad qc get 5 (.pointer (some ⟨b,o,none⟩))=cellIn o (get b):=Xa Tryz.underlying5 rfl get b o
theorem cell_u8(l:List UInt8)(i:Nat)(c:UInt8)(h:l[i]?=some c):(J5 l)[i]?=some (.int .u8 (c.toNat:Nat)):=by
 unfold J5
 rw[List.getElem?_map,h];rfl
theorem num_snoc'(l:List UInt8)(c:UInt8):Sha.num (l++[c])=Sha.num l*256+c.toNat:=Sha.num_snoc l c
theorem take8_spec(s:List UInt8)(hs:8≤s.length)(hsz:s.length≤1000000)(m:Mem):
 Abs.Spec qc 150 [.string (str s),.int .i64 8] m fun u M=>u=.tuple #[.int .i64 (Uw (Sha.num (s.take 8))),.string (str (s.drop 8)),.int .i64 0]∧More m M:=by
 refine Abs.Spec.walkM Tryz.func150 (by rfl) _ Tryz.results150 _ Tryz.ntmps150 (by simp) ?_
 intro hc hx k
 have hbs:JA (str s)=s.length:=rfl
 have hb8:JA (str (s.take 8))=8:=by show(s.take 8).length=8;rw[qt];omega
 have q8:decide ((s.length:Int)<8)=false:=decide_eq_false (by omega)
 have hto:∀get,JY qc get 9 (.string (str s)) none (some (.int .i64 8))=some (.string (str (s.take 8))):=fun get=>Zh get (str s) 8 (by rw[str_size];omega)
 have htl:∀get,JY qc get 9 (.string (str s)) (some (.int .i64 8)) none=some (.string (str (s.drop 8))):=fun get=>ZC get s 8 hs
 refine J0 (J1 ?_)
 simp only[zZ,reduceIte,yQ,yW,yX,yZ,yJ,yK,yV,zDk]
 have qa:decide ((8:Int)<1)=false:=rfl
 have qb:decide ((8:Int)>8)=false:=rfl
 refine J0 (J8 (J0 (J1 ?_)))
 simp only[zZ,reduceIte,yQ,yW,yX,yZ,yJ,yK,yV,zDk,decide_false]
 refine Qa false (by rfl) (fun h=>by cases h) (fun _=>J0 (J1 ?_))
 simp only[zZ,reduceIte,yQ,yW,yX,yZ,yJ,yK,yV,zDk,hbs,q8]
 refine Qa false (by rfl) (fun h=>by cases h) (fun _=>J3 ?_)
 simp only[zZ,reduceIte,yQ,yW,yX,yZ,yJ,yK,yV,zDk]
 refine J0 (J1 ?_)
 simp only[zZ,reduceIte,yQ,yW,yX,yZ,yJ,yK,yV,zDk]
 refine J0 (J0 (J1 ?_))
 simp only[zZ,reduceIte,yQ,yW,yX,yZ,yJ,yK,yV,zDk,hto,to_bytes (s.take 8) (by rw[qt];omega),hb8]
 obtain⟨M1,hM1⟩:∃M1,M1=m.push (.cells false 1 (J5 (s.take 8))):=⟨_,rfl⟩
 obtain⟨b1,hb1⟩:∃b1,b1=m.size:=⟨_,rfl⟩
 have hg1:M1.get b1=some (.cells false 1 (J5 (s.take 8))):=by rw[hM1,hb1,Mem.get_push_new]
 have hmo:More m M1:=by rw[hM1];exact More.push _ _
 rw[←hM1,←hb1]
 have inf:=Zn
 have sz:=Xu
 refine J8 (Jt (fun j f M'=>∃i:Nat,j=8-i∧f=[(0,.string (str s)),(1,.int .i64 8),(7,.int .i64 (Uw (Sha.num (s.take i)))),(25,.slice (some ⟨b1,0,none⟩) 8 8),(26,.int .i64 (8:Nat)),(27,.int .i64 (i:Nat))]∧i≤8∧M'=M1) 8 ?_ ?_)
 ·refine⟨[0,1,7,25,26,27],?_⟩
  simp only[zZ,reduceIte,yQ,yW,yX,yZ,yJ,yK,yV,keepF]
  exact⟨M1,Thin.refl _,0,rfl,rfl,by omega,rfl⟩
 ·rintro j f M' ⟨i,rfl,rfl,hi,rfl⟩
  refine J0 (J1 ?_)
  simp only[zZ,reduceIte,yQ,yW,yX,yZ,yJ,yK,yV,zDk]
  refine J0 (Qa (decide ((i:Int)<((8:Nat):Int))) (by rfl) (fun hq=>J3 ?_) (fun hq=>Jp ?_))
  ·have hi8:=of_decide_eq_true hq
   obtain⟨c,hC⟩:∃c,s[i]?=some c:=⟨_,qk (by omega)⟩
   have hC8:(s.take 8)[i]?=some c:=by rw[qF,if_pos (by omega)];exact hC
   have z0:(0:Int)≤(i:Int):=by omega
   have z1:(i:Int)<((8:Nat):Int):=by omega
   have hcell:=cell_u8 _ _ _ hC8
   have hcl:=c.toNat_lt
   have wc:IntKind.i64.wrap ((c.toNat:Nat):Int)=((c.toNat:Nat):Int):=Xl (by omega) (by omega)
   have ws:=take_step (Sha.num (s.take i)) c.toNat (by omega)
   rw[←num_snoc',show s.take i++[c]=s.take (i+1) by rw[List.take_add_one,hC];rfl]at ws
   have w9:IntKind.i64.wrap ((i:Int)+1)=((i+1:Nat):Int):=by rw[Xl (by omega) (by omega)];omega
   simp only[zZ,reduceIte,yQ,yW,yX,yZ,yJ,yK,yV]
   refine J0 (J8 (J0 (J1 ?_)))
   simp only[zZ,reduceIte,yQ,yW,yX,yZ,yJ,yK,yV,zDk,z0,z1,and_self,inf,sz,Nat.mul_one,ld_u8c,hg1,hcell]
   refine J1 ?_
   simp only[zZ,reduceIte,yQ,yW,yX,yZ,yJ,yK,yV,zDk,wc,ws]
   refine J1 ?_
   simp only[zZ,reduceIte,yQ,yW,yX,yZ,yJ,yK,yV,zDk,w9]
   refine⟨[0,1,7,25,26,27],?_⟩
   simp only[zZ,reduceIte,yQ,yW,yX,yZ,yJ,yK,yV,keepF]
   exact⟨_,Thin.refl _,8-(i+1),⟨i+1,rfl,rfl,by omega,rfl⟩,by omega⟩
  ·have hi8:=of_decide_eq_false hq
   obtain rfl:i=8:=by omega
   simp only[zZ,reduceIte,yQ,yW,yX,yZ,yJ,yK,yV]
   refine J0 (QN hmix 5 (by kernel_rfl) (by kernel_rfl) ?_)
   simp only[zZ,reduceIte,yQ,yW,yX,yZ,yJ,yK,yV,zDk,htl]
   refine Qx ?_
   simp only[zZ,reduceIte,yQ,yW,yX,yZ,yJ,yK,yV,zDk,mEnd,sAnswer,sAnswer.sRes]
   exact⟨_,Thin.refl _,hmo⟩
theorem take8_at(s:List UInt8)(hs:8≤s.length)(hsz:s.length≤1000000)(m:Mem):
 Abs.Spec qc 150 [.string (str s),.int .i64 8] m fun u M=>u=.tuple #[.int .i64 (Uw (Sha.num (s.take 8))),.string (str (s.drop 8)),.int .i64 0]∧M=m:=
 Abs.Spec.of_empty (by intro x hx;simp at hx;rcases hx with rfl|rfl<;>rfl) rfl ((take8_spec s hs hsz ⟨[]⟩).mono fun _ _ h=>h.1) m
theorem lastOf_put(L:QX)(i:Nat)(s:List UInt8)(c j:Nat):Jr (putL L i s c) j=if j=i then some s else Jr L j:=by
 unfold putL
 cases h:Jr L i with
 |none=>
  simp only
  unfold Jr
  rw[List.find?_append]
  by_cases e:j=i
  ·subst e
   rw[if_pos rfl]
   have:L.find? (fun x=>x.1==j)=none:=by
    unfold Jr at h
    exact Option.map_eq_none_iff.1 h
   rw[this]
   simp
  ·rw[if_neg e]
   have e2:(i==j)=false:=by simpa using fun h=>e h.symm
   simp[e2]
 |some t=>
  simp only
  induction L with
  |nil=>simp[Jr]at h
  |cons x L ih=>
   unfold Jr at h ih ⊢
   by_cases hx:x.1=i
   ·rw[qJ,if_pos hx]
    by_cases e:j=i
    ·subst e;simp
    ·have e2:(i==j)=false:=by simpa using fun h=>e h.symm
     have e3:(x.1==j)=false:=by rw[hx];exact e2
     rw[if_neg e,qq,qq]
     simp only[e2,e3]
     have key:∀l:QX,(l.map fun x=>if x.1=i then(i,s,x.2.2)else x).find? (fun x=>x.1==j)=l.find? fun x=>x.1==j:=by
      intro l
      induction l with
      |nil=>rfl
      |cons y l ih2=>
       rw[qJ,qq,qq,ih2]
       by_cases hy:y.1=i
       ·rw[if_pos hy]
        have e4:(y.1==j)=false:=by rw[hy];exact e2
        simp only[e2,e4]
       ·rw[if_neg hy]
     rw[key]
   ·rw[qJ,if_neg hx,qq]
    have hx2:(x.1==i)=false:=by simpa using hx
    rw[qq,hx2]at h
    have ih':=ih h
    by_cases hj:x.1=j
    ·have e:¬j=i:=fun e=>hx (hj.trans e)
     have hj2:(x.1==j)=true:=by simpa using hj
     rw[if_neg e,hj2,qq,hj2]
    ·have hj2:(x.1==j)=false:=by simpa using hj
     rw[hj2,qq,hj2]
     exact ih'
namespace Dsk
def poss(d:Dsk)(i:Nat)(s:List UInt8):Prop:=d.old[i]?=some s∨Jr d.last i=some s
def live(d:Dsk):Prop:=d.dead=false∧d.fuse= -1
theorem poss_sector{d:Dsk}{i:Nat}(h:i<d.old.length):d.poss i (d.sector i):=by
 unfold poss sector
 cases hl:Jr d.last i with
 |some s=>exact .inr rfl
 |none=>left;rw[qk h];rfl
theorem poss_lt{d:Dsk}(hok:d.Ok){i:Nat}{s:List UInt8}(h:d.poss i s):i<d.old.length∧s.length=256:=by
 rcases h with h|h
 ·obtain⟨h1,rfl⟩:=qE.1 h
  exact⟨h1,hok.size _ (List.getElem_mem h1)⟩
 ·obtain⟨b,hb⟩:=lastOf_some h
  exact hok.within _ hb
theorem put_last(d:Dsk)(i:Nat)(s:List UInt8)(j:Nat):Jr (d.put i s).last j=if j=i then some s else Jr d.last j:=lastOf_put d.last i s d.clock j
theorem put_poss{d:Dsk}{i j:Nat}{s t:List UInt8}(h:(d.put i s).poss j t):d.poss j t∨(j=i∧t=s):=by
 rcases h with h|h
 ·exact .inl (.inl h)
 ·rw[put_last]at h
  by_cases e:j=i
  ·rw[if_pos e]at h;exact .inr ⟨e,(Option.some.inj h).symm⟩
  ·rw[if_neg e]at h;exact .inl (.inr h)
theorem put_sector(d:Dsk)(i:Nat)(s:List UInt8)(j:Nat):(d.put i s).sector j=if j=i then s else d.sector j:=by
 unfold sector
 rw[put_last]
 by_cases e:j=i
 ·rw[if_pos e,if_pos e];rfl
 ·rw[if_neg e,if_neg e];rfl
theorem burnt_poss{d:Dsk}{j:Nat}{t:List UInt8}:d.burnt.poss j t↔d.poss j t:=by unfold poss;rw[Ql,Ko]
theorem Zx(d:Dsk)(j:Nat):d.burnt.sector j=d.sector j:=by unfold sector;rw[Ql,Ko]
theorem burnt_live{d:Dsk}(h:d.live):d.burnt.live:=by
 obtain⟨h1,h2⟩:=h
 unfold burnt
 rw[if_neg (by omega)]
 exact⟨h1,by simp only;omega⟩
theorem write_eq{d:Dsk}{i:Nat}{x:List UInt8}(hi:i<d.old.length)(hx:x.length≤256):
 d.write (i:Int) x=if d.dead=true then(d,7)else if d.fuse=0 then(d.burnt,7)else(d.burnt.put i (Jh x),0):=by
 unfold write may
 by_cases hd:d.dead=true
 ·rw[if_pos hd,if_pos hd];rfl
 ·rw[if_neg hd,if_neg hd,if_neg (by omega),if_neg (by omega),qj]
theorem write_poss{d:Dsk}{i j:Nat}{x t:List UInt8}(hi:i<d.old.length)(hx:x.length≤256)(h:(d.write (i:Int) x).1.poss j t):d.poss j t∨(j=i∧t=Jh x):=by
 rw[write_eq hi hx]at h
 split at h
 ·exact .inl h
 ·split at h
  ·exact .inl (burnt_poss.1 h)
  ·rcases put_poss h with h|h
   ·exact .inl (burnt_poss.1 h)
   ·exact .inr h
theorem write_old{d:Dsk}{i:Nat}{x:List UInt8}(hi:i<d.old.length)(hx:x.length≤256):(d.write (i:Int) x).1.old=d.old:=by
 rw[write_eq hi hx]
 split
 ·rfl
 ·split
  ·exact Ql d
  ·show d.burnt.old=_;exact Ql d
theorem write_ok{d:Dsk}(hok:d.Ok){i:Nat}{x:List UInt8}(hi:i<d.old.length)(hx:x.length≤256):(d.write (i:Int) x).1.Ok:=by
 rw[write_eq hi hx]
 split
 ·exact hok
 ·split
  ·exact hok.burnt
  ·exact hok.burnt.put (by rw[Ql];exact hi) (filled_len hx)
theorem write_sector{d:Dsk}{i:Nat}{x:List UInt8}(hi:i<d.old.length)(hx:x.length≤256)(h0:(d.write (i:Int) x).2=0)(j:Nat):(d.write (i:Int) x).1.sector j=if j=i then Jh x else d.sector j:=by
 rw[write_eq hi hx]at h0 ⊢
 split at h0
 ·cases h0
 ·split at h0
  ·cases h0
  ·rename_i h1 h2
   rw[if_neg h1,if_neg h2]
   simp only
   rw[put_sector,Zx]
theorem write_alive{d:Dsk}{i:Nat}{x:List UInt8}(hi:i<d.old.length)(hx:x.length≤256)(h0:(d.write (i:Int) x).2=0):d.dead=false∧(d.write (i:Int) x).1.dead=false:=by
 rw[write_eq hi hx]at h0 ⊢
 split at h0
 ·cases h0
 ·split at h0
  ·cases h0
  ·rename_i h1 h2
   rw[if_neg h1,if_neg h2]
   refine⟨by simpa using h1,?_⟩
   show d.burnt.dead=false
   unfold burnt
   rw[if_neg h2]
   simpa using h1
theorem write_live{d:Dsk}{i:Nat}{x:List UInt8}(hi:i<d.old.length)(hx:x.length≤256)(h:d.live):(d.write (i:Int) x).2=0∧(d.write (i:Int) x).1.live:=by
 rw[write_eq hi hx,if_neg (by rw[h.1];simp),if_neg (by rw[h.2];decide)]
 exact⟨rfl,burnt_live h⟩
theorem sync_eq{d:Dsk}(hn:0<d.old.length):d.sync=if d.dead=true then(d,7)else if d.fuse=0 then(d.burnt,7)else(d.burnt.synced,0):=by
 unfold sync may
 by_cases hd:d.dead=true
 ·rw[if_pos hd,if_pos hd];rfl
 ·rw[if_neg hd,if_neg hd,if_neg (by omega)]
theorem synced_old(d:Dsk)(i:Nat)(h:i<d.old.length):d.synced.old[i]?=some (d.sector i):=by
 unfold synced sector
 simp only[List.getElem?_mapIdx,qk h,Option.map_some,Option.getD_some]
theorem synced_poss{d:Dsk}{i:Nat}{s:List UInt8}(h:d.synced.poss i s):i<d.old.length∧s=d.sector i:=by
 rcases h with h|h
 ·have hi:i<d.old.length:=by
   have:=(qE.1 h).1
   simpa[synced]using this
  rw[synced_old d i hi]at h
  exact⟨hi,(Option.some.inj h).symm⟩
 ·simp[synced,Jr]at h
theorem synced_sector{d:Dsk}{i:Nat}(h:i<d.old.length):d.synced.sector i=d.sector i:=by
 have h1:Jr d.synced.last i=none:=by simp[synced,Jr]
 have h2:=synced_old d i h
 show(Jr d.synced.last i).getD ((d.synced.old[i]?).getD [])=_
 rw[h1,h2];rfl
theorem sync_poss{d:Dsk}(hn:0<d.old.length){i:Nat}{s:List UInt8}(h:d.sync.1.poss i s):d.poss i s:=by
 rw[sync_eq hn]at h
 split at h
 ·exact h
 ·split at h
  ·exact burnt_poss.1 h
  ·obtain⟨h1,rfl⟩:=synced_poss h
   rw[Zx]
   exact poss_sector (by rw[Ql]at h1;exact h1)
theorem sync_done{d:Dsk}(hn:0<d.old.length)(h0:d.sync.2=0){i:Nat}{s:List UInt8}(h:d.sync.1.poss i s):s=d.sector i:=by
 rw[sync_eq hn]at h h0
 split at h0
 ·cases h0
 ·split at h0
  ·cases h0
  ·rename_i h1 h2
   rw[if_neg h1,if_neg h2]at h
   obtain⟨_,rfl⟩:=synced_poss h
   exact Zx d i
theorem sync_sector{d:Dsk}(hn:0<d.old.length){i:Nat}(hi:i<d.old.length):d.sync.1.sector i=d.sector i:=by
 rw[sync_eq hn]
 split
 ·rfl
 ·split
  ·exact Zx d i
  ·show d.burnt.synced.sector i=_
   rw[synced_sector (by rw[Ql];exact hi),Zx]
theorem sync_len{d:Dsk}(hn:0<d.old.length):d.sync.1.old.length=d.old.length:=by
 rw[sync_eq hn]
 split
 ·rfl
 ·split
  ·show d.burnt.old.length=_;rw[Ql]
  ·show d.burnt.synced.old.length=_
   simp[synced,Ql]
theorem sync_ok{d:Dsk}(hok:d.Ok):d.sync.1.Ok:=by
 rw[sync_eq hok.pos]
 split
 ·exact hok
 ·split
  ·exact hok.burnt
  ·exact hok.burnt.synced
theorem sync_live{d:Dsk}(hn:0<d.old.length)(h:d.live):d.sync.2=0∧d.sync.1.live:=by
 rw[sync_eq hn,if_neg (by rw[h.1];simp),if_neg (by rw[h.2];decide)]
 exact⟨rfl,burnt_live h⟩
theorem crash_old(d:Dsk)(bits:Int)(i:Nat)(h:i<d.old.length):∃s,(d.crash bits).old[i]?=some s∧d.poss i s:=by
 unfold crash
 simp only[List.getElem?_mapIdx,qk h,Option.map_some]
 refine⟨_,rfl,?_⟩
 unfold poss
 split
 ·cases hl:Jr d.last i with
  |some s=>exact .inr rfl
  |none=>left;rw[qk h];rfl
 ·left;exact qk h
theorem crash_len(d:Dsk)(bits:Int):(d.crash bits).old.length=d.old.length:=by simp[crash]
theorem crash_live(d:Dsk)(bits:Int):(d.crash bits).live:=⟨rfl,rfl⟩
theorem crash_poss{d:Dsk}{bits:Int}{i:Nat}{s:List UInt8}(h:(d.crash bits).poss i s):d.poss i s∧s=(d.crash bits).sector i:=by
 rcases h with h|h
 ·have hi:i<d.old.length:=by have:=(qE.1 h).1;rwa [crash_len]at this
  obtain⟨t,h1,h2⟩:=crash_old d bits i hi
  rw[h]at h1;cases h1
  refine⟨h2,?_⟩
  have hl:Jr (d.crash bits).last i=none:=by simp[crash,Jr]
  show _=(Jr (d.crash bits).last i).getD (((d.crash bits).old[i]?).getD [])
  rw[hl,h];rfl
 ·simp[crash,Jr]at h
theorem crash_ok{d:Dsk}(hok:d.Ok)(bits:Int):(d.crash bits).Ok:=by
 refine⟨by rw[crash_len];exact hok.n,by rw[crash_len];exact hok.pos,fun s hs=>?_,by simp[crash],by simp[crash],fun x hx=>by simp[crash]at hx,fun x hx=>by simp[crash]at hx,by simp[crash],trivial⟩
 obtain⟨i,hi,rfl⟩:=List.getElem_of_mem hs
 have hi':i<d.old.length:=by rwa [crash_len]at hi
 obtain⟨t,h1,h2⟩:=crash_old d bits i hi'
 rw[qk hi]at h1
 cases h1
 exact(poss_lt hok h2).2
end Dsk
end Go.Proofs.YteccmcpaheepcaaGreatDoor
namespace Go.Proofs.YteccmcpaheepcaaGreatDoor
open Go.RowKit Abs
theorem dropW_nil{p:UInt8→Bool}:∀{l:List UInt8},l.dropWhile p=[]↔∀b∈l,p b=true
 | []=>by simp
 |a::l=>by
  rw[List.dropWhile_cons]
  by_cases h:p a=true
  ·rw[if_pos h,dropW_nil]
   simp[h]
  ·rw[if_neg h]
   simp[h]
theorem UA(l:List UInt8):JO l=[]↔∀b∈l,b=0:=by
 unfold JO Lib.trimB Lib.trimLeftB Lib.trimRightB
 rw[dropW_nil]
 constructor
 ·intro h b hb
  by_cases hz:l.reverse.dropWhile (·==0)=[]
  ·have:=dropW_nil.1 hz b (by simpa using hb)
   simpa using this
  ·exfalso
   have hm:(l.reverse.dropWhile (·==0)).head hz∈(l.reverse.dropWhile (·==0)).reverse:=by simp
   have h1:=h _ hm
   have h2:=List.head_dropWhile_not (·==(0:UInt8)) (w:=hz)
   rw[h2]at h1
   cases h1
 ·intro h b hb
  rw[List.mem_reverse]at hb
  have:=List.dropWhile_sublist (·==(0:UInt8)) (l:=l.reverse)|>.subset hb
  rw[List.mem_reverse]at this
  simp[h b this]
theorem num_from(l:List UInt8):∀a:Nat,l.foldl (fun n c=>n*256+c.toNat) a=a*256^l.length+l.foldl (fun n c=>n*256+c.toNat) 0:=by
 induction l with
 |nil=>intro a;simp
 |cons c l ih=>
  intro a
  rw[List.foldl_cons,List.foldl_cons,ih,ih (0*256+c.toNat),qy,Nat.pow_succ]
  rw[Nat.add_mul,Nat.zero_mul,Nat.zero_add,Nat.mul_assoc,Nat.mul_comm 256 (256^l.length)]
  omega
theorem num_cons(c:UInt8)(l:List UInt8):Sha.num (c::l)=c.toNat*256^l.length+Sha.num l:=by
 unfold Sha.num
 rw[List.foldl_cons,num_from]
 simp
theorem num_fixed(n:Nat):∀k:Nat,Sha.num (Sha.fixed (n:Int) k)=n%256^k
 |0=>by
  have:Sha.fixed (n:Int) 0=[]:=List.eq_nil_of_length_eq_zero (Sha.fixed_length _ _)
  rw[this];simp[Sha.num];omega
 |k+1=>by
  rw[Z5,num_cons,Sha.fixed_length,num_fixed n k]
  have e:((n:Int)/256^k%256).toNat=n/256^k%256:=by
   have:((n:Int)/256^k%256)=((n/256^k%256:Nat):Int):=by rw[Int.natCast_emod,Int.natCast_ediv,qC];rfl
   rw[this,qj]
  rw[e]
  have hb:(UInt8.ofNat (n/256^k%256)).toNat=n/256^k%256:=by
   rw[UInt8.toNat_ofNat']
   omega
  rw[hb,Nat.pow_succ]
  have h1:=qv n (256^k)
  have h2:=qv (n/256^k) 256
  have h3:n%(256^k*256)=256^k*(n/256^k%256)+n%256^k:=by rw[Nat.mod_mul,Nat.add_comm]
  rw[h3,Nat.mul_comm]
theorem Zj{n:Int}{k:Nat}(h0:0≤n)(h:n<256^k):(Sha.num (Sha.fixed n k):Int)=n:=by
 obtain⟨m,rfl⟩:=qI h0
 rw[num_fixed]
 have:(m:Int)<((256^k:Nat):Int):=by rw[qC];exact h
 rw[Nat.mod_eq_of_lt (by omega)]
theorem ba_ext{s t:ByteArray}(h:s.data.toList=t.data.toList):s=t:=ByteArray.ext (Array.ext' h)
theorem headText_eq(h:Header):JP h=[83,76,71,49]++Sha.fixed h.id 4++h.salt.data.toList++Sha.fixed h.n 2++Sha.fixed h.bytes 4++Sha.fixed h.raw 4++h.root.data.toList++h.tag.data.toList:=by
 unfold JP Header.fields
 simp[str]
theorem Vu{a b c:List UInt8}{i n:Nat}(ha:a.length=i)(hb:b.length=n):((a++(b++c)).drop i).take n=b:=by
 subst ha;subst hb
 rw[List.drop_left,List.take_left]
theorem hdrT_text(h:Header)(hok:h.okP):Vc (str (JP h))=(h,0)∧(JP h).length=98:=by
 obtain⟨id,salt,n,bytes,raw,root,tag⟩:=h
 obtain⟨h1,h2,h3,h4,h5,h6,h7,h8,h9,h10⟩:=hok
 simp only at h1 h2 h3 h4 h5 h6 h7 h8 h9 h10
 have l1:=Sha.fixed_length 4 id
 have l2:=Sha.fixed_length 2 n
 have l3:=Sha.fixed_length 4 bytes
 have l4:=Sha.fixed_length 4 raw
 have z3:salt.data.toList.length=16:=by rw[qN];exact h3
 have z4:root.data.toList.length=32:=by rw[qN];exact h4
 have z5:tag.data.toList.length=32:=by rw[qN];exact h5
 have hT:=headText_eq ⟨id,salt,n,bytes,raw,root,tag⟩
 simp only at hT
 have hlen:(JP ⟨id,salt,n,bytes,raw,root,tag⟩).length=98:=by
  rw[hT];simp only[qf,l1,l2,l3,l4,z3,z4,z5];rfl
 refine⟨?_,hlen⟩
 obtain⟨T,hTT⟩:∃T,T=JP ⟨id,salt,n,bytes,raw,root,tag⟩:=⟨_,rfl⟩
 rw[←hTT]at hT hlen ⊢
 have ex:∀a b,((str T).extract a b)=str ((T.drop a).take (b-a)):=fun a b=>by rw[Lib.extract_eq];rfl
 have e0:(T.drop 0).take 4=[83,76,71,49]:=by rw[hT];rfl
 have p1:(T.drop 4).take 4=Sha.fixed id 4:=by rw[hT];simp only[qe];exact Vu (a:=[83,76,71,49]) rfl l1
 have p2:(T.drop 8).take 16=salt.data.toList:=by rw[hT];simp only[qe];rw[←qe [83,76,71,49]];exact Vu (by rw[qf,l1];rfl) z3
 have p3:(T.drop 24).take 2=Sha.fixed n 2:=by rw[hT];rw[qe,qe,qe,qe];exact Vu (by simp only[qf,l1,z3];rfl) l2
 have p4:(T.drop 26).take 4=Sha.fixed bytes 4:=by rw[hT];rw[qe,qe,qe];exact Vu (by simp only[qf,l1,l2,z3];rfl) l3
 have p5:(T.drop 30).take 4=Sha.fixed raw 4:=by rw[hT];rw[qe,qe];exact Vu (by simp only[qf,l1,l2,l3,z3];rfl) l4
 have p6:(T.drop 34).take 32=root.data.toList:=by rw[hT];rw[qe];exact Vu (by simp only[qf,l1,l2,l3,l4,z3];rfl) z4
 have p7:(T.drop 66).take 32=tag.data.toList:=by
  rw[hT,List.drop_left' (by simp only[qf,l1,l2,l3,l4,z3,z4];rfl),qr (by omega)]
 have nm:∀a k,a+k≤98→numAt (str T) a k=Sha.num ((T.drop a).take k):=fun a k hak=>by
  unfold numAt
  rw[ex]
  show Sha.num (((T.drop a).take (98-a)).take k)=_
  rw[List.take_take,show min k (98-a)=k by omega]
 have hhead:Zr (str T)=⟨id,salt,n,bytes,raw,root,tag⟩:=by
  unfold Zr
  rw[nm 4 4 (by decide),nm 24 2 (by decide),nm 26 4 (by decide),nm 30 4 (by decide),ex 8 24,ex 34 66,ex 66 98,p1,p2,p3,p4,p5,p6,p7,
   Zj (by omega) (by omega),Zj (by omega) (by omega),Zj (by omega) (by omega),Zj (by omega) (by omega)]
  rfl
 unfold Vc
 have hc:Header.check ⟨id,salt,n,bytes,raw,root,tag⟩=0:=(Header.check_zero _).2 ⟨h1,h2,h3,h4,h5,h6,h7,h8,h9,h10⟩
 rw[hhead,if_pos ⟨by rw[str_size];exact hlen,by rw[ex 0 4,e0];rfl,by rw[hc];decide⟩]
theorem UP(n:Nat):∀(k j:Nat),j<k→((Sha.fixed (n:Int) k).getD j 0).toNat=n/256^(k-1-j)%256
 |0,j,h=>by omega
 |k+1,0,_=>by
  rw[Z5,List.getD_cons_zero]
  have e:((n:Int)/256^k%256).toNat=n/256^k%256:=by
   have:((n:Int)/256^k%256)=((n/256^k%256:Nat):Int):=by rw[Int.natCast_emod,Int.natCast_ediv,qC];rfl
   rw[this,qj]
  rw[e,UInt8.toNat_ofNat',Nat.add_sub_cancel,Nat.sub_zero]
  omega
 |k+1,j+1,h=>by
  rw[Z5,List.getD_cons_succ,UP n k j (by omega)]
  congr 3
  omega
theorem UN{a b:List UInt8}{i j:Nat}(ha:a.length=i):(a++b).getD (i+j) 0=b.getD j 0:=by
 subst ha
 simp only[qh]
 rw[List.getElem?_append_right (by omega),Nat.add_sub_cancel_left]
theorem getD_left{a b:List UInt8}{j:Nat}(ha:j<a.length):(a++b).getD j 0=a.getD j 0:=by
 simp only[qh]
 rw[List.getElem?_append_left ha]
theorem U5(l:List Bool):(XH l).length=32:=by unfold XH;simp only[List.length_append,Sha.fixed_length]
theorem setText_at(l:List Bool)(j b:Nat)(hj:j<4)(hb:b<8):((XH l).getD (8*j+b) 0).toNat=Jj l j/256^(7-b)%256:=by
 have f:=fun j=>Sha.fixed_length 8 ((Jj l j:Nat):Int)
 unfold XH
 rw[qe,qe]
 match j,hj with
 |0,_=>rw[getD_left (by rw[f];omega),Nat.mul_zero,Nat.zero_add,UP _ _ _ hb]
 |1,_=>rw[show 8*1+b=8+b by omega,UN (f 0),getD_left (by rw[f];omega),UP _ _ _ hb]
 |2,_=>rw[show 8*2+b=8+(8+b) by omega,UN (f 0),UN (f 1),getD_left (by rw[f];omega),UP _ _ _ hb]
 |3,_=>rw[show 8*3+b=8+(8+(8+b)) by omega,UN (f 0),UN (f 1),UN (f 2),UP _ _ _ hb]
theorem bitAt_text(l:List Bool)(i:Nat)(hi:i<256):Ue (XH l) i=l.getD i false:=by
 unfold Ue
 rw[show 8*(i/64)+7-i%64/8=8*(i/64)+(7-i%64/8) by omega,setText_at l _ _ (by omega) (by omega)]
 rw[show 7-(7-i%64/8)=i%64/8 by omega]
 have e1:(Jj l (i/64)/256^(i%64/8)%256).testBit (i%8)=(Jj l (i/64)).testBit (i%64):=by
  rw[show(256:Nat)=2^8 by decide,←Nat.pow_mul,qH,qG]
  have h8:i%8<8:=qA _ (by decide)
  rw[show i%8+8*(i%64/8)=i%64 by omega]
  simp[h8]
 rw[e1,Qv _ _ _ (qA _ (by decide)),qv]
theorem setTake_text(l:List Bool)(h:l.length≤256):QC l.length (XH l)=(l,0):=by
 unfold QC
 rw[if_neg]
 ·congr 1
  apply List.ext_getElem (by simp)
  intro i h1 h2
  simp only[List.getElem_map,List.getElem_range]
  rw[bitAt_text l i (by omega)]
  simp[qh,h2]
 ·intro hany
  rw[List.any_eq_true]at hany
  obtain⟨i,hi,hb⟩:=hany
  rw[qp]at hi
  rw[bitAt_text l i hi]at hb
  simp only[qo,decide_eq_true_eq]at hb
  rw[qh,qx (by omega)]at hb
  simp at hb
theorem Zc{s:List UInt8}{a n:Nat}(h:a+n≤s.length):QG (Jh s) a n=QG s a n:=by
 unfold QG Jh
 rw[List.drop_append_of_le_length (by omega),List.take_append_of_le_length (by rw[qi];omega)]
theorem filled_tail{s:List UInt8}:∀b∈(Jh s).drop s.length,b=0:=by
 unfold Jh
 rw[List.drop_left]
 intro b hb
 exact(List.mem_replicate.1 hb).2
theorem filled_nil:Jh []=qd 256 0:=rfl
theorem UI{x:Ext}(h:JB x=true):x.head.okP∧0≤x.base∧x.base≤1024-x.head.n:=by
 unfold JB Header.may at h
 simp only[qo,decide_eq_true_eq]at h
 exact⟨(Header.check_zero _).1 h.1.1,h.1.2,h.2⟩
theorem VQ{h:Header}(hk:h.okP):1≤h.n∧h.n≤256:=by
 obtain⟨_,_,_,_,_,h6,h7,h8,_⟩:=hk
 omega
theorem catText_len{x:Ext}(h:JB x=true):(JD x).length=104:=by
 have:=(hdrT_text x.head (UI h).1).2
 unfold JD
 rw[qf,qf,this,Sha.fixed_length]
 rfl
theorem jouText_len{r:Rec}(h:JB r.x=true):(JW r).length=136:=by
 have:=(hdrT_text r.x.head (UI h).1).2
 unfold JW
 rw[qf,qf,qf,this,Sha.fixed_length,U5]
 rfl
theorem base_num{x:Ext}(h:JB x=true):((Sha.num (Sha.fixed x.base 2):Nat):Int)=x.base:=by
 obtain⟨h1,h2,h3⟩:=UI h
 have:=VQ h1
 refine Zj h2 ?_
 show x.base<256^2
 omega
theorem not_blank{m s:List UInt8}{c:UInt8}(hm:m.head?=some c)(hc:c≠0):JO (Jh (m++s))≠ []:=by
 intro h
 rw[UA]at h
 refine hc (h c ?_)
 unfold Jh
 rw[qe]
 exact List.mem_append_left _ (List.mem_of_head? hm)
theorem catTake_text{x:Ext}(h:JB x=true):Xb (Jh (JD x))=(x,0):=by
 have hl:=catText_len h
 have hh:=hdrT_text x.head (UI h).1
 have c1:QG (JD x) 4 98=JP x.head:=by
  unfold QG JD
  rw[qe]
  exact Vu rfl hh.2
 have c2:QG (JD x) 102 2=Sha.fixed x.base 2:=by
  unfold QG JD
  rw[List.drop_left' (by rw[qf,hh.2];rfl),qr (by rw[Sha.fixed_length];omega)]
 have c0:(Jh (JD x)).take 4=markC:=by
  have:=Zc (s:=JD x) (a:=0) (n:=4) (by omega)
  unfold QG at this
  rw[qP,qP]at this
  rw[this]
  unfold JD
  rw[qe]
  exact List.take_left' rfl
 have ct:JO ((Jh (JD x)).drop 104)=[]:=by
  rw[UA,←hl];exact filled_tail
 have cb:JO (Jh (JD x))≠ []:=by
  unfold JD
  rw[qe]
  exact not_blank (c:=83) rfl (by decide)
 unfold Xb
 rw[Zc (by omega),Zc (by omega),c1,c2,hh.1,base_num h]
 rw[if_neg cb,if_neg (by rw[c0,ct];simp),if_neg (by simp[h])]
theorem jouTake_text{r:Rec}(h:JB r.x=true)(hg:(r.got.length:Int)=r.x.head.n):QM (Jh (JW r))=(r,0):=by
 have hl:=jouText_len h
 have hk:=(UI h).1
 have hn:=VQ hk
 have hh:=hdrT_text r.x.head hk
 have c1:QG (JW r) 4 98=JP r.x.head:=by
  unfold QG JW
  rw[qe,qe]
  exact Vu rfl hh.2
 have c2:QG (JW r) 102 2=Sha.fixed r.x.base 2:=by
  unfold QG JW
  rw[qe (markJ++JP r.x.head)]
  exact Vu (by rw[qf,hh.2];rfl) (Sha.fixed_length _ _)
 have c3:QG (JW r) 104 32=XH r.got:=by
  unfold QG JW
  rw[List.drop_left' (by rw[qf,qf,hh.2,Sha.fixed_length];rfl),qr (by rw[U5];omega)]
 have c0:(Jh (JW r)).take 4=markJ:=by
  have:=Zc (s:=JW r) (a:=0) (n:=4) (by omega)
  unfold QG at this
  rw[qP,qP]at this
  rw[this]
  unfold JW
  rw[qe,qe]
  exact List.take_left' rfl
 have ct:JO ((Jh (JW r)).drop 136)=[]:=by
  rw[UA,←hl];exact filled_tail
 have cb:JO (Jh (JW r))≠ []:=by
  unfold JW
  rw[qe,qe]
  exact not_blank (c:=83) rfl (by decide)
 have hs:QC r.x.head.n.toNat (XH r.got)=(r.got,0):=by
  rw[←hg,qj];exact setTake_text r.got (by omega)
 unfold QM
 rw[Zc (by omega),Zc (by omega),Zc (by omega),c1,c2,c3,hh.1,base_num h]
 simp only
 rw[hs,if_neg cb,if_neg (by rw[c0,ct];simp),if_neg (by simp[h])]
theorem catTake_blank{s:List UInt8}(h:JO s=[]):Xb s=(noExt,8):=if_pos h
theorem ZV{s:List UInt8}(h:JO s=[]):QM s=(noRec,8):=if_pos h
theorem blank_filled:JO (Jh [])=[]:=by rw[UA,filled_nil];intro b hb;exact(List.mem_replicate.1 hb).2
theorem num_fix(l:List UInt8):Sha.fixed (Sha.num l:Nat) l.length=l:=by
 have key:∀(r:List UInt8),Sha.fixed (Sha.num r.reverse:Nat) r.length=r.reverse:=by
  intro r
  induction r with
  |nil=>rfl
  |cons c r ih=>
   rw[List.reverse_cons,Sha.num_snoc,qy,Sha.fixed]
   have hc:=c.toNat_lt
   have e1:(((Sha.num r.reverse*256+c.toNat:Nat):Int)/256)=(Sha.num r.reverse:Nat):=by omega
   have e2:(((Sha.num r.reverse*256+c.toNat:Nat):Int)%256).toNat=c.toNat:=by omega
   rw[e1,e2,ih]
   simp
 have:=key l.reverse
 rw[List.reverse_reverse,List.length_reverse]at this
 exact this
def Q4(t:List UInt8):List Bool:=(qm 256).map (Ue t)
theorem bitsAll_len(t:List UInt8):(Q4 t).length=256:=by simp[Q4]
theorem VZ(t:List UInt8)(i:Nat)(hi:i<256):(Q4 t).getD i false=Ue t i:=by
 unfold Q4
 rw[qh,List.getElem?_map,List.getElem?_range hi];rfl
theorem num8_lt(l:List UInt8)(h:l.length=8):Sha.num l<18446744073709551616:=by
 have:=Sha.num_lt l
 rw[h]at this
 exact this
theorem num_word(t:List UInt8)(ht:t.length=32)(j:Nat)(hj:j<4):Sha.num ((t.drop (8*j)).take 8)=Jj (Q4 t) j:=by
 obtain⟨l,hl⟩:∃l,l=(t.drop (8*j)).take 8:=⟨_,rfl⟩
 have hll:l.length=8:=by rw[hl,qt,qi];omega
 have hN:=num8_lt l hll
 have hf:=num_fix l
 rw[hll]at hf
 rw[←hl]
 apply qz
 intro k
 by_cases hk:k<64
 ·rw[Qv _ _ _ hk,VZ _ _ (by omega)]
  unfold Ue
  have e0:8*((64*j+k)/64)+7-(64*j+k)%64/8=8*j+(7-k/8):=by omega
  have e1:t.getD (8*j+(7-k/8)) 0=l.getD (7-k/8) 0:=by
   rw[hl]
   simp only[qh]
   rw[qF,if_pos (by omega),List.getElem?_drop]
  have e2:(l.getD (7-k/8) 0).toNat=Sha.num l/256^(k/8)%256:=by
   have h:=UP (Sha.num l) 8 (7-k/8) (by omega)
   rw[hf]at h
   rw[h]
   congr 3
   omega
  rw[e0,e1,e2,show(64*j+k)%8=k%8 by omega,show(256:Nat)=2^8 by decide,←Nat.pow_mul,qH,qG,show k%8+8*(k/8)=k by omega]
  simp[qA]
 ·rw[Xw _ _ _ (by omega)]
  refine Nat.testBit_lt_two_pow (Nat.lt_of_lt_of_le hN ?_)
  rw[show(18446744073709551616:Nat)=2^64 by decide]
  exact qM (by decide) (by omega)
theorem wordB_take(l:List Bool)(i j:Nat):Jj (l.take (64*i)) j=if j<i then Jj l j else 0:=by
 apply qz
 intro k
 by_cases hk:k<64
 ·rw[Qv _ _ _ hk]
  simp only[qh,qF]
  by_cases hj:j<i
  ·rw[if_pos hj,if_pos (by omega),Qv _ _ _ hk,qh]
  ·rw[if_neg hj,if_neg (by omega)]
   simp
 ·rw[Xw _ _ _ (by omega)]
  split
  ·rw[Xw _ _ _ (by omega)]
  ·simp
theorem raw_step(n:Nat)(l:List Bool)(i:Nat)(hi:i<4):(JT n (l.take (64*i))).set (1+i) (.int .u64 (Jj l i:Nat))=JT n (l.take (64*(i+1))):=by
 have w:=fun i j=>wordB_take l i j
 unfold JT
 rw[w i 0,w i 1,w i 2,w i 3,w (i+1) 0,w (i+1) 1,w (i+1) 2,w (i+1) 3]
 rcases(by omega:i=0∨i=1∨i=2∨i=3)with rfl|rfl|rfl|rfl<;>rfl
theorem raw_zero(n:Nat)(l:List Bool):JT n (l.take (64*0))=[.int .i64 (n:Nat),.int .u64 0,.int .u64 0,.int .u64 0,.int .u64 0]:=by
 unfold JT
 simp only[Nat.mul_zero,List.take_zero,wordB_nil]
 rfl
theorem setV_raw(l:List Bool):Xh l=rawV l.length l:=rfl
theorem words_same{l m:List Bool}(h:∀i,i<256→l.getD i false=m.getD i false)(j:Nat)(hj:j<4):Jj l j=Jj m j:=by
 apply qz
 intro k
 by_cases hk:k<64
 ·rw[Qv _ _ _ hk,Qv _ _ _ hk,h _ (by omega)]
 ·rw[Xw _ _ _ (by omega),Xw _ _ _ (by omega)]
theorem take_within(n:Nat)(t:List UInt8):QI (Q4 t) (qd n true) 256= !((qm 256).any fun i=>Ue t i&&decide (n≤i)):=by
 rw[qD,Bool.not_eq_true',←Bool.not_eq_true,List.any_eq_true]
 unfold QI
 rw[qu]
 have hr:∀i,(qd n true).getD i false=decide (i<n):=fun i=>by
  rw[qh,List.getElem?_replicate]
  by_cases h:i<n<;>simp[h]
 constructor
 ·rintro h ⟨i,hi,hb⟩
  have h1:=h i hi
  rw[qp]at hi
  rw[VZ _ _ hi,hr]at h1
  simp only[qo,decide_eq_true_eq]at hb
  rw[hb.1,decide_eq_false (by omega)]at h1
  cases h1
 ·intro h i hi
  have hi':=qp.1 hi
  rw[VZ _ _ hi',hr]
  by_cases hb:Ue t i=true
  ·by_cases hn:i<n
   ·simp[hn]
   ·exact absurd ⟨i,hi,by rw[hb];simp;omega⟩ h
  ·simp[hb]
theorem take_good{n:Nat}(hn:n≤256){t:List UInt8}(h:QI (Q4 t) (qd n true) 256=true):rawV n (Q4 t)=Xh ((qm n).map (Ue t)):=by
 have hw:=fun j hj=>words_same (l:=Q4 t) (m:=(qm n).map (Ue t)) (fun i hi=>by
  rw[VZ _ _ hi]
  unfold QI at h
  rw[qu]at h
  have h1:=h i (qp.2 hi)
  rw[VZ _ _ hi]at h1
  simp only[qh,List.getElem?_map]
  by_cases hin:i<n
  ·rw[List.getElem?_range hin];rfl
  ·rw[qx (by simp;omega)]
   rw[qh,List.getElem?_replicate,if_neg hin]at h1
   simpa using h1) j hj
 unfold rawV JT Xh setCells
 rw[hw 0 (by decide),hw 1 (by decide),hw 2 (by decide),hw 3 (by decide),List.length_map,List.length_range]
theorem stake_spec(n:Nat)(hn:n≤256)(t:List UInt8)(ht:t.length=32)(m:Mem):
 Abs.Spec qc 155 [.int .i64 (n:Nat),.string (str t)] m fun u M=>u=.tuple #[Xh (QC n t).1,.int .i64 (QC n t).2]∧More m M:=by
 refine Abs.Spec.walkM Tryz.func155 (by rfl) _ Tryz.results155 _ Tryz.ntmps155 (by simp) ?_
 intro hc hx k
 have hal:Qd qc 57=some (.cells false (J6 qc 57) (setCells [])):=al_Set
 generalize J6 qc 57=s1 at hal
 have hbd:Qo qc 57 [(0,.int .i64 (n:Nat))]=some (rawV n ((Q4 t).take (64*0))):=by
  unfold rawV
  rw[raw_zero]
  kernel_rfl
 have hbd0:Qo qc 57 []=some (Xh []):=by kernel_rfl
 have q1:decide ((n:Int)<0)=false:=decide_eq_false (by omega)
 have q2:decide ((n:Int)>256)=false:=decide_eq_false (by omega)
 have q3:(((t.length:Nat):Int) !=32)=false:=by rw[ht];rfl
 have hbs:JA (str t)=t.length:=rfl
 have row:∀n l,Jv 5 0 (some (.cells false s1 (JT n l)))=some (rawV n l):=fun n l=>rfl
 have rowS:∀l,Jv 5 0 (some (.cells false s1 (setCells l)))=some (Xh l):=fun l=>rfl
 have aggR:∀n l,(rawV n l).cells.toList=JT n l:=fun n l=>rfl
 have aggS:∀l,(Xh l).cells.toList=setCells l:=fun l=>rfl
 have put:∀(M0:Mem)(b:Nat)(L:List Bool)(n:Nat)(l:List Bool),Ji 5 M0 b 0 (JT n l) (some (.cells false s1 (setCells L)))=some (M0.set b (some (.cells false s1 (JT n l)))):=fun _ _ _ _ _=>rfl
 have putS:∀(M0:Mem)(b:Nat)(L l:List Bool),Ji 5 M0 b 0 (setCells l) (some (.cells false s1 (setCells L)))=some (M0.set b (some (.cells false s1 (setCells l)))):=fun _ _ _ _=>rfl
 obtain⟨M1,hM1⟩:∃M1,M1=m.push (.cells false s1 (setCells [])):=⟨_,rfl⟩
 obtain⟨b4,hb4⟩:∃b,b=m.size:=⟨_,rfl⟩
 have hs1:M1.size=m.size+1:=by rw[hM1,Mem.size_push]
 have g41:M1.get b4=some (.cells false s1 (setCells [])):=by rw[hM1,hb4,Mem.get_push_new]
 have mo1:More m M1:=by rw[hM1];exact More.push _ _
 refine J0 (J1 ?_)
 simp only[zZ,reduceIte,yQ,yW,yX,yZ,yJ,yK,yV,zDk,hal]
 rw[←hM1,←hb4]
 refine J0 (J0 (J1 ?_))
 simp only[zZ,reduceIte,yQ,yW,yX,yZ,yJ,yK,yV,zDk,q1,q2]
 refine Qa false (by rfl) (fun h=>by cases h) (fun _=>J3 ?_)
 simp only[zZ,reduceIte,yQ,yW,yX,yZ,yJ,yK,yV]
 refine J0 (J0 (J1 ?_))
 simp only[zZ,reduceIte,yQ,yW,yX,yZ,yJ,yK,yV,zDk,hbs,q3]
 refine Qa false (by rfl) (fun h=>by cases h) (fun _=>J3 ?_)
 simp only[zZ,reduceIte,yQ,yW,yX,yZ,yJ,yK,yV]
 refine J0 (J1 ?_)
 simp only[zZ,reduceIte,yQ,yW,yX,yZ,yJ,yK,yV,zDk,hbd,hal,Mem.get_push_new,aggR,put]
 obtain⟨b6,hb6⟩:∃b,b=M1.size:=⟨_,rfl⟩
 have hne:b4≠b6:=by omega
 obtain⟨M2,hM2⟩:∃M2,M2=(M1.push (.cells false s1 (setCells []))).set M1.size (some (.cells false s1 (JT n ((Q4 t).take (64*0))))):=⟨_,rfl⟩
 rw[←hM2,←hb6]
 have g62:M2.get b6=some (.cells false s1 (JT n ((Q4 t).take (64*0)))):=by rw[hM2,hb6];exact Mem.get_set_same (Mem.get_push_new _ _) _
 have old2:∀b x,M1.get b=some x→M2.get b=some x:=fun b x hb=>by
  have:=Mem.get_lt hb
  rw[hM2,Mem.get_set_ne (by omega),Mem.get_push_old this];exact hb
 have hs2:M2.size=M1.size+1:=by rw[hM2,Mem.size_set,Mem.size_push]
 have g42:=old2 _ _ g41
 refine QR (fun f M'=>f=[(0,.int .i64 (n:Nat)),(4,.pointer (some ⟨b4,0,none⟩)),(6,.pointer (some ⟨b6,0,none⟩))]∧M'.get b4=some (.cells false s1 (setCells []))∧M'.get b6=some (.cells false s1 (JT n (Q4 t)))∧(∀b x,m.get b=some x→M'.get b=some x)∧M2.size≤M'.size) ?_ ?_
 ·refine J0 (J1 ?_)
  simp only[zZ,reduceIte,yQ,yW,yX,yZ,yJ,yK,yV,zDk]
  refine J8 (Jt (fun j f M'=>∃i:Nat,j=4-i∧f=[(0,.int .i64 (n:Nat)),(1,.string (str (t.drop (8*i)))),(4,.pointer (some ⟨b4,0,none⟩)),(6,.pointer (some ⟨b6,0,none⟩)),(26,.int .i64 (i:Nat))]∧i≤4∧M'.get b4=some (.cells false s1 (setCells []))∧M'.get b6=some (.cells false s1 (JT n ((Q4 t).take (64*i))))∧(∀b x,m.get b=some x→M'.get b=some x)∧M2.size≤M'.size) 4 ?_ ?_)
  ·refine⟨[0,1,4,6,26],?_⟩
   simp only[zZ,reduceIte,yQ,yW,yX,yZ,yJ,yK,yV,keepF]
   exact⟨M2,Thin.refl _,0,rfl,rfl,by omega,g42,g62,fun b x hb=>old2 b x (mo1.get b x hb),Nat.le_refl _⟩
  ·rintro j f M' ⟨i,rfl,rfl,hi,k4,k6,ko,ks⟩
   refine J0 (J1 ?_)
   simp only[zZ,reduceIte,yQ,yW,yX,yZ,yJ,yK,yV,zDk]
   refine J0 (Qa (decide ((i:Int)<4)) (by rfl) (fun hq=>J3 ?_) (fun hq=>Jp ?_))
   ·have hi4:=of_decide_eq_true hq
    have z0:(0:Int)≤(i:Int):=by omega
    have z4:(i:Int)<((4:Nat):Int):=by omega
    have w9:IntKind.i64.wrap ((i:Int)+1)=((i+1:Nat):Int):=by rw[Xl (by omega) (by omega)];omega
    have hnw:=num_word t ht i (by omega)
    have hwl:=V3 (Q4 t) i
    have wu:IntKind.u64.wrap (Uw (Sha.num ((t.drop (8*i)).take 8)))=((Jj (Q4 t) i:Nat):Int):=by
     rw[hnw]
     have h1:=wr64_mod (Jj (Q4 t) i)
     have h2:IntKind.u64.wrap (Uw (Jj (Q4 t) i))=Uw (Jj (Q4 t) i)%18446744073709551616:=by
      unfold IntKind.wrap;simp[IntKind.bits,IntKind.signed]
     rw[h2,h1];omega
    have hdr:(t.drop (8*i)).drop 8=t.drop (8*(i+1)):=by rw[qQ];congr 1
    have sp:=raw_step n (Q4 t) i (by omega)
    have hput:Ji 1 M' b6 (1+i) [.int .u64 ((Jj (Q4 t) i:Nat):Int)] (some (.cells false s1 (JT n ((Q4 t).take (64*i)))))=some (M'.set b6 (some (.cells false s1 (JT n ((Q4 t).take (64*(i+1))))))):=by
     simp only[Ji]
     rw[if_pos ⟨rfl,by show 1+i+1≤5;omega,rfl⟩,←sp]
     rfl
    simp only[zZ,reduceIte,yQ,yW,yX,yZ,yJ,yK,yV]
    refine J0 (J8 (J0 (J1 ?_)))
    simp only[zZ,reduceIte,yQ,yW,yX,yZ,yJ,yK,yV,zDk]
    refine J0 (J1 ?_)
    simp only[zZ,reduceIte,yQ,yW,yX,yZ,yJ,yK,yV,zDk]
    refine⟨by kernel_rfl,_,take8_at (t.drop (8*i)) (by rw[qi];omega) (by rw[qi];omega) M',?_⟩
    rintro _ M9 ⟨rfl,e9⟩;replace e9:=e9.symm;subst e9
    simp only[zZ,reduceIte,yQ,yW,yX,yZ,yJ,yK,yV,zDk]
    refine J1 ?_
    simp only[zZ,reduceIte,yQ,yW,yX,yZ,yJ,yK,yV,zDk,wu,k6,z0,z4,and_self,qj,hput,hdr]
    refine J1 ?_
    simp only[zZ,reduceIte,yQ,yW,yX,yZ,yJ,yK,yV,zDk,w9]
    refine⟨[0,1,4,6,26],?_⟩
    simp only[zZ,reduceIte,yQ,yW,yX,yZ,yJ,yK,yV,keepF]
    refine⟨_,Thin.refl _,4-(i+1),⟨i+1,rfl,rfl,by omega,by rw[Mem.get_set_ne (Ne.symm hne)];exact k4,Mem.get_set_same k6 _,fun b x hb=>by
     have:=Mem.get_lt hb
     rw[Mem.get_set_ne (by omega)];exact ko b x hb,by rw[Mem.size_set];exact ks⟩,by omega⟩
   ·have hi4:=of_decide_eq_false hq
    obtain rfl:i=4:=by omega
    rw[qr (by rw[bitsAll_len];decide)]at k6
    refine⟨[0,4,6],?_⟩
    simp only[zZ,reduceIte,yQ,yW,yX,yZ,yJ,yK,yV,keepF]
    exact⟨_,Thin.refl _,k4,k6,ko,ks⟩
 rintro _ M3 ⟨rfl,g43,g63,old3,hs3⟩
 have zsz:M3.size=M3.size:=rfl
 refine J0 (J1 ?_)
 simp only[zZ,reduceIte,yQ,yW,yX,yZ,yJ,yK,yV,zDk]
 refine⟨by kernel_rfl,_,bnew_at n hn M3,?_⟩
 rintro _ M9 ⟨rfl,e9⟩;replace e9:=e9.symm;subst e9
 simp only[zZ,reduceIte,yQ,yW,yX,yZ,yJ,yK,yV,zDk,hal,Mem.get_push_new,aggS,putS]
 obtain⟨b11,hb11⟩:∃b,b=M3.size:=⟨_,rfl⟩
 obtain⟨M5,hM5⟩:∃M5,M5=(M3.push (.cells false s1 (setCells []))).set M3.size (some (.cells false s1 (setCells (qd n false)))):=⟨_,rfl⟩
 rw[←hM5,←hb11]
 have g5:M5.get b11=some (.cells false s1 (setCells (qd n false))):=by rw[hM5,hb11];exact Mem.get_set_same (Mem.get_push_new _ _) _
 have old5:∀b x,M3.get b=some x→M5.get b=some x:=fun b x hb=>by
  have:=Mem.get_lt hb
  rw[hM5,Mem.get_set_ne (by omega),Mem.get_push_old this];exact hb
 have hs5:M5.size=M3.size+1:=by rw[hM5,Mem.size_set,Mem.size_push]
 have l4:=Mem.get_lt g43
 have l6:=Mem.get_lt g63
 have trues:∀i,i<n→Uy (qd i true++qd (n-i) false) ((i:Nat):Int)=qd (i+1) true++qd (n-(i+1)) false:=fun i hi=>by
  unfold Uy
  rw[if_pos ⟨by omega,by simp;omega⟩,qj]
  rw[List.set_append_right _ _ (by simp)]
  rw[qL,Nat.sub_self]
  obtain⟨q,hq⟩:∃q,n-i=q+1:=⟨n-i-1,by omega⟩
  rw[hq,show n-(i+1)=q by omega,List.replicate_succ,List.set_cons_zero,List.replicate_succ',qe]
  rfl
 refine QR (fun f M'=>f=[(4,.pointer (some ⟨b4,0,none⟩)),(6,.pointer (some ⟨b6,0,none⟩)),(11,.pointer (some ⟨b11,0,none⟩))]∧M'.get b4=some (.cells false s1 (setCells []))∧M'.get b6=some (.cells false s1 (JT n (Q4 t)))∧M'.get b11=some (.cells false s1 (setCells (qd n true)))∧(∀b x,m.get b=some x→M'.get b=some x)∧M5.size≤M'.size) ?_ ?_
 ·refine J0 (J1 ?_)
  simp only[zZ,reduceIte,yQ,yW,yX,yZ,yJ,yK,yV,zDk]
  refine J8 (Jt (fun j f M'=>∃i:Nat,j=n-i∧f=[(4,.pointer (some ⟨b4,0,none⟩)),(6,.pointer (some ⟨b6,0,none⟩)),(11,.pointer (some ⟨b11,0,none⟩)),(44,.int .i64 (n:Nat)),(45,.int .i64 (i:Nat))]∧i≤n∧M'.get b4=some (.cells false s1 (setCells []))∧M'.get b6=some (.cells false s1 (JT n (Q4 t)))∧M'.get b11=some (.cells false s1 (setCells (qd i true++qd (n-i) false)))∧(∀b x,m.get b=some x→M'.get b=some x)∧M5.size≤M'.size) n ?_ ?_)
  ·refine⟨[4,6,11,44,45],?_⟩
   simp only[zZ,reduceIte,yQ,yW,yX,yZ,yJ,yK,yV,keepF]
   exact⟨M5,Thin.refl _,0,rfl,rfl,by omega,old5 _ _ g43,old5 _ _ g63,by simpa using g5,fun b x hb=>old5 b x (old3 b x hb),Nat.le_refl _⟩
  ·rintro j f M' ⟨i,rfl,rfl,hi,k4,k6,k11,ko,ks⟩
   refine J0 (J1 ?_)
   simp only[zZ,reduceIte,yQ,yW,yX,yZ,yJ,yK,yV,zDk]
   refine J0 (Qa (decide ((i:Int)<(n:Int))) (by rfl) (fun hq=>J3 ?_) (fun hq=>Jp ?_))
   ·have hin:=of_decide_eq_true hq
    have w9:IntKind.i64.wrap ((i:Int)+1)=((i+1:Nat):Int):=by rw[Xl (by omega) (by omega)];omega
    have hw:=with_at (qd i true++qd (n-i) false) (by simp;omega) ((i:Nat):Int) M'
    rw[trues i (by omega)]at hw
    simp only[zZ,reduceIte,yQ,yW,yX,yZ,yJ,yK,yV]
    refine J0 (J8 (J0 (J1 ?_)))
    simp only[zZ,reduceIte,yQ,yW,yX,yZ,yJ,yK,yV,zDk]
    refine J1 ?_
    simp only[zZ,reduceIte,yQ,yW,yX,yZ,yJ,yK,yV,zDk,k11,rowS]
    refine⟨by kernel_rfl,_,hw,?_⟩
    rintro _ M9 ⟨rfl,e9⟩;replace e9:=e9.symm;subst e9
    simp only[zZ,reduceIte,yQ,yW,yX,yZ,yJ,yK,yV,zDk,k11,aggS,putS]
    refine J1 ?_
    simp only[zZ,reduceIte,yQ,yW,yX,yZ,yJ,yK,yV,zDk,w9]
    refine⟨[4,6,11,44,45],?_⟩
    simp only[zZ,reduceIte,yQ,yW,yX,yZ,yJ,yK,yV,keepF]
    refine⟨_,Thin.refl _,n-(i+1),⟨i+1,rfl,rfl,by omega,by rw[Mem.get_set_ne (by omega)];exact k4,by rw[Mem.get_set_ne (by omega)];exact k6,Mem.get_set_same k11 _,fun b x hb=>by
     have:=Mem.get_lt hb
     rw[Mem.get_set_ne (by omega)];exact ko b x hb,by rw[Mem.size_set];exact ks⟩,by omega⟩
   ·have hin:=of_decide_eq_false hq
    obtain rfl:i=n:=by omega
    refine⟨[4,6,11],?_⟩
    simp only[zZ,reduceIte,yQ,yW,yX,yZ,yJ,yK,yV,keepF]
    exact⟨_,Thin.refl _,k4,k6,by simpa using k11,ko,ks⟩
 rintro _ M6 ⟨rfl,g4,g6,g11,old6,hs6⟩
 have hwt:=take_within n t
 have hwi:=within_at n n (Q4 t) (qd n true) M6
 have eS:Xh (qd n true)=rawV n (qd n true):=by rw[setV_raw,qL]
 rw[←eS]at hwi
 obtain⟨S,hS⟩:∃S,S=QC n t:=⟨_,rfl⟩
 rw[←hS]
 unfold QC at hS
 refine J0 (J0 (J1 ?_))
 simp only[zZ,reduceIte,yQ,yW,yX,yZ,yJ,yK,yV,zDk,g6,g11,row,rowS]
 refine⟨by kernel_rfl,_,hwi,?_⟩
 rintro _ M9 ⟨rfl,e9⟩;replace e9:=e9.symm;subst e9
 simp only[zZ,reduceIte,yQ,yW,yX,yZ,yJ,yK,yV,zDk]
 refine Qa (!QI (Q4 t) (qd n true) 256) (by rfl) (fun hq=>J0 (J1 ?_)) (fun hq=>J3 ?_)
 ·rw[hwt,Bool.not_not]at hq
  rw[if_pos hq]at hS
  subst hS
  simp only[zZ,reduceIte,yQ,yW,yX,yZ,yJ,yK,yV,zDk,hbd0,g4,aggS,putS]
  have gs:(M6.set b4 (some (.cells false s1 (setCells [])))).get b4=some (.cells false s1 (setCells [])):=Mem.get_set_same g4 _
  refine Qx ?_
  simp only[zZ,reduceIte,yQ,yW,yX,yZ,yJ,yK,yV,zDk,mEnd,sAnswer,sAnswer.sRes,Q9,gs,rowS]
  exact⟨_,Thin.refl _,fun b x hb=>by
   have:=Mem.get_lt hb
   rw[Mem.get_set_ne (by omega)];exact old6 b x hb,by rw[Mem.size_set];omega⟩
 ·have hgood:QI (Q4 t) (qd n true) 256=true:=by simpa using hq
  have hany:=hgood
  rw[hwt]at hany
  rw[if_neg (by simpa using hany)]at hS
  subst hS
  have eg:=take_good hn hgood
  have ec:JT n (Q4 t)=setCells ((qm n).map (Ue t)):=by
   have:=congrArg (fun v=>v.cells.toList) eg
   exact this
  rw[ec]at g6
  simp only[zZ,reduceIte,yQ,yW,yX,yZ,yJ,yK,yV]
  refine J0 (J1 ?_)
  simp only[zZ,reduceIte,yQ,yW,yX,yZ,yJ,yK,yV,zDk,g6,g4,rowS,aggS,putS]
  have gs:(M6.set b4 (some (.cells false s1 (setCells ((qm n).map (Ue t)))))).get b4=some (.cells false s1 (setCells ((qm n).map (Ue t)))):=Mem.get_set_same g4 _
  refine Qx ?_
  simp only[zZ,reduceIte,yQ,yW,yX,yZ,yJ,yK,yV,zDk,mEnd,sAnswer,sAnswer.sRes,Q9,gs,rowS]
  exact⟨_,Thin.refl _,fun b x hb=>by
   have:=Mem.get_lt hb
   rw[Mem.get_set_ne (by omega)];exact old6 b x hb,by rw[Mem.size_set];omega⟩
theorem setTake_flat(n:Nat)(t:List UInt8):flat 3 (.tuple #[Xh (QC n t).1,.int .i64 (QC n t).2])=true:=rfl
theorem stake_at(n:Nat)(hn:n≤256)(t:List UInt8)(ht:t.length=32)(m:Mem):
 Abs.Spec qc 155 [.int .i64 (n:Nat),.string (str t)] m fun u M=>u=.tuple #[Xh (QC n t).1,.int .i64 (QC n t).2]∧M=m:=
 Abs.Spec.of_empty (by intro x hx;simp at hx;rcases hx with rfl|rfl<;>rfl) (setTake_flat n t) ((stake_spec n hn t ht ⟨[]⟩).mono fun _ _ h=>h.1) m
theorem Vf(h:Header):h.check=0∨h.check=1:=by
 unfold Header.check
 repeat' split
 all_goals simp
theorem hcheck_at(h:Header)(m:Mem):Abs.Spec qc 132 [.agg h.cells.toArray] m fun u M=>u=.int .i64 h.check∧M=m:=
 Abs.Spec.of_flat (by intro x hx;simp at hx;subst hx;rfl) rfl fun w=>check_any h w
theorem hfields_at(h:Header)(hk:h.okP)(m:Mem):Abs.Spec qc 135 [.agg h.cells.toArray] m fun u M=>u=.string h.fields∧M=m:=
 Abs.Spec.of_flat (by intro x hx;simp at hx;subst hx;rfl) rfl fun w=>fields_any h (by have:=hk.2.2.1;omega) (by have:=hk.2.2.2.1;omega) w
theorem hverify_at(key:List UInt8)(hk:key.length≤140737488355200)(h:Header)(m:Mem):Abs.Spec qc 56 [.string (str key),.agg h.cells.toArray] m fun u M=>u=.int .i64 (h.verify key)∧M=m:=
 Abs.Spec.of_flat (by intro x hx;simp at hx;rcases hx with rfl|rfl<;>rfl) rfl fun w=>verify_any (str key) h w (by rw[str_size];exact hk)
def hdrTV(s:ByteArray):Value:=.tuple #[.agg (Vc s).1.cells.toArray,.int .i64 (Vc s).2]
theorem htakeAny_eq(s:ByteArray):htakeAny s=hdrTV s:=by
 unfold htakeAny htakeV hdrTV Vc
 by_cases h1:s.size=98
 ·by_cases h2:s.extract 0 4=⟨#[83,76,71,49]⟩
  ·by_cases h3:(Zr s).check=1
   ·rw[if_pos h1,if_pos h2,if_pos h3,if_neg (fun h=>h.2.2 h3)];rfl
   ·rw[if_pos h1,if_pos h2,if_neg h3,if_pos ⟨h1,h2,h3⟩];rfl
  ·rw[if_pos h1,if_neg h2,if_neg (fun h=>h2 h.2.1)];rfl
 ·rw[if_neg h1,if_neg (fun h=>h1 h.1)];rfl
theorem htake_at(s:ByteArray)(m:Mem):Abs.Spec qc 149 [.string s] m fun u M=>u=hdrTV s∧M=m:=
 Abs.Spec.of_flat (by intro x hx;simp at hx;subst hx;rfl) rfl fun w=>by rw[←htakeAny_eq];exact htake_any s w
theorem Kh{h:Header}(hk:h.okP):(JP h).length=98:=by
 have h1:=h.fields_size
 obtain⟨_,_,a,b,c,_⟩:=hk
 unfold JP
 rw[qf]
 show h.fields.size+h.tag.size=98
 omega
def putT(h:Header):ByteArray:=if h.check=0 then str (JP h)else⟨#[]⟩
theorem hput_spec(h:Header)(m:Mem):
 Abs.Spec qc 195 [.agg h.cells.toArray] m fun u M=>u=.tuple #[.string (putT h),.int .i64 h.check]∧More m M:=by
 refine UX Tryz.func195 Tryz.results195 Tryz.ntmps195 fun hc hx k=>?_
 have bx:QS qc 33 (.agg h.cells.toArray)=some (.cells false (J6 qc 33) h.cells):=bx_Hdr _ rfl
 generalize J6 qc 33=s1 at bx
 have row:Jv 7 0 (some (.cells false s1 h.cells))=some (.agg h.cells.toArray):=rfl
 have k6:cellIn 6 (some (.cells false s1 h.cells))=some (.string h.tag):=rfl
 have q00:((0:Int) !=0)=false:=rfl
 have q10:((1:Int) !=0)=true:=rfl
 have mo:=More.push m (.cells false s1 h.cells)
 refine J0 (R1 @bx ?_)
 refine J0 (J0 (R2 @Mem.get_push_new @row ?_))
 refine K0 (hcheck_at h _) ?_
 obtain⟨r,hr⟩:∃r,r=putT h:=⟨_,rfl⟩
 rw[←hr]
 unfold putT at hr
 rcases Vf h with e|e
 ·rw[if_pos e]at hr
  have hok:=h.check_zero.1 e
  have hcat:JA h.fields+JA h.tag≤4611686018427387904:=by
   have h1:=h.fields_size
   obtain⟨_,_,a,b,c,_⟩:=hok
   show h.fields.size+h.tag.size≤_
   omega
  have hcat2:bcat h.fields h.tag=r:=hr.symm
  rw[e]
  refine J0 (R1 @q00 ?_)
  refine CF (J3 ?_)
  simp only[zZ,reduceIte,yQ,yW,yX,yZ,yJ,yK,yV]
  refine J0 (D3 4 @Mem.get_push_new @row @k6 ?_)
  refine⟨by kernel_rfl,_,hfields_at h hok _,?_⟩
  refine S3 @Mem.get_push_new @row @k6 ?_
  refine⟨hcat,?_⟩
  refine S1 @hcat2 ?_
  refine T0 ?_
  exact⟨_,Thin.refl _,mo⟩
 ·rw[if_neg (by rw[e];decide)]at hr
  rw[e]
  refine J0 (R1 @q10 ?_)
  refine CT (J0 (R0 ?_))
  refine T0 ?_
  exact⟨_,Thin.refl _,by rw[hr],mo⟩
theorem hput_at(h:Header)(m:Mem):
 Abs.Spec qc 195 [.agg h.cells.toArray] m fun u M=>u=.tuple #[.string (putT h),.int .i64 h.check]∧M=m:=
 Abs.Spec.of_empty (by intro x hx;simp at hx;subst hx;rfl) rfl ((hput_spec h ⟨[]⟩).mono fun _ _ h=>h.1) m
def Ext.checkI(x:Ext):Int:=if JB x=true then 0 else 1
theorem checkI_of(x:Ext):x.checkI=if decide (x.head.check≠0)||decide (x.base<0)||decide (x.base>1024-x.head.n)then 1 else 0:=by
 unfold Ext.checkI JB Header.may
 by_cases h1:x.head.check=0<;>by_cases h2:x.base<0<;>by_cases h3:x.base>1024-x.head.n<;>simp[h1,h2,h3]<;>omega
theorem okP_n2{h:Header}(hk:h.okP):1≤h.n∧h.n≤257:=by
 obtain⟨_,_,_,_,_,h1,h2,h3,_⟩:=hk
 omega
theorem ccheck_spec(x:Ext)(m:Mem):
 Abs.Spec qc 151 [.agg x.cells.toArray] m fun u M=>u=.int .i64 x.checkI∧More m M:=by
 refine UX Tryz.func151 Tryz.results151 Tryz.ntmps151 fun hc hx k=>?_
 have bx:QS qc 102 (.agg x.cells.toArray)=some (.cells false (J6 qc 102) x.cells):=Kn _ rfl
 generalize J6 qc 102=s1 at bx
 have row:Jv 7 0 (some (.cells false s1 x.cells))=some (.agg x.head.cells.toArray):=rfl
 have k7:cellIn 7 (some (.cells false s1 x.cells))=some (.int .i64 x.base):=rfl
 have k2:cellIn 2 (some (.cells false s1 x.cells))=some (.int .i64 x.head.n):=rfl
 have q00:((0:Int) !=0)=false:=rfl
 have q10:((1:Int) !=0)=true:=rfl
 have mo:=More.push m (.cells false s1 x.cells)
 obtain⟨r,hr⟩:∃r,r=x.checkI:=⟨_,rfl⟩
 rw[←hr]
 rw[checkI_of]at hr
 refine J0 (R1 @bx ?_)
 refine J0 (J0 (R2 @Mem.get_push_new @row ?_))
 refine K0 (hcheck_at x.head _) ?_
 rcases Vf x.head with e|e
 case inr=>
  rw[e]at hr ⊢
  refine S2 @q10 @k7 ?_
  obtain rfl:r=1:=by rw[hr];rfl
  refine CT (J0 (R0 ?_))
  refine T0 ?_
  exact⟨_,Thin.refl _,mo⟩
 have hn:=okP_n2 (x.head.check_zero.1 e)
 have w1:IntKind.i64.wrap (1024-x.head.n)=1024-x.head.n:=Xl (by omega) (by omega)
 rw[e]at hr ⊢
 cases p1:decide (x.base<0)
 case true=>
  refine S4 @q00 @k7 @Mem.get_push_new @p1 ?_
  obtain rfl:r=1:=by rw[hr,p1];rfl
  refine CT (J0 (R0 ?_))
  refine T0 ?_
  exact⟨_,Thin.refl _,mo⟩
 refine S6 @q00 @k7 @k2 @Mem.get_push_new @p1 @w1 ?_
 rw[p1]at hr
 refine CC (decide (x.base>1024-x.head.n)) (fun h=>J0 (J1 ?_)) (fun h=>J3 ?_)
 ·obtain rfl:r=1:=by rw[hr,h];rfl
  refine S0 ?_
  refine T0 ?_
  exact⟨_,Thin.refl _,mo⟩
 ·obtain rfl:r=0:=by rw[hr,h];rfl
  simp only[zZ,reduceIte,yQ,yW,yX,yZ,yJ,yK,yV]
  refine J0 (R0 ?_)
  refine T0 ?_
  exact⟨_,Thin.refl _,mo⟩
theorem ccheck_at(x:Ext)(m:Mem):
 Abs.Spec qc 151 [.agg x.cells.toArray] m fun u M=>u=.int .i64 x.checkI∧M=m:=
 Abs.Spec.of_empty (by intro x hx;simp at hx;subst hx;rfl) rfl ((ccheck_spec x ⟨[]⟩).mono fun _ _ h=>h.1) m
theorem Kd{x:Ext}(h:JB x=true):x.head.okP∧0≤x.base∧x.base≤1024-x.head.n:=by
 unfold JB Header.may at h
 simp only[qo,decide_eq_true_eq]at h
 exact⟨x.head.check_zero.1 h.1.1,h.1.2,h.2⟩
theorem cmeet_spec(x y:Ext)(hx:JB x=true)(hy:JB y=true)(m:Mem):
 Abs.Spec qc 119 [.agg x.cells.toArray,.agg y.cells.toArray] m fun u M=>u=.bool (meets x y)∧More m M:=by
 obtain⟨a1,a2,a3⟩:=Kd hx
 obtain⟨b1,b2,b3⟩:=Kd hy
 have a4:=okP_n2 a1
 have b4:=okP_n2 b1
 have w1:IntKind.i64.wrap (y.base+y.head.n)=y.base+y.head.n:=Xl (by omega) (by omega)
 have w2:IntKind.i64.wrap (x.base+x.head.n)=x.base+x.head.n:=Xl (by omega) (by omega)
 clear a1 a2 a3 b1 b2 b3 a4 b4 hx hy
 refine UX Tryz.func119 Tryz.results119 Tryz.ntmps119 fun hc hx k=>?_
 have bx:∀x:Ext,QS qc 102 (.agg x.cells.toArray)=some (.cells false (J6 qc 102) x.cells):=fun x=>Kn _ rfl
 generalize J6 qc 102=s1 at bx
 have k7:∀x:Ext,cellIn 7 (some (.cells false s1 x.cells))=some (.int .i64 x.base):=fun _=>rfl
 have k2:∀x:Ext,cellIn 2 (some (.cells false s1 x.cells))=some (.int .i64 x.head.n):=fun _=>rfl
 obtain⟨M1,hM1⟩:∃M1,M1=(m.push (.cells false s1 x.cells)).push (.cells false s1 y.cells):=⟨_,rfl⟩
 have mo:More m M1:=by rw[hM1];exact(More.push _ _).trans (More.push _ _)
 have gx:M1.get m.size=some (.cells false s1 x.cells):=by rw[hM1,Mem.get_push_old (by rw[Mem.size_push];omega),Mem.get_push_new]
 have gy:M1.get (m.size+1)=some (.cells false s1 y.cells):=by rw[hM1,←Mem.size_push m (.cells false s1 x.cells),Mem.get_push_new]
 refine J0 (R2 @bx @Mem.size_push ?_)
 rw[←hM1]
 refine J0 (J1 ?_)
 cases p1:decide (x.base<y.base+y.head.n)
 case false=>
  refine S7 @gx @gy @k7 @k2 @w1 @w2 @p1 ?_
  refine T0 ?_
  exact⟨_,Thin.refl _,by unfold meets;rw[p1];rfl,mo⟩
 refine S7 @gx @gy @k7 @k2 @w1 @w2 @p1 ?_
 refine T0 ?_
 exact⟨_,Thin.refl _,by unfold meets;rw[p1];rfl,mo⟩
theorem cmeet_at(x y:Ext)(hx:JB x=true)(hy:JB y=true)(m:Mem):
 Abs.Spec qc 119 [.agg x.cells.toArray,.agg y.cells.toArray] m fun u M=>u=.bool (meets x y)∧M=m:=
 Abs.Spec.of_empty (by intro x hx;simp at hx;rcases hx with rfl|rfl<;>rfl) rfl ((cmeet_spec x y hx hy ⟨[]⟩).mono fun _ _ h=>h.1) m
def extT(x:Ext):ByteArray:=if JB x=true then str (JD x)else⟨#[]⟩
theorem cput_spec(x:Ext)(m:Mem):
 Abs.Spec qc 124 [.agg x.cells.toArray] m fun u M=>u=.tuple #[.string (extT x),.int .i64 x.checkI]∧More m M:=by
 refine UX Tryz.func124 Tryz.results124 Tryz.ntmps124 fun hc hx k=>?_
 have bx:QS qc 102 (.agg x.cells.toArray)=some (.cells false (J6 qc 102) x.cells):=Kn _ rfl
 generalize J6 qc 102=s1 at bx
 have row8:Jv 8 0 (some (.cells false s1 x.cells))=some (.agg x.cells.toArray):=rfl
 have row:Jv 7 0 (some (.cells false s1 x.cells))=some (.agg x.head.cells.toArray):=rfl
 have k7:cellIn 7 (some (.cells false s1 x.cells))=some (.int .i64 x.base):=rfl
 have q00:((0:Int) !=0)=false:=rfl
 have q10:((1:Int) !=0)=true:=rfl
 have mo:=More.push m (.cells false s1 x.cells)
 obtain⟨r,hr⟩:∃r,r=extT x:=⟨_,rfl⟩
 rw[←hr]
 refine J0 (R1 @bx ?_)
 refine J0 (J0 (R2 @Mem.get_push_new @row8 ?_))
 refine K0 (ccheck_at x _) ?_
 unfold extT at hr
 by_cases hm:JB x=true
 ·have e:x.checkI=0:=by unfold Ext.checkI;rw[if_pos hm]
  rw[if_pos hm]at hr
  rw[e]
  have hok:=(Kd hm).1
  have e0:=x.head.check_zero.2 hok
  have ep:putT x.head=str (JP x.head):=by unfold putT;rw[if_pos e0]
  have hl:=Kh hok
  have hcat:JA (str markC)+JA (str (JP x.head))≤4611686018427387904:=by
   show 4+(JP x.head).length≤_
   omega
  have hcat2:bcat (str markC) (str (JP x.head))=str (markC++JP x.head):=rfl
  have hcat3:JA (str (markC++JP x.head))+JA (str (Sha.fixed x.base 2))≤4611686018427387904:=by
   show(markC++JP x.head).length+(Sha.fixed x.base 2).length≤_
   rw[qf,Sha.fixed_length,hl]
   decide
  have hcat4:bcat (str (markC++JP x.head)) (str (Sha.fixed x.base 2))=r:=hr.symm
  refine J0 (R1 @q00 ?_)
  refine CF (J3 ?_)
  simp only[zZ,reduceIte,yQ,yW,yX,yZ,yJ,yK,yV]
  refine J0 (R2 @Mem.get_push_new @row ?_)
  refine K1 @ep (hput_at x.head _) ?_
  refine J0 (R0 ?_)
  refine⟨hcat,?_⟩
  refine S2 @Mem.get_push_new @k7 ?_
  refine K0 (Kl x.base 2 (by omega) (by omega) _) ?_
  refine⟨hcat3,?_⟩
  refine T0 ?_
  exact⟨_,Thin.refl _,by rw[hr];rfl,mo⟩
 ·have e:x.checkI=1:=by unfold Ext.checkI;rw[if_neg hm]
  rw[if_neg hm]at hr
  rw[e]
  refine J0 (R1 @q10 ?_)
  refine CT (J0 (R0 ?_))
  refine T0 ?_
  exact⟨_,Thin.refl _,by rw[hr],mo⟩
theorem cput_at(x:Ext)(m:Mem):
 Abs.Spec qc 124 [.agg x.cells.toArray] m fun u M=>u=.tuple #[.string (extT x),.int .i64 x.checkI]∧M=m:=
 Abs.Spec.of_empty (by intro x hx;simp at hx;subst hx;rfl) rfl ((cput_spec x ⟨[]⟩).mono fun _ _ h=>h.1) m
theorem hdrT_02(s:ByteArray):(Vc s).2=0∨(Vc s).2=2:=by unfold Vc;split<;>simp
theorem htake_at2(s:ByteArray)(m:Mem):Abs.Spec qc 149 [.string s] m fun u M=>u=.tuple #[.agg (Vc s).1.cells.toArray,.int .i64 (Vc s).2]∧M=m:=htake_at s m
theorem prefix4(s p:List UInt8)(hp:p.length=4)(hs:4≤s.length):Lib.hasPrefix s p=decide (s.take 4=p):=by
 rw[←Lib.hasPrefix_of_take,hp,decide_eq_true hs,qB]
 rw[qD]
 simp
def catTV(s:List UInt8):Value:=.tuple #[.agg (Xb s).1.cells.toArray,.int .i64 (Xb s).2]
theorem ctake_spec(s:List UInt8)(hs:s.length=256)(m:Mem):
 Abs.Spec qc 69 [.string (str s)] m fun u M=>u=catTV s∧More m M:=by
 refine UX Tryz.func69 Tryz.results69 Tryz.ntmps69 fun hc hx k=>?_
 have hal:Qd qc 102=some (.cells false (J6 qc 102) noExt.cells):=al_Ext
 generalize J6 qc 102=s1 at hal
 have halH:Qd qc 33=some (.cells false (J6 qc 33) noHead.cells):=al_Hdr
 generalize J6 qc 33=s2 at halH
 have hbd0:Qo qc 102 []=some (.agg noExt.cells.toArray):=by kernel_rfl
 have hbd:∀(h:Header)(b:Int),Qo qc 102 [(0,.agg h.cells.toArray),(1,.int .i64 b)]=some (.agg (Ext.mk h b).cells.toArray):=fun h b=>by kernel_rfl
 have row8:∀x:Ext,Jv 8 0 (some (.cells false s1 x.cells))=some (.agg x.cells.toArray):=fun _=>rfl
 have row7:∀h:Header,Jv 7 0 (some (.cells false s2 h.cells))=some (.agg h.cells.toArray):=fun _=>rfl
 have agg8:∀x:Ext,(Value.agg x.cells.toArray).cells.toList=x.cells:=fun _=>rfl
 have agg7:∀h:Header,(Value.agg h.cells.toArray).cells.toList=h.cells:=fun _=>rfl
 have put8:∀(M0:Mem)(b:Nat)(x y:Ext),Ji 8 M0 b 0 y.cells (some (.cells false s1 x.cells))=some (M0.set b (some (.cells false s1 y.cells))):=fun _ _ _ _=>rfl
 have put7:∀(M0:Mem)(b:Nat)(x y:Header),Ji 7 M0 b 0 y.cells (some (.cells false s2 x.cells))=some (M0.set b (some (.cells false s2 y.cells))):=fun _ _ _ _=>rfl
 have q00:((0:Int) !=0)=false:=rfl
 have q10:((1:Int) !=0)=true:=rfl
 have q20:((2:Int) !=0)=true:=rfl
 have hbs:JA (str s)=256:=hs
 have ql:decide ((((256:Nat):Int))<104)=false:=rfl
 obtain⟨r,hr⟩:∃r,r=Xb s:=⟨_,rfl⟩
 have hv:catTV s=.tuple #[.agg r.1.cells.toArray,.int .i64 r.2]:=by rw[hr];rfl
 rw[hv]
 clear hv
 unfold Xb at hr
 obtain⟨M1,hM1⟩:∃M1,M1=m.push (.cells false s1 noExt.cells):=⟨_,rfl⟩
 obtain⟨b2,hb2⟩:∃b,b=m.size:=⟨_,rfl⟩
 have hs1:M1.size=m.size+1:=by rw[hM1,Mem.size_push]
 have g2:M1.get b2=some (.cells false s1 noExt.cells):=by rw[hM1,hb2,Mem.get_push_new]
 have mo1:More m M1:=by rw[hM1];exact More.push _ _
 have fin:∀(M:Mem)(x y:Ext),M.get b2=some (.cells false s1 y.cells)→More m M→(M.set b2 (some (.cells false s1 x.cells))).get b2=some (.cells false s1 x.cells)∧More m (M.set b2 (some (.cells false s1 x.cells))):=fun M x y hg hm=>
  ⟨Mem.get_set_same hg _,fun b z hb=>by
   have:=Mem.get_lt hb
   rw[Mem.get_set_ne (by omega)];exact hm.get b z hb,by rw[Mem.size_set];exact hm.size⟩
 refine J0 (R1 @hal ?_)
 rw[←hM1,←hb2]
 refine J0 (R0 ?_)
 refine K0 (cutPrefix_spec (str s) _ _) ?_
 refine J0 (J8 (J0 (R0 ?_)))
 refine⟨by kernel_rfl,_,Uz (str s) 0 (by decide) (by show s.length≤_;omega) _,?_⟩
 rintro _ M9 ⟨rfl,e9⟩;replace e9:=e9.symm;subst e9
 have h0':Lib.trimB (str s).data.toList 0=JO s:=rfl
 rw[h0']
 refine S1 @beq_nilS ?_
 refine CC (decide (JO s=[])) (fun h=>J0 (J1 ?_)) (fun h=>?_)
 ·rw[if_pos (of_decide_eq_true h)]at hr
  subst hr
  refine S4 @hbd0 @g2 @agg8 @put8 ?_
  obtain⟨gs,ms⟩:=fin M1 noExt noExt g2 mo1
  refine T3 @Q9 @gs @row8 ?_
  exact⟨_,Thin.refl _,ms⟩
 rw[if_neg (of_decide_eq_false h)]at hr
 have hpre:Lib.hasPrefix (str s).data.toList [83,76,67,49]=decide (s.take 4=markC):=prefix4 s markC rfl (by omega)
 have htr:Lib.trimB (str (s.drop 104)).data.toList 0=JO (s.drop 104):=rfl
 have sl104:∀get,JY qc get 9 (.string (str s)) (some (.int .i64 104)) none=some (.string (str (s.drop 104))):=fun get=>ZC get s 104 (by omega)
 have hdl:(s.drop 104).length=152:=by rw[qi,hs]
 rw[hpre]
 cases hm:decide (s.take 4=markC)
 case false=>
  rw[if_pos (.inl (of_decide_eq_false hm))]at hr
  subst hr
  refine J0 (R0 ?_)
  refine CT (J0 (R4 @hbd0 @g2 @agg8 @put8 ?_))
  obtain⟨gs,ms⟩:=fin M1 noExt noExt g2 mo1
  refine T3 @Q9 @gs @row8 ?_
  exact⟨_,Thin.refl _,ms⟩
 have hm':=of_decide_eq_true hm
 have htp:Lib.trimPrefix (str s).data.toList [83,76,67,49]=s.drop 4:=by
  unfold Lib.trimPrefix
  rw[hpre,hm]
  rfl
 rw[htp]
 refine J0 (R3 @hbs @ql @sl104 ?_)
 refine⟨by kernel_rfl,_,Uz (str (s.drop 104)) 0 (by decide) (by show(s.drop 104).length≤_;omega) _,?_⟩
 rintro _ M9 ⟨rfl,e9⟩;replace e9:=e9.symm;subst e9
 rw[htr]
 refine S1 @beq_nilS ?_
 refine CC (!decide (JO (s.drop 104)=[])) (fun h2=>J0 (J1 ?_)) (fun h2=>J3 ?_)
 ·rw[if_pos (.inr (of_decide_eq_false (by simpa using h2)))]at hr
  subst hr
  refine S4 @hbd0 @g2 @agg8 @put8 ?_
  obtain⟨gs,ms⟩:=fin M1 noExt noExt g2 mo1
  refine T3 @Q9 @gs @row8 ?_
  exact⟨_,Thin.refl _,ms⟩
 have h2':JO (s.drop 104)=[]:=by simpa using h2
 rw[if_neg (by rintro(h3|h3);exact h3 hm';exact h3 h2')]at hr
 have d4l:(s.drop 4).length=252:=by rw[qi,hs]
 have sl98:∀get,JY qc get 9 (.string (str (s.drop 4))) none (some (.int .i64 98))=some (.string (str (QG s 4 98))):=fun get=>Zh get (str (s.drop 4)) 98 (by rw[str_size];omega)
 have sl98':∀get,JY qc get 9 (.string (str (s.drop 4))) (some (.int .i64 98)) none=some (.string (str (s.drop 102))):=fun get=>by
  have:=ZC get (s.drop 4) 98 (by omega)
  rw[qQ]at this
  exact this
 have d102l:(s.drop 102).length=154:=by rw[qi,hs]
 have tk:=fun m=>take_spec (str (s.drop 102)) 2 (by decide) (by decide) (by rw[str_size];omega) (by rw[str_size];omega) m
 have etk:Sha.num ((str (s.drop 102)).data.toList.take 2)=Sha.num (QG s 102 2):=rfl
 have h02:=hdrT_02 (str (QG s 4 98))
 have hT:=fun m=>htake_at2 (str (QG s 4 98)) m
 obtain⟨H,hH⟩:∃H,H=(Vc (str (QG s 4 98))).1:=⟨_,rfl⟩
 obtain⟨e,he⟩:∃e,e=(Vc (str (QG s 4 98))).2:=⟨_,rfl⟩
 obtain⟨n,hn⟩:∃n:Int,n=(Sha.num (QG s 102 2):Nat):=⟨_,rfl⟩
 rw[←hH,←he,←hn]at hr
 rw[←he]at h02
 simp only[←hH,←he]at hT
 simp only[etk,←hn]at tk
 simp only[zZ,reduceIte,yQ,yW,yX,yZ,yJ,yK,yV]
 refine J0 (R1 @sl98 ?_)
 refine K4 @halH @Mem.get_push_new @agg7 @put7 (hT _) ?_
 obtain⟨b6,hb6⟩:∃b,b=M1.size:=⟨_,rfl⟩
 obtain⟨M2,hM2⟩:∃M2,M2=(M1.push (.cells false s2 noHead.cells)).set M1.size (some (.cells false s2 H.cells)):=⟨_,rfl⟩
 rw[←hM2,←hb6]
 have g6:M2.get b6=some (.cells false s2 H.cells):=by rw[hM2,hb6];exact Mem.get_set_same (Mem.get_push_new _ _) _
 have mo2:More M1 M2:=⟨fun b x hb=>by
  have:=Mem.get_lt hb
  rw[hM2,Mem.get_set_ne (by omega),Mem.get_push_old this];exact hb,by rw[hM2,Mem.size_set,Mem.size_push];omega⟩
 refine J0 (R1 @sl98' ?_)
 refine K0 (tk _) ?_
 refine J0 (R7 @g6 @row7 @hbd @hal @Mem.get_push_new @agg8 @put8 ?_)
 obtain⟨b11,hb11⟩:∃b,b=M2.size:=⟨_,rfl⟩
 obtain⟨M3,hM3⟩:∃M3,M3=(M2.push (.cells false s1 noExt.cells)).set M2.size (some (.cells false s1 (Ext.mk H n).cells)):=⟨_,rfl⟩
 rw[←hM3,←hb11]
 have g11:M3.get b11=some (.cells false s1 (Ext.mk H n).cells):=by rw[hM3,hb11];exact Mem.get_set_same (Mem.get_push_new _ _) _
 have mo3:More M2 M3:=⟨fun b x hb=>by
  have:=Mem.get_lt hb
  rw[hM3,Mem.get_set_ne (by omega),Mem.get_push_old this];exact hb,by rw[hM3,Mem.size_set,Mem.size_push];omega⟩
 have g2':=mo3.get _ _ (mo2.get _ _ g2)
 have mo:=(mo1.trans mo2).trans mo3
 obtain⟨gs0,ms0⟩:=fin M3 noExt noExt g2' mo
 obtain⟨gs,ms⟩:=fin M3 (Ext.mk H n) noExt g2' mo
 refine J0 (J0 (J1 ?_))
 rcases h02 with h02|h02
 case inr=>
  rw[if_pos (.inl (by rw[h02];decide))]at hr
  rw[h02]
  subst hr
  refine S1 @q20 ?_
  refine CT (J0 (R4 @hbd0 @g2' @agg8 @put8 ?_))
  refine T3 @Q9 @gs0 @row8 ?_
  exact⟨_,Thin.refl _,ms0⟩
 rw[h02]at hr ⊢
 refine S3 @q00 @g11 @row8 ?_
 refine⟨by kernel_rfl,_,ccheck_at (Ext.mk H n) _,?_⟩
 rintro _ M9 ⟨rfl,e9⟩;replace e9:=e9.symm;subst e9
 by_cases hq:JB (Ext.mk H n)=true
 ·have ec:(Ext.mk H n).checkI=0:=by unfold Ext.checkI;rw[if_pos hq]
  rw[if_neg (by rintro(h3|h3);exact h3 rfl;rw[hq]at h3;cases h3)]at hr
  subst hr
  rw[ec]
  refine S1 @q00 ?_
  refine CF (J3 ?_)
  simp only[zZ,reduceIte,yQ,yW,yX,yZ,yJ,yK,yV]
  refine J0 (R5 @g11 @row8 @g2' @agg8 @put8 ?_)
  refine T3 @Q9 @gs @row8 ?_
  exact⟨_,Thin.refl _,ms⟩
 ·have ec:(Ext.mk H n).checkI=1:=by unfold Ext.checkI;rw[if_neg hq]
  rw[if_pos (.inr (by simpa using hq))]at hr
  subst hr
  rw[ec]
  refine S1 @q10 ?_
  refine CT (J0 (R4 @hbd0 @g2' @agg8 @put8 ?_))
  refine T3 @Q9 @gs0 @row8 ?_
  exact⟨_,Thin.refl _,ms0⟩
theorem ctake_at(s:List UInt8)(hs:s.length=256)(m:Mem):
 Abs.Spec qc 69 [.string (str s)] m fun u M=>u=.tuple #[.agg (Xb s).1.cells.toArray,.int .i64 (Xb s).2]∧M=m:=
 Abs.Spec.of_empty (by intro x hx;simp at hx;subst hx;rfl) rfl ((ctake_spec s hs ⟨[]⟩).mono fun _ _ h=>h.1) m
theorem jblank_at(s:List UInt8)(hs:s.length≤1000000)(m:Mem):
 Abs.Spec qc 154 [.string (str s)] m fun u M=>u=.bool (decide (JO s=[]))∧M=m:=by
 refine UX Tryz.func154 Tryz.results154 Tryz.ntmps154 fun hc hx k=>?_
 refine J0 (R0 ?_)
 refine J0 (R0 ?_)
 refine K1 @beq_nilS (Uz (str s) 0 (by decide) (by show s.length≤_;omega) _) ?_
 refine T0 ?_
 exact⟨_,Thin.refl _,rfl,rfl⟩
def Rec.may(r:Rec):Bool:=JB r.x&&decide ((r.got.length:Int)=r.x.head.n)
def Rec.checkI(r:Rec):Int:=if r.may=true then 0 else 1
theorem rec_checkI_of(r:Rec):r.checkI=if decide (r.x.head.check≠0)||decide (r.x.base<0)||decide (r.x.base>1024-r.x.head.n)||((r.got.length:Int) !=r.x.head.n)then 1 else 0:=by
 unfold Rec.checkI Rec.may JB Header.may
 by_cases h1:r.x.head.check=0<;>by_cases h2:r.x.base<0<;>by_cases h3:r.x.base>1024-r.x.head.n<;>by_cases h4:(r.got.length:Int)=r.x.head.n<;>simp[h1,h2,h3,h4]<;>omega
theorem jcheck_spec(r:Rec)(m:Mem):
 Abs.Spec qc 156 [.agg r.cells.toArray] m fun u M=>u=.int .i64 r.checkI∧More m M:=by
 refine UX Tryz.func156 Tryz.results156 Tryz.ntmps156 fun hc hx k=>?_
 have bx:QS qc 132 (.agg r.cells.toArray)=some (.cells false (J6 qc 132) r.cells):=bx_Rec _ rfl
 generalize J6 qc 132=s1 at bx
 have row:Jv 7 0 (some (.cells false s1 r.cells))=some (.agg r.x.head.cells.toArray):=rfl
 have rowS:Jv 5 8 (some (.cells false s1 r.cells))=some (Xh r.got):=rfl
 have k7:cellIn 7 (some (.cells false s1 r.cells))=some (.int .i64 r.x.base):=rfl
 have k2:cellIn 2 (some (.cells false s1 r.cells))=some (.int .i64 r.x.head.n):=rfl
 have q00:((0:Int) !=0)=false:=rfl
 have q10:((1:Int) !=0)=true:=rfl
 obtain⟨M1,hM1⟩:∃M1,M1=m.push (.cells false s1 r.cells):=⟨_,rfl⟩
 have mo:More m M1:=by rw[hM1];exact More.push _ _
 have g1:M1.get m.size=some (.cells false s1 r.cells):=by rw[hM1,Mem.get_push_new]
 obtain⟨c,hr⟩:∃c,c=r.checkI:=⟨_,rfl⟩
 rw[←hr]
 rw[rec_checkI_of]at hr
 refine J0 (R1 @bx ?_)
 rw[←hM1]
 have e0:∀(a:Bool),a=true→decide (r.x.head.check≠0)=a→c=1:=fun a h1 h2=>by rw[hr,h2,h1];rfl
 rcases Vf r.x.head with e|e
 case inr=>
  refine J0 (J0 (D2 30 @g1 @row ?_))
  refine⟨by kernel_rfl,_,hcheck_at r.x.head _,?_⟩
  rw[e]at hr ⊢
  refine S2 @q10 @k7 ?_
  obtain rfl:c=1:=by rw[hr];rfl
  refine CT (J0 (R0 ?_))
  refine T0 ?_
  exact⟨_,Thin.refl _,mo⟩
 have hn:=VQ (r.x.head.check_zero.1 e)
 have w1:IntKind.i64.wrap (1024-r.x.head.n)=1024-r.x.head.n:=Xl (by omega) (by omega)
 refine J0 (J0 (D2 30 @g1 @row ?_))
 refine⟨by kernel_rfl,_,hcheck_at r.x.head _,?_⟩
 rw[e]at hr ⊢
 cases p1:decide (r.x.base<0)
 case true=>
  refine S4 @q00 @k7 @g1 @p1 ?_
  obtain rfl:c=1:=by rw[hr,p1];rfl
  refine CT (J0 (R0 ?_))
  refine T0 ?_
  exact⟨_,Thin.refl _,mo⟩
 cases p2:decide (r.x.base>1024-r.x.head.n)
 case true=>
  refine S7 @q00 @k7 @k2 @g1 @p1 @w1 @p2 ?_
  obtain rfl:c=1:=by rw[hr,p1,p2];rfl
  refine CT (J0 (R0 ?_))
  refine T0 ?_
  exact⟨_,Thin.refl _,mo⟩
 refine S8 @q00 @k7 @k2 @g1 @p1 @w1 @p2 @rowS ?_
 rw[p1,p2]at hr
 refine⟨by kernel_rfl,_,size_at r.got _,?_⟩
 refine S8 @q00 @k7 @k2 @g1 @p1 @w1 @p2 @rowS ?_
 refine CC ((r.got.length:Int) !=r.x.head.n) (fun h=>J0 (J1 ?_)) (fun h=>J3 ?_)
 ·obtain rfl:c=1:=by rw[hr,h];rfl
  refine S0 ?_
  refine T0 ?_
  exact⟨_,Thin.refl _,mo⟩
 ·obtain rfl:c=0:=by rw[hr,h];rfl
  simp only[zZ,reduceIte,yQ,yW,yX,yZ,yJ,yK,yV]
  refine J0 (R0 ?_)
  refine T0 ?_
  exact⟨_,Thin.refl _,mo⟩
theorem jcheck_at(r:Rec)(m:Mem):
 Abs.Spec qc 156 [.agg r.cells.toArray] m fun u M=>u=.int .i64 r.checkI∧M=m:=
 Abs.Spec.of_empty (by intro x hx;simp at hx;subst hx;rfl) rfl ((jcheck_spec r ⟨[]⟩).mono fun _ _ h=>h.1) m
def recT(r:Rec):ByteArray:=if r.may=true then str (JW r)else⟨#[]⟩
theorem jput_spec(r:Rec)(m:Mem):
 Abs.Spec qc 139 [.agg r.cells.toArray] m fun u M=>u=.tuple #[.string (recT r),.int .i64 r.checkI]∧More m M:=by
 refine UX Tryz.func139 Tryz.results139 Tryz.ntmps139 fun hc hx k=>?_
 have bx:QS qc 132 (.agg r.cells.toArray)=some (.cells false (J6 qc 132) r.cells):=bx_Rec _ rfl
 generalize J6 qc 132=s1 at bx
 have row13:Jv 13 0 (some (.cells false s1 r.cells))=some (.agg r.cells.toArray):=rfl
 have row:Jv 7 0 (some (.cells false s1 r.cells))=some (.agg r.x.head.cells.toArray):=rfl
 have rowS:Jv 5 8 (some (.cells false s1 r.cells))=some (Xh r.got):=rfl
 have k7:cellIn 7 (some (.cells false s1 r.cells))=some (.int .i64 r.x.base):=rfl
 have q00:((0:Int) !=0)=false:=rfl
 have q10:((1:Int) !=0)=true:=rfl
 obtain⟨M1,hM1⟩:∃M1,M1=m.push (.cells false s1 r.cells):=⟨_,rfl⟩
 have mo:More m M1:=by rw[hM1];exact More.push _ _
 have g1:M1.get m.size=some (.cells false s1 r.cells):=by rw[hM1,Mem.get_push_new]
 obtain⟨c,hr⟩:∃c,c=recT r:=⟨_,rfl⟩
 rw[←hr]
 refine J0 (R1 @bx ?_)
 rw[←hM1]
 refine J0 (J0 (R2 @g1 @row13 ?_))
 refine K0 (jcheck_at r _) ?_
 unfold recT at hr
 by_cases hm:r.may=true
 ·have e:r.checkI=0:=by unfold Rec.checkI;rw[if_pos hm]
  rw[if_pos hm]at hr
  rw[e]
  have hmx:JB r.x=true:=by unfold Rec.may at hm;rw[qo]at hm;exact hm.1
  have hok:=(Kd hmx).1
  have e0:=r.x.head.check_zero.2 hok
  have ep:putT r.x.head=str (JP r.x.head):=by unfold putT;rw[if_pos e0]
  have hl:=Kh hok
  have hcat:JA (str markJ)+JA (str (JP r.x.head))≤4611686018427387904:=by
   show 4+(JP r.x.head).length≤_
   omega
  have hcat3:JA (str (markJ++JP r.x.head))+JA (str (Sha.fixed r.x.base 2))≤4611686018427387904:=by
   show(markJ++JP r.x.head).length+(Sha.fixed r.x.base 2).length≤_
   rw[qf,Sha.fixed_length,hl]
   decide
  have hcat4:JA (str (markJ++JP r.x.head++Sha.fixed r.x.base 2))+JA (str (XH r.got))≤4611686018427387904:=by
   show(markJ++JP r.x.head++Sha.fixed r.x.base 2).length+(XH r.got).length≤_
   rw[qf,qf,Sha.fixed_length,hl,U5]
   decide
  refine J0 (R1 @q00 ?_)
  refine CF (J3 ?_)
  simp only[zZ,reduceIte,yQ,yW,yX,yZ,yJ,yK,yV]
  refine J0 (R2 @g1 @row ?_)
  refine K1 @ep (hput_at r.x.head _) ?_
  refine J0 (D0 10 ?_)
  refine⟨hcat,?_⟩
  refine S2 @g1 @k7 ?_
  refine⟨by kernel_rfl,_,Kl r.x.base 2 (by omega) (by omega) _,?_⟩
  refine S0 ?_
  refine⟨hcat3,?_⟩
  refine S2 @g1 @rowS ?_
  refine⟨by kernel_rfl,_,sput_at r.got _,?_⟩
  refine S0 ?_
  refine⟨hcat4,?_⟩
  refine T0 ?_
  exact⟨_,Thin.refl _,by rw[hr];rfl,mo⟩
 ·have e:r.checkI=1:=by unfold Rec.checkI;rw[if_neg hm]
  rw[if_neg hm]at hr
  rw[e]
  refine J0 (R1 @q10 ?_)
  refine CT (J0 (R0 ?_))
  refine T0 ?_
  exact⟨_,Thin.refl _,by rw[hr],mo⟩
theorem jput_at(r:Rec)(m:Mem):
 Abs.Spec qc 139 [.agg r.cells.toArray] m fun u M=>u=.tuple #[.string (recT r),.int .i64 r.checkI]∧M=m:=
 Abs.Spec.of_empty (by intro x hx;simp at hx;subst hx;rfl) rfl ((jput_spec r ⟨[]⟩).mono fun _ _ h=>h.1) m
theorem setTake_02(n:Nat)(t:List UInt8):(QC n t).2=0∨(QC n t).2=2:=by unfold QC;split<;>simp
theorem setTake_len{n:Nat}{t:List UInt8}(h:(QC n t).2=0):(QC n t).1.length=n:=by
 unfold QC at h ⊢
 split at h
 ·exact absurd h (by decide)
 ·rename_i h2
  rw[if_neg h2];simp
theorem hdrT_ok{s:ByteArray}(h:(Vc s).2=0):(Vc s).1.okP:=by
 unfold Vc at h ⊢
 split at h
 ·rename_i h2
  rw[if_pos h2]
  exact(Zr s).check_zero.1 ((Vf _).resolve_right h2.2.2)
 ·exact absurd h (by decide)
theorem cutL_len{s:List UInt8}{a n:Nat}(h:a+n≤s.length):(QG s a n).length=n:=by
 unfold QG
 rw[qt,qi]
 omega
def jouTV(s:List UInt8):Value:=.tuple #[.agg (QM s).1.cells.toArray,.int .i64 (QM s).2]
theorem jtake_spec(s:List UInt8)(hs:s.length=256)(m:Mem):
 Abs.Spec qc 71 [.string (str s)] m fun u M=>u=jouTV s∧More m M:=by
 refine UX Tryz.func71 Tryz.results71 Tryz.ntmps71 fun hc hx k=>?_
 have hal:Qd qc 132=some (.cells false (J6 qc 132) noRec.cells):=al_Rec
 generalize J6 qc 132=s1 at hal
 have halH:Qd qc 33=some (.cells false (J6 qc 33) noHead.cells):=al_Hdr
 generalize J6 qc 33=s2 at halH
 have halS:Qd qc 57=some (.cells false (J6 qc 57) (setCells [])):=al_Set
 generalize J6 qc 57=s3 at halS
 have hbd0:Qo qc 132 []=some (.agg noRec.cells.toArray):=by kernel_rfl
 have hbdE:∀(h:Header)(b:Int),Qo qc 102 [(0,.agg h.cells.toArray),(1,.int .i64 b)]=some (.agg (Ext.mk h b).cells.toArray):=fun h b=>by kernel_rfl
 have hbd:∀(x:Ext)(l:List Bool),Qo qc 132 [(0,.agg x.cells.toArray),(1,Xh l)]=some (.agg (Rec.mk x l).cells.toArray):=fun x l=>by kernel_rfl
 have row13:∀x:Rec,Jv 13 0 (some (.cells false s1 x.cells))=some (.agg x.cells.toArray):=fun _=>rfl
 have row7:∀h:Header,Jv 7 0 (some (.cells false s2 h.cells))=some (.agg h.cells.toArray):=fun _=>rfl
 have row5:∀l,Jv 5 0 (some (.cells false s3 (setCells l)))=some (Xh l):=fun _=>rfl
 have k2:∀h:Header,cellIn 2 (some (.cells false s2 h.cells))=some (.int .i64 h.n):=fun _=>rfl
 have agg13:∀x:Rec,(Value.agg x.cells.toArray).cells.toList=x.cells:=fun _=>rfl
 have agg7:∀h:Header,(Value.agg h.cells.toArray).cells.toList=h.cells:=fun _=>rfl
 have agg5:∀l,(Xh l).cells.toList=setCells l:=fun _=>rfl
 have put13:∀(M0:Mem)(b:Nat)(x y:Rec),Ji 13 M0 b 0 y.cells (some (.cells false s1 x.cells))=some (M0.set b (some (.cells false s1 y.cells))):=fun _ _ _ _=>rfl
 have put7:∀(M0:Mem)(b:Nat)(x y:Header),Ji 7 M0 b 0 y.cells (some (.cells false s2 x.cells))=some (M0.set b (some (.cells false s2 y.cells))):=fun _ _ _ _=>rfl
 have put5:∀(M0:Mem)(b:Nat)(x y:List Bool),Ji 5 M0 b 0 (setCells y) (some (.cells false s3 (setCells x)))=some (M0.set b (some (.cells false s3 (setCells y)))):=fun _ _ _ _=>rfl
 have q00:((0:Int) !=0)=false:=rfl
 have q10:((1:Int) !=0)=true:=rfl
 have q20:((2:Int) !=0)=true:=rfl
 have hbs:JA (str s)=256:=hs
 have ql:decide ((((256:Nat):Int))<136)=false:=rfl
 obtain⟨r,hr⟩:∃r,r=QM s:=⟨_,rfl⟩
 have hv:jouTV s=.tuple #[.agg r.1.cells.toArray,.int .i64 r.2]:=by rw[hr];rfl
 rw[hv]
 clear hv
 unfold QM at hr
 obtain⟨M1,hM1⟩:∃M1,M1=m.push (.cells false s1 noRec.cells):=⟨_,rfl⟩
 obtain⟨b2,hb2⟩:∃b,b=m.size:=⟨_,rfl⟩
 have hs1:M1.size=m.size+1:=by rw[hM1,Mem.size_push]
 have g2:M1.get b2=some (.cells false s1 noRec.cells):=by rw[hM1,hb2,Mem.get_push_new]
 have mo1:More m M1:=by rw[hM1];exact More.push _ _
 have fin:∀(M:Mem)(x y:Rec),M.get b2=some (.cells false s1 y.cells)→More m M→(M.set b2 (some (.cells false s1 x.cells))).get b2=some (.cells false s1 x.cells)∧More m (M.set b2 (some (.cells false s1 x.cells))):=fun M x y hg hm=>
  ⟨Mem.get_set_same hg _,fun b z hb=>by
   have:=Mem.get_lt hb
   rw[Mem.get_set_ne (by omega)];exact hm.get b z hb,by rw[Mem.size_set];exact hm.size⟩
 refine J0 (R1 @hal ?_)
 rw[←hM1,←hb2]
 refine J0 (J8 (J0 (R0 ?_)))
 refine K0 (jblank_at s (by omega) _) ?_
 refine CC (decide (JO s=[])) (fun h=>J0 (J1 ?_)) (fun h=>?_)
 ·rw[if_pos (of_decide_eq_true h)]at hr
  subst hr
  refine S4 @hbd0 @g2 @agg13 @put13 ?_
  obtain⟨gs,ms⟩:=fin M1 noRec noRec g2 mo1
  refine T3 @Q9 @gs @row13 ?_
  exact⟨_,Thin.refl _,ms⟩
 rw[if_neg (of_decide_eq_false h)]at hr
 have hpre:Lib.hasPrefix (str s).data.toList (ByteArray.mk #[83,76,74,49]).data.toList=decide (s.take 4=markJ):=prefix4 s markJ rfl (by omega)
 have sl136:∀get,JY qc get 9 (.string (str s)) (some (.int .i64 136)) none=some (.string (str (s.drop 136))):=fun get=>ZC get s 136 (by omega)
 have hdl:(s.drop 136).length=120:=by rw[qi,hs]
 have hPS:=fun m=>hasPrefix_spec (str s) (ByteArray.mk #[83,76,74,49]) m
 rw[hpre]at hPS
 refine J0 (R2 @hbs @ql ?_)
 refine⟨by kernel_rfl,_,hPS _,?_⟩
 rintro _ M9 ⟨rfl,e9⟩;replace e9:=e9.symm;subst e9
 cases hm:decide (s.take 4=markJ)
 case false=>
  rw[if_pos (.inl (of_decide_eq_false hm))]at hr
  subst hr
  refine S0 ?_
  refine CT (J0 (R4 @hbd0 @g2 @agg13 @put13 ?_))
  obtain⟨gs,ms⟩:=fin M1 noRec noRec g2 mo1
  refine T3 @Q9 @gs @row13 ?_
  exact⟨_,Thin.refl _,ms⟩
 have hm':=of_decide_eq_true hm
 refine S1 @sl136 ?_
 refine K0 (jblank_at (s.drop 136) (by omega) _) ?_
 refine CC (!decide (JO (s.drop 136)=[])) (fun h2=>J0 (J1 ?_)) (fun h2=>J3 ?_)
 ·rw[if_pos (.inr (of_decide_eq_false (by simpa using h2)))]at hr
  subst hr
  refine S4 @hbd0 @g2 @agg13 @put13 ?_
  obtain⟨gs,ms⟩:=fin M1 noRec noRec g2 mo1
  refine T3 @Q9 @gs @row13 ?_
  exact⟨_,Thin.refl _,ms⟩
 have h2':JO (s.drop 136)=[]:=by simpa using h2
 rw[if_neg (by rintro(h3|h3);exact h3 hm';exact h3 h2')]at hr
 have d4l:(s.drop 4).length=252:=by rw[qi,hs]
 have sl4:∀get,JY qc get 9 (.string (str s)) (some (.int .i64 4)) none=some (.string (str (s.drop 4))):=fun get=>ZC get s 4 (by omega)
 have sl98:∀get,JY qc get 9 (.string (str (s.drop 4))) none (some (.int .i64 98))=some (.string (str (QG s 4 98))):=fun get=>Zh get (str (s.drop 4)) 98 (by rw[str_size];omega)
 have sl98':∀get,JY qc get 9 (.string (str (s.drop 4))) (some (.int .i64 98)) none=some (.string (str (s.drop 102))):=fun get=>by
  have:=ZC get (s.drop 4) 98 (by omega)
  rw[qQ]at this
  exact this
 have d102l:(s.drop 102).length=154:=by rw[qi,hs]
 have d104l:(s.drop 104).length=152:=by rw[qi,hs]
 have sl32:∀get,JY qc get 9 (.string (str (s.drop 104))) none (some (.int .i64 32))=some (.string (str (QG s 104 32))):=fun get=>Zh get (str (s.drop 104)) 32 (by rw[str_size];omega)
 have tk:=fun m=>take_spec (str (s.drop 102)) 2 (by decide) (by decide) (by rw[str_size];omega) (by rw[str_size];omega) m
 have etk:Sha.num ((str (s.drop 102)).data.toList.take 2)=Sha.num (QG s 102 2):=rfl
 have etd:(str (s.drop 102)).data.toList.drop 2=s.drop 104:=by show(s.drop 102).drop 2=_;rw[qQ]
 have h02:=hdrT_02 (str (QG s 4 98))
 have hok0:=fun h=>hdrT_ok (s:=str (QG s 4 98)) h
 have hT:=fun m=>htake_at2 (str (QG s 4 98)) m
 have l32:(QG s 104 32).length=32:=cutL_len (by omega)
 obtain⟨H,hH⟩:∃H,H=(Vc (str (QG s 4 98))).1:=⟨_,rfl⟩
 obtain⟨e,he⟩:∃e,e=(Vc (str (QG s 4 98))).2:=⟨_,rfl⟩
 obtain⟨n,hn⟩:∃n:Int,n=(Sha.num (QG s 102 2):Nat):=⟨_,rfl⟩
 obtain⟨t,ht⟩:∃t,t=QG s 104 32:=⟨_,rfl⟩
 rw[←hH,←he,←hn,←ht]at hr
 rw[←he]at h02
 rw[←hH,←he]at hok0
 rw[←ht]at l32
 simp only[←hH,←he]at hT
 simp only[etk,etd,←hn]at tk
 simp only[←ht]at sl32
 simp only[zZ,reduceIte,yQ,yW,yX,yZ,yJ,yK,yV]
 refine J0 (R1 @sl4 ?_)
 refine J0 (R1 @sl98 ?_)
 refine K4 @halH @Mem.get_push_new @agg7 @put7 (hT _) ?_
 obtain⟨b6,hb6⟩:∃b,b=M1.size:=⟨_,rfl⟩
 obtain⟨M2,hM2⟩:∃M2,M2=(M1.push (.cells false s2 noHead.cells)).set M1.size (some (.cells false s2 H.cells)):=⟨_,rfl⟩
 rw[←hM2,←hb6]
 have g6:M2.get b6=some (.cells false s2 H.cells):=by rw[hM2,hb6];exact Mem.get_set_same (Mem.get_push_new _ _) _
 have mo2:More M1 M2:=⟨fun b x hb=>by
  have:=Mem.get_lt hb
  rw[hM2,Mem.get_set_ne (by omega),Mem.get_push_old this];exact hb,by rw[hM2,Mem.size_set,Mem.size_push];omega⟩
 have g22:=mo2.get _ _ g2
 have m12:=mo1.trans mo2
 rcases h02 with h02|h02
 case inr=>
  rw[if_pos (.inl (by rw[h02];decide))]at hr
  rw[h02]
  subst hr
  obtain⟨gs0,ms0⟩:=fin M2 noRec noRec g22 m12
  refine J0 (J0 (R1 @q20 ?_))
  refine CT (J0 (R4 @hbd0 @g22 @agg13 @put13 ?_))
  refine T3 @Q9 @gs0 @row13 ?_
  exact⟨_,Thin.refl _,ms0⟩
 have hok:=hok0 h02
 have hn2:=VQ hok
 obtain⟨q,hq⟩:∃q:Nat,H.n=(q:Int):=⟨H.n.toNat,by omega⟩
 have hst:=fun m=>stake_at q (by omega) t l32 m
 have s02:=setTake_02 q t
 have slen:=fun h=>setTake_len (n:=q) (t:=t) h
 rw[h02,hq,qj]at hr
 obtain⟨L,hL⟩:∃L,L=(QC q t).1:=⟨_,rfl⟩
 obtain⟨e2,he2⟩:∃e,e=(QC q t).2:=⟨_,rfl⟩
 rw[←hL,←he2]at hr
 rw[←he2]at s02
 rw[←he2,←hL]at slen
 simp only[←hL,←he2]at hst
 rw[h02]
 refine J0 (J0 (R1 @q00 ?_))
 refine CF (J3 ?_)
 simp only[zZ,reduceIte,yQ,yW,yX,yZ,yJ,yK,yV]
 refine J0 (R1 @sl98' ?_)
 refine K0 (tk _) ?_
 refine J0 (CW_draw4 hmix 9 [7] (by kernel_rfl) ?_)
 simp only[sQB,Zq,List.getElem?_cons_succ,List.getElem?_cons_zero,Option.bind_some,zZ,reduceIte,yQ,yW,yX,yZ,yJ,yK,yV,zDk,Jc,Jb,Ja,J9,g6,k2,hq,sl32]
 refine⟨by kernel_rfl,_,hst _,?_⟩
 simp only[sQB,Zq,List.getElem?_cons_succ,List.getElem?_cons_zero,Option.bind_some,zZ,reduceIte,yQ,yW,yX,yZ,yJ,yK,yV,zDk,Jc,Jb,Ja,J9,halS,Mem.get_push_new,agg5,put5]
 refine⟨⟨_,rfl,rfl⟩,?_⟩
 obtain⟨b9,hb9⟩:∃b,b=M2.size:=⟨_,rfl⟩
 obtain⟨M3,hM3⟩:∃M3,M3=(M2.push (.cells false s3 (setCells []))).set M2.size (some (.cells false s3 (setCells L))):=⟨_,rfl⟩
 rw[←hM3,←hb9]
 have g9:M3.get b9=some (.cells false s3 (setCells L)):=by rw[hM3,hb9];exact Mem.get_set_same (Mem.get_push_new _ _) _
 have mo3:More M2 M3:=⟨fun b x hb=>by
  have:=Mem.get_lt hb
  rw[hM3,Mem.get_set_ne (by omega),Mem.get_push_old this];exact hb,by rw[hM3,Mem.size_set,Mem.size_push];omega⟩
 have g6':=mo3.get _ _ g6
 have g23:=mo3.get _ _ g22
 refine J0 (J1 ?_)
 simp only[zZ,reduceIte,yQ,yW,yX,yZ,yJ,yK,yV,zDk,Jc,Jb,Ja,J9,g6',g9,row7,row5,hbdE,hbd,hal,Mem.get_push_new,agg13,put13]
 obtain⟨b10,hb10⟩:∃b,b=M3.size:=⟨_,rfl⟩
 obtain⟨M4,hM4⟩:∃M4,M4=(M3.push (.cells false s1 noRec.cells)).set M3.size (some (.cells false s1 (Rec.mk (Ext.mk H n) L).cells)):=⟨_,rfl⟩
 rw[←hM4,←hb10]
 have g10:M4.get b10=some (.cells false s1 (Rec.mk (Ext.mk H n) L).cells):=by rw[hM4,hb10];exact Mem.get_set_same (Mem.get_push_new _ _) _
 have mo4:More M3 M4:=⟨fun b x hb=>by
  have:=Mem.get_lt hb
  rw[hM4,Mem.get_set_ne (by omega),Mem.get_push_old this];exact hb,by rw[hM4,Mem.size_set,Mem.size_push];omega⟩
 have g24:=mo4.get _ _ g23
 have mo:=(m12.trans mo3).trans mo4
 obtain⟨gs0,ms0⟩:=fin M4 noRec noRec g24 mo
 obtain⟨gs,ms⟩:=fin M4 (Rec.mk (Ext.mk H n) L) noRec g24 mo
 refine J0 (J0 (J1 ?_))
 rcases s02 with s02|s02
 case inr=>
  rw[if_pos (.inr (.inr (by rw[s02];decide)))]at hr
  rw[s02]
  subst hr
  refine S1 @q20 ?_
  refine CT (J0 (R4 @hbd0 @g24 @agg13 @put13 ?_))
  refine T3 @Q9 @gs0 @row13 ?_
  exact⟨_,Thin.refl _,ms0⟩
 have hLl:=slen s02
 rw[s02]at hr ⊢
 refine S3 @q00 @g10 @row13 ?_
 refine⟨by kernel_rfl,_,jcheck_at (Rec.mk (Ext.mk H n) L) _,?_⟩
 rintro _ M9 ⟨rfl,e9⟩;replace e9:=e9.symm;subst e9
 by_cases hq2:JB (Ext.mk H n)=true
 ·have ec:(Rec.mk (Ext.mk H n) L).checkI=0:=by
   unfold Rec.checkI Rec.may
   rw[if_pos]
   show(JB (Ext.mk H n)&&decide ((L.length:Int)=H.n))=true
   rw[hq2,hq,hLl];simp
  rw[if_neg (by rintro(h3|h3|h3);exact h3 rfl;rw[hq2]at h3;cases h3;exact h3 rfl)]at hr
  subst hr
  rw[ec]
  refine S1 @q00 ?_
  refine CF (J3 ?_)
  simp only[zZ,reduceIte,yQ,yW,yX,yZ,yJ,yK,yV]
  refine J0 (R5 @g10 @row13 @g24 @agg13 @put13 ?_)
  refine T3 @Q9 @gs @row13 ?_
  exact⟨_,Thin.refl _,ms⟩
 ·have ec:(Rec.mk (Ext.mk H n) L).checkI=1:=by
   unfold Rec.checkI Rec.may
   rw[if_neg]
   show¬(JB (Ext.mk H n)&&decide ((L.length:Int)=H.n))=true
   rw[qo]
   exact fun h=>hq2 h.1
  rw[if_pos (.inr (.inl (by simpa using hq2)))]at hr
  subst hr
  rw[ec]
  refine S1 @q10 ?_
  refine CT (J0 (R4 @hbd0 @g24 @agg13 @put13 ?_))
  refine T3 @Q9 @gs0 @row13 ?_
  exact⟨_,Thin.refl _,ms0⟩
theorem jtake_at(s:List UInt8)(hs:s.length=256)(m:Mem):
 Abs.Spec qc 71 [.string (str s)] m fun u M=>u=.tuple #[.agg (QM s).1.cells.toArray,.int .i64 (QM s).2]∧M=m:=
 Abs.Spec.of_empty (by intro x hx;simp at hx;subst hx;rfl) rfl ((jtake_spec s hs ⟨[]⟩).mono fun _ _ h=>h.1) m
end Go.Proofs.YteccmcpaheepcaaGreatDoor
