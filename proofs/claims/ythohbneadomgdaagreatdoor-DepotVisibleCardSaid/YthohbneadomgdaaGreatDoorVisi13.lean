import Derived.Test.YthohbneadomgdaaGreatDoorVisi11
import Derived.Test.YthohbneadomgdaaGreatDoorVisi12
import Derived.Test.YthohbneadomgdaaGreatDoorVisi01
import Derived.Test.YthohbneadomgdaaGreatDoorVisi08
import Derived.Test.YthohbneadomgdaaGreatDoorVisi02
import Derived.Test.YthohbneadomgdaaGreatDoorVisi09
import Derived.Lib.AtoiAllCases
import Derived.Lib.ItoaMem
import Derived.Test.YthohbneadomgdaaGreatDoorVisi10
set_option linter.all false
set_option maxRecDepth 100000
set_option maxHeartbeats 16000000
open Nat renaming reduceLT→yQ,reduceEqDiff→yK,reduceAdd→yV,reduceSub→yY,reduceMul→yU
open Int renaming reduceToNat→yW,reduceLE→yX,reduceEq→yZ,reduceLT→yJ
open Go.Proofs.Tryz renaming prog→qc
open List renaming replicate→qd,append_assoc→qe,length_append→qf,getD_eq_getElem?_getD→qh,length_drop→qi,getElem?_eq_getElem→qk,range→qm,mem_range→qp,find?_cons→qq,take_of_length_le→qt,length_take→qu,all_eq_true→qv,getElem?_eq_none→qy,length_cons→qA,getElem?_eq_some_iff→qG,getElem?_take→qH,map_cons→qL,length_replicate→qN,drop_zero→qR,drop_drop→qS,all_cons→qT
open Int renaming toNat_natCast→qj,natCast_add→qx,natCast_pow→qE,eq_ofNat_of_zero_le→qK,fdiv→qQ
open Bool renaming and_eq_true→qo,true_and→qD,eq_iff_iff→qF
open Nat renaming div_add_mod→qw,eq_of_testBit_eq→qB,mod_lt→qC,testBit_div_two_pow→qI,testBit_mod_two_pow→qJ,and_le_right→qM,pow_le_pow_right→qO
open Array renaming length_toList→qP
namespace Go.Proofs.YthohbneadomgdaaGreatDoor
open Go.RowKit Abs
def Vo:List Bool→Nat
 | []=>0
 |b::r=>(if b then 1 else 0)+2*Vo r
theorem ofBits_lt:∀l:List Bool,Vo l<2^l.length
 | []=>by simp[Vo]
 |b::r=>by
  have:=ofBits_lt r
  simp only[Vo,qA,Nat.pow_succ]
  cases b<;>simp<;>omega
theorem ofBits_bit:∀(l:List Bool)(k:Nat),(Vo l).testBit k=l.getD k false
 | [],k=>by simp[Vo]
 |b::r,0=>by
  simp only[Vo,Nat.testBit_zero,List.getD_cons_zero]
  cases b<;>simp<;>omega
 |b::r,k+1=>by
  have ih:=ofBits_bit r k
  simp only[Vo,List.getD_cons_succ]
  rw[←ih,Nat.testBit_succ]
  congr 1
  cases b<;>simp<;>omega
def Jj(l:List Bool)(j:Nat):Nat:=Vo ((l.drop (64*j)).take 64)
theorem Vb(l:List Bool)(j:Nat):Jj l j<18446744073709551616:=by
 have h:=ofBits_lt ((l.drop (64*j)).take 64)
 have h2:((l.drop (64*j)).take 64).length≤64:=by rw[qu];omega
 have E:2^((l.drop (64*j)).take 64).length≤2^64:=qO (by decide) h2
 have I:(2:Nat)^64=18446744073709551616:=by decide
 unfold Jj
 omega
theorem Qz(l:List Bool)(j k:Nat)(hk:k<64):(Jj l j).testBit k=l.getD (64*j+k) false:=by
 unfold Jj
 rw[ofBits_bit]
 simp only[qh,qH,if_pos hk,List.getElem?_drop]
theorem XB(l:List Bool)(j k:Nat)(hk:64≤k):(Jj l j).testBit k=false:=by
 refine Nat.testBit_lt_two_pow (Nat.lt_of_lt_of_le (Vb l j) ?_)
 have E:(2:Nat)^64=18446744073709551616:=by decide
 rw[←E]
 exact qO (by decide) hk
theorem wordB_set(l:List Bool)(i j:Nat)(hi:i<l.length):Jj (l.set i true) j=if i/64=j then Jj l j|||2^(i%64)else Jj l j:=by
 apply qB
 intro k
 by_cases hk:k<64
 ·rw[Qz _ _ _ hk]
  simp only[qh,List.getElem?_set]
  by_cases hj:i/64=j
  ·rw[if_pos hj,Nat.testBit_or,Qz _ _ _ hk,Nat.testBit_two_pow]
   by_cases e:i=64*j+k
   ·rw[if_pos e,if_pos hi]
    have:i%64=k:=by omega
    simp[this]
   ·rw[if_neg e]
    have:¬i%64=k:=by omega
    simp[this]
  ·rw[if_neg hj,Qz _ _ _ hk]
   have e:¬i=64*j+k:=by omega
   rw[if_neg e]
   simp
 ·rw[XB _ _ _ (by omega)]
  by_cases hj:i/64=j
  ·rw[if_pos hj,Nat.testBit_or,XB _ _ _ (by omega),Nat.testBit_two_pow]
   have:¬i%64=k:=by omega
   simp[this]
  ·rw[if_neg hj,XB _ _ _ (by omega)]
theorem wordB_nil(j:Nat):Jj [] j=0:=by simp[Jj,Vo]
theorem ofBits_falses:∀n,Vo (qd n false)=0
 |0=>rfl
 |n+1=>by rw[List.replicate_succ,Vo,ofBits_falses n];rfl
theorem Vr(n j:Nat):Jj (qd n false) j=0:=by
 unfold Jj
 rw[List.drop_replicate,List.take_replicate,ofBits_falses]
def setCells(l:List Bool):List Value:=[.int .i64 (l.length:Nat),.int .u64 (Jj l 0:Nat),.int .u64 (Jj l 1:Nat),.int .u64 (Jj l 2:Nat),.int .u64 (Jj l 3:Nat)]
instance hdrDec:DecidableEq Header:=fun a b=>
 if h:a.id=b.id∧a.salt=b.salt∧a.n=b.n∧a.bytes=b.bytes∧a.raw=b.raw∧a.root=b.root∧a.tag=b.tag then .isTrue (by
  obtain⟨a0,a1,a2,a3,a4,a5,a6⟩:=a
  obtain⟨b0,b1,b2,b3,b4,b5,b6⟩:=b
  obtain⟨h0,h1,h2,h3,h4,h5,h6⟩:=h
  simp only at h0 h1 h2 h3 h4 h5 h6
  subst h0 h1 h2 h3 h4 h5 h6
  rfl)else .isFalse fun e=>h (by subst e;exact⟨rfl,rfl,rfl,rfl,rfl,rfl,rfl⟩)
structure Ext where
 head:Header
 base:Int
def Ext.cells(x:Ext):List Value:=x.head.cells++[.int .i64 x.base]
def noHead:Header:=⟨0,⟨#[]⟩,0,0,0,⟨#[]⟩,⟨#[]⟩⟩
def noExt:Ext:=⟨noHead,0⟩
structure Rec where
 x:Ext
 got:List Bool
def Rec.cells(r:Rec):List Value:=r.x.cells++setCells r.got
def noRec:Rec:=⟨noExt,[]⟩
theorem ext_len(x:Ext):x.cells.length=8:=rfl
def JE(x:Ext):Bool:=x.head.may&&decide (0≤x.base)&&decide (x.base≤1024-x.head.n)
def markC:List UInt8:=[83,76,67,49]
def markJ:List UInt8:=[83,76,74,49]
def JR(h:Header):List UInt8:=h.fields.data.toList++h.tag.data.toList
def Jy(x:Ext):List UInt8:=markC++JR x.head++Sha.fixed x.base 2
def XO(l:List Bool):List UInt8:=Sha.fixed (Jj l 0:Nat) 8++Sha.fixed (Jj l 1:Nat) 8++Sha.fixed (Jj l 2:Nat) 8++Sha.fixed (Jj l 3:Nat) 8
def JY(r:Rec):List UInt8:=markJ++JR r.x.head++Sha.fixed r.x.base 2++XO r.got
def Vg(s:ByteArray):Header×Int:=if s.size=98∧s.extract 0 4=⟨#[83,76,71,49]⟩∧(Zz s).check≠1 then(Zz s,0)else(noHead,2)
def QL(s:List UInt8)(a n:Nat):List UInt8:=(s.drop a).take n
def Xf(s:List UInt8):Ext×Int:=
 if JN s=[]then(noExt,8)else if s.take 4≠markC∨JN (s.drop 104)≠ []then(noExt,2)else
 if(Vg (str (QL s 4 98))).2≠0∨JE ⟨(Vg (str (QL s 4 98))).1,(Sha.num (QL s 102 2):Nat)⟩=false then(noExt,2)else
 (⟨(Vg (str (QL s 4 98))).1,(Sha.num (QL s 102 2):Nat)⟩,0)
def Uf(t:List UInt8)(i:Nat):Bool:=(t.getD (8*(i/64)+7-i%64/8) 0).toNat.testBit (i%8)
def QH(n:Nat)(t:List UInt8):List Bool×Int:=if(qm 256).any (fun i=>Uf t i&&decide (n≤i))=true then([],2)else((qm n).map (Uf t),0)
def QR(s:List UInt8):Rec×Int:=
 if JN s=[]then(noRec,8)else if s.take 4≠markJ∨JN (s.drop 136)≠ []then(noRec,2)else
 if(Vg (str (QL s 4 98))).2≠0∨JE ⟨(Vg (str (QL s 4 98))).1,(Sha.num (QL s 102 2):Nat)⟩=false∨(QH (Vg (str (QL s 4 98))).1.n.toNat (QL s 104 32)).2≠0 then(noRec,2)else
 (⟨⟨(Vg (str (QL s 4 98))).1,(Sha.num (QL s 102 2):Nat)⟩,(QH (Vg (str (QL s 4 98))).1.n.toNat (QL s 104 32)).1⟩,0)
def meets(x y:Ext):Bool:=decide (x.base<y.base+y.head.n)&&decide (y.base<x.base+x.head.n)
def VR(x y:Ext):Bool:=decide (y.head.id=x.head.id)||meets x y
def Qs(kept:List (Option Ext))(opn:List (Option Rec)):List Ext:=kept.filterMap id++(opn.filterMap id).map Rec.x
def Z3(key:List UInt8)(n:Nat)(places:List Ext)(x:Ext):Bool:=
 decide (x.head.verify key=0)&&decide (13≤x.base)&&decide (x.base+x.head.n≤(n:Int))&& !(places.any (VR x))
structure Dep where
 key:List UInt8
 epoch:Int
 opn:List (Option Rec)
 kept:List (Option Ext)
 staged:Int
def XJ(d:Dsk)(key:List UInt8)(kept:List (Option Ext))(i:Nat):Option Ext:=
 if(Xf (d.sector (5+i))).2=0∧Z3 key d.old.length (Qs kept []) (Xf (d.sector (5+i))).1=true then some (Xf (d.sector (5+i))).1 else none
def Jp(d:Dsk)(key:List UInt8):Nat→List (Option Ext)
 |0=>qd 8 none
 |k+1=>(Jp d key k).set k (XJ d key (Jp d key k) k)
def Xd(key:List UInt8)(kept:List (Option Ext))(d:Dsk)(opn:List (Option Rec))(i:Nat):Dsk×List (Option Rec)×Int:=
 if(QR (d.sector (1+i))).2=0∧Z3 key d.old.length (Qs kept opn) (QR (d.sector (1+i))).1.x=true then(d,opn.set i (some (QR (d.sector (1+i))).1),0)else
 if(QR (d.sector (1+i))).2≠8 then((d.write ((1+i:Nat):Int) []).1,opn,(d.write ((1+i:Nat):Int) []).2)else(d,opn,0)
def Jl(key:List UInt8)(kept:List (Option Ext))(d:Dsk):Nat→Dsk×List (Option Rec)×Int
 |0=>(d,qd 4 none,0)
 |k+1=>if(Jl key kept d k).2.2≠0 then Jl key kept d k else Xd key kept (Jl key kept d k).1 (Jl key kept d k).2.1 k
def openD(d:Dsk)(key:List UInt8):Dsk×Option Dep×Int:=
 if d.old.length<13 then(d,none,1)else if d.dead=true then(d,none,7)else
 if(Jl key (Jp d key 8) d 4).2.2≠0 then((Jl key (Jp d key 8) d 4).1,none,(Jl key (Jp d key 8) d 4).2.2)else
 if((Jl key (Jp d key 8) d 4).1.nextE 0).2.2≠0 then(((Jl key (Jp d key 8) d 4).1.nextE 0).1,none,((Jl key (Jp d key 8) d 4).1.nextE 0).2.2)else
 (((Jl key (Jp d key 8) d 4).1.nextE 0).1,some ⟨key,((Jl key (Jp d key 8) d 4).1.nextE 0).2.1,(Jl key (Jp d key 8) d 4).2.1,Jp d key 8,0⟩,0)
def X6{α:Type}(p:α→Bool):List (Option α)→Nat→Option (Nat×α)
 | [],_=>none
 |some a::r,i=>if p a=true then some (i,a)else X6 p r (i+1)
 |none::r,i=>X6 p r (i+1)
def X4{α:Type}:List (Option α)→Nat→Option Nat
 | [],_=>none
 |none::_,i=>some i
 |some _::r,i=>X4 r (i+1)
def Zq{α:Type}(o:Option (Nat×α)):Int:=match o with|some (i,_)=>(i:Int)|none=> -1
def freeI(o:Option Nat):Int:=match o with|some i=>(i:Int)|none=> -1
def Dep.ext? (p:Dep)(id:Int):Option (Nat×Ext):=X6 (fun x:Ext=>decide (x.head.id=id)) p.kept 0
def Dep.rec? (p:Dep)(id:Int):Option (Nat×Rec):=X6 (fun r:Rec=>decide (r.x.head.id=id)) p.opn 0
def Dep.places(p:Dep):List Ext:=Qs p.kept p.opn
def Dep.headAt(p:Dep)(id:Int):Header×Bool×Int:=
 match p.ext? id with
 |some (_,x)=>(x.head,true,0)
 |none=>match p.rec? id with
  |some (_,r)=>(r.x.head,false,0)
  |none=>(noHead,false,8)
def freeFor(at' n:Int)(l:List Ext):Bool:=l.all fun x=> !(decide (at'<x.base+x.head.n)&&decide (x.base-at'<n))
def roomGo(n:Int)(l:List Ext):Nat→Int→Option Int
 |0,_=>none
 |k+1,at'=>if freeFor at' n l=true then some at' else roomGo n l k (at'+1)
def roomV(lo hi n:Int)(l:List Ext):Option Int:=if n<1∨lo<0∨hi<lo then none else roomGo n l (hi-lo-n+1).toNat lo
def thenD{β:Type}(w:Dsk×Int)(bad:Dsk→Int→β)(ok:Dsk→β):β:=if w.2≠0 then bad w.1 w.2 else ok w.1
def Dep.begun(d:Dsk)(p:Dep)(h:Header)(i:Nat)(base:Int):Dsk×Dep×Int:=
 thenD (d.write ((1+i:Nat):Int) (JY ⟨⟨h,base⟩,qd h.n.toNat false⟩)) (fun d e=>(d,p,e)) fun d=>
 thenD d.sync (fun d e=>(d,p,e)) fun d=>
 (d,{ p with opn:=p.opn.set i (some ⟨⟨h,base⟩,qd h.n.toNat false⟩) },0)
def Dep.begin(d:Dsk)(p:Dep)(h:Header):Dsk×Dep×Int:=
 if d.dead=true then(d,p,7)else if h.verify p.key≠0 then(d,p,h.verify p.key)else
 if(p.headAt h.id).2.2=0 then(d,p,if(p.headAt h.id).1=h then 0 else 6)else
 match X4 p.opn 0 with
 |none=>(d,p,3)
 |some i=>match roomV 13 (d.old.length:Nat) h.n p.places with
  |none=>(d,p,13)
  |some base=>Dep.begun d p h i base
def Dep.staged1(d:Dsk)(p:Dep)(k:Nat)(r:Rec)(i:Int)(s:List UInt8):Dsk×Dep×Int:=
 thenD (d.write (r.x.base+i) s) (fun d e=>(d,p,e)) fun d=>
 thenD d.sync (fun d e=>(d,{ p with staged:=p.staged+1 },e)) fun d=>
 thenD (d.write ((1+k:Nat):Int) (JY { r with got:=r.got.set i.toNat true })) (fun d e=>(d,{ p with staged:=p.staged+1 },e)) fun d=>
 (d,{ p with staged:=p.staged+1,opn:=p.opn.set k (some { r with got:=r.got.set i.toNat true }) },0)
def Dep.stage(d:Dsk)(p:Dep)(id i:Int)(s:List UInt8):Dsk×Dep×Int:=
 if d.dead=true then(d,p,7)else
 match p.rec? id with
 |none=>(d,p,8)
 |some (k,r)=>
  if i<0∨r.x.head.n≤i then(d,p,10)else if s.length≠224 then(d,p,1)else if r.got.getD i.toNat false=true then(d,p,0)else
  Dep.staged1 d p k r i s
def Qx(d:Dsk)(x:Ext):List (List UInt8)×Int:=if d.dead=true∧0<x.head.n then([],7)else((qm x.head.n.toNat).map fun i=>(d.sector (x.base.toNat+i)).take 224,0)
def Xb(l:List (List UInt8)):List UInt8:=
 match l with
 | []=>Sha.sum []
 | [a]=>a
 |a::b::r=>Sha.sum (1::(Xb ((a::b::r).take (min (Sha.cut (r.length+2)) (r.length+1)))++Xb ((a::b::r).drop (max (Sha.cut (r.length+2)) 1))))
termination_by l.length
decreasing_by
 ·simp only[qu,qA];omega
 ·simp only[qi,qA];omega
def Ub(b:List UInt8):List UInt8:=Sha.sum (0::b)
def UG(l:List (List UInt8)):List UInt8:=Xb (l.map Ub)
def Dep.keep(d:Dsk)(p:Dep)(i:Nat)(x:Ext):Dsk×Dep×Int:=
 thenD (d.write ((5+i:Nat):Int) (Jy x)) (fun d e=>(d,p,e)) fun d=>
 thenD d.sync (fun d e=>(d,p,e)) fun d=>(d,{ p with kept:=p.kept.set i (some x) },0)
def Dep.commit(d:Dsk)(p:Dep)(id:Int):Dsk×Dep×Int:=
 if d.dead=true then(d,p,7)else
 match p.ext? id with
 |some _=>(d,p,0)
 |none=>match p.rec? id with
  |none=>(d,p,8)
  |some (k,r)=>
   if r.got.all (fun b=>b)=false then(d,p,9)else
   if str (UG (Qx d r.x).1)≠r.x.head.root then(d,p,11)else
   match X4 p.kept 0 with
   |none=>(d,p,3)
   |some i=>if(Dep.keep d p i r.x).2.2≠0 then Dep.keep d p i r.x else
    (((Dep.keep d p i r.x).1.write ((1+k:Nat):Int) []).1,{ (Dep.keep d p i r.x).2.1 with opn:=p.opn.set k none },((Dep.keep d p i r.x).1.write ((1+k:Nat):Int) []).2)
structure Arc where
 head:Header
 blocks:List (List UInt8)
def noArc:Arc:=⟨noHead,[]⟩
def Dep.read(d:Dsk)(p:Dep)(id:Int):Arc×Int:=
 match p.ext? id with
 |none=>(noArc,8)
 |some (_,x)=>if(Qx d x).2≠0 then(noArc,(Qx d x).2)else(⟨x.head,(Qx d x).1⟩,0)
def insHead(l:List Header)(h:Header):List Header:=match l with
 | []=>[h]
 |x::r=>if x.id≤h.id then x::insHead r h else h::x::r
def headsOf(l:List Header):List Header:=l.foldl insHead []
def Dep.keptL(p:Dep):List Header:=headsOf ((p.kept.filterMap id).map Ext.head)
def Dep.underL(p:Dep):List Header:=headsOf ((p.opn.filterMap id).map fun r=>r.x.head)
def Je(d:Dsk):List Nat:=(qm d.old.length).filter fun i=>(Jt d.last i).isSome
def bitOf(bits:Int)(k:Nat):Bool:=decide (bits/2^(k%62)%2=1)
def Dsk.crash(d:Dsk)(bits:Int):Dsk:=
 { d with old:=d.old.mapIdx fun i o=>if bitOf bits ((Je d).idxOf i)=true then(Jt d.last i).getD o else o,last:=[],fuse:= -1,dead:=false }
def Dsk.setFuse(d:Dsk)(n:Int):Dsk:=if d.dead=true then d else { d with fuse:=max n (-1) }
structure Dep.Ok(p:Dep)(n:Nat):Prop where
 opn:p.opn.length=4
 kept:p.kept.length=8
 fitO:∀r,some r∈p.opn→r.x.head.verify p.key=0∧13≤r.x.base∧r.x.base+r.x.head.n≤(n:Int)∧(r.got.length:Int)=r.x.head.n
 fitK:∀x,some x∈p.kept→x.head.verify p.key=0∧13≤x.base∧x.base+x.head.n≤(n:Int)
end Go.Proofs.YthohbneadomgdaaGreatDoor
namespace Go.Proofs.YthohbneadomgdaaGreatDoor
def Vn(x k:Nat):Nat:=((qm k).filter x.testBit).length
theorem popc_succ(x k:Nat):Vn x (k+1)=Vn x k+(if x.testBit k then 1 else 0):=by
 unfold Vn
 rw[List.range_succ,List.filter_append,qf]
 congr 1
 cases h:x.testBit k<;>simp[h]
theorem popc_add(x a b:Nat):Vn x (a+b)=Vn x a+Vn (x/2^a) b:=by
 induction b with
 |zero=>simp[Vn]
 |succ b ih=>
  rw[←Nat.add_assoc,popc_succ,ih,popc_succ,qI,Nat.add_comm b a]
  omega
theorem popc_mod(x k:Nat):Vn (x%2^k) k=Vn x k:=by
 unfold Vn
 congr 1
 apply List.filter_congr
 intro i hi
 rw[qp]at hi
 rw[qJ]
 simp[hi]
def Ke(p:Nat):Nat→Nat
 |0=>0
 |n+1=>256*Ke p n+p
theorem and_byte(h b M p:Nat)(hb:b<256)(hp:p<256):(256*h+b)&&&(256*M+p)=256*(h&&&M)+(b&&&p):=by
 have E:((256*h+b)&&&(256*M+p))/2^8=h&&&M:=by
  rw[Nat.and_div_two_pow,show(256*h+b)/2^8=h by omega,show(256*M+p)/2^8=M by omega]
 have I:((256*h+b)&&&(256*M+p))%2^8=b&&&p:=by
  rw[Nat.and_mod_two_pow,show(256*h+b)%2^8=b by omega,show(256*M+p)%2^8=p by omega]
 have:=qw ((256*h+b)&&&(256*M+p)) (2^8)
 rw[E,I]at this
 omega
def sw1(n x:Nat):Nat:=(x/2&&&Ke 85 n)+(x&&&Ke 85 n)
def sw2(n x:Nat):Nat:=(x/4&&&Ke 51 n)+(x&&&Ke 51 n)
def sw3(n x:Nat):Nat:=(x/16+x)&&&Ke 15 n
theorem low1:∀(c:Fin 2)(b:Fin 256),(c.val*128+b.val/2)&&&85=b.val/2&&&85:=by decide+kernel
theorem low2:∀(c:Fin 4)(b:Fin 256),(c.val*64+b.val/4)&&&51=b.val/4&&&51:=by decide+kernel
theorem low3:∀(c:Fin 5)(b:Fin 69),(c.val*16+b.val/16+b.val)&&&15=(b.val/16+b.val)&&&15:=by decide+kernel
theorem sw1_step(n h b:Nat)(hb:b<256):sw1 (n+1) (256*h+b)=256*sw1 n h+((b/2&&&85)+(b&&&85)):=by
 have E:Ke 85 (n+1)=256*Ke 85 n+85:=rfl
 unfold sw1
 rw[E]
 rw[show(256*h+b)/2=256*(h/2)+(h%2*128+b/2) by omega,and_byte _ _ _ _ (by omega) (by decide),and_byte _ _ _ _ hb (by decide),low1 ⟨h%2,by omega⟩ ⟨b,hb⟩]
 simp only
 omega
theorem sw2_step(n h b:Nat)(hb:b<256):sw2 (n+1) (256*h+b)=256*sw2 n h+((b/4&&&51)+(b&&&51)):=by
 have E:Ke 51 (n+1)=256*Ke 51 n+51:=rfl
 unfold sw2
 rw[E]
 rw[show(256*h+b)/4=256*(h/4)+(h%4*64+b/4) by omega,and_byte _ _ _ _ (by omega) (by decide),and_byte _ _ _ _ hb (by decide),low2 ⟨h%4,by omega⟩ ⟨b,hb⟩]
 simp only
 omega
theorem sw3_step(n h b:Nat)(hb:b<69)(hh:h%16<5):sw3 (n+1) (256*h+b)=256*sw3 n h+((b/16+b)&&&15):=by
 have E:Ke 15 (n+1)=256*Ke 15 n+15:=rfl
 unfold sw3
 rw[E]
 rw[show(256*h+b)/16+(256*h+b)=256*(h/16+h)+(h%16*16+b/16+b) by omega,and_byte _ _ _ _ (by omega) (by decide),low3 ⟨h%16,hh⟩ ⟨b,hb⟩]
def by1(b:Nat):Nat:=(b/2&&&85)+(b&&&85)
def by2(b:Nat):Nat:=(by1 b/4&&&51)+(by1 b&&&51)
theorem by1_lt:∀b:Fin 256,by1 b.val<256:=by decide+kernel
theorem by2_lt:∀b:Fin 256,by2 b.val<69∧by2 b.val%16<5:=by decide+kernel
theorem by3_pop:∀b:Fin 256,(by2 b.val/16+by2 b.val)&&&15=Vn b.val 8:=by decide+kernel
theorem pop8_le:∀b:Fin 256,Vn b.val 8≤8:=by decide+kernel
def popS:Nat→Nat→Nat
 |0,_=>0
 |n+1,x=>256*popS n (x/256)+Vn (x%256) 8
theorem sw_all:∀(n x:Nat),x<256^n→sw2 n (sw1 n x)%16<5∧sw3 n (sw2 n (sw1 n x))=popS n x
 |0,x,hx=>by
  have:x=0:=by simpa using hx
  subst this
  exact⟨by decide,by decide⟩
 |n+1,x,hx=>by
  have hx':x/256<256^n:=Nat.div_lt_of_lt_mul (by rw[Nat.pow_succ]at hx;omega)
  obtain⟨h1,h2⟩:=sw_all n (x/256) hx'
  have hb:x%256<256:=qC _ (by decide)
  have e0:x=256*(x/256)+x%256:=by omega
  have e1:sw1 (n+1) x=256*sw1 n (x/256)+by1 (x%256):=by
   conv=>lhs;rw[e0]
   exact sw1_step n _ _ hb
  have O:=by1_lt ⟨x%256,hb⟩
  have I:sw2 (n+1) (sw1 (n+1) x)=256*sw2 n (sw1 n (x/256))+by2 (x%256):=by rw[e1];exact sw2_step n _ _ O
  have E:=by2_lt ⟨x%256,hb⟩
  simp only at E
  refine⟨by rw[I];omega,?_⟩
  rw[I,sw3_step n _ _ E.1 h1,h2,by3_pop ⟨x%256,hb⟩]
  rfl
theorem popS_pop:∀(n x:Nat),∃l:List Nat,l.length=n∧(∀c∈l,c≤8)∧popS n x=l.foldr (fun c a=>256*a+c) 0∧Vn x (8*n)=l.foldr (·+ ·) 0
 |0,x=>⟨[],rfl,fun c h=>by simp at h,rfl,rfl⟩
 |n+1,x=>by
  obtain⟨l,h1,h2,h3,h4⟩:=popS_pop n (x/256)
  have hb:x%256<256:=qC _ (by decide)
  refine⟨Vn (x%256) 8::l,by simp[h1],fun c hc=>?_,by simp[popS,h3],?_⟩
  ·rcases List.mem_cons.1 hc with rfl|hc
   ·exact pop8_le ⟨x%256,hb⟩
   ·exact h2 c hc
  ·have e:Vn x (8*(n+1))=Vn x 8+Vn (x/2^8) (8*n):=by rw[show 8*(n+1)=8+8*n by omega];exact popc_add x 8 (8*n)
   rw[e,show(2:Nat)^8=256 by decide,h4]
   have:=popc_mod x 8
   rw[show(2:Nat)^8=256 by decide]at this
   rw[List.foldr_cons,this]
def sw4(y:Nat):Nat:=y+y/256
def sw5(y:Nat):Nat:=sw4 y+sw4 y/65536
def sw6(y:Nat):Nat:=sw5 y+sw5 y/4294967296
theorem sw_end(x:Nat):sw6 (popS 8 x)%128=Vn x 64∧sw6 (popS 8 x)<9223372036854775808:=by
 obtain⟨l,O,h2,I,E⟩:=popS_pop 8 x
 match l,O with
 | [a,b,c,d,e,f,g,h],_=>
   simp only[List.foldr_cons,List.foldr_nil]at I E
   have b1:=h2 a (by simp)
   have b2:=h2 b (by simp)
   have b3:=h2 c (by simp)
   have b4:=h2 d (by simp)
   have b5:=h2 e (by simp)
   have b6:=h2 f (by simp)
   have b7:=h2 g (by simp)
   have b8:=h2 h (by simp)
   have Y:sw4 (popS 8 x)=(a+b)+256*(b+c)+65536*(c+d)+16777216*(d+e)+4294967296*(e+f)+1099511627776*(f+g)+281474976710656*(g+h)+72057594037927936*h:=by unfold sw4;omega
   have Z:sw5 (popS 8 x)=(a+b+c+d)+256*(b+c+d+e)+65536*(c+d+e+f)+16777216*(d+e+f+g)+4294967296*(e+f+g+h)+1099511627776*(f+g+h)+281474976710656*(g+h)+72057594037927936*h:=by unfold sw5;rw[Y];omega
   have U:sw6 (popS 8 x)=(a+b+c+d+e+f+g+h)+256*(b+c+d+e+f+g+h)+65536*(c+d+e+f+g+h)+16777216*(d+e+f+g+h)+4294967296*(e+f+g+h)+1099511627776*(f+g+h)+281474976710656*(g+h)+72057594037927936*h:=by unfold sw6;rw[Z];omega
   have q7:Vn x 64=a+(b+(c+(d+(e+(f+(g+(h+0))))))):=E
   rw[U,q7]
   omega
end Go.Proofs.YthohbneadomgdaaGreatDoor
namespace Go.Proofs.YthohbneadomgdaaGreatDoor
open Go.RowKit Abs
theorem Abs.Spec.of_empty{P:Program}{k:FuncId}{xs:List Value}{v:Value}(hx:∀x∈xs,flat 3 x=true)(hv:flat 3 v=true)(h:Abs.Spec P k xs ⟨[]⟩ fun u _=>u=v)(m:Mem):
 Abs.Spec P k xs m fun u m'=>u=v∧m'=m:=
 Abs.Spec.of_below hv fun ι w ys hy hr=>by rw[VY hx hy];exact Calls.of_flat_val hx hv h w hr.glob.known
theorem VD(a:Nat)(ha:a<18446744073709551616):(BitVec.ofInt 64 (a:Int)).toNat=a:=by
 rw[BitVec.ofInt_natCast,BitVec.toNat_ofNat];exact Nat.mod_eq_of_lt (by omega)
theorem XW(a:Nat)(ha:a<18446744073709551616):IntKind.u64.wrap (a:Int)=(a:Int):=by unfold IntKind.wrap;simp[IntKind.bits,IntKind.signed];omega
theorem Ze(a b:Nat)(ha:a<18446744073709551616)(hb:b<18446744073709551616):bits .and .u64 (a:Int) (b:Int)=((a&&&b:Nat):Int):=by
 have hx:a&&&b<2^64:=Nat.and_lt_two_pow _ (by omega)
 show IntKind.u64.wrap ((BitVec.ofInt 64 (a:Int)&&&BitVec.ofInt 64 (b:Int)).toNat:Int)=_
 rw[BitVec.toNat_and,VD a ha,VD b hb,XW _ (by omega)]
theorem u64_or_nat(a b:Nat)(ha:a<18446744073709551616)(hb:b<18446744073709551616):bits .or .u64 (a:Int) (b:Int)=((a|||b:Nat):Int):=by
 have hx:a|||b<2^64:=Nat.or_lt_two_pow (by omega) (by omega)
 show IntKind.u64.wrap ((BitVec.ofInt 64 (a:Int)|||BitVec.ofInt 64 (b:Int)).toNat:Int)=_
 rw[BitVec.toNat_or,VD a ha,VD b hb,XW _ (by omega)]
theorem K9(x k:Nat)(hk:k≤64):qQ (x:Int) (2^min k IntKind.u64.bits)=((x/2^k:Nat):Int):=by
 have e:min k IntKind.u64.bits=k:=by show min k 64=k;omega
 rw[e,Int.fdiv_eq_ediv_of_nonneg _ (Int.le_of_lt (Int.pow_pos (by decide))),Int.natCast_ediv,qE];rfl
theorem u64_shl1(k:Nat)(hk:k<64):IntKind.u64.wrap (1*2^min k IntKind.u64.bits)=((2^k:Nat):Int):=by
 have e:min k IntKind.u64.bits=k:=by show min k 64=k;omega
 have h:=XW (2^k) (by have:2^k<2^64:=Nat.pow_lt_pow_right (by decide) hk;omega)
 rw[e,Int.one_mul]
 rw[qE]at h ⊢
 exact h
theorem ones_spec(x:Nat)(hx:x<18446744073709551616)(m:Mem):
 Abs.Spec qc 47 [.int .u64 (x:Nat)] m fun u M=>u=.int .i64 (Vn x 64:Nat)∧M=m:=by
 refine Abs.Spec.walkM Tryz.func47 (by rfl) _ Tryz.results47 _ Tryz.ntmps47 (by simp) ?_
 intro hc af k
 have p1:Ke 85 8=6148914691236517205:=by decide
 have p2:Ke 51 8=3689348814741910323:=by decide
 have p3:Ke 15 8=1085102592571150095:=by decide
 obtain⟨I,Y⟩:∃a,a=sw1 8 x:=⟨_,rfl⟩
 obtain⟨O,h2⟩:∃a,a=sw2 8 I:=⟨_,rfl⟩
 obtain⟨E,h3⟩:∃a,a=sw3 8 O:=⟨_,rfl⟩
 have U:I<18446744073709551616:=by
  have u1:=qM (n:=x/2) (m:=Ke 85 8)
  have u2:=qM (n:=x) (m:=Ke 85 8)
  rw[Y];unfold sw1;omega
 have b2:O≤7378697629483820646:=by
  have u1:=qM (n:=I/4) (m:=Ke 51 8)
  have u2:=qM (n:=I) (m:=Ke 51 8)
  rw[h2];unfold sw2;omega
 have e1:IntKind.u64.wrap (bits .and .u64 (qQ (x:Int) (2^min 1 IntKind.u64.bits)) 6148914691236517205+bits .and .u64 (x:Int) 6148914691236517205)=(I:Int):=by
  rw[K9 x 1 (by decide),show(6148914691236517205:Int)=((6148914691236517205:Nat):Int)from rfl,Ze _ _ (by omega) (by decide),Ze _ _ hx (by decide),←qx]
  rw[Y]at U ⊢
  unfold sw1 at U ⊢
  rw[p1]at U ⊢
  exact XW _ U
 have e2:IntKind.u64.wrap (bits .and .u64 (qQ (I:Int) (2^min 2 IntKind.u64.bits)) 3689348814741910323+bits .and .u64 (I:Int) 3689348814741910323)=(O:Int):=by
  rw[K9 I 2 (by decide),show(3689348814741910323:Int)=((3689348814741910323:Nat):Int)from rfl,Ze _ _ (by omega) (by decide),Ze _ _ U (by decide),←qx]
  have e:(I/2^2&&&3689348814741910323)+(I&&&3689348814741910323)=O:=by rw[h2];unfold sw2;rw[p2]
  rw[e];exact XW _ (by omega)
 have e3:bits .and .u64 (IntKind.u64.wrap (qQ (O:Int) (2^min 4 IntKind.u64.bits)+(O:Int))) 1085102592571150095=(E:Int):=by
  rw[K9 O 4 (by decide),←qx,XW _ (by omega),show(1085102592571150095:Int)=((1085102592571150095:Nat):Int)from rfl,Ze _ _ (by omega) (by decide)]
  rw[h3];unfold sw3;rw[p3]
 have hs:=(sw_all 8 x (by rw[show(256:Nat)^8=18446744073709551616 by decide];exact hx)).2
 rw[←Y,←h2,←h3]at hs
 obtain⟨Z,q2⟩:=sw_end x
 rw[←hs]at Z q2
 have l1:sw5 E≤sw6 E:=by unfold sw6;omega
 have l2:sw4 E≤sw5 E:=by unfold sw5;omega
 have e4:IntKind.u64.wrap ((E:Int)+qQ (E:Int) (2^min 8 IntKind.u64.bits))=(sw4 E:Nat):=by
  rw[K9 E 8 (by decide),←qx]
  have e:E+E/2^8=sw4 E:=rfl
  rw[e];exact XW _ (by omega)
 have e5:IntKind.u64.wrap (((sw4 E:Nat):Int)+qQ ((sw4 E:Nat):Int) (2^min 16 IntKind.u64.bits))=(sw5 E:Nat):=by
  rw[K9 _ 16 (by decide),←qx]
  have e:sw4 E+sw4 E/2^16=sw5 E:=rfl
  rw[e];exact XW _ (by omega)
 have e6:IntKind.u64.wrap (((sw5 E:Nat):Int)+qQ ((sw5 E:Nat):Int) (2^min 32 IntKind.u64.bits))=(sw6 E:Nat):=by
  rw[K9 _ 32 (by decide),←qx]
  have e:sw5 E+sw5 E/2^32=sw6 E:=rfl
  rw[e];exact XW _ (by omega)
 have e7:bits .and .i64 (IntKind.i64.wrap ((sw6 E:Nat):Int)) 127=(Vn x 64:Nat):=by
  rw[Xn (by omega) (by omega),show(127:Int)=((127:Nat):Int)from rfl,QA _ _ (by omega) (by decide),←Z]
  congr 1
  exact Nat.and_two_pow_sub_one_eq_mod _ 7
 refine J0 (J1 ?_)
 simp only[zZ,reduceIte,yQ,yW,yX,yZ,yJ,yK,yV,zDk]
 refine J0 (J1 ?_)
 simp only[zZ,reduceIte,yQ,yW,yX,yZ,yJ,yK,yV,zDk,e1]
 refine J0 (J1 ?_)
 simp only[zZ,reduceIte,yQ,yW,yX,yZ,yJ,yK,yV,zDk,e2]
 refine J0 (J1 ?_)
 simp only[zZ,reduceIte,yQ,yW,yX,yZ,yJ,yK,yV,zDk,e3]
 refine J0 (J1 ?_)
 simp only[zZ,reduceIte,yQ,yW,yX,yZ,yJ,yK,yV,zDk,e4]
 refine J0 (J1 ?_)
 simp only[zZ,reduceIte,yQ,yW,yX,yZ,yJ,yK,yV,zDk,e5]
 refine J0 (J1 ?_)
 simp only[zZ,reduceIte,yQ,yW,yX,yZ,yJ,yK,yV,zDk,e6]
 refine J0 (J1 ?_)
 simp only[zZ,reduceIte,yQ,yW,yX,yZ,yJ,yK,yV,zDk,e7]
 refine QC ?_
 simp only[zZ,reduceIte,yQ,yW,yX,yZ,yJ,yK,yV,zDk,mEnd,sAnswer,sAnswer.sRes]
 exact⟨m,tR _,rfl⟩
def Xm(l:List Bool):Value:=.agg (setCells l).toArray
theorem bx_set(l:List Bool):QO qc 43 (Xm l)=some (.cells false (J6 qc 43) (setCells l)):=bx_Set _ rfl
def hasV(l:List Bool)(i:Int):Bool:=decide (0≤i)&&l.getD i.toNat false
theorem set_cell(l:List Bool)(j:Nat)(hj:j<4):(setCells l)[1+j]?=some (.int .u64 (Jj l j:Nat)):=by
 match j,hj with
 |0,_=>rfl
 |1,_=>rfl
 |2,_=>rfl
 |3,_=>rfl
theorem set_len(l:List Bool):(setCells l)[0]?=some (.int .i64 (l.length:Nat)):=rfl
theorem bit_of(l:List Bool)(i:Nat):((Jj l (i/64)/2^(i%64)&&&1)==1)=l.getD i false:=by
 have h:=Qz l (i/64) (i%64) (qC _ (by decide))
 rw[qw]at h
 rw[←h,Nat.testBit_eq_decide_div_mod_eq,Nat.and_one_is_mod]
 by_cases e:Jj l (i/64)/2^(i%64)%2=1<;>simp[e]
theorem has_spec(l:List Bool)(hl:l.length≤256)(i:Int)(m:Mem):
 Abs.Spec qc 9 [Xm l,.int .i64 i] m fun u M=>u=.bool (hasV l i)∧(∀b x,m.get b=some x→M.get b=some x)∧m.size≤M.size:=by
 refine Abs.Spec.walkM Tryz.func9 (by rfl) _ Tryz.results9 _ Tryz.ntmps9 (by simp) ?_
 intro hc hx k
 have O:=bx_set l
 generalize J6 qc 43=s1 at O
 have I:∀b x,m.get b=some x→(m.push (.cells false s1 (setCells l))).get b=some x:=fun b x hb=>by rw[Mem.get_push_old (Mem.get_lt hb)];exact hb
 have hs:m.size≤(m.push (.cells false s1 (setCells l))).size:=by rw[Mem.size_push];omega
 refine J0 (J1 ?_)
 simp only[zZ,reduceIte,yQ,yW,yX,yZ,yJ,yK,yV,zDk,O]
 refine J0 (J1 ?_)
 cases q1:decide (i≥0)
 ·have e:hasV l i=false:=by unfold hasV;have:=of_decide_eq_false q1;rw[decide_eq_false (by omega)];rfl
  simp only[zZ,reduceIte,yQ,yW,yX,yZ,yJ,yK,yV,zDk,q1]
  refine QC ?_
  simp only[zZ,reduceIte,yQ,yW,yX,yZ,yJ,yK,yV,zDk,mEnd,sAnswer,sAnswer.sRes]
  exact⟨_,tR _,by rw[e],I,hs⟩
 ·have U:=of_decide_eq_true q1
  obtain⟨n,rfl⟩:=qK U
  have e:hasV l (n:Int)=l.getD n false:=by unfold hasV;rw[decide_eq_true U,qj];rfl
  cases q2:decide ((n:Int)<(l.length:Int))
  ·have h2:=of_decide_eq_false q2
   have e2:l.getD n false=false:=by rw[qh,qy (by omega)];rfl
   simp only[zZ,reduceIte,yQ,yW,yX,yZ,yJ,yK,yV,zDk,q1,Mem.get_push_new,set_len,q2]
   refine QC ?_
   simp only[zZ,reduceIte,yQ,yW,yX,yZ,yJ,yK,yV,zDk,mEnd,sAnswer,sAnswer.sRes]
   exact⟨_,tR _,by rw[e,e2],I,hs⟩
  ·have h2:=of_decide_eq_true q2
   have wq:IntKind.i64.wrap (Int.tdiv (n:Int) 64)=((n/64:Nat):Int):=by rw[Int.tdiv_eq_ediv_of_nonneg (by omega),Xn (by omega) (by omega)];omega
   have Z:Int.tmod (n:Int) 64=((n%64:Nat):Int):=by rw[Int.tmod_eq_emod_of_nonneg (by omega)];omega
   have z0:(0:Int)≤((n/64:Nat):Int):=by omega
   have z4:((n/64:Nat):Int)<((4:Nat):Int):=by omega
   have z1:(0:Int)≤((n%64:Nat):Int):=by omega
   have E:=set_cell l (n/64) (by omega)
   have Y:=K9 (Jj l (n/64)) (n%64) (by omega)
   have hw:=Vb l (n/64)
   have eb:(bits .and .u64 ((Jj l (n/64)/2^(n%64):Nat):Int) 1==1)=l.getD n false:=by
    rw[show(1:Int)=((1:Nat):Int)from rfl,Ze _ _ (Nat.lt_of_le_of_lt (Nat.div_le_self _ _) hw) (by decide),←bit_of l n]
    rw[qF,beq_iff_eq,beq_iff_eq]
    exact Int.ofNat_inj
   simp only[zZ,reduceIte,yQ,yW,yX,yZ,yJ,yK,yV,zDk,q1,Mem.get_push_new,set_len,q2,wq,Z,z0,z4,z1,and_self,qj,E,Y,eb]
   refine QC ?_
   simp only[zZ,reduceIte,yQ,yW,yX,yZ,yJ,yK,yV,zDk,mEnd,sAnswer,sAnswer.sRes]
   exact⟨_,tR _,by rw[e],I,hs⟩
theorem has_at(l:List Bool)(hl:l.length≤256)(i:Int)(m:Mem):
 Abs.Spec qc 9 [Xm l,.int .i64 i] m fun u M=>u=.bool (hasV l i)∧M=m:=
 Abs.Spec.of_empty (by intro x hx;simp at hx;rcases hx with rfl|rfl<;>rfl) rfl ((has_spec l hl i ⟨[]⟩).mono fun _ _ h=>h.1) m
theorem set_put(l:List Bool)(n:Nat)(hn:n<l.length)(hl:l.length≤256):(setCells l).set (1+n/64) (.int .u64 ((Jj l (n/64)|||2^(n%64):Nat):Int))=setCells (l.set n true):=by
 have w:=fun j=>wordB_set l n j hn
 unfold setCells
 rw[List.length_set,w 0,w 1,w 2,w 3]
 have E:n/64<4:=by omega
 generalize n/64=q at*
 match q,E with
 |0,_=>rfl
 |1,_=>rfl
 |2,_=>rfl
 |3,_=>rfl
def UA(l:List Bool)(i:Int):List Bool:=if 0≤i∧i<(l.length:Int)then l.set i.toNat true else l
theorem with_spec(l:List Bool)(hl:l.length≤256)(i:Int)(m:Mem):
 Abs.Spec qc 39 [Xm l,.int .i64 i] m fun u M=>u=Xm (UA l i)∧(∀b x,m.get b=some x→M.get b=some x)∧m.size≤M.size:=by
 refine Abs.Spec.walkM Tryz.func39 (by rfl) _ Tryz.results39 _ Tryz.ntmps39 (by simp) ?_
 intro hc hx k
 have bx:=bx_set l
 have ac:=al_Set
 generalize J6 qc 43=s1 at bx ac
 refine J0 (J1 ?_)
 simp only[zZ,reduceIte,yQ,yW,yX,yZ,yJ,yK,yV,zDk,bx,ac]
 obtain⟨M1,Y⟩:∃M1,M1=m.push (.cells false s1 (setCells l)):=⟨_,rfl⟩
 obtain⟨U,O⟩:∃U,U=M1.push (.cells false s1 [.int .i64 0,.int .u64 0,.int .u64 0,.int .u64 0,.int .u64 0]):=⟨_,rfl⟩
 obtain⟨b1,a2⟩:∃b,b=m.size:=⟨_,rfl⟩
 obtain⟨Z,ad⟩:∃b,b=M1.size:=⟨_,rfl⟩
 have al:M1.size=m.size+1:=by rw[Y,Mem.size_push]
 have hs2:U.size=m.size+2:=by rw[O,Mem.size_push,al]
 have g1:U.get b1=some (.cells false s1 (setCells l)):=by rw[O,Mem.get_push_old (by omega),Y,a2,Mem.get_push_new]
 have g2:U.get Z=some (.cells false s1 [.int .i64 0,.int .u64 0,.int .u64 0,.int .u64 0,.int .u64 0]):=by rw[O,ad,Mem.get_push_new]
 have ho:∀b x,m.get b=some x→U.get b=some x:=fun b x hb=>by
  have:=Mem.get_lt hb
  rw[O,Mem.get_push_old (by omega),Y,Mem.get_push_old this];exact hb
 have ag:b1≠Z:=by omega
 rw[←Y,←O,←a2,←ad]
 have ak:∀(E:Mem)(L:List Bool),E.get b1=some (.cells false s1 (setCells L))→E.get Z=some (.cells false s1 [.int .i64 0,.int .u64 0,.int .u64 0,.int .u64 0,.int .u64 0])→(∀b x,m.get b=some x→E.get b=some x)→m.size≤E.size→
  ∃M4,Ji 5 E Z 0 (setCells L) (E.get Z)=some M4∧M4.get Z=some (.cells false s1 (setCells L))∧(∀b x,m.get b=some x→M4.get b=some x)∧m.size≤M4.size:=fun E L h1 h2 h3 h4=>
  ⟨E.set Z (some (.cells false s1 (setCells L))),by rw[h2];rfl,Mem.get_set_same h2 _,fun b x hb=>by rw[Mem.get_set_ne (by have:=Mem.get_lt hb;omega)];exact h3 b x hb,by rw[Mem.size_set];exact h4⟩
 have row:∀L:List Bool,Ju 5 0 (some (.cells false s1 (setCells L)))=some (Xm L):=fun L=>rfl
 have agg:∀L:List Bool,(Xm L).cells.toList=setCells L:=fun L=>rfl
 refine QB (fun f E=>f=[(2,.pointer (some ⟨b1,0,none⟩)),(4,.pointer (some ⟨Z,0,none⟩))]∧E.get b1=some (.cells false s1 (setCells (UA l i)))∧E.get Z=some (.cells false s1 [.int .i64 0,.int .u64 0,.int .u64 0,.int .u64 0,.int .u64 0])∧(∀b x,m.get b=some x→E.get b=some x)∧m.size≤E.size) ?_ ?_
 ·refine J0 (J1 ?_)
  cases q1:decide (i≥0)
  ·have e:UA l i=l:=by unfold UA;have:=of_decide_eq_false q1;rw[if_neg (by omega)]
   simp only[zZ,reduceIte,yQ,yW,yX,yZ,yJ,yK,yV,zDk,q1]
   refine Qd false (by rfl) (fun h=>by cases h) (fun _=>J3 ?_)
   refine⟨[2,4],?_⟩
   simp only[zZ,reduceIte,yQ,yW,yX,yZ,yJ,yK,yV,keepF]
   exact⟨U,tR _,by rw[e];exact g1,g2,ho,by omega⟩
  ·have h0:=of_decide_eq_true q1
   obtain⟨n,rfl⟩:=qK h0
   cases q2:decide ((n:Int)<(l.length:Int))
   ·have e:UA l (n:Int)=l:=by unfold UA;have:=of_decide_eq_false q2;rw[if_neg (by omega)]
    simp only[zZ,reduceIte,yQ,yW,yX,yZ,yJ,yK,yV,zDk,q1,g1,set_len,q2]
    refine Qd false (by rfl) (fun h=>by cases h) (fun _=>J3 ?_)
    refine⟨[2,4],?_⟩
    simp only[zZ,reduceIte,yQ,yW,yX,yZ,yJ,yK,yV,keepF]
    exact⟨U,tR _,by rw[e];exact g1,g2,ho,by omega⟩
   ·have h2:=of_decide_eq_true q2
    have e:UA l (n:Int)=l.set n true:=by unfold UA;rw[if_pos ⟨h0,h2⟩,qj]
    have wq:IntKind.i64.wrap (Int.tdiv (n:Int) 64)=((n/64:Nat):Int):=by rw[Int.tdiv_eq_ediv_of_nonneg (by omega),Xn (by omega) (by omega)];omega
    have wr:Int.tmod (n:Int) 64=((n%64:Nat):Int):=by rw[Int.tmod_eq_emod_of_nonneg (by omega)];omega
    have z0:(0:Int)≤((n/64:Nat):Int):=by omega
    have z4:((n/64:Nat):Int)<((4:Nat):Int):=by omega
    have z1:(0:Int)≤((n%64:Nat):Int):=by omega
    have a6:=set_cell l (n/64) (by omega)
    have sl:=u64_shl1 (n%64) (by omega)
    have hw:=Vb l (n/64)
    have hp:2^(n%64)<18446744073709551616:=by
     have:2^(n%64)<2^64:=Nat.pow_lt_pow_right (by decide) (by omega)
     exact this
    have eo:=u64_or_nat (Jj l (n/64)) (2^(n%64)) hw hp
    have sp:=set_put l n (by omega) hl
    have I:Ji 1 U b1 (1+n/64) [.int .u64 ((Jj l (n/64)|||2^(n%64):Nat):Int)] (some (.cells false s1 (setCells l)))=some (U.set b1 (some (.cells false s1 (setCells (l.set n true))))):=by
     simp only[Ji]
     rw[if_pos ⟨rfl,by show 1+n/64+1≤5;omega,rfl⟩,←sp]
     rfl
    simp only[zZ,reduceIte,yQ,yW,yX,yZ,yJ,yK,yV,zDk,q1,g1,set_len,q2]
    refine Qd true (by rfl) (fun _=>QG hmix 10 (by kernel_rfl) (by kernel_rfl) ?_) (fun h=>by cases h)
    simp only[zZ,reduceIte,yQ,yW,yX,yZ,yJ,yK,yV,zDk,g1,wq,wr,z0,z4,z1,and_self,qj,a6,sl,eo,I]
    refine⟨[2,4],?_⟩
    simp only[zZ,reduceIte,yQ,yW,yX,yZ,yJ,yK,yV,keepF]
    refine⟨_,tR _,by rw[e];exact Mem.get_set_same g1 _,by rw[Mem.get_set_ne ag];exact g2,fun b x hb=>by rw[Mem.get_set_ne (by have:=Mem.get_lt hb;omega)];exact ho b x hb,by rw[Mem.size_set];omega⟩
 rintro _ E ⟨rfl,h1,h2,h3,h4⟩
 obtain⟨M4,I,h5,h6,h7⟩:=ak E _ h1 h2 h3 h4
 rw[h2]at I
 refine J0 (J1 ?_)
 simp only[zZ,reduceIte,yQ,yW,yX,yZ,yJ,yK,yV,zDk,h1,h2,row,agg,I]
 refine QC ?_
 simp only[zZ,reduceIte,yQ,yW,yX,yZ,yJ,yK,yV,zDk,mEnd,sAnswer,sAnswer.sRes,Q4,h5,row]
 exact⟨_,tR _,h6,by rw[a2];exact h7⟩
theorem with_at(l:List Bool)(hl:l.length≤256)(i:Int)(m:Mem):
 Abs.Spec qc 39 [Xm l,.int .i64 i] m fun u M=>u=Xm (UA l i)∧M=m:=
 Abs.Spec.of_empty (by intro x hx;simp at hx;rcases hx with rfl|rfl<;>rfl) rfl ((with_spec l hl i ⟨[]⟩).mono fun _ _ h=>h.1) m
theorem ZE(a b:List UInt8):bcat (str a) (str b)=str (a++b):=by
 unfold bcat str
 simp
theorem V3(a:List UInt8):JC (str a)=a.length:=rfl
structure More(M M':Mem):Prop where
 get:∀b x,M.get b=some x→M'.get b=some x
 size:M.size≤M'.size
theorem More.refl(M:Mem):More M M:=⟨fun _ _ h=>h,Nat.le_refl _⟩
theorem More.trans{M M' M'':Mem}(h:More M M')(k:More M' M''):More M M'':=⟨fun b x hb=>k.get b x (h.get b x hb),Nat.le_trans h.size k.size⟩
theorem More.push(M:Mem)(y:Blk):More M (M.push y):=⟨fun b x hb=>by rw[Mem.get_push_old (Mem.get_lt hb)];exact hb,by rw[Mem.size_push];omega⟩
def cntB(l:List Bool)(n:Nat):Nat:=((qm n).filter fun i=>l.getD i false).length
theorem cntB_succ(l:List Bool)(n:Nat):cntB l (n+1)=cntB l n+(if l.getD n false then 1 else 0):=by
 unfold cntB
 rw[List.range_succ,List.filter_append,qf]
 congr 1
 cases h:l.getD n false<;>simp only[List.filter_cons,List.filter_nil,h]<;>rfl
theorem cntB_word(l:List Bool)(j:Nat):∀k,k≤64→cntB l (64*j+k)=cntB l (64*j)+Vn (Jj l j) k
 |0,_=>by simp[Vn]
 |k+1,hk=>by
  rw[←Nat.add_assoc,cntB_succ,cntB_word l j k (by omega),popc_succ,Qz l j k (by omega)]
  omega
def countT(l:List Bool):Nat:=(l.filter fun b=>b).length
theorem cntB_all(l:List Bool):∀n,l.length≤n→cntB l n=countT l:=by
 intro n I
 have E:cntB l l.length=countT l:=by
  unfold cntB countT
  have e:l=(qm l.length).map fun i=>l.getD i false:=by
   apply List.ext_getElem (by simp)
   intro i E h2
   simp[qh,E]
  conv=>rhs;rw[e]
  rw[List.filter_map,List.length_map]
  rfl
 induction n with
 |zero=>rw[←E];congr 1;omega
 |succ n ih=>
  by_cases e:l.length=n+1
  ·rw[←e];exact E
  ·rw[cntB_succ,ih (by omega),qh,qy (by omega)]
   rfl
theorem cntB_le(l:List Bool)(n:Nat):cntB l n≤n:=by
 unfold cntB
 have:=List.length_filter_le (fun i=>l.getD i false) (qm n)
 rwa [List.length_range]at this
theorem arr_set(l:List Bool)(j:Nat)(hj:j<4):(#[Value.int .u64 (Jj l 0:Nat),.int .u64 (Jj l 1:Nat),.int .u64 (Jj l 2:Nat),.int .u64 (Jj l 3:Nat)]:Array Value)[j]?=some (.int .u64 (Jj l j:Nat)):=by
 match j,hj with
 |0,_=>rfl
 |1,_=>rfl
 |2,_=>rfl
 |3,_=>rfl
def wordsV(l:List Bool):Value:=.agg #[.int .u64 (Jj l 0:Nat),.int .u64 (Jj l 1:Nat),.int .u64 (Jj l 2:Nat),.int .u64 (Jj l 3:Nat)]
theorem ix_W4(l:List Bool)(i:Nat)(hi:i<4):KA qc 41 (wordsV l) (.int .i64 (i:Nat))=some (.int .u64 (Jj l i:Nat)):=by
 rcases(by omega:i=0∨i=1∨i=2∨i=3)with rfl|rfl|rfl|rfl<;>kernel_rfl
theorem count_spec(l:List Bool)(hl:l.length≤256)(m:Mem):
 Abs.Spec qc 14 [Xm l] m fun u M=>u=.int .i64 (countT l:Nat)∧More m M:=by
 refine Abs.Spec.walkM Tryz.func14 (by rfl) _ Tryz.results14 _ Tryz.ntmps14 (by simp) ?_
 intro hc hx k
 have bx:=bx_set l
 generalize J6 qc 43=s1 at bx
 have row:Ju 4 1 (some (.cells false s1 (setCells l)))=some (wordsV l):=rfl
 obtain⟨I,E⟩:∃I,I=m.push (.cells false s1 (setCells l)):=⟨_,rfl⟩
 have U:I.get m.size=some (.cells false s1 (setCells l)):=by rw[E,Mem.get_push_new]
 have O:More m I:=by rw[E];exact More.push _ _
 refine J0 (J1 ?_)
 simp only[zZ,reduceIte,yQ,yW,yX,yZ,yJ,yK,yV,zDk,bx]
 rw[←E]
 refine J0 (J1 ?_)
 simp only[zZ,reduceIte,yQ,yW,yX,yZ,yJ,yK,yV,zDk]
 refine J0 (J0 (J1 ?_))
 simp only[zZ,reduceIte,yQ,yW,yX,yZ,yJ,yK,yV,zDk,U,row]
 refine J7 (Jr (fun j f M'=>∃i:Nat,j=4-i∧f=[(3,.int .i64 (cntB l (64*i):Nat)),(7,wordsV l),(8,.int .i64 (i:Nat))]∧i≤4∧M'=I) 4 ?_ ?_)
 ·refine⟨[3,7,8],?_⟩
  simp only[zZ,reduceIte,yQ,yW,yX,yZ,yJ,yK,yV,keepF]
  exact⟨I,tR _,0,rfl,rfl,by omega,rfl⟩
 ·rintro j f M' ⟨i,rfl,rfl,hi,rfl⟩
  refine J0 (J1 ?_)
  simp only[zZ,reduceIte,yQ,yW,yX,yZ,yJ,yK,yV,zDk]
  refine J0 (Qd (decide ((i:Int)<4)) (by rfl) (fun hq=>J3 ?_) (fun hq=>Jn ?_))
  ·have Z:=of_decide_eq_true hq
   have z0:(0:Int)≤(i:Int):=by omega
   have z4:(i:Int)<((4:Nat):Int):=by omega
   have ha:=arr_set l i (by omega)
   have w9:IntKind.i64.wrap ((i:Int)+1)=((i+1:Nat):Int):=by rw[Xn (by omega) (by omega)];omega
   have hw:=cntB_word l i 64 (Nat.le_refl _)
   rw[show 64*i+64=64*(i+1) by omega]at hw
   have hb:=cntB_le l (64*(i+1))
   have w1:IntKind.i64.wrap (((cntB l (64*i):Nat):Int)+((Vn (Jj l i) 64:Nat):Int))=((cntB l (64*(i+1)):Nat):Int):=by rw[Xn (by omega) (by omega)];omega
   simp only[zZ,reduceIte,yQ,yW,yX,yZ,yJ,yK,yV]
   refine J0 (J7 (J0 (J1 ?_)))
   simp only[zZ,reduceIte,yQ,yW,yX,yZ,yJ,yK,yV,zDk,ix_W4 l i (by omega)]
   refine J1 ?_
   simp only[zZ,reduceIte,yQ,yW,yX,yZ,yJ,yK,yV,zDk]
   refine⟨by kernel_rfl,_,ones_spec (Jj l i) (Vb l i) _,?_⟩
   rintro _ M9 ⟨rfl,Y⟩;replace Y:=Y.symm;subst Y
   simp only[zZ,reduceIte,yQ,yW,yX,yZ,yJ,yK,yV,zDk,w1]
   refine J1 ?_
   simp only[zZ,reduceIte,yQ,yW,yX,yZ,yJ,yK,yV,zDk,w9]
   refine⟨[3,7,8],?_⟩
   simp only[zZ,reduceIte,yQ,yW,yX,yZ,yJ,yK,yV,keepF]
   exact⟨_,tR _,4-(i+1),⟨i+1,rfl,rfl,by omega,rfl⟩,by omega⟩
  ·have Z:=of_decide_eq_false hq
   have hE:i=4:=by omega
   subst hE
   simp only[zZ,reduceIte,yQ,yW,yX,yZ,yJ,yK,yV]
   refine J0 (J1 ?_)
   simp only[zZ,reduceIte,yQ,yW,yX,yZ,yJ,yK,yV,zDk]
   refine QC ?_
   simp only[zZ,reduceIte,yQ,yW,yX,yZ,yJ,yK,yV,zDk,mEnd,sAnswer,sAnswer.sRes]
   exact⟨_,tR _,by rw[cntB_all l _ (by omega)],O⟩
theorem count_at(l:List Bool)(hl:l.length≤256)(m:Mem):
 Abs.Spec qc 14 [Xm l] m fun u M=>u=.int .i64 (countT l:Nat)∧M=m:=
 Abs.Spec.of_empty (by intro x hx;simp at hx;subst hx;rfl) rfl ((count_spec l hl ⟨[]⟩).mono fun _ _ h=>h.1) m
theorem countT_all(l:List Bool):(countT l=l.length)↔l.all (fun b=>b)=true:=by
 unfold countT
 rw[qv]
 constructor
 ·intro h b hb
  have:=(List.filter_eq_self (p:=fun b=>b) (l:=l)).1 (List.Sublist.eq_of_length List.filter_sublist h)
  exact this b hb
 ·intro h
  rw[(List.filter_eq_self (p:=fun b=>b) (l:=l)).2 h]
theorem full_spec(l:List Bool)(hl:l.length≤256)(m:Mem):
 Abs.Spec qc 51 [Xm l] m fun u M=>u=.bool (l.all fun b=>b)∧More m M:=by
 refine Abs.Spec.walkM Tryz.func51 (by rfl) _ Tryz.results51 _ Tryz.ntmps51 (by simp) ?_
 intro hc hx k
 have bx:=bx_set l
 generalize J6 qc 43=s1 at bx
 have row:Ju 5 0 (some (.cells false s1 (setCells l)))=some (Xm l):=rfl
 obtain⟨O,E⟩:∃O,O=m.push (.cells false s1 (setCells l)):=⟨_,rfl⟩
 obtain⟨Z,U⟩:∃Z,Z=m.size:=⟨_,rfl⟩
 have I:O.get Z=some (.cells false s1 (setCells l)):=by rw[E,U,Mem.get_push_new]
 have Y:More m O:=by rw[E];exact More.push _ _
 refine J0 (J1 ?_)
 simp only[zZ,reduceIte,yQ,yW,yX,yZ,yJ,yK,yV,zDk,bx]
 rw[←E,←U]
 refine J0 (QG hmix 4 (by kernel_rfl) (by kernel_rfl) ?_)
 simp only[zZ,reduceIte,yQ,yW,yX,yZ,yJ,yK,yV,zDk,I,row]
 refine⟨by kernel_rfl,_,count_at l hl O,?_⟩
 refine⟨by decide,?_⟩
 have e:(((countT l:Nat):Int)==(l.length:Int))=l.all fun b=>b:=by
  rw[qF,beq_iff_eq,←countT_all]
  exact Int.ofNat_inj
 simp only[zZ,reduceIte,yQ,yW,yX,yZ,yJ,yK,yV,zDk,I,set_len,e]
 refine QC ?_
 simp only[zZ,reduceIte,yQ,yW,yX,yZ,yJ,yK,yV,zDk,mEnd,sAnswer,sAnswer.sRes]
 exact⟨_,tR _,Y⟩
theorem full_at(l:List Bool)(hl:l.length≤256)(m:Mem):
 Abs.Spec qc 51 [Xm l] m fun u M=>u=.bool (l.all fun b=>b)∧M=m:=
 Abs.Spec.of_empty (by intro x hx;simp at hx;subst hx;rfl) rfl ((full_spec l hl ⟨[]⟩).mono fun _ _ h=>h.1) m
def setWord(l:List Bool):List UInt8→Nat→List UInt8
 |t,0=>t
 |t,j+1=>setWord l t j++Sha.fixed (Jj l j:Nat) 8
theorem setWord_len(l:List Bool):∀j,(setWord l [] j).length=8*j
 |0=>rfl
 |j+1=>by rw[setWord,qf,setWord_len l j,Sha.fixed_length];omega
theorem fixed_wrap(n:Nat)(hn:n<18446744073709551616):Sha.fixed (IntKind.i64.wrap (n:Int)) 8=Sha.fixed (n:Int) 8:=by
 have key:∀(a b:Int)(k:Nat),(∀j,j<k→a/256^j%256=b/256^j%256)→Sha.fixed a k=Sha.fixed b k:=by
  intro a b k
  induction k with
  |zero=>intro _;rfl
  |succ k ih=>
   intro h
   rw[Zc,Zc,h k (by omega),ih fun j hj=>h j (by omega)]
 have E:IntKind.i64.wrap (n:Int)=(n:Int)∨IntKind.i64.wrap (n:Int)=(n:Int)-18446744073709551616:=by rw[IntKind.wrap_i64];omega
 rcases E with h|h
 ·rw[h]
 ·rw[h]
  refine key _ _ 8 fun j hj=>?_
  rcases(by omega:j=0∨j=1∨j=2∨j=3∨j=4∨j=5∨j=6∨j=7)with rfl|rfl|rfl|rfl|rfl|rfl|rfl|rfl<;>simp only[Int.reducePow]<;>omega
theorem sput_spec(l:List Bool)(m:Mem):
 Abs.Spec qc 130 [Xm l] m fun u M=>u=.string (str (XO l))∧More m M:=by
 refine Abs.Spec.walkM Tryz.func130 (by rfl) _ Tryz.results130 _ Tryz.ntmps130 (by simp) ?_
 intro hc hx k
 have bx:=bx_set l
 generalize J6 qc 43=s1 at bx
 have row:Ju 4 1 (some (.cells false s1 (setCells l)))=some (wordsV l):=rfl
 obtain⟨I,E⟩:∃I,I=m.push (.cells false s1 (setCells l)):=⟨_,rfl⟩
 have Z:I.get m.size=some (.cells false s1 (setCells l)):=by rw[E,Mem.get_push_new]
 have Y:More m I:=by rw[E];exact More.push _ _
 have O:(⟨#[]⟩:ByteArray)=str []:=rfl
 refine J0 (J1 ?_)
 simp only[zZ,reduceIte,yQ,yW,yX,yZ,yJ,yK,yV,zDk,bx]
 rw[←E]
 refine J0 (J1 ?_)
 simp only[zZ,reduceIte,yQ,yW,yX,yZ,yJ,yK,yV,zDk,O]
 refine J0 (J0 (J1 ?_))
 simp only[zZ,reduceIte,yQ,yW,yX,yZ,yJ,yK,yV,zDk,Z,row]
 refine J7 (Jr (fun j f M'=>∃i:Nat,j=4-i∧f=[(3,.string (str (setWord l [] i))),(7,wordsV l),(8,.int .i64 (i:Nat))]∧i≤4∧M'=I) 4 ?_ ?_)
 ·refine⟨[3,7,8],?_⟩
  simp only[zZ,reduceIte,yQ,yW,yX,yZ,yJ,yK,yV,keepF]
  exact⟨I,tR _,0,rfl,rfl,by omega,rfl⟩
 ·rintro j f M' ⟨i,rfl,rfl,hi,rfl⟩
  refine J0 (J1 ?_)
  simp only[zZ,reduceIte,yQ,yW,yX,yZ,yJ,yK,yV,zDk]
  refine J0 (Qd (decide ((i:Int)<4)) (by rfl) (fun hq=>J3 ?_) (fun hq=>Jn ?_))
  ·have a6:=of_decide_eq_true hq
   have w9:IntKind.i64.wrap ((i:Int)+1)=((i+1:Nat):Int):=by rw[Xn (by omega) (by omega)];omega
   have a8:=setWord_len l i
   have U:=Kq (IntKind.i64.wrap ((Jj l i:Nat):Int)) 8 (by decide) (by decide) M'
   rw[fixed_wrap _ (Vb l i)]at U
   have aa:=Sha.fixed_length 8 ((Jj l i:Nat):Int)
   simp only[zZ,reduceIte,yQ,yW,yX,yZ,yJ,yK,yV]
   refine J0 (J7 (J0 (J1 ?_)))
   simp only[zZ,reduceIte,yQ,yW,yX,yZ,yJ,yK,yV,zDk,ix_W4 l i (by omega)]
   refine J1 ?_
   simp only[zZ,reduceIte,yQ,yW,yX,yZ,yJ,yK,yV,zDk]
   refine⟨by kernel_rfl,_,U,?_⟩
   rintro _ M9 ⟨rfl,e9⟩;replace e9:=e9.symm;subst e9
   simp only[zZ,reduceIte,yQ,yW,yX,yZ,yJ,yK,yV,zDk,ZE,V3]
   refine⟨by omega,?_⟩
   refine J1 ?_
   simp only[zZ,reduceIte,yQ,yW,yX,yZ,yJ,yK,yV,zDk,w9]
   refine⟨[3,7,8],?_⟩
   simp only[zZ,reduceIte,yQ,yW,yX,yZ,yJ,yK,yV,keepF]
   exact⟨M',tR _,4-(i+1),⟨i+1,rfl,rfl,by omega,rfl⟩,by omega⟩
  ·have a6:=of_decide_eq_false hq
   have hE:i=4:=by omega
   subst hE
   simp only[zZ,reduceIte,yQ,yW,yX,yZ,yJ,yK,yV]
   refine J0 (J1 ?_)
   simp only[zZ,reduceIte,yQ,yW,yX,yZ,yJ,yK,yV,zDk]
   refine QC ?_
   simp only[zZ,reduceIte,yQ,yW,yX,yZ,yJ,yK,yV,zDk,mEnd,sAnswer,sAnswer.sRes]
   exact⟨_,tR _,rfl,Y⟩
theorem sput_at(l:List Bool)(m:Mem):
 Abs.Spec qc 130 [Xm l] m fun u M=>u=.string (str (XO l))∧M=m:=
 Abs.Spec.of_empty (by intro x hx;simp at hx;subst hx;rfl) rfl ((sput_spec l ⟨[]⟩).mono fun _ _ h=>h.1) m
theorem bnew_spec(n:Nat)(hn:n≤256)(m:Mem):
 Abs.Spec qc 34 [.int .i64 (n:Nat)] m fun u M=>u=Xm (qd n false)∧More m M:=by
 refine Abs.Spec.walkM Tryz.func34 (by rfl) _ Tryz.results34 _ Tryz.ntmps34 (by simp) ?_
 intro hc hx k
 have a6:=al_Set
 generalize J6 qc 43=s1 at a6
 have e1:max (n:Int) 0=(n:Int):=by omega
 have e2:min (n:Int) 256=(n:Int):=by omega
 have a7:Qj qc 43 [(0,.int .i64 (n:Nat))]=some (.agg #[.int .i64 (n:Nat),.int .u64 0,.int .u64 0,.int .u64 0,.int .u64 0]):=by kernel_rfl
 have hs:setCells (qd n false)=[.int .i64 (n:Nat),.int .u64 0,.int .u64 0,.int .u64 0,.int .u64 0]:=by
  unfold setCells
  rw[Vr,Vr,Vr,Vr,qN]
  rfl
 have Y:∀M0 b,Ji 5 M0 b 0 [.int .i64 (n:Nat),.int .u64 0,.int .u64 0,.int .u64 0,.int .u64 0] (some (.cells false s1 [.int .i64 0,.int .u64 0,.int .u64 0,.int .u64 0,.int .u64 0]))=some (M0.set b (some (.cells false s1 (setCells (qd n false))))):=fun M0 b=>by rw[hs];rfl
 have row:∀L:List Bool,Ju 5 0 (some (.cells false s1 (setCells L)))=some (Xm L):=fun L=>rfl
 refine J0 (J1 ?_)
 simp only[zZ,reduceIte,yQ,yW,yX,yZ,yJ,yK,yV,zDk,a6]
 obtain⟨I,E⟩:∃I,I=m.push (.cells false s1 [.int .i64 0,.int .u64 0,.int .u64 0,.int .u64 0,.int .u64 0]):=⟨_,rfl⟩
 obtain⟨O,a2⟩:∃O,O=m.size:=⟨_,rfl⟩
 have Z:I.get O=some (.cells false s1 [.int .i64 0,.int .u64 0,.int .u64 0,.int .u64 0,.int .u64 0]):=by rw[E,a2,Mem.get_push_new]
 have U:More m I:=by rw[E];exact More.push _ _
 rw[←E,←a2]
 have a8:(I.set O (some (.cells false s1 (setCells (qd n false))))).get O=some (.cells false s1 (setCells (qd n false))):=Mem.get_set_same Z _
 have aa:More m (I.set O (some (.cells false s1 (setCells (qd n false))))):=⟨fun b x hb=>by rw[Mem.get_set_ne (by have:=Mem.get_lt hb;omega)];exact U.get b x hb,by rw[Mem.size_set];exact U.size⟩
 refine J0 (J1 ?_)
 simp only[zZ,reduceIte,yQ,yW,yX,yZ,yJ,yK,yV,zDk,vMax_int,vMin_int,e1,e2,a7,agg_cells,Z,Y]
 refine QC ?_
 simp only[zZ,reduceIte,yQ,yW,yX,yZ,yJ,yK,yV,zDk,mEnd,sAnswer,sAnswer.sRes,Q4,a8,row]
 exact⟨_,tR _,aa⟩
theorem bnew_at(n:Nat)(hn:n≤256)(m:Mem):
 Abs.Spec qc 34 [.int .i64 (n:Nat)] m fun u M=>u=Xm (qd n false)∧M=m:=
 Abs.Spec.of_empty (by intro x hx;simp at hx;subst hx;rfl) rfl ((bnew_spec n hn ⟨[]⟩).mono fun _ _ h=>h.1) m
theorem size_spec(l:List Bool)(m:Mem):
 Abs.Spec qc 147 [Xm l] m fun u M=>u=.int .i64 (l.length:Nat)∧More m M:=by
 refine Abs.Spec.walkM Tryz.func147 (by rfl) _ Tryz.results147 _ Tryz.ntmps147 (by simp) ?_
 intro hc hx k
 have E:=bx_set l
 generalize J6 qc 43=s1 at E
 refine J0 (J1 ?_)
 simp only[zZ,reduceIte,yQ,yW,yX,yZ,yJ,yK,yV,zDk,E]
 refine J0 (J1 ?_)
 simp only[zZ,reduceIte,yQ,yW,yX,yZ,yJ,yK,yV,zDk,Mem.get_push_new,set_len]
 refine QC ?_
 simp only[zZ,reduceIte,yQ,yW,yX,yZ,yJ,yK,yV,zDk,mEnd,sAnswer,sAnswer.sRes]
 exact⟨_,tR _,More.push _ _⟩
theorem size_at(l:List Bool)(m:Mem):
 Abs.Spec qc 147 [Xm l] m fun u M=>u=.int .i64 (l.length:Nat)∧M=m:=
 Abs.Spec.of_empty (by intro x hx;simp at hx;subst hx;rfl) rfl ((size_spec l ⟨[]⟩).mono fun _ _ h=>h.1) m
def JX(n:Nat)(l:List Bool):List Value:=[.int .i64 (n:Nat),.int .u64 (Jj l 0:Nat),.int .u64 (Jj l 1:Nat),.int .u64 (Jj l 2:Nat),.int .u64 (Jj l 3:Nat)]
def rawV(n:Nat)(l:List Bool):Value:=.agg (JX n l).toArray
def QN(l m:List Bool)(n:Nat):Bool:=(qm n).all fun i=> !(l.getD i false)||m.getD i false
theorem andNot_zero(a b:Nat)(ha:a<18446744073709551616)(hb:b<18446744073709551616):(bits .andNot .u64 (a:Int) (b:Int)=0)↔∀k,k<64→a.testBit k=true→b.testBit k=true:=by
 have e:bits .andNot .u64 (a:Int) (b:Int)=((BitVec.ofInt 64 (a:Int)&&& ~~~ (BitVec.ofInt 64 (b:Int))).toNat:Int):=by
  show IntKind.u64.wrap _=_
  exact XW _ (BitVec.isLt _)
 rw[e]
 have Y:∀k,k<64→(BitVec.ofInt 64 (a:Int)).getLsbD k=a.testBit k:=fun k E=>by rw[←BitVec.testBit_toNat,VD a ha]
 have hB:∀k,k<64→(BitVec.ofInt 64 (b:Int)).getLsbD k=b.testBit k:=fun k E=>by rw[←BitVec.testBit_toNat,VD b hb]
 constructor
 ·intro h k E I
  have O:(BitVec.ofInt 64 (a:Int)&&& ~~~ (BitVec.ofInt 64 (b:Int)))=0#64:=BitVec.eq_of_toNat_eq (by simpa using h)
  have U:=congrArg (fun v=>BitVec.getLsbD v k) O
  simp only[BitVec.getLsbD_and,BitVec.getLsbD_not,Y k E,hB k E,I,E,decide_true,qD,BitVec.getLsbD_zero,Bool.not_eq_false']at U
  exact U
 ·intro h
  have O:(BitVec.ofInt 64 (a:Int)&&& ~~~ (BitVec.ofInt 64 (b:Int)))=0#64:=by
   apply BitVec.eq_of_getLsbD_eq
   intro k E
   simp only[BitVec.getLsbD_and,BitVec.getLsbD_not,Y k E,hB k E,E,decide_true,qD,BitVec.getLsbD_zero]
   cases ha':a.testBit k
   ·rfl
   ·rw[h k E ha'];rfl
  rw[O];rfl
theorem withinB_word(l m:List Bool)(j:Nat):QN l m (64*(j+1))=(QN l m (64*j)&&decide (bits .andNot .u64 (Jj l j:Nat) (Jj m j:Nat)=0)):=by
 rw[qF,qo,decide_eq_true_eq,andNot_zero _ _ (Vb l j) (Vb m j)]
 unfold QN
 simp only[qv,qp,Bool.or_eq_true,Bool.not_eq_true']
 constructor
 ·intro h
  refine⟨fun i hi=>h i (by omega),fun k hk hl=>?_⟩
  rw[Qz _ _ _ hk]at hl ⊢
  rcases h (64*j+k) (by omega)with E|E
  ·rw[E]at hl;cases hl
  ·exact E
 ·rintro⟨E,h2⟩ i hi
  by_cases hj:i<64*j
  ·exact E i hj
  ·have:=h2 (i-64*j) (by omega)
   rw[Qz _ _ _ (by omega),Qz _ _ _ (by omega),show 64*j+(i-64*j)=i by omega]at this
   cases hl:l.getD i false
   ·exact .inl rfl
   ·exact .inr (this hl)
def chainO:List (Option Bool)→Option Bool
 | []=>some true
 |o::r=>match o with
  |some true=>chainO r
  |some false=>some false
  |none=>none
theorem chainO_eq:∀l:List Bool,chainO (l.map some)=some (l.all id)
 | []=>rfl
 |true::r=>by simp only[qL,chainO,chainO_eq r,qT,id,qD]
 |false::r=>by simp only[qL,chainO,qT,id,Bool.false_and]
def sameRaw(n:Nat)(l:List Bool)(n':Nat)(m:List Bool):Bool:=[((n:Nat):Int)==(n':Nat),((Jj l 0:Nat):Int)==(Jj m 0:Nat),((Jj l 1:Nat):Int)==(Jj m 1:Nat),((Jj l 2:Nat):Int)==(Jj m 2:Nat),((Jj l 3:Nat):Int)==(Jj m 3:Nat)].all id
theorem set_eql(cx:Bool)(n n':Nat)(l m:List Bool):aBin qc .eql 43 cx (rawV n l) (rawV n' m)=some (.bool (sameRaw n l n' m)):=by
 have E:aBin qc .eql 43 cx (rawV n l) (rawV n' m)=(chainO [some (((n:Nat):Int)==(n':Nat)),chainO ([((Jj l 0:Nat):Int)==(Jj m 0:Nat),((Jj l 1:Nat):Int)==(Jj m 1:Nat),((Jj l 2:Nat):Int)==(Jj m 2:Nat),((Jj l 3:Nat):Int)==(Jj m 3:Nat)].map some)]).map fun b=>.bool b:=by cases cx<;>kernel_rfl
 rw[E,chainO_eq]
 unfold sameRaw
 cases h1:(((n:Nat):Int)==(n':Nat))
 ·rfl
 ·simp only[chainO,qT,id,qD,List.all_nil,Bool.and_true]
  cases(((Jj l 0:Nat):Int)==(Jj m 0:Nat))<;>cases(((Jj l 1:Nat):Int)==(Jj m 1:Nat))<;>cases(((Jj l 2:Nat):Int)==(Jj m 2:Nat))<;>cases(((Jj l 3:Nat):Int)==(Jj m 3:Nat))<;>rfl
theorem bx_raw(n:Nat)(l:List Bool):QO qc 43 (rawV n l)=some (.cells false (J6 qc 43) (JX n l)):=bx_Set _ rfl
theorem raw_cell(n:Nat)(l:List Bool)(j:Nat)(hj:j<4):(JX n l)[1+j]?=some (.int .u64 (Jj l j:Nat)):=by
 match j,hj with
 |0,_=>rfl
 |1,_=>rfl
 |2,_=>rfl
 |3,_=>rfl
theorem sameRaw_within{n n':Nat}{l m:List Bool}(h:sameRaw n l n' m=true):QN l m 256=true:=by
 unfold sameRaw at h
 simp only[qT,List.all_nil,id,Bool.and_true,qo,beq_iff_eq,Int.ofNat_inj]at h
 obtain⟨_,I,O,h2,E⟩:=h
 unfold QN
 rw[qv]
 intro i hi
 rw[qp]at hi
 have e:Jj l (i/64)=Jj m (i/64):=by
  rcases(by omega:i/64=0∨i/64=1∨i/64=2∨i/64=3)with e|e|e|e<;>rw[e]<;>assumption
 have a:=Qz l (i/64) (i%64) (qC _ (by decide))
 have b:=Qz m (i/64) (i%64) (qC _ (by decide))
 rw[qw]at a b
 rw[←a,←b,e]
 cases(Jj m (i/64)).testBit (i%64)<;>rfl
theorem withinB_less{l m:List Bool}{a b:Nat}(h:QN l m b=true)(hab:a≤b):QN l m a=true:=by
 unfold QN at*
 rw[qv]at*
 intro i hi
 rw[qp]at hi
 exact h i (qp.2 (by omega))
theorem within_spec(n n':Nat)(l l':List Bool)(m:Mem):
 Abs.Spec qc 13 [rawV n l,rawV n' l'] m fun u M=>u=.bool (QN l l' 256)∧More m M:=by
 refine Abs.Spec.walkM Tryz.func13 (by rfl) _ Tryz.results13 _ Tryz.ntmps13 (by simp) ?_
 intro hc hx k
 have bx:=bx_raw n l
 have ab:=bx_raw n' l'
 generalize J6 qc 43=s1 at bx ab
 have row:∀n l,Ju 5 0 (some (.cells false s1 (JX n l)))=some (rawV n l):=fun n l=>rfl
 have aa:∀n l,Ju 4 1 (some (.cells false s1 (JX n l)))=some (wordsV l):=fun n l=>rfl
 obtain⟨Z,E⟩:∃Z,Z=m.push (.cells false s1 (JX n l)):=⟨_,rfl⟩
 obtain⟨O,I⟩:∃O,O=Z.push (.cells false s1 (JX n' l')):=⟨_,rfl⟩
 obtain⟨b1,a2⟩:∃b,b=m.size:=⟨_,rfl⟩
 obtain⟨b2,a8⟩:∃b,b=Z.size:=⟨_,rfl⟩
 have ap:Z.size=m.size+1:=by rw[E,Mem.size_push]
 have g1:O.get b1=some (.cells false s1 (JX n l)):=by rw[I,Mem.get_push_old (by omega),E,a2,Mem.get_push_new]
 have g2:O.get b2=some (.cells false s1 (JX n' l')):=by rw[I,a8,Mem.get_push_new]
 have Y:More m O:=by rw[I,E];exact(More.push _ _).trans (More.push _ _)
 refine J0 (J1 ?_)
 simp only[zZ,reduceIte,yQ,yW,yX,yZ,yJ,yK,yV,zDk,bx,ab]
 rw[←E,←I,←a2,←a8]
 refine J0 (J0 (J1 ?_))
 simp only[zZ,reduceIte,yQ,yW,yX,yZ,yJ,yK,yV,zDk,g1,g2,row,set_eql]
 refine Qd (sameRaw n l n' l') (by rfl) (fun h=>J0 (J1 ?_)) (fun h=>J3 ?_)
 ·simp only[zZ,reduceIte,yQ,yW,yX,yZ,yJ,yK,yV,zDk]
  refine QC ?_
  simp only[zZ,reduceIte,yQ,yW,yX,yZ,yJ,yK,yV,zDk,mEnd,sAnswer,sAnswer.sRes]
  exact⟨O,tR _,by rw[sameRaw_within h],Y⟩
 simp only[zZ,reduceIte,yQ,yW,yX,yZ,yJ,yK,yV]
 refine J0 (J0 (J1 ?_))
 simp only[zZ,reduceIte,yQ,yW,yX,yZ,yJ,yK,yV,zDk,g1,aa]
 refine J7 (Jr (fun j f M'=>∃i:Nat,j=4-i∧f=[(3,.pointer (some ⟨b2,0,none⟩)),(11,wordsV l),(12,.int .i64 (i:Nat))]∧i≤4∧QN l l' (64*i)=true∧M'=O) 4 ?_ ?_)
 ·refine⟨[3,11,12],?_⟩
  simp only[zZ,reduceIte,yQ,yW,yX,yZ,yJ,yK,yV,keepF]
  exact⟨O,tR _,0,rfl,rfl,by omega,rfl,rfl⟩
 ·rintro j f M' ⟨i,rfl,rfl,hi,a6,rfl⟩
  refine J0 (J1 ?_)
  simp only[zZ,reduceIte,yQ,yW,yX,yZ,yJ,yK,yV,zDk]
  refine J0 (Qd (decide ((i:Int)<4)) (by rfl) (fun hq=>J3 ?_) (fun hq=>Jn ?_))
  ·have ac:=of_decide_eq_true hq
   have z0:(0:Int)≤(i:Int):=by omega
   have z4:(i:Int)<((4:Nat):Int):=by omega
   have w9:IntKind.i64.wrap ((i:Int)+1)=((i+1:Nat):Int):=by rw[Xn (by omega) (by omega)];omega
   have U:=raw_cell n' l' i (by omega)
   have a7:=withinB_word l l' i
   rw[a6,qD]at a7
   obtain⟨A,hA⟩:∃A,A=bits .andNot .u64 (Jj l i:Nat) (Jj l' i:Nat):=⟨_,rfl⟩
   have ae:XV .andNot .u64 ((Jj l i:Nat):Int) ((Jj l' i:Nat):Int)=some (.int .u64 A):=by rw[hA];rfl
   have ad:(A !=0)= !QN l l' (64*(i+1)):=by
    rw[a7,←hA]
    by_cases e:A=0
    ·simp[e]
    ·simp[e]
   simp only[zZ,reduceIte,yQ,yW,yX,yZ,yJ,yK,yV]
   refine J0 (J7 (J0 (J1 ?_)))
   simp only[zZ,reduceIte,yQ,yW,yX,yZ,yJ,yK,yV,zDk,ix_W4 l i (by omega)]
   refine J0 (J1 ?_)
   simp only[zZ,reduceIte,yQ,yW,yX,yZ,yJ,yK,yV,zDk,g2,z0,z4,and_self,qj,U,ae,ad]
   refine Qd (!QN l l' (64*(i+1))) (by rfl) (fun hb=>J0 (J1 ?_)) (fun hb=>J3 ?_)
   ·have hb:QN l l' (64*(i+1))=false:=by simpa using hb
    have e:QN l l' 256=false:=by
     cases h2:QN l l' 256
     ·rfl
     ·rw[withinB_less h2 (by omega)]at hb;cases hb
    simp only[zZ,reduceIte,yQ,yW,yX,yZ,yJ,yK,yV,zDk]
    refine QC ?_
    simp only[zZ,reduceIte,yQ,yW,yX,yZ,yJ,yK,yV,zDk,mEnd,sAnswer,sAnswer.sRes]
    exact⟨_,tR _,by rw[e],Y⟩
   ·have hb:QN l l' (64*(i+1))=true:=by simpa using hb
    simp only[zZ,reduceIte,yQ,yW,yX,yZ,yJ,yK,yV]
    refine J1 ?_
    simp only[zZ,reduceIte,yQ,yW,yX,yZ,yJ,yK,yV,zDk,w9]
    refine⟨[3,11,12],?_⟩
    simp only[zZ,reduceIte,yQ,yW,yX,yZ,yJ,yK,yV,keepF]
    exact⟨_,tR _,4-(i+1),⟨i+1,rfl,rfl,by omega,hb,rfl⟩,by omega⟩
  ·have ac:=of_decide_eq_false hq
   have hE:i=4:=by omega
   subst hE
   simp only[zZ,reduceIte,yQ,yW,yX,yZ,yJ,yK,yV]
   refine J0 (J1 ?_)
   simp only[zZ,reduceIte,yQ,yW,yX,yZ,yJ,yK,yV,zDk]
   refine QC ?_
   simp only[zZ,reduceIte,yQ,yW,yX,yZ,yJ,yK,yV,zDk,mEnd,sAnswer,sAnswer.sRes]
   exact⟨_,tR _,by rw[←a6],Y⟩
theorem within_at(n n':Nat)(l l':List Bool)(m:Mem):
 Abs.Spec qc 13 [rawV n l,rawV n' l'] m fun u M=>u=.bool (QN l l' 256)∧M=m:=
 Abs.Spec.of_empty (by intro x hx;simp at hx;rcases hx with rfl|rfl<;>rfl) rfl ((within_spec n n' l l' ⟨[]⟩).mono fun _ _ h=>h.1) m
theorem Zp(get:Nat→Option Blk)(s:ByteArray)(k:Nat)(h:k≤s.size):Q1 qc get 9 (.string s) none (some (.int .i64 (k:Int)))=some (.string (str (s.data.toList.take k))):=by
 have E:JC s=s.size:=rfl
 unfold Q1 X9
 simp only[Tryz.underlying9,E]
 rw[if_pos (by omega)]
 rfl
theorem ZL(get:Nat→Option Blk)(l:List UInt8)(a:Nat)(h:a≤l.length):
 Q1 qc get 9 (.string (str l)) (some (.int .i64 (a:Nat))) none=some (.string (str (l.drop a))):=by
 have E:JC (str l)=l.length:=rfl
 unfold Q1 X9
 simp only[Tryz.underlying9,E]
 rw[if_pos (by omega)]
 show some (Value.string (str ((l.drop a).take (l.length-a))))=_
 rw[qt (by simp)]
def Uy(n:Nat):Int:=IntKind.i64.wrap (n:Int)
theorem wr64_eq(n:Nat):Uy n=(n:Int)%18446744073709551616∨Uy n=(n:Int)%18446744073709551616-18446744073709551616:=by unfold Uy;rw[IntKind.wrap_i64];omega
theorem wr64_mod(n:Nat):Uy n%18446744073709551616=(n:Int)%18446744073709551616:=by rcases wr64_eq n with h|h<;>rw[h]<;>omega
theorem ofInt_wr64(n:Nat):(BitVec.ofInt 64 (Uy n)).toNat=n%18446744073709551616:=by
 rw[BitVec.toNat_ofInt]
 have:=wr64_mod n
 have e:(2:Int)^64=18446744073709551616:=by decide
 show(Uy n%((2^64:Nat):Int)).toNat=_
 rw[show((2^64:Nat):Int)=18446744073709551616 by decide,this]
 omega
theorem or_byte(x c:Nat)(hc:c<256):(256*x)|||c=256*x+c:=(Nat.two_pow_add_eq_or_of_lt (i:=8) hc x).symm
theorem take_step(n c:Nat)(hc:c<256):bits .or .i64 (IntKind.i64.wrap (Uy n*2^min 8 IntKind.i64.bits)) (c:Int)=Uy (n*256+c):=by
 have E:IntKind.i64.wrap (Uy n*2^min 8 IntKind.i64.bits)=Uy (n*256):=by
  show IntKind.i64.wrap (Uy n*256)=_
  unfold Uy
  rw[IntKind.wrap_i64,IntKind.wrap_i64,IntKind.wrap_i64]
  omega
 rw[E]
 show IntKind.i64.wrap ((BitVec.ofInt 64 (Uy (n*256))|||BitVec.ofInt 64 (c:Int)).toNat:Int)=_
 rw[BitVec.toNat_or,ofInt_wr64,ZP c (by omega)]
 have I:n*256%18446744073709551616|||c=n*256%18446744073709551616+c:=by
  have:n*256%18446744073709551616=256*(n%72057594037927936):=by omega
  rw[this];exact or_byte _ c hc
 rw[I]
 unfold Uy
 rw[IntKind.wrap_i64,IntKind.wrap_i64]
 omega
theorem to_bytes(l:List UInt8)(h:l.length≤1000000):VT qc 9 172 (str l)=some (.cells false 1 (J5 l)):=by
 have E:JC (str l)=l.length:=rfl
 unfold VT
 simp only[Tryz.underlying9,Tryz.underlying172,Tryz.underlying5,E]
 rw[if_pos (by omega)]
 rfl
theorem ld_u8c(get:Nat→Option Blk)(b o:Nat):gLoad qc get 5 (.pointer (some ⟨b,o,none⟩))=cellIn o (get b):=Xe Tryz.underlying5 rfl get b o
theorem cell_u8(l:List UInt8)(i:Nat)(c:UInt8)(h:l[i]?=some c):(J5 l)[i]?=some (.int .u8 (c.toNat:Nat)):=by
 unfold J5
 rw[List.getElem?_map,h];rfl
theorem num_snoc'(l:List UInt8)(c:UInt8):Sha.num (l++[c])=Sha.num l*256+c.toNat:=Sha.num_snoc l c
theorem take8_spec(s:List UInt8)(hs:8≤s.length)(hsz:s.length≤1000000)(m:Mem):
 Abs.Spec qc 87 [.string (str s),.int .i64 8] m fun u M=>u=.tuple #[.int .i64 (Uy (Sha.num (s.take 8))),.string (str (s.drop 8)),.int .i64 0]∧More m M:=by
 refine Abs.Spec.walkM Tryz.func87 (by rfl) _ Tryz.results87 _ Tryz.ntmps87 (by simp) ?_
 intro hc hx k
 have ac:JC (str s)=s.length:=rfl
 have ad:JC (str (s.take 8))=8:=by show(s.take 8).length=8;rw[qu];omega
 have q8:decide ((s.length:Int)<8)=false:=decide_eq_false (by omega)
 have a2:∀get,Q1 qc get 9 (.string (str s)) none (some (.int .i64 8))=some (.string (str (s.take 8))):=fun get=>Zp get (str s) 8 (by rw[str_size];omega)
 have ab:∀get,Q1 qc get 9 (.string (str s)) (some (.int .i64 8)) none=some (.string (str (s.drop 8))):=fun get=>ZL get s 8 hs
 refine J0 (J1 ?_)
 simp only[zZ,reduceIte,yQ,yW,yX,yZ,yJ,yK,yV,zDk]
 have qa:decide ((8:Int)<1)=false:=rfl
 have qb:decide ((8:Int)>8)=false:=rfl
 refine J0 (J7 (J0 (J1 ?_)))
 simp only[zZ,reduceIte,yQ,yW,yX,yZ,yJ,yK,yV,zDk,decide_false]
 refine Qd false (by rfl) (fun h=>by cases h) (fun _=>J0 (J1 ?_))
 simp only[zZ,reduceIte,yQ,yW,yX,yZ,yJ,yK,yV,zDk,ac,q8]
 refine Qd false (by rfl) (fun h=>by cases h) (fun _=>J3 ?_)
 simp only[zZ,reduceIte,yQ,yW,yX,yZ,yJ,yK,yV,zDk]
 refine J0 (J1 ?_)
 simp only[zZ,reduceIte,yQ,yW,yX,yZ,yJ,yK,yV,zDk]
 refine J0 (J0 (J1 ?_))
 simp only[zZ,reduceIte,yQ,yW,yX,yZ,yJ,yK,yV,zDk,a2,to_bytes (s.take 8) (by rw[qu];omega),ad]
 obtain⟨O,I⟩:∃O,O=m.push (.cells false 1 (J5 (s.take 8))):=⟨_,rfl⟩
 obtain⟨Y,U⟩:∃Y,Y=m.size:=⟨_,rfl⟩
 have a8:O.get Y=some (.cells false 1 (J5 (s.take 8))):=by rw[I,U,Mem.get_push_new]
 have aa:More m O:=by rw[I];exact More.push _ _
 rw[←I,←U]
 have Z:=Zv
 have sz:=XA
 refine J7 (Jr (fun j f M'=>∃i:Nat,j=8-i∧f=[(0,.string (str s)),(1,.int .i64 8),(7,.int .i64 (Uy (Sha.num (s.take i)))),(25,.slice (some ⟨Y,0,none⟩) 8 8),(26,.int .i64 (8:Nat)),(27,.int .i64 (i:Nat))]∧i≤8∧M'=O) 8 ?_ ?_)
 ·refine⟨[0,1,7,25,26,27],?_⟩
  simp only[zZ,reduceIte,yQ,yW,yX,yZ,yJ,yK,yV,keepF]
  exact⟨O,tR _,0,rfl,rfl,by omega,rfl⟩
 ·rintro j f M' ⟨i,rfl,rfl,hi,rfl⟩
  refine J0 (J1 ?_)
  simp only[zZ,reduceIte,yQ,yW,yX,yZ,yJ,yK,yV,zDk]
  refine J0 (Qd (decide ((i:Int)<((8:Nat):Int))) (by rfl) (fun hq=>J3 ?_) (fun hq=>Jn ?_))
  ·have a6:=of_decide_eq_true hq
   obtain⟨c,hC⟩:∃c,s[i]?=some c:=⟨_,qk (by omega)⟩
   have a7:(s.take 8)[i]?=some c:=by rw[qH,if_pos (by omega)];exact hC
   have z0:(0:Int)≤(i:Int):=by omega
   have z1:(i:Int)<((8:Nat):Int):=by omega
   have E:=cell_u8 _ _ _ a7
   have ak:=c.toNat_lt
   have wc:IntKind.i64.wrap ((c.toNat:Nat):Int)=((c.toNat:Nat):Int):=Xn (by omega) (by omega)
   have ws:=take_step (Sha.num (s.take i)) c.toNat (by omega)
   rw[←num_snoc',show s.take i++[c]=s.take (i+1) by rw[List.take_add_one,hC];rfl]at ws
   have w9:IntKind.i64.wrap ((i:Int)+1)=((i+1:Nat):Int):=by rw[Xn (by omega) (by omega)];omega
   simp only[zZ,reduceIte,yQ,yW,yX,yZ,yJ,yK,yV]
   refine J0 (J7 (J0 (J1 ?_)))
   simp only[zZ,reduceIte,yQ,yW,yX,yZ,yJ,yK,yV,zDk,z0,z1,and_self,Z,sz,Nat.mul_one,ld_u8c,a8,E]
   refine J1 ?_
   simp only[zZ,reduceIte,yQ,yW,yX,yZ,yJ,yK,yV,zDk,wc,ws]
   refine J1 ?_
   simp only[zZ,reduceIte,yQ,yW,yX,yZ,yJ,yK,yV,zDk,w9]
   refine⟨[0,1,7,25,26,27],?_⟩
   simp only[zZ,reduceIte,yQ,yW,yX,yZ,yJ,yK,yV,keepF]
   exact⟨_,tR _,8-(i+1),⟨i+1,rfl,rfl,by omega,rfl⟩,by omega⟩
  ·have a6:=of_decide_eq_false hq
   obtain rfl:i=8:=by omega
   simp only[zZ,reduceIte,yQ,yW,yX,yZ,yJ,yK,yV]
   refine J0 (QG hmix 5 (by kernel_rfl) (by kernel_rfl) ?_)
   simp only[zZ,reduceIte,yQ,yW,yX,yZ,yJ,yK,yV,zDk,ab]
   refine QC ?_
   simp only[zZ,reduceIte,yQ,yW,yX,yZ,yJ,yK,yV,zDk,mEnd,sAnswer,sAnswer.sRes]
   exact⟨_,tR _,aa⟩
theorem take8_at(s:List UInt8)(hs:8≤s.length)(hsz:s.length≤1000000)(m:Mem):
 Abs.Spec qc 87 [.string (str s),.int .i64 8] m fun u M=>u=.tuple #[.int .i64 (Uy (Sha.num (s.take 8))),.string (str (s.drop 8)),.int .i64 0]∧M=m:=
 Abs.Spec.of_empty (by intro x hx;simp at hx;rcases hx with rfl|rfl<;>rfl) rfl ((take8_spec s hs hsz ⟨[]⟩).mono fun _ _ h=>h.1) m
theorem lastOf_put(L:X0)(i:Nat)(s:List UInt8)(c j:Nat):Jt (putL L i s c) j=if j=i then some s else Jt L j:=by
 unfold putL
 cases h:Jt L i with
 |none=>
  simp only
  unfold Jt
  rw[List.find?_append]
  by_cases e:j=i
  ·subst e
   rw[if_pos rfl]
   have:L.find? (fun x=>x.1==j)=none:=by
    unfold Jt at h
    exact Option.map_eq_none_iff.1 h
   rw[this]
   simp
  ·rw[if_neg e]
   have I:(i==j)=false:=by simpa using fun h=>e h.symm
   simp[I]
 |some t=>
  simp only
  induction L with
  |nil=>simp[Jt]at h
  |cons x L ih=>
   unfold Jt at h ih ⊢
   by_cases hx:x.1=i
   ·rw[qL,if_pos hx]
    by_cases e:j=i
    ·subst e;simp
    ·have I:(i==j)=false:=by simpa using fun h=>e h.symm
     have Z:(x.1==j)=false:=by rw[hx];exact I
     rw[if_neg e,qq,qq]
     simp only[I,Z]
     have key:∀l:X0,(l.map fun x=>if x.1=i then(i,s,x.2.2)else x).find? (fun x=>x.1==j)=l.find? fun x=>x.1==j:=by
      intro l
      induction l with
      |nil=>rfl
      |cons y l ih2=>
       rw[qL,qq,qq,ih2]
       by_cases hy:y.1=i
       ·rw[if_pos hy]
        have Y:(y.1==j)=false:=by rw[hy];exact I
        simp only[I,Y]
       ·rw[if_neg hy]
     rw[key]
   ·rw[qL,if_neg hx,qq]
    have U:(x.1==i)=false:=by simpa using hx
    rw[qq,U]at h
    have O:=ih h
    by_cases hj:x.1=j
    ·have e:¬j=i:=fun e=>hx (hj.trans e)
     have E:(x.1==j)=true:=by simpa using hj
     rw[if_neg e,E,qq,E]
    ·have E:(x.1==j)=false:=by simpa using hj
     rw[E,qq,E]
     exact O
namespace Dsk
def poss(d:Dsk)(i:Nat)(s:List UInt8):Prop:=d.old[i]?=some s∨Jt d.last i=some s
def live(d:Dsk):Prop:=d.dead=false∧d.fuse= -1
theorem poss_sector{d:Dsk}{i:Nat}(h:i<d.old.length):d.poss i (d.sector i):=by
 unfold poss sector
 cases hl:Jt d.last i with
 |some s=>exact .inr rfl
 |none=>left;rw[qk h];rfl
theorem poss_lt{d:Dsk}(hok:d.Ok){i:Nat}{s:List UInt8}(h:d.poss i s):i<d.old.length∧s.length=256:=by
 rcases h with h|h
 ·obtain⟨E,rfl⟩:=qG.1 h
  exact⟨E,hok.size _ (List.getElem_mem E)⟩
 ·obtain⟨b,hb⟩:=lastOf_some h
  exact hok.within _ hb
theorem put_last(d:Dsk)(i:Nat)(s:List UInt8)(j:Nat):Jt (d.put i s).last j=if j=i then some s else Jt d.last j:=lastOf_put d.last i s d.clock j
theorem put_poss{d:Dsk}{i j:Nat}{s t:List UInt8}(h:(d.put i s).poss j t):d.poss j t∨(j=i∧t=s):=by
 rcases h with h|h
 ·exact .inl (.inl h)
 ·rw[put_last]at h
  by_cases e:j=i
  ·rw[if_pos e]at h;exact .inr ⟨e,(Option.some.inj h).symm⟩
  ·rw[if_neg e]at h;exact .inl (.inr h)
theorem put_sector(d:Dsk)(i:Nat)(s:List UInt8)(j:Nat):(d.put i s).sector j=if j=i then s else d.sector j:=by
 unfold sector
 rw[put_last]
 by_cases e:j=i
 ·rw[if_pos e,if_pos e];rfl
 ·rw[if_neg e,if_neg e];rfl
theorem burnt_poss{d:Dsk}{j:Nat}{t:List UInt8}:d.burnt.poss j t↔d.poss j t:=by unfold poss;rw[Qp,Kw]
theorem ZF(d:Dsk)(j:Nat):d.burnt.sector j=d.sector j:=by unfold sector;rw[Qp,Kw]
theorem burnt_live{d:Dsk}(h:d.live):d.burnt.live:=by
 obtain⟨E,h2⟩:=h
 unfold burnt
 rw[if_neg (by omega)]
 exact⟨E,by simp only;omega⟩
theorem write_eq{d:Dsk}{i:Nat}{x:List UInt8}(hi:i<d.old.length)(hx:x.length≤256):
 d.write (i:Int) x=if d.dead=true then(d,7)else if d.fuse=0 then(d.burnt,7)else(d.burnt.put i (Jg x),0):=by
 unfold write may
 by_cases hd:d.dead=true
 ·rw[if_pos hd,if_pos hd];rfl
 ·rw[if_neg hd,if_neg hd,if_neg (by omega),if_neg (by omega),qj]
theorem write_poss{d:Dsk}{i j:Nat}{x t:List UInt8}(hi:i<d.old.length)(hx:x.length≤256)(h:(d.write (i:Int) x).1.poss j t):d.poss j t∨(j=i∧t=Jg x):=by
 rw[write_eq hi hx]at h
 split at h
 ·exact .inl h
 ·split at h
  ·exact .inl (burnt_poss.1 h)
  ·rcases put_poss h with h|h
   ·exact .inl (burnt_poss.1 h)
   ·exact .inr h
theorem write_old{d:Dsk}{i:Nat}{x:List UInt8}(hi:i<d.old.length)(hx:x.length≤256):(d.write (i:Int) x).1.old=d.old:=by
 rw[write_eq hi hx]
 split
 ·rfl
 ·split
  ·exact Qp d
  ·show d.burnt.old=_;exact Qp d
theorem write_ok{d:Dsk}(hok:d.Ok){i:Nat}{x:List UInt8}(hi:i<d.old.length)(hx:x.length≤256):(d.write (i:Int) x).1.Ok:=by
 rw[write_eq hi hx]
 split
 ·exact hok
 ·split
  ·exact hok.burnt
  ·exact hok.burnt.put (by rw[Qp];exact hi) (filled_len hx)
theorem write_sector{d:Dsk}{i:Nat}{x:List UInt8}(hi:i<d.old.length)(hx:x.length≤256)(h0:(d.write (i:Int) x).2=0)(j:Nat):(d.write (i:Int) x).1.sector j=if j=i then Jg x else d.sector j:=by
 rw[write_eq hi hx]at h0 ⊢
 split at h0
 ·cases h0
 ·split at h0
  ·cases h0
  ·rename_i h1 h2
   rw[if_neg h1,if_neg h2]
   simp only
   rw[put_sector,ZF]
theorem write_alive{d:Dsk}{i:Nat}{x:List UInt8}(hi:i<d.old.length)(hx:x.length≤256)(h0:(d.write (i:Int) x).2=0):d.dead=false∧(d.write (i:Int) x).1.dead=false:=by
 rw[write_eq hi hx]at h0 ⊢
 split at h0
 ·cases h0
 ·split at h0
  ·cases h0
  ·rename_i h1 h2
   rw[if_neg h1,if_neg h2]
   refine⟨by simpa using h1,?_⟩
   show d.burnt.dead=false
   unfold burnt
   rw[if_neg h2]
   simpa using h1
theorem write_live{d:Dsk}{i:Nat}{x:List UInt8}(hi:i<d.old.length)(hx:x.length≤256)(h:d.live):(d.write (i:Int) x).2=0∧(d.write (i:Int) x).1.live:=by
 rw[write_eq hi hx,if_neg (by rw[h.1];simp),if_neg (by rw[h.2];decide)]
 exact⟨rfl,burnt_live h⟩
theorem sync_eq{d:Dsk}(hn:0<d.old.length):d.sync=if d.dead=true then(d,7)else if d.fuse=0 then(d.burnt,7)else(d.burnt.synced,0):=by
 unfold sync may
 by_cases hd:d.dead=true
 ·rw[if_pos hd,if_pos hd];rfl
 ·rw[if_neg hd,if_neg hd,if_neg (by omega)]
theorem synced_old(d:Dsk)(i:Nat)(h:i<d.old.length):d.synced.old[i]?=some (d.sector i):=by
 unfold synced sector
 simp only[List.getElem?_mapIdx,qk h,Option.map_some,Option.getD_some]
theorem synced_poss{d:Dsk}{i:Nat}{s:List UInt8}(h:d.synced.poss i s):i<d.old.length∧s=d.sector i:=by
 rcases h with h|h
 ·have hi:i<d.old.length:=by
   have:=(qG.1 h).1
   simpa[synced]using this
  rw[synced_old d i hi]at h
  exact⟨hi,(Option.some.inj h).symm⟩
 ·simp[synced,Jt]at h
theorem synced_sector{d:Dsk}{i:Nat}(h:i<d.old.length):d.synced.sector i=d.sector i:=by
 have E:Jt d.synced.last i=none:=by simp[synced,Jt]
 have h2:=synced_old d i h
 show(Jt d.synced.last i).getD ((d.synced.old[i]?).getD [])=_
 rw[E,h2];rfl
theorem sync_poss{d:Dsk}(hn:0<d.old.length){i:Nat}{s:List UInt8}(h:d.sync.1.poss i s):d.poss i s:=by
 rw[sync_eq hn]at h
 split at h
 ·exact h
 ·split at h
  ·exact burnt_poss.1 h
  ·obtain⟨E,rfl⟩:=synced_poss h
   rw[ZF]
   exact poss_sector (by rw[Qp]at E;exact E)
theorem sync_done{d:Dsk}(hn:0<d.old.length)(h0:d.sync.2=0){i:Nat}{s:List UInt8}(h:d.sync.1.poss i s):s=d.sector i:=by
 rw[sync_eq hn]at h h0
 split at h0
 ·cases h0
 ·split at h0
  ·cases h0
  ·rename_i h1 h2
   rw[if_neg h1,if_neg h2]at h
   obtain⟨_,rfl⟩:=synced_poss h
   exact ZF d i
theorem sync_sector{d:Dsk}(hn:0<d.old.length){i:Nat}(hi:i<d.old.length):d.sync.1.sector i=d.sector i:=by
 rw[sync_eq hn]
 split
 ·rfl
 ·split
  ·exact ZF d i
  ·show d.burnt.synced.sector i=_
   rw[synced_sector (by rw[Qp];exact hi),ZF]
theorem sync_len{d:Dsk}(hn:0<d.old.length):d.sync.1.old.length=d.old.length:=by
 rw[sync_eq hn]
 split
 ·rfl
 ·split
  ·show d.burnt.old.length=_;rw[Qp]
  ·show d.burnt.synced.old.length=_
   simp[synced,Qp]
theorem sync_ok{d:Dsk}(hok:d.Ok):d.sync.1.Ok:=by
 rw[sync_eq hok.pos]
 split
 ·exact hok
 ·split
  ·exact hok.burnt
  ·exact hok.burnt.synced
theorem sync_live{d:Dsk}(hn:0<d.old.length)(h:d.live):d.sync.2=0∧d.sync.1.live:=by
 rw[sync_eq hn,if_neg (by rw[h.1];simp),if_neg (by rw[h.2];decide)]
 exact⟨rfl,burnt_live h⟩
theorem crash_old(d:Dsk)(bits:Int)(i:Nat)(h:i<d.old.length):∃s,(d.crash bits).old[i]?=some s∧d.poss i s:=by
 unfold crash
 simp only[List.getElem?_mapIdx,qk h,Option.map_some]
 refine⟨_,rfl,?_⟩
 unfold poss
 split
 ·cases hl:Jt d.last i with
  |some s=>exact .inr rfl
  |none=>left;rw[qk h];rfl
 ·left;exact qk h
theorem crash_len(d:Dsk)(bits:Int):(d.crash bits).old.length=d.old.length:=by simp[crash]
theorem crash_live(d:Dsk)(bits:Int):(d.crash bits).live:=⟨rfl,rfl⟩
theorem crash_poss{d:Dsk}{bits:Int}{i:Nat}{s:List UInt8}(h:(d.crash bits).poss i s):d.poss i s∧s=(d.crash bits).sector i:=by
 rcases h with h|h
 ·have hi:i<d.old.length:=by have:=(qG.1 h).1;rwa [crash_len]at this
  obtain⟨t,E,h2⟩:=crash_old d bits i hi
  rw[h]at E;cases E
  refine⟨h2,?_⟩
  have hl:Jt (d.crash bits).last i=none:=by simp[crash,Jt]
  show _=(Jt (d.crash bits).last i).getD (((d.crash bits).old[i]?).getD [])
  rw[hl,h];rfl
 ·simp[crash,Jt]at h
theorem crash_ok{d:Dsk}(hok:d.Ok)(bits:Int):(d.crash bits).Ok:=by
 refine⟨by rw[crash_len];exact hok.n,by rw[crash_len];exact hok.pos,fun s hs=>?_,by simp[crash],by simp[crash],fun x hx=>by simp[crash]at hx,fun x hx=>by simp[crash]at hx,by simp[crash],trivial⟩
 obtain⟨i,hi,rfl⟩:=List.getElem_of_mem hs
 have E:i<d.old.length:=by rwa [crash_len]at hi
 obtain⟨t,I,h2⟩:=crash_old d bits i E
 rw[qk hi]at I
 cases I
 exact(poss_lt hok h2).2
end Dsk
end Go.Proofs.YthohbneadomgdaaGreatDoor
namespace Go.Proofs.YthohbneadomgdaaGreatDoor
open Go.RowKit Abs
theorem dropW_nil{p:UInt8→Bool}:∀{l:List UInt8},l.dropWhile p=[]↔∀b∈l,p b=true
 | []=>by simp
 |a::l=>by
  rw[List.dropWhile_cons]
  by_cases h:p a=true
  ·rw[if_pos h,dropW_nil]
   simp[h]
  ·rw[if_neg h]
   simp[h]
theorem UC(l:List UInt8):JN l=[]↔∀b∈l,b=0:=by
 unfold JN Lib.trimB Lib.trimLeftB Lib.trimRightB
 rw[dropW_nil]
 constructor
 ·intro h b hb
  by_cases hz:l.reverse.dropWhile (·==0)=[]
  ·have:=dropW_nil.1 hz b (by simpa using hb)
   simpa using this
  ·exfalso
   have I:(l.reverse.dropWhile (·==0)).head hz∈(l.reverse.dropWhile (·==0)).reverse:=by simp
   have E:=h _ I
   have h2:=List.head_dropWhile_not (·==(0:UInt8)) (w:=hz)
   rw[h2]at E
   cases E
 ·intro h b hb
  rw[List.mem_reverse]at hb
  have:=List.dropWhile_sublist (·==(0:UInt8)) (l:=l.reverse)|>.subset hb
  rw[List.mem_reverse]at this
  simp[h b this]
theorem num_from(l:List UInt8):∀a:Nat,l.foldl (fun n c=>n*256+c.toNat) a=a*256^l.length+l.foldl (fun n c=>n*256+c.toNat) 0:=by
 induction l with
 |nil=>intro a;simp
 |cons c l ih=>
  intro a
  rw[List.foldl_cons,List.foldl_cons,ih,ih (0*256+c.toNat),qA,Nat.pow_succ]
  rw[Nat.add_mul,Nat.zero_mul,Nat.zero_add,Nat.mul_assoc,Nat.mul_comm 256 (256^l.length)]
  omega
theorem num_cons(c:UInt8)(l:List UInt8):Sha.num (c::l)=c.toNat*256^l.length+Sha.num l:=by
 unfold Sha.num
 rw[List.foldl_cons,num_from]
 simp
theorem num_fixed(n:Nat):∀k:Nat,Sha.num (Sha.fixed (n:Int) k)=n%256^k
 |0=>by
  have:Sha.fixed (n:Int) 0=[]:=List.eq_nil_of_length_eq_zero (Sha.fixed_length _ _)
  rw[this];simp[Sha.num];omega
 |k+1=>by
  rw[Zc,num_cons,Sha.fixed_length,num_fixed n k]
  have e:((n:Int)/256^k%256).toNat=n/256^k%256:=by
   have:((n:Int)/256^k%256)=((n/256^k%256:Nat):Int):=by rw[Int.natCast_emod,Int.natCast_ediv,qE];rfl
   rw[this,qj]
  rw[e]
  have hb:(UInt8.ofNat (n/256^k%256)).toNat=n/256^k%256:=by
   rw[UInt8.toNat_ofNat']
   omega
  rw[hb,Nat.pow_succ]
  have I:=qw n (256^k)
  have h2:=qw (n/256^k) 256
  have E:n%(256^k*256)=256^k*(n/256^k%256)+n%256^k:=by rw[Nat.mod_mul,Nat.add_comm]
  rw[E,Nat.mul_comm]
theorem Zr{n:Int}{k:Nat}(h0:0≤n)(h:n<256^k):(Sha.num (Sha.fixed n k):Int)=n:=by
 obtain⟨m,rfl⟩:=qK h0
 rw[num_fixed]
 have:(m:Int)<((256^k:Nat):Int):=by rw[qE];exact h
 rw[Nat.mod_eq_of_lt (by omega)]
theorem ba_ext{s t:ByteArray}(h:s.data.toList=t.data.toList):s=t:=ByteArray.ext (Array.ext' h)
theorem headText_eq(h:Header):JR h=[83,76,71,49]++Sha.fixed h.id 4++h.salt.data.toList++Sha.fixed h.n 2++Sha.fixed h.bytes 4++Sha.fixed h.raw 4++h.root.data.toList++h.tag.data.toList:=by
 unfold JR Header.fields
 simp[str]
theorem Vw{a b c:List UInt8}{i n:Nat}(ha:a.length=i)(hb:b.length=n):((a++(b++c)).drop i).take n=b:=by
 subst ha;subst hb
 rw[List.drop_left,List.take_left]
theorem hdrT_text(h:Header)(hok:h.okP):Vg (str (JR h))=(h,0)∧(JR h).length=98:=by
 obtain⟨id,salt,n,bytes,raw,root,tag⟩:=h
 obtain⟨h1,h2,h3,h4,h5,h6,h7,h8,h9,a2⟩:=hok
 simp only at h1 h2 h3 h4 h5 h6 h7 h8 h9 a2
 have O:=Sha.fixed_length 4 id
 have Z:=Sha.fixed_length 2 n
 have l3:=Sha.fixed_length 4 bytes
 have l4:=Sha.fixed_length 4 raw
 have U:salt.data.toList.length=16:=by rw[qP];exact h3
 have z4:root.data.toList.length=32:=by rw[qP];exact h4
 have z5:tag.data.toList.length=32:=by rw[qP];exact h5
 have I:=headText_eq ⟨id,salt,n,bytes,raw,root,tag⟩
 simp only at I
 have E:(JR ⟨id,salt,n,bytes,raw,root,tag⟩).length=98:=by
  rw[I];simp only[qf,O,Z,l3,l4,U,z4,z5];rfl
 refine⟨?_,E⟩
 obtain⟨T,ac⟩:∃T,T=JR ⟨id,salt,n,bytes,raw,root,tag⟩:=⟨_,rfl⟩
 rw[←ac]at I E ⊢
 have ex:∀a b,((str T).extract a b)=str ((T.drop a).take (b-a)):=fun a b=>by rw[Lib.extract_eq];rfl
 have e0:(T.drop 0).take 4=[83,76,71,49]:=by rw[I];rfl
 have p1:(T.drop 4).take 4=Sha.fixed id 4:=by rw[I];simp only[qe];exact Vw (a:=[83,76,71,49]) rfl O
 have p2:(T.drop 8).take 16=salt.data.toList:=by rw[I];simp only[qe];rw[←qe [83,76,71,49]];exact Vw (by rw[qf,O];rfl) U
 have p3:(T.drop 24).take 2=Sha.fixed n 2:=by rw[I];rw[qe,qe,qe,qe];exact Vw (by simp only[qf,O,U];rfl) Z
 have p4:(T.drop 26).take 4=Sha.fixed bytes 4:=by rw[I];rw[qe,qe,qe];exact Vw (by simp only[qf,O,Z,U];rfl) l3
 have p5:(T.drop 30).take 4=Sha.fixed raw 4:=by rw[I];rw[qe,qe];exact Vw (by simp only[qf,O,Z,l3,U];rfl) l4
 have p6:(T.drop 34).take 32=root.data.toList:=by rw[I];rw[qe];exact Vw (by simp only[qf,O,Z,l3,l4,U];rfl) z4
 have p7:(T.drop 66).take 32=tag.data.toList:=by
  rw[I,List.drop_left' (by simp only[qf,O,Z,l3,l4,U,z4];rfl),qt (by omega)]
 have nm:∀a k,a+k≤98→numAt (str T) a k=Sha.num ((T.drop a).take k):=fun a k hak=>by
  unfold numAt
  rw[ex]
  show Sha.num (((T.drop a).take (98-a)).take k)=_
  rw[List.take_take,show min k (98-a)=k by omega]
 have Y:Zz (str T)=⟨id,salt,n,bytes,raw,root,tag⟩:=by
  unfold Zz
  rw[nm 4 4 (by decide),nm 24 2 (by decide),nm 26 4 (by decide),nm 30 4 (by decide),ex 8 24,ex 34 66,ex 66 98,p1,p2,p3,p4,p5,p6,p7,
   Zr (by omega) (by omega),Zr (by omega) (by omega),Zr (by omega) (by omega),Zr (by omega) (by omega)]
  rfl
 unfold Vg
 have hc:Header.check ⟨id,salt,n,bytes,raw,root,tag⟩=0:=(Header.check_zero _).2 ⟨h1,h2,h3,h4,h5,h6,h7,h8,h9,a2⟩
 rw[Y,if_pos ⟨by rw[str_size];exact E,by rw[ex 0 4,e0];rfl,by rw[hc];decide⟩]
theorem UR(n:Nat):∀(k j:Nat),j<k→((Sha.fixed (n:Int) k).getD j 0).toNat=n/256^(k-1-j)%256
 |0,j,h=>by omega
 |k+1,0,_=>by
  rw[Zc,List.getD_cons_zero]
  have e:((n:Int)/256^k%256).toNat=n/256^k%256:=by
   have:((n:Int)/256^k%256)=((n/256^k%256:Nat):Int):=by rw[Int.natCast_emod,Int.natCast_ediv,qE];rfl
   rw[this,qj]
  rw[e,UInt8.toNat_ofNat',Nat.add_sub_cancel,Nat.sub_zero]
  omega
 |k+1,j+1,h=>by
  rw[Zc,List.getD_cons_succ,UR n k j (by omega)]
  congr 3
  omega
theorem UP{a b:List UInt8}{i j:Nat}(ha:a.length=i):(a++b).getD (i+j) 0=b.getD j 0:=by
 subst ha
 simp only[qh]
 rw[List.getElem?_append_right (by omega),Nat.add_sub_cancel_left]
theorem getD_left{a b:List UInt8}{j:Nat}(ha:j<a.length):(a++b).getD j 0=a.getD j 0:=by
 simp only[qh]
 rw[List.getElem?_append_left ha]
theorem U6(l:List Bool):(XO l).length=32:=by unfold XO;simp only[List.length_append,Sha.fixed_length]
theorem setText_at(l:List Bool)(j b:Nat)(hj:j<4)(hb:b<8):((XO l).getD (8*j+b) 0).toNat=Jj l j/256^(7-b)%256:=by
 have f:=fun j=>Sha.fixed_length 8 ((Jj l j:Nat):Int)
 unfold XO
 rw[qe,qe]
 match j,hj with
 |0,_=>rw[getD_left (by rw[f];omega),Nat.mul_zero,Nat.zero_add,UR _ _ _ hb]
 |1,_=>rw[show 8*1+b=8+b by omega,UP (f 0),getD_left (by rw[f];omega),UR _ _ _ hb]
 |2,_=>rw[show 8*2+b=8+(8+b) by omega,UP (f 0),UP (f 1),getD_left (by rw[f];omega),UR _ _ _ hb]
 |3,_=>rw[show 8*3+b=8+(8+(8+b)) by omega,UP (f 0),UP (f 1),UP (f 2),UR _ _ _ hb]
theorem bitAt_text(l:List Bool)(i:Nat)(hi:i<256):Uf (XO l) i=l.getD i false:=by
 unfold Uf
 rw[show 8*(i/64)+7-i%64/8=8*(i/64)+(7-i%64/8) by omega,setText_at l _ _ (by omega) (by omega)]
 rw[show 7-(7-i%64/8)=i%64/8 by omega]
 have E:(Jj l (i/64)/256^(i%64/8)%256).testBit (i%8)=(Jj l (i/64)).testBit (i%64):=by
  rw[show(256:Nat)=2^8 by decide,←Nat.pow_mul,qJ,qI]
  have I:i%8<8:=qC _ (by decide)
  rw[show i%8+8*(i%64/8)=i%64 by omega]
  simp[I]
 rw[E,Qz _ _ _ (qC _ (by decide)),qw]
theorem setTake_text(l:List Bool)(h:l.length≤256):QH l.length (XO l)=(l,0):=by
 unfold QH
 rw[if_neg]
 ·congr 1
  apply List.ext_getElem (by simp)
  intro i I h2
  simp only[List.getElem_map,List.getElem_range]
  rw[bitAt_text l i (by omega)]
  simp[qh,h2]
 ·intro E
  rw[List.any_eq_true]at E
  obtain⟨i,hi,hb⟩:=E
  rw[qp]at hi
  rw[bitAt_text l i hi]at hb
  simp only[qo,decide_eq_true_eq]at hb
  rw[qh,qy (by omega)]at hb
  simp at hb
theorem Zk{s:List UInt8}{a n:Nat}(h:a+n≤s.length):QL (Jg s) a n=QL s a n:=by
 unfold QL Jg
 rw[List.drop_append_of_le_length (by omega),List.take_append_of_le_length (by rw[qi];omega)]
theorem filled_tail{s:List UInt8}:∀b∈(Jg s).drop s.length,b=0:=by
 unfold Jg
 rw[List.drop_left]
 intro b hb
 exact(List.mem_replicate.1 hb).2
theorem filled_nil:Jg []=qd 256 0:=rfl
theorem UK{x:Ext}(h:JE x=true):x.head.okP∧0≤x.base∧x.base≤1024-x.head.n:=by
 unfold JE Header.may at h
 simp only[qo,decide_eq_true_eq]at h
 exact⟨(Header.check_zero _).1 h.1.1,h.1.2,h.2⟩
theorem Vq{h:Header}(hk:h.okP):1≤h.n∧h.n≤256:=by
 obtain⟨_,_,_,_,_,E,I,O,_⟩:=hk
 omega
theorem catText_len{x:Ext}(h:JE x=true):(Jy x).length=104:=by
 have:=(hdrT_text x.head (UK h).1).2
 unfold Jy
 rw[qf,qf,this,Sha.fixed_length]
 rfl
theorem jouText_len{r:Rec}(h:JE r.x=true):(JY r).length=136:=by
 have:=(hdrT_text r.x.head (UK h).1).2
 unfold JY
 rw[qf,qf,qf,this,Sha.fixed_length,U6]
 rfl
theorem base_num{x:Ext}(h:JE x=true):((Sha.num (Sha.fixed x.base 2):Nat):Int)=x.base:=by
 obtain⟨E,h2,I⟩:=UK h
 have:=Vq E
 refine Zr h2 ?_
 show x.base<256^2
 omega
theorem not_blank{m s:List UInt8}{c:UInt8}(hm:m.head?=some c)(hc:c≠0):JN (Jg (m++s))≠ []:=by
 intro h
 rw[UC]at h
 refine hc (h c ?_)
 unfold Jg
 rw[qe]
 exact List.mem_append_left _ (List.mem_of_head? hm)
theorem catTake_text{x:Ext}(h:JE x=true):Xf (Jg (Jy x))=(x,0):=by
 have hl:=catText_len h
 have E:=hdrT_text x.head (UK h).1
 have Y:QL (Jy x) 4 98=JR x.head:=by
  unfold QL Jy
  rw[qe]
  exact Vw rfl E.2
 have I:QL (Jy x) 102 2=Sha.fixed x.base 2:=by
  unfold QL Jy
  rw[List.drop_left' (by rw[qf,E.2];rfl),qt (by rw[Sha.fixed_length];omega)]
 have Z:(Jg (Jy x)).take 4=markC:=by
  have:=Zk (s:=Jy x) (a:=0) (n:=4) (by omega)
  unfold QL at this
  rw[qR,qR]at this
  rw[this]
  unfold Jy
  rw[qe]
  exact List.take_left' rfl
 have O:JN ((Jg (Jy x)).drop 104)=[]:=by
  rw[UC,←hl];exact filled_tail
 have U:JN (Jg (Jy x))≠ []:=by
  unfold Jy
  rw[qe]
  exact not_blank (c:=83) rfl (by decide)
 unfold Xf
 rw[Zk (by omega),Zk (by omega),Y,I,E.1,base_num h]
 rw[if_neg U,if_neg (by rw[Z,O];simp),if_neg (by simp[h])]
theorem jouTake_text{r:Rec}(h:JE r.x=true)(hg:(r.got.length:Int)=r.x.head.n):QR (Jg (JY r))=(r,0):=by
 have hl:=jouText_len h
 have I:=(UK h).1
 have hn:=Vq I
 have E:=hdrT_text r.x.head I
 have c1:QL (JY r) 4 98=JR r.x.head:=by
  unfold QL JY
  rw[qe,qe]
  exact Vw rfl E.2
 have O:QL (JY r) 102 2=Sha.fixed r.x.base 2:=by
  unfold QL JY
  rw[qe (markJ++JR r.x.head)]
  exact Vw (by rw[qf,E.2];rfl) (Sha.fixed_length _ _)
 have Z:QL (JY r) 104 32=XO r.got:=by
  unfold QL JY
  rw[List.drop_left' (by rw[qf,qf,E.2,Sha.fixed_length];rfl),qt (by rw[U6];omega)]
 have c0:(Jg (JY r)).take 4=markJ:=by
  have:=Zk (s:=JY r) (a:=0) (n:=4) (by omega)
  unfold QL at this
  rw[qR,qR]at this
  rw[this]
  unfold JY
  rw[qe,qe]
  exact List.take_left' rfl
 have U:JN ((Jg (JY r)).drop 136)=[]:=by
  rw[UC,←hl];exact filled_tail
 have Y:JN (Jg (JY r))≠ []:=by
  unfold JY
  rw[qe,qe]
  exact not_blank (c:=83) rfl (by decide)
 have hs:QH r.x.head.n.toNat (XO r.got)=(r.got,0):=by
  rw[←hg,qj];exact setTake_text r.got (by omega)
 unfold QR
 rw[Zk (by omega),Zk (by omega),Zk (by omega),c1,O,Z,E.1,base_num h]
 simp only
 rw[hs,if_neg Y,if_neg (by rw[c0,U];simp),if_neg (by simp[h])]
theorem Ut{s:List UInt8}(h:JN s=[]):Xf s=(noExt,8):=if_pos h
theorem V6{s:List UInt8}(h:JN s=[]):QR s=(noRec,8):=if_pos h
theorem blank_filled:JN (Jg [])=[]:=by rw[UC,filled_nil];intro b hb;exact(List.mem_replicate.1 hb).2
theorem num_fix(l:List UInt8):Sha.fixed (Sha.num l:Nat) l.length=l:=by
 have key:∀(r:List UInt8),Sha.fixed (Sha.num r.reverse:Nat) r.length=r.reverse:=by
  intro r
  induction r with
  |nil=>rfl
  |cons c r ih=>
   rw[List.reverse_cons,Sha.num_snoc,qA,Sha.fixed]
   have hc:=c.toNat_lt
   have E:(((Sha.num r.reverse*256+c.toNat:Nat):Int)/256)=(Sha.num r.reverse:Nat):=by omega
   have I:(((Sha.num r.reverse*256+c.toNat:Nat):Int)%256).toNat=c.toNat:=by omega
   rw[E,I,ih]
   simp
 have:=key l.reverse
 rw[List.reverse_reverse,List.length_reverse]at this
 exact this
def Q7(t:List UInt8):List Bool:=(qm 256).map (Uf t)
theorem bitsAll_len(t:List UInt8):(Q7 t).length=256:=by simp[Q7]
theorem U0(t:List UInt8)(i:Nat)(hi:i<256):(Q7 t).getD i false=Uf t i:=by
 unfold Q7
 rw[qh,List.getElem?_map,List.getElem?_range hi];rfl
theorem num8_lt(l:List UInt8)(h:l.length=8):Sha.num l<18446744073709551616:=by
 have:=Sha.num_lt l
 rw[h]at this
 exact this
theorem num_word(t:List UInt8)(ht:t.length=32)(j:Nat)(hj:j<4):Sha.num ((t.drop (8*j)).take 8)=Jj (Q7 t) j:=by
 obtain⟨l,hl⟩:∃l,l=(t.drop (8*j)).take 8:=⟨_,rfl⟩
 have E:l.length=8:=by rw[hl,qu,qi];omega
 have Z:=num8_lt l E
 have I:=num_fix l
 rw[E]at I
 rw[←hl]
 apply qB
 intro k
 by_cases hk:k<64
 ·rw[Qz _ _ _ hk,U0 _ _ (by omega)]
  unfold Uf
  have O:8*((64*j+k)/64)+7-(64*j+k)%64/8=8*j+(7-k/8):=by omega
  have Y:t.getD (8*j+(7-k/8)) 0=l.getD (7-k/8) 0:=by
   rw[hl]
   simp only[qh]
   rw[qH,if_pos (by omega),List.getElem?_drop]
  have U:(l.getD (7-k/8) 0).toNat=Sha.num l/256^(k/8)%256:=by
   have h:=UR (Sha.num l) 8 (7-k/8) (by omega)
   rw[I]at h
   rw[h]
   congr 3
   omega
  rw[O,Y,U,show(64*j+k)%8=k%8 by omega,show(256:Nat)=2^8 by decide,←Nat.pow_mul,qJ,qI,show k%8+8*(k/8)=k by omega]
  simp[qC]
 ·rw[XB _ _ _ (by omega)]
  refine Nat.testBit_lt_two_pow (Nat.lt_of_lt_of_le Z ?_)
  rw[show(18446744073709551616:Nat)=2^64 by decide]
  exact qO (by decide) (by omega)
theorem wordB_take(l:List Bool)(i j:Nat):Jj (l.take (64*i)) j=if j<i then Jj l j else 0:=by
 apply qB
 intro k
 by_cases hk:k<64
 ·rw[Qz _ _ _ hk]
  simp only[qh,qH]
  by_cases hj:j<i
  ·rw[if_pos hj,if_pos (by omega),Qz _ _ _ hk,qh]
  ·rw[if_neg hj,if_neg (by omega)]
   simp
 ·rw[XB _ _ _ (by omega)]
  split
  ·rw[XB _ _ _ (by omega)]
  ·simp
theorem raw_step(n:Nat)(l:List Bool)(i:Nat)(hi:i<4):(JX n (l.take (64*i))).set (1+i) (.int .u64 (Jj l i:Nat))=JX n (l.take (64*(i+1))):=by
 have w:=fun i j=>wordB_take l i j
 unfold JX
 rw[w i 0,w i 1,w i 2,w i 3,w (i+1) 0,w (i+1) 1,w (i+1) 2,w (i+1) 3]
 rcases(by omega:i=0∨i=1∨i=2∨i=3)with rfl|rfl|rfl|rfl<;>rfl
theorem raw_zero(n:Nat)(l:List Bool):JX n (l.take (64*0))=[.int .i64 (n:Nat),.int .u64 0,.int .u64 0,.int .u64 0,.int .u64 0]:=by
 unfold JX
 simp only[Nat.mul_zero,List.take_zero,wordB_nil]
 rfl
theorem setV_raw(l:List Bool):Xm l=rawV l.length l:=rfl
theorem words_same{l m:List Bool}(h:∀i,i<256→l.getD i false=m.getD i false)(j:Nat)(hj:j<4):Jj l j=Jj m j:=by
 apply qB
 intro k
 by_cases hk:k<64
 ·rw[Qz _ _ _ hk,Qz _ _ _ hk,h _ (by omega)]
 ·rw[XB _ _ _ (by omega),XB _ _ _ (by omega)]
theorem take_within(n:Nat)(t:List UInt8):QN (Q7 t) (qd n true) 256= !((qm 256).any fun i=>Uf t i&&decide (n≤i)):=by
 rw[qF,Bool.not_eq_true',←Bool.not_eq_true,List.any_eq_true]
 unfold QN
 rw[qv]
 have O:∀i,(qd n true).getD i false=decide (i<n):=fun i=>by
  rw[qh,List.getElem?_replicate]
  by_cases h:i<n<;>simp[h]
 constructor
 ·rintro h ⟨i,hi,hb⟩
  have E:=h i hi
  rw[qp]at hi
  rw[U0 _ _ hi,O]at E
  simp only[qo,decide_eq_true_eq]at hb
  rw[hb.1,decide_eq_false (by omega)]at E
  cases E
 ·intro h i hi
  have I:=qp.1 hi
  rw[U0 _ _ I,O]
  by_cases hb:Uf t i=true
  ·by_cases hn:i<n
   ·simp[hn]
   ·exact absurd ⟨i,hi,by rw[hb];simp;omega⟩ h
  ·simp[hb]
theorem take_good{n:Nat}(hn:n≤256){t:List UInt8}(h:QN (Q7 t) (qd n true) 256=true):rawV n (Q7 t)=Xm ((qm n).map (Uf t)):=by
 have hw:=fun j hj=>words_same (l:=Q7 t) (m:=(qm n).map (Uf t)) (fun i hi=>by
  rw[U0 _ _ hi]
  unfold QN at h
  rw[qv]at h
  have E:=h i (qp.2 hi)
  rw[U0 _ _ hi]at E
  simp only[qh,List.getElem?_map]
  by_cases hin:i<n
  ·rw[List.getElem?_range hin];rfl
  ·rw[qy (by simp;omega)]
   rw[qh,List.getElem?_replicate,if_neg hin]at E
   simpa using E) j hj
 unfold rawV JX Xm setCells
 rw[hw 0 (by decide),hw 1 (by decide),hw 2 (by decide),hw 3 (by decide),List.length_map,List.length_range]
theorem stake_spec(n:Nat)(hn:n≤256)(t:List UInt8)(ht:t.length=32)(m:Mem):
 Abs.Spec qc 94 [.int .i64 (n:Nat),.string (str t)] m fun u M=>u=.tuple #[Xm (QH n t).1,.int .i64 (QH n t).2]∧More m M:=by
 refine Abs.Spec.walkM Tryz.func94 (by rfl) _ Tryz.results94 _ Tryz.ntmps94 (by simp) ?_
 intro hc hx k
 have ab:Qa qc 43=some (.cells false (J6 qc 43) (setCells [])):=al_Set
 generalize J6 qc 43=s1 at ab
 have aX:Qj qc 43 [(0,.int .i64 (n:Nat))]=some (rawV n ((Q7 t).take (64*0))):=by
  unfold rawV
  rw[raw_zero]
  kernel_rfl
 have av:Qj qc 43 []=some (Xm []):=by kernel_rfl
 have q1:decide ((n:Int)<0)=false:=decide_eq_false (by omega)
 have q2:decide ((n:Int)>256)=false:=decide_eq_false (by omega)
 have q3:(((t.length:Nat):Int) !=32)=false:=by rw[ht];rfl
 have aJ:JC (str t)=t.length:=rfl
 have row:∀n l,Ju 5 0 (some (.cells false s1 (JX n l)))=some (rawV n l):=fun n l=>rfl
 have E:∀l,Ju 5 0 (some (.cells false s1 (setCells l)))=some (Xm l):=fun l=>rfl
 have aq:∀n l,(rawV n l).cells.toList=JX n l:=fun n l=>rfl
 have Z:∀l,(Xm l).cells.toList=setCells l:=fun l=>rfl
 have aU:∀(M0:Mem)(b:Nat)(L:List Bool)(n:Nat)(l:List Bool),Ji 5 M0 b 0 (JX n l) (some (.cells false s1 (setCells L)))=some (M0.set b (some (.cells false s1 (JX n l)))):=fun _ _ _ _ _=>rfl
 have U:∀(M0:Mem)(b:Nat)(L l:List Bool),Ji 5 M0 b 0 (setCells l) (some (.cells false s1 (setCells L)))=some (M0.set b (some (.cells false s1 (setCells l)))):=fun _ _ _ _=>rfl
 obtain⟨M1,ae⟩:∃M1,M1=m.push (.cells false s1 (setCells [])):=⟨_,rfl⟩
 obtain⟨Y,aE⟩:∃b,b=m.size:=⟨_,rfl⟩
 have bk:M1.size=m.size+1:=by rw[ae,Mem.size_push]
 have aQ:M1.get Y=some (.cells false s1 (setCells [])):=by rw[ae,aE,Mem.get_push_new]
 have aW:More m M1:=by rw[ae];exact More.push _ _
 refine J0 (J1 ?_)
 simp only[zZ,reduceIte,yQ,yW,yX,yZ,yJ,yK,yV,zDk,ab]
 rw[←ae,←aE]
 refine J0 (J0 (J1 ?_))
 simp only[zZ,reduceIte,yQ,yW,yX,yZ,yJ,yK,yV,zDk,q1,q2]
 refine Qd false (by rfl) (fun h=>by cases h) (fun _=>J3 ?_)
 simp only[zZ,reduceIte,yQ,yW,yX,yZ,yJ,yK,yV]
 refine J0 (J0 (J1 ?_))
 simp only[zZ,reduceIte,yQ,yW,yX,yZ,yJ,yK,yV,zDk,aJ,q3]
 refine Qd false (by rfl) (fun h=>by cases h) (fun _=>J3 ?_)
 simp only[zZ,reduceIte,yQ,yW,yX,yZ,yJ,yK,yV]
 refine J0 (J1 ?_)
 simp only[zZ,reduceIte,yQ,yW,yX,yZ,yJ,yK,yV,zDk,aX,ab,Mem.get_push_new,aq,aU]
 obtain⟨b6,ax⟩:∃b,b=M1.size:=⟨_,rfl⟩
 have aH:Y≠b6:=by omega
 obtain⟨M2,ad⟩:∃M2,M2=(M1.push (.cells false s1 (setCells []))).set M1.size (some (.cells false s1 (JX n ((Q7 t).take (64*0))))):=⟨_,rfl⟩
 rw[←ad,←ax]
 have aM:M2.get b6=some (.cells false s1 (JX n ((Q7 t).take (64*0)))):=by rw[ad,ax];exact Mem.get_set_same (Mem.get_push_new _ _) _
 have al:∀b x,M1.get b=some x→M2.get b=some x:=fun b x hb=>by
  have:=Mem.get_lt hb
  rw[ad,Mem.get_set_ne (by omega),Mem.get_push_old this];exact hb
 have hs2:M2.size=M1.size+1:=by rw[ad,Mem.size_set,Mem.size_push]
 have aN:=al _ _ aQ
 refine QB (fun f M'=>f=[(0,.int .i64 (n:Nat)),(4,.pointer (some ⟨Y,0,none⟩)),(6,.pointer (some ⟨b6,0,none⟩))]∧M'.get Y=some (.cells false s1 (setCells []))∧M'.get b6=some (.cells false s1 (JX n (Q7 t)))∧(∀b x,m.get b=some x→M'.get b=some x)∧M2.size≤M'.size) ?_ ?_
 ·refine J0 (J1 ?_)
  simp only[zZ,reduceIte,yQ,yW,yX,yZ,yJ,yK,yV,zDk]
  refine J7 (Jr (fun j f M'=>∃i:Nat,j=4-i∧f=[(0,.int .i64 (n:Nat)),(1,.string (str (t.drop (8*i)))),(4,.pointer (some ⟨Y,0,none⟩)),(6,.pointer (some ⟨b6,0,none⟩)),(26,.int .i64 (i:Nat))]∧i≤4∧M'.get Y=some (.cells false s1 (setCells []))∧M'.get b6=some (.cells false s1 (JX n ((Q7 t).take (64*i))))∧(∀b x,m.get b=some x→M'.get b=some x)∧M2.size≤M'.size) 4 ?_ ?_)
  ·refine⟨[0,1,4,6,26],?_⟩
   simp only[zZ,reduceIte,yQ,yW,yX,yZ,yJ,yK,yV,keepF]
   exact⟨M2,tR _,0,rfl,rfl,by omega,aN,aM,fun b x hb=>al b x (aW.get b x hb),Nat.le_refl _⟩
  ·rintro j f M' ⟨i,rfl,rfl,hi,k4,k6,ko,ks⟩
   refine J0 (J1 ?_)
   simp only[zZ,reduceIte,yQ,yW,yX,yZ,yJ,yK,yV,zDk]
   refine J0 (Qd (decide ((i:Int)<4)) (by rfl) (fun O=>J3 ?_) (fun O=>Jn ?_))
   ·have aL:=of_decide_eq_true O
    have z0:(0:Int)≤(i:Int):=by omega
    have z4:(i:Int)<((4:Nat):Int):=by omega
    have w9:IntKind.i64.wrap ((i:Int)+1)=((i+1:Nat):Int):=by rw[Xn (by omega) (by omega)];omega
    have aS:=num_word t ht i (by omega)
    have bf:=Vb (Q7 t) i
    have wu:IntKind.u64.wrap (Uy (Sha.num ((t.drop (8*i)).take 8)))=((Jj (Q7 t) i:Nat):Int):=by
     rw[aS]
     have h1:=wr64_mod (Jj (Q7 t) i)
     have h2:IntKind.u64.wrap (Uy (Jj (Q7 t) i))=Uy (Jj (Q7 t) i)%18446744073709551616:=by
      unfold IntKind.wrap;simp[IntKind.bits,IntKind.signed]
     rw[h2,h1];omega
    have aV:(t.drop (8*i)).drop 8=t.drop (8*(i+1)):=by rw[qS];congr 1
    have sp:=raw_step n (Q7 t) i (by omega)
    have aB:Ji 1 M' b6 (1+i) [.int .u64 ((Jj (Q7 t) i:Nat):Int)] (some (.cells false s1 (JX n ((Q7 t).take (64*i)))))=some (M'.set b6 (some (.cells false s1 (JX n ((Q7 t).take (64*(i+1))))))):=by
     simp only[Ji]
     rw[if_pos ⟨rfl,by show 1+i+1≤5;omega,rfl⟩,←sp]
     rfl
    simp only[zZ,reduceIte,yQ,yW,yX,yZ,yJ,yK,yV]
    refine J0 (J7 (J0 (J1 ?_)))
    simp only[zZ,reduceIte,yQ,yW,yX,yZ,yJ,yK,yV,zDk]
    refine J0 (J1 ?_)
    simp only[zZ,reduceIte,yQ,yW,yX,yZ,yJ,yK,yV,zDk]
    refine⟨by kernel_rfl,_,take8_at (t.drop (8*i)) (by rw[qi];omega) (by rw[qi];omega) M',?_⟩
    rintro _ M9 ⟨rfl,I⟩;replace I:=I.symm;subst I
    simp only[zZ,reduceIte,yQ,yW,yX,yZ,yJ,yK,yV,zDk]
    refine J1 ?_
    simp only[zZ,reduceIte,yQ,yW,yX,yZ,yJ,yK,yV,zDk,wu,k6,z0,z4,and_self,qj,aB,aV]
    refine J1 ?_
    simp only[zZ,reduceIte,yQ,yW,yX,yZ,yJ,yK,yV,zDk,w9]
    refine⟨[0,1,4,6,26],?_⟩
    simp only[zZ,reduceIte,yQ,yW,yX,yZ,yJ,yK,yV,keepF]
    refine⟨_,tR _,4-(i+1),⟨i+1,rfl,rfl,by omega,by rw[Mem.get_set_ne (Ne.symm aH)];exact k4,Mem.get_set_same k6 _,fun b x hb=>by
     have:=Mem.get_lt hb
     rw[Mem.get_set_ne (by omega)];exact ko b x hb,by rw[Mem.size_set];exact ks⟩,by omega⟩
   ·have aL:=of_decide_eq_false O
    obtain rfl:i=4:=by omega
    rw[qt (by rw[bitsAll_len];decide)]at k6
    refine⟨[0,4,6],?_⟩
    simp only[zZ,reduceIte,yQ,yW,yX,yZ,yJ,yK,yV,keepF]
    exact⟨_,tR _,k4,k6,ko,ks⟩
 rintro _ M3 ⟨rfl,aw,aD,az,ba⟩
 have bg:M3.size=M3.size:=rfl
 refine J0 (J1 ?_)
 simp only[zZ,reduceIte,yQ,yW,yX,yZ,yJ,yK,yV,zDk]
 refine⟨by kernel_rfl,_,bnew_at n hn M3,?_⟩
 rintro _ M9 ⟨rfl,I⟩;replace I:=I.symm;subst I
 simp only[zZ,reduceIte,yQ,yW,yX,yZ,yJ,yK,yV,zDk,ab,Mem.get_push_new,Z,U]
 obtain⟨a8,ai⟩:∃b,b=M3.size:=⟨_,rfl⟩
 obtain⟨M5,af⟩:∃M5,M5=(M3.push (.cells false s1 (setCells []))).set M3.size (some (.cells false s1 (setCells (qd n false)))):=⟨_,rfl⟩
 rw[←af,←ai]
 have g5:M5.get a8=some (.cells false s1 (setCells (qd n false))):=by rw[af,ai];exact Mem.get_set_same (Mem.get_push_new _ _) _
 have a7:∀b x,M3.get b=some x→M5.get b=some x:=fun b x hb=>by
  have:=Mem.get_lt hb
  rw[af,Mem.get_set_ne (by omega),Mem.get_push_old this];exact hb
 have bc:M5.size=M3.size+1:=by rw[af,Mem.size_set,Mem.size_push]
 have l4:=Mem.get_lt aw
 have l6:=Mem.get_lt aD
 have ao:∀i,i<n→UA (qd i true++qd (n-i) false) ((i:Nat):Int)=qd (i+1) true++qd (n-(i+1)) false:=fun i hi=>by
  unfold UA
  rw[if_pos ⟨by omega,by simp;omega⟩,qj]
  rw[List.set_append_right _ _ (by simp)]
  rw[qN,Nat.sub_self]
  obtain⟨q,O⟩:∃q,n-i=q+1:=⟨n-i-1,by omega⟩
  rw[O,show n-(i+1)=q by omega,List.replicate_succ,List.set_cons_zero,List.replicate_succ',qe]
  rfl
 refine QB (fun f M'=>f=[(4,.pointer (some ⟨Y,0,none⟩)),(6,.pointer (some ⟨b6,0,none⟩)),(11,.pointer (some ⟨a8,0,none⟩))]∧M'.get Y=some (.cells false s1 (setCells []))∧M'.get b6=some (.cells false s1 (JX n (Q7 t)))∧M'.get a8=some (.cells false s1 (setCells (qd n true)))∧(∀b x,m.get b=some x→M'.get b=some x)∧M5.size≤M'.size) ?_ ?_
 ·refine J0 (J1 ?_)
  simp only[zZ,reduceIte,yQ,yW,yX,yZ,yJ,yK,yV,zDk]
  refine J7 (Jr (fun j f M'=>∃i:Nat,j=n-i∧f=[(4,.pointer (some ⟨Y,0,none⟩)),(6,.pointer (some ⟨b6,0,none⟩)),(11,.pointer (some ⟨a8,0,none⟩)),(44,.int .i64 (n:Nat)),(45,.int .i64 (i:Nat))]∧i≤n∧M'.get Y=some (.cells false s1 (setCells []))∧M'.get b6=some (.cells false s1 (JX n (Q7 t)))∧M'.get a8=some (.cells false s1 (setCells (qd i true++qd (n-i) false)))∧(∀b x,m.get b=some x→M'.get b=some x)∧M5.size≤M'.size) n ?_ ?_)
  ·refine⟨[4,6,11,44,45],?_⟩
   simp only[zZ,reduceIte,yQ,yW,yX,yZ,yJ,yK,yV,keepF]
   exact⟨M5,tR _,0,rfl,rfl,by omega,a7 _ _ aw,a7 _ _ aD,by simpa using g5,fun b x hb=>a7 b x (az b x hb),Nat.le_refl _⟩
  ·rintro j f M' ⟨i,rfl,rfl,hi,k4,k6,ac,ko,ks⟩
   refine J0 (J1 ?_)
   simp only[zZ,reduceIte,yQ,yW,yX,yZ,yJ,yK,yV,zDk]
   refine J0 (Qd (decide ((i:Int)<(n:Int))) (by rfl) (fun O=>J3 ?_) (fun O=>Jn ?_))
   ·have aG:=of_decide_eq_true O
    have w9:IntKind.i64.wrap ((i:Int)+1)=((i+1:Nat):Int):=by rw[Xn (by omega) (by omega)];omega
    have hw:=with_at (qd i true++qd (n-i) false) (by simp;omega) ((i:Nat):Int) M'
    rw[ao i (by omega)]at hw
    simp only[zZ,reduceIte,yQ,yW,yX,yZ,yJ,yK,yV]
    refine J0 (J7 (J0 (J1 ?_)))
    simp only[zZ,reduceIte,yQ,yW,yX,yZ,yJ,yK,yV,zDk]
    refine J1 ?_
    simp only[zZ,reduceIte,yQ,yW,yX,yZ,yJ,yK,yV,zDk,ac,E]
    refine⟨by kernel_rfl,_,hw,?_⟩
    rintro _ M9 ⟨rfl,I⟩;replace I:=I.symm;subst I
    simp only[zZ,reduceIte,yQ,yW,yX,yZ,yJ,yK,yV,zDk,ac,Z,U]
    refine J1 ?_
    simp only[zZ,reduceIte,yQ,yW,yX,yZ,yJ,yK,yV,zDk,w9]
    refine⟨[4,6,11,44,45],?_⟩
    simp only[zZ,reduceIte,yQ,yW,yX,yZ,yJ,yK,yV,keepF]
    refine⟨_,tR _,n-(i+1),⟨i+1,rfl,rfl,by omega,by rw[Mem.get_set_ne (by omega)];exact k4,by rw[Mem.get_set_ne (by omega)];exact k6,Mem.get_set_same ac _,fun b x hb=>by
     have:=Mem.get_lt hb
     rw[Mem.get_set_ne (by omega)];exact ko b x hb,by rw[Mem.size_set];exact ks⟩,by omega⟩
   ·have aG:=of_decide_eq_false O
    obtain rfl:i=n:=by omega
    refine⟨[4,6,11],?_⟩
    simp only[zZ,reduceIte,yQ,yW,yX,yZ,yJ,yK,yV,keepF]
    exact⟨_,tR _,k4,k6,by simpa using ac,ko,ks⟩
 rintro _ M6 ⟨rfl,g4,g6,aP,ah,b8⟩
 have ay:=take_within n t
 have aC:=within_at n n (Q7 t) (qd n true) M6
 have eS:Xm (qd n true)=rawV n (qd n true):=by rw[setV_raw,qN]
 rw[←eS]at aC
 obtain⟨S,hS⟩:∃S,S=QH n t:=⟨_,rfl⟩
 rw[←hS]
 unfold QH at hS
 refine J0 (J0 (J1 ?_))
 simp only[zZ,reduceIte,yQ,yW,yX,yZ,yJ,yK,yV,zDk,g6,aP,row,E]
 refine⟨by kernel_rfl,_,aC,?_⟩
 rintro _ M9 ⟨rfl,I⟩;replace I:=I.symm;subst I
 simp only[zZ,reduceIte,yQ,yW,yX,yZ,yJ,yK,yV,zDk]
 refine Qd (!QN (Q7 t) (qd n true) 256) (by rfl) (fun O=>J0 (J1 ?_)) (fun O=>J3 ?_)
 ·rw[ay,Bool.not_not]at O
  rw[if_pos O]at hS
  subst hS
  simp only[zZ,reduceIte,yQ,yW,yX,yZ,yJ,yK,yV,zDk,av,g4,Z,U]
  have gs:(M6.set Y (some (.cells false s1 (setCells [])))).get Y=some (.cells false s1 (setCells [])):=Mem.get_set_same g4 _
  refine QC ?_
  simp only[zZ,reduceIte,yQ,yW,yX,yZ,yJ,yK,yV,zDk,mEnd,sAnswer,sAnswer.sRes,Q4,gs,E]
  exact⟨_,tR _,fun b x hb=>by
   have:=Mem.get_lt hb
   rw[Mem.get_set_ne (by omega)];exact ah b x hb,by rw[Mem.size_set];omega⟩
 ·have a6:QN (Q7 t) (qd n true) 256=true:=by simpa using O
  have am:=a6
  rw[ay]at am
  rw[if_neg (by simpa using am)]at hS
  subst hS
  have eg:=take_good hn a6
  have ec:JX n (Q7 t)=setCells ((qm n).map (Uf t)):=by
   have:=congrArg (fun v=>v.cells.toList) eg
   exact this
  rw[ec]at g6
  simp only[zZ,reduceIte,yQ,yW,yX,yZ,yJ,yK,yV]
  refine J0 (J1 ?_)
  simp only[zZ,reduceIte,yQ,yW,yX,yZ,yJ,yK,yV,zDk,g6,g4,E,Z,U]
  have gs:(M6.set Y (some (.cells false s1 (setCells ((qm n).map (Uf t)))))).get Y=some (.cells false s1 (setCells ((qm n).map (Uf t)))):=Mem.get_set_same g4 _
  refine QC ?_
  simp only[zZ,reduceIte,yQ,yW,yX,yZ,yJ,yK,yV,zDk,mEnd,sAnswer,sAnswer.sRes,Q4,gs,E]
  exact⟨_,tR _,fun b x hb=>by
   have:=Mem.get_lt hb
   rw[Mem.get_set_ne (by omega)];exact ah b x hb,by rw[Mem.size_set];omega⟩
theorem setTake_flat(n:Nat)(t:List UInt8):flat 3 (.tuple #[Xm (QH n t).1,.int .i64 (QH n t).2])=true:=rfl
theorem stake_at(n:Nat)(hn:n≤256)(t:List UInt8)(ht:t.length=32)(m:Mem):
 Abs.Spec qc 94 [.int .i64 (n:Nat),.string (str t)] m fun u M=>u=.tuple #[Xm (QH n t).1,.int .i64 (QH n t).2]∧M=m:=
 Abs.Spec.of_empty (by intro x hx;simp at hx;rcases hx with rfl|rfl<;>rfl) (setTake_flat n t) ((stake_spec n hn t ht ⟨[]⟩).mono fun _ _ h=>h.1) m
theorem Vj(h:Header):h.check=0∨h.check=1:=by
 unfold Header.check
 repeat' split
 all_goals simp
theorem hcheck_at(h:Header)(m:Mem):Abs.Spec qc 66 [.agg h.cells.toArray] m fun u M=>u=.int .i64 h.check∧M=m:=
 Abs.Spec.of_flat (by intro x hx;simp at hx;subst hx;rfl) rfl fun w=>check_any h w
theorem hfields_at(h:Header)(hk:h.okP)(m:Mem):Abs.Spec qc 69 [.agg h.cells.toArray] m fun u M=>u=.string h.fields∧M=m:=
 Abs.Spec.of_flat (by intro x hx;simp at hx;subst hx;rfl) rfl fun w=>fields_any h (by have:=hk.2.2.1;omega) (by have:=hk.2.2.2.1;omega) w
theorem hverify_at(key:List UInt8)(hk:key.length≤140737488355200)(h:Header)(m:Mem):Abs.Spec qc 28 [.string (str key),.agg h.cells.toArray] m fun u M=>u=.int .i64 (h.verify key)∧M=m:=
 Abs.Spec.of_flat (by intro x hx;simp at hx;rcases hx with rfl|rfl<;>rfl) rfl fun w=>verify_any (str key) h w (by rw[str_size];exact hk)
def hdrTV(s:ByteArray):Value:=.tuple #[.agg (Vg s).1.cells.toArray,.int .i64 (Vg s).2]
theorem htakeAny_eq(s:ByteArray):htakeAny s=hdrTV s:=by
 unfold htakeAny htakeV hdrTV Vg
 by_cases h1:s.size=98
 ·by_cases h2:s.extract 0 4=⟨#[83,76,71,49]⟩
  ·by_cases h3:(Zz s).check=1
   ·rw[if_pos h1,if_pos h2,if_pos h3,if_neg (fun h=>h.2.2 h3)];rfl
   ·rw[if_pos h1,if_pos h2,if_neg h3,if_pos ⟨h1,h2,h3⟩];rfl
  ·rw[if_pos h1,if_neg h2,if_neg (fun h=>h2 h.2.1)];rfl
 ·rw[if_neg h1,if_neg (fun h=>h1 h.1)];rfl
theorem htake_at(s:ByteArray)(m:Mem):Abs.Spec qc 86 [.string s] m fun u M=>u=hdrTV s∧M=m:=
 Abs.Spec.of_flat (by intro x hx;simp at hx;subst hx;rfl) rfl fun w=>by rw[←htakeAny_eq];exact htake_any s w
theorem Km{h:Header}(hk:h.okP):(JR h).length=98:=by
 have E:=h.fields_size
 obtain⟨_,_,a,b,c,_⟩:=hk
 unfold JR
 rw[qf]
 show h.fields.size+h.tag.size=98
 omega
def putT(h:Header):ByteArray:=if h.check=0 then str (JR h)else⟨#[]⟩
theorem hput_spec(h:Header)(m:Mem):
 Abs.Spec qc 129 [.agg h.cells.toArray] m fun u M=>u=.tuple #[.string (putT h),.int .i64 h.check]∧More m M:=by
 refine K5 Tryz.func129 Tryz.results129 Tryz.ntmps129 fun hc hx k=>?_
 have bx:QO qc 34 (.agg h.cells.toArray)=some (.cells false (J6 qc 34) h.cells):=bx_Hdr _ rfl
 generalize J6 qc 34=s1 at bx
 have row:Ju 7 0 (some (.cells false s1 h.cells))=some (.agg h.cells.toArray):=rfl
 have k6:cellIn 6 (some (.cells false s1 h.cells))=some (.string h.tag):=rfl
 have Y:((0:Int) !=0)=false:=rfl
 have Z:((1:Int) !=0)=true:=rfl
 have mo:=More.push m (.cells false s1 h.cells)
 refine J0 (R1 @bx ?_)
 refine J0 (J0 (R2 @Mem.get_push_new @row ?_))
 refine K0 (hcheck_at h _) ?_
 obtain⟨r,I⟩:∃r,r=putT h:=⟨_,rfl⟩
 rw[←I]
 unfold putT at I
 rcases Vj h with e|e
 ·rw[if_pos e]at I
  have O:=h.check_zero.1 e
  have U:JC h.fields+JC h.tag≤4611686018427387904:=by
   have h1:=h.fields_size
   obtain⟨_,_,a,b,c,_⟩:=O
   show h.fields.size+h.tag.size≤_
   omega
  have E:bcat h.fields h.tag=r:=I.symm
  rw[e]
  refine J0 (R1 @Y ?_)
  refine CF (J3 ?_)
  simp only[zZ,reduceIte,yQ,yW,yX,yZ,yJ,yK,yV]
  refine J0 (D3 4 @Mem.get_push_new @row @k6 ?_)
  refine⟨by kernel_rfl,_,hfields_at h O _,?_⟩
  refine S3 @Mem.get_push_new @row @k6 ?_
  refine⟨U,?_⟩
  refine S1 @E ?_
  refine T0 ?_
  exact⟨_,tR _,mo⟩
 ·rw[if_neg (by rw[e];decide)]at I
  rw[e]
  refine J0 (R1 @Z ?_)
  refine CT (J0 (R0 ?_))
  refine T0 ?_
  exact⟨_,tR _,by rw[I],mo⟩
theorem hput_at(h:Header)(m:Mem):
 Abs.Spec qc 129 [.agg h.cells.toArray] m fun u M=>u=.tuple #[.string (putT h),.int .i64 h.check]∧M=m:=
 Abs.Spec.of_empty (by intro x hx;simp at hx;subst hx;rfl) rfl ((hput_spec h ⟨[]⟩).mono fun _ _ h=>h.1) m
def Ext.checkI(x:Ext):Int:=if JE x=true then 0 else 1
theorem checkI_of(x:Ext):x.checkI=if decide (x.head.check≠0)||decide (x.base<0)||decide (x.base>1024-x.head.n)then 1 else 0:=by
 unfold Ext.checkI JE Header.may
 by_cases h1:x.head.check=0<;>by_cases h2:x.base<0<;>by_cases h3:x.base>1024-x.head.n<;>simp[h1,h2,h3]<;>omega
theorem okP_n2{h:Header}(hk:h.okP):1≤h.n∧h.n≤257:=by
 obtain⟨_,_,_,_,_,I,h2,E,_⟩:=hk
 omega
theorem ccheck_spec(x:Ext)(m:Mem):
 Abs.Spec qc 88 [.agg x.cells.toArray] m fun u M=>u=.int .i64 x.checkI∧More m M:=by
 refine K5 Tryz.func88 Tryz.results88 Tryz.ntmps88 fun hc hx k=>?_
 have Z:QO qc 85 (.agg x.cells.toArray)=some (.cells false (J6 qc 85) x.cells):=Kv _ rfl
 generalize J6 qc 85=s1 at Z
 have row:Ju 7 0 (some (.cells false s1 x.cells))=some (.agg x.head.cells.toArray):=rfl
 have U:cellIn 7 (some (.cells false s1 x.cells))=some (.int .i64 x.base):=rfl
 have k2:cellIn 2 (some (.cells false s1 x.cells))=some (.int .i64 x.head.n):=rfl
 have I:((0:Int) !=0)=false:=rfl
 have Y:((1:Int) !=0)=true:=rfl
 have O:=More.push m (.cells false s1 x.cells)
 obtain⟨r,E⟩:∃r,r=x.checkI:=⟨_,rfl⟩
 rw[←E]
 rw[checkI_of]at E
 refine J0 (R1 @Z ?_)
 refine J0 (J0 (R2 @Mem.get_push_new @row ?_))
 refine K0 (hcheck_at x.head _) ?_
 rcases Vj x.head with e|e
 case inr=>
  rw[e]at E ⊢
  refine S2 @Y @U ?_
  obtain rfl:r=1:=by rw[E];rfl
  refine CT (J0 (R0 ?_))
  refine T0 ?_
  exact⟨_,tR _,O⟩
 have hn:=okP_n2 (x.head.check_zero.1 e)
 have w1:IntKind.i64.wrap (1024-x.head.n)=1024-x.head.n:=Xn (by omega) (by omega)
 rw[e]at E ⊢
 cases p1:decide (x.base<0)
 case true=>
  refine S4 @I @U @Mem.get_push_new @p1 ?_
  obtain rfl:r=1:=by rw[E,p1];rfl
  refine CT (J0 (R0 ?_))
  refine T0 ?_
  exact⟨_,tR _,O⟩
 refine S6 @I @U @k2 @Mem.get_push_new @p1 @w1 ?_
 rw[p1]at E
 refine CC (decide (x.base>1024-x.head.n)) (fun h=>J0 (J1 ?_)) (fun h=>J3 ?_)
 ·obtain rfl:r=1:=by rw[E,h];rfl
  refine S0 ?_
  refine T0 ?_
  exact⟨_,tR _,O⟩
 ·obtain rfl:r=0:=by rw[E,h];rfl
  simp only[zZ,reduceIte,yQ,yW,yX,yZ,yJ,yK,yV]
  refine J0 (R0 ?_)
  refine T0 ?_
  exact⟨_,tR _,O⟩
theorem ccheck_at(x:Ext)(m:Mem):
 Abs.Spec qc 88 [.agg x.cells.toArray] m fun u M=>u=.int .i64 x.checkI∧M=m:=
 Abs.Spec.of_empty (by intro x hx;simp at hx;subst hx;rfl) rfl ((ccheck_spec x ⟨[]⟩).mono fun _ _ h=>h.1) m
theorem Ki{x:Ext}(h:JE x=true):x.head.okP∧0≤x.base∧x.base≤1024-x.head.n:=by
 unfold JE Header.may at h
 simp only[qo,decide_eq_true_eq]at h
 exact⟨x.head.check_zero.1 h.1.1,h.1.2,h.2⟩
theorem cmeet_spec(x y:Ext)(hx:JE x=true)(hy:JE y=true)(m:Mem):
 Abs.Spec qc 90 [.agg x.cells.toArray,.agg y.cells.toArray] m fun u M=>u=.bool (meets x y)∧More m M:=by
 obtain⟨a1,a2,a3⟩:=Ki hx
 obtain⟨b1,b2,b3⟩:=Ki hy
 have a4:=okP_n2 a1
 have b4:=okP_n2 b1
 have U:IntKind.i64.wrap (y.base+y.head.n)=y.base+y.head.n:=Xn (by omega) (by omega)
 have w2:IntKind.i64.wrap (x.base+x.head.n)=x.base+x.head.n:=Xn (by omega) (by omega)
 clear a1 a2 a3 b1 b2 b3 a4 b4 hx hy
 refine K5 Tryz.func90 Tryz.results90 Tryz.ntmps90 fun hc hx k=>?_
 have bx:∀x:Ext,QO qc 85 (.agg x.cells.toArray)=some (.cells false (J6 qc 85) x.cells):=fun x=>Kv _ rfl
 generalize J6 qc 85=s1 at bx
 have k7:∀x:Ext,cellIn 7 (some (.cells false s1 x.cells))=some (.int .i64 x.base):=fun _=>rfl
 have Y:∀x:Ext,cellIn 2 (some (.cells false s1 x.cells))=some (.int .i64 x.head.n):=fun _=>rfl
 obtain⟨I,E⟩:∃I,I=(m.push (.cells false s1 x.cells)).push (.cells false s1 y.cells):=⟨_,rfl⟩
 have O:More m I:=by rw[E];exact(More.push _ _).trans (More.push _ _)
 have gx:I.get m.size=some (.cells false s1 x.cells):=by rw[E,Mem.get_push_old (by rw[Mem.size_push];omega),Mem.get_push_new]
 have Z:I.get (m.size+1)=some (.cells false s1 y.cells):=by rw[E,←Mem.size_push m (.cells false s1 x.cells),Mem.get_push_new]
 refine J0 (R2 @bx @Mem.size_push ?_)
 rw[←E]
 refine J0 (J1 ?_)
 cases p1:decide (x.base<y.base+y.head.n)
 case false=>
  refine S7 @gx @Z @k7 @Y @U @w2 @p1 ?_
  refine T0 ?_
  exact⟨_,tR _,by unfold meets;rw[p1];rfl,O⟩
 refine S7 @gx @Z @k7 @Y @U @w2 @p1 ?_
 refine T0 ?_
 exact⟨_,tR _,by unfold meets;rw[p1];rfl,O⟩
theorem cmeet_at(x y:Ext)(hx:JE x=true)(hy:JE y=true)(m:Mem):
 Abs.Spec qc 90 [.agg x.cells.toArray,.agg y.cells.toArray] m fun u M=>u=.bool (meets x y)∧M=m:=
 Abs.Spec.of_empty (by intro x hx;simp at hx;rcases hx with rfl|rfl<;>rfl) rfl ((cmeet_spec x y hx hy ⟨[]⟩).mono fun _ _ h=>h.1) m
def extT(x:Ext):ByteArray:=if JE x=true then str (Jy x)else⟨#[]⟩
theorem cput_spec(x:Ext)(m:Mem):
 Abs.Spec qc 102 [.agg x.cells.toArray] m fun u M=>u=.tuple #[.string (extT x),.int .i64 x.checkI]∧More m M:=by
 refine K5 Tryz.func102 Tryz.results102 Tryz.ntmps102 fun hc hx k=>?_
 have bx:QO qc 85 (.agg x.cells.toArray)=some (.cells false (J6 qc 85) x.cells):=Kv _ rfl
 generalize J6 qc 85=s1 at bx
 have U:Ju 8 0 (some (.cells false s1 x.cells))=some (.agg x.cells.toArray):=rfl
 have row:Ju 7 0 (some (.cells false s1 x.cells))=some (.agg x.head.cells.toArray):=rfl
 have k7:cellIn 7 (some (.cells false s1 x.cells))=some (.int .i64 x.base):=rfl
 have a2:((0:Int) !=0)=false:=rfl
 have a7:((1:Int) !=0)=true:=rfl
 have mo:=More.push m (.cells false s1 x.cells)
 obtain⟨r,E⟩:∃r,r=extT x:=⟨_,rfl⟩
 rw[←E]
 refine J0 (R1 @bx ?_)
 refine J0 (J0 (R2 @Mem.get_push_new @U ?_))
 refine K0 (ccheck_at x _) ?_
 unfold extT at E
 by_cases hm:JE x=true
 ·have e:x.checkI=0:=by unfold Ext.checkI;rw[if_pos hm]
  rw[if_pos hm]at E
  rw[e]
  have O:=(Ki hm).1
  have e0:=x.head.check_zero.2 O
  have ep:putT x.head=str (JR x.head):=by unfold putT;rw[if_pos e0]
  have hl:=Km O
  have Y:JC (str markC)+JC (str (JR x.head))≤4611686018427387904:=by
   show 4+(JR x.head).length≤_
   omega
  have Z:bcat (str markC) (str (JR x.head))=str (markC++JR x.head):=rfl
  have I:JC (str (markC++JR x.head))+JC (str (Sha.fixed x.base 2))≤4611686018427387904:=by
   show(markC++JR x.head).length+(Sha.fixed x.base 2).length≤_
   rw[qf,Sha.fixed_length,hl]
   decide
  have a6:bcat (str (markC++JR x.head)) (str (Sha.fixed x.base 2))=r:=E.symm
  refine J0 (R1 @a2 ?_)
  refine CF (J3 ?_)
  simp only[zZ,reduceIte,yQ,yW,yX,yZ,yJ,yK,yV]
  refine J0 (R2 @Mem.get_push_new @row ?_)
  refine K1 @ep (hput_at x.head _) ?_
  refine J0 (R0 ?_)
  refine⟨Y,?_⟩
  refine S2 @Mem.get_push_new @k7 ?_
  refine K0 (Kq x.base 2 (by omega) (by omega) _) ?_
  refine⟨I,?_⟩
  refine T0 ?_
  exact⟨_,tR _,by rw[E];rfl,mo⟩
 ·have e:x.checkI=1:=by unfold Ext.checkI;rw[if_neg hm]
  rw[if_neg hm]at E
  rw[e]
  refine J0 (R1 @a7 ?_)
  refine CT (J0 (R0 ?_))
  refine T0 ?_
  exact⟨_,tR _,by rw[E],mo⟩
theorem cput_at(x:Ext)(m:Mem):
 Abs.Spec qc 102 [.agg x.cells.toArray] m fun u M=>u=.tuple #[.string (extT x),.int .i64 x.checkI]∧M=m:=
 Abs.Spec.of_empty (by intro x hx;simp at hx;subst hx;rfl) rfl ((cput_spec x ⟨[]⟩).mono fun _ _ h=>h.1) m
theorem hdrT_02(s:ByteArray):(Vg s).2=0∨(Vg s).2=2:=by unfold Vg;split<;>simp
theorem htake_at2(s:ByteArray)(m:Mem):Abs.Spec qc 86 [.string s] m fun u M=>u=.tuple #[.agg (Vg s).1.cells.toArray,.int .i64 (Vg s).2]∧M=m:=htake_at s m
theorem prefix4(s p:List UInt8)(hp:p.length=4)(hs:4≤s.length):Lib.hasPrefix s p=decide (s.take 4=p):=by
 rw[←Lib.hasPrefix_of_take,hp,decide_eq_true hs,qD]
 rw[qF]
 simp
def catTV(s:List UInt8):Value:=.tuple #[.agg (Xf s).1.cells.toArray,.int .i64 (Xf s).2]
theorem ctake_spec(s:List UInt8)(hs:s.length=256)(m:Mem):
 Abs.Spec qc 43 [.string (str s)] m fun u M=>u=catTV s∧More m M:=by
 refine K5 Tryz.func43 Tryz.results43 Tryz.ntmps43 fun hc hx k=>?_
 have al:Qa qc 85=some (.cells false (J6 qc 85) noExt.cells):=al_Ext
 generalize J6 qc 85=s1 at al
 have ae:Qa qc 34=some (.cells false (J6 qc 34) noHead.cells):=al_Hdr
 generalize J6 qc 34=s2 at ae
 have Y:Qj qc 85 []=some (.agg noExt.cells.toArray):=by kernel_rfl
 have aQ:∀(h:Header)(b:Int),Qj qc 85 [(0,.agg h.cells.toArray),(1,.int .i64 b)]=some (.agg (Ext.mk h b).cells.toArray):=fun h b=>by kernel_rfl
 have E:∀x:Ext,Ju 8 0 (some (.cells false s1 x.cells))=some (.agg x.cells.toArray):=fun _=>rfl
 have aB:∀h:Header,Ju 7 0 (some (.cells false s2 h.cells))=some (.agg h.cells.toArray):=fun _=>rfl
 have I:∀x:Ext,(Value.agg x.cells.toArray).cells.toList=x.cells:=fun _=>rfl
 have az:∀h:Header,(Value.agg h.cells.toArray).cells.toList=h.cells:=fun _=>rfl
 have O:∀(M0:Mem)(b:Nat)(x y:Ext),Ji 8 M0 b 0 y.cells (some (.cells false s1 x.cells))=some (M0.set b (some (.cells false s1 y.cells))):=fun _ _ _ _=>rfl
 have au:∀(M0:Mem)(b:Nat)(x y:Header),Ji 7 M0 b 0 y.cells (some (.cells false s2 x.cells))=some (M0.set b (some (.cells false s2 y.cells))):=fun _ _ _ _=>rfl
 have aD:((0:Int) !=0)=false:=rfl
 have aF:((1:Int) !=0)=true:=rfl
 have aH:((2:Int) !=0)=true:=rfl
 have aR:JC (str s)=256:=hs
 have ql:decide ((((256:Nat):Int))<104)=false:=rfl
 obtain⟨r,U⟩:∃r,r=Xf s:=⟨_,rfl⟩
 have hv:catTV s=.tuple #[.agg r.1.cells.toArray,.int .i64 r.2]:=by rw[U];rfl
 rw[hv]
 clear hv
 unfold Xf at U
 obtain⟨M1,aa⟩:∃M1,M1=m.push (.cells false s1 noExt.cells):=⟨_,rfl⟩
 obtain⟨b2,ay⟩:∃b,b=m.size:=⟨_,rfl⟩
 have bb:M1.size=m.size+1:=by rw[aa,Mem.size_push]
 have g2:M1.get b2=some (.cells false s1 noExt.cells):=by rw[aa,ay,Mem.get_push_new]
 have ac:More m M1:=by rw[aa];exact More.push _ _
 have a8:∀(M:Mem)(x y:Ext),M.get b2=some (.cells false s1 y.cells)→More m M→(M.set b2 (some (.cells false s1 x.cells))).get b2=some (.cells false s1 x.cells)∧More m (M.set b2 (some (.cells false s1 x.cells))):=fun M x y hg hm=>
  ⟨Mem.get_set_same hg _,fun b z hb=>by
   have:=Mem.get_lt hb
   rw[Mem.get_set_ne (by omega)];exact hm.get b z hb,by rw[Mem.size_set];exact hm.size⟩
 refine J0 (R1 @al ?_)
 rw[←aa,←ay]
 refine J0 (R0 ?_)
 refine K0 (cutPrefix_spec (str s) _ _) ?_
 refine J0 (J7 (J0 (R0 ?_)))
 refine⟨by kernel_rfl,_,UB (str s) 0 (by decide) (by show s.length≤_;omega) _,?_⟩
 rintro _ M9 ⟨rfl,e9⟩;replace e9:=e9.symm;subst e9
 have aG:Lib.trimB (str s).data.toList 0=JN s:=rfl
 rw[aG]
 refine S1 @beq_nilS ?_
 refine CC (decide (JN s=[])) (fun h=>J0 (J1 ?_)) (fun h=>?_)
 ·rw[if_pos (of_decide_eq_true h)]at U
  subst U
  refine S4 @Y @g2 @I @O ?_
  obtain⟨gs,ms⟩:=a8 M1 noExt noExt g2 ac
  refine T3 @Q4 @gs @E ?_
  exact⟨_,tR _,ms⟩
 rw[if_neg (of_decide_eq_false h)]at U
 have ah:Lib.hasPrefix (str s).data.toList [83,76,67,49]=decide (s.take 4=markC):=prefix4 s markC rfl (by omega)
 have aK:Lib.trimB (str (s.drop 104)).data.toList 0=JN (s.drop 104):=rfl
 have ao:∀get,Q1 qc get 9 (.string (str s)) (some (.int .i64 104)) none=some (.string (str (s.drop 104))):=fun get=>ZL get s 104 (by omega)
 have b7:(s.drop 104).length=152:=by rw[qi,hs]
 rw[ah]
 cases hm:decide (s.take 4=markC)
 case false=>
  rw[if_pos (.inl (of_decide_eq_false hm))]at U
  subst U
  refine J0 (R0 ?_)
  refine CT (J0 (R4 @Y @g2 @I @O ?_))
  obtain⟨gs,ms⟩:=a8 M1 noExt noExt g2 ac
  refine T3 @Q4 @gs @E ?_
  exact⟨_,tR _,ms⟩
 have aN:=of_decide_eq_true hm
 have aI:Lib.trimPrefix (str s).data.toList [83,76,67,49]=s.drop 4:=by
  unfold Lib.trimPrefix
  rw[ah,hm]
  rfl
 rw[aI]
 refine J0 (R3 @aR @ql @ao ?_)
 refine⟨by kernel_rfl,_,UB (str (s.drop 104)) 0 (by decide) (by show(s.drop 104).length≤_;omega) _,?_⟩
 rintro _ M9 ⟨rfl,e9⟩;replace e9:=e9.symm;subst e9
 rw[aK]
 refine S1 @beq_nilS ?_
 refine CC (!decide (JN (s.drop 104)=[])) (fun h2=>J0 (J1 ?_)) (fun h2=>J3 ?_)
 ·rw[if_pos (.inr (of_decide_eq_false (by simpa using h2)))]at U
  subst U
  refine S4 @Y @g2 @I @O ?_
  obtain⟨gs,ms⟩:=a8 M1 noExt noExt g2 ac
  refine T3 @Q4 @gs @E ?_
  exact⟨_,tR _,ms⟩
 have aO:JN (s.drop 104)=[]:=by simpa using h2
 rw[if_neg (by rintro(h3|h3);exact h3 aN;exact h3 aO)]at U
 have b5:(s.drop 4).length=252:=by rw[qi,hs]
 have av:∀get,Q1 qc get 9 (.string (str (s.drop 4))) none (some (.int .i64 98))=some (.string (str (QL s 4 98))):=fun get=>Zp get (str (s.drop 4)) 98 (by rw[str_size];omega)
 have ak:∀get,Q1 qc get 9 (.string (str (s.drop 4))) (some (.int .i64 98)) none=some (.string (str (s.drop 102))):=fun get=>by
  have:=ZL get (s.drop 4) 98 (by omega)
  rw[qS]at this
  exact this
 have aJ:(s.drop 102).length=154:=by rw[qi,hs]
 have tk:=fun m=>take_spec (str (s.drop 102)) 2 (by decide) (by decide) (by rw[str_size];omega) (by rw[str_size];omega) m
 have aP:Sha.num ((str (s.drop 102)).data.toList.take 2)=Sha.num (QL s 102 2):=rfl
 have Z:=hdrT_02 (str (QL s 4 98))
 have hT:=fun m=>htake_at2 (str (QL s 4 98)) m
 obtain⟨H,hH⟩:∃H,H=(Vg (str (QL s 4 98))).1:=⟨_,rfl⟩
 obtain⟨e,he⟩:∃e,e=(Vg (str (QL s 4 98))).2:=⟨_,rfl⟩
 obtain⟨n,hn⟩:∃n:Int,n=(Sha.num (QL s 102 2):Nat):=⟨_,rfl⟩
 rw[←hH,←he,←hn]at U
 rw[←he]at Z
 simp only[←hH,←he]at hT
 simp only[aP,←hn]at tk
 simp only[zZ,reduceIte,yQ,yW,yX,yZ,yJ,yK,yV]
 refine J0 (R1 @av ?_)
 refine K4 @ae @Mem.get_push_new @az @au (hT _) ?_
 obtain⟨b6,ar⟩:∃b,b=M1.size:=⟨_,rfl⟩
 obtain⟨M2,ab⟩:∃M2,M2=(M1.push (.cells false s2 noHead.cells)).set M1.size (some (.cells false s2 H.cells)):=⟨_,rfl⟩
 rw[←ab,←ar]
 have g6:M2.get b6=some (.cells false s2 H.cells):=by rw[ab,ar];exact Mem.get_set_same (Mem.get_push_new _ _) _
 have aC:More M1 M2:=⟨fun b x hb=>by
  have:=Mem.get_lt hb
  rw[ab,Mem.get_set_ne (by omega),Mem.get_push_old this];exact hb,by rw[ab,Mem.size_set,Mem.size_push];omega⟩
 refine J0 (R1 @ak ?_)
 refine K0 (tk _) ?_
 refine J0 (R7 @g6 @aB @aQ @al @Mem.get_push_new @I @O ?_)
 obtain⟨aS,af⟩:∃b,b=M2.size:=⟨_,rfl⟩
 obtain⟨M3,ad⟩:∃M3,M3=(M2.push (.cells false s1 noExt.cells)).set M2.size (some (.cells false s1 (Ext.mk H n).cells)):=⟨_,rfl⟩
 rw[←ad,←af]
 have ax:M3.get aS=some (.cells false s1 (Ext.mk H n).cells):=by rw[ad,af];exact Mem.get_set_same (Mem.get_push_new _ _) _
 have aA:More M2 M3:=⟨fun b x hb=>by
  have:=Mem.get_lt hb
  rw[ad,Mem.get_set_ne (by omega),Mem.get_push_old this];exact hb,by rw[ad,Mem.size_set,Mem.size_push];omega⟩
 have a7:=aA.get _ _ (aC.get _ _ g2)
 have mo:=(ac.trans aC).trans aA
 obtain⟨aq,aE⟩:=a8 M3 noExt noExt a7 mo
 obtain⟨gs,ms⟩:=a8 M3 (Ext.mk H n) noExt a7 mo
 refine J0 (J0 (J1 ?_))
 rcases Z with Z|Z
 case inr=>
  rw[if_pos (.inl (by rw[Z];decide))]at U
  rw[Z]
  subst U
  refine S1 @aH ?_
  refine CT (J0 (R4 @Y @a7 @I @O ?_))
  refine T3 @Q4 @aq @E ?_
  exact⟨_,tR _,aE⟩
 rw[Z]at U ⊢
 refine S3 @aD @ax @E ?_
 refine⟨by kernel_rfl,_,ccheck_at (Ext.mk H n) _,?_⟩
 rintro _ M9 ⟨rfl,e9⟩;replace e9:=e9.symm;subst e9
 by_cases hq:JE (Ext.mk H n)=true
 ·have ec:(Ext.mk H n).checkI=0:=by unfold Ext.checkI;rw[if_pos hq]
  rw[if_neg (by rintro(h3|h3);exact h3 rfl;rw[hq]at h3;cases h3)]at U
  subst U
  rw[ec]
  refine S1 @aD ?_
  refine CF (J3 ?_)
  simp only[zZ,reduceIte,yQ,yW,yX,yZ,yJ,yK,yV]
  refine J0 (R5 @ax @E @a7 @I @O ?_)
  refine T3 @Q4 @gs @E ?_
  exact⟨_,tR _,ms⟩
 ·have ec:(Ext.mk H n).checkI=1:=by unfold Ext.checkI;rw[if_neg hq]
  rw[if_pos (.inr (by simpa using hq))]at U
  subst U
  rw[ec]
  refine S1 @aF ?_
  refine CT (J0 (R4 @Y @a7 @I @O ?_))
  refine T3 @Q4 @aq @E ?_
  exact⟨_,tR _,aE⟩
theorem ctake_at(s:List UInt8)(hs:s.length=256)(m:Mem):
 Abs.Spec qc 43 [.string (str s)] m fun u M=>u=.tuple #[.agg (Xf s).1.cells.toArray,.int .i64 (Xf s).2]∧M=m:=
 Abs.Spec.of_empty (by intro x hx;simp at hx;subst hx;rfl) rfl ((ctake_spec s hs ⟨[]⟩).mono fun _ _ h=>h.1) m
theorem jblank_at(s:List UInt8)(hs:s.length≤1000000)(m:Mem):
 Abs.Spec qc 92 [.string (str s)] m fun u M=>u=.bool (decide (JN s=[]))∧M=m:=by
 refine K5 Tryz.func92 Tryz.results92 Tryz.ntmps92 fun hc hx k=>?_
 refine J0 (R0 ?_)
 refine J0 (R0 ?_)
 refine K1 @beq_nilS (UB (str s) 0 (by decide) (by show s.length≤_;omega) _) ?_
 refine T0 ?_
 exact⟨_,tR _,rfl,rfl⟩
def Rec.may(r:Rec):Bool:=JE r.x&&decide ((r.got.length:Int)=r.x.head.n)
def Rec.checkI(r:Rec):Int:=if r.may=true then 0 else 1
theorem rec_checkI_of(r:Rec):r.checkI=if decide (r.x.head.check≠0)||decide (r.x.base<0)||decide (r.x.base>1024-r.x.head.n)||((r.got.length:Int) !=r.x.head.n)then 1 else 0:=by
 unfold Rec.checkI Rec.may JE Header.may
 by_cases h1:r.x.head.check=0<;>by_cases h2:r.x.base<0<;>by_cases h3:r.x.base>1024-r.x.head.n<;>by_cases h4:(r.got.length:Int)=r.x.head.n<;>simp[h1,h2,h3,h4]<;>omega
theorem jcheck_spec(r:Rec)(m:Mem):
 Abs.Spec qc 95 [.agg r.cells.toArray] m fun u M=>u=.int .i64 r.checkI∧More m M:=by
 refine K5 Tryz.func95 Tryz.results95 Tryz.ntmps95 fun hc hx k=>?_
 have bx:QO qc 88 (.agg r.cells.toArray)=some (.cells false (J6 qc 88) r.cells):=bx_Rec _ rfl
 generalize J6 qc 88=s1 at bx
 have row:Ju 7 0 (some (.cells false s1 r.cells))=some (.agg r.x.head.cells.toArray):=rfl
 have O:Ju 5 8 (some (.cells false s1 r.cells))=some (Xm r.got):=rfl
 have k7:cellIn 7 (some (.cells false s1 r.cells))=some (.int .i64 r.x.base):=rfl
 have k2:cellIn 2 (some (.cells false s1 r.cells))=some (.int .i64 r.x.head.n):=rfl
 have I:((0:Int) !=0)=false:=rfl
 have aa:((1:Int) !=0)=true:=rfl
 obtain⟨M1,U⟩:∃M1,M1=m.push (.cells false s1 r.cells):=⟨_,rfl⟩
 have Z:More m M1:=by rw[U];exact More.push _ _
 have Y:M1.get m.size=some (.cells false s1 r.cells):=by rw[U,Mem.get_push_new]
 obtain⟨c,E⟩:∃c,c=r.checkI:=⟨_,rfl⟩
 rw[←E]
 rw[rec_checkI_of]at E
 refine J0 (R1 @bx ?_)
 rw[←U]
 have e0:∀(a:Bool),a=true→decide (r.x.head.check≠0)=a→c=1:=fun a h1 h2=>by rw[E,h2,h1];rfl
 rcases Vj r.x.head with e|e
 case inr=>
  refine J0 (J0 (D2 30 @Y @row ?_))
  refine⟨by kernel_rfl,_,hcheck_at r.x.head _,?_⟩
  rw[e]at E ⊢
  refine S2 @aa @k7 ?_
  obtain rfl:c=1:=by rw[E];rfl
  refine CT (J0 (R0 ?_))
  refine T0 ?_
  exact⟨_,tR _,Z⟩
 have hn:=Vq (r.x.head.check_zero.1 e)
 have w1:IntKind.i64.wrap (1024-r.x.head.n)=1024-r.x.head.n:=Xn (by omega) (by omega)
 refine J0 (J0 (D2 30 @Y @row ?_))
 refine⟨by kernel_rfl,_,hcheck_at r.x.head _,?_⟩
 rw[e]at E ⊢
 cases p1:decide (r.x.base<0)
 case true=>
  refine S4 @I @k7 @Y @p1 ?_
  obtain rfl:c=1:=by rw[E,p1];rfl
  refine CT (J0 (R0 ?_))
  refine T0 ?_
  exact⟨_,tR _,Z⟩
 cases p2:decide (r.x.base>1024-r.x.head.n)
 case true=>
  refine S7 @I @k7 @k2 @Y @p1 @w1 @p2 ?_
  obtain rfl:c=1:=by rw[E,p1,p2];rfl
  refine CT (J0 (R0 ?_))
  refine T0 ?_
  exact⟨_,tR _,Z⟩
 refine S8 @I @k7 @k2 @Y @p1 @w1 @p2 @O ?_
 rw[p1,p2]at E
 refine⟨by kernel_rfl,_,size_at r.got _,?_⟩
 refine S8 @I @k7 @k2 @Y @p1 @w1 @p2 @O ?_
 refine CC ((r.got.length:Int) !=r.x.head.n) (fun h=>J0 (J1 ?_)) (fun h=>J3 ?_)
 ·obtain rfl:c=1:=by rw[E,h];rfl
  refine S0 ?_
  refine T0 ?_
  exact⟨_,tR _,Z⟩
 ·obtain rfl:c=0:=by rw[E,h];rfl
  simp only[zZ,reduceIte,yQ,yW,yX,yZ,yJ,yK,yV]
  refine J0 (R0 ?_)
  refine T0 ?_
  exact⟨_,tR _,Z⟩
theorem jcheck_at(r:Rec)(m:Mem):
 Abs.Spec qc 95 [.agg r.cells.toArray] m fun u M=>u=.int .i64 r.checkI∧M=m:=
 Abs.Spec.of_empty (by intro x hx;simp at hx;subst hx;rfl) rfl ((jcheck_spec r ⟨[]⟩).mono fun _ _ h=>h.1) m
def recT(r:Rec):ByteArray:=if r.may=true then str (JY r)else⟨#[]⟩
theorem jput_spec(r:Rec)(m:Mem):
 Abs.Spec qc 73 [.agg r.cells.toArray] m fun u M=>u=.tuple #[.string (recT r),.int .i64 r.checkI]∧More m M:=by
 refine K5 Tryz.func73 Tryz.results73 Tryz.ntmps73 fun hc hx k=>?_
 have bx:QO qc 88 (.agg r.cells.toArray)=some (.cells false (J6 qc 88) r.cells):=bx_Rec _ rfl
 generalize J6 qc 88=s1 at bx
 have U:Ju 13 0 (some (.cells false s1 r.cells))=some (.agg r.cells.toArray):=rfl
 have row:Ju 7 0 (some (.cells false s1 r.cells))=some (.agg r.x.head.cells.toArray):=rfl
 have a2:Ju 5 8 (some (.cells false s1 r.cells))=some (Xm r.got):=rfl
 have k7:cellIn 7 (some (.cells false s1 r.cells))=some (.int .i64 r.x.base):=rfl
 have aa:((0:Int) !=0)=false:=rfl
 have ac:((1:Int) !=0)=true:=rfl
 obtain⟨M1,I⟩:∃M1,M1=m.push (.cells false s1 r.cells):=⟨_,rfl⟩
 have mo:More m M1:=by rw[I];exact More.push _ _
 have g1:M1.get m.size=some (.cells false s1 r.cells):=by rw[I,Mem.get_push_new]
 obtain⟨c,Y⟩:∃c,c=recT r:=⟨_,rfl⟩
 rw[←Y]
 refine J0 (R1 @bx ?_)
 rw[←I]
 refine J0 (J0 (R2 @g1 @U ?_))
 refine K0 (jcheck_at r _) ?_
 unfold recT at Y
 by_cases hm:r.may=true
 ·have e:r.checkI=0:=by unfold Rec.checkI;rw[if_pos hm]
  rw[if_pos hm]at Y
  rw[e]
  have ab:JE r.x=true:=by unfold Rec.may at hm;rw[qo]at hm;exact hm.1
  have Z:=(Ki ab).1
  have e0:=r.x.head.check_zero.2 Z
  have ep:putT r.x.head=str (JR r.x.head):=by unfold putT;rw[if_pos e0]
  have hl:=Km Z
  have a6:JC (str markJ)+JC (str (JR r.x.head))≤4611686018427387904:=by
   show 4+(JR r.x.head).length≤_
   omega
  have O:JC (str (markJ++JR r.x.head))+JC (str (Sha.fixed r.x.base 2))≤4611686018427387904:=by
   show(markJ++JR r.x.head).length+(Sha.fixed r.x.base 2).length≤_
   rw[qf,Sha.fixed_length,hl]
   decide
  have E:JC (str (markJ++JR r.x.head++Sha.fixed r.x.base 2))+JC (str (XO r.got))≤4611686018427387904:=by
   show(markJ++JR r.x.head++Sha.fixed r.x.base 2).length+(XO r.got).length≤_
   rw[qf,qf,Sha.fixed_length,hl,U6]
   decide
  refine J0 (R1 @aa ?_)
  refine CF (J3 ?_)
  simp only[zZ,reduceIte,yQ,yW,yX,yZ,yJ,yK,yV]
  refine J0 (R2 @g1 @row ?_)
  refine K1 @ep (hput_at r.x.head _) ?_
  refine J0 (D0 10 ?_)
  refine⟨a6,?_⟩
  refine S2 @g1 @k7 ?_
  refine⟨by kernel_rfl,_,Kq r.x.base 2 (by omega) (by omega) _,?_⟩
  refine S0 ?_
  refine⟨O,?_⟩
  refine S2 @g1 @a2 ?_
  refine⟨by kernel_rfl,_,sput_at r.got _,?_⟩
  refine S0 ?_
  refine⟨E,?_⟩
  refine T0 ?_
  exact⟨_,tR _,by rw[Y];rfl,mo⟩
 ·have e:r.checkI=1:=by unfold Rec.checkI;rw[if_neg hm]
  rw[if_neg hm]at Y
  rw[e]
  refine J0 (R1 @ac ?_)
  refine CT (J0 (R0 ?_))
  refine T0 ?_
  exact⟨_,tR _,by rw[Y],mo⟩
theorem jput_at(r:Rec)(m:Mem):
 Abs.Spec qc 73 [.agg r.cells.toArray] m fun u M=>u=.tuple #[.string (recT r),.int .i64 r.checkI]∧M=m:=
 Abs.Spec.of_empty (by intro x hx;simp at hx;subst hx;rfl) rfl ((jput_spec r ⟨[]⟩).mono fun _ _ h=>h.1) m
theorem setTake_02(n:Nat)(t:List UInt8):(QH n t).2=0∨(QH n t).2=2:=by unfold QH;split<;>simp
theorem setTake_len{n:Nat}{t:List UInt8}(h:(QH n t).2=0):(QH n t).1.length=n:=by
 unfold QH at h ⊢
 split at h
 ·exact absurd h (by decide)
 ·rename_i h2
  rw[if_neg h2];simp
theorem hdrT_ok{s:ByteArray}(h:(Vg s).2=0):(Vg s).1.okP:=by
 unfold Vg at h ⊢
 split at h
 ·rename_i h2
  rw[if_pos h2]
  exact(Zz s).check_zero.1 ((Vj _).resolve_right h2.2.2)
 ·exact absurd h (by decide)
theorem cutL_len{s:List UInt8}{a n:Nat}(h:a+n≤s.length):(QL s a n).length=n:=by
 unfold QL
 rw[qu,qi]
 omega
def jouTV(s:List UInt8):Value:=.tuple #[.agg (QR s).1.cells.toArray,.int .i64 (QR s).2]
theorem jtake_spec(s:List UInt8)(hs:s.length=256)(m:Mem):
 Abs.Spec qc 45 [.string (str s)] m fun u M=>u=jouTV s∧More m M:=by
 refine K5 Tryz.func45 Tryz.results45 Tryz.ntmps45 fun hc hx k=>?_
 have av:Qa qc 88=some (.cells false (J6 qc 88) noRec.cells):=al_Rec
 generalize J6 qc 88=s1 at av
 have ao:Qa qc 34=some (.cells false (J6 qc 34) noHead.cells):=al_Hdr
 generalize J6 qc 34=s2 at ao
 have ap:Qa qc 43=some (.cells false (J6 qc 43) (setCells [])):=al_Set
 generalize J6 qc 43=s3 at ap
 have Y:Qj qc 88 []=some (.agg noRec.cells.toArray):=by kernel_rfl
 have aJ:∀(h:Header)(b:Int),Qj qc 85 [(0,.agg h.cells.toArray),(1,.int .i64 b)]=some (.agg (Ext.mk h b).cells.toArray):=fun h b=>by kernel_rfl
 have bp:∀(x:Ext)(l:List Bool),Qj qc 88 [(0,.agg x.cells.toArray),(1,Xm l)]=some (.agg (Rec.mk x l).cells.toArray):=fun x l=>by kernel_rfl
 have E:∀x:Rec,Ju 13 0 (some (.cells false s1 x.cells))=some (.agg x.cells.toArray):=fun _=>rfl
 have aX:∀h:Header,Ju 7 0 (some (.cells false s2 h.cells))=some (.agg h.cells.toArray):=fun _=>rfl
 have aU:∀l,Ju 5 0 (some (.cells false s3 (setCells l)))=some (Xm l):=fun _=>rfl
 have k2:∀h:Header,cellIn 2 (some (.cells false s2 h.cells))=some (.int .i64 h.n):=fun _=>rfl
 have O:∀x:Rec,(Value.agg x.cells.toArray).cells.toList=x.cells:=fun _=>rfl
 have aL:∀h:Header,(Value.agg h.cells.toArray).cells.toList=h.cells:=fun _=>rfl
 have aT:∀l,(Xm l).cells.toList=setCells l:=fun _=>rfl
 have I:∀(M0:Mem)(b:Nat)(x y:Rec),Ji 13 M0 b 0 y.cells (some (.cells false s1 x.cells))=some (M0.set b (some (.cells false s1 y.cells))):=fun _ _ _ _=>rfl
 have aO:∀(M0:Mem)(b:Nat)(x y:Header),Ji 7 M0 b 0 y.cells (some (.cells false s2 x.cells))=some (M0.set b (some (.cells false s2 y.cells))):=fun _ _ _ _=>rfl
 have aG:∀(M0:Mem)(b:Nat)(x y:List Bool),Ji 5 M0 b 0 (setCells y) (some (.cells false s3 (setCells x)))=some (M0.set b (some (.cells false s3 (setCells y)))):=fun _ _ _ _=>rfl
 have ax:((0:Int) !=0)=false:=rfl
 have bf:((1:Int) !=0)=true:=rfl
 have aH:((2:Int) !=0)=true:=rfl
 have bb:JC (str s)=256:=hs
 have ql:decide ((((256:Nat):Int))<136)=false:=rfl
 obtain⟨r,U⟩:∃r,r=QR s:=⟨_,rfl⟩
 have hv:jouTV s=.tuple #[.agg r.1.cells.toArray,.int .i64 r.2]:=by rw[U];rfl
 rw[hv]
 clear hv
 unfold QR at U
 obtain⟨M1,ai⟩:∃M1,M1=m.push (.cells false s1 noRec.cells):=⟨_,rfl⟩
 obtain⟨b2,aQ⟩:∃b,b=m.size:=⟨_,rfl⟩
 have bH:M1.size=m.size+1:=by rw[ai,Mem.size_push]
 have g2:M1.get b2=some (.cells false s1 noRec.cells):=by rw[ai,aQ,Mem.get_push_new]
 have aj:More m M1:=by rw[ai];exact More.push _ _
 have a6:∀(M:Mem)(x y:Rec),M.get b2=some (.cells false s1 y.cells)→More m M→(M.set b2 (some (.cells false s1 x.cells))).get b2=some (.cells false s1 x.cells)∧More m (M.set b2 (some (.cells false s1 x.cells))):=fun M x y hg hm=>
  ⟨Mem.get_set_same hg _,fun b z hb=>by
   have:=Mem.get_lt hb
   rw[Mem.get_set_ne (by omega)];exact hm.get b z hb,by rw[Mem.size_set];exact hm.size⟩
 refine J0 (R1 @av ?_)
 rw[←ai,←aQ]
 refine J0 (J7 (J0 (R0 ?_)))
 refine K0 (jblank_at s (by omega) _) ?_
 refine CC (decide (JN s=[])) (fun h=>J0 (J1 ?_)) (fun h=>?_)
 ·rw[if_pos (of_decide_eq_true h)]at U
  subst U
  refine S4 @Y @g2 @O @I ?_
  obtain⟨gs,ms⟩:=a6 M1 noRec noRec g2 aj
  refine T3 @Q4 @gs @E ?_
  exact⟨_,tR _,ms⟩
 rw[if_neg (of_decide_eq_false h)]at U
 have aW:Lib.hasPrefix (str s).data.toList (ByteArray.mk #[83,76,74,49]).data.toList=decide (s.take 4=markJ):=prefix4 s markJ rfl (by omega)
 have aB:∀get,Q1 qc get 9 (.string (str s)) (some (.int .i64 136)) none=some (.string (str (s.drop 136))):=fun get=>ZL get s 136 (by omega)
 have bx:(s.drop 136).length=120:=by rw[qi,hs]
 have aS:=fun m=>hasPrefix_spec (str s) (ByteArray.mk #[83,76,74,49]) m
 rw[aW]at aS
 refine J0 (R2 @bb @ql ?_)
 refine⟨by kernel_rfl,_,aS _,?_⟩
 rintro _ M9 ⟨rfl,e9⟩;replace e9:=e9.symm;subst e9
 cases hm:decide (s.take 4=markJ)
 case false=>
  rw[if_pos (.inl (of_decide_eq_false hm))]at U
  subst U
  refine S0 ?_
  refine CT (J0 (R4 @Y @g2 @O @I ?_))
  obtain⟨gs,ms⟩:=a6 M1 noRec noRec g2 aj
  refine T3 @Q4 @gs @E ?_
  exact⟨_,tR _,ms⟩
 have ba:=of_decide_eq_true hm
 refine S1 @aB ?_
 refine K0 (jblank_at (s.drop 136) (by omega) _) ?_
 refine CC (!decide (JN (s.drop 136)=[])) (fun h2=>J0 (J1 ?_)) (fun h2=>J3 ?_)
 ·rw[if_pos (.inr (of_decide_eq_false (by simpa using h2)))]at U
  subst U
  refine S4 @Y @g2 @O @I ?_
  obtain⟨gs,ms⟩:=a6 M1 noRec noRec g2 aj
  refine T3 @Q4 @gs @E ?_
  exact⟨_,tR _,ms⟩
 have bo:JN (s.drop 136)=[]:=by simpa using h2
 rw[if_neg (by rintro(h3|h3);exact h3 ba;exact h3 bo)]at U
 have bE:(s.drop 4).length=252:=by rw[qi,hs]
 have bd:∀get,Q1 qc get 9 (.string (str s)) (some (.int .i64 4)) none=some (.string (str (s.drop 4))):=fun get=>ZL get s 4 (by omega)
 have aK:∀get,Q1 qc get 9 (.string (str (s.drop 4))) none (some (.int .i64 98))=some (.string (str (QL s 4 98))):=fun get=>Zp get (str (s.drop 4)) 98 (by rw[str_size];omega)
 have au:∀get,Q1 qc get 9 (.string (str (s.drop 4))) (some (.int .i64 98)) none=some (.string (str (s.drop 102))):=fun get=>by
  have:=ZL get (s.drop 4) 98 (by omega)
  rw[qS]at this
  exact this
 have bk:(s.drop 102).length=154:=by rw[qi,hs]
 have bi:(s.drop 104).length=152:=by rw[qi,hs]
 have am:∀get,Q1 qc get 9 (.string (str (s.drop 104))) none (some (.int .i64 32))=some (.string (str (QL s 104 32))):=fun get=>Zp get (str (s.drop 104)) 32 (by rw[str_size];omega)
 have tk:=fun m=>take_spec (str (s.drop 102)) 2 (by decide) (by decide) (by rw[str_size];omega) (by rw[str_size];omega) m
 have bh:Sha.num ((str (s.drop 102)).data.toList.take 2)=Sha.num (QL s 102 2):=rfl
 have bg:(str (s.drop 102)).data.toList.drop 2=s.drop 104:=by show(s.drop 102).drop 2=_;rw[qS]
 have Z:=hdrT_02 (str (QL s 4 98))
 have aq:=fun h=>hdrT_ok (s:=str (QL s 4 98)) h
 have hT:=fun m=>htake_at2 (str (QL s 4 98)) m
 have aR:(QL s 104 32).length=32:=cutL_len (by omega)
 obtain⟨H,hH⟩:∃H,H=(Vg (str (QL s 4 98))).1:=⟨_,rfl⟩
 obtain⟨e,he⟩:∃e,e=(Vg (str (QL s 4 98))).2:=⟨_,rfl⟩
 obtain⟨n,hn⟩:∃n:Int,n=(Sha.num (QL s 102 2):Nat):=⟨_,rfl⟩
 obtain⟨t,ht⟩:∃t,t=QL s 104 32:=⟨_,rfl⟩
 rw[←hH,←he,←hn,←ht]at U
 rw[←he]at Z
 rw[←hH,←he]at aq
 rw[←ht]at aR
 simp only[←hH,←he]at hT
 simp only[bh,bg,←hn]at tk
 simp only[←ht]at am
 simp only[zZ,reduceIte,yQ,yW,yX,yZ,yJ,yK,yV]
 refine J0 (R1 @bd ?_)
 refine J0 (R1 @aK ?_)
 refine K4 @ao @Mem.get_push_new @aL @aO (hT _) ?_
 obtain⟨b6,aI⟩:∃b,b=M1.size:=⟨_,rfl⟩
 obtain⟨M2,ae⟩:∃M2,M2=(M1.push (.cells false s2 noHead.cells)).set M1.size (some (.cells false s2 H.cells)):=⟨_,rfl⟩
 rw[←ae,←aI]
 have g6:M2.get b6=some (.cells false s2 H.cells):=by rw[ae,aI];exact Mem.get_set_same (Mem.get_push_new _ _) _
 have aY:More M1 M2:=⟨fun b x hb=>by
  have:=Mem.get_lt hb
  rw[ae,Mem.get_set_ne (by omega),Mem.get_push_old this];exact hb,by rw[ae,Mem.size_set,Mem.size_push];omega⟩
 have aC:=aY.get _ _ g2
 have aN:=aj.trans aY
 rcases Z with Z|Z
 case inr=>
  rw[if_pos (.inl (by rw[Z];decide))]at U
  rw[Z]
  subst U
  obtain⟨ac,ah⟩:=a6 M2 noRec noRec aC aN
  refine J0 (J0 (R1 @aH ?_))
  refine CT (J0 (R4 @Y @aC @O @I ?_))
  refine T3 @Q4 @ac @E ?_
  exact⟨_,tR _,ah⟩
 have be:=aq Z
 have bF:=Vq be
 obtain⟨q,hq⟩:∃q:Nat,H.n=(q:Int):=⟨H.n.toNat,by omega⟩
 have aM:=fun m=>stake_at q (by omega) t aR m
 have a2:=setTake_02 q t
 have al:=fun h=>setTake_len (n:=q) (t:=t) h
 rw[Z,hq,qj]at U
 obtain⟨L,hL⟩:∃L,L=(QH q t).1:=⟨_,rfl⟩
 obtain⟨e2,ab⟩:∃e,e=(QH q t).2:=⟨_,rfl⟩
 rw[←hL,←ab]at U
 rw[←ab]at a2
 rw[←ab,←hL]at al
 simp only[←hL,←ab]at aM
 rw[Z]
 refine J0 (J0 (R1 @ax ?_))
 refine CF (J3 ?_)
 simp only[zZ,reduceIte,yQ,yW,yX,yZ,yJ,yK,yV]
 refine J0 (R1 @au ?_)
 refine K0 (tk _) ?_
 refine J0 (CW_draw4 hmix 9 [7] (by kernel_rfl) ?_)
 simp only[sQB,Zy,List.getElem?_cons_succ,List.getElem?_cons_zero,Option.bind_some,zZ,reduceIte,yQ,yW,yX,yZ,yJ,yK,yV,zDk,Jc,Jb,J9,J8,g6,k2,hq,am]
 refine⟨by kernel_rfl,_,aM _,?_⟩
 simp only[sQB,Zy,List.getElem?_cons_succ,List.getElem?_cons_zero,Option.bind_some,zZ,reduceIte,yQ,yW,yX,yZ,yJ,yK,yV,zDk,Jc,Jb,J9,J8,ap,Mem.get_push_new,aT,aG]
 refine⟨⟨_,rfl,rfl⟩,?_⟩
 obtain⟨b9,aE⟩:∃b,b=M2.size:=⟨_,rfl⟩
 obtain⟨M3,ag⟩:∃M3,M3=(M2.push (.cells false s3 (setCells []))).set M2.size (some (.cells false s3 (setCells L))):=⟨_,rfl⟩
 rw[←ag,←aE]
 have g9:M3.get b9=some (.cells false s3 (setCells L)):=by rw[ag,aE];exact Mem.get_set_same (Mem.get_push_new _ _) _
 have aw:More M2 M3:=⟨fun b x hb=>by
  have:=Mem.get_lt hb
  rw[ag,Mem.get_set_ne (by omega),Mem.get_push_old this];exact hb,by rw[ag,Mem.size_set,Mem.size_push];omega⟩
 have b8:=aw.get _ _ g6
 have bq:=aw.get _ _ aC
 refine J0 (J1 ?_)
 simp only[zZ,reduceIte,yQ,yW,yX,yZ,yJ,yK,yV,zDk,Jc,Jb,J9,J8,b8,g9,aX,aU,aJ,bp,av,Mem.get_push_new,O,I]
 obtain⟨bj,an⟩:∃b,b=M3.size:=⟨_,rfl⟩
 obtain⟨M4,af⟩:∃M4,M4=(M3.push (.cells false s1 noRec.cells)).set M3.size (some (.cells false s1 (Rec.mk (Ext.mk H n) L).cells)):=⟨_,rfl⟩
 rw[←af,←an]
 have aF:M4.get bj=some (.cells false s1 (Rec.mk (Ext.mk H n) L).cells):=by rw[af,an];exact Mem.get_set_same (Mem.get_push_new _ _) _
 have aV:More M3 M4:=⟨fun b x hb=>by
  have:=Mem.get_lt hb
  rw[af,Mem.get_set_ne (by omega),Mem.get_push_old this];exact hb,by rw[af,Mem.size_set,Mem.size_push];omega⟩
 have a8:=aV.get _ _ bq
 have mo:=(aN.trans aw).trans aV
 obtain⟨ac,ah⟩:=a6 M4 noRec noRec a8 mo
 obtain⟨gs,ms⟩:=a6 M4 (Rec.mk (Ext.mk H n) L) noRec a8 mo
 refine J0 (J0 (J1 ?_))
 rcases a2 with a2|a2
 case inr=>
  rw[if_pos (.inr (.inr (by rw[a2];decide)))]at U
  rw[a2]
  subst U
  refine S1 @aH ?_
  refine CT (J0 (R4 @Y @a8 @O @I ?_))
  refine T3 @Q4 @ac @E ?_
  exact⟨_,tR _,ah⟩
 have bc:=al a2
 rw[a2]at U ⊢
 refine S3 @ax @aF @E ?_
 refine⟨by kernel_rfl,_,jcheck_at (Rec.mk (Ext.mk H n) L) _,?_⟩
 rintro _ M9 ⟨rfl,e9⟩;replace e9:=e9.symm;subst e9
 by_cases hq2:JE (Ext.mk H n)=true
 ·have ec:(Rec.mk (Ext.mk H n) L).checkI=0:=by
   unfold Rec.checkI Rec.may
   rw[if_pos]
   show(JE (Ext.mk H n)&&decide ((L.length:Int)=H.n))=true
   rw[hq2,hq,bc];simp
  rw[if_neg (by rintro(h3|h3|h3);exact h3 rfl;rw[hq2]at h3;cases h3;exact h3 rfl)]at U
  subst U
  rw[ec]
  refine S1 @ax ?_
  refine CF (J3 ?_)
  simp only[zZ,reduceIte,yQ,yW,yX,yZ,yJ,yK,yV]
  refine J0 (R5 @aF @E @a8 @O @I ?_)
  refine T3 @Q4 @gs @E ?_
  exact⟨_,tR _,ms⟩
 ·have ec:(Rec.mk (Ext.mk H n) L).checkI=1:=by
   unfold Rec.checkI Rec.may
   rw[if_neg]
   show¬(JE (Ext.mk H n)&&decide ((L.length:Int)=H.n))=true
   rw[qo]
   exact fun h=>hq2 h.1
  rw[if_pos (.inr (.inl (by simpa using hq2)))]at U
  subst U
  rw[ec]
  refine S1 @bf ?_
  refine CT (J0 (R4 @Y @a8 @O @I ?_))
  refine T3 @Q4 @ac @E ?_
  exact⟨_,tR _,ah⟩
theorem jtake_at(s:List UInt8)(hs:s.length=256)(m:Mem):
 Abs.Spec qc 45 [.string (str s)] m fun u M=>u=.tuple #[.agg (QR s).1.cells.toArray,.int .i64 (QR s).2]∧M=m:=
 Abs.Spec.of_empty (by intro x hx;simp at hx;subst hx;rfl) rfl ((jtake_spec s hs ⟨[]⟩).mono fun _ _ h=>h.1) m
end Go.Proofs.YthohbneadomgdaaGreatDoor
