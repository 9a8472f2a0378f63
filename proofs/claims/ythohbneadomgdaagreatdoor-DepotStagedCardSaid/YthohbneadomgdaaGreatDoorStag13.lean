import Derived.Test.YthohbneadomgdaaGreatDoorStag11
import Derived.Test.YthohbneadomgdaaGreatDoorStag12
import Derived.Test.YthohbneadomgdaaGreatDoorStag01
import Derived.Test.YthohbneadomgdaaGreatDoorStag08
import Derived.Test.YthohbneadomgdaaGreatDoorStag02
import Derived.Test.YthohbneadomgdaaGreatDoorStag09
import Derived.Lib.AtoiAllCases
import Derived.Lib.ItoaMem
import Derived.Test.YthohbneadomgdaaGreatDoorStag10
set_option linter.all false
set_option maxRecDepth 100000
set_option maxHeartbeats 16000000
open Nat renaming reduceLT→yQ,reduceEqDiff→yK,reduceAdd→yV,reduceSub→yY,reduceMul→yU
open Int renaming reduceToNat→yW,reduceLE→yX,reduceEq→yZ,reduceLT→yJ
open Go.Proofs.Tryz renaming prog→qd
open List renaming replicate→qe,append_assoc→qf,length_append→qh,getD_eq_getElem?_getD→qi,length_drop→qj,getElem?_eq_getElem→qo,range→qp,mem_range→qr,find?_cons→qt,take_of_length_le→qu,length_take→qv,all_eq_true→qw,getElem?_eq_none→qz,length_cons→qA,getElem?_eq_some_iff→qG,getElem?_take→qH,map_cons→qL,length_replicate→qN,drop_zero→qR,drop_drop→qS,all_cons→qT
open Int renaming toNat_natCast→qk,natCast_add→qy,natCast_pow→qE,eq_ofNat_of_zero_le→qK,fdiv→qQ
open Bool renaming and_eq_true→qq,true_and→qD,eq_iff_iff→qF
open Nat renaming div_add_mod→qx,eq_of_testBit_eq→qB,mod_lt→qC,testBit_div_two_pow→qI,testBit_mod_two_pow→qJ,and_le_right→qM,pow_le_pow_right→qO
open Array renaming length_toList→qP
namespace Go.Proofs.YthohbneadomgdaaGreatDoor
open Go.RowKit Abs
def Vs:List Bool→Nat
 | []=>0
 |b::r=>(if b then 1 else 0)+2*Vs r
theorem ofBits_lt:∀l:List Bool,Vs l<2^l.length
 | []=>by simp[Vs]
 |b::r=>by
  have:=ofBits_lt r
  simp only[Vs,qA,Nat.pow_succ]
  cases b<;>simp<;>omega
theorem ofBits_bit:∀(l:List Bool)(k:Nat),(Vs l).testBit k=l.getD k false
 | [],k=>by simp[Vs]
 |b::r,0=>by
  simp only[Vs,Nat.testBit_zero,List.getD_cons_zero]
  cases b<;>simp<;>omega
 |b::r,k+1=>by
  have ih:=ofBits_bit r k
  simp only[Vs,List.getD_cons_succ]
  rw[←ih,Nat.testBit_succ]
  congr 1
  cases b<;>simp<;>omega
def Jj(l:List Bool)(j:Nat):Nat:=Vs ((l.drop (64*j)).take 64)
theorem Vd(l:List Bool)(j:Nat):Jj l j<18446744073709551616:=by
 have h:=ofBits_lt ((l.drop (64*j)).take 64)
 have h2:((l.drop (64*j)).take 64).length≤64:=by rw[qv];omega
 have I:2^((l.drop (64*j)).take 64).length≤2^64:=qO (by decide) h2
 have E:(2:Nat)^64=18446744073709551616:=by decide
 unfold Jj
 omega
theorem Qx(l:List Bool)(j k:Nat)(hk:k<64):(Jj l j).testBit k=l.getD (64*j+k) false:=by
 unfold Jj
 rw[ofBits_bit]
 simp only[qi,qH,if_pos hk,List.getElem?_drop]
theorem XD(l:List Bool)(j k:Nat)(hk:64≤k):(Jj l j).testBit k=false:=by
 refine Nat.testBit_lt_two_pow (Nat.lt_of_lt_of_le (Vd l j) ?_)
 have E:(2:Nat)^64=18446744073709551616:=by decide
 rw[←E]
 exact qO (by decide) hk
theorem wordB_set(l:List Bool)(i j:Nat)(hi:i<l.length):Jj (l.set i true) j=if i/64=j then Jj l j|||2^(i%64)else Jj l j:=by
 apply qB
 intro k
 by_cases hk:k<64
 ·rw[Qx _ _ _ hk]
  simp only[qi,List.getElem?_set]
  by_cases hj:i/64=j
  ·rw[if_pos hj,Nat.testBit_or,Qx _ _ _ hk,Nat.testBit_two_pow]
   by_cases e:i=64*j+k
   ·rw[if_pos e,if_pos hi]
    have:i%64=k:=by omega
    simp[this]
   ·rw[if_neg e]
    have:¬i%64=k:=by omega
    simp[this]
  ·rw[if_neg hj,Qx _ _ _ hk]
   have e:¬i=64*j+k:=by omega
   rw[if_neg e]
   simp
 ·rw[XD _ _ _ (by omega)]
  by_cases hj:i/64=j
  ·rw[if_pos hj,Nat.testBit_or,XD _ _ _ (by omega),Nat.testBit_two_pow]
   have:¬i%64=k:=by omega
   simp[this]
  ·rw[if_neg hj,XD _ _ _ (by omega)]
theorem wordB_nil(j:Nat):Jj [] j=0:=by simp[Jj,Vs]
theorem ofBits_falses:∀n,Vs (qe n false)=0
 |0=>rfl
 |n+1=>by rw[List.replicate_succ,Vs,ofBits_falses n];rfl
theorem Vu(n j:Nat):Jj (qe n false) j=0:=by
 unfold Jj
 rw[List.drop_replicate,List.take_replicate,ofBits_falses]
def setCells(l:List Bool):List Value:=[.int .i64 (l.length:Nat),.int .u64 (Jj l 0:Nat),.int .u64 (Jj l 1:Nat),.int .u64 (Jj l 2:Nat),.int .u64 (Jj l 3:Nat)]
instance hdrDec:DecidableEq Header:=fun a b=>
 if h:a.id=b.id∧a.salt=b.salt∧a.n=b.n∧a.bytes=b.bytes∧a.raw=b.raw∧a.root=b.root∧a.tag=b.tag then .isTrue (by
  obtain⟨a0,a1,a2,a3,a4,a5,a6⟩:=a
  obtain⟨b0,b1,b2,b3,b4,b5,b6⟩:=b
  obtain⟨h0,h1,h2,h3,h4,h5,h6⟩:=h
  simp only at h0 h1 h2 h3 h4 h5 h6
  subst h0 h1 h2 h3 h4 h5 h6
  rfl)else .isFalse fun e=>h (by subst e;exact⟨rfl,rfl,rfl,rfl,rfl,rfl,rfl⟩)
structure Ext where
 head:Header
 base:Int
def Ext.cells(x:Ext):List Value:=x.head.cells++[.int .i64 x.base]
def noHead:Header:=⟨0,⟨#[]⟩,0,0,0,⟨#[]⟩,⟨#[]⟩⟩
def noExt:Ext:=⟨noHead,0⟩
structure Rec where
 x:Ext
 got:List Bool
def Rec.cells(r:Rec):List Value:=r.x.cells++setCells r.got
def noRec:Rec:=⟨noExt,[]⟩
theorem ext_len(x:Ext):x.cells.length=8:=rfl
def JC(x:Ext):Bool:=x.head.may&&decide (0≤x.base)&&decide (x.base≤1024-x.head.n)
def markC:List UInt8:=[83,76,67,49]
def markJ:List UInt8:=[83,76,74,49]
def JP(h:Header):List UInt8:=h.fields.data.toList++h.tag.data.toList
def JA(x:Ext):List UInt8:=markC++JP x.head++Sha.fixed x.base 2
def XP(l:List Bool):List UInt8:=Sha.fixed (Jj l 0:Nat) 8++Sha.fixed (Jj l 1:Nat) 8++Sha.fixed (Jj l 2:Nat) 8++Sha.fixed (Jj l 3:Nat) 8
def JW(r:Rec):List UInt8:=markJ++JP r.x.head++Sha.fixed r.x.base 2++XP r.got
def Vj(s:ByteArray):Header×Int:=if s.size=98∧s.extract 0 4=⟨#[83,76,71,49]⟩∧(Zy s).check≠1 then(Zy s,0)else(noHead,2)
def QK(s:List UInt8)(a n:Nat):List UInt8:=(s.drop a).take n
def Xd(s:List UInt8):Ext×Int:=
 if JL s=[]then(noExt,8)else if s.take 4≠markC∨JL (s.drop 104)≠ []then(noExt,2)else
 if(Vj (str (QK s 4 98))).2≠0∨JC ⟨(Vj (str (QK s 4 98))).1,(Sha.num (QK s 102 2):Nat)⟩=false then(noExt,2)else
 (⟨(Vj (str (QK s 4 98))).1,(Sha.num (QK s 102 2):Nat)⟩,0)
def Ui(t:List UInt8)(i:Nat):Bool:=(t.getD (8*(i/64)+7-i%64/8) 0).toNat.testBit (i%8)
def QD(n:Nat)(t:List UInt8):List Bool×Int:=if(qp 256).any (fun i=>Ui t i&&decide (n≤i))=true then([],2)else((qp n).map (Ui t),0)
def QQ(s:List UInt8):Rec×Int:=
 if JL s=[]then(noRec,8)else if s.take 4≠markJ∨JL (s.drop 136)≠ []then(noRec,2)else
 if(Vj (str (QK s 4 98))).2≠0∨JC ⟨(Vj (str (QK s 4 98))).1,(Sha.num (QK s 102 2):Nat)⟩=false∨(QD (Vj (str (QK s 4 98))).1.n.toNat (QK s 104 32)).2≠0 then(noRec,2)else
 (⟨⟨(Vj (str (QK s 4 98))).1,(Sha.num (QK s 102 2):Nat)⟩,(QD (Vj (str (QK s 4 98))).1.n.toNat (QK s 104 32)).1⟩,0)
def meets(x y:Ext):Bool:=decide (x.base<y.base+y.head.n)&&decide (y.base<x.base+x.head.n)
def VU(x y:Ext):Bool:=decide (y.head.id=x.head.id)||meets x y
def Qr(kept:List (Option Ext))(opn:List (Option Rec)):List Ext:=kept.filterMap id++(opn.filterMap id).map Rec.x
def Z4(key:List UInt8)(n:Nat)(places:List Ext)(x:Ext):Bool:=
 decide (x.head.verify key=0)&&decide (13≤x.base)&&decide (x.base+x.head.n≤(n:Int))&& !(places.any (VU x))
structure Dep where
 key:List UInt8
 epoch:Int
 opn:List (Option Rec)
 kept:List (Option Ext)
 staged:Int
def XK(d:Dsk)(key:List UInt8)(kept:List (Option Ext))(i:Nat):Option Ext:=
 if(Xd (d.sector (5+i))).2=0∧Z4 key d.old.length (Qr kept []) (Xd (d.sector (5+i))).1=true then some (Xd (d.sector (5+i))).1 else none
def Jp(d:Dsk)(key:List UInt8):Nat→List (Option Ext)
 |0=>qe 8 none
 |k+1=>(Jp d key k).set k (XK d key (Jp d key k) k)
def Xb(key:List UInt8)(kept:List (Option Ext))(d:Dsk)(opn:List (Option Rec))(i:Nat):Dsk×List (Option Rec)×Int:=
 if(QQ (d.sector (1+i))).2=0∧Z4 key d.old.length (Qr kept opn) (QQ (d.sector (1+i))).1.x=true then(d,opn.set i (some (QQ (d.sector (1+i))).1),0)else
 if(QQ (d.sector (1+i))).2≠8 then((d.write ((1+i:Nat):Int) []).1,opn,(d.write ((1+i:Nat):Int) []).2)else(d,opn,0)
def Jl(key:List UInt8)(kept:List (Option Ext))(d:Dsk):Nat→Dsk×List (Option Rec)×Int
 |0=>(d,qe 4 none,0)
 |k+1=>if(Jl key kept d k).2.2≠0 then Jl key kept d k else Xb key kept (Jl key kept d k).1 (Jl key kept d k).2.1 k
def openD(d:Dsk)(key:List UInt8):Dsk×Option Dep×Int:=
 if d.old.length<13 then(d,none,1)else if d.dead=true then(d,none,7)else
 if(Jl key (Jp d key 8) d 4).2.2≠0 then((Jl key (Jp d key 8) d 4).1,none,(Jl key (Jp d key 8) d 4).2.2)else
 if((Jl key (Jp d key 8) d 4).1.nextE 0).2.2≠0 then(((Jl key (Jp d key 8) d 4).1.nextE 0).1,none,((Jl key (Jp d key 8) d 4).1.nextE 0).2.2)else
 (((Jl key (Jp d key 8) d 4).1.nextE 0).1,some ⟨key,((Jl key (Jp d key 8) d 4).1.nextE 0).2.1,(Jl key (Jp d key 8) d 4).2.1,Jp d key 8,0⟩,0)
def Xo{α:Type}(p:α→Bool):List (Option α)→Nat→Option (Nat×α)
 | [],_=>none
 |some a::r,i=>if p a=true then some (i,a)else Xo p r (i+1)
 |none::r,i=>Xo p r (i+1)
def X3{α:Type}:List (Option α)→Nat→Option Nat
 | [],_=>none
 |none::_,i=>some i
 |some _::r,i=>X3 r (i+1)
def Zp{α:Type}(o:Option (Nat×α)):Int:=match o with|some (i,_)=>(i:Int)|none=> -1
def freeI(o:Option Nat):Int:=match o with|some i=>(i:Int)|none=> -1
def Dep.ext? (p:Dep)(id:Int):Option (Nat×Ext):=Xo (fun x:Ext=>decide (x.head.id=id)) p.kept 0
def Dep.rec? (p:Dep)(id:Int):Option (Nat×Rec):=Xo (fun r:Rec=>decide (r.x.head.id=id)) p.opn 0
def Dep.places(p:Dep):List Ext:=Qr p.kept p.opn
def Dep.headAt(p:Dep)(id:Int):Header×Bool×Int:=
 match p.ext? id with
 |some (_,x)=>(x.head,true,0)
 |none=>match p.rec? id with
  |some (_,r)=>(r.x.head,false,0)
  |none=>(noHead,false,8)
def Dep.got(p:Dep)(id:Int):List Bool×Int:=match p.rec? id with|some (_,r)=>(r.got,0)|none=>([],8)
def freeFor(at' n:Int)(l:List Ext):Bool:=l.all fun x=> !(decide (at'<x.base+x.head.n)&&decide (x.base-at'<n))
def roomGo(n:Int)(l:List Ext):Nat→Int→Option Int
 |0,_=>none
 |k+1,at'=>if freeFor at' n l=true then some at' else roomGo n l k (at'+1)
def roomV(lo hi n:Int)(l:List Ext):Option Int:=if n<1∨lo<0∨hi<lo then none else roomGo n l (hi-lo-n+1).toNat lo
def thenD{β:Type}(w:Dsk×Int)(bad:Dsk→Int→β)(ok:Dsk→β):β:=if w.2≠0 then bad w.1 w.2 else ok w.1
def Dep.begun(d:Dsk)(p:Dep)(h:Header)(i:Nat)(base:Int):Dsk×Dep×Int:=
 thenD (d.write ((1+i:Nat):Int) (JW ⟨⟨h,base⟩,qe h.n.toNat false⟩)) (fun d e=>(d,p,e)) fun d=>
 thenD d.sync (fun d e=>(d,p,e)) fun d=>
 (d,{ p with opn:=p.opn.set i (some ⟨⟨h,base⟩,qe h.n.toNat false⟩) },0)
def Dep.begin(d:Dsk)(p:Dep)(h:Header):Dsk×Dep×Int:=
 if d.dead=true then(d,p,7)else if h.verify p.key≠0 then(d,p,h.verify p.key)else
 if(p.headAt h.id).2.2=0 then(d,p,if(p.headAt h.id).1=h then 0 else 6)else
 match X3 p.opn 0 with
 |none=>(d,p,3)
 |some i=>match roomV 13 (d.old.length:Nat) h.n p.places with
  |none=>(d,p,13)
  |some base=>Dep.begun d p h i base
def Dep.staged1(d:Dsk)(p:Dep)(k:Nat)(r:Rec)(i:Int)(s:List UInt8):Dsk×Dep×Int:=
 thenD (d.write (r.x.base+i) s) (fun d e=>(d,p,e)) fun d=>
 thenD d.sync (fun d e=>(d,{ p with staged:=p.staged+1 },e)) fun d=>
 thenD (d.write ((1+k:Nat):Int) (JW { r with got:=r.got.set i.toNat true })) (fun d e=>(d,{ p with staged:=p.staged+1 },e)) fun d=>
 (d,{ p with staged:=p.staged+1,opn:=p.opn.set k (some { r with got:=r.got.set i.toNat true }) },0)
def Dep.stage(d:Dsk)(p:Dep)(id i:Int)(s:List UInt8):Dsk×Dep×Int:=
 if d.dead=true then(d,p,7)else
 match p.rec? id with
 |none=>(d,p,8)
 |some (k,r)=>
  if i<0∨r.x.head.n≤i then(d,p,10)else if s.length≠224 then(d,p,1)else if r.got.getD i.toNat false=true then(d,p,0)else
  Dep.staged1 d p k r i s
def XC(d:Dsk)(x:Ext):List (List UInt8)×Int:=if d.dead=true∧0<x.head.n then([],7)else((qp x.head.n.toNat).map fun i=>(d.sector (x.base.toNat+i)).take 224,0)
def X8(l:List (List UInt8)):List UInt8:=
 match l with
 | []=>Sha.sum []
 | [a]=>a
 |a::b::r=>Sha.sum (1::(X8 ((a::b::r).take (min (Sha.cut (r.length+2)) (r.length+1)))++X8 ((a::b::r).drop (max (Sha.cut (r.length+2)) 1))))
termination_by l.length
decreasing_by
 ·simp only[qv,qA];omega
 ·simp only[qj,qA];omega
def Ue(b:List UInt8):List UInt8:=Sha.sum (0::b)
def rootV(l:List (List UInt8)):List UInt8:=X8 (l.map Ue)
def Dep.keep(d:Dsk)(p:Dep)(i:Nat)(x:Ext):Dsk×Dep×Int:=
 thenD (d.write ((5+i:Nat):Int) (JA x)) (fun d e=>(d,p,e)) fun d=>
 thenD d.sync (fun d e=>(d,p,e)) fun d=>(d,{ p with kept:=p.kept.set i (some x) },0)
def Dep.commit(d:Dsk)(p:Dep)(id:Int):Dsk×Dep×Int:=
 if d.dead=true then(d,p,7)else
 match p.ext? id with
 |some _=>(d,p,0)
 |none=>match p.rec? id with
  |none=>(d,p,8)
  |some (k,r)=>
   if r.got.all (fun b=>b)=false then(d,p,9)else
   if str (rootV (XC d r.x).1)≠r.x.head.root then(d,p,11)else
   match X3 p.kept 0 with
   |none=>(d,p,3)
   |some i=>if(Dep.keep d p i r.x).2.2≠0 then Dep.keep d p i r.x else
    (((Dep.keep d p i r.x).1.write ((1+k:Nat):Int) []).1,{ (Dep.keep d p i r.x).2.1 with opn:=p.opn.set k none },((Dep.keep d p i r.x).1.write ((1+k:Nat):Int) []).2)
structure Arc where
 head:Header
 blocks:List (List UInt8)
def Dep.block1(d:Dsk)(x:Ext)(i:Int)(has:Bool):List UInt8×Int:=
 if i<0∨x.head.n≤i then([],10)else if has=false then([],9)else if d.dead=true then([],7)else((d.sector (x.base.toNat+i.toNat)).take 224,0)
def Dep.block(d:Dsk)(p:Dep)(id i:Int):List UInt8×Int:=
 match p.ext? id with
 |some (_,x)=>Dep.block1 d x i true
 |none=>match p.rec? id with
  |some (_,r)=>Dep.block1 d r.x i (r.got.getD i.toNat false)
  |none=>([],8)
def insHead(l:List Header)(h:Header):List Header:=match l with
 | []=>[h]
 |x::r=>if x.id≤h.id then x::insHead r h else h::x::r
def headsOf(l:List Header):List Header:=l.foldl insHead []
def Dep.keptL(p:Dep):List Header:=headsOf ((p.kept.filterMap id).map Ext.head)
def Je(d:Dsk):List Nat:=(qp d.old.length).filter fun i=>(Jt d.last i).isSome
def bitOf(bits:Int)(k:Nat):Bool:=decide (bits/2^(k%62)%2=1)
def Dsk.crash(d:Dsk)(bits:Int):Dsk:=
 { d with old:=d.old.mapIdx fun i o=>if bitOf bits ((Je d).idxOf i)=true then(Jt d.last i).getD o else o,last:=[],fuse:= -1,dead:=false }
def Dsk.setFuse(d:Dsk)(n:Int):Dsk:=if d.dead=true then d else { d with fuse:=max n (-1) }
structure Dep.Ok(p:Dep)(n:Nat):Prop where
 opn:p.opn.length=4
 kept:p.kept.length=8
 fitO:∀r,some r∈p.opn→r.x.head.verify p.key=0∧13≤r.x.base∧r.x.base+r.x.head.n≤(n:Int)∧(r.got.length:Int)=r.x.head.n
 fitK:∀x,some x∈p.kept→x.head.verify p.key=0∧13≤x.base∧x.base+x.head.n≤(n:Int)
end Go.Proofs.YthohbneadomgdaaGreatDoor
namespace Go.Proofs.YthohbneadomgdaaGreatDoor
def Vq(x k:Nat):Nat:=((qp k).filter x.testBit).length
theorem popc_succ(x k:Nat):Vq x (k+1)=Vq x k+(if x.testBit k then 1 else 0):=by
 unfold Vq
 rw[List.range_succ,List.filter_append,qh]
 congr 1
 cases h:x.testBit k<;>simp[h]
theorem popc_add(x a b:Nat):Vq x (a+b)=Vq x a+Vq (x/2^a) b:=by
 induction b with
 |zero=>simp[Vq]
 |succ b ih=>
  rw[←Nat.add_assoc,popc_succ,ih,popc_succ,qI,Nat.add_comm b a]
  omega
theorem popc_mod(x k:Nat):Vq (x%2^k) k=Vq x k:=by
 unfold Vq
 congr 1
 apply List.filter_congr
 intro i hi
 rw[qr]at hi
 rw[qJ]
 simp[hi]
def Kg(p:Nat):Nat→Nat
 |0=>0
 |n+1=>256*Kg p n+p
theorem and_byte(h b M p:Nat)(hb:b<256)(hp:p<256):(256*h+b)&&&(256*M+p)=256*(h&&&M)+(b&&&p):=by
 have E:((256*h+b)&&&(256*M+p))/2^8=h&&&M:=by
  rw[Nat.and_div_two_pow,show(256*h+b)/2^8=h by omega,show(256*M+p)/2^8=M by omega]
 have I:((256*h+b)&&&(256*M+p))%2^8=b&&&p:=by
  rw[Nat.and_mod_two_pow,show(256*h+b)%2^8=b by omega,show(256*M+p)%2^8=p by omega]
 have:=qx ((256*h+b)&&&(256*M+p)) (2^8)
 rw[E,I]at this
 omega
def sw1(n x:Nat):Nat:=(x/2&&&Kg 85 n)+(x&&&Kg 85 n)
def sw2(n x:Nat):Nat:=(x/4&&&Kg 51 n)+(x&&&Kg 51 n)
def sw3(n x:Nat):Nat:=(x/16+x)&&&Kg 15 n
theorem low1:∀(c:Fin 2)(b:Fin 256),(c.val*128+b.val/2)&&&85=b.val/2&&&85:=by decide+kernel
theorem low2:∀(c:Fin 4)(b:Fin 256),(c.val*64+b.val/4)&&&51=b.val/4&&&51:=by decide+kernel
theorem low3:∀(c:Fin 5)(b:Fin 69),(c.val*16+b.val/16+b.val)&&&15=(b.val/16+b.val)&&&15:=by decide+kernel
theorem sw1_step(n h b:Nat)(hb:b<256):sw1 (n+1) (256*h+b)=256*sw1 n h+((b/2&&&85)+(b&&&85)):=by
 have E:Kg 85 (n+1)=256*Kg 85 n+85:=rfl
 unfold sw1
 rw[E]
 rw[show(256*h+b)/2=256*(h/2)+(h%2*128+b/2) by omega,and_byte _ _ _ _ (by omega) (by decide),and_byte _ _ _ _ hb (by decide),low1 ⟨h%2,by omega⟩ ⟨b,hb⟩]
 simp only
 omega
theorem sw2_step(n h b:Nat)(hb:b<256):sw2 (n+1) (256*h+b)=256*sw2 n h+((b/4&&&51)+(b&&&51)):=by
 have E:Kg 51 (n+1)=256*Kg 51 n+51:=rfl
 unfold sw2
 rw[E]
 rw[show(256*h+b)/4=256*(h/4)+(h%4*64+b/4) by omega,and_byte _ _ _ _ (by omega) (by decide),and_byte _ _ _ _ hb (by decide),low2 ⟨h%4,by omega⟩ ⟨b,hb⟩]
 simp only
 omega
theorem sw3_step(n h b:Nat)(hb:b<69)(hh:h%16<5):sw3 (n+1) (256*h+b)=256*sw3 n h+((b/16+b)&&&15):=by
 have E:Kg 15 (n+1)=256*Kg 15 n+15:=rfl
 unfold sw3
 rw[E]
 rw[show(256*h+b)/16+(256*h+b)=256*(h/16+h)+(h%16*16+b/16+b) by omega,and_byte _ _ _ _ (by omega) (by decide),low3 ⟨h%16,hh⟩ ⟨b,hb⟩]
def by1(b:Nat):Nat:=(b/2&&&85)+(b&&&85)
def by2(b:Nat):Nat:=(by1 b/4&&&51)+(by1 b&&&51)
theorem by1_lt:∀b:Fin 256,by1 b.val<256:=by decide+kernel
theorem by2_lt:∀b:Fin 256,by2 b.val<69∧by2 b.val%16<5:=by decide+kernel
theorem by3_pop:∀b:Fin 256,(by2 b.val/16+by2 b.val)&&&15=Vq b.val 8:=by decide+kernel
theorem pop8_le:∀b:Fin 256,Vq b.val 8≤8:=by decide+kernel
def popS:Nat→Nat→Nat
 |0,_=>0
 |n+1,x=>256*popS n (x/256)+Vq (x%256) 8
theorem sw_all:∀(n x:Nat),x<256^n→sw2 n (sw1 n x)%16<5∧sw3 n (sw2 n (sw1 n x))=popS n x
 |0,x,hx=>by
  have:x=0:=by simpa using hx
  subst this
  exact⟨by decide,by decide⟩
 |n+1,x,hx=>by
  have hx':x/256<256^n:=Nat.div_lt_of_lt_mul (by rw[Nat.pow_succ]at hx;omega)
  obtain⟨h1,h2⟩:=sw_all n (x/256) hx'
  have hb:x%256<256:=qC _ (by decide)
  have e0:x=256*(x/256)+x%256:=by omega
  have e1:sw1 (n+1) x=256*sw1 n (x/256)+by1 (x%256):=by
   conv=>lhs;rw[e0]
   exact sw1_step n _ _ hb
  have O:=by1_lt ⟨x%256,hb⟩
  have I:sw2 (n+1) (sw1 (n+1) x)=256*sw2 n (sw1 n (x/256))+by2 (x%256):=by rw[e1];exact sw2_step n _ _ O
  have E:=by2_lt ⟨x%256,hb⟩
  simp only at E
  refine⟨by rw[I];omega,?_⟩
  rw[I,sw3_step n _ _ E.1 h1,h2,by3_pop ⟨x%256,hb⟩]
  rfl
theorem popS_pop:∀(n x:Nat),∃l:List Nat,l.length=n∧(∀c∈l,c≤8)∧popS n x=l.foldr (fun c a=>256*a+c) 0∧Vq x (8*n)=l.foldr (·+ ·) 0
 |0,x=>⟨[],rfl,fun c h=>by simp at h,rfl,rfl⟩
 |n+1,x=>by
  obtain⟨l,h1,h2,h3,h4⟩:=popS_pop n (x/256)
  have hb:x%256<256:=qC _ (by decide)
  refine⟨Vq (x%256) 8::l,by simp[h1],fun c hc=>?_,by simp[popS,h3],?_⟩
  ·rcases List.mem_cons.1 hc with rfl|hc
   ·exact pop8_le ⟨x%256,hb⟩
   ·exact h2 c hc
  ·have e:Vq x (8*(n+1))=Vq x 8+Vq (x/2^8) (8*n):=by rw[show 8*(n+1)=8+8*n by omega];exact popc_add x 8 (8*n)
   rw[e,show(2:Nat)^8=256 by decide,h4]
   have:=popc_mod x 8
   rw[show(2:Nat)^8=256 by decide]at this
   rw[List.foldr_cons,this]
def sw4(y:Nat):Nat:=y+y/256
def sw5(y:Nat):Nat:=sw4 y+sw4 y/65536
def sw6(y:Nat):Nat:=sw5 y+sw5 y/4294967296
theorem sw_end(x:Nat):sw6 (popS 8 x)%128=Vq x 64∧sw6 (popS 8 x)<9223372036854775808:=by
 obtain⟨l,Y,h2,O,E⟩:=popS_pop 8 x
 match l,Y with
 | [a,b,c,d,e,f,g,h],_=>
   simp only[List.foldr_cons,List.foldr_nil]at O E
   have b1:=h2 a (by simp)
   have b2:=h2 b (by simp)
   have b3:=h2 c (by simp)
   have b4:=h2 d (by simp)
   have b5:=h2 e (by simp)
   have b6:=h2 f (by simp)
   have b7:=h2 g (by simp)
   have b8:=h2 h (by simp)
   have I:sw4 (popS 8 x)=(a+b)+256*(b+c)+65536*(c+d)+16777216*(d+e)+4294967296*(e+f)+1099511627776*(f+g)+281474976710656*(g+h)+72057594037927936*h:=by unfold sw4;omega
   have Z:sw5 (popS 8 x)=(a+b+c+d)+256*(b+c+d+e)+65536*(c+d+e+f)+16777216*(d+e+f+g)+4294967296*(e+f+g+h)+1099511627776*(f+g+h)+281474976710656*(g+h)+72057594037927936*h:=by unfold sw5;rw[I];omega
   have U:sw6 (popS 8 x)=(a+b+c+d+e+f+g+h)+256*(b+c+d+e+f+g+h)+65536*(c+d+e+f+g+h)+16777216*(d+e+f+g+h)+4294967296*(e+f+g+h)+1099511627776*(f+g+h)+281474976710656*(g+h)+72057594037927936*h:=by unfold sw6;rw[Z];omega
   have q7:Vq x 64=a+(b+(c+(d+(e+(f+(g+(h+0))))))):=E
   rw[U,q7]
   omega
end Go.Proofs.YthohbneadomgdaaGreatDoor
namespace Go.Proofs.YthohbneadomgdaaGreatDoor
open Go.RowKit Abs
theorem Abs.Spec.of_empty{P:Program}{k:FuncId}{xs:List Value}{v:Value}(hx:∀x∈xs,flat 3 x=true)(hv:flat 3 v=true)(h:Abs.Spec P k xs ⟨[]⟩ fun u _=>u=v)(m:Mem):
 Abs.Spec P k xs m fun u m'=>u=v∧m'=m:=
 Abs.Spec.of_below hv fun ι w ys hy hr=>by rw[U1 hx hy];exact Calls.of_flat_val hx hv h w hr.glob.known
theorem VH(a:Nat)(ha:a<18446744073709551616):(BitVec.ofInt 64 (a:Int)).toNat=a:=by
 rw[BitVec.ofInt_natCast,BitVec.toNat_ofNat];exact Nat.mod_eq_of_lt (by omega)
theorem XX(a:Nat)(ha:a<18446744073709551616):IntKind.u64.wrap (a:Int)=(a:Int):=by unfold IntKind.wrap;simp[IntKind.bits,IntKind.signed];omega
theorem Zg(a b:Nat)(ha:a<18446744073709551616)(hb:b<18446744073709551616):bits .and .u64 (a:Int) (b:Int)=((a&&&b:Nat):Int):=by
 have hx:a&&&b<2^64:=Nat.and_lt_two_pow _ (by omega)
 show IntKind.u64.wrap ((BitVec.ofInt 64 (a:Int)&&&BitVec.ofInt 64 (b:Int)).toNat:Int)=_
 rw[BitVec.toNat_and,VH a ha,VH b hb,XX _ (by omega)]
theorem u64_or_nat(a b:Nat)(ha:a<18446744073709551616)(hb:b<18446744073709551616):bits .or .u64 (a:Int) (b:Int)=((a|||b:Nat):Int):=by
 have hx:a|||b<2^64:=Nat.or_lt_two_pow (by omega) (by omega)
 show IntKind.u64.wrap ((BitVec.ofInt 64 (a:Int)|||BitVec.ofInt 64 (b:Int)).toNat:Int)=_
 rw[BitVec.toNat_or,VH a ha,VH b hb,XX _ (by omega)]
theorem Kd(x k:Nat)(hk:k≤64):qQ (x:Int) (2^min k IntKind.u64.bits)=((x/2^k:Nat):Int):=by
 have e:min k IntKind.u64.bits=k:=by show min k 64=k;omega
 rw[e,Int.fdiv_eq_ediv_of_nonneg _ (Int.le_of_lt (Int.pow_pos (by decide))),Int.natCast_ediv,qE];rfl
theorem u64_shl1(k:Nat)(hk:k<64):IntKind.u64.wrap (1*2^min k IntKind.u64.bits)=((2^k:Nat):Int):=by
 have e:min k IntKind.u64.bits=k:=by show min k 64=k;omega
 have h:=XX (2^k) (by have:2^k<2^64:=Nat.pow_lt_pow_right (by decide) hk;omega)
 rw[e,Int.one_mul]
 rw[qE]at h ⊢
 exact h
theorem ones_spec(x:Nat)(hx:x<18446744073709551616)(m:Mem):
 Abs.Spec qd 47 [.int .u64 (x:Nat)] m fun u M=>u=.int .i64 (Vq x 64:Nat)∧M=m:=by
 refine Abs.Spec.walkM Tryz.func47 (by rfl) _ Tryz.results47 _ Tryz.ntmps47 (by simp) ?_
 intro hc a8 k
 have p1:Kg 85 8=6148914691236517205:=by decide
 have p2:Kg 51 8=3689348814741910323:=by decide
 have p3:Kg 15 8=1085102592571150095:=by decide
 obtain⟨I,Y⟩:∃a,a=sw1 8 x:=⟨_,rfl⟩
 obtain⟨O,h2⟩:∃a,a=sw2 8 I:=⟨_,rfl⟩
 obtain⟨E,h3⟩:∃a,a=sw3 8 O:=⟨_,rfl⟩
 have U:I<18446744073709551616:=by
  have u1:=qM (n:=x/2) (m:=Kg 85 8)
  have u2:=qM (n:=x) (m:=Kg 85 8)
  rw[Y];unfold sw1;omega
 have b2:O≤7378697629483820646:=by
  have u1:=qM (n:=I/4) (m:=Kg 51 8)
  have u2:=qM (n:=I) (m:=Kg 51 8)
  rw[h2];unfold sw2;omega
 have e1:IntKind.u64.wrap (bits .and .u64 (qQ (x:Int) (2^min 1 IntKind.u64.bits)) 6148914691236517205+bits .and .u64 (x:Int) 6148914691236517205)=(I:Int):=by
  rw[Kd x 1 (by decide),show(6148914691236517205:Int)=((6148914691236517205:Nat):Int)from rfl,Zg _ _ (by omega) (by decide),Zg _ _ hx (by decide),←qy]
  rw[Y]at U ⊢
  unfold sw1 at U ⊢
  rw[p1]at U ⊢
  exact XX _ U
 have e2:IntKind.u64.wrap (bits .and .u64 (qQ (I:Int) (2^min 2 IntKind.u64.bits)) 3689348814741910323+bits .and .u64 (I:Int) 3689348814741910323)=(O:Int):=by
  rw[Kd I 2 (by decide),show(3689348814741910323:Int)=((3689348814741910323:Nat):Int)from rfl,Zg _ _ (by omega) (by decide),Zg _ _ U (by decide),←qy]
  have e:(I/2^2&&&3689348814741910323)+(I&&&3689348814741910323)=O:=by rw[h2];unfold sw2;rw[p2]
  rw[e];exact XX _ (by omega)
 have e3:bits .and .u64 (IntKind.u64.wrap (qQ (O:Int) (2^min 4 IntKind.u64.bits)+(O:Int))) 1085102592571150095=(E:Int):=by
  rw[Kd O 4 (by decide),←qy,XX _ (by omega),show(1085102592571150095:Int)=((1085102592571150095:Nat):Int)from rfl,Zg _ _ (by omega) (by decide)]
  rw[h3];unfold sw3;rw[p3]
 have hs:=(sw_all 8 x (by rw[show(256:Nat)^8=18446744073709551616 by decide];exact hx)).2
 rw[←Y,←h2,←h3]at hs
 obtain⟨Z,q2⟩:=sw_end x
 rw[←hs]at Z q2
 have l1:sw5 E≤sw6 E:=by unfold sw6;omega
 have l2:sw4 E≤sw5 E:=by unfold sw5;omega
 have e4:IntKind.u64.wrap ((E:Int)+qQ (E:Int) (2^min 8 IntKind.u64.bits))=(sw4 E:Nat):=by
  rw[Kd E 8 (by decide),←qy]
  have e:E+E/2^8=sw4 E:=rfl
  rw[e];exact XX _ (by omega)
 have e5:IntKind.u64.wrap (((sw4 E:Nat):Int)+qQ ((sw4 E:Nat):Int) (2^min 16 IntKind.u64.bits))=(sw5 E:Nat):=by
  rw[Kd _ 16 (by decide),←qy]
  have e:sw4 E+sw4 E/2^16=sw5 E:=rfl
  rw[e];exact XX _ (by omega)
 have e6:IntKind.u64.wrap (((sw5 E:Nat):Int)+qQ ((sw5 E:Nat):Int) (2^min 32 IntKind.u64.bits))=(sw6 E:Nat):=by
  rw[Kd _ 32 (by decide),←qy]
  have e:sw5 E+sw5 E/2^32=sw6 E:=rfl
  rw[e];exact XX _ (by omega)
 have e7:bits .and .i64 (IntKind.i64.wrap ((sw6 E:Nat):Int)) 127=(Vq x 64:Nat):=by
  rw[Xn (by omega) (by omega),show(127:Int)=((127:Nat):Int)from rfl,Qy _ _ (by omega) (by decide),←Z]
  congr 1
  exact Nat.and_two_pow_sub_one_eq_mod _ 7
 refine J0 (J1 ?_)
 simp only[zZ,reduceIte,yQ,yW,yX,yZ,yJ,yK,yV,zDk]
 refine J0 (J1 ?_)
 simp only[zZ,reduceIte,yQ,yW,yX,yZ,yJ,yK,yV,zDk,e1]
 refine J0 (J1 ?_)
 simp only[zZ,reduceIte,yQ,yW,yX,yZ,yJ,yK,yV,zDk,e2]
 refine J0 (J1 ?_)
 simp only[zZ,reduceIte,yQ,yW,yX,yZ,yJ,yK,yV,zDk,e3]
 refine J0 (J1 ?_)
 simp only[zZ,reduceIte,yQ,yW,yX,yZ,yJ,yK,yV,zDk,e4]
 refine J0 (J1 ?_)
 simp only[zZ,reduceIte,yQ,yW,yX,yZ,yJ,yK,yV,zDk,e5]
 refine J0 (J1 ?_)
 simp only[zZ,reduceIte,yQ,yW,yX,yZ,yJ,yK,yV,zDk,e6]
 refine J0 (J1 ?_)
 simp only[zZ,reduceIte,yQ,yW,yX,yZ,yJ,yK,yV,zDk,e7]
 refine Qz ?_
 simp only[zZ,reduceIte,yQ,yW,yX,yZ,yJ,yK,yV,zDk,mEnd,sAnswer,sAnswer.sRes]
 exact⟨m,tR _,rfl⟩
def QG(l:List Bool):Value:=.agg (setCells l).toArray
theorem bx_set(l:List Bool):QU qd 43 (QG l)=some (.cells false (J6 qd 43) (setCells l)):=bx_Set _ rfl
def hasV(l:List Bool)(i:Int):Bool:=decide (0≤i)&&l.getD i.toNat false
theorem set_cell(l:List Bool)(j:Nat)(hj:j<4):(setCells l)[1+j]?=some (.int .u64 (Jj l j:Nat)):=by
 match j,hj with
 |0,_=>rfl
 |1,_=>rfl
 |2,_=>rfl
 |3,_=>rfl
theorem set_len(l:List Bool):(setCells l)[0]?=some (.int .i64 (l.length:Nat)):=rfl
theorem bit_of(l:List Bool)(i:Nat):((Jj l (i/64)/2^(i%64)&&&1)==1)=l.getD i false:=by
 have h:=Qx l (i/64) (i%64) (qC _ (by decide))
 rw[qx]at h
 rw[←h,Nat.testBit_eq_decide_div_mod_eq,Nat.and_one_is_mod]
 by_cases e:Jj l (i/64)/2^(i%64)%2=1<;>simp[e]
theorem has_spec(l:List Bool)(hl:l.length≤256)(i:Int)(m:Mem):
 Abs.Spec qd 9 [QG l,.int .i64 i] m fun u M=>u=.bool (hasV l i)∧(∀b x,m.get b=some x→M.get b=some x)∧m.size≤M.size:=by
 refine Abs.Spec.walkM Tryz.func9 (by rfl) _ Tryz.results9 _ Tryz.ntmps9 (by simp) ?_
 intro hc hx k
 have U:=bx_set l
 generalize J6 qd 43=s1 at U
 have I:∀b x,m.get b=some x→(m.push (.cells false s1 (setCells l))).get b=some x:=fun b x hb=>by rw[Mem.get_push_old (Mem.get_lt hb)];exact hb
 have hs:m.size≤(m.push (.cells false s1 (setCells l))).size:=by rw[Mem.size_push];omega
 refine J0 (J1 ?_)
 simp only[zZ,reduceIte,yQ,yW,yX,yZ,yJ,yK,yV,zDk,U]
 refine J0 (J1 ?_)
 cases q1:decide (i≥0)
 ·have e:hasV l i=false:=by unfold hasV;have:=of_decide_eq_false q1;rw[decide_eq_false (by omega)];rfl
  simp only[zZ,reduceIte,yQ,yW,yX,yZ,yJ,yK,yV,zDk,q1]
  refine Qz ?_
  simp only[zZ,reduceIte,yQ,yW,yX,yZ,yJ,yK,yV,zDk,mEnd,sAnswer,sAnswer.sRes]
  exact⟨_,tR _,by rw[e],I,hs⟩
 ·have O:=of_decide_eq_true q1
  obtain⟨n,rfl⟩:=qK O
  have e:hasV l (n:Int)=l.getD n false:=by unfold hasV;rw[decide_eq_true O,qk];rfl
  cases q2:decide ((n:Int)<(l.length:Int))
  ·have h2:=of_decide_eq_false q2
   have Y:l.getD n false=false:=by rw[qi,qz (by omega)];rfl
   simp only[zZ,reduceIte,yQ,yW,yX,yZ,yJ,yK,yV,zDk,q1,Mem.get_push_new,set_len,q2]
   refine Qz ?_
   simp only[zZ,reduceIte,yQ,yW,yX,yZ,yJ,yK,yV,zDk,mEnd,sAnswer,sAnswer.sRes]
   exact⟨_,tR _,by rw[e,Y],I,hs⟩
  ·have h2:=of_decide_eq_true q2
   have wq:IntKind.i64.wrap (Int.tdiv (n:Int) 64)=((n/64:Nat):Int):=by rw[Int.tdiv_eq_ediv_of_nonneg (by omega),Xn (by omega) (by omega)];omega
   have wr:Int.tmod (n:Int) 64=((n%64:Nat):Int):=by rw[Int.tmod_eq_emod_of_nonneg (by omega)];omega
   have Z:(0:Int)≤((n/64:Nat):Int):=by omega
   have z4:((n/64:Nat):Int)<((4:Nat):Int):=by omega
   have z1:(0:Int)≤((n%64:Nat):Int):=by omega
   have E:=set_cell l (n/64) (by omega)
   have sh:=Kd (Jj l (n/64)) (n%64) (by omega)
   have hw:=Vd l (n/64)
   have eb:(bits .and .u64 ((Jj l (n/64)/2^(n%64):Nat):Int) 1==1)=l.getD n false:=by
    rw[show(1:Int)=((1:Nat):Int)from rfl,Zg _ _ (Nat.lt_of_le_of_lt (Nat.div_le_self _ _) hw) (by decide),←bit_of l n]
    rw[qF,beq_iff_eq,beq_iff_eq]
    exact Int.ofNat_inj
   simp only[zZ,reduceIte,yQ,yW,yX,yZ,yJ,yK,yV,zDk,q1,Mem.get_push_new,set_len,q2,wq,wr,Z,z4,z1,and_self,qk,E,sh,eb]
   refine Qz ?_
   simp only[zZ,reduceIte,yQ,yW,yX,yZ,yJ,yK,yV,zDk,mEnd,sAnswer,sAnswer.sRes]
   exact⟨_,tR _,by rw[e],I,hs⟩
theorem has_at(l:List Bool)(hl:l.length≤256)(i:Int)(m:Mem):
 Abs.Spec qd 9 [QG l,.int .i64 i] m fun u M=>u=.bool (hasV l i)∧M=m:=
 Abs.Spec.of_empty (by intro x hx;simp at hx;rcases hx with rfl|rfl<;>rfl) rfl ((has_spec l hl i ⟨[]⟩).mono fun _ _ h=>h.1) m
theorem set_put(l:List Bool)(n:Nat)(hn:n<l.length)(hl:l.length≤256):(setCells l).set (1+n/64) (.int .u64 ((Jj l (n/64)|||2^(n%64):Nat):Int))=setCells (l.set n true):=by
 have w:=fun j=>wordB_set l n j hn
 unfold setCells
 rw[List.length_set,w 0,w 1,w 2,w 3]
 have E:n/64<4:=by omega
 generalize n/64=q at*
 match q,E with
 |0,_=>rfl
 |1,_=>rfl
 |2,_=>rfl
 |3,_=>rfl
def UF(l:List Bool)(i:Int):List Bool:=if 0≤i∧i<(l.length:Int)then l.set i.toNat true else l
theorem with_spec(l:List Bool)(hl:l.length≤256)(i:Int)(m:Mem):
 Abs.Spec qd 39 [QG l,.int .i64 i] m fun u M=>u=QG (UF l i)∧(∀b x,m.get b=some x→M.get b=some x)∧m.size≤M.size:=by
 refine Abs.Spec.walkM Tryz.func39 (by rfl) _ Tryz.results39 _ Tryz.ntmps39 (by simp) ?_
 intro hc hx k
 have bx:=bx_set l
 have ac:=al_Set
 generalize J6 qd 43=s1 at bx ac
 refine J0 (J1 ?_)
 simp only[zZ,reduceIte,yQ,yW,yX,yZ,yJ,yK,yV,zDk,bx,ac]
 obtain⟨M1,Z⟩:∃M1,M1=m.push (.cells false s1 (setCells l)):=⟨_,rfl⟩
 obtain⟨U,O⟩:∃U,U=M1.push (.cells false s1 [.int .i64 0,.int .u64 0,.int .u64 0,.int .u64 0,.int .u64 0]):=⟨_,rfl⟩
 obtain⟨b1,a2⟩:∃b,b=m.size:=⟨_,rfl⟩
 obtain⟨Y,ad⟩:∃b,b=M1.size:=⟨_,rfl⟩
 have ai:M1.size=m.size+1:=by rw[Z,Mem.size_push]
 have hs2:U.size=m.size+2:=by rw[O,Mem.size_push,ai]
 have g1:U.get b1=some (.cells false s1 (setCells l)):=by rw[O,Mem.get_push_old (by omega),Z,a2,Mem.get_push_new]
 have g2:U.get Y=some (.cells false s1 [.int .i64 0,.int .u64 0,.int .u64 0,.int .u64 0,.int .u64 0]):=by rw[O,ad,Mem.get_push_new]
 have ho:∀b x,m.get b=some x→U.get b=some x:=fun b x hb=>by
  have:=Mem.get_lt hb
  rw[O,Mem.get_push_old (by omega),Z,Mem.get_push_old this];exact hb
 have af:b1≠Y:=by omega
 rw[←Z,←O,←a2,←ad]
 have aj:∀(E:Mem)(L:List Bool),E.get b1=some (.cells false s1 (setCells L))→E.get Y=some (.cells false s1 [.int .i64 0,.int .u64 0,.int .u64 0,.int .u64 0,.int .u64 0])→(∀b x,m.get b=some x→E.get b=some x)→m.size≤E.size→
  ∃M4,Ji 5 E Y 0 (setCells L) (E.get Y)=some M4∧M4.get Y=some (.cells false s1 (setCells L))∧(∀b x,m.get b=some x→M4.get b=some x)∧m.size≤M4.size:=fun E L h1 h2 h3 h4=>
  ⟨E.set Y (some (.cells false s1 (setCells L))),by rw[h2];rfl,Mem.get_set_same h2 _,fun b x hb=>by rw[Mem.get_set_ne (by have:=Mem.get_lt hb;omega)];exact h3 b x hb,by rw[Mem.size_set];exact h4⟩
 have row:∀L:List Bool,Js 5 0 (some (.cells false s1 (setCells L)))=some (QG L):=fun L=>rfl
 have agg:∀L:List Bool,(QG L).cells.toList=setCells L:=fun L=>rfl
 refine QJ (fun f E=>f=[(2,.pointer (some ⟨b1,0,none⟩)),(4,.pointer (some ⟨Y,0,none⟩))]∧E.get b1=some (.cells false s1 (setCells (UF l i)))∧E.get Y=some (.cells false s1 [.int .i64 0,.int .u64 0,.int .u64 0,.int .u64 0,.int .u64 0])∧(∀b x,m.get b=some x→E.get b=some x)∧m.size≤E.size) ?_ ?_
 ·refine J0 (J1 ?_)
  cases q1:decide (i≥0)
  ·have e:UF l i=l:=by unfold UF;have:=of_decide_eq_false q1;rw[if_neg (by omega)]
   simp only[zZ,reduceIte,yQ,yW,yX,yZ,yJ,yK,yV,zDk,q1]
   refine Qc false (by rfl) (fun h=>by cases h) (fun _=>J3 ?_)
   refine⟨[2,4],?_⟩
   simp only[zZ,reduceIte,yQ,yW,yX,yZ,yJ,yK,yV,keepF]
   exact⟨U,tR _,by rw[e];exact g1,g2,ho,by omega⟩
  ·have h0:=of_decide_eq_true q1
   obtain⟨n,rfl⟩:=qK h0
   cases q2:decide ((n:Int)<(l.length:Int))
   ·have e:UF l (n:Int)=l:=by unfold UF;have:=of_decide_eq_false q2;rw[if_neg (by omega)]
    simp only[zZ,reduceIte,yQ,yW,yX,yZ,yJ,yK,yV,zDk,q1,g1,set_len,q2]
    refine Qc false (by rfl) (fun h=>by cases h) (fun _=>J3 ?_)
    refine⟨[2,4],?_⟩
    simp only[zZ,reduceIte,yQ,yW,yX,yZ,yJ,yK,yV,keepF]
    exact⟨U,tR _,by rw[e];exact g1,g2,ho,by omega⟩
   ·have h2:=of_decide_eq_true q2
    have e:UF l (n:Int)=l.set n true:=by unfold UF;rw[if_pos ⟨h0,h2⟩,qk]
    have wq:IntKind.i64.wrap (Int.tdiv (n:Int) 64)=((n/64:Nat):Int):=by rw[Int.tdiv_eq_ediv_of_nonneg (by omega),Xn (by omega) (by omega)];omega
    have wr:Int.tmod (n:Int) 64=((n%64:Nat):Int):=by rw[Int.tmod_eq_emod_of_nonneg (by omega)];omega
    have z0:(0:Int)≤((n/64:Nat):Int):=by omega
    have z4:((n/64:Nat):Int)<((4:Nat):Int):=by omega
    have z1:(0:Int)≤((n%64:Nat):Int):=by omega
    have a6:=set_cell l (n/64) (by omega)
    have sl:=u64_shl1 (n%64) (by omega)
    have hw:=Vd l (n/64)
    have hp:2^(n%64)<18446744073709551616:=by
     have:2^(n%64)<2^64:=Nat.pow_lt_pow_right (by decide) (by omega)
     exact this
    have eo:=u64_or_nat (Jj l (n/64)) (2^(n%64)) hw hp
    have sp:=set_put l n (by omega) hl
    have I:Ji 1 U b1 (1+n/64) [.int .u64 ((Jj l (n/64)|||2^(n%64):Nat):Int)] (some (.cells false s1 (setCells l)))=some (U.set b1 (some (.cells false s1 (setCells (l.set n true))))):=by
     simp only[Ji]
     rw[if_pos ⟨rfl,by show 1+n/64+1≤5;omega,rfl⟩,←sp]
     rfl
    simp only[zZ,reduceIte,yQ,yW,yX,yZ,yJ,yK,yV,zDk,q1,g1,set_len,q2]
    refine Qc true (by rfl) (fun _=>QF hmix 10 (by kernel_rfl) (by kernel_rfl) ?_) (fun h=>by cases h)
    simp only[zZ,reduceIte,yQ,yW,yX,yZ,yJ,yK,yV,zDk,g1,wq,wr,z0,z4,z1,and_self,qk,a6,sl,eo,I]
    refine⟨[2,4],?_⟩
    simp only[zZ,reduceIte,yQ,yW,yX,yZ,yJ,yK,yV,keepF]
    refine⟨_,tR _,by rw[e];exact Mem.get_set_same g1 _,by rw[Mem.get_set_ne af];exact g2,fun b x hb=>by rw[Mem.get_set_ne (by have:=Mem.get_lt hb;omega)];exact ho b x hb,by rw[Mem.size_set];omega⟩
 rintro _ E ⟨rfl,h1,h2,h3,h4⟩
 obtain⟨M4,I,h5,h6,h7⟩:=aj E _ h1 h2 h3 h4
 rw[h2]at I
 refine J0 (J1 ?_)
 simp only[zZ,reduceIte,yQ,yW,yX,yZ,yJ,yK,yV,zDk,h1,h2,row,agg,I]
 refine Qz ?_
 simp only[zZ,reduceIte,yQ,yW,yX,yZ,yJ,yK,yV,zDk,mEnd,sAnswer,sAnswer.sRes,Q4,h5,row]
 exact⟨_,tR _,h6,by rw[a2];exact h7⟩
theorem with_at(l:List Bool)(hl:l.length≤256)(i:Int)(m:Mem):
 Abs.Spec qd 39 [QG l,.int .i64 i] m fun u M=>u=QG (UF l i)∧M=m:=
 Abs.Spec.of_empty (by intro x hx;simp at hx;rcases hx with rfl|rfl<;>rfl) rfl ((with_spec l hl i ⟨[]⟩).mono fun _ _ h=>h.1) m
theorem ZE(a b:List UInt8):bcat (str a) (str b)=str (a++b):=by
 unfold bcat str
 simp
theorem V3(a:List UInt8):JB (str a)=a.length:=rfl
structure More(M M':Mem):Prop where
 get:∀b x,M.get b=some x→M'.get b=some x
 size:M.size≤M'.size
theorem More.refl(M:Mem):More M M:=⟨fun _ _ h=>h,Nat.le_refl _⟩
theorem More.trans{M M' M'':Mem}(h:More M M')(k:More M' M''):More M M'':=⟨fun b x hb=>k.get b x (h.get b x hb),Nat.le_trans h.size k.size⟩
theorem More.push(M:Mem)(y:Blk):More M (M.push y):=⟨fun b x hb=>by rw[Mem.get_push_old (Mem.get_lt hb)];exact hb,by rw[Mem.size_push];omega⟩
def cntB(l:List Bool)(n:Nat):Nat:=((qp n).filter fun i=>l.getD i false).length
theorem cntB_succ(l:List Bool)(n:Nat):cntB l (n+1)=cntB l n+(if l.getD n false then 1 else 0):=by
 unfold cntB
 rw[List.range_succ,List.filter_append,qh]
 congr 1
 cases h:l.getD n false<;>simp only[List.filter_cons,List.filter_nil,h]<;>rfl
theorem cntB_word(l:List Bool)(j:Nat):∀k,k≤64→cntB l (64*j+k)=cntB l (64*j)+Vq (Jj l j) k
 |0,_=>by simp[Vq]
 |k+1,hk=>by
  rw[←Nat.add_assoc,cntB_succ,cntB_word l j k (by omega),popc_succ,Qx l j k (by omega)]
  omega
def ZD(l:List Bool):Nat:=(l.filter fun b=>b).length
theorem cntB_all(l:List Bool):∀n,l.length≤n→cntB l n=ZD l:=by
 intro n I
 have E:cntB l l.length=ZD l:=by
  unfold cntB ZD
  have e:l=(qp l.length).map fun i=>l.getD i false:=by
   apply List.ext_getElem (by simp)
   intro i E h2
   simp[qi,E]
  conv=>rhs;rw[e]
  rw[List.filter_map,List.length_map]
  rfl
 induction n with
 |zero=>rw[←E];congr 1;omega
 |succ n ih=>
  by_cases e:l.length=n+1
  ·rw[←e];exact E
  ·rw[cntB_succ,ih (by omega),qi,qz (by omega)]
   rfl
theorem cntB_le(l:List Bool)(n:Nat):cntB l n≤n:=by
 unfold cntB
 have:=List.length_filter_le (fun i=>l.getD i false) (qp n)
 rwa [List.length_range]at this
theorem arr_set(l:List Bool)(j:Nat)(hj:j<4):(#[Value.int .u64 (Jj l 0:Nat),.int .u64 (Jj l 1:Nat),.int .u64 (Jj l 2:Nat),.int .u64 (Jj l 3:Nat)]:Array Value)[j]?=some (.int .u64 (Jj l j:Nat)):=by
 match j,hj with
 |0,_=>rfl
 |1,_=>rfl
 |2,_=>rfl
 |3,_=>rfl
def wordsV(l:List Bool):Value:=.agg #[.int .u64 (Jj l 0:Nat),.int .u64 (Jj l 1:Nat),.int .u64 (Jj l 2:Nat),.int .u64 (Jj l 3:Nat)]
theorem ix_W4(l:List Bool)(i:Nat)(hi:i<4):KB qd 41 (wordsV l) (.int .i64 (i:Nat))=some (.int .u64 (Jj l i:Nat)):=by
 rcases(by omega:i=0∨i=1∨i=2∨i=3)with rfl|rfl|rfl|rfl<;>kernel_rfl
theorem count_spec(l:List Bool)(hl:l.length≤256)(m:Mem):
 Abs.Spec qd 14 [QG l] m fun u M=>u=.int .i64 (ZD l:Nat)∧More m M:=by
 refine Abs.Spec.walkM Tryz.func14 (by rfl) _ Tryz.results14 _ Tryz.ntmps14 (by simp) ?_
 intro hc hx k
 have bx:=bx_set l
 generalize J6 qd 43=s1 at bx
 have row:Js 4 1 (some (.cells false s1 (setCells l)))=some (wordsV l):=rfl
 obtain⟨I,E⟩:∃I,I=m.push (.cells false s1 (setCells l)):=⟨_,rfl⟩
 have U:I.get m.size=some (.cells false s1 (setCells l)):=by rw[E,Mem.get_push_new]
 have Y:More m I:=by rw[E];exact More.push _ _
 refine J0 (J1 ?_)
 simp only[zZ,reduceIte,yQ,yW,yX,yZ,yJ,yK,yV,zDk,bx]
 rw[←E]
 refine J0 (J1 ?_)
 simp only[zZ,reduceIte,yQ,yW,yX,yZ,yJ,yK,yV,zDk]
 refine J0 (J0 (J1 ?_))
 simp only[zZ,reduceIte,yQ,yW,yX,yZ,yJ,yK,yV,zDk,U,row]
 refine J7 (Jr (fun j f M'=>∃i:Nat,j=4-i∧f=[(3,.int .i64 (cntB l (64*i):Nat)),(7,wordsV l),(8,.int .i64 (i:Nat))]∧i≤4∧M'=I) 4 ?_ ?_)
 ·refine⟨[3,7,8],?_⟩
  simp only[zZ,reduceIte,yQ,yW,yX,yZ,yJ,yK,yV,keepF]
  exact⟨I,tR _,0,rfl,rfl,by omega,rfl⟩
 ·rintro j f M' ⟨i,rfl,rfl,hi,rfl⟩
  refine J0 (J1 ?_)
  simp only[zZ,reduceIte,yQ,yW,yX,yZ,yJ,yK,yV,zDk]
  refine J0 (Qc (decide ((i:Int)<4)) (by rfl) (fun hq=>J3 ?_) (fun hq=>Jn ?_))
  ·have Z:=of_decide_eq_true hq
   have z0:(0:Int)≤(i:Int):=by omega
   have z4:(i:Int)<((4:Nat):Int):=by omega
   have ha:=arr_set l i (by omega)
   have w9:IntKind.i64.wrap ((i:Int)+1)=((i+1:Nat):Int):=by rw[Xn (by omega) (by omega)];omega
   have hw:=cntB_word l i 64 (Nat.le_refl _)
   rw[show 64*i+64=64*(i+1) by omega]at hw
   have hb:=cntB_le l (64*(i+1))
   have w1:IntKind.i64.wrap (((cntB l (64*i):Nat):Int)+((Vq (Jj l i) 64:Nat):Int))=((cntB l (64*(i+1)):Nat):Int):=by rw[Xn (by omega) (by omega)];omega
   simp only[zZ,reduceIte,yQ,yW,yX,yZ,yJ,yK,yV]
   refine J0 (J7 (J0 (J1 ?_)))
   simp only[zZ,reduceIte,yQ,yW,yX,yZ,yJ,yK,yV,zDk,ix_W4 l i (by omega)]
   refine J1 ?_
   simp only[zZ,reduceIte,yQ,yW,yX,yZ,yJ,yK,yV,zDk]
   refine⟨by kernel_rfl,_,ones_spec (Jj l i) (Vd l i) _,?_⟩
   rintro _ M9 ⟨rfl,O⟩;replace O:=O.symm;subst O
   simp only[zZ,reduceIte,yQ,yW,yX,yZ,yJ,yK,yV,zDk,w1]
   refine J1 ?_
   simp only[zZ,reduceIte,yQ,yW,yX,yZ,yJ,yK,yV,zDk,w9]
   refine⟨[3,7,8],?_⟩
   simp only[zZ,reduceIte,yQ,yW,yX,yZ,yJ,yK,yV,keepF]
   exact⟨_,tR _,4-(i+1),⟨i+1,rfl,rfl,by omega,rfl⟩,by omega⟩
  ·have Z:=of_decide_eq_false hq
   have hE:i=4:=by omega
   subst hE
   simp only[zZ,reduceIte,yQ,yW,yX,yZ,yJ,yK,yV]
   refine J0 (J1 ?_)
   simp only[zZ,reduceIte,yQ,yW,yX,yZ,yJ,yK,yV,zDk]
   refine Qz ?_
   simp only[zZ,reduceIte,yQ,yW,yX,yZ,yJ,yK,yV,zDk,mEnd,sAnswer,sAnswer.sRes]
   exact⟨_,tR _,by rw[cntB_all l _ (by omega)],Y⟩
theorem count_at(l:List Bool)(hl:l.length≤256)(m:Mem):
 Abs.Spec qd 14 [QG l] m fun u M=>u=.int .i64 (ZD l:Nat)∧M=m:=
 Abs.Spec.of_empty (by intro x hx;simp at hx;subst hx;rfl) rfl ((count_spec l hl ⟨[]⟩).mono fun _ _ h=>h.1) m
theorem countT_all(l:List Bool):(ZD l=l.length)↔l.all (fun b=>b)=true:=by
 unfold ZD
 rw[qw]
 constructor
 ·intro h b hb
  have:=(List.filter_eq_self (p:=fun b=>b) (l:=l)).1 (List.Sublist.eq_of_length List.filter_sublist h)
  exact this b hb
 ·intro h
  rw[(List.filter_eq_self (p:=fun b=>b) (l:=l)).2 h]
theorem full_spec(l:List Bool)(hl:l.length≤256)(m:Mem):
 Abs.Spec qd 51 [QG l] m fun u M=>u=.bool (l.all fun b=>b)∧More m M:=by
 refine Abs.Spec.walkM Tryz.func51 (by rfl) _ Tryz.results51 _ Tryz.ntmps51 (by simp) ?_
 intro hc hx k
 have bx:=bx_set l
 generalize J6 qd 43=s1 at bx
 have row:Js 5 0 (some (.cells false s1 (setCells l)))=some (QG l):=rfl
 obtain⟨U,E⟩:∃U,U=m.push (.cells false s1 (setCells l)):=⟨_,rfl⟩
 obtain⟨Z,I⟩:∃Z,Z=m.size:=⟨_,rfl⟩
 have O:U.get Z=some (.cells false s1 (setCells l)):=by rw[E,I,Mem.get_push_new]
 have Y:More m U:=by rw[E];exact More.push _ _
 refine J0 (J1 ?_)
 simp only[zZ,reduceIte,yQ,yW,yX,yZ,yJ,yK,yV,zDk,bx]
 rw[←E,←I]
 refine J0 (QF hmix 4 (by kernel_rfl) (by kernel_rfl) ?_)
 simp only[zZ,reduceIte,yQ,yW,yX,yZ,yJ,yK,yV,zDk,O,row]
 refine⟨by kernel_rfl,_,count_at l hl U,?_⟩
 refine⟨by decide,?_⟩
 have e:(((ZD l:Nat):Int)==(l.length:Int))=l.all fun b=>b:=by
  rw[qF,beq_iff_eq,←countT_all]
  exact Int.ofNat_inj
 simp only[zZ,reduceIte,yQ,yW,yX,yZ,yJ,yK,yV,zDk,O,set_len,e]
 refine Qz ?_
 simp only[zZ,reduceIte,yQ,yW,yX,yZ,yJ,yK,yV,zDk,mEnd,sAnswer,sAnswer.sRes]
 exact⟨_,tR _,Y⟩
theorem full_at(l:List Bool)(hl:l.length≤256)(m:Mem):
 Abs.Spec qd 51 [QG l] m fun u M=>u=.bool (l.all fun b=>b)∧M=m:=
 Abs.Spec.of_empty (by intro x hx;simp at hx;subst hx;rfl) rfl ((full_spec l hl ⟨[]⟩).mono fun _ _ h=>h.1) m
def setWord(l:List Bool):List UInt8→Nat→List UInt8
 |t,0=>t
 |t,j+1=>setWord l t j++Sha.fixed (Jj l j:Nat) 8
theorem setWord_len(l:List Bool):∀j,(setWord l [] j).length=8*j
 |0=>rfl
 |j+1=>by rw[setWord,qh,setWord_len l j,Sha.fixed_length];omega
theorem fixed_wrap(n:Nat)(hn:n<18446744073709551616):Sha.fixed (IntKind.i64.wrap (n:Int)) 8=Sha.fixed (n:Int) 8:=by
 have key:∀(a b:Int)(k:Nat),(∀j,j<k→a/256^j%256=b/256^j%256)→Sha.fixed a k=Sha.fixed b k:=by
  intro a b k
  induction k with
  |zero=>intro _;rfl
  |succ k ih=>
   intro h
   rw[Ze,Ze,h k (by omega),ih fun j hj=>h j (by omega)]
 have E:IntKind.i64.wrap (n:Int)=(n:Int)∨IntKind.i64.wrap (n:Int)=(n:Int)-18446744073709551616:=by rw[IntKind.wrap_i64];omega
 rcases E with h|h
 ·rw[h]
 ·rw[h]
  refine key _ _ 8 fun j hj=>?_
  rcases(by omega:j=0∨j=1∨j=2∨j=3∨j=4∨j=5∨j=6∨j=7)with rfl|rfl|rfl|rfl|rfl|rfl|rfl|rfl<;>simp only[Int.reducePow]<;>omega
theorem sput_spec(l:List Bool)(m:Mem):
 Abs.Spec qd 130 [QG l] m fun u M=>u=.string (str (XP l))∧More m M:=by
 refine Abs.Spec.walkM Tryz.func130 (by rfl) _ Tryz.results130 _ Tryz.ntmps130 (by simp) ?_
 intro hc hx k
 have bx:=bx_set l
 generalize J6 qd 43=s1 at bx
 have row:Js 4 1 (some (.cells false s1 (setCells l)))=some (wordsV l):=rfl
 obtain⟨I,E⟩:∃I,I=m.push (.cells false s1 (setCells l)):=⟨_,rfl⟩
 have Z:I.get m.size=some (.cells false s1 (setCells l)):=by rw[E,Mem.get_push_new]
 have a2:More m I:=by rw[E];exact More.push _ _
 have U:(⟨#[]⟩:ByteArray)=str []:=rfl
 refine J0 (J1 ?_)
 simp only[zZ,reduceIte,yQ,yW,yX,yZ,yJ,yK,yV,zDk,bx]
 rw[←E]
 refine J0 (J1 ?_)
 simp only[zZ,reduceIte,yQ,yW,yX,yZ,yJ,yK,yV,zDk,U]
 refine J0 (J0 (J1 ?_))
 simp only[zZ,reduceIte,yQ,yW,yX,yZ,yJ,yK,yV,zDk,Z,row]
 refine J7 (Jr (fun j f M'=>∃i:Nat,j=4-i∧f=[(3,.string (str (setWord l [] i))),(7,wordsV l),(8,.int .i64 (i:Nat))]∧i≤4∧M'=I) 4 ?_ ?_)
 ·refine⟨[3,7,8],?_⟩
  simp only[zZ,reduceIte,yQ,yW,yX,yZ,yJ,yK,yV,keepF]
  exact⟨I,tR _,0,rfl,rfl,by omega,rfl⟩
 ·rintro j f M' ⟨i,rfl,rfl,hi,rfl⟩
  refine J0 (J1 ?_)
  simp only[zZ,reduceIte,yQ,yW,yX,yZ,yJ,yK,yV,zDk]
  refine J0 (Qc (decide ((i:Int)<4)) (by rfl) (fun hq=>J3 ?_) (fun hq=>Jn ?_))
  ·have Y:=of_decide_eq_true hq
   have w9:IntKind.i64.wrap ((i:Int)+1)=((i+1:Nat):Int):=by rw[Xn (by omega) (by omega)];omega
   have a8:=setWord_len l i
   have O:=Ku (IntKind.i64.wrap ((Jj l i:Nat):Int)) 8 (by decide) (by decide) M'
   rw[fixed_wrap _ (Vd l i)]at O
   have ac:=Sha.fixed_length 8 ((Jj l i:Nat):Int)
   simp only[zZ,reduceIte,yQ,yW,yX,yZ,yJ,yK,yV]
   refine J0 (J7 (J0 (J1 ?_)))
   simp only[zZ,reduceIte,yQ,yW,yX,yZ,yJ,yK,yV,zDk,ix_W4 l i (by omega)]
   refine J1 ?_
   simp only[zZ,reduceIte,yQ,yW,yX,yZ,yJ,yK,yV,zDk]
   refine⟨by kernel_rfl,_,O,?_⟩
   rintro _ M9 ⟨rfl,e9⟩;replace e9:=e9.symm;subst e9
   simp only[zZ,reduceIte,yQ,yW,yX,yZ,yJ,yK,yV,zDk,ZE,V3]
   refine⟨by omega,?_⟩
   refine J1 ?_
   simp only[zZ,reduceIte,yQ,yW,yX,yZ,yJ,yK,yV,zDk,w9]
   refine⟨[3,7,8],?_⟩
   simp only[zZ,reduceIte,yQ,yW,yX,yZ,yJ,yK,yV,keepF]
   exact⟨M',tR _,4-(i+1),⟨i+1,rfl,rfl,by omega,rfl⟩,by omega⟩
  ·have Y:=of_decide_eq_false hq
   have hE:i=4:=by omega
   subst hE
   simp only[zZ,reduceIte,yQ,yW,yX,yZ,yJ,yK,yV]
   refine J0 (J1 ?_)
   simp only[zZ,reduceIte,yQ,yW,yX,yZ,yJ,yK,yV,zDk]
   refine Qz ?_
   simp only[zZ,reduceIte,yQ,yW,yX,yZ,yJ,yK,yV,zDk,mEnd,sAnswer,sAnswer.sRes]
   exact⟨_,tR _,rfl,a2⟩
theorem sput_at(l:List Bool)(m:Mem):
 Abs.Spec qd 130 [QG l] m fun u M=>u=.string (str (XP l))∧M=m:=
 Abs.Spec.of_empty (by intro x hx;simp at hx;subst hx;rfl) rfl ((sput_spec l ⟨[]⟩).mono fun _ _ h=>h.1) m
theorem bnew_spec(n:Nat)(hn:n≤256)(m:Mem):
 Abs.Spec qd 34 [.int .i64 (n:Nat)] m fun u M=>u=QG (qe n false)∧More m M:=by
 refine Abs.Spec.walkM Tryz.func34 (by rfl) _ Tryz.results34 _ Tryz.ntmps34 (by simp) ?_
 intro hc hx k
 have a6:=al_Set
 generalize J6 qd 43=s1 at a6
 have e1:max (n:Int) 0=(n:Int):=by omega
 have e2:min (n:Int) 256=(n:Int):=by omega
 have aa:Qm qd 43 [(0,.int .i64 (n:Nat))]=some (.agg #[.int .i64 (n:Nat),.int .u64 0,.int .u64 0,.int .u64 0,.int .u64 0]):=by kernel_rfl
 have hs:setCells (qe n false)=[.int .i64 (n:Nat),.int .u64 0,.int .u64 0,.int .u64 0,.int .u64 0]:=by
  unfold setCells
  rw[Vu,Vu,Vu,Vu,qN]
  rfl
 have U:∀M0 b,Ji 5 M0 b 0 [.int .i64 (n:Nat),.int .u64 0,.int .u64 0,.int .u64 0,.int .u64 0] (some (.cells false s1 [.int .i64 0,.int .u64 0,.int .u64 0,.int .u64 0,.int .u64 0]))=some (M0.set b (some (.cells false s1 (setCells (qe n false))))):=fun M0 b=>by rw[hs];rfl
 have row:∀L:List Bool,Js 5 0 (some (.cells false s1 (setCells L)))=some (QG L):=fun L=>rfl
 refine J0 (J1 ?_)
 simp only[zZ,reduceIte,yQ,yW,yX,yZ,yJ,yK,yV,zDk,a6]
 obtain⟨I,E⟩:∃I,I=m.push (.cells false s1 [.int .i64 0,.int .u64 0,.int .u64 0,.int .u64 0,.int .u64 0]):=⟨_,rfl⟩
 obtain⟨O,Y⟩:∃O,O=m.size:=⟨_,rfl⟩
 have Z:I.get O=some (.cells false s1 [.int .i64 0,.int .u64 0,.int .u64 0,.int .u64 0,.int .u64 0]):=by rw[E,Y,Mem.get_push_new]
 have a2:More m I:=by rw[E];exact More.push _ _
 rw[←E,←Y]
 have a7:(I.set O (some (.cells false s1 (setCells (qe n false))))).get O=some (.cells false s1 (setCells (qe n false))):=Mem.get_set_same Z _
 have a8:More m (I.set O (some (.cells false s1 (setCells (qe n false))))):=⟨fun b x hb=>by rw[Mem.get_set_ne (by have:=Mem.get_lt hb;omega)];exact a2.get b x hb,by rw[Mem.size_set];exact a2.size⟩
 refine J0 (J1 ?_)
 simp only[zZ,reduceIte,yQ,yW,yX,yZ,yJ,yK,yV,zDk,vMax_int,vMin_int,e1,e2,aa,agg_cells,Z,U]
 refine Qz ?_
 simp only[zZ,reduceIte,yQ,yW,yX,yZ,yJ,yK,yV,zDk,mEnd,sAnswer,sAnswer.sRes,Q4,a7,row]
 exact⟨_,tR _,a8⟩
theorem bnew_at(n:Nat)(hn:n≤256)(m:Mem):
 Abs.Spec qd 34 [.int .i64 (n:Nat)] m fun u M=>u=QG (qe n false)∧M=m:=
 Abs.Spec.of_empty (by intro x hx;simp at hx;subst hx;rfl) rfl ((bnew_spec n hn ⟨[]⟩).mono fun _ _ h=>h.1) m
theorem size_spec(l:List Bool)(m:Mem):
 Abs.Spec qd 147 [QG l] m fun u M=>u=.int .i64 (l.length:Nat)∧More m M:=by
 refine Abs.Spec.walkM Tryz.func147 (by rfl) _ Tryz.results147 _ Tryz.ntmps147 (by simp) ?_
 intro hc hx k
 have E:=bx_set l
 generalize J6 qd 43=s1 at E
 refine J0 (J1 ?_)
 simp only[zZ,reduceIte,yQ,yW,yX,yZ,yJ,yK,yV,zDk,E]
 refine J0 (J1 ?_)
 simp only[zZ,reduceIte,yQ,yW,yX,yZ,yJ,yK,yV,zDk,Mem.get_push_new,set_len]
 refine Qz ?_
 simp only[zZ,reduceIte,yQ,yW,yX,yZ,yJ,yK,yV,zDk,mEnd,sAnswer,sAnswer.sRes]
 exact⟨_,tR _,More.push _ _⟩
theorem size_at(l:List Bool)(m:Mem):
 Abs.Spec qd 147 [QG l] m fun u M=>u=.int .i64 (l.length:Nat)∧M=m:=
 Abs.Spec.of_empty (by intro x hx;simp at hx;subst hx;rfl) rfl ((size_spec l ⟨[]⟩).mono fun _ _ h=>h.1) m
def JV(n:Nat)(l:List Bool):List Value:=[.int .i64 (n:Nat),.int .u64 (Jj l 0:Nat),.int .u64 (Jj l 1:Nat),.int .u64 (Jj l 2:Nat),.int .u64 (Jj l 3:Nat)]
def rawV(n:Nat)(l:List Bool):Value:=.agg (JV n l).toArray
def QA(l m:List Bool)(n:Nat):Bool:=(qp n).all fun i=> !(l.getD i false)||m.getD i false
theorem andNot_zero(a b:Nat)(ha:a<18446744073709551616)(hb:b<18446744073709551616):(bits .andNot .u64 (a:Int) (b:Int)=0)↔∀k,k<64→a.testBit k=true→b.testBit k=true:=by
 have e:bits .andNot .u64 (a:Int) (b:Int)=((BitVec.ofInt 64 (a:Int)&&& ~~~ (BitVec.ofInt 64 (b:Int))).toNat:Int):=by
  show IntKind.u64.wrap _=_
  exact XX _ (BitVec.isLt _)
 rw[e]
 have Y:∀k,k<64→(BitVec.ofInt 64 (a:Int)).getLsbD k=a.testBit k:=fun k E=>by rw[←BitVec.testBit_toNat,VH a ha]
 have hB:∀k,k<64→(BitVec.ofInt 64 (b:Int)).getLsbD k=b.testBit k:=fun k E=>by rw[←BitVec.testBit_toNat,VH b hb]
 constructor
 ·intro h k E O
  have I:(BitVec.ofInt 64 (a:Int)&&& ~~~ (BitVec.ofInt 64 (b:Int)))=0#64:=BitVec.eq_of_toNat_eq (by simpa using h)
  have U:=congrArg (fun v=>BitVec.getLsbD v k) I
  simp only[BitVec.getLsbD_and,BitVec.getLsbD_not,Y k E,hB k E,O,E,decide_true,qD,BitVec.getLsbD_zero,Bool.not_eq_false']at U
  exact U
 ·intro h
  have I:(BitVec.ofInt 64 (a:Int)&&& ~~~ (BitVec.ofInt 64 (b:Int)))=0#64:=by
   apply BitVec.eq_of_getLsbD_eq
   intro k E
   simp only[BitVec.getLsbD_and,BitVec.getLsbD_not,Y k E,hB k E,E,decide_true,qD,BitVec.getLsbD_zero]
   cases ha':a.testBit k
   ·rfl
   ·rw[h k E ha'];rfl
  rw[I];rfl
theorem withinB_word(l m:List Bool)(j:Nat):QA l m (64*(j+1))=(QA l m (64*j)&&decide (bits .andNot .u64 (Jj l j:Nat) (Jj m j:Nat)=0)):=by
 rw[qF,qq,decide_eq_true_eq,andNot_zero _ _ (Vd l j) (Vd m j)]
 unfold QA
 simp only[qw,qr,Bool.or_eq_true,Bool.not_eq_true']
 constructor
 ·intro h
  refine⟨fun i hi=>h i (by omega),fun k hk hl=>?_⟩
  rw[Qx _ _ _ hk]at hl ⊢
  rcases h (64*j+k) (by omega)with E|E
  ·rw[E]at hl;cases hl
  ·exact E
 ·rintro⟨E,h2⟩ i hi
  by_cases hj:i<64*j
  ·exact E i hj
  ·have:=h2 (i-64*j) (by omega)
   rw[Qx _ _ _ (by omega),Qx _ _ _ (by omega),show 64*j+(i-64*j)=i by omega]at this
   cases hl:l.getD i false
   ·exact .inl rfl
   ·exact .inr (this hl)
def chainO:List (Option Bool)→Option Bool
 | []=>some true
 |o::r=>match o with
  |some true=>chainO r
  |some false=>some false
  |none=>none
theorem chainO_eq:∀l:List Bool,chainO (l.map some)=some (l.all id)
 | []=>rfl
 |true::r=>by simp only[qL,chainO,chainO_eq r,qT,id,qD]
 |false::r=>by simp only[qL,chainO,qT,id,Bool.false_and]
def sameRaw(n:Nat)(l:List Bool)(n':Nat)(m:List Bool):Bool:=[((n:Nat):Int)==(n':Nat),((Jj l 0:Nat):Int)==(Jj m 0:Nat),((Jj l 1:Nat):Int)==(Jj m 1:Nat),((Jj l 2:Nat):Int)==(Jj m 2:Nat),((Jj l 3:Nat):Int)==(Jj m 3:Nat)].all id
theorem set_eql(cx:Bool)(n n':Nat)(l m:List Bool):aBin qd .eql 43 cx (rawV n l) (rawV n' m)=some (.bool (sameRaw n l n' m)):=by
 have E:aBin qd .eql 43 cx (rawV n l) (rawV n' m)=(chainO [some (((n:Nat):Int)==(n':Nat)),chainO ([((Jj l 0:Nat):Int)==(Jj m 0:Nat),((Jj l 1:Nat):Int)==(Jj m 1:Nat),((Jj l 2:Nat):Int)==(Jj m 2:Nat),((Jj l 3:Nat):Int)==(Jj m 3:Nat)].map some)]).map fun b=>.bool b:=by cases cx<;>kernel_rfl
 rw[E,chainO_eq]
 unfold sameRaw
 cases h1:(((n:Nat):Int)==(n':Nat))
 ·rfl
 ·simp only[chainO,qT,id,qD,List.all_nil,Bool.and_true]
  cases(((Jj l 0:Nat):Int)==(Jj m 0:Nat))<;>cases(((Jj l 1:Nat):Int)==(Jj m 1:Nat))<;>cases(((Jj l 2:Nat):Int)==(Jj m 2:Nat))<;>cases(((Jj l 3:Nat):Int)==(Jj m 3:Nat))<;>rfl
theorem bx_raw(n:Nat)(l:List Bool):QU qd 43 (rawV n l)=some (.cells false (J6 qd 43) (JV n l)):=bx_Set _ rfl
theorem raw_cell(n:Nat)(l:List Bool)(j:Nat)(hj:j<4):(JV n l)[1+j]?=some (.int .u64 (Jj l j:Nat)):=by
 match j,hj with
 |0,_=>rfl
 |1,_=>rfl
 |2,_=>rfl
 |3,_=>rfl
theorem sameRaw_within{n n':Nat}{l m:List Bool}(h:sameRaw n l n' m=true):QA l m 256=true:=by
 unfold sameRaw at h
 simp only[qT,List.all_nil,id,Bool.and_true,qq,beq_iff_eq,Int.ofNat_inj]at h
 obtain⟨_,I,E,h2,O⟩:=h
 unfold QA
 rw[qw]
 intro i hi
 rw[qr]at hi
 have e:Jj l (i/64)=Jj m (i/64):=by
  rcases(by omega:i/64=0∨i/64=1∨i/64=2∨i/64=3)with e|e|e|e<;>rw[e]<;>assumption
 have a:=Qx l (i/64) (i%64) (qC _ (by decide))
 have b:=Qx m (i/64) (i%64) (qC _ (by decide))
 rw[qx]at a b
 rw[←a,←b,e]
 cases(Jj m (i/64)).testBit (i%64)<;>rfl
theorem withinB_less{l m:List Bool}{a b:Nat}(h:QA l m b=true)(hab:a≤b):QA l m a=true:=by
 unfold QA at*
 rw[qw]at*
 intro i hi
 rw[qr]at hi
 exact h i (qr.2 (by omega))
theorem within_spec(n n':Nat)(l l':List Bool)(m:Mem):
 Abs.Spec qd 13 [rawV n l,rawV n' l'] m fun u M=>u=.bool (QA l l' 256)∧More m M:=by
 refine Abs.Spec.walkM Tryz.func13 (by rfl) _ Tryz.results13 _ Tryz.ntmps13 (by simp) ?_
 intro hc hx k
 have bx:=bx_raw n l
 have aa:=bx_raw n' l'
 generalize J6 qd 43=s1 at bx aa
 have row:∀n l,Js 5 0 (some (.cells false s1 (JV n l)))=some (rawV n l):=fun n l=>rfl
 have a2:∀n l,Js 4 1 (some (.cells false s1 (JV n l)))=some (wordsV l):=fun n l=>rfl
 obtain⟨M1,I⟩:∃M1,M1=m.push (.cells false s1 (JV n l)):=⟨_,rfl⟩
 obtain⟨O,E⟩:∃O,O=M1.push (.cells false s1 (JV n' l')):=⟨_,rfl⟩
 obtain⟨b1,Z⟩:∃b,b=m.size:=⟨_,rfl⟩
 obtain⟨b2,a8⟩:∃b,b=M1.size:=⟨_,rfl⟩
 have am:M1.size=m.size+1:=by rw[I,Mem.size_push]
 have g1:O.get b1=some (.cells false s1 (JV n l)):=by rw[E,Mem.get_push_old (by omega),I,Z,Mem.get_push_new]
 have g2:O.get b2=some (.cells false s1 (JV n' l')):=by rw[E,a8,Mem.get_push_new]
 have U:More m O:=by rw[E,I];exact(More.push _ _).trans (More.push _ _)
 refine J0 (J1 ?_)
 simp only[zZ,reduceIte,yQ,yW,yX,yZ,yJ,yK,yV,zDk,bx,aa]
 rw[←I,←E,←Z,←a8]
 refine J0 (J0 (J1 ?_))
 simp only[zZ,reduceIte,yQ,yW,yX,yZ,yJ,yK,yV,zDk,g1,g2,row,set_eql]
 refine Qc (sameRaw n l n' l') (by rfl) (fun h=>J0 (J1 ?_)) (fun h=>J3 ?_)
 ·simp only[zZ,reduceIte,yQ,yW,yX,yZ,yJ,yK,yV,zDk]
  refine Qz ?_
  simp only[zZ,reduceIte,yQ,yW,yX,yZ,yJ,yK,yV,zDk,mEnd,sAnswer,sAnswer.sRes]
  exact⟨O,tR _,by rw[sameRaw_within h],U⟩
 simp only[zZ,reduceIte,yQ,yW,yX,yZ,yJ,yK,yV]
 refine J0 (J0 (J1 ?_))
 simp only[zZ,reduceIte,yQ,yW,yX,yZ,yJ,yK,yV,zDk,g1,a2]
 refine J7 (Jr (fun j f M'=>∃i:Nat,j=4-i∧f=[(3,.pointer (some ⟨b2,0,none⟩)),(11,wordsV l),(12,.int .i64 (i:Nat))]∧i≤4∧QA l l' (64*i)=true∧M'=O) 4 ?_ ?_)
 ·refine⟨[3,11,12],?_⟩
  simp only[zZ,reduceIte,yQ,yW,yX,yZ,yJ,yK,yV,keepF]
  exact⟨O,tR _,0,rfl,rfl,by omega,rfl,rfl⟩
 ·rintro j f M' ⟨i,rfl,rfl,hi,a6,rfl⟩
  refine J0 (J1 ?_)
  simp only[zZ,reduceIte,yQ,yW,yX,yZ,yJ,yK,yV,zDk]
  refine J0 (Qc (decide ((i:Int)<4)) (by rfl) (fun hq=>J3 ?_) (fun hq=>Jn ?_))
  ·have ac:=of_decide_eq_true hq
   have z0:(0:Int)≤(i:Int):=by omega
   have z4:(i:Int)<((4:Nat):Int):=by omega
   have w9:IntKind.i64.wrap ((i:Int)+1)=((i+1:Nat):Int):=by rw[Xn (by omega) (by omega)];omega
   have Y:=raw_cell n' l' i (by omega)
   have ab:=withinB_word l l' i
   rw[a6,qD]at ab
   obtain⟨A,hA⟩:∃A,A=bits .andNot .u64 (Jj l i:Nat) (Jj l' i:Nat):=⟨_,rfl⟩
   have ae:XW .andNot .u64 ((Jj l i:Nat):Int) ((Jj l' i:Nat):Int)=some (.int .u64 A):=by rw[hA];rfl
   have ad:(A !=0)= !QA l l' (64*(i+1)):=by
    rw[ab,←hA]
    by_cases e:A=0
    ·simp[e]
    ·simp[e]
   simp only[zZ,reduceIte,yQ,yW,yX,yZ,yJ,yK,yV]
   refine J0 (J7 (J0 (J1 ?_)))
   simp only[zZ,reduceIte,yQ,yW,yX,yZ,yJ,yK,yV,zDk,ix_W4 l i (by omega)]
   refine J0 (J1 ?_)
   simp only[zZ,reduceIte,yQ,yW,yX,yZ,yJ,yK,yV,zDk,g2,z0,z4,and_self,qk,Y,ae,ad]
   refine Qc (!QA l l' (64*(i+1))) (by rfl) (fun hb=>J0 (J1 ?_)) (fun hb=>J3 ?_)
   ·have hb:QA l l' (64*(i+1))=false:=by simpa using hb
    have e:QA l l' 256=false:=by
     cases h2:QA l l' 256
     ·rfl
     ·rw[withinB_less h2 (by omega)]at hb;cases hb
    simp only[zZ,reduceIte,yQ,yW,yX,yZ,yJ,yK,yV,zDk]
    refine Qz ?_
    simp only[zZ,reduceIte,yQ,yW,yX,yZ,yJ,yK,yV,zDk,mEnd,sAnswer,sAnswer.sRes]
    exact⟨_,tR _,by rw[e],U⟩
   ·have hb:QA l l' (64*(i+1))=true:=by simpa using hb
    simp only[zZ,reduceIte,yQ,yW,yX,yZ,yJ,yK,yV]
    refine J1 ?_
    simp only[zZ,reduceIte,yQ,yW,yX,yZ,yJ,yK,yV,zDk,w9]
    refine⟨[3,11,12],?_⟩
    simp only[zZ,reduceIte,yQ,yW,yX,yZ,yJ,yK,yV,keepF]
    exact⟨_,tR _,4-(i+1),⟨i+1,rfl,rfl,by omega,hb,rfl⟩,by omega⟩
  ·have ac:=of_decide_eq_false hq
   have hE:i=4:=by omega
   subst hE
   simp only[zZ,reduceIte,yQ,yW,yX,yZ,yJ,yK,yV]
   refine J0 (J1 ?_)
   simp only[zZ,reduceIte,yQ,yW,yX,yZ,yJ,yK,yV,zDk]
   refine Qz ?_
   simp only[zZ,reduceIte,yQ,yW,yX,yZ,yJ,yK,yV,zDk,mEnd,sAnswer,sAnswer.sRes]
   exact⟨_,tR _,by rw[←a6],U⟩
theorem within_at(n n':Nat)(l l':List Bool)(m:Mem):
 Abs.Spec qd 13 [rawV n l,rawV n' l'] m fun u M=>u=.bool (QA l l' 256)∧M=m:=
 Abs.Spec.of_empty (by intro x hx;simp at hx;rcases hx with rfl|rfl<;>rfl) rfl ((within_spec n n' l l' ⟨[]⟩).mono fun _ _ h=>h.1) m
theorem XY(get:Nat→Option Blk)(s:ByteArray)(k:Nat)(h:k≤s.size):JX qd get 9 (.string s) none (some (.int .i64 (k:Int)))=some (.string (str (s.data.toList.take k))):=by
 have E:JB s=s.size:=rfl
 unfold JX X5
 simp only[Tryz.underlying9,E]
 rw[if_pos (by omega)]
 rfl
theorem ZK(get:Nat→Option Blk)(l:List UInt8)(a:Nat)(h:a≤l.length):
 JX qd get 9 (.string (str l)) (some (.int .i64 (a:Nat))) none=some (.string (str (l.drop a))):=by
 have E:JB (str l)=l.length:=rfl
 unfold JX X5
 simp only[Tryz.underlying9,E]
 rw[if_pos (by omega)]
 show some (Value.string (str ((l.drop a).take (l.length-a))))=_
 rw[qu (by simp)]
def UD(n:Nat):Int:=IntKind.i64.wrap (n:Int)
theorem wr64_eq(n:Nat):UD n=(n:Int)%18446744073709551616∨UD n=(n:Int)%18446744073709551616-18446744073709551616:=by unfold UD;rw[IntKind.wrap_i64];omega
theorem wr64_mod(n:Nat):UD n%18446744073709551616=(n:Int)%18446744073709551616:=by rcases wr64_eq n with h|h<;>rw[h]<;>omega
theorem ofInt_wr64(n:Nat):(BitVec.ofInt 64 (UD n)).toNat=n%18446744073709551616:=by
 rw[BitVec.toNat_ofInt]
 have:=wr64_mod n
 have e:(2:Int)^64=18446744073709551616:=by decide
 show(UD n%((2^64:Nat):Int)).toNat=_
 rw[show((2^64:Nat):Int)=18446744073709551616 by decide,this]
 omega
theorem or_byte(x c:Nat)(hc:c<256):(256*x)|||c=256*x+c:=(Nat.two_pow_add_eq_or_of_lt (i:=8) hc x).symm
theorem take_step(n c:Nat)(hc:c<256):bits .or .i64 (IntKind.i64.wrap (UD n*2^min 8 IntKind.i64.bits)) (c:Int)=UD (n*256+c):=by
 have E:IntKind.i64.wrap (UD n*2^min 8 IntKind.i64.bits)=UD (n*256):=by
  show IntKind.i64.wrap (UD n*256)=_
  unfold UD
  rw[IntKind.wrap_i64,IntKind.wrap_i64,IntKind.wrap_i64]
  omega
 rw[E]
 show IntKind.i64.wrap ((BitVec.ofInt 64 (UD (n*256))|||BitVec.ofInt 64 (c:Int)).toNat:Int)=_
 rw[BitVec.toNat_or,ofInt_wr64,ZO c (by omega)]
 have I:n*256%18446744073709551616|||c=n*256%18446744073709551616+c:=by
  have:n*256%18446744073709551616=256*(n%72057594037927936):=by omega
  rw[this];exact or_byte _ c hc
 rw[I]
 unfold UD
 rw[IntKind.wrap_i64,IntKind.wrap_i64]
 omega
theorem to_bytes(l:List UInt8)(h:l.length≤1000000):VW qd 9 172 (str l)=some (.cells false 1 (J5 l)):=by
 have E:JB (str l)=l.length:=rfl
 unfold VW
 simp only[Tryz.underlying9,Tryz.underlying172,Tryz.underlying5,E]
 rw[if_pos (by omega)]
 rfl
theorem ld_u8c(get:Nat→Option Blk)(b o:Nat):gLoad qd get 5 (.pointer (some ⟨b,o,none⟩))=cellIn o (get b):=Xc Tryz.underlying5 rfl get b o
theorem cell_u8(l:List UInt8)(i:Nat)(c:UInt8)(h:l[i]?=some c):(J5 l)[i]?=some (.int .u8 (c.toNat:Nat)):=by
 unfold J5
 rw[List.getElem?_map,h];rfl
theorem num_snoc'(l:List UInt8)(c:UInt8):Sha.num (l++[c])=Sha.num l*256+c.toNat:=Sha.num_snoc l c
theorem take8_spec(s:List UInt8)(hs:8≤s.length)(hsz:s.length≤1000000)(m:Mem):
 Abs.Spec qd 87 [.string (str s),.int .i64 8] m fun u M=>u=.tuple #[.int .i64 (UD (Sha.num (s.take 8))),.string (str (s.drop 8)),.int .i64 0]∧More m M:=by
 refine Abs.Spec.walkM Tryz.func87 (by rfl) _ Tryz.results87 _ Tryz.ntmps87 (by simp) ?_
 intro hc hx k
 have aa:JB (str s)=s.length:=rfl
 have a6:JB (str (s.take 8))=8:=by show(s.take 8).length=8;rw[qv];omega
 have q8:decide ((s.length:Int)<8)=false:=decide_eq_false (by omega)
 have Z:∀get,JX qd get 9 (.string (str s)) none (some (.int .i64 8))=some (.string (str (s.take 8))):=fun get=>XY get (str s) 8 (by rw[str_size];omega)
 have ac:∀get,JX qd get 9 (.string (str s)) (some (.int .i64 8)) none=some (.string (str (s.drop 8))):=fun get=>ZK get s 8 hs
 refine J0 (J1 ?_)
 simp only[zZ,reduceIte,yQ,yW,yX,yZ,yJ,yK,yV,zDk]
 have qa:decide ((8:Int)<1)=false:=rfl
 have qb:decide ((8:Int)>8)=false:=rfl
 refine J0 (J7 (J0 (J1 ?_)))
 simp only[zZ,reduceIte,yQ,yW,yX,yZ,yJ,yK,yV,zDk,decide_false]
 refine Qc false (by rfl) (fun h=>by cases h) (fun _=>J0 (J1 ?_))
 simp only[zZ,reduceIte,yQ,yW,yX,yZ,yJ,yK,yV,zDk,aa,q8]
 refine Qc false (by rfl) (fun h=>by cases h) (fun _=>J3 ?_)
 simp only[zZ,reduceIte,yQ,yW,yX,yZ,yJ,yK,yV,zDk]
 refine J0 (J1 ?_)
 simp only[zZ,reduceIte,yQ,yW,yX,yZ,yJ,yK,yV,zDk]
 refine J0 (J0 (J1 ?_))
 simp only[zZ,reduceIte,yQ,yW,yX,yZ,yJ,yK,yV,zDk,Z,to_bytes (s.take 8) (by rw[qv];omega),a6]
 obtain⟨O,I⟩:∃O,O=m.push (.cells false 1 (J5 (s.take 8))):=⟨_,rfl⟩
 obtain⟨Y,U⟩:∃Y,Y=m.size:=⟨_,rfl⟩
 have a7:O.get Y=some (.cells false 1 (J5 (s.take 8))):=by rw[I,U,Mem.get_push_new]
 have ab:More m O:=by rw[I];exact More.push _ _
 rw[←I,←U]
 have a8:=Zu
 have sz:=XB
 refine J7 (Jr (fun j f M'=>∃i:Nat,j=8-i∧f=[(0,.string (str s)),(1,.int .i64 8),(7,.int .i64 (UD (Sha.num (s.take i)))),(25,.slice (some ⟨Y,0,none⟩) 8 8),(26,.int .i64 (8:Nat)),(27,.int .i64 (i:Nat))]∧i≤8∧M'=O) 8 ?_ ?_)
 ·refine⟨[0,1,7,25,26,27],?_⟩
  simp only[zZ,reduceIte,yQ,yW,yX,yZ,yJ,yK,yV,keepF]
  exact⟨O,tR _,0,rfl,rfl,by omega,rfl⟩
 ·rintro j f M' ⟨i,rfl,rfl,hi,rfl⟩
  refine J0 (J1 ?_)
  simp only[zZ,reduceIte,yQ,yW,yX,yZ,yJ,yK,yV,zDk]
  refine J0 (Qc (decide ((i:Int)<((8:Nat):Int))) (by rfl) (fun hq=>J3 ?_) (fun hq=>Jn ?_))
  ·have a2:=of_decide_eq_true hq
   obtain⟨c,hC⟩:∃c,s[i]?=some c:=⟨_,qo (by omega)⟩
   have ad:(s.take 8)[i]?=some c:=by rw[qH,if_pos (by omega)];exact hC
   have z0:(0:Int)≤(i:Int):=by omega
   have z1:(i:Int)<((8:Nat):Int):=by omega
   have E:=cell_u8 _ _ _ ad
   have ak:=c.toNat_lt
   have wc:IntKind.i64.wrap ((c.toNat:Nat):Int)=((c.toNat:Nat):Int):=Xn (by omega) (by omega)
   have ws:=take_step (Sha.num (s.take i)) c.toNat (by omega)
   rw[←num_snoc',show s.take i++[c]=s.take (i+1) by rw[List.take_add_one,hC];rfl]at ws
   have w9:IntKind.i64.wrap ((i:Int)+1)=((i+1:Nat):Int):=by rw[Xn (by omega) (by omega)];omega
   simp only[zZ,reduceIte,yQ,yW,yX,yZ,yJ,yK,yV]
   refine J0 (J7 (J0 (J1 ?_)))
   simp only[zZ,reduceIte,yQ,yW,yX,yZ,yJ,yK,yV,zDk,z0,z1,and_self,a8,sz,Nat.mul_one,ld_u8c,a7,E]
   refine J1 ?_
   simp only[zZ,reduceIte,yQ,yW,yX,yZ,yJ,yK,yV,zDk,wc,ws]
   refine J1 ?_
   simp only[zZ,reduceIte,yQ,yW,yX,yZ,yJ,yK,yV,zDk,w9]
   refine⟨[0,1,7,25,26,27],?_⟩
   simp only[zZ,reduceIte,yQ,yW,yX,yZ,yJ,yK,yV,keepF]
   exact⟨_,tR _,8-(i+1),⟨i+1,rfl,rfl,by omega,rfl⟩,by omega⟩
  ·have a2:=of_decide_eq_false hq
   obtain rfl:i=8:=by omega
   simp only[zZ,reduceIte,yQ,yW,yX,yZ,yJ,yK,yV]
   refine J0 (QF hmix 5 (by kernel_rfl) (by kernel_rfl) ?_)
   simp only[zZ,reduceIte,yQ,yW,yX,yZ,yJ,yK,yV,zDk,ac]
   refine Qz ?_
   simp only[zZ,reduceIte,yQ,yW,yX,yZ,yJ,yK,yV,zDk,mEnd,sAnswer,sAnswer.sRes]
   exact⟨_,tR _,ab⟩
theorem take8_at(s:List UInt8)(hs:8≤s.length)(hsz:s.length≤1000000)(m:Mem):
 Abs.Spec qd 87 [.string (str s),.int .i64 8] m fun u M=>u=.tuple #[.int .i64 (UD (Sha.num (s.take 8))),.string (str (s.drop 8)),.int .i64 0]∧M=m:=
 Abs.Spec.of_empty (by intro x hx;simp at hx;rcases hx with rfl|rfl<;>rfl) rfl ((take8_spec s hs hsz ⟨[]⟩).mono fun _ _ h=>h.1) m
theorem lastOf_put(L:QZ)(i:Nat)(s:List UInt8)(c j:Nat):Jt (putL L i s c) j=if j=i then some s else Jt L j:=by
 unfold putL
 cases h:Jt L i with
 |none=>
  simp only
  unfold Jt
  rw[List.find?_append]
  by_cases e:j=i
  ·subst e
   rw[if_pos rfl]
   have:L.find? (fun x=>x.1==j)=none:=by
    unfold Jt at h
    exact Option.map_eq_none_iff.1 h
   rw[this]
   simp
  ·rw[if_neg e]
   have I:(i==j)=false:=by simpa using fun h=>e h.symm
   simp[I]
 |some t=>
  simp only
  induction L with
  |nil=>simp[Jt]at h
  |cons x L ih=>
   unfold Jt at h ih ⊢
   by_cases hx:x.1=i
   ·rw[qL,if_pos hx]
    by_cases e:j=i
    ·subst e;simp
    ·have I:(i==j)=false:=by simpa using fun h=>e h.symm
     have Z:(x.1==j)=false:=by rw[hx];exact I
     rw[if_neg e,qt,qt]
     simp only[I,Z]
     have key:∀l:QZ,(l.map fun x=>if x.1=i then(i,s,x.2.2)else x).find? (fun x=>x.1==j)=l.find? fun x=>x.1==j:=by
      intro l
      induction l with
      |nil=>rfl
      |cons y l ih2=>
       rw[qL,qt,qt,ih2]
       by_cases hy:y.1=i
       ·rw[if_pos hy]
        have Y:(y.1==j)=false:=by rw[hy];exact I
        simp only[I,Y]
       ·rw[if_neg hy]
     rw[key]
   ·rw[qL,if_neg hx,qt]
    have U:(x.1==i)=false:=by simpa using hx
    rw[qt,U]at h
    have O:=ih h
    by_cases hj:x.1=j
    ·have e:¬j=i:=fun e=>hx (hj.trans e)
     have E:(x.1==j)=true:=by simpa using hj
     rw[if_neg e,E,qt,E]
    ·have E:(x.1==j)=false:=by simpa using hj
     rw[E,qt,E]
     exact O
namespace Dsk
def poss(d:Dsk)(i:Nat)(s:List UInt8):Prop:=d.old[i]?=some s∨Jt d.last i=some s
def live(d:Dsk):Prop:=d.dead=false∧d.fuse= -1
theorem poss_sector{d:Dsk}{i:Nat}(h:i<d.old.length):d.poss i (d.sector i):=by
 unfold poss sector
 cases hl:Jt d.last i with
 |some s=>exact .inr rfl
 |none=>left;rw[qo h];rfl
theorem poss_lt{d:Dsk}(hok:d.Ok){i:Nat}{s:List UInt8}(h:d.poss i s):i<d.old.length∧s.length=256:=by
 rcases h with h|h
 ·obtain⟨E,rfl⟩:=qG.1 h
  exact⟨E,hok.size _ (List.getElem_mem E)⟩
 ·obtain⟨b,hb⟩:=lastOf_some h
  exact hok.within _ hb
theorem put_last(d:Dsk)(i:Nat)(s:List UInt8)(j:Nat):Jt (d.put i s).last j=if j=i then some s else Jt d.last j:=lastOf_put d.last i s d.clock j
theorem put_poss{d:Dsk}{i j:Nat}{s t:List UInt8}(h:(d.put i s).poss j t):d.poss j t∨(j=i∧t=s):=by
 rcases h with h|h
 ·exact .inl (.inl h)
 ·rw[put_last]at h
  by_cases e:j=i
  ·rw[if_pos e]at h;exact .inr ⟨e,(Option.some.inj h).symm⟩
  ·rw[if_neg e]at h;exact .inl (.inr h)
theorem put_sector(d:Dsk)(i:Nat)(s:List UInt8)(j:Nat):(d.put i s).sector j=if j=i then s else d.sector j:=by
 unfold sector
 rw[put_last]
 by_cases e:j=i
 ·rw[if_pos e,if_pos e];rfl
 ·rw[if_neg e,if_neg e];rfl
theorem burnt_poss{d:Dsk}{j:Nat}{t:List UInt8}:d.burnt.poss j t↔d.poss j t:=by unfold poss;rw[Qb,Kx]
theorem ZF(d:Dsk)(j:Nat):d.burnt.sector j=d.sector j:=by unfold sector;rw[Qb,Kx]
theorem burnt_live{d:Dsk}(h:d.live):d.burnt.live:=by
 obtain⟨E,h2⟩:=h
 unfold burnt
 rw[if_neg (by omega)]
 exact⟨E,by simp only;omega⟩
theorem write_eq{d:Dsk}{i:Nat}{x:List UInt8}(hi:i<d.old.length)(hx:x.length≤256):
 d.write (i:Int) x=if d.dead=true then(d,7)else if d.fuse=0 then(d.burnt,7)else(d.burnt.put i (Jf x),0):=by
 unfold write may
 by_cases hd:d.dead=true
 ·rw[if_pos hd,if_pos hd];rfl
 ·rw[if_neg hd,if_neg hd,if_neg (by omega),if_neg (by omega),qk]
theorem write_poss{d:Dsk}{i j:Nat}{x t:List UInt8}(hi:i<d.old.length)(hx:x.length≤256)(h:(d.write (i:Int) x).1.poss j t):d.poss j t∨(j=i∧t=Jf x):=by
 rw[write_eq hi hx]at h
 split at h
 ·exact .inl h
 ·split at h
  ·exact .inl (burnt_poss.1 h)
  ·rcases put_poss h with h|h
   ·exact .inl (burnt_poss.1 h)
   ·exact .inr h
theorem write_old{d:Dsk}{i:Nat}{x:List UInt8}(hi:i<d.old.length)(hx:x.length≤256):(d.write (i:Int) x).1.old=d.old:=by
 rw[write_eq hi hx]
 split
 ·rfl
 ·split
  ·exact Qb d
  ·show d.burnt.old=_;exact Qb d
theorem write_ok{d:Dsk}(hok:d.Ok){i:Nat}{x:List UInt8}(hi:i<d.old.length)(hx:x.length≤256):(d.write (i:Int) x).1.Ok:=by
 rw[write_eq hi hx]
 split
 ·exact hok
 ·split
  ·exact hok.burnt
  ·exact hok.burnt.put (by rw[Qb];exact hi) (filled_len hx)
theorem write_sector{d:Dsk}{i:Nat}{x:List UInt8}(hi:i<d.old.length)(hx:x.length≤256)(h0:(d.write (i:Int) x).2=0)(j:Nat):(d.write (i:Int) x).1.sector j=if j=i then Jf x else d.sector j:=by
 rw[write_eq hi hx]at h0 ⊢
 split at h0
 ·cases h0
 ·split at h0
  ·cases h0
  ·rename_i h1 h2
   rw[if_neg h1,if_neg h2]
   simp only
   rw[put_sector,ZF]
theorem write_alive{d:Dsk}{i:Nat}{x:List UInt8}(hi:i<d.old.length)(hx:x.length≤256)(h0:(d.write (i:Int) x).2=0):d.dead=false∧(d.write (i:Int) x).1.dead=false:=by
 rw[write_eq hi hx]at h0 ⊢
 split at h0
 ·cases h0
 ·split at h0
  ·cases h0
  ·rename_i h1 h2
   rw[if_neg h1,if_neg h2]
   refine⟨by simpa using h1,?_⟩
   show d.burnt.dead=false
   unfold burnt
   rw[if_neg h2]
   simpa using h1
theorem write_live{d:Dsk}{i:Nat}{x:List UInt8}(hi:i<d.old.length)(hx:x.length≤256)(h:d.live):(d.write (i:Int) x).2=0∧(d.write (i:Int) x).1.live:=by
 rw[write_eq hi hx,if_neg (by rw[h.1];simp),if_neg (by rw[h.2];decide)]
 exact⟨rfl,burnt_live h⟩
theorem sync_eq{d:Dsk}(hn:0<d.old.length):d.sync=if d.dead=true then(d,7)else if d.fuse=0 then(d.burnt,7)else(d.burnt.synced,0):=by
 unfold sync may
 by_cases hd:d.dead=true
 ·rw[if_pos hd,if_pos hd];rfl
 ·rw[if_neg hd,if_neg hd,if_neg (by omega)]
theorem synced_old(d:Dsk)(i:Nat)(h:i<d.old.length):d.synced.old[i]?=some (d.sector i):=by
 unfold synced sector
 simp only[List.getElem?_mapIdx,qo h,Option.map_some,Option.getD_some]
theorem synced_poss{d:Dsk}{i:Nat}{s:List UInt8}(h:d.synced.poss i s):i<d.old.length∧s=d.sector i:=by
 rcases h with h|h
 ·have hi:i<d.old.length:=by
   have:=(qG.1 h).1
   simpa[synced]using this
  rw[synced_old d i hi]at h
  exact⟨hi,(Option.some.inj h).symm⟩
 ·simp[synced,Jt]at h
theorem synced_sector{d:Dsk}{i:Nat}(h:i<d.old.length):d.synced.sector i=d.sector i:=by
 have E:Jt d.synced.last i=none:=by simp[synced,Jt]
 have h2:=synced_old d i h
 show(Jt d.synced.last i).getD ((d.synced.old[i]?).getD [])=_
 rw[E,h2];rfl
theorem sync_poss{d:Dsk}(hn:0<d.old.length){i:Nat}{s:List UInt8}(h:d.sync.1.poss i s):d.poss i s:=by
 rw[sync_eq hn]at h
 split at h
 ·exact h
 ·split at h
  ·exact burnt_poss.1 h
  ·obtain⟨E,rfl⟩:=synced_poss h
   rw[ZF]
   exact poss_sector (by rw[Qb]at E;exact E)
theorem sync_done{d:Dsk}(hn:0<d.old.length)(h0:d.sync.2=0){i:Nat}{s:List UInt8}(h:d.sync.1.poss i s):s=d.sector i:=by
 rw[sync_eq hn]at h h0
 split at h0
 ·cases h0
 ·split at h0
  ·cases h0
  ·rename_i h1 h2
   rw[if_neg h1,if_neg h2]at h
   obtain⟨_,rfl⟩:=synced_poss h
   exact ZF d i
theorem sync_sector{d:Dsk}(hn:0<d.old.length){i:Nat}(hi:i<d.old.length):d.sync.1.sector i=d.sector i:=by
 rw[sync_eq hn]
 split
 ·rfl
 ·split
  ·exact ZF d i
  ·show d.burnt.synced.sector i=_
   rw[synced_sector (by rw[Qb];exact hi),ZF]
theorem sync_len{d:Dsk}(hn:0<d.old.length):d.sync.1.old.length=d.old.length:=by
 rw[sync_eq hn]
 split
 ·rfl
 ·split
  ·show d.burnt.old.length=_;rw[Qb]
  ·show d.burnt.synced.old.length=_
   simp[synced,Qb]
theorem sync_ok{d:Dsk}(hok:d.Ok):d.sync.1.Ok:=by
 rw[sync_eq hok.pos]
 split
 ·exact hok
 ·split
  ·exact hok.burnt
  ·exact hok.burnt.synced
theorem sync_live{d:Dsk}(hn:0<d.old.length)(h:d.live):d.sync.2=0∧d.sync.1.live:=by
 rw[sync_eq hn,if_neg (by rw[h.1];simp),if_neg (by rw[h.2];decide)]
 exact⟨rfl,burnt_live h⟩
theorem crash_old(d:Dsk)(bits:Int)(i:Nat)(h:i<d.old.length):∃s,(d.crash bits).old[i]?=some s∧d.poss i s:=by
 unfold crash
 simp only[List.getElem?_mapIdx,qo h,Option.map_some]
 refine⟨_,rfl,?_⟩
 unfold poss
 split
 ·cases hl:Jt d.last i with
  |some s=>exact .inr rfl
  |none=>left;rw[qo h];rfl
 ·left;exact qo h
theorem crash_len(d:Dsk)(bits:Int):(d.crash bits).old.length=d.old.length:=by simp[crash]
theorem crash_live(d:Dsk)(bits:Int):(d.crash bits).live:=⟨rfl,rfl⟩
theorem crash_poss{d:Dsk}{bits:Int}{i:Nat}{s:List UInt8}(h:(d.crash bits).poss i s):d.poss i s∧s=(d.crash bits).sector i:=by
 rcases h with h|h
 ·have hi:i<d.old.length:=by have:=(qG.1 h).1;rwa [crash_len]at this
  obtain⟨t,E,h2⟩:=crash_old d bits i hi
  rw[h]at E;cases E
  refine⟨h2,?_⟩
  have hl:Jt (d.crash bits).last i=none:=by simp[crash,Jt]
  show _=(Jt (d.crash bits).last i).getD (((d.crash bits).old[i]?).getD [])
  rw[hl,h];rfl
 ·simp[crash,Jt]at h
theorem crash_ok{d:Dsk}(hok:d.Ok)(bits:Int):(d.crash bits).Ok:=by
 refine⟨by rw[crash_len];exact hok.n,by rw[crash_len];exact hok.pos,fun s hs=>?_,by simp[crash],by simp[crash],fun x hx=>by simp[crash]at hx,fun x hx=>by simp[crash]at hx,by simp[crash],trivial⟩
 obtain⟨i,hi,rfl⟩:=List.getElem_of_mem hs
 have E:i<d.old.length:=by rwa [crash_len]at hi
 obtain⟨t,I,h2⟩:=crash_old d bits i E
 rw[qo hi]at I
 cases I
 exact(poss_lt hok h2).2
end Dsk
end Go.Proofs.YthohbneadomgdaaGreatDoor
namespace Go.Proofs.YthohbneadomgdaaGreatDoor
open Go.RowKit Abs
theorem dropW_nil{p:UInt8→Bool}:∀{l:List UInt8},l.dropWhile p=[]↔∀b∈l,p b=true
 | []=>by simp
 |a::l=>by
  rw[List.dropWhile_cons]
  by_cases h:p a=true
  ·rw[if_pos h,dropW_nil]
   simp[h]
  ·rw[if_neg h]
   simp[h]
theorem UH(l:List UInt8):JL l=[]↔∀b∈l,b=0:=by
 unfold JL Lib.trimB Lib.trimLeftB Lib.trimRightB
 rw[dropW_nil]
 constructor
 ·intro h b hb
  by_cases hz:l.reverse.dropWhile (·==0)=[]
  ·have:=dropW_nil.1 hz b (by simpa using hb)
   simpa using this
  ·exfalso
   have I:(l.reverse.dropWhile (·==0)).head hz∈(l.reverse.dropWhile (·==0)).reverse:=by simp
   have E:=h _ I
   have h2:=List.head_dropWhile_not (·==(0:UInt8)) (w:=hz)
   rw[h2]at E
   cases E
 ·intro h b hb
  rw[List.mem_reverse]at hb
  have:=List.dropWhile_sublist (·==(0:UInt8)) (l:=l.reverse)|>.subset hb
  rw[List.mem_reverse]at this
  simp[h b this]
theorem num_from(l:List UInt8):∀a:Nat,l.foldl (fun n c=>n*256+c.toNat) a=a*256^l.length+l.foldl (fun n c=>n*256+c.toNat) 0:=by
 induction l with
 |nil=>intro a;simp
 |cons c l ih=>
  intro a
  rw[List.foldl_cons,List.foldl_cons,ih,ih (0*256+c.toNat),qA,Nat.pow_succ]
  rw[Nat.add_mul,Nat.zero_mul,Nat.zero_add,Nat.mul_assoc,Nat.mul_comm 256 (256^l.length)]
  omega
theorem num_cons(c:UInt8)(l:List UInt8):Sha.num (c::l)=c.toNat*256^l.length+Sha.num l:=by
 unfold Sha.num
 rw[List.foldl_cons,num_from]
 simp
theorem num_fixed(n:Nat):∀k:Nat,Sha.num (Sha.fixed (n:Int) k)=n%256^k
 |0=>by
  have:Sha.fixed (n:Int) 0=[]:=List.eq_nil_of_length_eq_zero (Sha.fixed_length _ _)
  rw[this];simp[Sha.num];omega
 |k+1=>by
  rw[Ze,num_cons,Sha.fixed_length,num_fixed n k]
  have e:((n:Int)/256^k%256).toNat=n/256^k%256:=by
   have:((n:Int)/256^k%256)=((n/256^k%256:Nat):Int):=by rw[Int.natCast_emod,Int.natCast_ediv,qE];rfl
   rw[this,qk]
  rw[e]
  have hb:(UInt8.ofNat (n/256^k%256)).toNat=n/256^k%256:=by
   rw[UInt8.toNat_ofNat']
   omega
  rw[hb,Nat.pow_succ]
  have I:=qx n (256^k)
  have h2:=qx (n/256^k) 256
  have E:n%(256^k*256)=256^k*(n/256^k%256)+n%256^k:=by rw[Nat.mod_mul,Nat.add_comm]
  rw[E,Nat.mul_comm]
theorem Zq{n:Int}{k:Nat}(h0:0≤n)(h:n<256^k):(Sha.num (Sha.fixed n k):Int)=n:=by
 obtain⟨m,rfl⟩:=qK h0
 rw[num_fixed]
 have:(m:Int)<((256^k:Nat):Int):=by rw[qE];exact h
 rw[Nat.mod_eq_of_lt (by omega)]
theorem ba_ext{s t:ByteArray}(h:s.data.toList=t.data.toList):s=t:=ByteArray.ext (Array.ext' h)
theorem headText_eq(h:Header):JP h=[83,76,71,49]++Sha.fixed h.id 4++h.salt.data.toList++Sha.fixed h.n 2++Sha.fixed h.bytes 4++Sha.fixed h.raw 4++h.root.data.toList++h.tag.data.toList:=by
 unfold JP Header.fields
 simp[str]
theorem Vz{a b c:List UInt8}{i n:Nat}(ha:a.length=i)(hb:b.length=n):((a++(b++c)).drop i).take n=b:=by
 subst ha;subst hb
 rw[List.drop_left,List.take_left]
theorem hdrT_text(h:Header)(hok:h.okP):Vj (str (JP h))=(h,0)∧(JP h).length=98:=by
 obtain⟨id,salt,n,bytes,raw,root,tag⟩:=h
 obtain⟨h1,h2,h3,h4,h5,h6,h7,h8,h9,a2⟩:=hok
 simp only at h1 h2 h3 h4 h5 h6 h7 h8 h9 a2
 have O:=Sha.fixed_length 4 id
 have Z:=Sha.fixed_length 2 n
 have l3:=Sha.fixed_length 4 bytes
 have l4:=Sha.fixed_length 4 raw
 have Y:salt.data.toList.length=16:=by rw[qP];exact h3
 have z4:root.data.toList.length=32:=by rw[qP];exact h4
 have z5:tag.data.toList.length=32:=by rw[qP];exact h5
 have E:=headText_eq ⟨id,salt,n,bytes,raw,root,tag⟩
 simp only at E
 have I:(JP ⟨id,salt,n,bytes,raw,root,tag⟩).length=98:=by
  rw[E];simp only[qh,O,Z,l3,l4,Y,z4,z5];rfl
 refine⟨?_,I⟩
 obtain⟨T,ad⟩:∃T,T=JP ⟨id,salt,n,bytes,raw,root,tag⟩:=⟨_,rfl⟩
 rw[←ad]at E I ⊢
 have ex:∀a b,((str T).extract a b)=str ((T.drop a).take (b-a)):=fun a b=>by rw[Lib.extract_eq];rfl
 have e0:(T.drop 0).take 4=[83,76,71,49]:=by rw[E];rfl
 have p1:(T.drop 4).take 4=Sha.fixed id 4:=by rw[E];simp only[qf];exact Vz (a:=[83,76,71,49]) rfl O
 have p2:(T.drop 8).take 16=salt.data.toList:=by rw[E];simp only[qf];rw[←qf [83,76,71,49]];exact Vz (by rw[qh,O];rfl) Y
 have p3:(T.drop 24).take 2=Sha.fixed n 2:=by rw[E];rw[qf,qf,qf,qf];exact Vz (by simp only[qh,O,Y];rfl) Z
 have p4:(T.drop 26).take 4=Sha.fixed bytes 4:=by rw[E];rw[qf,qf,qf];exact Vz (by simp only[qh,O,Z,Y];rfl) l3
 have p5:(T.drop 30).take 4=Sha.fixed raw 4:=by rw[E];rw[qf,qf];exact Vz (by simp only[qh,O,Z,l3,Y];rfl) l4
 have p6:(T.drop 34).take 32=root.data.toList:=by rw[E];rw[qf];exact Vz (by simp only[qh,O,Z,l3,l4,Y];rfl) z4
 have p7:(T.drop 66).take 32=tag.data.toList:=by
  rw[E,List.drop_left' (by simp only[qh,O,Z,l3,l4,Y,z4];rfl),qu (by omega)]
 have nm:∀a k,a+k≤98→numAt (str T) a k=Sha.num ((T.drop a).take k):=fun a k hak=>by
  unfold numAt
  rw[ex]
  show Sha.num (((T.drop a).take (98-a)).take k)=_
  rw[List.take_take,show min k (98-a)=k by omega]
 have U:Zy (str T)=⟨id,salt,n,bytes,raw,root,tag⟩:=by
  unfold Zy
  rw[nm 4 4 (by decide),nm 24 2 (by decide),nm 26 4 (by decide),nm 30 4 (by decide),ex 8 24,ex 34 66,ex 66 98,p1,p2,p3,p4,p5,p6,p7,
   Zq (by omega) (by omega),Zq (by omega) (by omega),Zq (by omega) (by omega),Zq (by omega) (by omega)]
  rfl
 unfold Vj
 have hc:Header.check ⟨id,salt,n,bytes,raw,root,tag⟩=0:=(Header.check_zero _).2 ⟨h1,h2,h3,h4,h5,h6,h7,h8,h9,a2⟩
 rw[U,if_pos ⟨by rw[str_size];exact I,by rw[ex 0 4,e0];rfl,by rw[hc];decide⟩]
theorem UV(n:Nat):∀(k j:Nat),j<k→((Sha.fixed (n:Int) k).getD j 0).toNat=n/256^(k-1-j)%256
 |0,j,h=>by omega
 |k+1,0,_=>by
  rw[Ze,List.getD_cons_zero]
  have e:((n:Int)/256^k%256).toNat=n/256^k%256:=by
   have:((n:Int)/256^k%256)=((n/256^k%256:Nat):Int):=by rw[Int.natCast_emod,Int.natCast_ediv,qE];rfl
   rw[this,qk]
  rw[e,UInt8.toNat_ofNat',Nat.add_sub_cancel,Nat.sub_zero]
  omega
 |k+1,j+1,h=>by
  rw[Ze,List.getD_cons_succ,UV n k j (by omega)]
  congr 3
  omega
theorem UU{a b:List UInt8}{i j:Nat}(ha:a.length=i):(a++b).getD (i+j) 0=b.getD j 0:=by
 subst ha
 simp only[qi]
 rw[List.getElem?_append_right (by omega),Nat.add_sub_cancel_left]
theorem getD_left{a b:List UInt8}{j:Nat}(ha:j<a.length):(a++b).getD j 0=a.getD j 0:=by
 simp only[qi]
 rw[List.getElem?_append_left ha]
theorem U9(l:List Bool):(XP l).length=32:=by unfold XP;simp only[List.length_append,Sha.fixed_length]
theorem setText_at(l:List Bool)(j b:Nat)(hj:j<4)(hb:b<8):((XP l).getD (8*j+b) 0).toNat=Jj l j/256^(7-b)%256:=by
 have f:=fun j=>Sha.fixed_length 8 ((Jj l j:Nat):Int)
 unfold XP
 rw[qf,qf]
 match j,hj with
 |0,_=>rw[getD_left (by rw[f];omega),Nat.mul_zero,Nat.zero_add,UV _ _ _ hb]
 |1,_=>rw[show 8*1+b=8+b by omega,UU (f 0),getD_left (by rw[f];omega),UV _ _ _ hb]
 |2,_=>rw[show 8*2+b=8+(8+b) by omega,UU (f 0),UU (f 1),getD_left (by rw[f];omega),UV _ _ _ hb]
 |3,_=>rw[show 8*3+b=8+(8+(8+b)) by omega,UU (f 0),UU (f 1),UU (f 2),UV _ _ _ hb]
theorem bitAt_text(l:List Bool)(i:Nat)(hi:i<256):Ui (XP l) i=l.getD i false:=by
 unfold Ui
 rw[show 8*(i/64)+7-i%64/8=8*(i/64)+(7-i%64/8) by omega,setText_at l _ _ (by omega) (by omega)]
 rw[show 7-(7-i%64/8)=i%64/8 by omega]
 have E:(Jj l (i/64)/256^(i%64/8)%256).testBit (i%8)=(Jj l (i/64)).testBit (i%64):=by
  rw[show(256:Nat)=2^8 by decide,←Nat.pow_mul,qJ,qI]
  have I:i%8<8:=qC _ (by decide)
  rw[show i%8+8*(i%64/8)=i%64 by omega]
  simp[I]
 rw[E,Qx _ _ _ (qC _ (by decide)),qx]
theorem setTake_text(l:List Bool)(h:l.length≤256):QD l.length (XP l)=(l,0):=by
 unfold QD
 rw[if_neg]
 ·congr 1
  apply List.ext_getElem (by simp)
  intro i I h2
  simp only[List.getElem_map,List.getElem_range]
  rw[bitAt_text l i (by omega)]
  simp[qi,h2]
 ·intro E
  rw[List.any_eq_true]at E
  obtain⟨i,hi,hb⟩:=E
  rw[qr]at hi
  rw[bitAt_text l i hi]at hb
  simp only[qq,decide_eq_true_eq]at hb
  rw[qi,qz (by omega)]at hb
  simp at hb
theorem Zl{s:List UInt8}{a n:Nat}(h:a+n≤s.length):QK (Jf s) a n=QK s a n:=by
 unfold QK Jf
 rw[List.drop_append_of_le_length (by omega),List.take_append_of_le_length (by rw[qj];omega)]
theorem filled_tail{s:List UInt8}:∀b∈(Jf s).drop s.length,b=0:=by
 unfold Jf
 rw[List.drop_left]
 intro b hb
 exact(List.mem_replicate.1 hb).2
theorem filled_nil:Jf []=qe 256 0:=rfl
theorem UP{x:Ext}(h:JC x=true):x.head.okP∧0≤x.base∧x.base≤1024-x.head.n:=by
 unfold JC Header.may at h
 simp only[qq,decide_eq_true_eq]at h
 exact⟨(Header.check_zero _).1 h.1.1,h.1.2,h.2⟩
theorem Vh{h:Header}(hk:h.okP):1≤h.n∧h.n≤256:=by
 obtain⟨_,_,_,_,_,I,O,E,_⟩:=hk
 omega
theorem catText_len{x:Ext}(h:JC x=true):(JA x).length=104:=by
 have:=(hdrT_text x.head (UP h).1).2
 unfold JA
 rw[qh,qh,this,Sha.fixed_length]
 rfl
theorem jouText_len{r:Rec}(h:JC r.x=true):(JW r).length=136:=by
 have:=(hdrT_text r.x.head (UP h).1).2
 unfold JW
 rw[qh,qh,qh,this,Sha.fixed_length,U9]
 rfl
theorem base_num{x:Ext}(h:JC x=true):((Sha.num (Sha.fixed x.base 2):Nat):Int)=x.base:=by
 obtain⟨E,h2,I⟩:=UP h
 have:=Vh E
 refine Zq h2 ?_
 show x.base<256^2
 omega
theorem not_blank{m s:List UInt8}{c:UInt8}(hm:m.head?=some c)(hc:c≠0):JL (Jf (m++s))≠ []:=by
 intro h
 rw[UH]at h
 refine hc (h c ?_)
 unfold Jf
 rw[qf]
 exact List.mem_append_left _ (List.mem_of_head? hm)
theorem catTake_text{x:Ext}(h:JC x=true):Xd (Jf (JA x))=(x,0):=by
 have hl:=catText_len h
 have E:=hdrT_text x.head (UP h).1
 have Y:QK (JA x) 4 98=JP x.head:=by
  unfold QK JA
  rw[qf]
  exact Vz rfl E.2
 have U:QK (JA x) 102 2=Sha.fixed x.base 2:=by
  unfold QK JA
  rw[List.drop_left' (by rw[qh,E.2];rfl),qu (by rw[Sha.fixed_length];omega)]
 have O:(Jf (JA x)).take 4=markC:=by
  have:=Zl (s:=JA x) (a:=0) (n:=4) (by omega)
  unfold QK at this
  rw[qR,qR]at this
  rw[this]
  unfold JA
  rw[qf]
  exact List.take_left' rfl
 have I:JL ((Jf (JA x)).drop 104)=[]:=by
  rw[UH,←hl];exact filled_tail
 have Z:JL (Jf (JA x))≠ []:=by
  unfold JA
  rw[qf]
  exact not_blank (c:=83) rfl (by decide)
 unfold Xd
 rw[Zl (by omega),Zl (by omega),Y,U,E.1,base_num h]
 rw[if_neg Z,if_neg (by rw[O,I];simp),if_neg (by simp[h])]
theorem Km{r:Rec}(h:JC r.x=true)(hg:(r.got.length:Int)=r.x.head.n):QQ (Jf (JW r))=(r,0):=by
 have hl:=jouText_len h
 have I:=(UP h).1
 have hn:=Vh I
 have E:=hdrT_text r.x.head I
 have c1:QK (JW r) 4 98=JP r.x.head:=by
  unfold QK JW
  rw[qf,qf]
  exact Vz rfl E.2
 have Y:QK (JW r) 102 2=Sha.fixed r.x.base 2:=by
  unfold QK JW
  rw[qf (markJ++JP r.x.head)]
  exact Vz (by rw[qh,E.2];rfl) (Sha.fixed_length _ _)
 have Z:QK (JW r) 104 32=XP r.got:=by
  unfold QK JW
  rw[List.drop_left' (by rw[qh,qh,E.2,Sha.fixed_length];rfl),qu (by rw[U9];omega)]
 have U:(Jf (JW r)).take 4=markJ:=by
  have:=Zl (s:=JW r) (a:=0) (n:=4) (by omega)
  unfold QK at this
  rw[qR,qR]at this
  rw[this]
  unfold JW
  rw[qf,qf]
  exact List.take_left' rfl
 have O:JL ((Jf (JW r)).drop 136)=[]:=by
  rw[UH,←hl];exact filled_tail
 have cb:JL (Jf (JW r))≠ []:=by
  unfold JW
  rw[qf,qf]
  exact not_blank (c:=83) rfl (by decide)
 have hs:QD r.x.head.n.toNat (XP r.got)=(r.got,0):=by
  rw[←hg,qk];exact setTake_text r.got (by omega)
 unfold QQ
 rw[Zl (by omega),Zl (by omega),Zl (by omega),c1,Y,Z,E.1,base_num h]
 simp only
 rw[hs,if_neg cb,if_neg (by rw[U,O];simp),if_neg (by simp[h])]
theorem Ux{s:List UInt8}(h:JL s=[]):Xd s=(noExt,8):=if_pos h
theorem Z1{s:List UInt8}(h:JL s=[]):QQ s=(noRec,8):=if_pos h
theorem blank_filled:JL (Jf [])=[]:=by rw[UH,filled_nil];intro b hb;exact(List.mem_replicate.1 hb).2
theorem num_fix(l:List UInt8):Sha.fixed (Sha.num l:Nat) l.length=l:=by
 have key:∀(r:List UInt8),Sha.fixed (Sha.num r.reverse:Nat) r.length=r.reverse:=by
  intro r
  induction r with
  |nil=>rfl
  |cons c r ih=>
   rw[List.reverse_cons,Sha.num_snoc,qA,Sha.fixed]
   have hc:=c.toNat_lt
   have E:(((Sha.num r.reverse*256+c.toNat:Nat):Int)/256)=(Sha.num r.reverse:Nat):=by omega
   have I:(((Sha.num r.reverse*256+c.toNat:Nat):Int)%256).toNat=c.toNat:=by omega
   rw[E,I,ih]
   simp
 have:=key l.reverse
 rw[List.reverse_reverse,List.length_reverse]at this
 exact this
def Q3(t:List UInt8):List Bool:=(qp 256).map (Ui t)
theorem bitsAll_len(t:List UInt8):(Q3 t).length=256:=by simp[Q3]
theorem U3(t:List UInt8)(i:Nat)(hi:i<256):(Q3 t).getD i false=Ui t i:=by
 unfold Q3
 rw[qi,List.getElem?_map,List.getElem?_range hi];rfl
theorem num8_lt(l:List UInt8)(h:l.length=8):Sha.num l<18446744073709551616:=by
 have:=Sha.num_lt l
 rw[h]at this
 exact this
theorem num_word(t:List UInt8)(ht:t.length=32)(j:Nat)(hj:j<4):Sha.num ((t.drop (8*j)).take 8)=Jj (Q3 t) j:=by
 obtain⟨l,hl⟩:∃l,l=(t.drop (8*j)).take 8:=⟨_,rfl⟩
 have E:l.length=8:=by rw[hl,qv,qj];omega
 have Z:=num8_lt l E
 have I:=num_fix l
 rw[E]at I
 rw[←hl]
 apply qB
 intro k
 by_cases hk:k<64
 ·rw[Qx _ _ _ hk,U3 _ _ (by omega)]
  unfold Ui
  have Y:8*((64*j+k)/64)+7-(64*j+k)%64/8=8*j+(7-k/8):=by omega
  have O:t.getD (8*j+(7-k/8)) 0=l.getD (7-k/8) 0:=by
   rw[hl]
   simp only[qi]
   rw[qH,if_pos (by omega),List.getElem?_drop]
  have U:(l.getD (7-k/8) 0).toNat=Sha.num l/256^(k/8)%256:=by
   have h:=UV (Sha.num l) 8 (7-k/8) (by omega)
   rw[I]at h
   rw[h]
   congr 3
   omega
  rw[Y,O,U,show(64*j+k)%8=k%8 by omega,show(256:Nat)=2^8 by decide,←Nat.pow_mul,qJ,qI,show k%8+8*(k/8)=k by omega]
  simp[qC]
 ·rw[XD _ _ _ (by omega)]
  refine Nat.testBit_lt_two_pow (Nat.lt_of_lt_of_le Z ?_)
  rw[show(18446744073709551616:Nat)=2^64 by decide]
  exact qO (by decide) (by omega)
theorem wordB_take(l:List Bool)(i j:Nat):Jj (l.take (64*i)) j=if j<i then Jj l j else 0:=by
 apply qB
 intro k
 by_cases hk:k<64
 ·rw[Qx _ _ _ hk]
  simp only[qi,qH]
  by_cases hj:j<i
  ·rw[if_pos hj,if_pos (by omega),Qx _ _ _ hk,qi]
  ·rw[if_neg hj,if_neg (by omega)]
   simp
 ·rw[XD _ _ _ (by omega)]
  split
  ·rw[XD _ _ _ (by omega)]
  ·simp
theorem raw_step(n:Nat)(l:List Bool)(i:Nat)(hi:i<4):(JV n (l.take (64*i))).set (1+i) (.int .u64 (Jj l i:Nat))=JV n (l.take (64*(i+1))):=by
 have w:=fun i j=>wordB_take l i j
 unfold JV
 rw[w i 0,w i 1,w i 2,w i 3,w (i+1) 0,w (i+1) 1,w (i+1) 2,w (i+1) 3]
 rcases(by omega:i=0∨i=1∨i=2∨i=3)with rfl|rfl|rfl|rfl<;>rfl
theorem raw_zero(n:Nat)(l:List Bool):JV n (l.take (64*0))=[.int .i64 (n:Nat),.int .u64 0,.int .u64 0,.int .u64 0,.int .u64 0]:=by
 unfold JV
 simp only[Nat.mul_zero,List.take_zero,wordB_nil]
 rfl
theorem setV_raw(l:List Bool):QG l=rawV l.length l:=rfl
theorem words_same{l m:List Bool}(h:∀i,i<256→l.getD i false=m.getD i false)(j:Nat)(hj:j<4):Jj l j=Jj m j:=by
 apply qB
 intro k
 by_cases hk:k<64
 ·rw[Qx _ _ _ hk,Qx _ _ _ hk,h _ (by omega)]
 ·rw[XD _ _ _ (by omega),XD _ _ _ (by omega)]
theorem take_within(n:Nat)(t:List UInt8):QA (Q3 t) (qe n true) 256= !((qp 256).any fun i=>Ui t i&&decide (n≤i)):=by
 rw[qF,Bool.not_eq_true',←Bool.not_eq_true,List.any_eq_true]
 unfold QA
 rw[qw]
 have O:∀i,(qe n true).getD i false=decide (i<n):=fun i=>by
  rw[qi,List.getElem?_replicate]
  by_cases h:i<n<;>simp[h]
 constructor
 ·rintro h ⟨i,hi,hb⟩
  have E:=h i hi
  rw[qr]at hi
  rw[U3 _ _ hi,O]at E
  simp only[qq,decide_eq_true_eq]at hb
  rw[hb.1,decide_eq_false (by omega)]at E
  cases E
 ·intro h i hi
  have I:=qr.1 hi
  rw[U3 _ _ I,O]
  by_cases hb:Ui t i=true
  ·by_cases hn:i<n
   ·simp[hn]
   ·exact absurd ⟨i,hi,by rw[hb];simp;omega⟩ h
  ·simp[hb]
theorem take_good{n:Nat}(hn:n≤256){t:List UInt8}(h:QA (Q3 t) (qe n true) 256=true):rawV n (Q3 t)=QG ((qp n).map (Ui t)):=by
 have hw:=fun j hj=>words_same (l:=Q3 t) (m:=(qp n).map (Ui t)) (fun i hi=>by
  rw[U3 _ _ hi]
  unfold QA at h
  rw[qw]at h
  have E:=h i (qr.2 hi)
  rw[U3 _ _ hi]at E
  simp only[qi,List.getElem?_map]
  by_cases hin:i<n
  ·rw[List.getElem?_range hin];rfl
  ·rw[qz (by simp;omega)]
   rw[qi,List.getElem?_replicate,if_neg hin]at E
   simpa using E) j hj
 unfold rawV JV QG setCells
 rw[hw 0 (by decide),hw 1 (by decide),hw 2 (by decide),hw 3 (by decide),List.length_map,List.length_range]
theorem stake_spec(n:Nat)(hn:n≤256)(t:List UInt8)(ht:t.length=32)(m:Mem):
 Abs.Spec qd 94 [.int .i64 (n:Nat),.string (str t)] m fun u M=>u=.tuple #[QG (QD n t).1,.int .i64 (QD n t).2]∧More m M:=by
 refine Abs.Spec.walkM Tryz.func94 (by rfl) _ Tryz.results94 _ Tryz.ntmps94 (by simp) ?_
 intro hc hx k
 have af:Q5 qd 43=some (.cells false (J6 qd 43) (setCells [])):=al_Set
 generalize J6 qd 43=s1 at af
 have aN:Qm qd 43 [(0,.int .i64 (n:Nat))]=some (rawV n ((Q3 t).take (64*0))):=by
  unfold rawV
  rw[raw_zero]
  kernel_rfl
 have ar:Qm qd 43 []=some (QG []):=by kernel_rfl
 have q1:decide ((n:Int)<0)=false:=decide_eq_false (by omega)
 have q2:decide ((n:Int)>256)=false:=decide_eq_false (by omega)
 have q3:(((t.length:Nat):Int) !=32)=false:=by rw[ht];rfl
 have aG:JB (str t)=t.length:=rfl
 have row:∀n l,Js 5 0 (some (.cells false s1 (JV n l)))=some (rawV n l):=fun n l=>rfl
 have E:∀l,Js 5 0 (some (.cells false s1 (setCells l)))=some (QG l):=fun l=>rfl
 have aA:∀n l,(rawV n l).cells.toList=JV n l:=fun n l=>rfl
 have Y:∀l,(QG l).cells.toList=setCells l:=fun l=>rfl
 have aJ:∀(M0:Mem)(b:Nat)(L:List Bool)(n:Nat)(l:List Bool),Ji 5 M0 b 0 (JV n l) (some (.cells false s1 (setCells L)))=some (M0.set b (some (.cells false s1 (JV n l)))):=fun _ _ _ _ _=>rfl
 have O:∀(M0:Mem)(b:Nat)(L l:List Bool),Ji 5 M0 b 0 (setCells l) (some (.cells false s1 (setCells L)))=some (M0.set b (some (.cells false s1 (setCells l)))):=fun _ _ _ _=>rfl
 obtain⟨M1,ab⟩:∃M1,M1=m.push (.cells false s1 (setCells [])):=⟨_,rfl⟩
 obtain⟨Z,aq⟩:∃b,b=m.size:=⟨_,rfl⟩
 have ba:M1.size=m.size+1:=by rw[ab,Mem.size_push]
 have aW:M1.get Z=some (.cells false s1 (setCells [])):=by rw[ab,aq,Mem.get_push_new]
 have aL:More m M1:=by rw[ab];exact More.push _ _
 refine J0 (J1 ?_)
 simp only[zZ,reduceIte,yQ,yW,yX,yZ,yJ,yK,yV,zDk,af]
 rw[←ab,←aq]
 refine J0 (J0 (J1 ?_))
 simp only[zZ,reduceIte,yQ,yW,yX,yZ,yJ,yK,yV,zDk,q1,q2]
 refine Qc false (by rfl) (fun h=>by cases h) (fun _=>J3 ?_)
 simp only[zZ,reduceIte,yQ,yW,yX,yZ,yJ,yK,yV]
 refine J0 (J0 (J1 ?_))
 simp only[zZ,reduceIte,yQ,yW,yX,yZ,yJ,yK,yV,zDk,aG,q3]
 refine Qc false (by rfl) (fun h=>by cases h) (fun _=>J3 ?_)
 simp only[zZ,reduceIte,yQ,yW,yX,yZ,yJ,yK,yV]
 refine J0 (J1 ?_)
 simp only[zZ,reduceIte,yQ,yW,yX,yZ,yJ,yK,yV,zDk,aN,af,Mem.get_push_new,aA,aJ]
 obtain⟨b6,ax⟩:∃b,b=M1.size:=⟨_,rfl⟩
 have aT:Z≠b6:=by omega
 obtain⟨M2,ae⟩:∃M2,M2=(M1.push (.cells false s1 (setCells []))).set M1.size (some (.cells false s1 (JV n ((Q3 t).take (64*0))))):=⟨_,rfl⟩
 rw[←ae,←ax]
 have aP:M2.get b6=some (.cells false s1 (JV n ((Q3 t).take (64*0)))):=by rw[ae,ax];exact Mem.get_set_same (Mem.get_push_new _ _) _
 have ag:∀b x,M1.get b=some x→M2.get b=some x:=fun b x hb=>by
  have:=Mem.get_lt hb
  rw[ae,Mem.get_set_ne (by omega),Mem.get_push_old this];exact hb
 have hs2:M2.size=M1.size+1:=by rw[ae,Mem.size_set,Mem.size_push]
 have aR:=ag _ _ aW
 refine QJ (fun f M'=>f=[(0,.int .i64 (n:Nat)),(4,.pointer (some ⟨Z,0,none⟩)),(6,.pointer (some ⟨b6,0,none⟩))]∧M'.get Z=some (.cells false s1 (setCells []))∧M'.get b6=some (.cells false s1 (JV n (Q3 t)))∧(∀b x,m.get b=some x→M'.get b=some x)∧M2.size≤M'.size) ?_ ?_
 ·refine J0 (J1 ?_)
  simp only[zZ,reduceIte,yQ,yW,yX,yZ,yJ,yK,yV,zDk]
  refine J7 (Jr (fun j f M'=>∃i:Nat,j=4-i∧f=[(0,.int .i64 (n:Nat)),(1,.string (str (t.drop (8*i)))),(4,.pointer (some ⟨Z,0,none⟩)),(6,.pointer (some ⟨b6,0,none⟩)),(26,.int .i64 (i:Nat))]∧i≤4∧M'.get Z=some (.cells false s1 (setCells []))∧M'.get b6=some (.cells false s1 (JV n ((Q3 t).take (64*i))))∧(∀b x,m.get b=some x→M'.get b=some x)∧M2.size≤M'.size) 4 ?_ ?_)
  ·refine⟨[0,1,4,6,26],?_⟩
   simp only[zZ,reduceIte,yQ,yW,yX,yZ,yJ,yK,yV,keepF]
   exact⟨M2,tR _,0,rfl,rfl,by omega,aR,aP,fun b x hb=>ag b x (aL.get b x hb),Nat.le_refl _⟩
  ·rintro j f M' ⟨i,rfl,rfl,hi,k4,k6,ko,ks⟩
   refine J0 (J1 ?_)
   simp only[zZ,reduceIte,yQ,yW,yX,yZ,yJ,yK,yV,zDk]
   refine J0 (Qc (decide ((i:Int)<4)) (by rfl) (fun U=>J3 ?_) (fun U=>Jn ?_))
   ·have aS:=of_decide_eq_true U
    have z0:(0:Int)≤(i:Int):=by omega
    have z4:(i:Int)<((4:Nat):Int):=by omega
    have w9:IntKind.i64.wrap ((i:Int)+1)=((i+1:Nat):Int):=by rw[Xn (by omega) (by omega)];omega
    have aM:=num_word t ht i (by omega)
    have bj:=Vd (Q3 t) i
    have wu:IntKind.u64.wrap (UD (Sha.num ((t.drop (8*i)).take 8)))=((Jj (Q3 t) i:Nat):Int):=by
     rw[aM]
     have h1:=wr64_mod (Jj (Q3 t) i)
     have h2:IntKind.u64.wrap (UD (Jj (Q3 t) i))=UD (Jj (Q3 t) i)%18446744073709551616:=by
      unfold IntKind.wrap;simp[IntKind.bits,IntKind.signed]
     rw[h2,h1];omega
    have aI:(t.drop (8*i)).drop 8=t.drop (8*(i+1)):=by rw[qS];congr 1
    have sp:=raw_step n (Q3 t) i (by omega)
    have au:Ji 1 M' b6 (1+i) [.int .u64 ((Jj (Q3 t) i:Nat):Int)] (some (.cells false s1 (JV n ((Q3 t).take (64*i)))))=some (M'.set b6 (some (.cells false s1 (JV n ((Q3 t).take (64*(i+1))))))):=by
     simp only[Ji]
     rw[if_pos ⟨rfl,by show 1+i+1≤5;omega,rfl⟩,←sp]
     rfl
    simp only[zZ,reduceIte,yQ,yW,yX,yZ,yJ,yK,yV]
    refine J0 (J7 (J0 (J1 ?_)))
    simp only[zZ,reduceIte,yQ,yW,yX,yZ,yJ,yK,yV,zDk]
    refine J0 (J1 ?_)
    simp only[zZ,reduceIte,yQ,yW,yX,yZ,yJ,yK,yV,zDk]
    refine⟨by kernel_rfl,_,take8_at (t.drop (8*i)) (by rw[qj];omega) (by rw[qj];omega) M',?_⟩
    rintro _ M9 ⟨rfl,I⟩;replace I:=I.symm;subst I
    simp only[zZ,reduceIte,yQ,yW,yX,yZ,yJ,yK,yV,zDk]
    refine J1 ?_
    simp only[zZ,reduceIte,yQ,yW,yX,yZ,yJ,yK,yV,zDk,wu,k6,z0,z4,and_self,qk,au,aI]
    refine J1 ?_
    simp only[zZ,reduceIte,yQ,yW,yX,yZ,yJ,yK,yV,zDk,w9]
    refine⟨[0,1,4,6,26],?_⟩
    simp only[zZ,reduceIte,yQ,yW,yX,yZ,yJ,yK,yV,keepF]
    refine⟨_,tR _,4-(i+1),⟨i+1,rfl,rfl,by omega,by rw[Mem.get_set_ne (Ne.symm aT)];exact k4,Mem.get_set_same k6 _,fun b x hb=>by
     have:=Mem.get_lt hb
     rw[Mem.get_set_ne (by omega)];exact ko b x hb,by rw[Mem.size_set];exact ks⟩,by omega⟩
   ·have aS:=of_decide_eq_false U
    obtain rfl:i=4:=by omega
    rw[qu (by rw[bitsAll_len];decide)]at k6
    refine⟨[0,4,6],?_⟩
    simp only[zZ,reduceIte,yQ,yW,yX,yZ,yJ,yK,yV,keepF]
    exact⟨_,tR _,k4,k6,ko,ks⟩
 rintro _ M3 ⟨rfl,aC,aE,az,aZ⟩
 have bg:M3.size=M3.size:=rfl
 refine J0 (J1 ?_)
 simp only[zZ,reduceIte,yQ,yW,yX,yZ,yJ,yK,yV,zDk]
 refine⟨by kernel_rfl,_,bnew_at n hn M3,?_⟩
 rintro _ M9 ⟨rfl,I⟩;replace I:=I.symm;subst I
 simp only[zZ,reduceIte,yQ,yW,yX,yZ,yJ,yK,yV,zDk,af,Mem.get_push_new,Y,O]
 obtain⟨a7,am⟩:∃b,b=M3.size:=⟨_,rfl⟩
 obtain⟨M5,ac⟩:∃M5,M5=(M3.push (.cells false s1 (setCells []))).set M3.size (some (.cells false s1 (setCells (qe n false)))):=⟨_,rfl⟩
 rw[←ac,←am]
 have g5:M5.get a7=some (.cells false s1 (setCells (qe n false))):=by rw[ac,am];exact Mem.get_set_same (Mem.get_push_new _ _) _
 have a6:∀b x,M3.get b=some x→M5.get b=some x:=fun b x hb=>by
  have:=Mem.get_lt hb
  rw[ac,Mem.get_set_ne (by omega),Mem.get_push_old this];exact hb
 have be:M5.size=M3.size+1:=by rw[ac,Mem.size_set,Mem.size_push]
 have l4:=Mem.get_lt aC
 have l6:=Mem.get_lt aE
 have ao:∀i,i<n→UF (qe i true++qe (n-i) false) ((i:Nat):Int)=qe (i+1) true++qe (n-(i+1)) false:=fun i hi=>by
  unfold UF
  rw[if_pos ⟨by omega,by simp;omega⟩,qk]
  rw[List.set_append_right _ _ (by simp)]
  rw[qN,Nat.sub_self]
  obtain⟨q,U⟩:∃q,n-i=q+1:=⟨n-i-1,by omega⟩
  rw[U,show n-(i+1)=q by omega,List.replicate_succ,List.set_cons_zero,List.replicate_succ',qf]
  rfl
 refine QJ (fun f M'=>f=[(4,.pointer (some ⟨Z,0,none⟩)),(6,.pointer (some ⟨b6,0,none⟩)),(11,.pointer (some ⟨a7,0,none⟩))]∧M'.get Z=some (.cells false s1 (setCells []))∧M'.get b6=some (.cells false s1 (JV n (Q3 t)))∧M'.get a7=some (.cells false s1 (setCells (qe n true)))∧(∀b x,m.get b=some x→M'.get b=some x)∧M5.size≤M'.size) ?_ ?_
 ·refine J0 (J1 ?_)
  simp only[zZ,reduceIte,yQ,yW,yX,yZ,yJ,yK,yV,zDk]
  refine J7 (Jr (fun j f M'=>∃i:Nat,j=n-i∧f=[(4,.pointer (some ⟨Z,0,none⟩)),(6,.pointer (some ⟨b6,0,none⟩)),(11,.pointer (some ⟨a7,0,none⟩)),(44,.int .i64 (n:Nat)),(45,.int .i64 (i:Nat))]∧i≤n∧M'.get Z=some (.cells false s1 (setCells []))∧M'.get b6=some (.cells false s1 (JV n (Q3 t)))∧M'.get a7=some (.cells false s1 (setCells (qe i true++qe (n-i) false)))∧(∀b x,m.get b=some x→M'.get b=some x)∧M5.size≤M'.size) n ?_ ?_)
  ·refine⟨[4,6,11,44,45],?_⟩
   simp only[zZ,reduceIte,yQ,yW,yX,yZ,yJ,yK,yV,keepF]
   exact⟨M5,tR _,0,rfl,rfl,by omega,a6 _ _ aC,a6 _ _ aE,by simpa using g5,fun b x hb=>a6 b x (az b x hb),Nat.le_refl _⟩
  ·rintro j f M' ⟨i,rfl,rfl,hi,k4,k6,ad,ko,ks⟩
   refine J0 (J1 ?_)
   simp only[zZ,reduceIte,yQ,yW,yX,yZ,yJ,yK,yV,zDk]
   refine J0 (Qc (decide ((i:Int)<(n:Int))) (by rfl) (fun U=>J3 ?_) (fun U=>Jn ?_))
   ·have aH:=of_decide_eq_true U
    have w9:IntKind.i64.wrap ((i:Int)+1)=((i+1:Nat):Int):=by rw[Xn (by omega) (by omega)];omega
    have hw:=with_at (qe i true++qe (n-i) false) (by simp;omega) ((i:Nat):Int) M'
    rw[ao i (by omega)]at hw
    simp only[zZ,reduceIte,yQ,yW,yX,yZ,yJ,yK,yV]
    refine J0 (J7 (J0 (J1 ?_)))
    simp only[zZ,reduceIte,yQ,yW,yX,yZ,yJ,yK,yV,zDk]
    refine J1 ?_
    simp only[zZ,reduceIte,yQ,yW,yX,yZ,yJ,yK,yV,zDk,ad,E]
    refine⟨by kernel_rfl,_,hw,?_⟩
    rintro _ M9 ⟨rfl,I⟩;replace I:=I.symm;subst I
    simp only[zZ,reduceIte,yQ,yW,yX,yZ,yJ,yK,yV,zDk,ad,Y,O]
    refine J1 ?_
    simp only[zZ,reduceIte,yQ,yW,yX,yZ,yJ,yK,yV,zDk,w9]
    refine⟨[4,6,11,44,45],?_⟩
    simp only[zZ,reduceIte,yQ,yW,yX,yZ,yJ,yK,yV,keepF]
    refine⟨_,tR _,n-(i+1),⟨i+1,rfl,rfl,by omega,by rw[Mem.get_set_ne (by omega)];exact k4,by rw[Mem.get_set_ne (by omega)];exact k6,Mem.get_set_same ad _,fun b x hb=>by
     have:=Mem.get_lt hb
     rw[Mem.get_set_ne (by omega)];exact ko b x hb,by rw[Mem.size_set];exact ks⟩,by omega⟩
   ·have aH:=of_decide_eq_false U
    obtain rfl:i=n:=by omega
    refine⟨[4,6,11],?_⟩
    simp only[zZ,reduceIte,yQ,yW,yX,yZ,yJ,yK,yV,keepF]
    exact⟨_,tR _,k4,k6,by simpa using ad,ko,ks⟩
 rintro _ M6 ⟨rfl,g4,g6,aK,ak,b9⟩
 have aD:=take_within n t
 have aw:=within_at n n (Q3 t) (qe n true) M6
 have eS:QG (qe n true)=rawV n (qe n true):=by rw[setV_raw,qN]
 rw[←eS]at aw
 obtain⟨S,hS⟩:∃S,S=QD n t:=⟨_,rfl⟩
 rw[←hS]
 unfold QD at hS
 refine J0 (J0 (J1 ?_))
 simp only[zZ,reduceIte,yQ,yW,yX,yZ,yJ,yK,yV,zDk,g6,aK,row,E]
 refine⟨by kernel_rfl,_,aw,?_⟩
 rintro _ M9 ⟨rfl,I⟩;replace I:=I.symm;subst I
 simp only[zZ,reduceIte,yQ,yW,yX,yZ,yJ,yK,yV,zDk]
 refine Qc (!QA (Q3 t) (qe n true) 256) (by rfl) (fun U=>J0 (J1 ?_)) (fun U=>J3 ?_)
 ·rw[aD,Bool.not_not]at U
  rw[if_pos U]at hS
  subst hS
  simp only[zZ,reduceIte,yQ,yW,yX,yZ,yJ,yK,yV,zDk,ar,g4,Y,O]
  have gs:(M6.set Z (some (.cells false s1 (setCells [])))).get Z=some (.cells false s1 (setCells [])):=Mem.get_set_same g4 _
  refine Qz ?_
  simp only[zZ,reduceIte,yQ,yW,yX,yZ,yJ,yK,yV,zDk,mEnd,sAnswer,sAnswer.sRes,Q4,gs,E]
  exact⟨_,tR _,fun b x hb=>by
   have:=Mem.get_lt hb
   rw[Mem.get_set_ne (by omega)];exact ak b x hb,by rw[Mem.size_set];omega⟩
 ·have a8:QA (Q3 t) (qe n true) 256=true:=by simpa using U
  have aj:=a8
  rw[aD]at aj
  rw[if_neg (by simpa using aj)]at hS
  subst hS
  have eg:=take_good hn a8
  have ec:JV n (Q3 t)=setCells ((qp n).map (Ui t)):=by
   have:=congrArg (fun v=>v.cells.toList) eg
   exact this
  rw[ec]at g6
  simp only[zZ,reduceIte,yQ,yW,yX,yZ,yJ,yK,yV]
  refine J0 (J1 ?_)
  simp only[zZ,reduceIte,yQ,yW,yX,yZ,yJ,yK,yV,zDk,g6,g4,E,Y,O]
  have gs:(M6.set Z (some (.cells false s1 (setCells ((qp n).map (Ui t)))))).get Z=some (.cells false s1 (setCells ((qp n).map (Ui t)))):=Mem.get_set_same g4 _
  refine Qz ?_
  simp only[zZ,reduceIte,yQ,yW,yX,yZ,yJ,yK,yV,zDk,mEnd,sAnswer,sAnswer.sRes,Q4,gs,E]
  exact⟨_,tR _,fun b x hb=>by
   have:=Mem.get_lt hb
   rw[Mem.get_set_ne (by omega)];exact ak b x hb,by rw[Mem.size_set];omega⟩
theorem setTake_flat(n:Nat)(t:List UInt8):flat 3 (.tuple #[QG (QD n t).1,.int .i64 (QD n t).2])=true:=rfl
theorem stake_at(n:Nat)(hn:n≤256)(t:List UInt8)(ht:t.length=32)(m:Mem):
 Abs.Spec qd 94 [.int .i64 (n:Nat),.string (str t)] m fun u M=>u=.tuple #[QG (QD n t).1,.int .i64 (QD n t).2]∧M=m:=
 Abs.Spec.of_empty (by intro x hx;simp at hx;rcases hx with rfl|rfl<;>rfl) (setTake_flat n t) ((stake_spec n hn t ht ⟨[]⟩).mono fun _ _ h=>h.1) m
theorem Vm(h:Header):h.check=0∨h.check=1:=by
 unfold Header.check
 repeat' split
 all_goals simp
theorem hcheck_at(h:Header)(m:Mem):Abs.Spec qd 66 [.agg h.cells.toArray] m fun u M=>u=.int .i64 h.check∧M=m:=
 Abs.Spec.of_flat (by intro x hx;simp at hx;subst hx;rfl) rfl fun w=>check_any h w
theorem hfields_at(h:Header)(hk:h.okP)(m:Mem):Abs.Spec qd 69 [.agg h.cells.toArray] m fun u M=>u=.string h.fields∧M=m:=
 Abs.Spec.of_flat (by intro x hx;simp at hx;subst hx;rfl) rfl fun w=>fields_any h (by have:=hk.2.2.1;omega) (by have:=hk.2.2.2.1;omega) w
theorem hverify_at(key:List UInt8)(hk:key.length≤140737488355200)(h:Header)(m:Mem):Abs.Spec qd 28 [.string (str key),.agg h.cells.toArray] m fun u M=>u=.int .i64 (h.verify key)∧M=m:=
 Abs.Spec.of_flat (by intro x hx;simp at hx;rcases hx with rfl|rfl<;>rfl) rfl fun w=>verify_any (str key) h w (by rw[str_size];exact hk)
def hdrTV(s:ByteArray):Value:=.tuple #[.agg (Vj s).1.cells.toArray,.int .i64 (Vj s).2]
theorem htakeAny_eq(s:ByteArray):htakeAny s=hdrTV s:=by
 unfold htakeAny htakeV hdrTV Vj
 by_cases h1:s.size=98
 ·by_cases h2:s.extract 0 4=⟨#[83,76,71,49]⟩
  ·by_cases h3:(Zy s).check=1
   ·rw[if_pos h1,if_pos h2,if_pos h3,if_neg (fun h=>h.2.2 h3)];rfl
   ·rw[if_pos h1,if_pos h2,if_neg h3,if_pos ⟨h1,h2,h3⟩];rfl
  ·rw[if_pos h1,if_neg h2,if_neg (fun h=>h2 h.2.1)];rfl
 ·rw[if_neg h1,if_neg (fun h=>h1 h.1)];rfl
theorem htake_at(s:ByteArray)(m:Mem):Abs.Spec qd 86 [.string s] m fun u M=>u=hdrTV s∧M=m:=
 Abs.Spec.of_flat (by intro x hx;simp at hx;subst hx;rfl) rfl fun w=>by rw[←htakeAny_eq];exact htake_any s w
theorem Kp{h:Header}(hk:h.okP):(JP h).length=98:=by
 have E:=h.fields_size
 obtain⟨_,_,a,b,c,_⟩:=hk
 unfold JP
 rw[qh]
 show h.fields.size+h.tag.size=98
 omega
def putT(h:Header):ByteArray:=if h.check=0 then str (JP h)else⟨#[]⟩
theorem hput_spec(h:Header)(m:Mem):
 Abs.Spec qd 129 [.agg h.cells.toArray] m fun u M=>u=.tuple #[.string (putT h),.int .i64 h.check]∧More m M:=by
 refine Uz Tryz.func129 Tryz.results129 Tryz.ntmps129 fun hc hx k=>?_
 have bx:QU qd 34 (.agg h.cells.toArray)=some (.cells false (J6 qd 34) h.cells):=bx_Hdr _ rfl
 generalize J6 qd 34=s1 at bx
 have row:Js 7 0 (some (.cells false s1 h.cells))=some (.agg h.cells.toArray):=rfl
 have k6:cellIn 6 (some (.cells false s1 h.cells))=some (.string h.tag):=rfl
 have Z:((0:Int) !=0)=false:=rfl
 have Y:((1:Int) !=0)=true:=rfl
 have mo:=More.push m (.cells false s1 h.cells)
 refine J0 (R1 @bx ?_)
 refine J0 (J0 (R2 @Mem.get_push_new @row ?_))
 refine K0 (hcheck_at h _) ?_
 obtain⟨r,I⟩:∃r,r=putT h:=⟨_,rfl⟩
 rw[←I]
 unfold putT at I
 rcases Vm h with e|e
 ·rw[if_pos e]at I
  have U:=h.check_zero.1 e
  have O:JB h.fields+JB h.tag≤4611686018427387904:=by
   have h1:=h.fields_size
   obtain⟨_,_,a,b,c,_⟩:=U
   show h.fields.size+h.tag.size≤_
   omega
  have E:bcat h.fields h.tag=r:=I.symm
  rw[e]
  refine J0 (R1 @Z ?_)
  refine CF (J3 ?_)
  simp only[zZ,reduceIte,yQ,yW,yX,yZ,yJ,yK,yV]
  refine J0 (D3 4 @Mem.get_push_new @row @k6 ?_)
  refine⟨by kernel_rfl,_,hfields_at h U _,?_⟩
  refine S3 @Mem.get_push_new @row @k6 ?_
  refine⟨O,?_⟩
  refine S1 @E ?_
  refine T0 ?_
  exact⟨_,tR _,mo⟩
 ·rw[if_neg (by rw[e];decide)]at I
  rw[e]
  refine J0 (R1 @Y ?_)
  refine CT (J0 (R0 ?_))
  refine T0 ?_
  exact⟨_,tR _,by rw[I],mo⟩
theorem hput_at(h:Header)(m:Mem):
 Abs.Spec qd 129 [.agg h.cells.toArray] m fun u M=>u=.tuple #[.string (putT h),.int .i64 h.check]∧M=m:=
 Abs.Spec.of_empty (by intro x hx;simp at hx;subst hx;rfl) rfl ((hput_spec h ⟨[]⟩).mono fun _ _ h=>h.1) m
def Ext.checkI(x:Ext):Int:=if JC x=true then 0 else 1
theorem checkI_of(x:Ext):x.checkI=if decide (x.head.check≠0)||decide (x.base<0)||decide (x.base>1024-x.head.n)then 1 else 0:=by
 unfold Ext.checkI JC Header.may
 by_cases h1:x.head.check=0<;>by_cases h2:x.base<0<;>by_cases h3:x.base>1024-x.head.n<;>simp[h1,h2,h3]<;>omega
theorem okP_n2{h:Header}(hk:h.okP):1≤h.n∧h.n≤257:=by
 obtain⟨_,_,_,_,_,E,h2,I,_⟩:=hk
 omega
theorem ccheck_spec(x:Ext)(m:Mem):
 Abs.Spec qd 88 [.agg x.cells.toArray] m fun u M=>u=.int .i64 x.checkI∧More m M:=by
 refine Uz Tryz.func88 Tryz.results88 Tryz.ntmps88 fun hc hx k=>?_
 have Z:QU qd 85 (.agg x.cells.toArray)=some (.cells false (J6 qd 85) x.cells):=Kw _ rfl
 generalize J6 qd 85=s1 at Z
 have row:Js 7 0 (some (.cells false s1 x.cells))=some (.agg x.head.cells.toArray):=rfl
 have U:cellIn 7 (some (.cells false s1 x.cells))=some (.int .i64 x.base):=rfl
 have k2:cellIn 2 (some (.cells false s1 x.cells))=some (.int .i64 x.head.n):=rfl
 have I:((0:Int) !=0)=false:=rfl
 have Y:((1:Int) !=0)=true:=rfl
 have O:=More.push m (.cells false s1 x.cells)
 obtain⟨r,E⟩:∃r,r=x.checkI:=⟨_,rfl⟩
 rw[←E]
 rw[checkI_of]at E
 refine J0 (R1 @Z ?_)
 refine J0 (J0 (R2 @Mem.get_push_new @row ?_))
 refine K0 (hcheck_at x.head _) ?_
 rcases Vm x.head with e|e
 case inr=>
  rw[e]at E ⊢
  refine S2 @Y @U ?_
  obtain rfl:r=1:=by rw[E];rfl
  refine CT (J0 (R0 ?_))
  refine T0 ?_
  exact⟨_,tR _,O⟩
 have hn:=okP_n2 (x.head.check_zero.1 e)
 have w1:IntKind.i64.wrap (1024-x.head.n)=1024-x.head.n:=Xn (by omega) (by omega)
 rw[e]at E ⊢
 cases p1:decide (x.base<0)
 case true=>
  refine S4 @I @U @Mem.get_push_new @p1 ?_
  obtain rfl:r=1:=by rw[E,p1];rfl
  refine CT (J0 (R0 ?_))
  refine T0 ?_
  exact⟨_,tR _,O⟩
 refine S6 @I @U @k2 @Mem.get_push_new @p1 @w1 ?_
 rw[p1]at E
 refine CC (decide (x.base>1024-x.head.n)) (fun h=>J0 (J1 ?_)) (fun h=>J3 ?_)
 ·obtain rfl:r=1:=by rw[E,h];rfl
  refine S0 ?_
  refine T0 ?_
  exact⟨_,tR _,O⟩
 ·obtain rfl:r=0:=by rw[E,h];rfl
  simp only[zZ,reduceIte,yQ,yW,yX,yZ,yJ,yK,yV]
  refine J0 (R0 ?_)
  refine T0 ?_
  exact⟨_,tR _,O⟩
theorem ccheck_at(x:Ext)(m:Mem):
 Abs.Spec qd 88 [.agg x.cells.toArray] m fun u M=>u=.int .i64 x.checkI∧M=m:=
 Abs.Spec.of_empty (by intro x hx;simp at hx;subst hx;rfl) rfl ((ccheck_spec x ⟨[]⟩).mono fun _ _ h=>h.1) m
theorem Kk{x:Ext}(h:JC x=true):x.head.okP∧0≤x.base∧x.base≤1024-x.head.n:=by
 unfold JC Header.may at h
 simp only[qq,decide_eq_true_eq]at h
 exact⟨x.head.check_zero.1 h.1.1,h.1.2,h.2⟩
theorem cmeet_spec(x y:Ext)(hx:JC x=true)(hy:JC y=true)(m:Mem):
 Abs.Spec qd 90 [.agg x.cells.toArray,.agg y.cells.toArray] m fun u M=>u=.bool (meets x y)∧More m M:=by
 obtain⟨a1,a2,a3⟩:=Kk hx
 obtain⟨b1,b2,b3⟩:=Kk hy
 have a4:=okP_n2 a1
 have b4:=okP_n2 b1
 have Y:IntKind.i64.wrap (y.base+y.head.n)=y.base+y.head.n:=Xn (by omega) (by omega)
 have w2:IntKind.i64.wrap (x.base+x.head.n)=x.base+x.head.n:=Xn (by omega) (by omega)
 clear a1 a2 a3 b1 b2 b3 a4 b4 hx hy
 refine Uz Tryz.func90 Tryz.results90 Tryz.ntmps90 fun hc hx k=>?_
 have bx:∀x:Ext,QU qd 85 (.agg x.cells.toArray)=some (.cells false (J6 qd 85) x.cells):=fun x=>Kw _ rfl
 generalize J6 qd 85=s1 at bx
 have Z:∀x:Ext,cellIn 7 (some (.cells false s1 x.cells))=some (.int .i64 x.base):=fun _=>rfl
 have k2:∀x:Ext,cellIn 2 (some (.cells false s1 x.cells))=some (.int .i64 x.head.n):=fun _=>rfl
 obtain⟨I,E⟩:∃I,I=(m.push (.cells false s1 x.cells)).push (.cells false s1 y.cells):=⟨_,rfl⟩
 have mo:More m I:=by rw[E];exact(More.push _ _).trans (More.push _ _)
 have O:I.get m.size=some (.cells false s1 x.cells):=by rw[E,Mem.get_push_old (by rw[Mem.size_push];omega),Mem.get_push_new]
 have U:I.get (m.size+1)=some (.cells false s1 y.cells):=by rw[E,←Mem.size_push m (.cells false s1 x.cells),Mem.get_push_new]
 refine J0 (R2 @bx @Mem.size_push ?_)
 rw[←E]
 refine J0 (J1 ?_)
 cases p1:decide (x.base<y.base+y.head.n)
 case false=>
  refine S7 @O @U @Z @k2 @Y @w2 @p1 ?_
  refine T0 ?_
  exact⟨_,tR _,by unfold meets;rw[p1];rfl,mo⟩
 refine S7 @O @U @Z @k2 @Y @w2 @p1 ?_
 refine T0 ?_
 exact⟨_,tR _,by unfold meets;rw[p1];rfl,mo⟩
theorem cmeet_at(x y:Ext)(hx:JC x=true)(hy:JC y=true)(m:Mem):
 Abs.Spec qd 90 [.agg x.cells.toArray,.agg y.cells.toArray] m fun u M=>u=.bool (meets x y)∧M=m:=
 Abs.Spec.of_empty (by intro x hx;simp at hx;rcases hx with rfl|rfl<;>rfl) rfl ((cmeet_spec x y hx hy ⟨[]⟩).mono fun _ _ h=>h.1) m
def extT(x:Ext):ByteArray:=if JC x=true then str (JA x)else⟨#[]⟩
theorem cput_spec(x:Ext)(m:Mem):
 Abs.Spec qd 102 [.agg x.cells.toArray] m fun u M=>u=.tuple #[.string (extT x),.int .i64 x.checkI]∧More m M:=by
 refine Uz Tryz.func102 Tryz.results102 Tryz.ntmps102 fun hc hx k=>?_
 have bx:QU qd 85 (.agg x.cells.toArray)=some (.cells false (J6 qd 85) x.cells):=Kw _ rfl
 generalize J6 qd 85=s1 at bx
 have Y:Js 8 0 (some (.cells false s1 x.cells))=some (.agg x.cells.toArray):=rfl
 have row:Js 7 0 (some (.cells false s1 x.cells))=some (.agg x.head.cells.toArray):=rfl
 have k7:cellIn 7 (some (.cells false s1 x.cells))=some (.int .i64 x.base):=rfl
 have a7:((0:Int) !=0)=false:=rfl
 have a6:((1:Int) !=0)=true:=rfl
 have mo:=More.push m (.cells false s1 x.cells)
 obtain⟨r,I⟩:∃r,r=extT x:=⟨_,rfl⟩
 rw[←I]
 refine J0 (R1 @bx ?_)
 refine J0 (J0 (R2 @Mem.get_push_new @Y ?_))
 refine K0 (ccheck_at x _) ?_
 unfold extT at I
 by_cases hm:JC x=true
 ·have e:x.checkI=0:=by unfold Ext.checkI;rw[if_pos hm]
  rw[if_pos hm]at I
  rw[e]
  have U:=(Kk hm).1
  have e0:=x.head.check_zero.2 U
  have ep:putT x.head=str (JP x.head):=by unfold putT;rw[if_pos e0]
  have hl:=Kp U
  have O:JB (str markC)+JB (str (JP x.head))≤4611686018427387904:=by
   show 4+(JP x.head).length≤_
   omega
  have Z:bcat (str markC) (str (JP x.head))=str (markC++JP x.head):=rfl
  have E:JB (str (markC++JP x.head))+JB (str (Sha.fixed x.base 2))≤4611686018427387904:=by
   show(markC++JP x.head).length+(Sha.fixed x.base 2).length≤_
   rw[qh,Sha.fixed_length,hl]
   decide
  have a2:bcat (str (markC++JP x.head)) (str (Sha.fixed x.base 2))=r:=I.symm
  refine J0 (R1 @a7 ?_)
  refine CF (J3 ?_)
  simp only[zZ,reduceIte,yQ,yW,yX,yZ,yJ,yK,yV]
  refine J0 (R2 @Mem.get_push_new @row ?_)
  refine K1 @ep (hput_at x.head _) ?_
  refine J0 (R0 ?_)
  refine⟨O,?_⟩
  refine S2 @Mem.get_push_new @k7 ?_
  refine K0 (Ku x.base 2 (by omega) (by omega) _) ?_
  refine⟨E,?_⟩
  refine T0 ?_
  exact⟨_,tR _,by rw[I];rfl,mo⟩
 ·have e:x.checkI=1:=by unfold Ext.checkI;rw[if_neg hm]
  rw[if_neg hm]at I
  rw[e]
  refine J0 (R1 @a6 ?_)
  refine CT (J0 (R0 ?_))
  refine T0 ?_
  exact⟨_,tR _,by rw[I],mo⟩
theorem cput_at(x:Ext)(m:Mem):
 Abs.Spec qd 102 [.agg x.cells.toArray] m fun u M=>u=.tuple #[.string (extT x),.int .i64 x.checkI]∧M=m:=
 Abs.Spec.of_empty (by intro x hx;simp at hx;subst hx;rfl) rfl ((cput_spec x ⟨[]⟩).mono fun _ _ h=>h.1) m
theorem hdrT_02(s:ByteArray):(Vj s).2=0∨(Vj s).2=2:=by unfold Vj;split<;>simp
theorem htake_at2(s:ByteArray)(m:Mem):Abs.Spec qd 86 [.string s] m fun u M=>u=.tuple #[.agg (Vj s).1.cells.toArray,.int .i64 (Vj s).2]∧M=m:=htake_at s m
theorem prefix4(s p:List UInt8)(hp:p.length=4)(hs:4≤s.length):Lib.hasPrefix s p=decide (s.take 4=p):=by
 rw[←Lib.hasPrefix_of_take,hp,decide_eq_true hs,qD]
 rw[qF]
 simp
def catTV(s:List UInt8):Value:=.tuple #[.agg (Xd s).1.cells.toArray,.int .i64 (Xd s).2]
theorem ctake_spec(s:List UInt8)(hs:s.length=256)(m:Mem):
 Abs.Spec qd 43 [.string (str s)] m fun u M=>u=catTV s∧More m M:=by
 refine Uz Tryz.func43 Tryz.results43 Tryz.ntmps43 fun hc hx k=>?_
 have am:Q5 qd 85=some (.cells false (J6 qd 85) noExt.cells):=al_Ext
 generalize J6 qd 85=s1 at am
 have ae:Q5 qd 34=some (.cells false (J6 qd 34) noHead.cells):=al_Hdr
 generalize J6 qd 34=s2 at ae
 have Y:Qm qd 85 []=some (.agg noExt.cells.toArray):=by kernel_rfl
 have aG:∀(h:Header)(b:Int),Qm qd 85 [(0,.agg h.cells.toArray),(1,.int .i64 b)]=some (.agg (Ext.mk h b).cells.toArray):=fun h b=>by kernel_rfl
 have E:∀x:Ext,Js 8 0 (some (.cells false s1 x.cells))=some (.agg x.cells.toArray):=fun _=>rfl
 have aA:∀h:Header,Js 7 0 (some (.cells false s2 h.cells))=some (.agg h.cells.toArray):=fun _=>rfl
 have O:∀x:Ext,(Value.agg x.cells.toArray).cells.toList=x.cells:=fun _=>rfl
 have aC:∀h:Header,(Value.agg h.cells.toArray).cells.toList=h.cells:=fun _=>rfl
 have I:∀(M0:Mem)(b:Nat)(x y:Ext),Ji 8 M0 b 0 y.cells (some (.cells false s1 x.cells))=some (M0.set b (some (.cells false s1 y.cells))):=fun _ _ _ _=>rfl
 have ar:∀(M0:Mem)(b:Nat)(x y:Header),Ji 7 M0 b 0 y.cells (some (.cells false s2 x.cells))=some (M0.set b (some (.cells false s2 y.cells))):=fun _ _ _ _=>rfl
 have ax:((0:Int) !=0)=false:=rfl
 have aI:((1:Int) !=0)=true:=rfl
 have aF:((2:Int) !=0)=true:=rfl
 have aO:JB (str s)=256:=hs
 have ql:decide ((((256:Nat):Int))<104)=false:=rfl
 obtain⟨r,U⟩:∃r,r=Xd s:=⟨_,rfl⟩
 have hv:catTV s=.tuple #[.agg r.1.cells.toArray,.int .i64 r.2]:=by rw[U];rfl
 rw[hv]
 clear hv
 unfold Xd at U
 obtain⟨M1,ad⟩:∃M1,M1=m.push (.cells false s1 noExt.cells):=⟨_,rfl⟩
 obtain⟨b2,aB⟩:∃b,b=m.size:=⟨_,rfl⟩
 have b8:M1.size=m.size+1:=by rw[ad,Mem.size_push]
 have g2:M1.get b2=some (.cells false s1 noExt.cells):=by rw[ad,aB,Mem.get_push_new]
 have ab:More m M1:=by rw[ad];exact More.push _ _
 have a7:∀(M:Mem)(x y:Ext),M.get b2=some (.cells false s1 y.cells)→More m M→(M.set b2 (some (.cells false s1 x.cells))).get b2=some (.cells false s1 x.cells)∧More m (M.set b2 (some (.cells false s1 x.cells))):=fun M x y hg hm=>
  ⟨Mem.get_set_same hg _,fun b z hb=>by
   have:=Mem.get_lt hb
   rw[Mem.get_set_ne (by omega)];exact hm.get b z hb,by rw[Mem.size_set];exact hm.size⟩
 refine J0 (R1 @am ?_)
 rw[←ad,←aB]
 refine J0 (R0 ?_)
 refine K0 (cutPrefix_spec (str s) _ _) ?_
 refine J0 (J7 (J0 (R0 ?_)))
 refine⟨by kernel_rfl,_,UG (str s) 0 (by decide) (by show s.length≤_;omega) _,?_⟩
 rintro _ M9 ⟨rfl,e9⟩;replace e9:=e9.symm;subst e9
 have aH:Lib.trimB (str s).data.toList 0=JL s:=rfl
 rw[aH]
 refine S1 @beq_nilS ?_
 refine CC (decide (JL s=[])) (fun h=>J0 (J1 ?_)) (fun h=>?_)
 ·rw[if_pos (of_decide_eq_true h)]at U
  subst U
  refine S4 @Y @g2 @O @I ?_
  obtain⟨gs,ms⟩:=a7 M1 noExt noExt g2 ab
  refine T3 @Q4 @gs @E ?_
  exact⟨_,tR _,ms⟩
 rw[if_neg (of_decide_eq_false h)]at U
 have ai:Lib.hasPrefix (str s).data.toList [83,76,67,49]=decide (s.take 4=markC):=prefix4 s markC rfl (by omega)
 have aN:Lib.trimB (str (s.drop 104)).data.toList 0=JL (s.drop 104):=rfl
 have ao:∀get,JX qd get 9 (.string (str s)) (some (.int .i64 104)) none=some (.string (str (s.drop 104))):=fun get=>ZK get s 104 (by omega)
 have b9:(s.drop 104).length=152:=by rw[qj,hs]
 rw[ai]
 cases hm:decide (s.take 4=markC)
 case false=>
  rw[if_pos (.inl (of_decide_eq_false hm))]at U
  subst U
  refine J0 (R0 ?_)
  refine CT (J0 (R4 @Y @g2 @O @I ?_))
  obtain⟨gs,ms⟩:=a7 M1 noExt noExt g2 ab
  refine T3 @Q4 @gs @E ?_
  exact⟨_,tR _,ms⟩
 have aP:=of_decide_eq_true hm
 have aQ:Lib.trimPrefix (str s).data.toList [83,76,67,49]=s.drop 4:=by
  unfold Lib.trimPrefix
  rw[ai,hm]
  rfl
 rw[aQ]
 refine J0 (R3 @aO @ql @ao ?_)
 refine⟨by kernel_rfl,_,UG (str (s.drop 104)) 0 (by decide) (by show(s.drop 104).length≤_;omega) _,?_⟩
 rintro _ M9 ⟨rfl,e9⟩;replace e9:=e9.symm;subst e9
 rw[aN]
 refine S1 @beq_nilS ?_
 refine CC (!decide (JL (s.drop 104)=[])) (fun h2=>J0 (J1 ?_)) (fun h2=>J3 ?_)
 ·rw[if_pos (.inr (of_decide_eq_false (by simpa using h2)))]at U
  subst U
  refine S4 @Y @g2 @O @I ?_
  obtain⟨gs,ms⟩:=a7 M1 noExt noExt g2 ab
  refine T3 @Q4 @gs @E ?_
  exact⟨_,tR _,ms⟩
 have aK:JL (s.drop 104)=[]:=by simpa using h2
 rw[if_neg (by rintro(h3|h3);exact h3 aP;exact h3 aK)]at U
 have ba:(s.drop 4).length=252:=by rw[qj,hs]
 have ay:∀get,JX qd get 9 (.string (str (s.drop 4))) none (some (.int .i64 98))=some (.string (str (QK s 4 98))):=fun get=>XY get (str (s.drop 4)) 98 (by rw[str_size];omega)
 have aj:∀get,JX qd get 9 (.string (str (s.drop 4))) (some (.int .i64 98)) none=some (.string (str (s.drop 102))):=fun get=>by
  have:=ZK get (s.drop 4) 98 (by omega)
  rw[qS]at this
  exact this
 have aJ:(s.drop 102).length=154:=by rw[qj,hs]
 have tk:=fun m=>take_spec (str (s.drop 102)) 2 (by decide) (by decide) (by rw[str_size];omega) (by rw[str_size];omega) m
 have aS:Sha.num ((str (s.drop 102)).data.toList.take 2)=Sha.num (QK s 102 2):=rfl
 have Z:=hdrT_02 (str (QK s 4 98))
 have hT:=fun m=>htake_at2 (str (QK s 4 98)) m
 obtain⟨H,hH⟩:∃H,H=(Vj (str (QK s 4 98))).1:=⟨_,rfl⟩
 obtain⟨e,he⟩:∃e,e=(Vj (str (QK s 4 98))).2:=⟨_,rfl⟩
 obtain⟨n,hn⟩:∃n:Int,n=(Sha.num (QK s 102 2):Nat):=⟨_,rfl⟩
 rw[←hH,←he,←hn]at U
 rw[←he]at Z
 simp only[←hH,←he]at hT
 simp only[aS,←hn]at tk
 simp only[zZ,reduceIte,yQ,yW,yX,yZ,yJ,yK,yV]
 refine J0 (R1 @ay ?_)
 refine K4 @ae @Mem.get_push_new @aC @ar (hT _) ?_
 obtain⟨b6,aD⟩:∃b,b=M1.size:=⟨_,rfl⟩
 obtain⟨M2,aa⟩:∃M2,M2=(M1.push (.cells false s2 noHead.cells)).set M1.size (some (.cells false s2 H.cells)):=⟨_,rfl⟩
 rw[←aa,←aD]
 have g6:M2.get b6=some (.cells false s2 H.cells):=by rw[aa,aD];exact Mem.get_set_same (Mem.get_push_new _ _) _
 have az:More M1 M2:=⟨fun b x hb=>by
  have:=Mem.get_lt hb
  rw[aa,Mem.get_set_ne (by omega),Mem.get_push_old this];exact hb,by rw[aa,Mem.size_set,Mem.size_push];omega⟩
 refine J0 (R1 @aj ?_)
 refine K0 (tk _) ?_
 refine J0 (R7 @g6 @aA @aG @am @Mem.get_push_new @O @I ?_)
 obtain⟨aM,ag⟩:∃b,b=M2.size:=⟨_,rfl⟩
 obtain⟨M3,ac⟩:∃M3,M3=(M2.push (.cells false s1 noExt.cells)).set M2.size (some (.cells false s1 (Ext.mk H n).cells)):=⟨_,rfl⟩
 rw[←ac,←ag]
 have au:M3.get aM=some (.cells false s1 (Ext.mk H n).cells):=by rw[ac,ag];exact Mem.get_set_same (Mem.get_push_new _ _) _
 have av:More M2 M3:=⟨fun b x hb=>by
  have:=Mem.get_lt hb
  rw[ac,Mem.get_set_ne (by omega),Mem.get_push_old this];exact hb,by rw[ac,Mem.size_set,Mem.size_push];omega⟩
 have a8:=av.get _ _ (az.get _ _ g2)
 have mo:=(ab.trans az).trans av
 obtain⟨aE,aq⟩:=a7 M3 noExt noExt a8 mo
 obtain⟨gs,ms⟩:=a7 M3 (Ext.mk H n) noExt a8 mo
 refine J0 (J0 (J1 ?_))
 rcases Z with Z|Z
 case inr=>
  rw[if_pos (.inl (by rw[Z];decide))]at U
  rw[Z]
  subst U
  refine S1 @aF ?_
  refine CT (J0 (R4 @Y @a8 @O @I ?_))
  refine T3 @Q4 @aE @E ?_
  exact⟨_,tR _,aq⟩
 rw[Z]at U ⊢
 refine S3 @ax @au @E ?_
 refine⟨by kernel_rfl,_,ccheck_at (Ext.mk H n) _,?_⟩
 rintro _ M9 ⟨rfl,e9⟩;replace e9:=e9.symm;subst e9
 by_cases hq:JC (Ext.mk H n)=true
 ·have ec:(Ext.mk H n).checkI=0:=by unfold Ext.checkI;rw[if_pos hq]
  rw[if_neg (by rintro(h3|h3);exact h3 rfl;rw[hq]at h3;cases h3)]at U
  subst U
  rw[ec]
  refine S1 @ax ?_
  refine CF (J3 ?_)
  simp only[zZ,reduceIte,yQ,yW,yX,yZ,yJ,yK,yV]
  refine J0 (R5 @au @E @a8 @O @I ?_)
  refine T3 @Q4 @gs @E ?_
  exact⟨_,tR _,ms⟩
 ·have ec:(Ext.mk H n).checkI=1:=by unfold Ext.checkI;rw[if_neg hq]
  rw[if_pos (.inr (by simpa using hq))]at U
  subst U
  rw[ec]
  refine S1 @aI ?_
  refine CT (J0 (R4 @Y @a8 @O @I ?_))
  refine T3 @Q4 @aE @E ?_
  exact⟨_,tR _,aq⟩
theorem ctake_at(s:List UInt8)(hs:s.length=256)(m:Mem):
 Abs.Spec qd 43 [.string (str s)] m fun u M=>u=.tuple #[.agg (Xd s).1.cells.toArray,.int .i64 (Xd s).2]∧M=m:=
 Abs.Spec.of_empty (by intro x hx;simp at hx;subst hx;rfl) rfl ((ctake_spec s hs ⟨[]⟩).mono fun _ _ h=>h.1) m
theorem jblank_at(s:List UInt8)(hs:s.length≤1000000)(m:Mem):
 Abs.Spec qd 92 [.string (str s)] m fun u M=>u=.bool (decide (JL s=[]))∧M=m:=by
 refine Uz Tryz.func92 Tryz.results92 Tryz.ntmps92 fun hc hx k=>?_
 refine J0 (R0 ?_)
 refine J0 (R0 ?_)
 refine K1 @beq_nilS (UG (str s) 0 (by decide) (by show s.length≤_;omega) _) ?_
 refine T0 ?_
 exact⟨_,tR _,rfl,rfl⟩
def Rec.may(r:Rec):Bool:=JC r.x&&decide ((r.got.length:Int)=r.x.head.n)
def Rec.checkI(r:Rec):Int:=if r.may=true then 0 else 1
theorem rec_checkI_of(r:Rec):r.checkI=if decide (r.x.head.check≠0)||decide (r.x.base<0)||decide (r.x.base>1024-r.x.head.n)||((r.got.length:Int) !=r.x.head.n)then 1 else 0:=by
 unfold Rec.checkI Rec.may JC Header.may
 by_cases h1:r.x.head.check=0<;>by_cases h2:r.x.base<0<;>by_cases h3:r.x.base>1024-r.x.head.n<;>by_cases h4:(r.got.length:Int)=r.x.head.n<;>simp[h1,h2,h3,h4]<;>omega
theorem jcheck_spec(r:Rec)(m:Mem):
 Abs.Spec qd 95 [.agg r.cells.toArray] m fun u M=>u=.int .i64 r.checkI∧More m M:=by
 refine Uz Tryz.func95 Tryz.results95 Tryz.ntmps95 fun hc hx k=>?_
 have bx:QU qd 88 (.agg r.cells.toArray)=some (.cells false (J6 qd 88) r.cells):=bx_Rec _ rfl
 generalize J6 qd 88=s1 at bx
 have row:Js 7 0 (some (.cells false s1 r.cells))=some (.agg r.x.head.cells.toArray):=rfl
 have O:Js 5 8 (some (.cells false s1 r.cells))=some (QG r.got):=rfl
 have Z:cellIn 7 (some (.cells false s1 r.cells))=some (.int .i64 r.x.base):=rfl
 have k2:cellIn 2 (some (.cells false s1 r.cells))=some (.int .i64 r.x.head.n):=rfl
 have I:((0:Int) !=0)=false:=rfl
 have a8:((1:Int) !=0)=true:=rfl
 obtain⟨M1,U⟩:∃M1,M1=m.push (.cells false s1 r.cells):=⟨_,rfl⟩
 have mo:More m M1:=by rw[U];exact More.push _ _
 have Y:M1.get m.size=some (.cells false s1 r.cells):=by rw[U,Mem.get_push_new]
 obtain⟨c,E⟩:∃c,c=r.checkI:=⟨_,rfl⟩
 rw[←E]
 rw[rec_checkI_of]at E
 refine J0 (R1 @bx ?_)
 rw[←U]
 have e0:∀(a:Bool),a=true→decide (r.x.head.check≠0)=a→c=1:=fun a h1 h2=>by rw[E,h2,h1];rfl
 rcases Vm r.x.head with e|e
 case inr=>
  refine J0 (J0 (D2 30 @Y @row ?_))
  refine⟨by kernel_rfl,_,hcheck_at r.x.head _,?_⟩
  rw[e]at E ⊢
  refine S2 @a8 @Z ?_
  obtain rfl:c=1:=by rw[E];rfl
  refine CT (J0 (R0 ?_))
  refine T0 ?_
  exact⟨_,tR _,mo⟩
 have hn:=Vh (r.x.head.check_zero.1 e)
 have w1:IntKind.i64.wrap (1024-r.x.head.n)=1024-r.x.head.n:=Xn (by omega) (by omega)
 refine J0 (J0 (D2 30 @Y @row ?_))
 refine⟨by kernel_rfl,_,hcheck_at r.x.head _,?_⟩
 rw[e]at E ⊢
 cases p1:decide (r.x.base<0)
 case true=>
  refine S4 @I @Z @Y @p1 ?_
  obtain rfl:c=1:=by rw[E,p1];rfl
  refine CT (J0 (R0 ?_))
  refine T0 ?_
  exact⟨_,tR _,mo⟩
 cases p2:decide (r.x.base>1024-r.x.head.n)
 case true=>
  refine S7 @I @Z @k2 @Y @p1 @w1 @p2 ?_
  obtain rfl:c=1:=by rw[E,p1,p2];rfl
  refine CT (J0 (R0 ?_))
  refine T0 ?_
  exact⟨_,tR _,mo⟩
 refine S8 @I @Z @k2 @Y @p1 @w1 @p2 @O ?_
 rw[p1,p2]at E
 refine⟨by kernel_rfl,_,size_at r.got _,?_⟩
 refine S8 @I @Z @k2 @Y @p1 @w1 @p2 @O ?_
 refine CC ((r.got.length:Int) !=r.x.head.n) (fun h=>J0 (J1 ?_)) (fun h=>J3 ?_)
 ·obtain rfl:c=1:=by rw[E,h];rfl
  refine S0 ?_
  refine T0 ?_
  exact⟨_,tR _,mo⟩
 ·obtain rfl:c=0:=by rw[E,h];rfl
  simp only[zZ,reduceIte,yQ,yW,yX,yZ,yJ,yK,yV]
  refine J0 (R0 ?_)
  refine T0 ?_
  exact⟨_,tR _,mo⟩
theorem jcheck_at(r:Rec)(m:Mem):
 Abs.Spec qd 95 [.agg r.cells.toArray] m fun u M=>u=.int .i64 r.checkI∧M=m:=
 Abs.Spec.of_empty (by intro x hx;simp at hx;subst hx;rfl) rfl ((jcheck_spec r ⟨[]⟩).mono fun _ _ h=>h.1) m
def recT(r:Rec):ByteArray:=if r.may=true then str (JW r)else⟨#[]⟩
theorem jput_spec(r:Rec)(m:Mem):
 Abs.Spec qd 73 [.agg r.cells.toArray] m fun u M=>u=.tuple #[.string (recT r),.int .i64 r.checkI]∧More m M:=by
 refine Uz Tryz.func73 Tryz.results73 Tryz.ntmps73 fun hc hx k=>?_
 have bx:QU qd 88 (.agg r.cells.toArray)=some (.cells false (J6 qd 88) r.cells):=bx_Rec _ rfl
 generalize J6 qd 88=s1 at bx
 have O:Js 13 0 (some (.cells false s1 r.cells))=some (.agg r.cells.toArray):=rfl
 have row:Js 7 0 (some (.cells false s1 r.cells))=some (.agg r.x.head.cells.toArray):=rfl
 have a2:Js 5 8 (some (.cells false s1 r.cells))=some (QG r.got):=rfl
 have k7:cellIn 7 (some (.cells false s1 r.cells))=some (.int .i64 r.x.base):=rfl
 have ac:((0:Int) !=0)=false:=rfl
 have ab:((1:Int) !=0)=true:=rfl
 obtain⟨M1,U⟩:∃M1,M1=m.push (.cells false s1 r.cells):=⟨_,rfl⟩
 have mo:More m M1:=by rw[U];exact More.push _ _
 have g1:M1.get m.size=some (.cells false s1 r.cells):=by rw[U,Mem.get_push_new]
 obtain⟨c,Y⟩:∃c,c=recT r:=⟨_,rfl⟩
 rw[←Y]
 refine J0 (R1 @bx ?_)
 rw[←U]
 refine J0 (J0 (R2 @g1 @O ?_))
 refine K0 (jcheck_at r _) ?_
 unfold recT at Y
 by_cases hm:r.may=true
 ·have e:r.checkI=0:=by unfold Rec.checkI;rw[if_pos hm]
  rw[if_pos hm]at Y
  rw[e]
  have aa:JC r.x=true:=by unfold Rec.may at hm;rw[qq]at hm;exact hm.1
  have a6:=(Kk aa).1
  have e0:=r.x.head.check_zero.2 a6
  have ep:putT r.x.head=str (JP r.x.head):=by unfold putT;rw[if_pos e0]
  have hl:=Kp a6
  have Z:JB (str markJ)+JB (str (JP r.x.head))≤4611686018427387904:=by
   show 4+(JP r.x.head).length≤_
   omega
  have E:JB (str (markJ++JP r.x.head))+JB (str (Sha.fixed r.x.base 2))≤4611686018427387904:=by
   show(markJ++JP r.x.head).length+(Sha.fixed r.x.base 2).length≤_
   rw[qh,Sha.fixed_length,hl]
   decide
  have I:JB (str (markJ++JP r.x.head++Sha.fixed r.x.base 2))+JB (str (XP r.got))≤4611686018427387904:=by
   show(markJ++JP r.x.head++Sha.fixed r.x.base 2).length+(XP r.got).length≤_
   rw[qh,qh,Sha.fixed_length,hl,U9]
   decide
  refine J0 (R1 @ac ?_)
  refine CF (J3 ?_)
  simp only[zZ,reduceIte,yQ,yW,yX,yZ,yJ,yK,yV]
  refine J0 (R2 @g1 @row ?_)
  refine K1 @ep (hput_at r.x.head _) ?_
  refine J0 (D0 10 ?_)
  refine⟨Z,?_⟩
  refine S2 @g1 @k7 ?_
  refine⟨by kernel_rfl,_,Ku r.x.base 2 (by omega) (by omega) _,?_⟩
  refine S0 ?_
  refine⟨E,?_⟩
  refine S2 @g1 @a2 ?_
  refine⟨by kernel_rfl,_,sput_at r.got _,?_⟩
  refine S0 ?_
  refine⟨I,?_⟩
  refine T0 ?_
  exact⟨_,tR _,by rw[Y];rfl,mo⟩
 ·have e:r.checkI=1:=by unfold Rec.checkI;rw[if_neg hm]
  rw[if_neg hm]at Y
  rw[e]
  refine J0 (R1 @ab ?_)
  refine CT (J0 (R0 ?_))
  refine T0 ?_
  exact⟨_,tR _,by rw[Y],mo⟩
theorem jput_at(r:Rec)(m:Mem):
 Abs.Spec qd 73 [.agg r.cells.toArray] m fun u M=>u=.tuple #[.string (recT r),.int .i64 r.checkI]∧M=m:=
 Abs.Spec.of_empty (by intro x hx;simp at hx;subst hx;rfl) rfl ((jput_spec r ⟨[]⟩).mono fun _ _ h=>h.1) m
theorem setTake_02(n:Nat)(t:List UInt8):(QD n t).2=0∨(QD n t).2=2:=by unfold QD;split<;>simp
theorem setTake_len{n:Nat}{t:List UInt8}(h:(QD n t).2=0):(QD n t).1.length=n:=by
 unfold QD at h ⊢
 split at h
 ·exact absurd h (by decide)
 ·rename_i h2
  rw[if_neg h2];simp
theorem hdrT_ok{s:ByteArray}(h:(Vj s).2=0):(Vj s).1.okP:=by
 unfold Vj at h ⊢
 split at h
 ·rename_i h2
  rw[if_pos h2]
  exact(Zy s).check_zero.1 ((Vm _).resolve_right h2.2.2)
 ·exact absurd h (by decide)
theorem cutL_len{s:List UInt8}{a n:Nat}(h:a+n≤s.length):(QK s a n).length=n:=by
 unfold QK
 rw[qv,qj]
 omega
def jouTV(s:List UInt8):Value:=.tuple #[.agg (QQ s).1.cells.toArray,.int .i64 (QQ s).2]
theorem jtake_spec(s:List UInt8)(hs:s.length=256)(m:Mem):
 Abs.Spec qd 45 [.string (str s)] m fun u M=>u=jouTV s∧More m M:=by
 refine Uz Tryz.func45 Tryz.results45 Tryz.ntmps45 fun hc hx k=>?_
 have aB:Q5 qd 88=some (.cells false (J6 qd 88) noRec.cells):=al_Rec
 generalize J6 qd 88=s1 at aB
 have ak:Q5 qd 34=some (.cells false (J6 qd 34) noHead.cells):=al_Hdr
 generalize J6 qd 34=s2 at ak
 have al:Q5 qd 43=some (.cells false (J6 qd 43) (setCells [])):=al_Set
 generalize J6 qd 43=s3 at al
 have Y:Qm qd 88 []=some (.agg noRec.cells.toArray):=by kernel_rfl
 have aW:∀(h:Header)(b:Int),Qm qd 85 [(0,.agg h.cells.toArray),(1,.int .i64 b)]=some (.agg (Ext.mk h b).cells.toArray):=fun h b=>by kernel_rfl
 have b8:∀(x:Ext)(l:List Bool),Qm qd 88 [(0,.agg x.cells.toArray),(1,QG l)]=some (.agg (Rec.mk x l).cells.toArray):=fun x l=>by kernel_rfl
 have E:∀x:Rec,Js 13 0 (some (.cells false s1 x.cells))=some (.agg x.cells.toArray):=fun _=>rfl
 have aM:∀h:Header,Js 7 0 (some (.cells false s2 h.cells))=some (.agg h.cells.toArray):=fun _=>rfl
 have aT:∀l,Js 5 0 (some (.cells false s3 (setCells l)))=some (QG l):=fun _=>rfl
 have k2:∀h:Header,cellIn 2 (some (.cells false s2 h.cells))=some (.int .i64 h.n):=fun _=>rfl
 have O:∀x:Rec,(Value.agg x.cells.toArray).cells.toList=x.cells:=fun _=>rfl
 have aJ:∀h:Header,(Value.agg h.cells.toArray).cells.toList=h.cells:=fun _=>rfl
 have aV:∀l,(QG l).cells.toList=setCells l:=fun _=>rfl
 have I:∀(M0:Mem)(b:Nat)(x y:Rec),Ji 13 M0 b 0 y.cells (some (.cells false s1 x.cells))=some (M0.set b (some (.cells false s1 y.cells))):=fun _ _ _ _=>rfl
 have aE:∀(M0:Mem)(b:Nat)(x y:Header),Ji 7 M0 b 0 y.cells (some (.cells false s2 x.cells))=some (M0.set b (some (.cells false s2 y.cells))):=fun _ _ _ _=>rfl
 have aL:∀(M0:Mem)(b:Nat)(x y:List Bool),Ji 5 M0 b 0 (setCells y) (some (.cells false s3 (setCells x)))=some (M0.set b (some (.cells false s3 (setCells y)))):=fun _ _ _ _=>rfl
 have aA:((0:Int) !=0)=false:=rfl
 have bb:((1:Int) !=0)=true:=rfl
 have aU:((2:Int) !=0)=true:=rfl
 have b5:JB (str s)=256:=hs
 have ql:decide ((((256:Nat):Int))<136)=false:=rfl
 obtain⟨r,U⟩:∃r,r=QQ s:=⟨_,rfl⟩
 have hv:jouTV s=.tuple #[.agg r.1.cells.toArray,.int .i64 r.2]:=by rw[U];rfl
 rw[hv]
 clear hv
 unfold QQ at U
 obtain⟨M1,ah⟩:∃M1,M1=m.push (.cells false s1 noRec.cells):=⟨_,rfl⟩
 obtain⟨b2,aR⟩:∃b,b=m.size:=⟨_,rfl⟩
 have bA:M1.size=m.size+1:=by rw[ah,Mem.size_push]
 have g2:M1.get b2=some (.cells false s1 noRec.cells):=by rw[ah,aR,Mem.get_push_new]
 have ad:More m M1:=by rw[ah];exact More.push _ _
 have a6:∀(M:Mem)(x y:Rec),M.get b2=some (.cells false s1 y.cells)→More m M→(M.set b2 (some (.cells false s1 x.cells))).get b2=some (.cells false s1 x.cells)∧More m (M.set b2 (some (.cells false s1 x.cells))):=fun M x y hg hm=>
  ⟨Mem.get_set_same hg _,fun b z hb=>by
   have:=Mem.get_lt hb
   rw[Mem.get_set_ne (by omega)];exact hm.get b z hb,by rw[Mem.size_set];exact hm.size⟩
 refine J0 (R1 @aB ?_)
 rw[←ah,←aR]
 refine J0 (J7 (J0 (R0 ?_)))
 refine K0 (jblank_at s (by omega) _) ?_
 refine CC (decide (JL s=[])) (fun h=>J0 (J1 ?_)) (fun h=>?_)
 ·rw[if_pos (of_decide_eq_true h)]at U
  subst U
  refine S4 @Y @g2 @O @I ?_
  obtain⟨gs,ms⟩:=a6 M1 noRec noRec g2 ad
  refine T3 @Q4 @gs @E ?_
  exact⟨_,tR _,ms⟩
 rw[if_neg (of_decide_eq_false h)]at U
 have aO:Lib.hasPrefix (str s).data.toList (ByteArray.mk #[83,76,74,49]).data.toList=decide (s.take 4=markJ):=prefix4 s markJ rfl (by omega)
 have av:∀get,JX qd get 9 (.string (str s)) (some (.int .i64 136)) none=some (.string (str (s.drop 136))):=fun get=>ZK get s 136 (by omega)
 have bB:(s.drop 136).length=120:=by rw[qj,hs]
 have aK:=fun m=>hasPrefix_spec (str s) (ByteArray.mk #[83,76,74,49]) m
 rw[aO]at aK
 refine J0 (R2 @b5 @ql ?_)
 refine⟨by kernel_rfl,_,aK _,?_⟩
 rintro _ M9 ⟨rfl,e9⟩;replace e9:=e9.symm;subst e9
 cases hm:decide (s.take 4=markJ)
 case false=>
  rw[if_pos (.inl (of_decide_eq_false hm))]at U
  subst U
  refine S0 ?_
  refine CT (J0 (R4 @Y @g2 @O @I ?_))
  obtain⟨gs,ms⟩:=a6 M1 noRec noRec g2 ad
  refine T3 @Q4 @gs @E ?_
  exact⟨_,tR _,ms⟩
 have bp:=of_decide_eq_true hm
 refine S1 @av ?_
 refine K0 (jblank_at (s.drop 136) (by omega) _) ?_
 refine CC (!decide (JL (s.drop 136)=[])) (fun h2=>J0 (J1 ?_)) (fun h2=>J3 ?_)
 ·rw[if_pos (.inr (of_decide_eq_false (by simpa using h2)))]at U
  subst U
  refine S4 @Y @g2 @O @I ?_
  obtain⟨gs,ms⟩:=a6 M1 noRec noRec g2 ad
  refine T3 @Q4 @gs @E ?_
  exact⟨_,tR _,ms⟩
 have bc:JL (s.drop 136)=[]:=by simpa using h2
 rw[if_neg (by rintro(h3|h3);exact h3 bp;exact h3 bc)]at U
 have bz:(s.drop 4).length=252:=by rw[qj,hs]
 have bm:∀get,JX qd get 9 (.string (str s)) (some (.int .i64 4)) none=some (.string (str (s.drop 4))):=fun get=>ZK get s 4 (by omega)
 have aQ:∀get,JX qd get 9 (.string (str (s.drop 4))) none (some (.int .i64 98))=some (.string (str (QK s 4 98))):=fun get=>XY get (str (s.drop 4)) 98 (by rw[str_size];omega)
 have aw:∀get,JX qd get 9 (.string (str (s.drop 4))) (some (.int .i64 98)) none=some (.string (str (s.drop 102))):=fun get=>by
  have:=ZK get (s.drop 4) 98 (by omega)
  rw[qS]at this
  exact this
 have bl:(s.drop 102).length=154:=by rw[qj,hs]
 have bk:(s.drop 104).length=152:=by rw[qj,hs]
 have an:∀get,JX qd get 9 (.string (str (s.drop 104))) none (some (.int .i64 32))=some (.string (str (QK s 104 32))):=fun get=>XY get (str (s.drop 104)) 32 (by rw[str_size];omega)
 have tk:=fun m=>take_spec (str (s.drop 102)) 2 (by decide) (by decide) (by rw[str_size];omega) (by rw[str_size];omega) m
 have bg:Sha.num ((str (s.drop 102)).data.toList.take 2)=Sha.num (QK s 102 2):=rfl
 have bh:(str (s.drop 102)).data.toList.drop 2=s.drop 104:=by show(s.drop 102).drop 2=_;rw[qS]
 have Z:=hdrT_02 (str (QK s 4 98))
 have ao:=fun h=>hdrT_ok (s:=str (QK s 4 98)) h
 have hT:=fun m=>htake_at2 (str (QK s 4 98)) m
 have aX:(QK s 104 32).length=32:=cutL_len (by omega)
 obtain⟨H,hH⟩:∃H,H=(Vj (str (QK s 4 98))).1:=⟨_,rfl⟩
 obtain⟨e,he⟩:∃e,e=(Vj (str (QK s 4 98))).2:=⟨_,rfl⟩
 obtain⟨n,hn⟩:∃n:Int,n=(Sha.num (QK s 102 2):Nat):=⟨_,rfl⟩
 obtain⟨t,ht⟩:∃t,t=QK s 104 32:=⟨_,rfl⟩
 rw[←hH,←he,←hn,←ht]at U
 rw[←he]at Z
 rw[←hH,←he]at ao
 rw[←ht]at aX
 simp only[←hH,←he]at hT
 simp only[bg,bh,←hn]at tk
 simp only[←ht]at an
 simp only[zZ,reduceIte,yQ,yW,yX,yZ,yJ,yK,yV]
 refine J0 (R1 @bm ?_)
 refine J0 (R1 @aQ ?_)
 refine K4 @ak @Mem.get_push_new @aJ @aE (hT _) ?_
 obtain⟨b6,aN⟩:∃b,b=M1.size:=⟨_,rfl⟩
 obtain⟨M2,aj⟩:∃M2,M2=(M1.push (.cells false s2 noHead.cells)).set M1.size (some (.cells false s2 H.cells)):=⟨_,rfl⟩
 rw[←aj,←aN]
 have g6:M2.get b6=some (.cells false s2 H.cells):=by rw[aj,aN];exact Mem.get_set_same (Mem.get_push_new _ _) _
 have aY:More M1 M2:=⟨fun b x hb=>by
  have:=Mem.get_lt hb
  rw[aj,Mem.get_set_ne (by omega),Mem.get_push_old this];exact hb,by rw[aj,Mem.size_set,Mem.size_push];omega⟩
 have ay:=aY.get _ _ g2
 have aS:=ad.trans aY
 rcases Z with Z|Z
 case inr=>
  rw[if_pos (.inl (by rw[Z];decide))]at U
  rw[Z]
  subst U
  obtain⟨af,ac⟩:=a6 M2 noRec noRec ay aS
  refine J0 (J0 (R1 @aU ?_))
  refine CT (J0 (R4 @Y @ay @O @I ?_))
  refine T3 @Q4 @af @E ?_
  exact⟨_,tR _,ac⟩
 have bd:=ao Z
 have bF:=Vh bd
 obtain⟨q,hq⟩:∃q:Nat,H.n=(q:Int):=⟨H.n.toNat,by omega⟩
 have aI:=fun m=>stake_at q (by omega) t aX m
 have a2:=setTake_02 q t
 have aq:=fun h=>setTake_len (n:=q) (t:=t) h
 rw[Z,hq,qk]at U
 obtain⟨L,hL⟩:∃L,L=(QD q t).1:=⟨_,rfl⟩
 obtain⟨e2,ab⟩:∃e,e=(QD q t).2:=⟨_,rfl⟩
 rw[←hL,←ab]at U
 rw[←ab]at a2
 rw[←ab,←hL]at aq
 simp only[←hL,←ab]at aI
 rw[Z]
 refine J0 (J0 (R1 @aA ?_))
 refine CF (J3 ?_)
 simp only[zZ,reduceIte,yQ,yW,yX,yZ,yJ,yK,yV]
 refine J0 (R1 @aw ?_)
 refine K0 (tk _) ?_
 refine J0 (CW_draw4 hmix 9 [7] (by kernel_rfl) ?_)
 simp only[sQB,Zx,List.getElem?_cons_succ,List.getElem?_cons_zero,Option.bind_some,zZ,reduceIte,yQ,yW,yX,yZ,yJ,yK,yV,zDk,Jc,Jb,Ja,J9,g6,k2,hq,an]
 refine⟨by kernel_rfl,_,aI _,?_⟩
 simp only[sQB,Zx,List.getElem?_cons_succ,List.getElem?_cons_zero,Option.bind_some,zZ,reduceIte,yQ,yW,yX,yZ,yJ,yK,yV,zDk,Jc,Jb,Ja,J9,al,Mem.get_push_new,aV,aL]
 refine⟨⟨_,rfl,rfl⟩,?_⟩
 obtain⟨b9,aP⟩:∃b,b=M2.size:=⟨_,rfl⟩
 obtain⟨M3,ai⟩:∃M3,M3=(M2.push (.cells false s3 (setCells []))).set M2.size (some (.cells false s3 (setCells L))):=⟨_,rfl⟩
 rw[←ai,←aP]
 have g9:M3.get b9=some (.cells false s3 (setCells L)):=by rw[ai,aP];exact Mem.get_set_same (Mem.get_push_new _ _) _
 have ar:More M2 M3:=⟨fun b x hb=>by
  have:=Mem.get_lt hb
  rw[ai,Mem.get_set_ne (by omega),Mem.get_push_old this];exact hb,by rw[ai,Mem.size_set,Mem.size_push];omega⟩
 have bq:=ar.get _ _ g6
 have bn:=ar.get _ _ ay
 refine J0 (J1 ?_)
 simp only[zZ,reduceIte,yQ,yW,yX,yZ,yJ,yK,yV,zDk,Jc,Jb,Ja,J9,bq,g9,aM,aT,aW,b8,aB,Mem.get_push_new,O,I]
 obtain⟨bj,ap⟩:∃b,b=M3.size:=⟨_,rfl⟩
 obtain⟨M4,ag⟩:∃M4,M4=(M3.push (.cells false s1 noRec.cells)).set M3.size (some (.cells false s1 (Rec.mk (Ext.mk H n) L).cells)):=⟨_,rfl⟩
 rw[←ag,←ap]
 have aG:M4.get bj=some (.cells false s1 (Rec.mk (Ext.mk H n) L).cells):=by rw[ag,ap];exact Mem.get_set_same (Mem.get_push_new _ _) _
 have aF:More M3 M4:=⟨fun b x hb=>by
  have:=Mem.get_lt hb
  rw[ag,Mem.get_set_ne (by omega),Mem.get_push_old this];exact hb,by rw[ag,Mem.size_set,Mem.size_push];omega⟩
 have a8:=aF.get _ _ bn
 have mo:=(aS.trans ar).trans aF
 obtain⟨af,ac⟩:=a6 M4 noRec noRec a8 mo
 obtain⟨gs,ms⟩:=a6 M4 (Rec.mk (Ext.mk H n) L) noRec a8 mo
 refine J0 (J0 (J1 ?_))
 rcases a2 with a2|a2
 case inr=>
  rw[if_pos (.inr (.inr (by rw[a2];decide)))]at U
  rw[a2]
  subst U
  refine S1 @aU ?_
  refine CT (J0 (R4 @Y @a8 @O @I ?_))
  refine T3 @Q4 @af @E ?_
  exact⟨_,tR _,ac⟩
 have b7:=aq a2
 rw[a2]at U ⊢
 refine S3 @aA @aG @E ?_
 refine⟨by kernel_rfl,_,jcheck_at (Rec.mk (Ext.mk H n) L) _,?_⟩
 rintro _ M9 ⟨rfl,e9⟩;replace e9:=e9.symm;subst e9
 by_cases hq2:JC (Ext.mk H n)=true
 ·have ec:(Rec.mk (Ext.mk H n) L).checkI=0:=by
   unfold Rec.checkI Rec.may
   rw[if_pos]
   show(JC (Ext.mk H n)&&decide ((L.length:Int)=H.n))=true
   rw[hq2,hq,b7];simp
  rw[if_neg (by rintro(h3|h3|h3);exact h3 rfl;rw[hq2]at h3;cases h3;exact h3 rfl)]at U
  subst U
  rw[ec]
  refine S1 @aA ?_
  refine CF (J3 ?_)
  simp only[zZ,reduceIte,yQ,yW,yX,yZ,yJ,yK,yV]
  refine J0 (R5 @aG @E @a8 @O @I ?_)
  refine T3 @Q4 @gs @E ?_
  exact⟨_,tR _,ms⟩
 ·have ec:(Rec.mk (Ext.mk H n) L).checkI=1:=by
   unfold Rec.checkI Rec.may
   rw[if_neg]
   show¬(JC (Ext.mk H n)&&decide ((L.length:Int)=H.n))=true
   rw[qq]
   exact fun h=>hq2 h.1
  rw[if_pos (.inr (.inl (by simpa using hq2)))]at U
  subst U
  rw[ec]
  refine S1 @bb ?_
  refine CT (J0 (R4 @Y @a8 @O @I ?_))
  refine T3 @Q4 @af @E ?_
  exact⟨_,tR _,ac⟩
theorem jtake_at(s:List UInt8)(hs:s.length=256)(m:Mem):
 Abs.Spec qd 45 [.string (str s)] m fun u M=>u=.tuple #[.agg (QQ s).1.cells.toArray,.int .i64 (QQ s).2]∧M=m:=
 Abs.Spec.of_empty (by intro x hx;simp at hx;subst hx;rfl) rfl ((jtake_spec s hs ⟨[]⟩).mono fun _ _ h=>h.1) m
end Go.Proofs.YthohbneadomgdaaGreatDoor
